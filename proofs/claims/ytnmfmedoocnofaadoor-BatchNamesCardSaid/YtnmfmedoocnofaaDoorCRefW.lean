/-
  The contracts of wire's and the document's readers and writers, for this seat (out of the wire seat's texts): no statement of the seat is proved here.
-/
import Derived.Test.YtnmfmedoocnofaaDoorCPlain
import Derived.Test.YtnmfmedoocnofaaDoorBase
import Derived.Deep.RegionWith
import Derived.Deep.RegionHeld3
namespace Go.Proofs.YtnmfmedoocnofaaDoor
open Go.RowKit

theorem cat_two (a b : List UInt8) : ((⟨a.toArray⟩ : ByteArray) ++ (⟨b.toArray⟩ : ByteArray)) = ⟨(a ++ b).toArray⟩ := by
  apply ByteArray.ext
  simp
theorem byteN_mod' (n : Nat) : UInt8.ofNat (n % 256) = byteN n := by
  have : (UInt8.ofNat (n % 256)).toNat = (byteN n).toNat := by rw [byteN_toNat, UInt8.toNat_ofNat']; omega
  exact UInt8.toNat_inj.1 this
theorem run_one_text (W : World) (g : Nat) (z : Int) (h : W.heap[g]? = some (.cells #[.int .u8 z] 5 (0, 0))) :
    (convert 67 9 (.slice (some ⟨g, 0, none⟩) 1 1)).run Tryd.prog W = .ok (.string ⟨#[UInt8.ofNat z.toNat]⟩) W := by
  have hown : Own W 5 1 (.slice (some ⟨g, 0, none⟩) 1 1) 1 [.int .u8 z] := ⟨rfl, .inr ⟨g, 1, _, rfl, Nat.zero_le _, h, by decide, by decide, rfl, rfl⟩⟩
  rw [run_convert_bytes_string W 67 9 5 _ _ _ Tryd.underlying67 Tryd.underlying5 Tryd.underlying9]
  have hload := run_loadCells_list (P := Tryd.prog) W ⟨g, 0, none⟩ [.int .u8 z] (hown.cells (g := g) rfl)
  rw [run_bytesToString W ⟨g, 0, none⟩ 1 1 [z] hload]
  rfl
theorem run_one_new (w : World) (z : Int) :
    (convert 67 9 (.slice (some ⟨w.heap.size, 0, none⟩) 1 1)).run Tryd.prog (w.alloc (.cells #[.int .u8 z] 5)) = .ok (.string ⟨#[UInt8.ofNat z.toNat]⟩) (w.alloc (.cells #[.int .u8 z] 5)) :=
  run_one_text _ _ _ (Go.heap_alloc_new _ _)
theorem run_one_drew (w : World) (z : Int) :
    (convert 67 9 (.slice (some ⟨w.heap.size, 0, none⟩) 1 1)).run Tryd.prog (w.drew.alloc (.cells #[.int .u8 z] 5)) = .ok (.string ⟨#[UInt8.ofNat z.toNat]⟩) (w.drew.alloc (.cells #[.int .u8 z] 5)) :=
  run_one_text _ _ _ (Go.heap_alloc_new w.drew _)
theorem run_one_ad (w : World) (z : Int) :
    (convert 67 9 (.slice (some ⟨w.heap.size, 0, none⟩) 1 1)).run Tryd.prog (w.alloc (.cells #[.int .u8 z] 5)).drew = .ok (.string ⟨#[UInt8.ofNat z.toNat]⟩) (w.alloc (.cells #[.int .u8 z] 5)).drew :=
  run_one_text _ _ _ (Go.heap_alloc_new w _)
attribute [local go_sem ↓] run_one_new run_one_drew run_one_ad

theorem short_small (n : Nat) (w : World) (hn : n < 128) (k : Nat) :
    Calls Tryd.prog 54 #[.int .u64 n] w fun e w' => e = .returned (strV (shortF (k + 1) n)) ∧ Fr No w w' := by
  rw [shortF, if_pos hn]
  unfold strV
  have hd : decide ((n : Int) < 128) = true := by simp; omega
  have hb : IntKind.u8.wrap (n : Int) = (n : Int) := IntWalk.u8_in _ (by omega)
  go_enter Tryd.func54, Tryd.ntmps54
  go_wp2_with fail
  go_ret
  exact ⟨rfl, (Fr.refl w).alloc _⟩

set_option maxHeartbeats 1000000 in
set_option maxRecDepth 100000 in
theorem refShortF (k : Nat) : ∀ (n : Nat) (w : World), n < 128 ^ (k + 1) → n ≤ 18446744073709551615 → k ≤ 100 →
    Calls Tryd.prog 54 #[.int .u64 n] w fun e w' => e = .returned (strV (shortF (k + 1) n)) ∧ Fr No w w' := by
  induction k with
  | zero =>
    intro n w hn hm hk
    simp at hn
    exact short_small n w hn 0
  | succ k ih =>
    intro n w hn hm hk
    by_cases hlt : n < 128
    · exact short_small n w hlt (k + 1)
    · have H := hid (fun w1 => ih (n / 128) w1 (by rw [Nat.pow_succ] at hn; omega) (by omega) (by omega))
      rw [shortF, if_neg hlt]
      have hd : decide ((n : Int) < 128) = false := by simp; omega
      have ht : (shortF (k + 1) (n / 128)).length ≤ 200 := Nat.le_trans (shortF_length_le _ _) (by omega)
      generalize shortF (k + 1) (n / 128) = t at H ht ⊢
      unfold strV at *
      have HM := hid hm
      clear ih hn hm hlt
      go_enter Tryd.func54, Tryd.ntmps54
      go_wp2_with fail
      have hq : IntKind.u64.wrap ((n : Int) / 128) = ((n / 128 : Nat) : Int) := by rw [IntWalk.u64_in _ (by have := HM.out; omega)]; omega
      have h8 : UInt8.ofNat (IntKind.u8.wrap (IntKind.u8.wrap ((n : Int).tmod 128) + 128)).toNat = byteN (n % 128 + 128) := by
        rw [Int.tmod_eq_emod_of_nonneg (by omega)]
        have e1 : IntKind.u8.wrap ((n : Int) % 128) = ((n % 128 : Nat) : Int) := by rw [IntWalk.u8_in _ (by omega)]; omega
        rw [e1, IntWalk.u8_in _ (by omega)]
        rfl
      rw [← hq] at H
      have h8' := hid h8
      replace hq := hid hq
      clear h8
      have HB := hid (fun w1 (hf : Fr No (w.alloc (.cells #[.int .u8 (IntKind.u8.wrap (IntKind.u8.wrap ((n : Int).tmod 128) + 128))] 5)).drew w1) => run_one_text w1 w.heap.size _ (hf.heap0 (Go.heap_alloc_new w _)))
      go_region_with (first
        | (refine (H.out _).mono ?_; rintro e1 w1 ⟨rfl, hf1⟩; first | (have hh := HB.out _ hf1) | skip))
      all_goals go_wp2
      all_goals go_ret
      all_goals refine ⟨congrArg (fun z => Ending.returned (.string z)) ((congrArg (fun c => (⟨#[c]⟩ : ByteArray) ++ ⟨t.toArray⟩) (by first | rfl | exact (UInt8.ofNat_add _ _).symm)).trans (cat_two [byteN (n % 128 + 128)] t)), ?_⟩
      all_goals first
        | exact ((Fr.refl w).alloc _).drew.trans hf1
        | exact ((Fr.refl w).drew.trans hf1).alloc _

theorem refShort_any (n : Nat) (w : World) (hn : n ≤ 18446744073709551615) :
    Calls Tryd.prog 54 #[.int .u64 n] w fun e w' => e = .returned (strV (shortB n)) ∧ Fr No w w' :=
  refShortF 9 n w (Nat.lt_of_le_of_lt hn (by decide)) hn (by decide)


theorem refText_any (s : List UInt8) (w : World) (hs : s.length ≤ 9000000000000000000) :
    Calls Tryd.prog 82 #[strV s] w fun e w' => e = .returned (strV (textB s)) ∧ Fr No w w' := by
  have H := hid (fun w1 => refShort_any s.length w1 (by omega))
  have hl := shortB_length_le s.length
  unfold textB
  have hcat := cat_two (shortB s.length) s
  generalize shortB s.length = t at H hl hcat ⊢
  unfold strV at *
  have hq : IntKind.u64.wrap (s.length : Int) = (s.length : Int) := wrapU64 _ (by omega)
  go_enter Tryd.func82, Tryd.ntmps82
  go_wp2_with (first
    | (go_at_call 54; refine (H.out _).mono ?_; rintro e1 w1 ⟨rfl, hf1⟩))
  go_ret
  exact ⟨congrArg (fun z => Ending.returned (.string z)) hcat, hf1⟩

end Go.Proofs.YtnmfmedoocnofaaDoor
