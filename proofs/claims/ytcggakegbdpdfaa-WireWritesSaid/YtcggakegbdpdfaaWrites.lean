/-
  WireWrites: the walk.
-/
import Derived.Test.YtcggakegbdpdfaaRefW2
namespace Go.Proofs.Ytcggakegbdpdfaa
open Go.RowKit

def WritesRel (w : World) (B : Nat) (l : List It) (i : Nat) (wr : World) : Prop :=
  ∃ o, WrAt wr B o (catB l i) ∧ Fr No w wr ∧ w.heap.size ≤ B ∧ (∀ g, o = some g → w.heap.size ≤ g)
theorem writes_step {w wr w2 w3 : World} {B : Nat} {l : List It} {i : Nat} {x : It} {o : Option Nat} (hx : l[i]? = some x)
    (h3 : Fr No w wr) (h4 : w.heap.size ≤ B) (h5 : ∀ g, o = some g → w.heap.size ≤ g) (hq : Wrote wr w2 B o (catB l i ++ itB x)) (hf : Fr No w2 w3) :
    WritesRel w B l (i + 1) w3 := by
  obtain ⟨o', ha, hf2, hno⟩ := hq
  rw [← catB_succ l i x hx] at ha
  refine ⟨o', ha.fr hf id (fun _ _ => id), (h3.newOnlyO h4 h5 hf2).trans hf, h4, fun g hg => ?_⟩
  rcases hno with rfl | hno
  · exact h5 g hg
  · exact Nat.le_trans h3.size (hno g hg)

set_option maxHeartbeats 2000000 in
set_option maxRecDepth 100000 in
theorem wireWrites_any (p : Option Addr) (l : List It) (cap : Nat) (w : World) (hl : l.length ≤ 9223372036854775807) (h : ItsAt w p l) :
    Calls Try.prog 4 #[.slice p l.length cap] w fun e w' => e = .returned (.bool true) ∧ Fr No w w' := by
  have K := hid (fun w1 => works_any w1)
  have HV := hid (heavy_any [] p l cap w (by simp) hl h)
  have HI := hid h
  have HL := hid hl
  unfold strV at HV
  clear h hl
  go_enter Try.func4, Try.ntmps4
  go_wp2_with (first
    | (go_at_call 9; refine (K.out _).mono ?_; rintro e1 w1 ⟨rfl, hf1⟩)
    | (go_at_call 12; refine (HV.out).mono ?_; rintro e2 w2 ⟨⟨hv, rfl, htot⟩, rfl⟩; cases hv))
  rotate_left 1
  · go_ret
    exact ⟨rfl, hf1⟩
  have ht : totL [] l < 20000 := htot trivial
  have HT := hid ht
  clear htot ht
  have HB0 : WritesRel w w.heap.size l 0 (w.alloc (.cells #[.slice none 0 0] 32)) :=
    ⟨none, by rw [catB_zero]; exact wr_new w, (Fr.refl w).alloc _, Nat.le_refl _, fun _ hg => (by cases hg)⟩
  generalize w.heap.size = B at HB0 ⊢
  go_loopw [4, 5] (fun v c wr => ∃ i : Nat, i ≤ l.length ∧ c = .int .i64 i ∧ v = .string ⟨(catB l i).toArray⟩ ∧ WritesRel w B l i wr) (fun _ c _ => l.length - (intOf c).toNat)
  case atStart => exact ⟨0, Nat.zero_le _, rfl, by rw [catB_zero], HB0⟩
  case round =>
    clear HB0
    obtain ⟨i, hi', rfl, rfl, o, h1, h3, h4, h5⟩ := hrel
    by_cases hlt : i < l.length
    · have hd : decide ((i : Int) < (l.length : Int)) = true := by simp; omega
      obtain ⟨x, hx⟩ : ∃ x, l[i]? = some x := ⟨_, List.getElem?_eq_getElem hlt⟩
      have hok := HI.out.ok x (List.mem_of_getElem? hx)
      obtain ⟨b, q, rfl, c0, c1, c2, c3⟩ := (HI.out.fr h3).at_ i x hx
      obtain ⟨b', q', e', k0, k1, k2, k3⟩ := HI.out.at_ i x hx
      simp only [Option.some.injEq, Addr.mk.injEq, and_true] at e'
      obtain ⟨rfl, rfl⟩ := e'
      unfold strV at c2 k2
      have hsm : x.s.length ≤ 20000 := by have := HT.out; have := mem_le l x (List.mem_of_getElem? hx); omega
      have P := hid (put_any B o x (catB l i) _ hok h1 (by have := HT.out; have := catB_le l i; omega))
      have BX := hid (fun w1 => bytesDoc_any x w1 hok (by omega))
      have ZX := hid (fun w1 => size_any x.n w1 hok.n)
      have SX := hid (fun w1 => refShort_any x.n w1 hok.n)
      have hA : (catB l i).length ≤ 20000 := by have := HT.out; have := catB_le l i; omega
      have hB : (itB x).length ≤ 30000 := by have := itB_length x; omega
      have hcat : ((⟨(catB l i).toArray⟩ : ByteArray) ++ ⟨(itB x).toArray⟩) = ⟨(catB l (i + 1)).toArray⟩ := by rw [cat_two, catB_succ l i x hx]
      unfold itV strV at P BX
      unfold strV at SX
      replace k0 := hid k0
      replace k1 := hid k1
      replace k2 := hid k2
      replace k3 := hid k3
      replace hcat := hid hcat
      go_upto_region 10 with (first
        | (go_at_call 13; refine P.out.mono ?_; rintro e2 w2 ⟨rfl, hq⟩
           obtain ⟨o', ha, hf2, hno⟩ := id hq
           have F2 := h3.newOnlyO h4 h5 hf2
           have d0 := F2.cell0 k0.out
           have d1 := F2.cell0 k1.out
           have d2 := F2.cell0 k2.out
           have d3 := F2.cell0 k3.out)
        | (go_at_call 14; refine (BX.out _).mono ?_; rintro e3 w3 ⟨rfl, hf3⟩))
      rw [hcat.out]
      have HR := hid (fun w' (hf : Fr No w3 w') => writes_step hx h3 h4 h5 hq (hf3.trans hf))
      rw [← catB_succ l i x hx] at ha
      have e1 := fun (y : Aft w3) => y.h.cell0 ((F2.trans hf3).cell0 k1.out)
      have LX : Hid (∀ y : Aft w3, Calls Try.prog 15 #[.pointer (some ⟨B, 0, none⟩)] y.val fun e w' => e = .returned (.int .i64 (catB l (i + 1)).length) ∧ Fr No y.val w') :=
        hid (fun y => (len_any B o' _ y.val (ha.fr (hf3.trans y.h) id (fun _ _ => id))).mono fun e w' ⟨he, hw⟩ => ⟨he, hw ▸ Fr.refl _⟩)
      have ZX2 : Hid (∀ y : Aft w3, Calls Try.prog 11 #[.int .u64 x.n] y.val fun e w' => e = .returned (.int .i64 (shortB x.n).length) ∧ Fr No y.val w') :=
        hid (fun y => (ZX.out y.val).mono fun e w' ⟨he, hw⟩ => ⟨he, hw ▸ Fr.refl _⟩)
      clear ha hq c0 c1 c2 c3 d0 d1 d2 d3 hf2 hno h1 h3 h4 h5 P BX
      refine wp_region_aft (by kernel_rfl) (by kernel_rfl) ?_
      repeat (go_big_quiet_step (first | (go_at_call 15; exact calls_aft (LX.out _)) | (go_at_call 11; exact calls_aft (ZX2.out _)) | (go_at_call 16; exact calls_aft (SX.out _))))
      refine wpQuiet_nil ?_
      rintro _ ⟨⟨w9, hf9⟩, rfl⟩
      try simp only
      clear e1
      go_wp2_with fail
      go_roundw
      case rel => exact ⟨i + 1, by omega, congrArg (Value.int .i64) (IntWalk.wrap64_in _ (by have := HL.out; omega)), rfl, HR.out _ hf9⟩
      case measure =>
        have := HL.out
        rw [IntWalk.wrap64_in _ (by omega)]
        simp [intOf]; omega
    · have hd : decide ((i : Int) < (l.length : Int)) = false := by simp; omega
      have BY := hid (fun w1 (hf : Fr No wr w1) => bytes_any B o (catB l i) w1 (h1.fr hf id (fun _ _ => id)))
      unfold strV at BY
      go_wp2_with (first
        | (go_at_call 17; refine (BY.out _ (Fr.refl _)).mono ?_; rintro e5 w5 ⟨rfl, rfl⟩)
        | (go_at_call 9; refine (K.out _).mono ?_; rintro e1 w6 ⟨rfl, hf6⟩))
      go_ret
      exact ⟨by first | rfl | simp, h3.trans hf6⟩
end Go.Proofs.Ytcggakegbdpdfaa
