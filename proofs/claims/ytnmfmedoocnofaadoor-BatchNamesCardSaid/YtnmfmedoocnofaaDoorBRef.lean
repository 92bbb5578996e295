/-
  The contracts of wire's and the document's readers and writers, for this seat (out of the wire seat's texts): no statement of the seat is proved here.
-/
import Derived.Test.YtnmfmedoocnofaaDoorBEnc
import Derived.Test.YtnmfmedoocnofaaDoorCRefW
namespace Go.Proofs.YtnmfmedoocnofaaDoor
open Go.RowKit

attribute [local go_sem ↓] run_one_new run_one_drew run_one_ad

set_option maxHeartbeats 8000000 in
set_option maxRecDepth 100000 in
theorem refBare_any (s : EvP) (e : Ev) (w : World) (he : EvAt w s e) (hm : mayS e = true) : Calls Tryd.prog 55 #[evV s e] w fun en w' => en = .returned (strV (evB e)) ∧ Fr No w w' := by
  obtain ⟨hl7, hn7, ht1, hnr, htr⟩ := may_small hm
  have HF0 : Fr No w (w.alloc (.cells #[.int .u8 e.v, .int .u8 e.kind, .slice s.qn e.nums.length s.cn, .slice s.qt e.texts.length s.ct] 34)) := (Fr.refl w).alloc _
  have g0 := Go.heap_alloc_new w (.cells #[.int .u8 e.v, .int .u8 e.kind, .slice s.qn e.nums.length s.cn, .slice s.qt e.texts.length s.ct] 34)
  have C0 := hid (fun w5 (h : Fr No (w.alloc (.cells #[.int .u8 e.v, .int .u8 e.kind, .slice s.qn e.nums.length s.cn, .slice s.qt e.texts.length s.ct] 34)) w5) => Go.Proofs.YtnmfmedoocnofaaDoor.cells4 (h.heap0 g0))
  have NU := hid (fun w5 (h : Fr No w w5) m x (hx : e.nums[m]? = some x) => (by
    obtain ⟨bn, on, h1, h2⟩ := he.nums m (numV x) (by simp [hx])
    exact ⟨bn, on, h1, h.cell0 h2⟩ : ∃ bn on, s.qn = some ⟨bn, on, none⟩ ∧ w5.cell? ⟨bn, on + m, none⟩ = some (numV x)))
  have TU := hid (fun w5 (h : Fr No w w5) m x (hx : e.texts[m]? = some x) => (by
    obtain ⟨bn, on, h1, h2⟩ := he.texts m (strV x) (by simp [hx])
    exact ⟨bn, on, h1, h.cell0 h2⟩ : ∃ bn on, s.qt = some ⟨bn, on, none⟩ ∧ w5.cell? ⟨bn, on + m, none⟩ = some (strV x)))
  have HNR := hid hnr
  have HTR := hid htr
  have RS := hid (fun n w1 (h : n ≤ 18446744073709551615) => refShort_any n w1 h)
  have RT := hid (fun t w1 (h : t.length ≤ 9000000000000000000) => refText_any t w1 h)
  clear hl7 hnr htr he g0
  unfold evV
  go_enter Tryd.func55, Tryd.ntmps55
  go_upto_region 1 with fail
  generalize w.alloc (.cells #[.int .u8 e.v, .int .u8 e.kind, .slice s.qn e.nums.length s.cn, .slice s.qt e.texts.length s.ct] 34) = W at HF0 C0 ⊢
  obtain ⟨c0, c1, c2, c3, _, _, _, _⟩ := C0.out _ (Fr.refl _)
  go_wp2_with fail
  clear c0 c1 c2 c3
  go_loopg [3, 4] e.nums.length (fun g sv i wr => ∃ (m : Nat) (L : List UInt8), m ≤ e.nums.length ∧ e.nums.length ≤ m + g ∧ i = .int .i64 m ∧ sv = .string ⟨L.toArray⟩ ∧ Hid (L = [byteN e.kind] ++ numsB (e.nums.take m)) ∧ Fr No W wr)
  case atStart => exact ⟨0, [byteN e.kind], Nat.zero_le _, by omega, rfl, rfl, hid (by simp [numsB]), (Fr.refl _).alloc _⟩
  case round =>
    obtain ⟨m, L, hmo, hk, rfl, rfl, HL, hf⟩ := hrel
    obtain ⟨c0, c1, c2, c3, _, _, _, _⟩ := C0.out _ hf
    by_cases hlt : m < e.nums.length
    · obtain ⟨x, hx⟩ : ∃ x, e.nums[m]? = some x := ⟨_, List.getElem?_eq_getElem hlt⟩
      obtain ⟨bn, on, hqn, kn⟩ := NU.out _ (HF0.trans hf) m x hx
      have hx0 := HNR.out x (List.mem_of_getElem? hx)
      obtain ⟨y, rfl⟩ := Int.eq_ofNat_of_zero_le hx0.1
      have ht : e.nums.take (m + 1) = e.nums.take m ++ [(y : Int)] := by rw [List.take_succ_eq_append_getElem hlt, (List.getElem?_eq_some_iff.1 hx).2]
      have HT := hid ht
      have hwr : IntKind.u64.wrap (y : Int) = (y : Int) := wrapU64 y (by omega)
      have hl10 := numsB_length (e.nums.take m)
      have htl : (e.nums.take m).length ≤ 7 := by rw [List.length_take]; omega
      have hLn : L.length ≤ 200 := by rw [HL.out]; simp only [List.length_append, List.length_cons, List.length_nil]; omega
      have R1 := hid (RS.out y wr (by omega))
      have hs10 := shortB_length_le y
      have HNX := hid (show L ++ shortB y = [byteN e.kind] ++ numsB (e.nums.take (m + 1)) by rw [ht, numsB_snoc, HL.out]; simp)
      have i1 : (m : Int) < (e.nums.length : Int) := by omega
      have i2 : (0 : Int) ≤ (m : Int) := by omega
      have i4 : (m : Int) + 1 ≤ 1000001 := by omega
      generalize shortB y = T at R1 hs10 HNX
      unfold numV at kn
      unfold strV at R1
      rw [hqn] at c2
      have hcat := hid (cat_two L T)
      clear hx hx0 ht hl10 htl hqn
      go_wp2_with (first
        | (go_at_call 54; (with_reducible refine R1.out.mono ?_); rintro e5 w5 ⟨rfl, hf5⟩)
        | fail)
      go_roundg (gk - 1)
      case measure => omega
      case rel => exact ⟨m + 1, L ++ T, by omega, by omega, by go_num, congrArg Value.string hcat.out, HNX, hf.trans hf5⟩
    · obtain rfl : m = e.nums.length := by omega
      rw [List.take_length] at HL
      clear hlt hmo hk
      go_wp2_with fail
      go_loopg [3, 5] e.texts.length (fun g sv i wr => ∃ (m : Nat) (L : List UInt8), m ≤ e.texts.length ∧ e.texts.length ≤ m + g ∧ i = .int .i64 m ∧ sv = .string ⟨L.toArray⟩ ∧ Hid (L = [byteN e.kind] ++ numsB e.nums ++ textsB (e.texts.take m)) ∧ Fr No W wr)
      case atStart => exact ⟨0, L, Nat.zero_le _, by omega, rfl, rfl, hid (by simpa [textsB] using HL.out), hf⟩
      case round =>
        clear c0 c1 c2 c3 HL hf
        obtain ⟨m, L, hmo, hk, rfl, rfl, HL, hf⟩ := hrel
        obtain ⟨c0, c1, c2, c3, _, _, _, _⟩ := C0.out _ hf
        by_cases hlt : m < e.texts.length
        · obtain ⟨x, hx⟩ : ∃ x, e.texts[m]? = some x := ⟨_, List.getElem?_eq_getElem hlt⟩
          obtain ⟨bn, on, hqn, kn⟩ := TU.out _ (HF0.trans hf) m x hx
          have hx0 := HTR.out x (List.mem_of_getElem? hx)
          have ht : e.texts.take (m + 1) = e.texts.take m ++ [x] := by rw [List.take_succ_eq_append_getElem hlt, (List.getElem?_eq_some_iff.1 hx).2]
          have hl10 := numsB_length e.nums
          have hl34 := textsB_length (e.texts.take m) (fun t ht => HTR.out t (List.mem_of_mem_take ht))
          have htl : (e.texts.take m).length ≤ 1 := by rw [List.length_take]; omega
          have hLn : L.length ≤ 200 := by rw [HL.out]; simp only [List.length_append, List.length_cons, List.length_nil]; omega
          have R1 := hid (RT.out x wr (by omega))
          have hs10 : (textB x).length ≤ 100 := by have := textB_length x; omega
          have HNX := hid (show L ++ textB x = [byteN e.kind] ++ numsB e.nums ++ textsB (e.texts.take (m + 1)) by rw [ht, textsB_snoc, HL.out]; simp)
          have i1 : (m : Int) < (e.texts.length : Int) := by omega
          have i2 : (0 : Int) ≤ (m : Int) := by omega
          have i4 : (m : Int) + 1 ≤ 1000001 := by omega
          generalize textB x = T at R1 hs10 HNX
          unfold strV at kn R1
          rw [hqn] at c3
          have hcat := hid (cat_two L T)
          clear hx hx0 ht hl10 hl34 htl hqn
          go_wp2_with (first
            | (go_at_call 82; (with_reducible refine R1.out.mono ?_); rintro e5 w5 ⟨rfl, hf5⟩)
            | fail)
          go_roundg (gk - 1)
          case measure => omega
          case rel => exact ⟨m + 1, L ++ T, by omega, by omega, by go_num, congrArg Value.string hcat.out, HNX, hf.trans hf5⟩
        · obtain rfl : m = e.texts.length := by omega
          rw [List.take_length] at HL
          clear hlt hmo hk
          go_wp2_with fail
          go_ret
          exact ⟨by rw [HL.out]; rfl, HF0.trans hf⟩

end Go.Proofs.YtnmfmedoocnofaaDoor
