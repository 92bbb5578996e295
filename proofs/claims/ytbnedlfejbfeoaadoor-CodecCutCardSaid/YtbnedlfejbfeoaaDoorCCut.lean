/-
  CodecCut: the walk. No statement of the seat is proved here.
-/
import Derived.Test.YtbnedlfejbfeoaaDoorCTells
import Derived.Test.YtbnedlfejbfeoaaDoorCutPlain
namespace Go.Proofs.YtbnedlfejbfeoaaDoor
open Go.RowKit

theorem cwrap_u64 (n : Int) : ∃ A : Nat, IntKind.u64.wrap n = (A : Int) ∧ A ≤ 18446744073709551615 := by
  have h : IntKind.u64.wrap n = n % 18446744073709551616 := by simp [IntKind.wrap, IntKind.signed, IntKind.bits]
  refine ⟨(n % 18446744073709551616).toNat, ?_, by omega⟩
  rw [h]; omega
theorem ccut_bytes (l : List UInt8) (n : Nat) : ((⟨l.toArray⟩ : ByteArray).extract 0 n) = ⟨(l.take n).toArray⟩ := by
  apply ByteArray.ext
  simp

set_option maxHeartbeats 16000000 in
set_option maxRecDepth 100000 in
theorem cut_any (s : EvP) (e : Ev) (cut : Int) (t : List UInt8) (w : World) (he : EvAt w s e) (hkt : KT w) :
    Calls Tryd.prog 6 #[evV s e, .int .i64 cut, strV t] w fun en w' => en = .returned (.bool true) ∧ Fr No w w' := by
  have WK := hid (fun w1 (h : Fr No w w1) => works_any w1 (hkt.fr h))
  have WE := hid (fun w1 (h : Fr No w w1) => weight_any s e w1 (he.fr h))
  have EN := hid (fun w1 (h : Fr No w w1) => encode_any s e w1 (he.fr h) (hkt.fr h))
  have HF0 : Fr No w (w.alloc (.cells #[.int .u8 e.v, .int .u8 e.kind, .slice s.qn e.nums.length s.cn, .slice s.qt e.texts.length s.ct] 26)) := (Fr.refl w).alloc _
  have g0 := Go.heap_alloc_new w (.cells #[.int .u8 e.v, .int .u8 e.kind, .slice s.qn e.nums.length s.cn, .slice s.qt e.texts.length s.ct] 26)
  have HG0 := hid g0
  by_cases htl : t.length ≤ 2000
  · have dl : decide ((2000 : Int) < (t.length : Int)) = false := by simp; omega
    have RFA := hid (fun (hm : mayS e = true) (k : Nat) w1 (hk : k < (encB e).length) (h : Fr No w w1) => (by
      have hl := evB_length hm
      have := refused_any ((encB e).take k) 8 w1 (by rw [List.length_take]; simp [encB]; omega) (hkt.fr h) (dec_cut hm k hk)
      unfold strV at this
      rw [← ccut_bytes] at this
      exact this : Calls Tryd.prog 17 #[.string ((⟨(encB e).toArray⟩ : ByteArray).extract 0 k), .int .i64 8] w1 fun en w' => en = .returned (.bool true) ∧ Fr No w1 w'))
    have RFB := hid (fun (hm : mayS e = true) (hne : t ≠ []) w1 (h : Fr No w w1) => (by
      have hl := evB_length hm
      have hd := dec_enc hm t
      rw [if_neg hne] at hd
      have := refused_any (encB e ++ t) 4 w1 (by simp [encB]; omega) (hkt.fr h) hd
      unfold strV at this
      rw [← cat_two] at this
      exact this : Calls Tryd.prog 17 #[.string ((⟨(encB e).toArray⟩ : ByteArray) ++ ⟨t.toArray⟩), .int .i64 4] w1 fun en w' => en = .returned (.bool true) ∧ Fr No w1 w'))
    have HTL := hid htl
    clear htl he hkt g0
    unfold evV strV at *
    go_enter Tryd.func6, Tryd.ntmps6
    go_upto_region 3 with (first
      | (go_at_call 10; (with_reducible refine (WK.out _ HF0).mono ?_); rintro e0 w0 ⟨rfl, hf0⟩; obtain ⟨c0, c1, c2, c3, _, _, _, _⟩ := Go.Proofs.YtbnedlfejbfeoaaDoor.cells4 (hf0.heap0 HG0.out))
      | (go_at_call 20; (with_reducible refine (WE.out _ (HF0.trans hf0)).mono ?_); intro e1 w1 h1; obtain ⟨n, rfl, hn1, hn2, hlt, hf1⟩ := h1; rcases Nat.lt_or_ge n 2000 with hn | hn; (have dn : decide ((2000 : Int) ≤ (n : Int)) = false := (by simp; omega)); rotate_left; (have dn : decide ((2000 : Int) ≤ (n : Int)) = true := (by simp; omega)); rotate_left)
      | (go_at_call 10; (with_reducible refine (WK.out _ ((HF0.trans hf0).trans hf1)).mono ?_); rintro e2 w2 ⟨rfl, hf2⟩)
      | fail)
    all_goals first | (go_ret; exact ⟨rfl, ((HF0.trans hf0).trans hf1).trans hf2⟩) | skip
    have F1 := (HF0.trans hf0).trans hf1
    replace c0 := hf1.cell0 c0
    replace c1 := hf1.cell0 c1
    replace c2 := hf1.cell0 c2
    replace c3 := hf1.cell0 c3
    clear hlt hn hn1 hn2 WE hf0 hf1 WK
    have E1 := hid (EN.out _ F1)
    rcases hm : mayS e with _ | _
    · rw [hm] at E1
      simp only [Bool.false_eq_true, if_false] at E1
      clear hm RFA RFB
      go_wp2_with (first
        | (go_at_call 13; (with_reducible refine E1.out.mono ?_); rintro e4 w4 ⟨rfl, hf4⟩)
        | fail)
      go_ret
      exact ⟨rfl, F1.trans hf4⟩
    · rw [hm] at E1
      simp only [if_true] at E1
      have RA := hid (RFA.out hm)
      have RB := hid (RFB.out hm)
      have hl := evB_length hm
      have hN : 1 ≤ (encB e).length ∧ (encB e).length ≤ 201 := by simp [encB]; omega
      clear hm hl RFA RFB
      generalize encB e = T at E1 RA RB hN
      obtain ⟨A, hA, hA2⟩ := cwrap_u64 cut
      have hL : IntKind.u64.wrap (T.length : Int) = (T.length : Int) := wrapU64 _ (by omega)
      have hR : (A : Int).tmod (T.length : Int) = ((A % T.length : Nat) : Int) := rfl
      have hR2 : (A : Int) % (T.length : Int) = ((A % T.length : Nat) : Int) := by omega
      have hkl : A % T.length < T.length := Nat.mod_lt _ (by omega)
      have hK : IntKind.i64.wrap ((A % T.length : Nat) : Int) = ((A % T.length : Nat) : Int) := IntWalk.i64_in _ (by omega)
      have hne0 : (T.length : Int) ≠ 0 := by omega
      have hz0 : ((T.length : Int) == 0) = false := by rw [beq_eq_false_iff_ne]; exact hne0
      have RA1 := hid (fun w1 h => RA.out (A % T.length) w1 hkl h)
      generalize A % T.length = k at hR hR2 hkl hK RA1
      have s1 : (0 : Int) ≤ (k : Int) := by omega
      have s2 : (k : Int) ≤ (T.length : Int) := by omega
      have hT3 : T.length ≤ 201 := hN.2
      have hT4 := HTL.out
      clear hkl RA hN hA2
      by_cases hte : t = []
      · subst hte
        go_wp2_with (first
          | (go_at_call 13; (with_reducible refine E1.out.mono ?_); rintro e4 w4 ⟨rfl, hf4⟩)
          | (go_at_call 17; (with_reducible refine (RA1.out _ (F1.trans hf4)).mono ?_); rintro e5 w5 ⟨rfl, hf5⟩)
          | fail)
        go_ret
        exact ⟨rfl, (F1.trans hf4).trans hf5⟩
      · have z1 : (t == []) = false := by rw [beq_eq_false_iff_ne]; exact hte
        have z2 : (t != []) = true := by rw [bne, z1]; rfl
        have RB1 := hid (RB.out hte)
        clear RB
        go_wp2_with (first
          | (go_at_call 13; (with_reducible refine E1.out.mono ?_); rintro e4 w4 ⟨rfl, hf4⟩)
          | (go_at_call 17; (with_reducible refine (RA1.out _ (F1.trans hf4)).mono ?_); rintro e5 w5 ⟨rfl, hf5⟩)
          | (go_at_call 17; (with_reducible refine (RB1.out _ ((F1.trans hf4).trans hf5)).mono ?_); rintro e6 w6 ⟨rfl, hf6⟩)
          | fail)
        go_ret
        exact ⟨rfl, ((F1.trans hf4).trans hf5).trans hf6⟩
  · have dl : decide ((2000 : Int) < (t.length : Int)) = true := by simp; omega
    clear htl he hkt g0 EN
    unfold evV strV at *
    go_enter Tryd.func6, Tryd.ntmps6
    go_wp2_with (first
      | (go_at_call 10; (with_reducible refine (WK.out _ HF0).mono ?_); rintro e0 w0 ⟨rfl, hf0⟩; obtain ⟨c0, c1, c2, c3, _, _, _, _⟩ := Go.Proofs.YtbnedlfejbfeoaaDoor.cells4 (hf0.heap0 HG0.out))
      | (go_at_call 20; (with_reducible refine (WE.out _ (HF0.trans hf0)).mono ?_); intro e1 w1 h1; obtain ⟨n, rfl, hn1, hn2, hlt, hf1⟩ := h1; rcases Nat.lt_or_ge n 2000 with hn | hn; (have dn : decide ((2000 : Int) ≤ (n : Int)) = false := (by simp; omega)); rotate_left; (have dn : decide ((2000 : Int) ≤ (n : Int)) = true := (by simp; omega)); rotate_left)
      | (go_at_call 10; (with_reducible refine (WK.out _ ((HF0.trans hf0).trans hf1)).mono ?_); rintro e2 w2 ⟨rfl, hf2⟩)
      | fail)
    all_goals (go_ret; exact ⟨rfl, ((HF0.trans hf0).trans hf1).trans hf2⟩)
end Go.Proofs.YtbnedlfejbfeoaaDoor
