/-
  CodecBack: the walk. No statement of the seat is proved here.
-/
import Derived.Test.YtbnedlfejbfeoaaDoorCTells
namespace Go.Proofs.YtbnedlfejbfeoaaDoor
open Go.RowKit

set_option maxHeartbeats 16000000 in
set_option maxRecDepth 100000 in
theorem back_any (s : EvP) (e : Ev) (t : List UInt8) (w : World) (he : EvAt w s e) (hkt : KT w) :
    Calls Tryd.prog 5 #[evV s e, strV t] w fun en w' => en = .returned (.bool true) ∧ Fr No w w' := by
  have WK := hid (fun w1 (h : Fr No w w1) => works_any w1 (hkt.fr h))
  have WE := hid (fun w1 (h : Fr No w w1) => weight_any s e w1 (he.fr h))
  have ENC := hid (fun (p : EvP) (x : Ev) w1 (hx : EvAt w1 p x) (h : Fr No w w1) => encode_any p x w1 hx (hkt.fr h))
  have EN := hid (fun w1 (h : Fr No w w1) => encode_any s e w1 (he.fr h) (hkt.fr h))
  have HF0 : Fr No w (w.alloc (.cells #[.int .u8 e.v, .int .u8 e.kind, .slice s.qn e.nums.length s.cn, .slice s.qt e.texts.length s.ct] 26)) := (Fr.refl w).alloc _
  have g0 := Go.heap_alloc_new w (.cells #[.int .u8 e.v, .int .u8 e.kind, .slice s.qn e.nums.length s.cn, .slice s.qt e.texts.length s.ct] 26)
  have HG0 := hid g0
  have SMZ : Hid (∀ (p : EvP) w1, Calls Tryd.prog 23 #[.agg #[.int .u8 0, .int .u8 0, .slice p.qn 0 p.cn, .slice p.qt 0 p.ct], .agg #[.int .u8 0, .int .u8 0, .slice none 0 0, .slice none 0 0]] w1 fun en w' => en = .returned (.bool true) ∧ Fr No w1 w') := hid (fun p w1 => by
    have := sameEvent6_any p ⟨none, 0, none, 0⟩ zeroE zeroE w1 (zeroAt _ _) (zeroAt _ _)
    rwa [sameS_self6] at this)
  by_cases htl : t.length ≤ 2000
  · have DE := hid (fun w1 (h : Fr No w w1) => decode_any t w1 (by omega) (hkt.fr h))
    have OK := hid (fun (h : (decT t).2 = 0) => decT_ok h)
    have BAD := hid (fun (h : (decT t).2 ≠ 0) => decT_err h)
    generalize decT t = D at DE OK BAD
    have DM := hid (fun (hm : mayS e = true) w1 (h : Fr No w w1) => (by
      have hl := evB_length hm
      have h1 := decode_any (encB e) w1 (by simp [encB]; omega) (hkt.fr h)
      have h2 := dec_enc hm []
      rw [List.append_nil, if_pos rfl] at h2
      rwa [h2] at h1 : Calls Tryd.prog 24 #[strV (encB e)] w1 (DecPost w1 (e, 0))))
    have SM := hid (fun (hm : mayS e = true) B p w1 (hn : EvNew B w1 p e) (h : Fr No w w1) => (by
      have := sameEvent6_any p s e e w1 (hn.may hm (may_kind hm)) (he.fr h)
      rwa [sameS_self6] at this : Calls Tryd.prog 23 #[evV p e, evV s e] w1 fun en w' => en = .returned (.bool true) ∧ Fr No w1 w'))
    have dl : decide ((2000 : Int) < (t.length : Int)) = false := by simp; omega
    clear htl he hkt g0
    unfold DecPost at *
    unfold evV strV at *
    go_enter Tryd.func5, Tryd.ntmps5
    go_upto_region 3 with (first
      | (go_at_call 10; (with_reducible refine (WK.out _ HF0).mono ?_); rintro e0 w0 ⟨rfl, hf0⟩; obtain ⟨c0, c1, c2, c3, _, _, _, _⟩ := Go.Proofs.YtbnedlfejbfeoaaDoor.cells4 (hf0.heap0 HG0.out))
      | (go_at_call 20; (with_reducible refine (WE.out _ (HF0.trans hf0)).mono ?_); intro e1 w1 h1; obtain ⟨n, rfl, hn1, hn2, hlt, hf1⟩ := h1; rcases Nat.lt_or_ge n 2000 with hn | hn; (have dn : decide ((2000 : Int) ≤ (n : Int)) = false := (by simp; omega)); rotate_left; (have dn : decide ((2000 : Int) ≤ (n : Int)) = true := (by simp; omega)); rotate_left)
      | (go_at_call 10; (with_reducible refine (WK.out _ ((HF0.trans hf0).trans hf1)).mono ?_); rintro e2 w2 ⟨rfl, hf2⟩)
      | fail)
    all_goals first | (go_ret; exact ⟨rfl, ((HF0.trans hf0).trans hf1).trans hf2⟩) | skip
    have F1 := (HF0.trans hf0).trans hf1
    replace c0 := hf1.cell0 c0
    replace c1 := hf1.cell0 c1
    replace c2 := hf1.cell0 c2
    replace c3 := hf1.cell0 c3
    have C1 := hid (fun w5 (h : Fr No w1 w5) => (⟨h.cell0 c0, h.cell0 c1, h.cell0 c2, h.cell0 c3⟩ : _ ∧ _ ∧ _ ∧ _))
    have z1 : w.heap.size < w1.heap.size := World.block_lt_of_cell? w1 _ c0
    clear hlt hn hn1 hn2 WE hf0 hf1 WK
    have E1 := hid (EN.out _ F1)
    rcases hm : mayS e with _ | _
    · rw [hm] at E1
      simp only [Bool.false_eq_true, if_false] at E1
      clear hm DM SM
      go_upto_region 8 with (first
        | (go_at_call 13; (with_reducible refine E1.out.mono ?_); rintro e4 w4 ⟨rfl, hf4⟩)
        | fail)
      have F4 := F1.trans hf4
      clear c0 c1 c2 c3
      have D2 := hid (DE.out _ F4)
      by_cases hd : D.2 = 0
      · have bd : ((D.2 : Int) != 0) = false := by rw [hd]; rfl
        have HOK := hid (OK.out hd)
        have HD0 := hid hd
        clear hd
        go_upto_region 9 with (first
          | (go_at_call 24; (with_reducible refine D2.out.mono ?_); rintro e8 w8 ⟨p, rfl, hn8, hf8⟩)
          | fail)
        have A8 : Fr No w8 (w8.alloc (.cells #[.int .u8 D.1.v, .int .u8 D.1.kind, .slice p.qn D.1.nums.length p.cn, .slice p.qt D.1.texts.length p.ct] 26)) := (Fr.refl w8).alloc _
        have F8 := (F4.trans hf8).trans A8
        have E9 := hid (ENC.out p D.1 _ ((hn8.may HOK.out.1 (may_kind HOK.out.1)).fr A8) F8)
        rw [HOK.out.1, if_pos rfl, if_pos rfl, HOK.out.2] at E9
        clear hn8
        go_wp2_with (first
          | (go_at_call 13; (with_reducible refine E9.out.mono ?_); rintro e9 w9 ⟨rfl, hf9⟩)
          | fail)
        go_ret
        exact ⟨rfl, F8.trans hf9⟩
      · have bd : ((D.2 : Int) != 0) = true := by simpa using hd
        have HZ := hid (BAD.out hd)
        clear hd
        have D3 := D2.out
        rw [HZ.out] at D3
        have D4 := hid D3
        unfold zeroE at D4
        simp only at D4
        clear D3
        go_wp2_with (first
          | (go_at_call 24; (with_reducible refine D4.out.mono ?_); rintro e8 w8 ⟨p, rfl, hn8, hf8⟩)
          | (go_at_call 23; (with_reducible refine (SMZ.out p _).mono ?_); rintro e9 w9 ⟨rfl, hf9⟩)
          | fail)
        go_ret
        exact ⟨rfl, ((F4.trans hf8).alloc _).trans hf9⟩
    · rw [hm] at E1
      simp only [if_true] at E1
      have DMM := hid (DM.out hm)
      have SMM := hid (SM.out hm)
      clear hm DM SM
      go_upto_region 6 with (first
        | (go_at_call 13; (with_reducible refine E1.out.mono ?_); rintro e4 w4 ⟨rfl, hf4⟩)
        | (go_at_call 24; (with_reducible refine (DMM.out _ (F1.trans hf4)).mono ?_); rintro e5 w5 ⟨q, rfl, hn5, hf5⟩)
        | fail)
      have F5 := (F1.trans hf4).trans hf5
      have A5 : Fr No w5 (w5.alloc (.cells #[.int .u8 e.v, .int .u8 e.kind, .slice q.qn e.nums.length q.cn, .slice q.qt e.texts.length q.ct] 26)) := (Fr.refl w5).alloc _
      have S5 := hid (SMM.out _ q _ (hn5.fr A5) (F5.trans A5))
      clear c0 c1 c2 c3
      obtain ⟨c0, c1, c2, c3⟩ := C1.out _ (hf4.trans hf5)
      have z5 : w.heap.size < w5.heap.size := World.block_lt_of_cell? w5 _ c0
      go_upto_region 8 with (first
        | (go_at_call 23; (with_reducible refine S5.out.mono ?_); rintro e6 w6 ⟨rfl, hf6⟩)
        | fail)
      have F6 := (F5.trans A5).trans hf6
      clear c0 c1 c2 c3 hn5 hf4 hf5 hf6 S5 DMM SMM E1
      have D2 := hid (DE.out _ F6)
      by_cases hd : D.2 = 0
      · have bd : ((D.2 : Int) != 0) = false := by rw [hd]; rfl
        have HOK := hid (OK.out hd)
        have HD0 := hid hd
        clear hd
        go_upto_region 9 with (first
          | (go_at_call 24; (with_reducible refine D2.out.mono ?_); rintro e8 w8 ⟨p, rfl, hn8, hf8⟩)
          | fail)
        have A8 : Fr No w8 (w8.alloc (.cells #[.int .u8 D.1.v, .int .u8 D.1.kind, .slice p.qn D.1.nums.length p.cn, .slice p.qt D.1.texts.length p.ct] 26)) := (Fr.refl w8).alloc _
        have F8 := (F6.trans hf8).trans A8
        have E9 := hid (ENC.out p D.1 _ ((hn8.may HOK.out.1 (may_kind HOK.out.1)).fr A8) F8)
        rw [HOK.out.1, if_pos rfl, if_pos rfl, HOK.out.2] at E9
        clear hn8
        go_wp2_with (first
          | (go_at_call 13; (with_reducible refine E9.out.mono ?_); rintro e9 w9 ⟨rfl, hf9⟩)
          | fail)
        go_ret
        exact ⟨rfl, F8.trans hf9⟩
      · have bd : ((D.2 : Int) != 0) = true := by simpa using hd
        have HZ := hid (BAD.out hd)
        clear hd
        have D3 := D2.out
        rw [HZ.out] at D3
        have D4 := hid D3
        unfold zeroE at D4
        simp only at D4
        clear D3
        go_wp2_with (first
          | (go_at_call 24; (with_reducible refine D4.out.mono ?_); rintro e8 w8 ⟨p, rfl, hn8, hf8⟩)
          | (go_at_call 23; (with_reducible refine (SMZ.out p _).mono ?_); rintro e9 w9 ⟨rfl, hf9⟩)
          | fail)
        go_ret
        exact ⟨rfl, ((F6.trans hf8).alloc _).trans hf9⟩
  · have dl : decide ((2000 : Int) < (t.length : Int)) = true := by simp; omega
    clear htl he hkt g0 EN ENC SMZ
    unfold evV strV at *
    go_enter Tryd.func5, Tryd.ntmps5
    go_wp2_with (first
      | (go_at_call 10; (with_reducible refine (WK.out _ HF0).mono ?_); rintro e0 w0 ⟨rfl, hf0⟩; obtain ⟨c0, c1, c2, c3, _, _, _, _⟩ := Go.Proofs.YtbnedlfejbfeoaaDoor.cells4 (hf0.heap0 HG0.out))
      | (go_at_call 20; (with_reducible refine (WE.out _ (HF0.trans hf0)).mono ?_); intro e1 w1 h1; obtain ⟨n, rfl, hn1, hn2, hlt, hf1⟩ := h1; rcases Nat.lt_or_ge n 2000 with hn | hn; (have dn : decide ((2000 : Int) ≤ (n : Int)) = false := (by simp; omega)); rotate_left; (have dn : decide ((2000 : Int) ≤ (n : Int)) = true := (by simp; omega)); rotate_left)
      | (go_at_call 10; (with_reducible refine (WK.out _ ((HF0.trans hf0).trans hf1)).mono ?_); rintro e2 w2 ⟨rfl, hf2⟩)
      | fail)
    all_goals (go_ret; exact ⟨rfl, ((HF0.trans hf0).trans hf1).trans hf2⟩)
end Go.Proofs.YtbnedlfejbfeoaaDoor
