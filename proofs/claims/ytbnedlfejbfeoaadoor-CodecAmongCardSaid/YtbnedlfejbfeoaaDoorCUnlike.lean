/-
  CodecUnlike: the plain law and the walk. No statement of the seat is proved here.
-/
import Derived.Test.YtbnedlfejbfeoaaDoorCTells
namespace Go.Proofs.YtbnedlfejbfeoaaDoor
open Go.RowKit

theorem unlike_plain {e f : Ev} (he : mayS e = true) (hf : mayS f = true) (q : List UInt8) (h : encB f = encB e ++ q) : e = f := by
  have h1 := dec_enc he q
  have h2 := dec_enc hf []
  rw [List.append_nil, if_pos rfl, h] at h2
  rw [h2] at h1
  split at h1
  · exact (Prod.ext_iff.1 h1).1.symm
  · have := (Prod.ext_iff.1 h1).2
    simp at this
theorem unlike_eq {e f : Ev} (he : mayS e = true) (hf : mayS f = true) : ((encB f).take (encB e).length == encB e) = sameS e f := by
  by_cases h : e = f
  · subst h
    rw [sameS_self6]
    simp
  · have h0 : sameS e f = false := by
      rw [Bool.eq_false_iff]
      exact fun hs => h (sameS_iff.1 hs)
    rw [h0, beq_eq_false_iff_ne]
    intro hh
    refine h (unlike_plain he hf ((encB f).drop (encB e).length) ?_)
    have := List.take_append_drop (encB e).length (encB f)
    rw [hh] at this
    exact this.symm
theorem unlike_short {e f : Ev} (h : (encB f).length < (encB e).length) : sameS e f = false := by
  rw [Bool.eq_false_iff]
  intro hs
  rw [sameS_iff.1 hs] at h
  omega
theorem unlike_bytes (l : List UInt8) (n : Nat) : ((⟨l.toArray⟩ : ByteArray).extract 0 n) = ⟨(l.take n).toArray⟩ := by
  apply ByteArray.ext
  simp
theorem unlike_list (l : List UInt8) (n : Nat) : ((⟨l.toArray⟩ : ByteArray).extract 0 n).toList = l.take n := by
  rw [unlike_bytes]
  simp

set_option maxHeartbeats 16000000 in
set_option maxRecDepth 100000 in
theorem unlike_any (s t : EvP) (e f : Ev) (w : World) (he : EvAt w s e) (hf : EvAt w t f) (hkt : KT w) :
    Calls Tryd.prog 7 #[evV s e, evV t f] w fun en w' => en = .returned (.bool true) ∧ Fr No w w' := by
  have WK := hid (fun w1 (h : Fr No w w1) => works_any w1 (hkt.fr h))
  have WE := hid (fun w1 (h : Fr No w w1) => weight_any s e w1 (he.fr h))
  have WF := hid (fun w1 (h : Fr No w w1) => weight_any t f w1 (hf.fr h))
  have EN := hid (fun w1 (h : Fr No w w1) => encode_any s e w1 (he.fr h) (hkt.fr h))
  have FN := hid (fun w1 (h : Fr No w w1) => encode_any t f w1 (hf.fr h) (hkt.fr h))
  have SM := hid (fun w1 (h : Fr No w w1) => sameEvent6_any s t e f w1 (he.fr h) (hf.fr h))
  have HAB : Fr No (w.alloc (.cells #[.int .u8 e.v, .int .u8 e.kind, .slice s.qn e.nums.length s.cn, .slice s.qt e.texts.length s.ct] 26)) ((w.alloc (.cells #[.int .u8 e.v, .int .u8 e.kind, .slice s.qn e.nums.length s.cn, .slice s.qt e.texts.length s.ct] 26)).alloc (.cells #[.int .u8 f.v, .int .u8 f.kind, .slice t.qn f.nums.length t.cn, .slice t.qt f.texts.length t.ct] 26)) := (Fr.refl _).alloc _
  have HF0 : Fr No w ((w.alloc (.cells #[.int .u8 e.v, .int .u8 e.kind, .slice s.qn e.nums.length s.cn, .slice s.qt e.texts.length s.ct] 26)).alloc (.cells #[.int .u8 f.v, .int .u8 f.kind, .slice t.qn f.nums.length t.cn, .slice t.qt f.texts.length t.ct] 26)) := ((Fr.refl w).alloc _).alloc _
  have gA := HAB.heap0 (Go.heap_alloc_new w (.cells #[.int .u8 e.v, .int .u8 e.kind, .slice s.qn e.nums.length s.cn, .slice s.qt e.texts.length s.ct] 26))
  have gB := Go.heap_alloc_new (w.alloc (.cells #[.int .u8 e.v, .int .u8 e.kind, .slice s.qn e.nums.length s.cn, .slice s.qt e.texts.length s.ct] 26)) (.cells #[.int .u8 f.v, .int .u8 f.kind, .slice t.qn f.nums.length t.cn, .slice t.qt f.texts.length t.ct] 26)
  rw [show (w.alloc (.cells #[.int .u8 e.v, .int .u8 e.kind, .slice s.qn e.nums.length s.cn, .slice s.qt e.texts.length s.ct] 26)).heap.size = w.heap.size + 1 from Array.size_push _] at gB
  have HGA := hid gA
  have HGB := hid gB
  have UE := hid (fun (h1 : mayS e = true) (h2 : mayS f = true) => unlike_eq h1 h2)
  have US := hid (fun (h : (encB f).length < (encB e).length) => unlike_short h)
  have LE := hid (fun (h1 : mayS e = true) => (by have := evB_length h1; simp [encB]; omega : (encB e).length ≤ 201))
  have LF := hid (fun (h1 : mayS f = true) => (by have := evB_length h1; simp [encB]; omega : (encB f).length ≤ 201))
  clear he hf hkt gA gB
  unfold evV strV at *
  go_enter Tryd.func7, Tryd.ntmps7
  go_upto_region 3 with (first
    | (go_at_call 10; (with_reducible refine (WK.out _ HF0).mono ?_); rintro e0 w0 ⟨rfl, hf0⟩; obtain ⟨c0, c1, c2, c3, _, _, _, _⟩ := Go.Proofs.YtbnedlfejbfeoaaDoor.cells4 (hf0.heap0 HGA.out); obtain ⟨d0, d1, d2, d3, _, _, _, _⟩ := Go.Proofs.YtbnedlfejbfeoaaDoor.cells4 (hf0.heap0 HGB.out))
    | (go_at_call 20; (with_reducible refine (WE.out _ (HF0.trans hf0)).mono ?_); intro e1 w1 h1; obtain ⟨n, rfl, hn1, hn2, hlt, hf1⟩ := h1; (have x0 := hf1.cell0 d0); (have x1 := hf1.cell0 d1); (have x2 := hf1.cell0 d2); (have x3 := hf1.cell0 d3); clear d0 d1 d2 d3; rcases Nat.lt_or_ge n 2000 with hn | hn; (have dn : decide ((2000 : Int) ≤ (n : Int)) = false := (by simp; omega)); rotate_left; (have dn : decide ((2000 : Int) ≤ (n : Int)) = true := (by simp; omega)); rotate_left)
    | (go_at_call 20; (with_reducible refine (WF.out _ ((HF0.trans hf0).trans hf1)).mono ?_); intro e2 w2 h2; obtain ⟨m, rfl, hm1, hm2, hmt, hf2⟩ := h2; rcases Nat.lt_or_ge m 2000 with hm | hm; (have dm : decide ((2000 : Int) ≤ (m : Int)) = false := (by simp; omega)); rotate_left; (have dm : decide ((2000 : Int) ≤ (m : Int)) = true := (by simp; omega)); rotate_left)
    | (go_at_call 10; (with_reducible refine (WK.out _ (((HF0.trans hf0).trans hf1).trans hf2)).mono ?_); rintro e3 w3 ⟨rfl, hf3⟩)
    | (go_at_call 10; (with_reducible refine (WK.out _ ((HF0.trans hf0).trans hf1)).mono ?_); rintro e4 w4 ⟨rfl, hf4⟩)
    | fail)
  all_goals first | (go_ret; exact ⟨rfl, ((HF0.trans hf0).trans hf1).trans hf4⟩) | (go_ret; exact ⟨rfl, (((HF0.trans hf0).trans hf1).trans hf2).trans hf3⟩) | skip
  have F2 := ((HF0.trans hf0).trans hf1).trans hf2
  replace c0 := (hf1.trans hf2).cell0 c0
  replace c1 := (hf1.trans hf2).cell0 c1
  replace c2 := (hf1.trans hf2).cell0 c2
  replace c3 := (hf1.trans hf2).cell0 c3
  have d0 := hf2.cell0 x0
  have d1 := hf2.cell0 x1
  have d2 := hf2.cell0 x2
  have d3 := hf2.cell0 x3
  have C2 := hid (fun w5 (h : Fr No w2 w5) => (⟨⟨h.cell0 c0, h.cell0 c1, h.cell0 c2, h.cell0 c3⟩, ⟨h.cell0 d0, h.cell0 d1, h.cell0 d2, h.cell0 d3⟩⟩ : (_ ∧ _ ∧ _ ∧ _) ∧ (_ ∧ _ ∧ _ ∧ _)))
  clear x0 x1 x2 x3 hlt hn hn1 hn2 hmt hm hm1 hm2 WE WF hf0 hf1 hf2 WK d0 d1 d2 d3
  have E2 := hid (EN.out _ F2)
  rcases hme : mayS e with _ | _
  · rw [hme] at E2
    simp only [Bool.false_eq_true, if_false] at E2
    rcases hmf : mayS f with _ | _
    all_goals
      rw [hmf] at FN
      simp only [Bool.false_eq_true, if_false, if_true] at FN
      clear hme hmf UE US LE LF
      go_wp2_with (first
        | (go_at_call 13; (with_reducible refine E2.out.mono ?_); rintro e5 w5 ⟨rfl, hf5⟩; obtain ⟨⟨c0, c1, c2, c3⟩, ⟨d0, d1, d2, d3⟩⟩ := C2.out _ hf5)
        | (go_at_call 13; (with_reducible refine (FN.out _ (F2.trans hf5)).mono ?_); rintro e6 w6 ⟨rfl, hf6⟩)
        | fail)
      go_ret
      exact ⟨rfl, (F2.trans hf5).trans hf6⟩
  · rw [hme] at E2
    simp only [if_true] at E2
    rcases hmf : mayS f with _ | _
    · rw [hmf] at FN
      simp only [Bool.false_eq_true, if_false] at FN
      clear hme hmf UE US LE LF
      go_wp2_with (first
        | (go_at_call 13; (with_reducible refine E2.out.mono ?_); rintro e5 w5 ⟨rfl, hf5⟩; obtain ⟨⟨c0, c1, c2, c3⟩, ⟨d0, d1, d2, d3⟩⟩ := C2.out _ hf5)
        | (go_at_call 13; (with_reducible refine (FN.out _ (F2.trans hf5)).mono ?_); rintro e6 w6 ⟨rfl, hf6⟩)
        | fail)
      go_ret
      exact ⟨rfl, (F2.trans hf5).trans hf6⟩
    · rw [hmf] at FN
      simp only [if_true] at FN
      have hue := UE.out hme hmf
      have hle := LE.out hme
      have hlf := LF.out hmf
      have hus := US.out
      clear hme hmf UE US LE LF
      generalize encB e = S at E2 hue hle hus
      generalize encB f = T at FN hue hlf hus
      generalize sameS e f = R at hue hus SM
      rcases Nat.lt_or_ge T.length S.length with hlt | hge
      · have bl : decide ((S.length : Int) ≤ (T.length : Int)) = false := by simp; omega
        obtain rfl := hus hlt
        clear hue hus
        go_wp2_with (first
          | (go_at_call 13; (with_reducible refine E2.out.mono ?_); rintro e5 w5 ⟨rfl, hf5⟩; obtain ⟨⟨c0, c1, c2, c3⟩, ⟨d0, d1, d2, d3⟩⟩ := C2.out _ hf5)
          | (go_at_call 13; (with_reducible refine (FN.out _ (F2.trans hf5)).mono ?_); rintro e6 w6 ⟨rfl, hf6⟩; clear c0 c1 c2 c3 d0 d1 d2 d3; obtain ⟨⟨c0, c1, c2, c3⟩, ⟨d0, d1, d2, d3⟩⟩ := C2.out _ (hf5.trans hf6))
          | (go_at_call 23; (with_reducible refine (SM.out _ ((F2.trans hf5).trans hf6)).mono ?_); rintro e7 w7 ⟨rfl, hf7⟩)
          | fail)
        all_goals first
          | (exfalso; omega)
          | (go_ret; exact ⟨rfl, ((F2.trans hf5).trans hf6).trans hf7⟩)
      · have bl : decide ((S.length : Int) ≤ (T.length : Int)) = true := by simp; omega
        have s1 : (0 : Int) ≤ (S.length : Int) := by omega
        have s2 : (S.length : Int) ≤ (T.length : Int) := by omega
        have HQ := hid ((congrArg (· == S) (unlike_list T S.length)).trans hue)
        clear hue hus hge
        go_wp2_with (first
          | (go_at_call 13; (with_reducible refine E2.out.mono ?_); rintro e5 w5 ⟨rfl, hf5⟩; obtain ⟨⟨c0, c1, c2, c3⟩, ⟨d0, d1, d2, d3⟩⟩ := C2.out _ hf5)
          | (go_at_call 13; (with_reducible refine (FN.out _ (F2.trans hf5)).mono ?_); rintro e6 w6 ⟨rfl, hf6⟩; clear c0 c1 c2 c3 d0 d1 d2 d3; obtain ⟨⟨c0, c1, c2, c3⟩, ⟨d0, d1, d2, d3⟩⟩ := C2.out _ (hf5.trans hf6))
          | (go_at_call 23; (with_reducible refine (SM.out _ ((F2.trans hf5).trans hf6)).mono ?_); rintro e7 w7 ⟨rfl, hf7⟩)
          | fail)
        go_ret
        refine ⟨?_, ((F2.trans hf5).trans hf6).trans hf7⟩
        have q := HQ.out
        show Ending.returned (.bool ((((⟨T.toArray⟩ : ByteArray).extract 0 S.length).toList == S) == R)) = Ending.returned (.bool true)
        rw [q]
        simp
end Go.Proofs.YtbnedlfejbfeoaaDoor
