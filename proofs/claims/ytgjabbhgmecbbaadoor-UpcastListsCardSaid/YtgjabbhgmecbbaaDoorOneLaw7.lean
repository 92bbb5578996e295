/-
  UpcastOne: the plain law and the walk.
-/
import Derived.Test.YtgjabbhgmecbbaaDoorBackLaw
import Derived.Deep.Cut
namespace Go.Proofs.YtgjabbhgmecbbaaDoor
open Go.RowKit

theorem may_kind {e : Ev} (hm : mayS e = true) : e.kind ≤ 255 := by
  have h := (may_is hm).1
  rcases Nat.lt_or_ge 23 e.kind with h1 | h1
  · rw [fieldsS_none e.v e.kind (.inr h1)] at h; cases h
  · omega
/-- What To tells may be, or it is nothing. -/
theorem toR_cases (e : Ev) (v : Nat) : (mayS e = true ∧ 1 ≤ v ∧ v ≤ 3 ∧ ∃ x, toS e v = some x ∧ toR e v = (x, 0) ∧ mayS x = true ∧ x.v = v ∧ topS x = topS e) ∨ ∃ k : Int, k ≠ 0 ∧ toR e v = (zeroE, k) := by
  unfold toR
  rcases hm : mayS e with _ | _
  · exact .inr ⟨4, by decide, by simp⟩
  · rw [if_pos rfl]
    by_cases hv : v < 1 ∨ 3 < v
    · exact .inr ⟨43, by decide, by rw [if_pos hv]⟩
    · rw [if_neg hv]
      rcases ht : toS e v with _ | x
      · exact .inr ⟨43, by decide, rfl⟩
      · obtain ⟨h1, h2, h3⟩ := (toS_iff hm (by omega)).1 ht
        exact .inl ⟨rfl, by omega, by omega, x, rfl, rfl, h1, h2, h3⟩
theorem zero_at (w : World) (s : EvP) : EvAt w s zeroE := ⟨by decide, by decide, SlAt.nil _ _, SlAt.nil _ _, by decide, by decide, fun _ h => (by cases h), fun _ h => (by cases h)⟩
theorem EvNew.toR {B : Nat} {w : World} {s : EvP} {e : Ev} {v : Nat} (h : EvNew B w s (toR e v).1) : EvAt w s (toR e v).1 := by
  rcases toR_cases e v with ⟨_, _, _, x, _, h2, h3, _⟩ | ⟨k, _, h2⟩
  · rw [h2] at h ⊢
    exact h.may h3 (may_kind h3)
  · rw [h2]
    exact zero_at w s
/-- Two events are the same, lifted, just if they are, said in the version of one of them. -/
theorem one_plain {e f : Ev} (he : mayS e = true) (hf : mayS f = true) {x : Nat} (hx : x = e.v ∨ x = f.v) :
    (decide ((toR e x).2 = 0) && (decide ((toR f x).2 = 0) && sameS (toR e x).1 (toR f x).1)) = sameS (topS e) (topS f) := by
  have h1 := may_is he
  have h2 := may_is hf
  have hx3 : 1 ≤ x ∧ x ≤ 3 := by omega
  rw [Bool.eq_iff_iff]
  simp only [Bool.and_eq_true, decide_eq_true_eq, sameS_iff]
  constructor
  · rintro ⟨k1, k2, k3⟩
    rcases toR_cases e x with ⟨_, _, _, y, _, hy, _, _, hy3⟩ | ⟨k, hk, hy⟩
    · rcases toR_cases f x with ⟨_, _, _, z, _, hz, _, _, hz3⟩ | ⟨k, hk, hz⟩
      · rw [hy, hz] at k3
        have k3 : y = z := k3
        rw [← hy3, ← hz3, k3]
      · rw [hz] at k2; exact absurd k2 hk
    · rw [hy] at k1; exact absurd k1 hk
  · intro ht
    have key : ∃ g, toS e x = some g ∧ toS f x = some g := by
      rcases hx with hx | hx
      · exact ⟨e, toS_self hx.symm, (toS_iff hf hx3).2 ⟨he, hx.symm, ht⟩⟩
      · exact ⟨f, (toS_iff he hx3).2 ⟨hf, hx.symm, ht.symm⟩, toS_self hx.symm⟩
    obtain ⟨g, g1, g2⟩ := key
    have e1 : toR e x = (g, 0) := by unfold toR; rw [if_pos he, if_neg (by omega), g1]
    have e2 : toR f x = (g, 0) := by unfold toR; rw [if_pos hf, if_neg (by omega), g2]
    rw [e1, e2]
    exact ⟨rfl, rfl, rfl⟩
/-- To by way of another version is To. -/
theorem toR_way {e g : Ev} {w v : Nat} (hg : toR e w = (g, 0)) (hm : mayS e = true) : mayS g = true ∧ g.v = w ∧ toR g v = toR e v := by
  rcases toR_cases e w with ⟨_, _, _, y, _, hy, h1, h2, h3⟩ | ⟨k, hk, hy⟩
  · rw [hy] at hg
    obtain rfl : y = g := congrArg Prod.fst hg
    refine ⟨h1, h2, ?_⟩
    unfold toR
    rw [if_pos h1, if_pos hm]
    by_cases hv : v < 1 ∨ 3 < v
    · rw [if_pos hv, if_pos hv]
    · rw [if_neg hv, if_neg hv]
      have e1 : toS y v = toS e v := by
        apply Option.ext
        intro x
        rw [toS_iff h1 (by omega), toS_iff hm (by omega), h3]
      rw [e1]
  · rw [hy] at hg
    exact absurd (congrArg Prod.snd hg) hk

set_option maxHeartbeats 8000000 in
set_option maxRecDepth 100000 in
theorem one_00 (s t : EvP) (e f : Ev) (ww vv : Nat) (w : World) (he : EvAt w s e) (hf : EvAt w t f) (hes : e.nums.length ≤ 17592186044416 ∧ e.texts.length ≤ 8796093022208)
    (hfs : f.nums.length ≤ 17592186044416 ∧ f.texts.length ≤ 8796093022208) (hkt : KT w) (hme : mayS e = false) (hmf : mayS f = false) :
    Calls Tryd.prog 5 #[evV s e, evV t f, .int .u8 ww, .int .u8 vv] w fun en w' => en = .returned (.bool true) ∧ Fr No w w' := by
  have AW := hid (fun w1 (h : Fr No w w1) => awake7_any w1 (hkt.fr h))
  have LE := hid (fun w1 (h : Fr No w w1) => long7_any s e w1 (he.fr h) (by omega) (by omega))
  have LF := hid (fun w1 (h : Fr No w w1) => long7_any t f w1 (hf.fr h) (by omega) (by omega))
  have NE := hid (fun w1 (h : Fr No w w1) => newest_any s e w1 (he.fr h) (hkt.fr h))
  have NF := hid (fun w1 (h : Fr No w w1) => newest_any t f w1 (hf.fr h) (hkt.fr h))
  have ME := hid (fun w1 (h : Fr No w w1) => may_any s e w1 (he.fr h) (hkt.fr h))
  have MF := hid (fun w1 (h : Fr No w w1) => may_any t f w1 (hf.fr h) (hkt.fr h))
  unfold newestR at NE NF
  have HF0 : Fr No w ((w.alloc (.cells #[.int .u8 e.v, .int .u8 e.kind, .slice s.qn e.nums.length s.cn, .slice s.qt e.texts.length s.ct] 25)).alloc (.cells #[.int .u8 f.v, .int .u8 f.kind, .slice t.qn f.nums.length t.cn, .slice t.qt f.texts.length t.ct] 25)) := ((Fr.refl w).alloc _).alloc _
  have g1 := Go.heap_alloc_new (w.alloc (.cells #[.int .u8 e.v, .int .u8 e.kind, .slice s.qn e.nums.length s.cn, .slice s.qt e.texts.length s.ct] 25)) (.cells #[.int .u8 f.v, .int .u8 f.kind, .slice t.qn f.nums.length t.cn, .slice t.qt f.texts.length t.ct] 25)
  have g0 : ((w.alloc (.cells #[.int .u8 e.v, .int .u8 e.kind, .slice s.qn e.nums.length s.cn, .slice s.qt e.texts.length s.ct] 25)).alloc (.cells #[.int .u8 f.v, .int .u8 f.kind, .slice t.qn f.nums.length t.cn, .slice t.qt f.texts.length t.ct] 25)).heap[w.heap.size]? = some (.cells #[.int .u8 e.v, .int .u8 e.kind, .slice s.qn e.nums.length s.cn, .slice s.qt e.texts.length s.ct] 25 (0, 0)) := by
    rw [Below.heap_alloc _ _ _ (by simp)]; exact Go.heap_alloc_new _ _
  simp only [World.size_alloc] at g1
  have C0 := hid (fun w1 (h : Fr No _ w1) => Go.Proofs.YtgjabbhgmecbbaaDoor.cells4 (h.heap0 g0))
  have C1 := hid (fun w1 (h : Fr No _ w1) => Go.Proofs.YtgjabbhgmecbbaaDoor.cells4 (h.heap0 g1))
  clear g0 g1
  rw [hme] at ME NE
  rw [hmf] at MF NF
  simp only [Bool.false_eq_true, if_false] at NE NF
  clear he hf hkt hme hmf
  unfold UpPost at NE NF
  unfold evV zeroE at *
  go_enter Tryd.func5, Tryd.ntmps5
  go_upto_region 3 with (first
    | (go_at_call 7; (with_reducible refine (LE.out _ HF0).mono ?_); intro e1 w1 h1; obtain ⟨bE, rfl, hbE, hf1⟩ := h1; obtain ⟨d0, d1, d2, d3, _, _, _, _⟩ := C1.out _ hf1; cases bE)
    | (go_at_call 7; (with_reducible refine (LF.out _ (HF0.trans hf1)).mono ?_); intro e2 w2 h2; obtain ⟨bF, rfl, hbF, hf2⟩ := h2; clear d0 d1 d2 d3; cases bF)
    | (go_at_call 9; (with_reducible refine (AW.out _ (HF0.trans (hf1.trans hf2))).mono ?_); rintro e3 w3 ⟨rfl, hf3⟩)
    | (go_at_call 9; (with_reducible refine (AW.out _ (HF0.trans hf1)).mono ?_); rintro e3 w3 ⟨rfl, hf3⟩))
  all_goals first | (go_ret; first | exact ⟨rfl, HF0.trans (hf1.trans hf3)⟩ | exact ⟨rfl, HF0.trans ((hf1.trans hf2).trans hf3)⟩) | skip
  have F3 := (hf1.trans hf2).trans hf3
  clear hbE hbF hf1 hf2 hf3 LE LF AW
  obtain ⟨c0, c1, c2, c3, _, _, _, _⟩ := C0.out _ F3

  go_wp2_with (first
    | (go_at_call 23; (with_reducible refine (NE.out _ (HF0.trans F3)).mono ?_); rintro e4 w4 ⟨s4, rfl, hn4, hf4⟩; have FX4 : Fr No _ (w4.alloc (.cells #[.int .u8 0, .int .u8 0, .slice s4.qn 0 s4.cn, .slice s4.qt 0 s4.ct] 25)) := F3.trans (hf4.alloc _); clear c0 c1 c2 c3; obtain ⟨d0, d1, d2, d3, _, _, _, _⟩ := C1.out _ (F3.trans hf4); have zl4 : w.heap.size + 1 < w4.heap.size := World.block_lt_of_cell? w4 _ d0)
    | (go_at_call 23; (with_reducible refine (NF.out _ (HF0.trans FX4)).mono ?_); rintro e5 w5 ⟨s5, rfl, hn5, hf5⟩; have FX5 : Fr No _ (w5.alloc (.cells #[.int .u8 0, .int .u8 0, .slice s5.qn 0 s5.cn, .slice s5.qt 0 s5.ct] 25)) := FX4.trans (hf5.alloc _); clear d0 d1 d2 d3; obtain ⟨c0, c1, c2, c3, _, _, _, _⟩ := C0.out _ (FX4.trans hf5); have zl5 : w.heap.size < w5.heap.size := World.block_lt_of_cell? w5 _ c0)
    | (go_at_call 24; (with_reducible refine (ME.out _ (HF0.trans FX5)).mono ?_); rintro e6 w6 ⟨rfl, hf6⟩; have FX6 := FX5.trans hf6; clear c0 c1 c2 c3; obtain ⟨d0, d1, d2, d3, _, _, _, _⟩ := C1.out _ FX6)
    | (go_at_call 24; (with_reducible refine (MF.out _ (HF0.trans FX6)).mono ?_); rintro e7 w7 ⟨rfl, hf7⟩; have FX7 := FX6.trans hf7))
  go_ret
  exact ⟨rfl, HF0.trans FX7⟩

set_option maxHeartbeats 8000000 in
set_option maxRecDepth 100000 in
theorem one_01 (s t : EvP) (e f : Ev) (ww vv : Nat) (w : World) (he : EvAt w s e) (hf : EvAt w t f) (hes : e.nums.length ≤ 17592186044416 ∧ e.texts.length ≤ 8796093022208)
    (hfs : f.nums.length ≤ 17592186044416 ∧ f.texts.length ≤ 8796093022208) (hkt : KT w) (hme : mayS e = false) (hmf : mayS f = true) :
    Calls Tryd.prog 5 #[evV s e, evV t f, .int .u8 ww, .int .u8 vv] w fun en w' => en = .returned (.bool true) ∧ Fr No w w' := by
  have AW := hid (fun w1 (h : Fr No w w1) => awake7_any w1 (hkt.fr h))
  have LE := hid (fun w1 (h : Fr No w w1) => long7_any s e w1 (he.fr h) (by omega) (by omega))
  have LF := hid (fun w1 (h : Fr No w w1) => long7_any t f w1 (hf.fr h) (by omega) (by omega))
  have NE := hid (fun w1 (h : Fr No w w1) => newest_any s e w1 (he.fr h) (hkt.fr h))
  have NF := hid (fun w1 (h : Fr No w w1) => newest_any t f w1 (hf.fr h) (hkt.fr h))
  have ME := hid (fun w1 (h : Fr No w w1) => may_any s e w1 (he.fr h) (hkt.fr h))
  have MF := hid (fun w1 (h : Fr No w w1) => may_any t f w1 (hf.fr h) (hkt.fr h))
  unfold newestR at NE NF
  have HF0 : Fr No w ((w.alloc (.cells #[.int .u8 e.v, .int .u8 e.kind, .slice s.qn e.nums.length s.cn, .slice s.qt e.texts.length s.ct] 25)).alloc (.cells #[.int .u8 f.v, .int .u8 f.kind, .slice t.qn f.nums.length t.cn, .slice t.qt f.texts.length t.ct] 25)) := ((Fr.refl w).alloc _).alloc _
  have g1 := Go.heap_alloc_new (w.alloc (.cells #[.int .u8 e.v, .int .u8 e.kind, .slice s.qn e.nums.length s.cn, .slice s.qt e.texts.length s.ct] 25)) (.cells #[.int .u8 f.v, .int .u8 f.kind, .slice t.qn f.nums.length t.cn, .slice t.qt f.texts.length t.ct] 25)
  have g0 : ((w.alloc (.cells #[.int .u8 e.v, .int .u8 e.kind, .slice s.qn e.nums.length s.cn, .slice s.qt e.texts.length s.ct] 25)).alloc (.cells #[.int .u8 f.v, .int .u8 f.kind, .slice t.qn f.nums.length t.cn, .slice t.qt f.texts.length t.ct] 25)).heap[w.heap.size]? = some (.cells #[.int .u8 e.v, .int .u8 e.kind, .slice s.qn e.nums.length s.cn, .slice s.qt e.texts.length s.ct] 25 (0, 0)) := by
    rw [Below.heap_alloc _ _ _ (by simp)]; exact Go.heap_alloc_new _ _
  simp only [World.size_alloc] at g1
  have C0 := hid (fun w1 (h : Fr No _ w1) => Go.Proofs.YtgjabbhgmecbbaaDoor.cells4 (h.heap0 g0))
  have C1 := hid (fun w1 (h : Fr No _ w1) => Go.Proofs.YtgjabbhgmecbbaaDoor.cells4 (h.heap0 g1))
  clear g0 g1
  rw [hme] at ME NE
  rw [hmf] at MF NF
  simp only [if_true, Bool.false_eq_true, if_false] at NE NF
  clear he hf hkt hme hmf
  generalize topS f = TF at NF
  unfold UpPost at NE NF
  unfold evV zeroE at *
  go_enter Tryd.func5, Tryd.ntmps5
  go_upto_region 3 with (first
    | (go_at_call 7; (with_reducible refine (LE.out _ HF0).mono ?_); intro e1 w1 h1; obtain ⟨bE, rfl, hbE, hf1⟩ := h1; obtain ⟨d0, d1, d2, d3, _, _, _, _⟩ := C1.out _ hf1; cases bE)
    | (go_at_call 7; (with_reducible refine (LF.out _ (HF0.trans hf1)).mono ?_); intro e2 w2 h2; obtain ⟨bF, rfl, hbF, hf2⟩ := h2; clear d0 d1 d2 d3; cases bF)
    | (go_at_call 9; (with_reducible refine (AW.out _ (HF0.trans (hf1.trans hf2))).mono ?_); rintro e3 w3 ⟨rfl, hf3⟩)
    | (go_at_call 9; (with_reducible refine (AW.out _ (HF0.trans hf1)).mono ?_); rintro e3 w3 ⟨rfl, hf3⟩))
  all_goals first | (go_ret; first | exact ⟨rfl, HF0.trans (hf1.trans hf3)⟩ | exact ⟨rfl, HF0.trans ((hf1.trans hf2).trans hf3)⟩) | skip
  have F3 := (hf1.trans hf2).trans hf3
  clear hbE hbF hf1 hf2 hf3 LE LF AW
  obtain ⟨c0, c1, c2, c3, _, _, _, _⟩ := C0.out _ F3

  go_wp2_with (first
    | (go_at_call 23; (with_reducible refine (NE.out _ (HF0.trans F3)).mono ?_); rintro e4 w4 ⟨s4, rfl, hn4, hf4⟩; have FX4 : Fr No _ (w4.alloc (.cells #[.int .u8 0, .int .u8 0, .slice s4.qn 0 s4.cn, .slice s4.qt 0 s4.ct] 25)) := F3.trans (hf4.alloc _); clear c0 c1 c2 c3; obtain ⟨d0, d1, d2, d3, _, _, _, _⟩ := C1.out _ (F3.trans hf4); have zl4 : w.heap.size + 1 < w4.heap.size := World.block_lt_of_cell? w4 _ d0)
    | (go_at_call 23; (with_reducible refine (NF.out _ (HF0.trans FX4)).mono ?_); rintro e5 w5 ⟨s5, rfl, hn5, hf5⟩; have FX5 : Fr No _ (w5.alloc (.cells #[.int .u8 TF.v, .int .u8 TF.kind, .slice s5.qn TF.nums.length s5.cn, .slice s5.qt TF.texts.length s5.ct] 25)) := FX4.trans (hf5.alloc _); clear d0 d1 d2 d3; obtain ⟨c0, c1, c2, c3, _, _, _, _⟩ := C0.out _ (FX4.trans hf5); have zl5 : w.heap.size < w5.heap.size := World.block_lt_of_cell? w5 _ c0)
    | (go_at_call 24; (with_reducible refine (ME.out _ (HF0.trans FX5)).mono ?_); rintro e6 w6 ⟨rfl, hf6⟩; have FX6 := FX5.trans hf6; clear c0 c1 c2 c3; obtain ⟨d0, d1, d2, d3, _, _, _, _⟩ := C1.out _ FX6)
    | (go_at_call 24; (with_reducible refine (MF.out _ (HF0.trans FX6)).mono ?_); rintro e7 w7 ⟨rfl, hf7⟩; have FX7 := FX6.trans hf7))
  go_ret
  exact ⟨rfl, HF0.trans FX7⟩

set_option maxHeartbeats 8000000 in
set_option maxRecDepth 100000 in
theorem one_10 (s t : EvP) (e f : Ev) (ww vv : Nat) (w : World) (he : EvAt w s e) (hf : EvAt w t f) (hes : e.nums.length ≤ 17592186044416 ∧ e.texts.length ≤ 8796093022208)
    (hfs : f.nums.length ≤ 17592186044416 ∧ f.texts.length ≤ 8796093022208) (hkt : KT w) (hme : mayS e = true) (hmf : mayS f = false) :
    Calls Tryd.prog 5 #[evV s e, evV t f, .int .u8 ww, .int .u8 vv] w fun en w' => en = .returned (.bool true) ∧ Fr No w w' := by
  have AW := hid (fun w1 (h : Fr No w w1) => awake7_any w1 (hkt.fr h))
  have LE := hid (fun w1 (h : Fr No w w1) => long7_any s e w1 (he.fr h) (by omega) (by omega))
  have LF := hid (fun w1 (h : Fr No w w1) => long7_any t f w1 (hf.fr h) (by omega) (by omega))
  have NE := hid (fun w1 (h : Fr No w w1) => newest_any s e w1 (he.fr h) (hkt.fr h))
  have NF := hid (fun w1 (h : Fr No w w1) => newest_any t f w1 (hf.fr h) (hkt.fr h))
  have ME := hid (fun w1 (h : Fr No w w1) => may_any s e w1 (he.fr h) (hkt.fr h))
  have MF := hid (fun w1 (h : Fr No w w1) => may_any t f w1 (hf.fr h) (hkt.fr h))
  unfold newestR at NE NF
  have HF0 : Fr No w ((w.alloc (.cells #[.int .u8 e.v, .int .u8 e.kind, .slice s.qn e.nums.length s.cn, .slice s.qt e.texts.length s.ct] 25)).alloc (.cells #[.int .u8 f.v, .int .u8 f.kind, .slice t.qn f.nums.length t.cn, .slice t.qt f.texts.length t.ct] 25)) := ((Fr.refl w).alloc _).alloc _
  have g1 := Go.heap_alloc_new (w.alloc (.cells #[.int .u8 e.v, .int .u8 e.kind, .slice s.qn e.nums.length s.cn, .slice s.qt e.texts.length s.ct] 25)) (.cells #[.int .u8 f.v, .int .u8 f.kind, .slice t.qn f.nums.length t.cn, .slice t.qt f.texts.length t.ct] 25)
  have g0 : ((w.alloc (.cells #[.int .u8 e.v, .int .u8 e.kind, .slice s.qn e.nums.length s.cn, .slice s.qt e.texts.length s.ct] 25)).alloc (.cells #[.int .u8 f.v, .int .u8 f.kind, .slice t.qn f.nums.length t.cn, .slice t.qt f.texts.length t.ct] 25)).heap[w.heap.size]? = some (.cells #[.int .u8 e.v, .int .u8 e.kind, .slice s.qn e.nums.length s.cn, .slice s.qt e.texts.length s.ct] 25 (0, 0)) := by
    rw [Below.heap_alloc _ _ _ (by simp)]; exact Go.heap_alloc_new _ _
  simp only [World.size_alloc] at g1
  have C0 := hid (fun w1 (h : Fr No _ w1) => Go.Proofs.YtgjabbhgmecbbaaDoor.cells4 (h.heap0 g0))
  have C1 := hid (fun w1 (h : Fr No _ w1) => Go.Proofs.YtgjabbhgmecbbaaDoor.cells4 (h.heap0 g1))
  clear g0 g1
  rw [hme] at ME NE
  rw [hmf] at MF NF
  simp only [if_true, Bool.false_eq_true, if_false] at NE NF
  clear he hf hkt hme hmf
  generalize topS e = TE at NE
  unfold UpPost at NE NF
  unfold evV zeroE at *
  go_enter Tryd.func5, Tryd.ntmps5
  go_upto_region 3 with (first
    | (go_at_call 7; (with_reducible refine (LE.out _ HF0).mono ?_); intro e1 w1 h1; obtain ⟨bE, rfl, hbE, hf1⟩ := h1; obtain ⟨d0, d1, d2, d3, _, _, _, _⟩ := C1.out _ hf1; cases bE)
    | (go_at_call 7; (with_reducible refine (LF.out _ (HF0.trans hf1)).mono ?_); intro e2 w2 h2; obtain ⟨bF, rfl, hbF, hf2⟩ := h2; clear d0 d1 d2 d3; cases bF)
    | (go_at_call 9; (with_reducible refine (AW.out _ (HF0.trans (hf1.trans hf2))).mono ?_); rintro e3 w3 ⟨rfl, hf3⟩)
    | (go_at_call 9; (with_reducible refine (AW.out _ (HF0.trans hf1)).mono ?_); rintro e3 w3 ⟨rfl, hf3⟩))
  all_goals first | (go_ret; first | exact ⟨rfl, HF0.trans (hf1.trans hf3)⟩ | exact ⟨rfl, HF0.trans ((hf1.trans hf2).trans hf3)⟩) | skip
  have F3 := (hf1.trans hf2).trans hf3
  clear hbE hbF hf1 hf2 hf3 LE LF AW
  obtain ⟨c0, c1, c2, c3, _, _, _, _⟩ := C0.out _ F3

  go_wp2_with (first
    | (go_at_call 23; (with_reducible refine (NE.out _ (HF0.trans F3)).mono ?_); rintro e4 w4 ⟨s4, rfl, hn4, hf4⟩; have FX4 : Fr No _ (w4.alloc (.cells #[.int .u8 TE.v, .int .u8 TE.kind, .slice s4.qn TE.nums.length s4.cn, .slice s4.qt TE.texts.length s4.ct] 25)) := F3.trans (hf4.alloc _); clear c0 c1 c2 c3; obtain ⟨d0, d1, d2, d3, _, _, _, _⟩ := C1.out _ (F3.trans hf4); have zl4 : w.heap.size + 1 < w4.heap.size := World.block_lt_of_cell? w4 _ d0)
    | (go_at_call 23; (with_reducible refine (NF.out _ (HF0.trans FX4)).mono ?_); rintro e5 w5 ⟨s5, rfl, hn5, hf5⟩; have FX5 : Fr No _ (w5.alloc (.cells #[.int .u8 0, .int .u8 0, .slice s5.qn 0 s5.cn, .slice s5.qt 0 s5.ct] 25)) := FX4.trans (hf5.alloc _); clear d0 d1 d2 d3; obtain ⟨c0, c1, c2, c3, _, _, _, _⟩ := C0.out _ (FX4.trans hf5); have zl5 : w.heap.size < w5.heap.size := World.block_lt_of_cell? w5 _ c0)
    | (go_at_call 24; (with_reducible refine (ME.out _ (HF0.trans FX5)).mono ?_); rintro e6 w6 ⟨rfl, hf6⟩; have FX6 := FX5.trans hf6; clear c0 c1 c2 c3; obtain ⟨d0, d1, d2, d3, _, _, _, _⟩ := C1.out _ FX6)
    | (go_at_call 24; (with_reducible refine (MF.out _ (HF0.trans FX6)).mono ?_); rintro e7 w7 ⟨rfl, hf7⟩; have FX7 := FX6.trans hf7))
  go_ret
  exact ⟨rfl, HF0.trans FX7⟩

set_option maxHeartbeats 16000000 in
set_option maxRecDepth 100000 in
theorem one_11 (s t : EvP) (e f : Ev) (ww vv : Nat) (w : World) (he : EvAt w s e) (hf : EvAt w t f) (hes : e.nums.length ≤ 17592186044416 ∧ e.texts.length ≤ 8796093022208)
    (hfs : f.nums.length ≤ 17592186044416 ∧ f.texts.length ≤ 8796093022208) (hkt : KT w) (hme : mayS e = true) (hmf : mayS f = true) :
    Calls Tryd.prog 5 #[evV s e, evV t f, .int .u8 ww, .int .u8 vv] w fun en w' => en = .returned (.bool true) ∧ Fr No w w' := by
  have TE := hid (fun x w1 (h : Fr No w w1) => to_any s e x w1 (he.fr h) (hkt.fr h))
  have TF := hid (fun x w1 (h : Fr No w w1) => to_any t f x w1 (hf.fr h) (hkt.fr h))
  have SS := hid (fun x (s' t' : EvP) w1 (h1 : EvNew w.heap.size w1 s' (toR e x).1) (h2 : EvNew w.heap.size w1 t' (toR f x).1) => same_any s' t' (toR e x).1 (toR f x).1 w1 h1.toR h2.toR)
  have ST := hid (fun (s' t' : EvP) w1 (h1 : EvNew w.heap.size w1 s' (topS e)) (h2 : EvNew w.heap.size w1 t' (topS f)) => same_any s' t' (topS e) (topS f) w1 (h1.may (upTo_may _ _ hme (by have := may_is hme; omega)) (may_kind (upTo_may _ _ hme (by have := may_is hme; omega)))) (h2.may (upTo_may _ _ hmf (by have := may_is hmf; omega)) (may_kind (upTo_may _ _ hmf (by have := may_is hmf; omega)))))
  have PL := hid (fun x (hx : x = e.v ∨ x = f.v) => one_plain hme hmf hx)
  have HW := hid (fun g (hg : toR e ww = (g, 0)) => toR_way (v := vv) hg hme)
  have SV := hid (fun (s' t' : EvP) w1 (h1 : EvNew w.heap.size w1 s' (toR e vv).1) (h2 : EvNew w.heap.size w1 t' (toR e vv).1) => same_any s' t' (toR e vv).1 (toR e vv).1 w1 h1.toR h2.toR)
  have TG := hid (fun g (s' : EvP) w1 (hg : toR e ww = (g, 0)) (h1 : EvNew w.heap.size w1 s' g) (h : Fr No w w1) => (by
    obtain ⟨m1, m2, m3⟩ := toR_way (v := vv) hg hme
    have h := to_any s' g vv w1 (h1.may m1 (may_kind m1)) (hkt.fr h)
    rwa [m3] at h : Calls Tryd.prog 14 #[evV s' g, .int .u8 vv] w1 (UpPost w1 (toR e vv))))
  have hev := (may_is hme).2
  have hfv := (may_is hmf).2
  have AW := hid (fun w1 (h : Fr No w w1) => awake7_any w1 (hkt.fr h))
  have LE := hid (fun w1 (h : Fr No w w1) => long7_any s e w1 (he.fr h) (by omega) (by omega))
  have LF := hid (fun w1 (h : Fr No w w1) => long7_any t f w1 (hf.fr h) (by omega) (by omega))
  have NE := hid (fun w1 (h : Fr No w w1) => newest_any s e w1 (he.fr h) (hkt.fr h))
  have NF := hid (fun w1 (h : Fr No w w1) => newest_any t f w1 (hf.fr h) (hkt.fr h))
  have ME := hid (fun w1 (h : Fr No w w1) => may_any s e w1 (he.fr h) (hkt.fr h))
  have MF := hid (fun w1 (h : Fr No w w1) => may_any t f w1 (hf.fr h) (hkt.fr h))
  unfold newestR at NE NF
  have HF0 : Fr No w ((w.alloc (.cells #[.int .u8 e.v, .int .u8 e.kind, .slice s.qn e.nums.length s.cn, .slice s.qt e.texts.length s.ct] 25)).alloc (.cells #[.int .u8 f.v, .int .u8 f.kind, .slice t.qn f.nums.length t.cn, .slice t.qt f.texts.length t.ct] 25)) := ((Fr.refl w).alloc _).alloc _
  have g1 := Go.heap_alloc_new (w.alloc (.cells #[.int .u8 e.v, .int .u8 e.kind, .slice s.qn e.nums.length s.cn, .slice s.qt e.texts.length s.ct] 25)) (.cells #[.int .u8 f.v, .int .u8 f.kind, .slice t.qn f.nums.length t.cn, .slice t.qt f.texts.length t.ct] 25)
  have g0 : ((w.alloc (.cells #[.int .u8 e.v, .int .u8 e.kind, .slice s.qn e.nums.length s.cn, .slice s.qt e.texts.length s.ct] 25)).alloc (.cells #[.int .u8 f.v, .int .u8 f.kind, .slice t.qn f.nums.length t.cn, .slice t.qt f.texts.length t.ct] 25)).heap[w.heap.size]? = some (.cells #[.int .u8 e.v, .int .u8 e.kind, .slice s.qn e.nums.length s.cn, .slice s.qt e.texts.length s.ct] 25 (0, 0)) := by
    rw [Below.heap_alloc _ _ _ (by simp)]; exact Go.heap_alloc_new _ _
  simp only [World.size_alloc] at g1
  have C0 := hid (fun w1 (h : Fr No _ w1) => Go.Proofs.YtgjabbhgmecbbaaDoor.cells4 (h.heap0 g0))
  have C1 := hid (fun w1 (h : Fr No _ w1) => Go.Proofs.YtgjabbhgmecbbaaDoor.cells4 (h.heap0 g1))
  clear g0 g1
  rw [hme] at NE
  rw [hmf] at NF
  simp only [if_true] at NE NF
  clear he hf hkt hme hmf ME MF
  rw [sameS_self] at SV
  generalize topS e = TE0 at NE ST PL
  generalize topS f = TF0 at NF ST PL
  generalize sameS TE0 TF0 = SB at ST PL
  generalize hRV : toR e vv = RV at SV TG HW
  have HRV := hid hRV
  clear hRV
  unfold UpPost at *
  unfold evV at *
  go_enter Tryd.func5, Tryd.ntmps5
  go_upto_region 3 with (first
    | (go_at_call 7; (with_reducible refine (LE.out _ HF0).mono ?_); intro e1 w1 h1; obtain ⟨bE, rfl, hbE, hf1⟩ := h1; obtain ⟨d0, d1, d2, d3, _, _, _, _⟩ := C1.out _ hf1; cases bE)
    | (go_at_call 7; (with_reducible refine (LF.out _ (HF0.trans hf1)).mono ?_); intro e2 w2 h2; obtain ⟨bF, rfl, hbF, hf2⟩ := h2; clear d0 d1 d2 d3; cases bF)
    | (go_at_call 9; (with_reducible refine (AW.out _ (HF0.trans (hf1.trans hf2))).mono ?_); rintro e3 w3 ⟨rfl, hf3⟩)
    | (go_at_call 9; (with_reducible refine (AW.out _ (HF0.trans hf1)).mono ?_); rintro e3 w3 ⟨rfl, hf3⟩))
  all_goals first | (go_ret; first | exact ⟨rfl, HF0.trans (hf1.trans hf3)⟩ | exact ⟨rfl, HF0.trans ((hf1.trans hf2).trans hf3)⟩) | skip
  have F3 := (hf1.trans hf2).trans hf3
  clear hbE hbF hf1 hf2 hf3 LE LF AW
  obtain ⟨c0, c1, c2, c3, _, _, _, _⟩ := C0.out _ F3

  go_upto_region 8 with (first
    | (go_at_call 23; (with_reducible refine (NE.out _ (HF0.trans F3)).mono ?_); rintro e4 w4 ⟨s4, rfl, hn4, hf4⟩; have FX4 : Fr No _ (w4.alloc (.cells #[.int .u8 TE0.v, .int .u8 TE0.kind, .slice s4.qn TE0.nums.length s4.cn, .slice s4.qt TE0.texts.length s4.ct] 25)) := F3.trans (hf4.alloc _); clear c0 c1 c2 c3; obtain ⟨d0, d1, d2, d3, _, _, _, _⟩ := C1.out _ (F3.trans hf4); have zl4 : w.heap.size + 1 < w4.heap.size := World.block_lt_of_cell? w4 _ d0)
    | (go_at_call 23; (with_reducible refine (NF.out _ (HF0.trans FX4)).mono ?_); rintro e5 w5 ⟨s5, rfl, hn5, hf5⟩; have FX5 : Fr No _ (w5.alloc (.cells #[.int .u8 TF0.v, .int .u8 TF0.kind, .slice s5.qn TF0.nums.length s5.cn, .slice s5.qt TF0.texts.length s5.ct] 25)) := FX4.trans (hf5.alloc _); have hX4 := Go.Proofs.YtgjabbhgmecbbaaDoor.cells4 (hf5.heap0 (Go.heap_alloc_new w4 (.cells #[.int .u8 TE0.v, .int .u8 TE0.kind, .slice s4.qn TE0.nums.length s4.cn, .slice s4.qt TE0.texts.length s4.ct] 25))); clear d0 d1 d2 d3; obtain ⟨k0, k1, k2, k3, _, _, _, _⟩ := hX4; have zl5 : w4.heap.size < w5.heap.size := World.block_lt_of_cell? w5 _ k0)
    | (go_at_call 22; (with_reducible refine (ST.out s4 s5 _ (((hn4.mono (HF0.trans F3).size).fr ((Fr.refl _).alloc _)).fr (hf5.alloc _)) ((hn5.mono (HF0.trans FX4).size).fr ((Fr.refl _).alloc _))).mono ?_); rintro e6 w6 ⟨rfl, hf6⟩; have FX6 := FX5.trans hf6))
  obtain ⟨c0, c1, c2, c3, _, _, _, _⟩ := C0.out _ FX6
  obtain ⟨d0, d1, d2, d3, _, _, _, _⟩ := C1.out _ FX6
  clear ST NE NF k0 k1 k2 k3 hf4 hf5 hf6 hn4 hn5
  go_cut [78, 79, 80] from 26 (fun x y z w' => y = .int .i64 2 ∧ z = .int .i64 0 ∧ Fr No w6 w' ∧ ∃ (b X Y : Nat), x = .slice (some ⟨b, 0, none⟩) 2 2 ∧ Hid ((X = e.v ∨ X = f.v) ∧ (Y = e.v ∨ Y = f.v)) ∧ w'.heap[b]? = some (.cells #[.int .u8 X, .int .u8 Y] 5 (0, 0)))
  case first =>
    go_wp2_with fail
    all_goals
      go_meet
      case rel =>
        first
        | exact ⟨rfl, rfl, (Fr.refl _).alloc _, w6.heap.size, f.v, e.v, rfl, hid (by simp), Go.heap_alloc_new w6 _⟩
        | exact ⟨rfl, rfl, (Fr.refl _).alloc _, w6.heap.size, e.v, f.v, rfl, hid (by simp), Go.heap_alloc_new w6 _⟩
        | exact ⟨rfl, rfl, (Fr.refl _).alloc _, w6.heap.size, e.v, e.v, rfl, hid (by simp), Go.heap_alloc_new w6 _⟩
  obtain ⟨rfl, rfl, h67, bx, X, Y, rfl, HXY, hbx⟩ := hcut
  rename World => w7
  have FX7 := FX6.trans h67
  have HROW := hid (fun wr (h : Fr No w7 wr) m (hm : m < 2) => (by
    have hc := h.heap0 hbx
    rcases (show m = 0 ∨ m = 1 by omega) with rfl | rfl
    · exact ⟨X, HXY.out.1, cell_of_row wr bx 0 _ _ (0, 0) hc⟩
    · exact ⟨Y, HXY.out.2, cell_of_row wr bx 1 _ _ (0, 0) hc⟩ : ∃ x : Nat, (x = e.v ∨ x = f.v) ∧ wr.cell? ⟨bx, m, none⟩ = some (.int .u8 x)))
  clear hbx c0 c1 c2 c3 d0 d1 d2 d3 HXY
  go_wp2_with fail
  go_loopg [80] 2 (fun k i wr => ∃ m : Nat, m ≤ 2 ∧ 2 ≤ m + k ∧ i = .int .i64 m ∧ Fr No w7 wr)
  case atStart => exact ⟨0, by omega, by omega, rfl, Fr.refl _⟩
  case round =>
    obtain ⟨m, hm, hk, rfl, hfr⟩ := hrel
    have FW := FX7.trans hfr
    obtain ⟨c0, c1, c2, c3, _, _, _, _⟩ := C0.out _ FW
    by_cases hlt : m < 2
    · obtain ⟨x, hx, hcx⟩ := HROW.out wr hfr m hlt
      have PLx := hid (PL.out x hx)
      have TEx := hid (TE.out x)
      have TFx := hid (TF.out x)
      have SSx := hid (SS.out x)
      have i1 : (m : Int) < 2 := by omega
      have i2 : (0 : Int) ≤ (m : Int) := by omega
      clear hx hlt
      generalize toR e x = R1 at PLx TEx SSx
      generalize toR f x = R2 at PLx TFx SSx
      by_cases hz1 : R1.2 = 0
      · have z1 : (R1.2 == 0) = true := by rw [hz1]; rfl
        by_cases hz2 : R2.2 = 0
        · have z2 : (R2.2 == 0) = true := by rw [hz2]; rfl
          rw [hz1, hz2] at PLx
          have hA : sameS R1.1 R2.1 = SB := by have := PLx.out; simpa using this
          rw [hA] at SSx
          have zz : (SB != SB) = false := by cases SB <;> rfl
          clear hz1 hz2 hA PLx
          go_wp2_with (first
            | (go_at_call 14; (with_reducible refine (TEx.out _ (HF0.trans FW)).mono ?_); rintro e8 w8 ⟨s8, rfl, hn8, hf8⟩; have FX8 : Fr No _ (w8.alloc (.cells #[.int .u8 R1.1.v, .int .u8 R1.1.kind, .slice s8.qn R1.1.nums.length s8.cn, .slice s8.qt R1.1.texts.length s8.ct] 25)) := FW.trans (hf8.alloc _); clear c0 c1 c2 c3; obtain ⟨d0, d1, d2, d3, _, _, _, _⟩ := C1.out _ (FW.trans hf8); have zl8 : w.heap.size + 1 < w8.heap.size := World.block_lt_of_cell? w8 _ d0)
            | (go_at_call 14; (with_reducible refine (TFx.out _ (HF0.trans FX8)).mono ?_); rintro e9 w9 ⟨s9, rfl, hn9, hf9⟩; have FX9 : Fr No _ (w9.alloc (.cells #[.int .u8 R2.1.v, .int .u8 R2.1.kind, .slice s9.qn R2.1.nums.length s9.cn, .slice s9.qt R2.1.texts.length s9.ct] 25)) := FX8.trans (hf9.alloc _); have hX8 := Go.Proofs.YtgjabbhgmecbbaaDoor.cells4 (hf9.heap0 (Go.heap_alloc_new w8 (.cells #[.int .u8 R1.1.v, .int .u8 R1.1.kind, .slice s8.qn R1.1.nums.length s8.cn, .slice s8.qt R1.1.texts.length s8.ct] 25))); clear d0 d1 d2 d3; obtain ⟨k0, k1, k2, k3, _, _, _, _⟩ := hX8; have zl9 : w8.heap.size < w9.heap.size := World.block_lt_of_cell? w9 _ k0)
            | (go_at_call 22; (with_reducible refine (SSx.out s8 s9 _ (((hn8.mono (HF0.trans FW).size).fr ((Fr.refl _).alloc _)).fr (hf9.alloc _)) ((hn9.mono (HF0.trans FX8).size).fr ((Fr.refl _).alloc _))).mono ?_); rintro eA wA ⟨rfl, hfA⟩; have FXA := FX9.trans hfA))
          go_roundg (gk - 1)
          case measure => omega
          case rel => exact ⟨m + 1, by omega, by omega, by go_num, (hfr.trans (hf8.alloc _)).trans ((hf9.alloc _).trans hfA)⟩
        · have z2 : (R2.2 == 0) = false := by rw [beq_eq_false_iff_ne]; exact hz2
          have hA : SB = false := by have := PLx.out; simp [hz2] at this; exact this
          clear hz1 hz2 PLx
          subst hA
          go_wp2_with (first
            | (go_at_call 14; (with_reducible refine (TEx.out _ (HF0.trans FW)).mono ?_); rintro e8 w8 ⟨s8, rfl, hn8, hf8⟩; have FX8 : Fr No _ (w8.alloc (.cells #[.int .u8 R1.1.v, .int .u8 R1.1.kind, .slice s8.qn R1.1.nums.length s8.cn, .slice s8.qt R1.1.texts.length s8.ct] 25)) := FW.trans (hf8.alloc _); clear c0 c1 c2 c3; obtain ⟨d0, d1, d2, d3, _, _, _, _⟩ := C1.out _ (FW.trans hf8); have zl8 : w.heap.size + 1 < w8.heap.size := World.block_lt_of_cell? w8 _ d0)
            | (go_at_call 14; (with_reducible refine (TFx.out _ (HF0.trans FX8)).mono ?_); rintro e9 w9 ⟨s9, rfl, hn9, hf9⟩; have FX9 : Fr No _ (w9.alloc (.cells #[.int .u8 R2.1.v, .int .u8 R2.1.kind, .slice s9.qn R2.1.nums.length s9.cn, .slice s9.qt R2.1.texts.length s9.ct] 25)) := FX8.trans (hf9.alloc _); clear d0 d1 d2 d3))
          go_roundg (gk - 1)
          case measure => omega
          case rel => exact ⟨m + 1, by omega, by omega, by go_num, (hfr.trans (hf8.alloc _)).trans (hf9.alloc _)⟩
      · have z1 : (R1.2 == 0) = false := by rw [beq_eq_false_iff_ne]; exact hz1
        have hA : SB = false := by have := PLx.out; simp [hz1] at this; exact this
        clear hz1 PLx
        subst hA
        go_wp2_with (first
          | (go_at_call 14; (with_reducible refine (TEx.out _ (HF0.trans FW)).mono ?_); rintro e8 w8 ⟨s8, rfl, hn8, hf8⟩; have FX8 : Fr No _ (w8.alloc (.cells #[.int .u8 R1.1.v, .int .u8 R1.1.kind, .slice s8.qn R1.1.nums.length s8.cn, .slice s8.qt R1.1.texts.length s8.ct] 25)) := FW.trans (hf8.alloc _); clear c0 c1 c2 c3; obtain ⟨d0, d1, d2, d3, _, _, _, _⟩ := C1.out _ (FW.trans hf8); have zl8 : w.heap.size + 1 < w8.heap.size := World.block_lt_of_cell? w8 _ d0)
          | (go_at_call 14; (with_reducible refine (TFx.out _ (HF0.trans FX8)).mono ?_); rintro e9 w9 ⟨s9, rfl, hn9, hf9⟩; have FX9 : Fr No _ (w9.alloc (.cells #[.int .u8 R2.1.v, .int .u8 R2.1.kind, .slice s9.qn R2.1.nums.length s9.cn, .slice s9.qt R2.1.texts.length s9.ct] 25)) := FX8.trans (hf9.alloc _); clear d0 d1 d2 d3))
        go_roundg (gk - 1)
        case measure => omega
        case rel => exact ⟨m + 1, by omega, by omega, by go_num, (hfr.trans (hf8.alloc _)).trans (hf9.alloc _)⟩
    · obtain rfl : m = 2 := by omega
      have TW := hid (TE.out ww)
      rcases toR_cases e ww with ⟨_, _, _, g, _, hg, _⟩ | ⟨k, hk0, hg⟩
      · rw [hg] at TW
        obtain ⟨_, hgv, _⟩ := HW.out g hg
        have TGg := hid (fun s' w1 => TG.out g s' w1 hg)
        have TV := hid (TE.out vv)
        rw [HRV.out] at TV
        have zv : (RV.2 == RV.2) = true := by simp
        clear hg HW
        subst hgv
        go_wp2_with (first
          | (go_at_call 14; (with_reducible refine (TW.out _ (HF0.trans FW)).mono ?_); rintro e8 w8 ⟨s8, rfl, hn8, hf8⟩; have FX8 : Fr No _ (w8.alloc (.cells #[.int .u8 g.v, .int .u8 g.kind, .slice s8.qn g.nums.length s8.cn, .slice s8.qt g.texts.length s8.ct] 25)) := FW.trans (hf8.alloc _); clear c0 c1 c2 c3)
          | (go_at_call 14; (with_reducible refine (TGg.out s8 _ ((hn8.mono (HF0.trans FW).size).fr ((Fr.refl _).alloc _)) (HF0.trans FX8)).mono ?_); rintro e9 w9 ⟨s9, rfl, hn9, hf9⟩; have FX9 : Fr No _ (w9.alloc (.cells #[.int .u8 RV.1.v, .int .u8 RV.1.kind, .slice s9.qn RV.1.nums.length s9.cn, .slice s9.qt RV.1.texts.length s9.ct] 25)) := FX8.trans (hf9.alloc _); obtain ⟨c0, c1, c2, c3, _, _, _, _⟩ := C0.out _ (FX8.trans hf9); have zl9 : w.heap.size < w9.heap.size := World.block_lt_of_cell? w9 _ c0)
          | (go_at_call 14; (with_reducible refine (TV.out _ (HF0.trans FX9)).mono ?_); rintro eA wA ⟨sA, rfl, hnA, hfA⟩; have FXA : Fr No _ (wA.alloc (.cells #[.int .u8 RV.1.v, .int .u8 RV.1.kind, .slice sA.qn RV.1.nums.length sA.cn, .slice sA.qt RV.1.texts.length sA.ct] 25)) := FX9.trans (hfA.alloc _); clear c0 c1 c2 c3; obtain ⟨k0, k1, k2, k3, _, _, _, _⟩ := Go.Proofs.YtgjabbhgmecbbaaDoor.cells4 (hfA.heap0 (Go.heap_alloc_new w9 (.cells #[.int .u8 RV.1.v, .int .u8 RV.1.kind, .slice s9.qn RV.1.nums.length s9.cn, .slice s9.qt RV.1.texts.length s9.ct] 25))); obtain ⟨y0, y1, y2, y3, _, _, _, _⟩ := Go.Proofs.YtgjabbhgmecbbaaDoor.cells4 (((hf9.alloc _).trans hfA).heap0 (Go.heap_alloc_new w8 (.cells #[.int .u8 g.v, .int .u8 g.kind, .slice s8.qn g.nums.length s8.cn, .slice s8.qt g.texts.length s8.ct] 25))); have zlA : w9.heap.size < wA.heap.size := World.block_lt_of_cell? wA _ k0; have zl8 : w8.heap.size < wA.heap.size := World.block_lt_of_cell? wA _ y0)
          | (go_at_call 22; (with_reducible refine (SV.out s9 sA _ (((hn9.mono (HF0.trans FX8).size).fr ((Fr.refl _).alloc _)).fr (hfA.alloc _)) ((hnA.mono (HF0.trans FX9).size).fr ((Fr.refl _).alloc _))).mono ?_); rintro eB wB ⟨rfl, hfB⟩; have FXB := FXA.trans hfB; clear y0 y1 y2 y3; obtain ⟨y0, y1, y2, y3, _, _, _, _⟩ := Go.Proofs.YtgjabbhgmecbbaaDoor.cells4 ((((hf9.alloc _).trans (hfA.alloc _)).trans hfB).heap0 (Go.heap_alloc_new w8 (.cells #[.int .u8 g.v, .int .u8 g.kind, .slice s8.qn g.nums.length s8.cn, .slice s8.qt g.texts.length s8.ct] 25)))))
        go_ret
        exact ⟨rfl, HF0.trans FXB⟩
      · rw [hg] at TW
        unfold zeroE at TW
        have z1 : (k != 0) = true := by rw [bne, beq_eq_false_iff_ne.2 hk0]; rfl
        clear hg hk0
        go_wp2_with (first
          | (go_at_call 14; (with_reducible refine (TW.out _ (HF0.trans FW)).mono ?_); rintro e8 w8 ⟨s8, rfl, hn8, hf8⟩; have FX8 : Fr No _ (w8.alloc (.cells #[.int .u8 0, .int .u8 0, .slice s8.qn 0 s8.cn, .slice s8.qt 0 s8.ct] 25)) := FW.trans (hf8.alloc _); clear c0 c1 c2 c3))
        go_ret
        exact ⟨rfl, HF0.trans FX8⟩
/-- UpcastOne answers true. -/
theorem one_any (s t : EvP) (e f : Ev) (ww vv : Nat) (w : World) (he : EvAt w s e) (hf : EvAt w t f) (hes : e.nums.length ≤ 17592186044416 ∧ e.texts.length ≤ 8796093022208)
    (hfs : f.nums.length ≤ 17592186044416 ∧ f.texts.length ≤ 8796093022208) (hkt : KT w) :
    Calls Tryd.prog 5 #[evV s e, evV t f, .int .u8 ww, .int .u8 vv] w fun en w' => en = .returned (.bool true) ∧ Fr No w w' := by
  rcases hme : mayS e with _ | _ <;> rcases hmf : mayS f with _ | _
  · exact one_00 s t e f ww vv w he hf hes hfs hkt hme hmf
  · exact one_01 s t e f ww vv w he hf hes hfs hkt hme hmf
  · exact one_10 s t e f ww vv w he hf hes hfs hkt hme hmf
  · exact one_11 s t e f ww vv w he hf hes hfs hkt hme hmf
end Go.Proofs.YtgjabbhgmecbbaaDoor
