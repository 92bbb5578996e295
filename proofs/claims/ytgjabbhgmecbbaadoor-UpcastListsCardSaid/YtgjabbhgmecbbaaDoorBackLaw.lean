/-
  UpcastBack: the plain law and the walk.
-/
import Derived.Test.YtgjabbhgmecbbaaDoorAwake7
import Derived.Test.YtgjabbhgmecbbaaDoorLong7
namespace Go.Proofs.YtgjabbhgmecbbaaDoor
open Go.RowKit

theorem sameS_iff {a b : Ev} : sameS a b = true ↔ a = b := by
  unfold sameS
  simp only [Bool.and_eq_true, decide_eq_true_eq]
  constructor
  · rintro ⟨h1, h2, h3, h4⟩
    rcases a with ⟨v, k, ns, ts⟩
    rcases b with ⟨v', k', ns', ts'⟩
    simp only at h1 h2 h3 h4
    subst h1 h2 h3 h4
    rfl
  · rintro rfl; exact ⟨rfl, rfl, rfl, rfl⟩
theorem sameS_self (a : Ev) : sameS a a = true := sameS_iff.2 rfl
theorem upR_cases (e : Ev) : (mayS e = true ∧ e.v < 3 ∧ upR e = (upS e, 0)) ∨ ∃ k : Int, k ≠ 0 ∧ upR e = (zeroE, k) := by
  unfold upR
  rcases hm : mayS e with _ | _
  · exact .inr ⟨4, by decide, by simp⟩
  · rcases hr : rulesIs e.v e.kind with _ | _
    · exact .inr ⟨43, by decide, by simp⟩
    · exact .inl ⟨rfl, by have := (rulesIs_range hr).1; omega, by simp⟩
theorem downR_cases (f : Ev) : (downIs f = true ∧ mayS f = true ∧ downR f = (downE f, 0)) ∨ (downIs f = false ∨ mayS f = false) ∧ ∃ k : Int, k ≠ 0 ∧ downR f = (zeroE, k) := by
  unfold downR
  rcases hm : mayS f with _ | _
  · exact .inr ⟨.inr rfl, 4, by decide, by simp⟩
  · rcases hd : downIs f with _ | _
    · exact .inr ⟨.inl rfl, 43, by decide, by simp⟩
    · exact .inl ⟨rfl, rfl, by simp⟩
/-- Down of Up is the event. -/
theorem down_of_up {e : Ev} (hm : mayS e = true) (h3 : e.v < 3) : downR (upS e) = (e, 0) := by
  have hr := may_rules hm h3
  unfold downR
  rw [if_pos (may_up hm hr), if_pos (downIs_iff.2 ⟨e, hm, h3, rfl⟩), down_up hm hr]
/-- Up of Down is the event. -/
theorem up_of_down {f : Ev} (hd : downIs f = true) : upR (downE f) = (f, 0) := by
  obtain ⟨d, h1, h2, h3⟩ := downIs_iff.1 hd
  rw [down_of h1 h2 h3]
  unfold upR
  rw [if_pos h1, if_pos (may_rules h1 h2), h3]

set_option maxHeartbeats 8000000 in
set_option maxRecDepth 100000 in
theorem back_11 (s t : EvP) (e f : Ev) (w : World) (he : EvAt w s e) (hf : EvAt w t f) (hes : e.nums.length ≤ 17592186044416 ∧ e.texts.length ≤ 8796093022208)
    (hfs : f.nums.length ≤ 17592186044416 ∧ f.texts.length ≤ 8796093022208) (hkt : KT w) (hm : mayS e = true) (h3 : e.v < 3) (hA : upR e = (upS e, 0)) (hd : downIs f = true) (hmf : mayS f = true) (hD : downR f = (downE f, 0)) :
    Calls Tryd.prog 4 #[evV s e, evV t f] w fun en w' => en = .returned (.bool true) ∧ Fr No w w' := by
  have AW := hid (fun w1 (h : Fr No w w1) => awake7_any w1 (hkt.fr h))
  have LE := hid (fun w1 (h : Fr No w w1) => long7_any s e w1 (he.fr h) (by omega) (by omega))
  have LF := hid (fun w1 (h : Fr No w w1) => long7_any t f w1 (hf.fr h) (by omega) (by omega))
  have UE := hid (fun w1 (h : Fr No w w1) => up_any s e w1 (he.fr h) (hkt.fr h))
  rw [hA] at UE
  have DF := hid (fun w1 (h : Fr No w w1) => down_any t f w1 (hf.fr h) (hkt.fr h))
  rw [hD] at DF
  have DU := hid (fun (s' : EvP) w1 (hn : EvNew w.heap.size w1 s' (upS e)) (h : Fr No w w1) => down_any s' (upS e) w1 (hn.may (may_up hm (may_rules hm h3)) he.k8) (hkt.fr h))
  rw [down_of_up hm h3] at DU
  have TE := hid (fun (s' : EvP) w1 (hn : EvNew w.heap.size w1 s' e) (h : Fr No w w1) => told7_any s' s e e 0 w1 (fun _ => ⟨hn.may hm he.k8, he.fr h⟩))
  rw [sameS_self, show (decide ((0 : Int) = 0) && true) = true from rfl] at TE
  generalize upS e = U at UE DU
  obtain ⟨hdm, hdv⟩ := downIs_down hd
  have hdk : (downE f).kind ≤ 255 := hf.k8
  have UD := hid (fun (s' : EvP) w1 (hn : EvNew w.heap.size w1 s' (downE f)) (h : Fr No w w1) => up_any s' (downE f) w1 (hn.may hdm hdk) (hkt.fr h))
  rw [up_of_down hd] at UD
  have TF := hid (fun (s' : EvP) w1 (hn : EvNew w.heap.size w1 s' f) (h : Fr No w w1) => told7_any s' t f f 0 w1 (fun _ => ⟨hn.may hmf hf.k8, hf.fr h⟩))
  rw [sameS_self, show (decide ((0 : Int) = 0) && true) = true from rfl] at TF
  have hfv := hf.v8
  have hwr : IntKind.u8.wrap ((f.v : Int) - 1) = ((downE f).v : Int) := by rw [IntWalk.u8_in _ (by omega)]; omega
  generalize downE f = D at DF UD hwr
  have HF0 : Fr No w ((w.alloc (.cells #[.int .u8 e.v, .int .u8 e.kind, .slice s.qn e.nums.length s.cn, .slice s.qt e.texts.length s.ct] 25)).alloc (.cells #[.int .u8 f.v, .int .u8 f.kind, .slice t.qn f.nums.length t.cn, .slice t.qt f.texts.length t.ct] 25)) := ((Fr.refl w).alloc _).alloc _
  have g1 := Go.heap_alloc_new (w.alloc (.cells #[.int .u8 e.v, .int .u8 e.kind, .slice s.qn e.nums.length s.cn, .slice s.qt e.texts.length s.ct] 25)) (.cells #[.int .u8 f.v, .int .u8 f.kind, .slice t.qn f.nums.length t.cn, .slice t.qt f.texts.length t.ct] 25)
  have g0 : ((w.alloc (.cells #[.int .u8 e.v, .int .u8 e.kind, .slice s.qn e.nums.length s.cn, .slice s.qt e.texts.length s.ct] 25)).alloc (.cells #[.int .u8 f.v, .int .u8 f.kind, .slice t.qn f.nums.length t.cn, .slice t.qt f.texts.length t.ct] 25)).heap[w.heap.size]? = some (.cells #[.int .u8 e.v, .int .u8 e.kind, .slice s.qn e.nums.length s.cn, .slice s.qt e.texts.length s.ct] 25 (0, 0)) := by
    rw [Below.heap_alloc _ _ _ (by simp)]; exact Go.heap_alloc_new _ _
  simp only [World.size_alloc] at g1
  have C0 := hid (fun w1 (h : Fr No _ w1) => Go.Proofs.YtgjabbhgmecbbaaDoor.cells4 (h.heap0 g0))
  have C1 := hid (fun w1 (h : Fr No _ w1) => Go.Proofs.YtgjabbhgmecbbaaDoor.cells4 (h.heap0 g1))
  clear g0 g1 he hf hkt hA hD hm h3 hd hmf hdm hdv hfv
  unfold UpPost at *
  unfold evV at *
  go_enter Tryd.func4, Tryd.ntmps4
  go_upto_region 3 with (first
    | (go_at_call 7; (with_reducible refine (LE.out _ HF0).mono ?_); intro e1 w1 h1; obtain ⟨bE, rfl, hbE, hf1⟩ := h1; obtain ⟨d0, d1, d2, d3, _, _, _, _⟩ := C1.out _ hf1; cases bE)
    | (go_at_call 7; (with_reducible refine (LF.out _ (HF0.trans hf1)).mono ?_); intro e2 w2 h2; obtain ⟨bF, rfl, hbF, hf2⟩ := h2; clear d0 d1 d2 d3; cases bF)
    | (go_at_call 9; (with_reducible refine (AW.out _ (HF0.trans (hf1.trans hf2))).mono ?_); rintro e3 w3 ⟨rfl, hf3⟩)
    | (go_at_call 9; (with_reducible refine (AW.out _ (HF0.trans hf1)).mono ?_); rintro e3 w3 ⟨rfl, hf3⟩))
  all_goals first | (go_ret; first | exact ⟨rfl, HF0.trans (hf1.trans hf3)⟩ | exact ⟨rfl, HF0.trans ((hf1.trans hf2).trans hf3)⟩) | skip
  have F3 := (hf1.trans hf2).trans hf3
  clear hbE hbF hf1 hf2 hf3 LE LF AW
  obtain ⟨c0, c1, c2, c3, _, _, _, _⟩ := C0.out _ F3
  go_wp2_with (first
    | (go_at_call 19; (with_reducible refine (UE.out _ (HF0.trans F3)).mono ?_); rintro e4 w4 ⟨s4, rfl, hn4, hf4⟩; clear c0 c1 c2 c3; have hX4 := BoxAt.made hf4 hn4; unfold eCells at hX4; have HX4 := hid hX4.1; have FX4 := F3.trans hX4.2; clear hX4 hn4)
    | (go_at_call 20; (with_reducible refine (DU.out s4 _ (HX4.out.new.mono (HF0.trans F3).size) (HF0.trans FX4)).mono ?_); rintro e5 w5 ⟨s5, rfl, hn5, hf5⟩; have hX5 := BoxAt.made hf5 hn5; unfold eCells at hX5; have HX5 := hid hX5.1; have FX5 := FX4.trans hX5.2; clear hX5 hn5; obtain ⟨c0, c1, c2, c3, _, _, _, _⟩ := C0.out _ (FX4.trans hf5); have zl5 : w.heap.size < w5.heap.size := World.block_lt_of_cell? w5 _ c0)
    | (go_at_call 21; (with_reducible refine (TE.out s5 _ (HX5.out.new.mono (HF0.trans FX4).size) (HF0.trans FX5)).mono ?_); rintro e6 w6 ⟨rfl, hf6⟩; have FX6 := FX5.trans hf6; clear c0 c1 c2 c3; obtain ⟨d0, d1, d2, d3, _, _, _, _⟩ := C1.out _ FX6)
    | (go_at_call 20; (with_reducible refine (DF.out _ (HF0.trans FX6)).mono ?_); rintro e7 w7 ⟨s7, rfl, hn7, hf7⟩; have hX7 := BoxAt.made hf7 hn7; unfold eCells at hX7; have HX7 := hid hX7.1; have FX7 := FX6.trans hX7.2; clear hX7 hn7; clear d0 d1 d2 d3)
    | (go_at_call 19; (with_reducible refine (UD.out s7 _ (HX7.out.new.mono (HF0.trans FX6).size) (HF0.trans FX7)).mono ?_); rintro e8 w8 ⟨s8, rfl, hn8, hf8⟩; have HX78 := hid (HX7.out.fr hf8); have hX8 := BoxAt.made hf8 hn8; unfold eCells at hX8; have HX8 := hid hX8.1; have FX8 := FX7.trans hX8.2; clear hX8 hn8; obtain ⟨d0, d1, d2, d3, _, _, _, _⟩ := C1.out _ (FX7.trans hf8); have zl8 : w.heap.size + 1 < w8.heap.size := World.block_lt_of_cell? w8 _ d0)
    | (go_at_call 21; (with_reducible refine (TF.out s8 _ (HX8.out.new.mono (HF0.trans FX7).size) (HF0.trans FX8)).mono ?_); rintro e9 w9 ⟨rfl, hf9⟩; have FX9 := FX8.trans hf9; clear d0 d1 d2 d3; obtain ⟨d0, d1, d2, d3, _, _, _, _⟩ := C1.out _ FX9; obtain ⟨k0, k1, k2, k3, _, _, _, _⟩ := ((HX78.out.fr ((Fr.refl _).alloc _)).fr hf9).cells4))
  go_ret
  exact ⟨rfl, HF0.trans FX9⟩
set_option maxHeartbeats 8000000 in
set_option maxRecDepth 100000 in
theorem back_10 (s t : EvP) (e f : Ev) (w : World) (he : EvAt w s e) (hf : EvAt w t f) (hes : e.nums.length ≤ 17592186044416 ∧ e.texts.length ≤ 8796093022208)
    (hfs : f.nums.length ≤ 17592186044416 ∧ f.texts.length ≤ 8796093022208) (hkt : KT w) (hm : mayS e = true) (h3 : e.v < 3) (hA : upR e = (upS e, 0)) (hd : downIs f = false ∨ mayS f = false) (kd : Int) (hkd : kd ≠ 0) (hD : downR f = (zeroE, kd)) :
    Calls Tryd.prog 4 #[evV s e, evV t f] w fun en w' => en = .returned (.bool true) ∧ Fr No w w' := by
  have AW := hid (fun w1 (h : Fr No w w1) => awake7_any w1 (hkt.fr h))
  have LE := hid (fun w1 (h : Fr No w w1) => long7_any s e w1 (he.fr h) (by omega) (by omega))
  have LF := hid (fun w1 (h : Fr No w w1) => long7_any t f w1 (hf.fr h) (by omega) (by omega))
  have UE := hid (fun w1 (h : Fr No w w1) => up_any s e w1 (he.fr h) (hkt.fr h))
  rw [hA] at UE
  have DF := hid (fun w1 (h : Fr No w w1) => down_any t f w1 (hf.fr h) (hkt.fr h))
  rw [hD] at DF
  have DU := hid (fun (s' : EvP) w1 (hn : EvNew w.heap.size w1 s' (upS e)) (h : Fr No w w1) => down_any s' (upS e) w1 (hn.may (may_up hm (may_rules hm h3)) he.k8) (hkt.fr h))
  rw [down_of_up hm h3] at DU
  have TE := hid (fun (s' : EvP) w1 (hn : EvNew w.heap.size w1 s' e) (h : Fr No w w1) => told7_any s' s e e 0 w1 (fun _ => ⟨hn.may hm he.k8, he.fr h⟩))
  rw [sameS_self, show (decide ((0 : Int) = 0) && true) = true from rfl] at TE
  have hns : sameS (upS e) f = false := by
    rcases hx : sameS (upS e) f with _ | _
    · rfl
    · exfalso
      have hx := sameS_iff.1 hx
      rcases hd with hd | hd
      · rw [downIs_iff.2 ⟨e, hm, h3, hx⟩] at hd; cases hd
      · rw [← hx, may_up hm (may_rules hm h3)] at hd; cases hd
  have SU := hid (fun (s' : EvP) w1 (hn : EvNew w.heap.size w1 s' (upS e)) (h : Fr No w w1) => same_any s' t (upS e) f w1 (hn.may (may_up hm (may_rules hm h3)) he.k8) (hf.fr h))
  rw [hns] at SU
  generalize upS e = U at UE DU SU
  have zd : (kd == 0) = false := by rw [beq_eq_false_iff_ne]; exact hkd
  have HF0 : Fr No w ((w.alloc (.cells #[.int .u8 e.v, .int .u8 e.kind, .slice s.qn e.nums.length s.cn, .slice s.qt e.texts.length s.ct] 25)).alloc (.cells #[.int .u8 f.v, .int .u8 f.kind, .slice t.qn f.nums.length t.cn, .slice t.qt f.texts.length t.ct] 25)) := ((Fr.refl w).alloc _).alloc _
  have g1 := Go.heap_alloc_new (w.alloc (.cells #[.int .u8 e.v, .int .u8 e.kind, .slice s.qn e.nums.length s.cn, .slice s.qt e.texts.length s.ct] 25)) (.cells #[.int .u8 f.v, .int .u8 f.kind, .slice t.qn f.nums.length t.cn, .slice t.qt f.texts.length t.ct] 25)
  have g0 : ((w.alloc (.cells #[.int .u8 e.v, .int .u8 e.kind, .slice s.qn e.nums.length s.cn, .slice s.qt e.texts.length s.ct] 25)).alloc (.cells #[.int .u8 f.v, .int .u8 f.kind, .slice t.qn f.nums.length t.cn, .slice t.qt f.texts.length t.ct] 25)).heap[w.heap.size]? = some (.cells #[.int .u8 e.v, .int .u8 e.kind, .slice s.qn e.nums.length s.cn, .slice s.qt e.texts.length s.ct] 25 (0, 0)) := by
    rw [Below.heap_alloc _ _ _ (by simp)]; exact Go.heap_alloc_new _ _
  simp only [World.size_alloc] at g1
  have C0 := hid (fun w1 (h : Fr No _ w1) => Go.Proofs.YtgjabbhgmecbbaaDoor.cells4 (h.heap0 g0))
  have C1 := hid (fun w1 (h : Fr No _ w1) => Go.Proofs.YtgjabbhgmecbbaaDoor.cells4 (h.heap0 g1))
  clear g0 g1 he hf hkt hA hD hm h3 hd hkd
  unfold UpPost at *
  unfold evV at *
  unfold zeroE at *
  go_enter Tryd.func4, Tryd.ntmps4
  go_upto_region 3 with (first
    | (go_at_call 7; (with_reducible refine (LE.out _ HF0).mono ?_); intro e1 w1 h1; obtain ⟨bE, rfl, hbE, hf1⟩ := h1; obtain ⟨d0, d1, d2, d3, _, _, _, _⟩ := C1.out _ hf1; cases bE)
    | (go_at_call 7; (with_reducible refine (LF.out _ (HF0.trans hf1)).mono ?_); intro e2 w2 h2; obtain ⟨bF, rfl, hbF, hf2⟩ := h2; clear d0 d1 d2 d3; cases bF)
    | (go_at_call 9; (with_reducible refine (AW.out _ (HF0.trans (hf1.trans hf2))).mono ?_); rintro e3 w3 ⟨rfl, hf3⟩)
    | (go_at_call 9; (with_reducible refine (AW.out _ (HF0.trans hf1)).mono ?_); rintro e3 w3 ⟨rfl, hf3⟩))
  all_goals first | (go_ret; first | exact ⟨rfl, HF0.trans (hf1.trans hf3)⟩ | exact ⟨rfl, HF0.trans ((hf1.trans hf2).trans hf3)⟩) | skip
  have F3 := (hf1.trans hf2).trans hf3
  clear hbE hbF hf1 hf2 hf3 LE LF AW
  obtain ⟨c0, c1, c2, c3, _, _, _, _⟩ := C0.out _ F3
  go_wp2_with (first
    | (go_at_call 19; (with_reducible refine (UE.out _ (HF0.trans F3)).mono ?_); rintro e4 w4 ⟨s4, rfl, hn4, hf4⟩; clear c0 c1 c2 c3; have hX4 := BoxAt.made hf4 hn4; unfold eCells at hX4; have HX4 := hid hX4.1; have FX4 := F3.trans hX4.2; clear hX4 hn4)
    | (go_at_call 20; (with_reducible refine (DU.out s4 _ (HX4.out.new.mono (HF0.trans F3).size) (HF0.trans FX4)).mono ?_); rintro e5 w5 ⟨s5, rfl, hn5, hf5⟩; have hX5 := BoxAt.made hf5 hn5; unfold eCells at hX5; have HX5 := hid hX5.1; have FX5 := FX4.trans hX5.2; clear hX5 hn5; obtain ⟨c0, c1, c2, c3, _, _, _, _⟩ := C0.out _ (FX4.trans hf5); have zl5 : w.heap.size < w5.heap.size := World.block_lt_of_cell? w5 _ c0)
    | (go_at_call 21; (with_reducible refine (TE.out s5 _ (HX5.out.new.mono (HF0.trans FX4).size) (HF0.trans FX5)).mono ?_); rintro e6 w6 ⟨rfl, hf6⟩; have FX6 := FX5.trans hf6; clear c0 c1 c2 c3; obtain ⟨d0, d1, d2, d3, _, _, _, _⟩ := C1.out _ FX6)
    | (go_at_call 20; (with_reducible refine (DF.out _ (HF0.trans FX6)).mono ?_); rintro e7 w7 ⟨s7, rfl, hn7, hf7⟩; have FX7 : Fr No _ (w7.alloc (.cells #[.int .u8 0, .int .u8 0, .slice s7.qn 0 s7.cn, .slice s7.qt 0 s7.ct] 25)) := FX6.trans (hf7.alloc _); clear hn7; clear d0 d1 d2 d3; obtain ⟨k0, k1, k2, k3, _, _, _, _⟩ := (((HX4.out.fr hf5).fr ((Fr.refl _).alloc _)).fr hf6 |>.fr hf7).cells4; obtain ⟨d0, d1, d2, d3, _, _, _, _⟩ := C1.out _ (FX6.trans hf7); have HU7 := hid ((((HX4.out.fr hf5).fr ((Fr.refl _).alloc _)).fr hf6 |>.fr hf7).new); have zl7 : w.heap.size + 1 < w7.heap.size := World.block_lt_of_cell? w7 _ d0; have zu7 : w4.heap.size < w7.heap.size := World.block_lt_of_cell? w7 _ k0)
    | (go_at_call 22; (with_reducible refine (SU.out s4 _ ((HU7.out.mono (HF0.trans F3).size).fr ((Fr.refl _).alloc _)) (HF0.trans FX7)).mono ?_); rintro e9 w9 ⟨rfl, hf9⟩; have FX9 := FX7.trans hf9))
  go_ret
  exact ⟨rfl, HF0.trans FX9⟩
set_option maxHeartbeats 8000000 in
set_option maxRecDepth 100000 in
theorem back_01 (s t : EvP) (e f : Ev) (w : World) (he : EvAt w s e) (hf : EvAt w t f) (hes : e.nums.length ≤ 17592186044416 ∧ e.texts.length ≤ 8796093022208)
    (hfs : f.nums.length ≤ 17592186044416 ∧ f.texts.length ≤ 8796093022208) (hkt : KT w) (ka : Int) (hka : ka ≠ 0) (hA : upR e = (zeroE, ka)) (hd : downIs f = true) (hmf : mayS f = true) (hD : downR f = (downE f, 0)) :
    Calls Tryd.prog 4 #[evV s e, evV t f] w fun en w' => en = .returned (.bool true) ∧ Fr No w w' := by
  have AW := hid (fun w1 (h : Fr No w w1) => awake7_any w1 (hkt.fr h))
  have LE := hid (fun w1 (h : Fr No w w1) => long7_any s e w1 (he.fr h) (by omega) (by omega))
  have LF := hid (fun w1 (h : Fr No w w1) => long7_any t f w1 (hf.fr h) (by omega) (by omega))
  have UE := hid (fun w1 (h : Fr No w w1) => up_any s e w1 (he.fr h) (hkt.fr h))
  rw [hA] at UE
  have DF := hid (fun w1 (h : Fr No w w1) => down_any t f w1 (hf.fr h) (hkt.fr h))
  rw [hD] at DF
  have za : (ka == 0) = false := by rw [beq_eq_false_iff_ne]; exact hka
  have za' : (ka != 0) = true := by rw [bne, za]; rfl
  obtain ⟨hdm, hdv⟩ := downIs_down hd
  have hdk : (downE f).kind ≤ 255 := hf.k8
  have UD := hid (fun (s' : EvP) w1 (hn : EvNew w.heap.size w1 s' (downE f)) (h : Fr No w w1) => up_any s' (downE f) w1 (hn.may hdm hdk) (hkt.fr h))
  rw [up_of_down hd] at UD
  have TF := hid (fun (s' : EvP) w1 (hn : EvNew w.heap.size w1 s' f) (h : Fr No w w1) => told7_any s' t f f 0 w1 (fun _ => ⟨hn.may hmf hf.k8, hf.fr h⟩))
  rw [sameS_self, show (decide ((0 : Int) = 0) && true) = true from rfl] at TF
  have hfv := hf.v8
  have hwr : IntKind.u8.wrap ((f.v : Int) - 1) = ((downE f).v : Int) := by rw [IntWalk.u8_in _ (by omega)]; omega
  generalize downE f = D at DF UD hwr
  have HF0 : Fr No w ((w.alloc (.cells #[.int .u8 e.v, .int .u8 e.kind, .slice s.qn e.nums.length s.cn, .slice s.qt e.texts.length s.ct] 25)).alloc (.cells #[.int .u8 f.v, .int .u8 f.kind, .slice t.qn f.nums.length t.cn, .slice t.qt f.texts.length t.ct] 25)) := ((Fr.refl w).alloc _).alloc _
  have g1 := Go.heap_alloc_new (w.alloc (.cells #[.int .u8 e.v, .int .u8 e.kind, .slice s.qn e.nums.length s.cn, .slice s.qt e.texts.length s.ct] 25)) (.cells #[.int .u8 f.v, .int .u8 f.kind, .slice t.qn f.nums.length t.cn, .slice t.qt f.texts.length t.ct] 25)
  have g0 : ((w.alloc (.cells #[.int .u8 e.v, .int .u8 e.kind, .slice s.qn e.nums.length s.cn, .slice s.qt e.texts.length s.ct] 25)).alloc (.cells #[.int .u8 f.v, .int .u8 f.kind, .slice t.qn f.nums.length t.cn, .slice t.qt f.texts.length t.ct] 25)).heap[w.heap.size]? = some (.cells #[.int .u8 e.v, .int .u8 e.kind, .slice s.qn e.nums.length s.cn, .slice s.qt e.texts.length s.ct] 25 (0, 0)) := by
    rw [Below.heap_alloc _ _ _ (by simp)]; exact Go.heap_alloc_new _ _
  simp only [World.size_alloc] at g1
  have C0 := hid (fun w1 (h : Fr No _ w1) => Go.Proofs.YtgjabbhgmecbbaaDoor.cells4 (h.heap0 g0))
  have C1 := hid (fun w1 (h : Fr No _ w1) => Go.Proofs.YtgjabbhgmecbbaaDoor.cells4 (h.heap0 g1))
  clear g0 g1 he hf hkt hA hD hka hd hmf hdm hdv hfv
  unfold UpPost at *
  unfold evV at *
  unfold zeroE at *
  go_enter Tryd.func4, Tryd.ntmps4
  go_upto_region 3 with (first
    | (go_at_call 7; (with_reducible refine (LE.out _ HF0).mono ?_); intro e1 w1 h1; obtain ⟨bE, rfl, hbE, hf1⟩ := h1; obtain ⟨d0, d1, d2, d3, _, _, _, _⟩ := C1.out _ hf1; cases bE)
    | (go_at_call 7; (with_reducible refine (LF.out _ (HF0.trans hf1)).mono ?_); intro e2 w2 h2; obtain ⟨bF, rfl, hbF, hf2⟩ := h2; clear d0 d1 d2 d3; cases bF)
    | (go_at_call 9; (with_reducible refine (AW.out _ (HF0.trans (hf1.trans hf2))).mono ?_); rintro e3 w3 ⟨rfl, hf3⟩)
    | (go_at_call 9; (with_reducible refine (AW.out _ (HF0.trans hf1)).mono ?_); rintro e3 w3 ⟨rfl, hf3⟩))
  all_goals first | (go_ret; first | exact ⟨rfl, HF0.trans (hf1.trans hf3)⟩ | exact ⟨rfl, HF0.trans ((hf1.trans hf2).trans hf3)⟩) | skip
  have F3 := (hf1.trans hf2).trans hf3
  clear hbE hbF hf1 hf2 hf3 LE LF AW
  obtain ⟨c0, c1, c2, c3, _, _, _, _⟩ := C0.out _ F3
  go_wp2_with (first
    | (go_at_call 19; (with_reducible refine (UE.out _ (HF0.trans F3)).mono ?_); rintro e4 w4 ⟨s4, rfl, hn4, hf4⟩; clear c0 c1 c2 c3; have FX4 : Fr No _ (w4.alloc (.cells #[.int .u8 0, .int .u8 0, .slice s4.qn 0 s4.cn, .slice s4.qt 0 s4.ct] 25)) := F3.trans (hf4.alloc _); clear hn4; obtain ⟨d0, d1, d2, d3, _, _, _, _⟩ := C1.out _ (F3.trans hf4); have zl4 : w.heap.size + 1 < w4.heap.size := World.block_lt_of_cell? w4 _ d0)
    | (go_at_call 20; (with_reducible refine (DF.out _ (HF0.trans FX4)).mono ?_); rintro e7 w7 ⟨s7, rfl, hn7, hf7⟩; have hX7 := BoxAt.made hf7 hn7; unfold eCells at hX7; have HX7 := hid hX7.1; have FX7 := FX4.trans hX7.2; clear hX7 hn7; clear d0 d1 d2 d3)
    | (go_at_call 19; (with_reducible refine (UD.out s7 _ (HX7.out.new.mono (HF0.trans FX4).size) (HF0.trans FX7)).mono ?_); rintro e8 w8 ⟨s8, rfl, hn8, hf8⟩; have HX78 := hid (HX7.out.fr hf8); have hX8 := BoxAt.made hf8 hn8; unfold eCells at hX8; have HX8 := hid hX8.1; have FX8 := FX7.trans hX8.2; clear hX8 hn8; obtain ⟨d0, d1, d2, d3, _, _, _, _⟩ := C1.out _ (FX7.trans hf8); have zl8 : w.heap.size + 1 < w8.heap.size := World.block_lt_of_cell? w8 _ d0)
    | (go_at_call 21; (with_reducible refine (TF.out s8 _ (HX8.out.new.mono (HF0.trans FX7).size) (HF0.trans FX8)).mono ?_); rintro e9 w9 ⟨rfl, hf9⟩; have FX9 := FX8.trans hf9; clear d0 d1 d2 d3; obtain ⟨d0, d1, d2, d3, _, _, _, _⟩ := C1.out _ FX9; obtain ⟨k0, k1, k2, k3, _, _, _, _⟩ := ((HX78.out.fr ((Fr.refl _).alloc _)).fr hf9).cells4))
  go_ret
  exact ⟨rfl, HF0.trans FX9⟩
set_option maxHeartbeats 8000000 in
set_option maxRecDepth 100000 in
theorem back_00 (s t : EvP) (e f : Ev) (w : World) (he : EvAt w s e) (hf : EvAt w t f) (hes : e.nums.length ≤ 17592186044416 ∧ e.texts.length ≤ 8796093022208)
    (hfs : f.nums.length ≤ 17592186044416 ∧ f.texts.length ≤ 8796093022208) (hkt : KT w) (ka : Int) (hka : ka ≠ 0) (hA : upR e = (zeroE, ka)) (kd : Int) (hkd : kd ≠ 0) (hD : downR f = (zeroE, kd)) :
    Calls Tryd.prog 4 #[evV s e, evV t f] w fun en w' => en = .returned (.bool true) ∧ Fr No w w' := by
  have AW := hid (fun w1 (h : Fr No w w1) => awake7_any w1 (hkt.fr h))
  have LE := hid (fun w1 (h : Fr No w w1) => long7_any s e w1 (he.fr h) (by omega) (by omega))
  have LF := hid (fun w1 (h : Fr No w w1) => long7_any t f w1 (hf.fr h) (by omega) (by omega))
  have UE := hid (fun w1 (h : Fr No w w1) => up_any s e w1 (he.fr h) (hkt.fr h))
  rw [hA] at UE
  have DF := hid (fun w1 (h : Fr No w w1) => down_any t f w1 (hf.fr h) (hkt.fr h))
  rw [hD] at DF
  have za : (ka == 0) = false := by rw [beq_eq_false_iff_ne]; exact hka
  have za' : (ka != 0) = true := by rw [bne, za]; rfl
  have zd : (kd == 0) = false := by rw [beq_eq_false_iff_ne]; exact hkd
  have HF0 : Fr No w ((w.alloc (.cells #[.int .u8 e.v, .int .u8 e.kind, .slice s.qn e.nums.length s.cn, .slice s.qt e.texts.length s.ct] 25)).alloc (.cells #[.int .u8 f.v, .int .u8 f.kind, .slice t.qn f.nums.length t.cn, .slice t.qt f.texts.length t.ct] 25)) := ((Fr.refl w).alloc _).alloc _
  have g1 := Go.heap_alloc_new (w.alloc (.cells #[.int .u8 e.v, .int .u8 e.kind, .slice s.qn e.nums.length s.cn, .slice s.qt e.texts.length s.ct] 25)) (.cells #[.int .u8 f.v, .int .u8 f.kind, .slice t.qn f.nums.length t.cn, .slice t.qt f.texts.length t.ct] 25)
  have g0 : ((w.alloc (.cells #[.int .u8 e.v, .int .u8 e.kind, .slice s.qn e.nums.length s.cn, .slice s.qt e.texts.length s.ct] 25)).alloc (.cells #[.int .u8 f.v, .int .u8 f.kind, .slice t.qn f.nums.length t.cn, .slice t.qt f.texts.length t.ct] 25)).heap[w.heap.size]? = some (.cells #[.int .u8 e.v, .int .u8 e.kind, .slice s.qn e.nums.length s.cn, .slice s.qt e.texts.length s.ct] 25 (0, 0)) := by
    rw [Below.heap_alloc _ _ _ (by simp)]; exact Go.heap_alloc_new _ _
  simp only [World.size_alloc] at g1
  have C0 := hid (fun w1 (h : Fr No _ w1) => Go.Proofs.YtgjabbhgmecbbaaDoor.cells4 (h.heap0 g0))
  have C1 := hid (fun w1 (h : Fr No _ w1) => Go.Proofs.YtgjabbhgmecbbaaDoor.cells4 (h.heap0 g1))
  clear g0 g1 he hf hkt hA hD hka hkd
  unfold UpPost at *
  unfold evV at *
  unfold zeroE at *
  go_enter Tryd.func4, Tryd.ntmps4
  go_upto_region 3 with (first
    | (go_at_call 7; (with_reducible refine (LE.out _ HF0).mono ?_); intro e1 w1 h1; obtain ⟨bE, rfl, hbE, hf1⟩ := h1; obtain ⟨d0, d1, d2, d3, _, _, _, _⟩ := C1.out _ hf1; cases bE)
    | (go_at_call 7; (with_reducible refine (LF.out _ (HF0.trans hf1)).mono ?_); intro e2 w2 h2; obtain ⟨bF, rfl, hbF, hf2⟩ := h2; clear d0 d1 d2 d3; cases bF)
    | (go_at_call 9; (with_reducible refine (AW.out _ (HF0.trans (hf1.trans hf2))).mono ?_); rintro e3 w3 ⟨rfl, hf3⟩)
    | (go_at_call 9; (with_reducible refine (AW.out _ (HF0.trans hf1)).mono ?_); rintro e3 w3 ⟨rfl, hf3⟩))
  all_goals first | (go_ret; first | exact ⟨rfl, HF0.trans (hf1.trans hf3)⟩ | exact ⟨rfl, HF0.trans ((hf1.trans hf2).trans hf3)⟩) | skip
  have F3 := (hf1.trans hf2).trans hf3
  clear hbE hbF hf1 hf2 hf3 LE LF AW
  obtain ⟨c0, c1, c2, c3, _, _, _, _⟩ := C0.out _ F3
  go_wp2_with (first
    | (go_at_call 19; (with_reducible refine (UE.out _ (HF0.trans F3)).mono ?_); rintro e4 w4 ⟨s4, rfl, hn4, hf4⟩; clear c0 c1 c2 c3; have FX4 : Fr No _ (w4.alloc (.cells #[.int .u8 0, .int .u8 0, .slice s4.qn 0 s4.cn, .slice s4.qt 0 s4.ct] 25)) := F3.trans (hf4.alloc _); clear hn4; obtain ⟨d0, d1, d2, d3, _, _, _, _⟩ := C1.out _ (F3.trans hf4); have zl4 : w.heap.size + 1 < w4.heap.size := World.block_lt_of_cell? w4 _ d0)
    | (go_at_call 20; (with_reducible refine (DF.out _ (HF0.trans FX4)).mono ?_); rintro e7 w7 ⟨s7, rfl, hn7, hf7⟩; have FX7 : Fr No _ (w7.alloc (.cells #[.int .u8 0, .int .u8 0, .slice s7.qn 0 s7.cn, .slice s7.qt 0 s7.ct] 25)) := FX4.trans (hf7.alloc _); clear hn7; clear d0 d1 d2 d3))
  go_ret
  exact ⟨rfl, HF0.trans FX7⟩
/-- UpcastBack answers true. -/
theorem back_any (s t : EvP) (e f : Ev) (w : World) (he : EvAt w s e) (hf : EvAt w t f) (hes : e.nums.length ≤ 17592186044416 ∧ e.texts.length ≤ 8796093022208)
    (hfs : f.nums.length ≤ 17592186044416 ∧ f.texts.length ≤ 8796093022208) (hkt : KT w) :
    Calls Tryd.prog 4 #[evV s e, evV t f] w fun en w' => en = .returned (.bool true) ∧ Fr No w w' := by
  rcases upR_cases e with ⟨hm, h3, hA⟩ | ⟨ka, hka, hA⟩ <;> rcases downR_cases f with ⟨hd, hmf, hD⟩ | ⟨hd, kd, hkd, hD⟩
  · exact back_11 s t e f w he hf hes hfs hkt hm h3 hA hd hmf hD
  · exact back_10 s t e f w he hf hes hfs hkt hm h3 hA hd kd hkd hD
  · exact back_01 s t e f w he hf hes hfs hkt ka hka hA hd hmf hD
  · exact back_00 s t e f w he hf hes hfs hkt ka hka hA kd hkd hD
end Go.Proofs.YtgjabbhgmecbbaaDoor
