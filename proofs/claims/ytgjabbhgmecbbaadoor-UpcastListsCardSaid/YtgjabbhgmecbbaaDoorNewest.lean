/-
  upcast.To whole; upcast.Newest: the walk. No statement of the seat is proved here.
-/
import Derived.Test.YtgjabbhgmecbbaaDoorTo2
namespace Go.Proofs.YtgjabbhgmecbbaaDoor
open Go.RowKit

/-- To, whatever it is given. -/
theorem to_any (s : EvP) (e : Ev) (v : Nat) (w : World) (he : EvAt w s e) (hkt : KT w) : Calls Tryd.prog 14 #[evV s e, .int .u8 v] w (UpPost w (toR e v)) := by
  unfold toR
  rcases hm : mayS e with _ | _
  · rw [if_neg (by simp)]
    exact to_form s e v w he hkt hm
  · rw [if_pos rfl]
    by_cases hv : v < 1 ∨ 3 < v
    · rw [if_pos hv]
      exact to_version s e v w he hkt hm hv
    · rw [if_neg hv]
      exact to_ok s e v w he hkt hm (by omega) (by omega)
/-- What Newest tells. -/
def newestR (e : Ev) : Ev × Int := if mayS e then (topS e, 0) else (zeroE, 4)
theorem toR_self {e : Ev} (hm : mayS e = true) : toR e e.v = (e, 0) := by
  obtain ⟨_, h1, h3⟩ := may_is hm
  unfold toR
  rw [if_pos hm, if_neg (by omega), toS_self rfl]

set_option maxHeartbeats 4000000 in
set_option maxRecDepth 100000 in
theorem newest_form (s : EvP) (e : Ev) (w : World) (he : EvAt w s e) (hkt : KT w) (hm : mayS e = false) :
    Calls Tryd.prog 23 #[evV s e] w (UpPost w (zeroE, 4)) := by
  have TE := hid (fun w1 (h : Fr No w w1) => to_any s e e.v w1 (he.fr h) (hkt.fr h))
  have htr : toR e e.v = (zeroE, 4) := by unfold toR; rw [hm]; rfl
  rw [htr] at TE
  clear htr
  unfold UpPost at *
  have HF0 : Fr No w ((w.alloc (.cells #[.int .u8 e.v, .int .u8 e.kind, .slice s.qn e.nums.length s.cn, .slice s.qt e.texts.length s.ct] 25)).alloc (.cells #[.int .u8 0, .int .u8 0, .slice none 0 0, .slice none 0 0] 25)) := ((Fr.refl w).alloc _).alloc _
  have g1 := Go.heap_alloc_new (w.alloc (.cells #[.int .u8 e.v, .int .u8 e.kind, .slice s.qn e.nums.length s.cn, .slice s.qt e.texts.length s.ct] 25)) (.cells #[.int .u8 0, .int .u8 0, .slice none 0 0, .slice none 0 0] 25)
  simp only [World.size_alloc] at g1
  have HG := hid g1
  clear g1
  unfold evV zeroE at TE
  unfold evV
  go_enter Tryd.func23, Tryd.ntmps23
  go_wp2_with (first
    | (go_at_call 14; (with_reducible refine (TE.out _ HF0).mono ?_); rintro e1 w1 ⟨s1, rfl, hn1, hf1⟩; obtain ⟨k0, k1, k2, k3, z0, z1, z2, z3⟩ := Go.Proofs.YtgjabbhgmecbbaaDoor.cells4 (hf1.heap0 HG.out); have zl : w.heap.size + 1 < w1.heap.size := World.block_lt_of_cell? w1 _ k0))
  obtain ⟨hst, hfr⟩ := store4 (hf1.heap0 HG.out) (.int .u8 0) (.int .u8 0) (.slice none 0 0) (.slice none 0 0)
  refine bodyPost_ret (results_row_tmp rfl _ _ (w.heap.size + 1) 25 _ (0, 0) _ (.int .i64 4) rfl (((Fr.refl _).alloc _).heap0 hst) rfl Tryd.underlying25 rfl (by kernel_rfl)) rfl ⟨⟨none, 0, none, 0⟩, rfl, EvNew.zero _ _, ((HF0.trans hf1).newOnly (Nat.le_succ _) hfr).alloc _⟩

set_option maxHeartbeats 4000000 in
set_option maxRecDepth 100000 in
theorem newest_ok (s : EvP) (e : Ev) (w : World) (he : EvAt w s e) (hkt : KT w) (hm : mayS e = true) :
    Calls Tryd.prog 23 #[evV s e] w (UpPost w (topS e, 0)) := by
  have TE := hid (fun w1 (h : Fr No w w1) => to_any s e e.v w1 (he.fr h) (hkt.fr h))
  rw [toR_self hm] at TE
  obtain ⟨_, hv1, hv3⟩ := may_is hm
  have hk8 := he.k8
  have UPR := hid (fun (x : Ev) (s' : EvP) w1 (hn : EvNew w.heap.size w1 s' x) (hx : mayS x = true) (hk : x.kind = e.kind) (hlt : x.v < 3) (h : Fr No w w1) => (by
    have h1 := up_any s' x w1 (hn.may hx (by omega)) (hkt.fr h)
    unfold upR at h1
    rwa [if_pos hx, if_pos (may_rules hx (by omega))] at h1 : Calls Tryd.prog 19 #[evV s' x] w1 (UpPost w1 (upS x, 0))))
  have HF0 : Fr No w ((w.alloc (.cells #[.int .u8 e.v, .int .u8 e.kind, .slice s.qn e.nums.length s.cn, .slice s.qt e.texts.length s.ct] 25)).alloc (.cells #[.int .u8 0, .int .u8 0, .slice none 0 0, .slice none 0 0] 25)) := ((Fr.refl w).alloc _).alloc _
  have g1 := Go.heap_alloc_new (w.alloc (.cells #[.int .u8 e.v, .int .u8 e.kind, .slice s.qn e.nums.length s.cn, .slice s.qt e.texts.length s.ct] 25)) (.cells #[.int .u8 0, .int .u8 0, .slice none 0 0, .slice none 0 0] 25)
  simp only [World.size_alloc] at g1
  have HG := hid g1
  have g0 : ((w.alloc (.cells #[.int .u8 e.v, .int .u8 e.kind, .slice s.qn e.nums.length s.cn, .slice s.qt e.texts.length s.ct] 25)).alloc (.cells #[.int .u8 0, .int .u8 0, .slice none 0 0, .slice none 0 0] 25)).heap[w.heap.size]? = some (.cells #[.int .u8 e.v, .int .u8 e.kind, .slice s.qn e.nums.length s.cn, .slice s.qt e.texts.length s.ct] 25 (0, 0)) := by
    rw [Below.heap_alloc _ _ _ (by simp)]; exact Go.heap_alloc_new _ _
  have HG0 := hid g0
  have HM := hid hm
  clear g0 g1 he hkt
  have hC : e.v = 3 ∨ e.v = 2 ∨ e.v = 1 := by omega
  unfold UpPost at *
  generalize hT : topS e = T
  rcases hC with h3 | h2 | h1
  · have hTe : e = T := by rw [← hT]; unfold topS; rw [h3]; rfl
    have b1 : ((e.v : Int) == 1) = false := by rw [h3]; rfl
    have b2 : ((e.v : Int) == 2) = false := by rw [h3]; rfl
    clear h3 hT
    obtain rfl := hTe
    unfold evV at *
    go_enter Tryd.func23, Tryd.ntmps23
    go_wp2_with (first
      | (go_at_call 14; (with_reducible refine (TE.out _ HF0).mono ?_); rintro e1 w1 ⟨s1, rfl, hn1, hf1⟩; obtain ⟨k0, k1, k2, k3, z0, z1, z2, z3⟩ := Go.Proofs.YtgjabbhgmecbbaaDoor.cells4 (hf1.heap0 HG.out); have zl : w.heap.size + 1 < w1.heap.size := World.block_lt_of_cell? w1 _ k0; obtain ⟨c0, c1, c2, c3, _, _, _, _⟩ := Go.Proofs.YtgjabbhgmecbbaaDoor.cells4 (hf1.heap0 HG0.out); have zl0 : w.heap.size < w1.heap.size := World.block_lt_of_cell? w1 _ c0))
    have hst := BoxAt.fill (w1 := w1) (b := w.heap.size + 1) (B := w.heap.size) (s := s1) (e := e) (hf1.heap0 HG.out) (Nat.le_succ _) (hn1.mono HF0.size)
    refine bodyPost_ret (results_row_tmp rfl _ _ (w.heap.size + 1) 25 _ (0, 0) _ (.int .i64 0) rfl (((Fr.refl _).alloc _).heap0 hst.1.cells) rfl Tryd.underlying25 rfl (by kernel_rfl)) rfl ⟨s1, rfl, hst.1.new.fr ((Fr.refl _).alloc _), ((HF0.trans hf1).newOnly (Nat.le_succ _) hst.2).alloc _⟩
  · have hTe : upS e = T := by rw [← hT]; unfold topS; rw [h2]; rfl
    have b1 : ((e.v : Int) == 1) = false := by rw [h2]; rfl
    have b2 : ((e.v : Int) == 2) = true := by rw [h2]; rfl
    have UP1 := hid (fun s' w1 hn h => UPR.out e s' w1 hn HM.out rfl (by omega) h)
    clear h2 hT UPR
    rw [hTe] at UP1
    clear hTe
    have HFX := hid (fun w6 (h : Fr No _ w6) => Go.Proofs.YtgjabbhgmecbbaaDoor.cells4 (Fr.heap0 h HG.out))
    unfold evV at *
    go_enter Tryd.func23, Tryd.ntmps23
    go_wp2_with (first
      | (go_at_call 14; (with_reducible refine (TE.out _ HF0).mono ?_); rintro e1 w1 ⟨s1, rfl, hn1, hf1⟩; obtain ⟨c0, c1, c2, c3, _, _, _, _⟩ := Go.Proofs.YtgjabbhgmecbbaaDoor.cells4 (hf1.heap0 HG0.out); have zl0 : w.heap.size < w1.heap.size := World.block_lt_of_cell? w1 _ c0; have zl1 : w.heap.size + 1 < w1.heap.size := lt_of_block (hf1.heap0 HG.out); obtain ⟨hB1, hF1⟩ := BoxAt.made hf1 hn1; unfold eCells at hB1 hF1; have HB1 := hid hB1; have HF1 := hid hF1; clear hB1 hF1)
      | (go_at_call 19; (with_reducible refine (UP1.out s1 _ (HB1.out.new.mono HF0.size) (HF0.trans HF1.out)).mono ?_); rintro e5 w5 ⟨s5, rfl, hn5, hf5⟩; clear c0 c1 c2 c3; obtain ⟨k0, k1, k2, k3, f0, f1, f2, f3⟩ := (HB1.out.fr hf5).cells4; obtain ⟨hB5, hF5⟩ := HB1.out.over hf5 hn5 HF1.out.size; have HB5 := hid hB5; have HF5 := hid ((HF1.out.trans hf5).newOnly HB1.out.lo hF5); clear hB5 hF5; obtain ⟨y0, y1, y2, y3, g0, g1, g2, g3⟩ := HFX.out w5 (HF1.out.trans hf5))
      )
    have hst := BoxAt.fill (b := w.heap.size + 1) (B := w.heap.size) (HF5.out.heap0 HG.out) (Nat.le_succ _) (HB5.out.new.mono HF0.size)
    refine bodyPost_ret (results_row_tmp rfl _ _ (w.heap.size + 1) 25 _ (0, 0) _ (.int .i64 0) rfl hst.1.cells rfl Tryd.underlying25 rfl (by kernel_rfl)) rfl ⟨s5, rfl, hst.1.new, (HF0.trans HF5.out).newOnly (Nat.le_succ _) hst.2⟩
  · have hTe : upS (upS e) = T := by rw [← hT]; unfold topS; rw [h1]; rfl
    have b1 : ((e.v : Int) == 1) = true := by rw [h1]; rfl
    have UP1 := hid (fun s' w1 hn h => UPR.out e s' w1 hn HM.out rfl (by omega) h)
    have UP2 := hid (fun s' w1 hn h => UPR.out (upS e) s' w1 hn (may_up HM.out (may_rules HM.out (by omega))) rfl (by show e.v + 1 < 3; omega) h)
    clear h1 hT UPR
    rw [hTe] at UP2
    clear hTe
    generalize upS e = U at UP1 UP2
    have HFX := hid (fun w6 (h : Fr No _ w6) => Go.Proofs.YtgjabbhgmecbbaaDoor.cells4 (Fr.heap0 h HG.out))
    unfold evV at *
    go_enter Tryd.func23, Tryd.ntmps23
    go_wp2_with (first
      | (go_at_call 14; (with_reducible refine (TE.out _ HF0).mono ?_); rintro e1 w1 ⟨s1, rfl, hn1, hf1⟩; obtain ⟨c0, c1, c2, c3, _, _, _, _⟩ := Go.Proofs.YtgjabbhgmecbbaaDoor.cells4 (hf1.heap0 HG0.out); have zl0 : w.heap.size < w1.heap.size := World.block_lt_of_cell? w1 _ c0; have zl1 : w.heap.size + 1 < w1.heap.size := lt_of_block (hf1.heap0 HG.out); obtain ⟨hB1, hF1⟩ := BoxAt.made hf1 hn1; unfold eCells at hB1 hF1; have HB1 := hid hB1; have HF1 := hid hF1; clear hB1 hF1)
      | (go_at_call 19; (with_reducible refine (UP1.out s1 _ (HB1.out.new.mono HF0.size) (HF0.trans HF1.out)).mono ?_); rintro e5 w5 ⟨s5, rfl, hn5, hf5⟩; clear c0 c1 c2 c3; obtain ⟨k0, k1, k2, k3, f0, f1, f2, f3⟩ := (HB1.out.fr hf5).cells4; obtain ⟨hB5, hF5⟩ := HB1.out.over hf5 hn5 HF1.out.size; have HB5 := hid hB5; have HF5 := hid ((HF1.out.trans hf5).newOnly HB1.out.lo hF5); clear hB5 hF5; obtain ⟨y0, y1, y2, y3, g0, g1, g2, g3⟩ := HFX.out w5 (HF1.out.trans hf5))
      | (go_at_call 19; (with_reducible refine (UP2.out s5 _ (HB5.out.new.mono HF0.size) (HF0.trans HF5.out)).mono ?_); rintro e6 w6 ⟨s6, rfl, hn6, hf6⟩; clear k0 k1 k2 k3 f0 f1 f2 f3 y0 y1 y2 y3 g0 g1 g2 g3; obtain ⟨k0, k1, k2, k3, f0, f1, f2, f3⟩ := (HB5.out.fr hf6).cells4; obtain ⟨hB6, hF6⟩ := HB5.out.over hf6 hn6 HF5.out.size; have HB6 := hid hB6; have HF6 := hid ((HF5.out.trans hf6).newOnly HB5.out.lo hF6); clear hB6 hF6; obtain ⟨y0, y1, y2, y3, g0, g1, g2, g3⟩ := HFX.out w6 (HF5.out.trans hf6))
      )
    have hst := BoxAt.fill (b := w.heap.size + 1) (B := w.heap.size) (HF6.out.heap0 HG.out) (Nat.le_succ _) (HB6.out.new.mono HF0.size)
    refine bodyPost_ret (results_row_tmp rfl _ _ (w.heap.size + 1) 25 _ (0, 0) _ (.int .i64 0) rfl hst.1.cells rfl Tryd.underlying25 rfl (by kernel_rfl)) rfl ⟨s6, rfl, hst.1.new, (HF0.trans HF6.out).newOnly (Nat.le_succ _) hst.2⟩
/-- Newest, whatever event it is given. -/
theorem newest_any (s : EvP) (e : Ev) (w : World) (he : EvAt w s e) (hkt : KT w) : Calls Tryd.prog 23 #[evV s e] w (UpPost w (newestR e)) := by
  unfold newestR
  rcases hm : mayS e with _ | _
  · rw [if_neg (by simp)]
    exact newest_form s e w he hkt hm
  · rw [if_pos rfl]
    exact newest_ok s e w he hkt hm
end Go.Proofs.YtgjabbhgmecbbaaDoor
