/-
  soukref07.To: the walk. No statement of the seat is proved here. soukref07.Lowest: the walk. No statement of the seat is proved here.
-/
import Derived.Test.YtgjabbhgmecbbaaDoorRDown
import Derived.Test.YtgjabbhgmecbbaaDoorNewest
import Derived.Test.YtgjabbhgmecbbaaDoorLowest
namespace Go.Proofs.YtgjabbhgmecbbaaDoor
open Go.RowKit

set_option maxHeartbeats 8000000 in
set_option maxRecDepth 100000 in
theorem rto_form (s : EvP) (e : Ev) (v : Nat) (w : World) (he : EvAt w s e) (hm : mayS e = false) :
    Calls Tryd.prog 12 #[evV s e, .int .u8 v] w (UpPost w (zeroE, 4)) := by
  have ME := hid (fun w1 (h : Fr No w w1) => rMay_any s e w1 (he.fr h))
  rw [hm] at ME
  unfold UpPost
  have HF0 : Fr No w ((w.alloc (.cells #[.int .u8 e.v, .int .u8 e.kind, .slice s.qn e.nums.length s.cn, .slice s.qt e.texts.length s.ct] 25)).alloc (.cells #[.int .u8 0, .int .u8 0, .slice none 0 0, .slice none 0 0] 25)) := ((Fr.refl w).alloc _).alloc _
  have g1 := Go.heap_alloc_new (w.alloc (.cells #[.int .u8 e.v, .int .u8 e.kind, .slice s.qn e.nums.length s.cn, .slice s.qt e.texts.length s.ct] 25)) (.cells #[.int .u8 0, .int .u8 0, .slice none 0 0, .slice none 0 0] 25)
  simp only [World.size_alloc] at g1
  have HG := hid g1
  clear g1
  have g0 : ((w.alloc (.cells #[.int .u8 e.v, .int .u8 e.kind, .slice s.qn e.nums.length s.cn, .slice s.qt e.texts.length s.ct] 25)).alloc (.cells #[.int .u8 0, .int .u8 0, .slice none 0 0, .slice none 0 0] 25)).heap[w.heap.size]? = some (.cells #[.int .u8 e.v, .int .u8 e.kind, .slice s.qn e.nums.length s.cn, .slice s.qt e.texts.length s.ct] 25 (0, 0)) := by
    rw [Below.heap_alloc _ _ _ (by simp)]; exact Go.heap_alloc_new _ _
  have HG0 := hid g0
  clear g0 he hm
  unfold evV at *
  go_enter Tryd.func12, Tryd.ntmps12
  go_wp2_with (first
    | (go_at_call 26; (with_reducible refine (ME.out _ HF0).mono ?_); rintro e1 w1 ⟨rfl, hf1⟩; obtain ⟨k0, k1, k2, k3, z0, z1, z2, z3⟩ := Go.Proofs.YtgjabbhgmecbbaaDoor.cells4 (hf1.heap0 HG.out); obtain ⟨c0, c1, c2, c3, _, _, _, _⟩ := Go.Proofs.YtgjabbhgmecbbaaDoor.cells4 (hf1.heap0 HG0.out)))
  obtain ⟨hst, hfr⟩ := store4 (hf1.heap0 HG.out) (.int .u8 0) (.int .u8 0) (.slice none 0 0) (.slice none 0 0)
  refine bodyPost_ret (results_row_tmp rfl _ _ (w.heap.size + 1) 25 _ (0, 0) _ (.int .i64 4) rfl hst rfl Tryd.underlying25 rfl (by kernel_rfl)) rfl ⟨⟨none, 0, none, 0⟩, rfl, EvNew.zero _ _, (HF0.trans hf1).newOnly (Nat.le_succ _) hfr⟩

set_option maxHeartbeats 8000000 in
set_option maxRecDepth 100000 in
theorem rto_version (s : EvP) (e : Ev) (v : Nat) (w : World) (he : EvAt w s e) (hm : mayS e = true) (hv : v < 1 ∨ 3 < v) :
    Calls Tryd.prog 12 #[evV s e, .int .u8 v] w (UpPost w (zeroE, 43)) := by
  have ME := hid (fun w1 (h : Fr No w w1) => rMay_any s e w1 (he.fr h))
  rw [hm] at ME
  unfold UpPost
  have HF0 : Fr No w ((w.alloc (.cells #[.int .u8 e.v, .int .u8 e.kind, .slice s.qn e.nums.length s.cn, .slice s.qt e.texts.length s.ct] 25)).alloc (.cells #[.int .u8 0, .int .u8 0, .slice none 0 0, .slice none 0 0] 25)) := ((Fr.refl w).alloc _).alloc _
  have g1 := Go.heap_alloc_new (w.alloc (.cells #[.int .u8 e.v, .int .u8 e.kind, .slice s.qn e.nums.length s.cn, .slice s.qt e.texts.length s.ct] 25)) (.cells #[.int .u8 0, .int .u8 0, .slice none 0 0, .slice none 0 0] 25)
  simp only [World.size_alloc] at g1
  have HG := hid g1
  clear g1
  have g0 : ((w.alloc (.cells #[.int .u8 e.v, .int .u8 e.kind, .slice s.qn e.nums.length s.cn, .slice s.qt e.texts.length s.ct] 25)).alloc (.cells #[.int .u8 0, .int .u8 0, .slice none 0 0, .slice none 0 0] 25)).heap[w.heap.size]? = some (.cells #[.int .u8 e.v, .int .u8 e.kind, .slice s.qn e.nums.length s.cn, .slice s.qt e.texts.length s.ct] 25 (0, 0)) := by
    rw [Below.heap_alloc _ _ _ (by simp)]; exact Go.heap_alloc_new _ _
  have HG0 := hid g0
  clear g0 he hm
  unfold evV at *
  by_cases h1 : v < 1
  · have b1 : decide ((v : Int) < 1) = true := by simp; omega
    clear hv h1
    go_enter Tryd.func12, Tryd.ntmps12
    go_wp2_with (first
      | (go_at_call 26; (with_reducible refine (ME.out _ HF0).mono ?_); rintro e1 w1 ⟨rfl, hf1⟩; obtain ⟨k0, k1, k2, k3, z0, z1, z2, z3⟩ := Go.Proofs.YtgjabbhgmecbbaaDoor.cells4 (hf1.heap0 HG.out); obtain ⟨c0, c1, c2, c3, _, _, _, _⟩ := Go.Proofs.YtgjabbhgmecbbaaDoor.cells4 (hf1.heap0 HG0.out)))
    obtain ⟨hst, hfr⟩ := store4 (hf1.heap0 HG.out) (.int .u8 0) (.int .u8 0) (.slice none 0 0) (.slice none 0 0)
    refine bodyPost_ret (results_row_tmp rfl _ _ (w.heap.size + 1) 25 _ (0, 0) _ (.int .i64 43) rfl hst rfl Tryd.underlying25 rfl (by kernel_rfl)) rfl ⟨⟨none, 0, none, 0⟩, rfl, EvNew.zero _ _, (HF0.trans hf1).newOnly (Nat.le_succ _) hfr⟩
  · have b1 : decide ((v : Int) < 1) = false := by simp; omega
    have b3 : decide ((3 : Int) < (v : Int)) = true := by simp; omega
    clear hv h1
    go_enter Tryd.func12, Tryd.ntmps12
    go_wp2_with (first
      | (go_at_call 26; (with_reducible refine (ME.out _ HF0).mono ?_); rintro e1 w1 ⟨rfl, hf1⟩; obtain ⟨k0, k1, k2, k3, z0, z1, z2, z3⟩ := Go.Proofs.YtgjabbhgmecbbaaDoor.cells4 (hf1.heap0 HG.out); obtain ⟨c0, c1, c2, c3, _, _, _, _⟩ := Go.Proofs.YtgjabbhgmecbbaaDoor.cells4 (hf1.heap0 HG0.out)))
    obtain ⟨hst, hfr⟩ := store4 (hf1.heap0 HG.out) (.int .u8 0) (.int .u8 0) (.slice none 0 0) (.slice none 0 0)
    refine bodyPost_ret (results_row_tmp rfl _ _ (w.heap.size + 1) 25 _ (0, 0) _ (.int .i64 43) rfl hst rfl Tryd.underlying25 rfl (by kernel_rfl)) rfl ⟨⟨none, 0, none, 0⟩, rfl, EvNew.zero _ _, (HF0.trans hf1).newOnly (Nat.le_succ _) hfr⟩

set_option maxHeartbeats 8000000 in
set_option maxRecDepth 100000 in
theorem rto_up (s : EvP) (e : Ev) (v : Nat) (w : World) (he : EvAt w s e) (hm : mayS e = true) (hv : 1 ≤ v ∧ v ≤ 3) (hlt : e.v < v) (IH : ∀ (s' : EvP) (e' : Ev) (w' : World), EvAt w' s' e' → mayS e' = true → (e'.v - v) + (v - e'.v) + 1 = (e.v - v) + (v - e.v) → Calls Tryd.prog 12 #[evV s' e', .int .u8 v] w' (UpPost w' (toR e' v))) :
    Calls Tryd.prog 12 #[evV s e, .int .u8 v] w (UpPost w (toR e v)) := by
  have ME := hid (fun w1 (h : Fr No w w1) => rMay_any s e w1 (he.fr h))
  rw [hm] at ME
  obtain ⟨_, hv1, hv3⟩ := may_is hm
  have b1 : decide ((v : Int) < 1) = false := by simp; omega
  have b3 : decide ((3 : Int) < (v : Int)) = false := by simp; omega
  have b5 : decide (e.v < v) = true := by simp; omega
  have UP := hid (fun w1 (h : Fr No w w1) => (by
    have h1 := rup_any s e w1 (he.fr h)
    unfold upR at h1
    rwa [if_pos hm, if_pos (may_rules hm (by omega))] at h1 : Calls Tryd.prog 27 #[evV s e] w1 (UpPost w1 (upS e, 0))))
  have HK := hid he.k8
  have hmm : mayS (upS e) = true := may_up hm (may_rules hm (by omega))
  have HMM := hid hmm
  have htt : toR (upS e) v = toR e v := by unfold toR; rw [hm, may_up hm (may_rules hm (by omega)), toS_up hlt]
  have IHX := hid (fun s' w1 (hn : EvAt w1 s' (upS e)) => IH s' (upS e) w1 hn hmm (by show (e.v + 1 - v) + (v - (e.v + 1)) + 1 = _; omega))
  rw [htt] at IHX
  generalize toR e v = R at IHX ⊢
  unfold UpPost at *
  have HF0 : Fr No w ((w.alloc (.cells #[.int .u8 e.v, .int .u8 e.kind, .slice s.qn e.nums.length s.cn, .slice s.qt e.texts.length s.ct] 25)).alloc (.cells #[.int .u8 0, .int .u8 0, .slice none 0 0, .slice none 0 0] 25)) := ((Fr.refl w).alloc _).alloc _
  have g1 := Go.heap_alloc_new (w.alloc (.cells #[.int .u8 e.v, .int .u8 e.kind, .slice s.qn e.nums.length s.cn, .slice s.qt e.texts.length s.ct] 25)) (.cells #[.int .u8 0, .int .u8 0, .slice none 0 0, .slice none 0 0] 25)
  simp only [World.size_alloc] at g1
  have HG := hid g1
  clear g1
  have g0 : ((w.alloc (.cells #[.int .u8 e.v, .int .u8 e.kind, .slice s.qn e.nums.length s.cn, .slice s.qt e.texts.length s.ct] 25)).alloc (.cells #[.int .u8 0, .int .u8 0, .slice none 0 0, .slice none 0 0] 25)).heap[w.heap.size]? = some (.cells #[.int .u8 e.v, .int .u8 e.kind, .slice s.qn e.nums.length s.cn, .slice s.qt e.texts.length s.ct] 25 (0, 0)) := by
    rw [Below.heap_alloc _ _ _ (by simp)]; exact Go.heap_alloc_new _ _
  have HG0 := hid g0
  have hkx : (upS e).kind ≤ 255 := he.k8
  have HKX := hid hkx
  clear g0 he hm hv hv1 hv3 hmm htt IH hkx hlt
  generalize upS e = U at UP IHX HMM HKX
  unfold evV at *
  go_enter Tryd.func12, Tryd.ntmps12
  go_wp2_with (first
    | (go_at_call 26; (with_reducible refine (ME.out _ HF0).mono ?_); rintro e1 w1 ⟨rfl, hf1⟩; obtain ⟨k0, k1, k2, k3, z0, z1, z2, z3⟩ := Go.Proofs.YtgjabbhgmecbbaaDoor.cells4 (hf1.heap0 HG.out); obtain ⟨c0, c1, c2, c3, _, _, _, _⟩ := Go.Proofs.YtgjabbhgmecbbaaDoor.cells4 (hf1.heap0 HG0.out))
    | (go_at_call 27; (with_reducible refine (UP.out _ (HF0.trans hf1)).mono ?_); rintro e5 w5 ⟨s5, rfl, hn5, hf5⟩; have HE5 := hid ((hn5.may HMM.out HKX.out).fr ((Fr.refl w5).alloc (.cells (eCells s5 U) 25))); have HF5 := hid (((HF0.trans hf1).trans hf5).alloc (.cells (eCells s5 U) 25)); have HG5 := hid ((hf5.alloc (.cells (eCells s5 U) 25)).heap0 (hf1.heap0 HG.out)); unfold eCells at HE5 HF5 HG5)
    | (go_at_call 12; (with_reducible refine (IHX.out s5 _ HE5.out).mono ?_); rintro e6 w6 ⟨s6, rfl, hn6, hf6⟩; clear k0 k1 k2 k3 z0 z1 z2 z3; obtain ⟨k0, k1, k2, k3, z0, z1, z2, z3⟩ := Go.Proofs.YtgjabbhgmecbbaaDoor.cells4 (hf6.heap0 HG5.out)))
  have hst := BoxAt.fill (w1 := w6) (b := w.heap.size + 1) (B := w.heap.size) (s := s6) (e := R.1) (hf6.heap0 HG5.out) (Nat.le_succ _) (hn6.mono HF5.out.size)
  refine bodyPost_ret (results_row_tmp rfl _ _ (w.heap.size + 1) 25 _ (0, 0) _ (.int .i64 R.2) rfl hst.1.cells rfl Tryd.underlying25 rfl (by kernel_rfl)) rfl ⟨s6, rfl, hst.1.new, (HF5.out.trans hf6).newOnly (Nat.le_succ _) hst.2⟩

set_option maxHeartbeats 8000000 in
set_option maxRecDepth 100000 in
theorem rto_down (s : EvP) (e : Ev) (v : Nat) (w : World) (he : EvAt w s e) (hm : mayS e = true) (hv : 1 ≤ v ∧ v ≤ 3) (hgt : v < e.v) (hd : downIs e = true) (IH : ∀ (s' : EvP) (e' : Ev) (w' : World), EvAt w' s' e' → mayS e' = true → (e'.v - v) + (v - e'.v) + 1 = (e.v - v) + (v - e.v) → Calls Tryd.prog 12 #[evV s' e', .int .u8 v] w' (UpPost w' (toR e' v))) :
    Calls Tryd.prog 12 #[evV s e, .int .u8 v] w (UpPost w (toR e v)) := by
  have ME := hid (fun w1 (h : Fr No w w1) => rMay_any s e w1 (he.fr h))
  rw [hm] at ME
  obtain ⟨_, hv1, hv3⟩ := may_is hm
  have b1 : decide ((v : Int) < 1) = false := by simp; omega
  have b3 : decide ((3 : Int) < (v : Int)) = false := by simp; omega
  have b5 : decide (e.v < v) = false := by simp; omega
  have b6 : decide (v < e.v) = true := by simp; omega
  have UP := hid (fun w1 (h : Fr No w w1) => (by
    have h1 := rdown_any s e w1 (he.fr h)
    unfold downR at h1
    rwa [if_pos hm, if_pos hd] at h1 : Calls Tryd.prog 28 #[evV s e] w1 (UpPost w1 (downE e, 0))))
  have HK := hid he.k8
  have hmm : mayS (downE e) = true := (downIs_down hd).1
  have HMM := hid hmm
  have htt : toR (downE e) v = toR e v := by unfold toR; rw [hm, (downIs_down hd).1, toS_down hgt hd]
  have IHX := hid (fun s' w1 (hn : EvAt w1 s' (downE e)) => IH s' (downE e) w1 hn hmm (by show (e.v - 1 - v) + (v - (e.v - 1)) + 1 = _; omega))
  rw [htt] at IHX
  generalize toR e v = R at IHX ⊢
  unfold UpPost at *
  have HF0 : Fr No w ((w.alloc (.cells #[.int .u8 e.v, .int .u8 e.kind, .slice s.qn e.nums.length s.cn, .slice s.qt e.texts.length s.ct] 25)).alloc (.cells #[.int .u8 0, .int .u8 0, .slice none 0 0, .slice none 0 0] 25)) := ((Fr.refl w).alloc _).alloc _
  have g1 := Go.heap_alloc_new (w.alloc (.cells #[.int .u8 e.v, .int .u8 e.kind, .slice s.qn e.nums.length s.cn, .slice s.qt e.texts.length s.ct] 25)) (.cells #[.int .u8 0, .int .u8 0, .slice none 0 0, .slice none 0 0] 25)
  simp only [World.size_alloc] at g1
  have HG := hid g1
  clear g1
  have g0 : ((w.alloc (.cells #[.int .u8 e.v, .int .u8 e.kind, .slice s.qn e.nums.length s.cn, .slice s.qt e.texts.length s.ct] 25)).alloc (.cells #[.int .u8 0, .int .u8 0, .slice none 0 0, .slice none 0 0] 25)).heap[w.heap.size]? = some (.cells #[.int .u8 e.v, .int .u8 e.kind, .slice s.qn e.nums.length s.cn, .slice s.qt e.texts.length s.ct] 25 (0, 0)) := by
    rw [Below.heap_alloc _ _ _ (by simp)]; exact Go.heap_alloc_new _ _
  have HG0 := hid g0
  have hkx : (downE e).kind ≤ 255 := he.k8
  have HKX := hid hkx
  clear g0 he hm hv hv1 hv3 hmm htt IH hkx hgt hd
  generalize downE e = U at UP IHX HMM HKX
  unfold evV at *
  go_enter Tryd.func12, Tryd.ntmps12
  go_wp2_with (first
    | (go_at_call 26; (with_reducible refine (ME.out _ HF0).mono ?_); rintro e1 w1 ⟨rfl, hf1⟩; obtain ⟨k0, k1, k2, k3, z0, z1, z2, z3⟩ := Go.Proofs.YtgjabbhgmecbbaaDoor.cells4 (hf1.heap0 HG.out); obtain ⟨c0, c1, c2, c3, _, _, _, _⟩ := Go.Proofs.YtgjabbhgmecbbaaDoor.cells4 (hf1.heap0 HG0.out))
    | (go_at_call 28; (with_reducible refine (UP.out _ (HF0.trans hf1)).mono ?_); rintro e5 w5 ⟨s5, rfl, hn5, hf5⟩; have HE5 := hid ((hn5.may HMM.out HKX.out).fr ((Fr.refl w5).alloc (.cells (eCells s5 U) 25))); have HF5 := hid (((HF0.trans hf1).trans hf5).alloc (.cells (eCells s5 U) 25)); have HG5 := hid ((hf5.alloc (.cells (eCells s5 U) 25)).heap0 (hf1.heap0 HG.out)); unfold eCells at HE5 HF5 HG5)
    | (go_at_call 12; (with_reducible refine (IHX.out s5 _ HE5.out).mono ?_); rintro e6 w6 ⟨s6, rfl, hn6, hf6⟩; clear k0 k1 k2 k3 z0 z1 z2 z3; obtain ⟨k0, k1, k2, k3, z0, z1, z2, z3⟩ := Go.Proofs.YtgjabbhgmecbbaaDoor.cells4 (hf6.heap0 HG5.out)))
  have hst := BoxAt.fill (w1 := w6) (b := w.heap.size + 1) (B := w.heap.size) (s := s6) (e := R.1) (hf6.heap0 HG5.out) (Nat.le_succ _) (hn6.mono HF5.out.size)
  refine bodyPost_ret (results_row_tmp rfl _ _ (w.heap.size + 1) 25 _ (0, 0) _ (.int .i64 R.2) rfl hst.1.cells rfl Tryd.underlying25 rfl (by kernel_rfl)) rfl ⟨s6, rfl, hst.1.new, (HF5.out.trans hf6).newOnly (Nat.le_succ _) hst.2⟩

set_option maxHeartbeats 8000000 in
set_option maxRecDepth 100000 in
theorem rto_none (s : EvP) (e : Ev) (v : Nat) (w : World) (he : EvAt w s e) (hm : mayS e = true) (hv : 1 ≤ v ∧ v ≤ 3) (hgt : v < e.v) (hd : downIs e = false) :
    Calls Tryd.prog 12 #[evV s e, .int .u8 v] w (UpPost w (zeroE, 43)) := by
  have ME := hid (fun w1 (h : Fr No w w1) => rMay_any s e w1 (he.fr h))
  rw [hm] at ME
  obtain ⟨_, hv1, hv3⟩ := may_is hm
  have b1 : decide ((v : Int) < 1) = false := by simp; omega
  have b3 : decide ((3 : Int) < (v : Int)) = false := by simp; omega
  have b5 : decide (e.v < v) = false := by simp; omega
  have b6 : decide (v < e.v) = true := by simp; omega
  have UP := hid (fun w1 (h : Fr No w w1) => (by
    have h1 := rdown_any s e w1 (he.fr h)
    unfold downR at h1
    rwa [if_pos hm, hd, if_neg (by simp)] at h1 : Calls Tryd.prog 28 #[evV s e] w1 (UpPost w1 (zeroE, 43))))
  unfold UpPost zeroE at *
  have HF0 : Fr No w ((w.alloc (.cells #[.int .u8 e.v, .int .u8 e.kind, .slice s.qn e.nums.length s.cn, .slice s.qt e.texts.length s.ct] 25)).alloc (.cells #[.int .u8 0, .int .u8 0, .slice none 0 0, .slice none 0 0] 25)) := ((Fr.refl w).alloc _).alloc _
  have g1 := Go.heap_alloc_new (w.alloc (.cells #[.int .u8 e.v, .int .u8 e.kind, .slice s.qn e.nums.length s.cn, .slice s.qt e.texts.length s.ct] 25)) (.cells #[.int .u8 0, .int .u8 0, .slice none 0 0, .slice none 0 0] 25)
  simp only [World.size_alloc] at g1
  have HG := hid g1
  clear g1
  have g0 : ((w.alloc (.cells #[.int .u8 e.v, .int .u8 e.kind, .slice s.qn e.nums.length s.cn, .slice s.qt e.texts.length s.ct] 25)).alloc (.cells #[.int .u8 0, .int .u8 0, .slice none 0 0, .slice none 0 0] 25)).heap[w.heap.size]? = some (.cells #[.int .u8 e.v, .int .u8 e.kind, .slice s.qn e.nums.length s.cn, .slice s.qt e.texts.length s.ct] 25 (0, 0)) := by
    rw [Below.heap_alloc _ _ _ (by simp)]; exact Go.heap_alloc_new _ _
  have HG0 := hid g0
  clear g0 he hm hv hv1 hv3 hgt hd
  unfold evV at *
  go_enter Tryd.func12, Tryd.ntmps12
  go_wp2_with (first
    | (go_at_call 26; (with_reducible refine (ME.out _ HF0).mono ?_); rintro e1 w1 ⟨rfl, hf1⟩; obtain ⟨k0, k1, k2, k3, z0, z1, z2, z3⟩ := Go.Proofs.YtgjabbhgmecbbaaDoor.cells4 (hf1.heap0 HG.out); obtain ⟨c0, c1, c2, c3, _, _, _, _⟩ := Go.Proofs.YtgjabbhgmecbbaaDoor.cells4 (hf1.heap0 HG0.out))
    | (go_at_call 28; (with_reducible refine (UP.out _ (HF0.trans hf1)).mono ?_); rintro e5 w5 ⟨s5, rfl, _, hf5⟩; clear k0 k1 k2 k3 z0 z1 z2 z3; obtain ⟨k0, k1, k2, k3, z0, z1, z2, z3⟩ := Go.Proofs.YtgjabbhgmecbbaaDoor.cells4 (hf5.heap0 (hf1.heap0 HG.out)); have zl : w.heap.size + 1 < w5.heap.size := World.block_lt_of_cell? w5 _ k0))
  obtain ⟨hst, hfr⟩ := store4 (hf5.heap0 (hf1.heap0 HG.out)) (.int .u8 0) (.int .u8 0) (.slice none 0 0) (.slice none 0 0)
  refine bodyPost_ret (results_row_tmp rfl _ _ (w.heap.size + 1) 25 _ (0, 0) _ (.int .i64 43) rfl (((Fr.refl _).alloc _).heap0 hst) rfl Tryd.underlying25 rfl (by kernel_rfl)) rfl ⟨⟨none, 0, none, 0⟩, rfl, EvNew.zero _ _, (((HF0.trans hf1).trans hf5).newOnly (Nat.le_succ _) hfr).alloc _⟩

set_option maxHeartbeats 8000000 in
set_option maxRecDepth 100000 in
theorem rto_self (s : EvP) (e : Ev) (v : Nat) (w : World) (he : EvAt w s e) (hm : mayS e = true) (hv : 1 ≤ v ∧ v ≤ 3) (heq : e.v = v) :
    Calls Tryd.prog 12 #[evV s e, .int .u8 v] w (UpPost w (e, 0)) := by
  have ME := hid (fun w1 (h : Fr No w w1) => rMay_any s e w1 (he.fr h))
  rw [hm] at ME
  obtain ⟨hl7, hn7, ht1, _, _⟩ := may_small hm
  clear hl7
  have b1 : decide ((v : Int) < 1) = false := by simp; omega
  have b3 : decide ((3 : Int) < (v : Int)) = false := by simp; omega
  have b5 : decide (e.v < v) = false := by simp; omega
  have b6 : decide (v < e.v) = false := by simp; omega
  unfold UpPost
  have HF0 : Fr No w ((w.alloc (.cells #[.int .u8 e.v, .int .u8 e.kind, .slice s.qn e.nums.length s.cn, .slice s.qt e.texts.length s.ct] 25)).alloc (.cells #[.int .u8 0, .int .u8 0, .slice none 0 0, .slice none 0 0] 25)) := ((Fr.refl w).alloc _).alloc _
  have g1 := Go.heap_alloc_new (w.alloc (.cells #[.int .u8 e.v, .int .u8 e.kind, .slice s.qn e.nums.length s.cn, .slice s.qt e.texts.length s.ct] 25)) (.cells #[.int .u8 0, .int .u8 0, .slice none 0 0, .slice none 0 0] 25)
  simp only [World.size_alloc] at g1
  have HG := hid g1
  clear g1
  have g0 : ((w.alloc (.cells #[.int .u8 e.v, .int .u8 e.kind, .slice s.qn e.nums.length s.cn, .slice s.qt e.texts.length s.ct] 25)).alloc (.cells #[.int .u8 0, .int .u8 0, .slice none 0 0, .slice none 0 0] 25)).heap[w.heap.size]? = some (.cells #[.int .u8 e.v, .int .u8 e.kind, .slice s.qn e.nums.length s.cn, .slice s.qt e.texts.length s.ct] 25 (0, 0)) := by
    rw [Below.heap_alloc _ _ _ (by simp)]; exact Go.heap_alloc_new _ _
  have HG0 := hid g0
  obtain ⟨i0, hi, hz0, hz1, hz2⟩ := info_parts infoI64
  obtain ⟨j0, hj, hy0, hy1, hy2⟩ := info_parts infoStr
  have HE := hid he
  have m1 : e.nums.length ≤ maxLen := by unfold maxLen; omega
  have m2 : e.nums.length * 8 ≤ 140737488355328 := by omega
  have m3 : e.texts.length ≤ maxLen := by unfold maxLen; omega
  have m4 : e.texts.length * 16 ≤ 140737488355328 := by omega
  clear g0 he hm hv hn7 ht1 heq
  unfold evV at *
  go_enter Tryd.func12, Tryd.ntmps12
  go_upto_region 13 with (first
    | (go_at_call 26; (with_reducible refine (ME.out _ HF0).mono ?_); rintro e1 w1 ⟨rfl, hf1⟩; obtain ⟨k0, k1, k2, k3, z0, z1, z2, z3⟩ := Go.Proofs.YtgjabbhgmecbbaaDoor.cells4 (hf1.heap0 HG.out); obtain ⟨c0, c1, c2, c3, _, _, _, _⟩ := Go.Proofs.YtgjabbhgmecbbaaDoor.cells4 (hf1.heap0 HG0.out)))
  clear k0 k1 k2 k3 z0 z1 z2 z3
  have HW := hid (HF0.trans hf1)
  have HS1 := hid (fun w' (hf : Fr No w1 w') => (by
    have := Src.ofSl (P := Tryd.prog) (c := s.cn) Tryd.underlying22 (HE.out.nums.fr (HW.out.trans hf)) (num_one e.nums)
    simpa using this : Src Tryd.prog 1 22 (.slice s.qn e.nums.length s.cn) e.nums.length (e.nums.map numV) w'))
  have HS2 := hid (fun w' (hf : Fr No w1 w') => (by
    have := Src.ofSl (P := Tryd.prog) (c := s.ct) Tryd.underlying23 (HE.out.texts.fr (HW.out.trans hf)) (str_one e.texts)
    simpa using this : Src Tryd.prog 1 23 (.slice s.qt e.texts.length s.ct) e.texts.length (e.texts.map strV) w'))
  have HG1 := hid (hf1.heap0 HG.out)
  go_region_held3 (fun w' => Fr (Only (w.heap.size + 1)) w1 w' ∧ w'.cell? ⟨w.heap.size, 0, none⟩ = some (.int .u8 e.v) ∧ w'.cell? ⟨w.heap.size, 1, none⟩ = some (.int .u8 e.kind) ∧ w'.cell? ⟨w.heap.size, 2, none⟩ = some (.slice s.qn e.nums.length s.cn) ∧ w'.cell? ⟨w.heap.size, 3, none⟩ = some (.slice s.qt e.texts.length s.ct))
    ((go_split_ands; refine five_keep c0 c1 c2 c3 (by omega) ?_; (try (refine Fr.set_only ?_ _ _; refine Fr.set_only ?_ _ _; refine Fr.set_only ?_ _ _; refine Fr.set_only ?_ _ _)); refine Fr.of0 ?_; repeat (first | exact Fr.refl _ | assumption | refine Fr.drew ?_ | refine Fr.alloc ?_ _)))
    (first
      | ((refine step_append0 (by rfl) _ _ _ _ (by rfl) 2 i0 _ 8 Tryd.underlying22 hi hz0 hz1 hz2 (by rfl) _ (by rfl) (.slice s.qn e.nums.length s.cn) e.nums.length (e.nums.map numV) (by rfl) HS1.out m1 m2 ?_ ?_; · (repeat (first | exact Fr.refl _ | assumption | refine Fr.drew ?_ | refine Fr.alloc ?_ _))); intro q1 p1 wA hr1 hfA hFA)
      | ((refine step_append0 (by rfl) _ _ _ _ (by rfl) 9 j0 _ 16 Tryd.underlying23 hj hy0 hy1 hy2 (by rfl) _ (by rfl) (.slice s.qt e.texts.length s.ct) e.texts.length (e.texts.map strV) (by rfl) HS2.out m3 m4 ?_ ?_; · (repeat (first | exact Fr.refl _ | assumption | refine Fr.drew ?_ | refine Fr.alloc ?_ _))); intro q2 p2 wB hr2 hfB hFB; obtain ⟨k0, k1, k2, k3, f0, f1, f2, f3⟩ := Go.Proofs.YtgjabbhgmecbbaaDoor.cells4 (hFB.heap0 HG1.out)))
  all_goals
    have hr1' := hr1.fr0 (show Fr No wA wB by first | exact hfB | exact ((Fr.refl _).alloc _).trans hfB | exact ((Fr.refl _).drew).trans hfB | exact (((Fr.refl _).alloc _).drew).trans hfB)
    have hst := BoxAt.fill (w1 := wB) (b := w.heap.size + 1) (B := w.heap.size) (s := ⟨q1, p1, q2, p2⟩) (e := e) (hFB.heap0 HG1.out) (Nat.le_succ _) ⟨hr1'.mono HW.out.size, hr2.mono HW.out.size⟩
    have HST := hid hst
    clear hst k0 k1 k2 k3 f0 f1 f2 f3 hr1 hr1' hr2 hfA hFA hfB c0 c1 c2 c3
    go_wp2_with fail
    refine bodyPost_ret (results_row_tmp rfl _ _ (w.heap.size + 1) 25 _ (0, 0) _ (.int .i64 0) rfl HST.out.1.cells rfl Tryd.underlying25 rfl (by kernel_rfl)) rfl ⟨_, rfl, HST.out.1.new, (HW.out.trans hFB).newOnly (Nat.le_succ _) HST.out.2⟩

/-- The document's To, whatever it is given. -/
theorem rto_any' (v : Nat) : ∀ (n : Nat) (s : EvP) (e : Ev) (w : World), EvAt w s e → (e.v - v) + (v - e.v) ≤ n → Calls Tryd.prog 12 #[evV s e, .int .u8 v] w (UpPost w (toR e v)) := by
  intro n
  induction n with
  | zero =>
    intro s e w he hn
    rcases hm : mayS e with _ | _
    · have : toR e v = (zeroE, 4) := by unfold toR; rw [hm]; rfl
      rw [this]; exact rto_form s e v w he hm
    · by_cases hv : v < 1 ∨ 3 < v
      · have : toR e v = (zeroE, 43) := by unfold toR; rw [hm, if_pos hv]; rfl
        rw [this]; exact rto_version s e v w he hm hv
      · have hE : e.v = v := by omega
        have : toR e v = (e, 0) := by unfold toR; rw [hm, if_neg hv, toS_self hE]; rfl
        rw [this]; exact rto_self s e v w he hm (by omega) hE
  | succ n ih =>
    intro s e w he hn
    rcases hm : mayS e with _ | _
    · have : toR e v = (zeroE, 4) := by unfold toR; rw [hm]; rfl
      rw [this]; exact rto_form s e v w he hm
    · by_cases hv : v < 1 ∨ 3 < v
      · have : toR e v = (zeroE, 43) := by unfold toR; rw [hm, if_pos hv]; rfl
        rw [this]; exact rto_version s e v w he hm hv
      · by_cases hE : e.v = v
        · have : toR e v = (e, 0) := by unfold toR; rw [hm, if_neg hv, toS_self hE]; rfl
          rw [this]; exact rto_self s e v w he hm (by omega) hE
        · by_cases hlt : e.v < v
          · exact rto_up s e v w he hm (by omega) hlt (fun s' e' w' h1 _ h3 => ih s' e' w' h1 (by omega))
          · rcases hd : downIs e with _ | _
            · have : toR e v = (zeroE, 43) := by unfold toR; rw [hm, if_neg hv, toS_none (by omega) hd]; rfl
              rw [this]; exact rto_none s e v w he hm (by omega) (by omega) hd
            · exact rto_down s e v w he hm (by omega) (by omega) hd (fun s' e' w' h1 _ h3 => ih s' e' w' h1 (by omega))
theorem rto_any (s : EvP) (e : Ev) (v : Nat) (w : World) (he : EvAt w s e) : Calls Tryd.prog 12 #[evV s e, .int .u8 v] w (UpPost w (toR e v)) := rto_any' v _ s e w he (Nat.le_refl _)

theorem allOK_snoc {l : List (EvP × Ev)} {m : Nat} {p : EvP × Ev} (hp : l[m]? = some p) (u : Nat) : allOK (l.take (m + 1)) u = (allOK (l.take m) u && decide ((toR p.2 u).2 = 0)) := by
  have h := List.getElem?_eq_some_iff.1 hp
  rw [List.take_succ_eq_append_getElem h.1, h.2]
  unfold allOK
  rw [List.all_append]
  simp
set_option maxHeartbeats 8000000 in
set_option maxRecDepth 100000 in
theorem rlowest_any (l : List (EvP × Ev)) (q : Option Addr) (cap v : Nat) (w : World) (hl : LsAt w q l) (hn : l.length ≤ 1000000) (hv : v ≤ 255) :
    Calls Tryd.prog 13 #[.slice q l.length cap, .int .u8 v] w (LowPost w l v) := by
  have LA := hid (fun w1 (h : Fr No w w1) => hl.fr h)
  have ME := hid (fun s e w1 (h : EvAt w1 s e) => rMay_any s e w1 h)
  have TW := hid (fun s e u w1 (h : EvAt w1 s e) => rto_any s e u w1 h)
  clear hl
  go_enter Tryd.func13, Tryd.ntmps13
  go_wp2_with fail
  go_loopg [7] l.length (fun k i wr => ∃ m : Nat, m ≤ l.length ∧ l.length ≤ m + k ∧ i = .int .i64 m ∧ Hid (anyBad (l.take m) = false) ∧ Fr No w wr)
  case atStart => exact ⟨0, Nat.zero_le _, by omega, rfl, hid rfl, Fr.refl _⟩
  case round =>
    obtain ⟨m, hm, hk, rfl, HB, hf⟩ := hrel
    by_cases hlt : m < l.length
    · obtain ⟨p, hp⟩ : ∃ p, l[m]? = some p := ⟨_, List.getElem?_eq_getElem hlt⟩
      obtain ⟨s, e⟩ := p
      obtain ⟨hE, b, o, hq, c0, c1, c2, c3⟩ := LA.out _ hf m s e hp
      subst hq
      have i1 : (m : Int) < (l.length : Int) := by omega
      have i2 : (0 : Int) ≤ (m : Int) := by omega
      have i4 : (m : Int) + 1 ≤ 1000001 := by omega
      have ht : l.take (m + 1) = l.take m ++ [(s, e)] := by rw [List.take_succ_eq_append_getElem hlt, (List.getElem?_eq_some_iff.1 hp).2]
      have M1 := hid (ME.out s e wr hE)
      have HE := hid (And.intro hp ht)
      clear hp ht hE
      rcases hme : mayS e with _ | _
      · rw [hme] at M1
        have HBAD : Hid (anyBad l = true) := hid (List.any_eq_true.2 ⟨(s, e), List.mem_of_getElem? HE.out.1, by simp [hme]⟩)
        clear hme
        unfold evV at M1
        go_wp2_with (first | (go_at_call 26; (with_reducible refine M1.out.mono ?_); rintro e1 w1 ⟨rfl, hf1⟩) | fail)
        go_ret3
        exact ⟨hf.trans hf1, .inl ⟨HBAD.out, rfl⟩⟩
      · rw [hme] at M1
        have HOK : Hid (anyBad (l.take (m + 1)) = false) := hid (by rw [HE.out.2]; unfold anyBad at HB ⊢; rw [List.any_append, HB.out]; simp [hme])
        clear hme
        unfold evV at M1
        go_wp2_with (first | (go_at_call 26; (with_reducible refine M1.out.mono ?_); rintro e1 w1 ⟨rfl, hf1⟩) | fail)
        go_roundg (gk - 1)
        case measure => omega
        case rel => exact ⟨m + 1, by omega, by omega, by go_num, HOK, hf.trans hf1⟩
    · obtain rfl : m = l.length := by omega
      rw [List.take_length] at HB
      clear hlt hm hk ME
      go_wp2_with fail
      go_loopg [1] 4 (fun k i wq => ∃ u : Nat, i = .int .u8 u ∧ Hid (lowO l u = lowO l v) ∧ u ≤ 255 ∧ (1 ≤ u → u ≤ 3 → 4 ≤ u + k) ∧ Fr No w wq)
      case atStart => exact ⟨v, rfl, hid rfl, hv, by omega, hf⟩
      case round =>
        rename World => wq
        obtain ⟨u, rfl, HU, hu, hk, hfq⟩ := hrel
        by_cases h1 : u < 1
        · have d1 : decide ((1 : Int) ≤ (u : Int)) = false := by simp; omega
          have HN : Hid (lowO l v = none) := hid (by rw [← HU.out, show u = 0 by omega]; rfl)
          clear h1 hk
          go_wp2_with fail
          go_ret3
          exact ⟨hfq, .inr (.inl ⟨HB.out, HN.out, rfl⟩)⟩
        · by_cases h3 : 3 < u
          · have d1 : decide ((1 : Int) ≤ (u : Int)) = true := by simp; omega
            have d2 : decide ((u : Int) ≤ 3) = false := by simp; omega
            have HN : Hid (lowO l v = none) := hid (by rw [← HU.out]; exact lowO_big h3)
            clear h1 hk
            go_wp2_with fail
            go_ret3
            exact ⟨hfq, .inr (.inl ⟨HB.out, HN.out, rfl⟩)⟩
          · have d1 : decide ((1 : Int) ≤ (u : Int)) = true := by simp; omega
            have d2 : decide ((u : Int) ≤ 3) = true := by simp; omega
            have hu1 : 1 ≤ u := by omega
            have hu3 : u ≤ 3 := by omega
            have hk4 := hk hu1 hu3
            have hst := lowO_step (l := l) (v := u) (by omega) (by omega)
            rw [HU.out] at hst
            have HST := hid hst
            obtain ⟨go, hgo⟩ : ∃ g, g = gk := ⟨gk, rfl⟩
            have hgk4 : 4 ≤ u + go := by omega
            have HGO := hid hgo
            clear hst hk h1 h3 hk4 hgo
            go_wp2_with fail
            go_loopg [8, 9, 10] l.length (fun k ov av i wz => ∃ (m : Nat) (L : List (EvP × Ev)) (A : Bool), m ≤ l.length ∧ l.length ≤ m + k ∧ i = .int .i64 m ∧ av = .bool A ∧ Hid (A = allOK (l.take m) u) ∧ Hid (L.length = m ∧ L.map Prod.snd = (l.take m).map (fun p => (toR p.2 u).1)) ∧ LsRow w.heap.size wz ov L ∧ Fr No w wz)
            case atStart => exact ⟨0, [], true, Nat.zero_le _, by omega, rfl, rfl, hid rfl, hid ⟨rfl, rfl⟩, LsRow.nil _ _, hfq⟩
            case round =>
              rename World => wz
              rename_i ov
              obtain ⟨m, L, A, hm, hk, rfl, rfl, HA, HL, hrow, hfz⟩ := hrel
              by_cases hlt : m < l.length
              · obtain ⟨⟨s, e⟩, hp⟩ : ∃ p, l[m]? = some p := ⟨_, List.getElem?_eq_getElem hlt⟩
                obtain ⟨hE, b, o, hq, c0, c1, c2, c3⟩ := LA.out _ hfz m s e hp
                subst hq
                have i1 : (m : Int) < (l.length : Int) := by omega
                have i2 : (0 : Int) ≤ (m : Int) := by omega
                have i4 : (m : Int) + 1 ≤ 1000001 := by omega
                have ht : l.take (m + 1) = l.take m ++ [(s, e)] := by rw [List.take_succ_eq_append_getElem hlt, (List.getElem?_eq_some_iff.1 hp).2]
                have TE := hid (TW.out s e u wz hE)
                have HNX : Hid (allOK (l.take (m + 1)) u = (A && decide ((toR e u).2 = 0))) := hid (by rw [allOK_snoc hp, HA.out])
                have HE := hid (And.intro hp ht)
                have HLL := hid HL.out.1
                have HROW := hid hrow
                obtain ⟨i0, hi, hz0, hz1, hz2⟩ := info_parts infoEv
                generalize hR : toR e u = R at TE HNX
                have HR := hid hR
                clear hp ht hE hrow hR
                unfold UpPost evV at TE
                rcases A with _ | _
                · have HZ : Hid (false = allOK (l.take (m + 1)) u) := hid (by rw [HNX.out]; rfl)
                  go_wp2_with (first
                    | (go_at_call 12; (with_reducible refine TE.out.mono ?_); rintro e5 w5 ⟨s5, rfl, hn5, hf5⟩; have hown := (HROW.out.fr ((hf5.alloc (.cells #[.int .u8 R.1.v, .int .u8 R.1.kind, .slice s5.qn R.1.nums.length s5.cn, .slice s5.qt R.1.texts.length s5.ct] 25)).alloc (.cells #[.int .u8 R.1.v, .int .u8 R.1.kind, .slice s5.qn R.1.nums.length s5.cn, .slice s5.qt R.1.texts.length s5.ct] 25))).own)
                    | (at_builtin; refine wpList_append_fr _ rfl _ _ 26 rfl 25 i0 (.agg #[.int .u8 0, .int .u8 0, .slice none 0 0, .slice none 0 0]) 4 56 Tryd.underlying26 hi hz0 hz1 hz2 rfl (by decide) _ _ _ rfl hown ⟨w5.heap.size + 1, 0, none⟩ 1 1 (evC (s5, R.1)) rfl rfl ?c1 ?c2 ?c3 ?c4 ?_)
                    | fail)
                  case c1 => intro j u hu; have h := cells_new (w5.alloc (.cells #[.int .u8 R.1.v, .int .u8 R.1.kind, .slice s5.qn R.1.nums.length s5.cn, .slice s5.qt R.1.texts.length s5.ct] 25)) (evC (s5, R.1)) 25 j u hu; simp only [World.size_alloc] at h; exact h
                  case c2 => intro u hu; simp [evC] at hu; rcases hu with rfl | rfl | rfl | rfl <;> rfl
                  case c3 => have := HLL.out; unfold maxLen; omega
                  case c4 => have := HLL.out; omega
                  intro v' w6 ho hf6 hn6
                  have hA : Fr No w5 ((w5.alloc (.cells #[.int .u8 R.1.v, .int .u8 R.1.kind, .slice s5.qn R.1.nums.length s5.cn, .slice s5.qt R.1.texts.length s5.ct] 25)).alloc (.cells #[.int .u8 R.1.v, .int .u8 R.1.kind, .slice s5.qn R.1.nums.length s5.cn, .slice s5.qt R.1.texts.length s5.ct] 25)) := ((Fr.refl w5).alloc _).alloc _
                  have hfW := hf5.trans hA
                  have hnew := (hn5.fr hA).onlyS hown hf6
                  have hall : ∀ x, x ∈ L ++ [(s5, R.1)] → EvNew w.heap.size w6 x.1 x.2 := fun x hx => by
                    rcases List.mem_append.1 hx with hx | hx
                    · exact ((HROW.out.evs x hx).fr hfW).onlyS hown hf6
                    · obtain rfl : x = (s5, R.1) := by simpa using hx
                      exact hnew.mono hfz.size
                  have hrow := HROW.out.more (w4 := (w5.alloc (.cells #[.int .u8 R.1.v, .int .u8 R.1.kind, .slice s5.qn R.1.nums.length s5.cn, .slice s5.qt R.1.texts.length s5.ct] 25)).alloc (.cells #[.int .u8 R.1.v, .int .u8 R.1.kind, .slice s5.qn R.1.nums.length s5.cn, .slice s5.qt R.1.texts.length s5.ct] 25)) (p := (s5, R.1)) (Nat.le_trans hfz.size hfW.size) hall ho (by simpa using hn6) hnew (Nat.le_refl _)
                  have HNR := hid hrow
                  have HFE := hid ((hfz.trans hfW).newOnlyS (fun g hg => HROW.out.new g hg) hf6)
                  have HOK : Hid ((L ++ [(s5, R.1)]).length = m + 1 ∧ (L ++ [(s5, R.1)]).map Prod.snd = (l.take (m + 1)).map (fun p => (toR p.2 u).1)) := hid (by
                    obtain ⟨h1, h3⟩ := HL.out
                    rw [HE.out.2]
                    exact ⟨by simp [h1], by simp [h3, HR.out]⟩)
                  clear ho hf6 hn6 hown hA hfW hnew hall hrow
                  go_wp2_with fail
                  go_roundg (gk - 1)
                  case measure => omega
                  case rel => exact ⟨m + 1, L ++ [(s5, R.1)], false, by omega, by omega, by go_num, rfl, HZ, HOK, HNR.out, HFE.out⟩
                · by_cases hz : R.2 = 0
                  · have z1 : (R.2 == 0) = true := by rw [hz]; rfl
                    have HZ : Hid (true = allOK (l.take (m + 1)) u) := hid (by rw [HNX.out]; simp [hz])
                    clear hz
                    go_wp2_with (first
                      | (go_at_call 12; (with_reducible refine TE.out.mono ?_); rintro e5 w5 ⟨s5, rfl, hn5, hf5⟩; have hown := (HROW.out.fr ((hf5.alloc (.cells #[.int .u8 R.1.v, .int .u8 R.1.kind, .slice s5.qn R.1.nums.length s5.cn, .slice s5.qt R.1.texts.length s5.ct] 25)).alloc (.cells #[.int .u8 R.1.v, .int .u8 R.1.kind, .slice s5.qn R.1.nums.length s5.cn, .slice s5.qt R.1.texts.length s5.ct] 25))).own)
                      | (at_builtin; refine wpList_append_fr _ rfl _ _ 26 rfl 25 i0 (.agg #[.int .u8 0, .int .u8 0, .slice none 0 0, .slice none 0 0]) 4 56 Tryd.underlying26 hi hz0 hz1 hz2 rfl (by decide) _ _ _ rfl hown ⟨w5.heap.size + 1, 0, none⟩ 1 1 (evC (s5, R.1)) rfl rfl ?c1 ?c2 ?c3 ?c4 ?_)
                      | fail)
                    case c1 => intro j u hu; have h := cells_new (w5.alloc (.cells #[.int .u8 R.1.v, .int .u8 R.1.kind, .slice s5.qn R.1.nums.length s5.cn, .slice s5.qt R.1.texts.length s5.ct] 25)) (evC (s5, R.1)) 25 j u hu; simp only [World.size_alloc] at h; exact h
                    case c2 => intro u hu; simp [evC] at hu; rcases hu with rfl | rfl | rfl | rfl <;> rfl
                    case c3 => have := HLL.out; unfold maxLen; omega
                    case c4 => have := HLL.out; omega
                    intro v' w6 ho hf6 hn6
                    have hA : Fr No w5 ((w5.alloc (.cells #[.int .u8 R.1.v, .int .u8 R.1.kind, .slice s5.qn R.1.nums.length s5.cn, .slice s5.qt R.1.texts.length s5.ct] 25)).alloc (.cells #[.int .u8 R.1.v, .int .u8 R.1.kind, .slice s5.qn R.1.nums.length s5.cn, .slice s5.qt R.1.texts.length s5.ct] 25)) := ((Fr.refl w5).alloc _).alloc _
                    have hfW := hf5.trans hA
                    have hnew := (hn5.fr hA).onlyS hown hf6
                    have hall : ∀ x, x ∈ L ++ [(s5, R.1)] → EvNew w.heap.size w6 x.1 x.2 := fun x hx => by
                      rcases List.mem_append.1 hx with hx | hx
                      · exact ((HROW.out.evs x hx).fr hfW).onlyS hown hf6
                      · obtain rfl : x = (s5, R.1) := by simpa using hx
                        exact hnew.mono hfz.size
                    have hrow := HROW.out.more (w4 := (w5.alloc (.cells #[.int .u8 R.1.v, .int .u8 R.1.kind, .slice s5.qn R.1.nums.length s5.cn, .slice s5.qt R.1.texts.length s5.ct] 25)).alloc (.cells #[.int .u8 R.1.v, .int .u8 R.1.kind, .slice s5.qn R.1.nums.length s5.cn, .slice s5.qt R.1.texts.length s5.ct] 25)) (p := (s5, R.1)) (Nat.le_trans hfz.size hfW.size) hall ho (by simpa using hn6) hnew (Nat.le_refl _)
                    have HNR := hid hrow
                    have HFE := hid ((hfz.trans hfW).newOnlyS (fun g hg => HROW.out.new g hg) hf6)
                    have HOK : Hid ((L ++ [(s5, R.1)]).length = m + 1 ∧ (L ++ [(s5, R.1)]).map Prod.snd = (l.take (m + 1)).map (fun p => (toR p.2 u).1)) := hid (by
                      obtain ⟨h1, h3⟩ := HL.out
                      rw [HE.out.2]
                      exact ⟨by simp [h1], by simp [h3, HR.out]⟩)
                    clear ho hf6 hn6 hown hA hfW hnew hall hrow
                    go_wp2_with fail
                    go_roundg (gk - 1)
                    case measure => omega
                    case rel => exact ⟨m + 1, L ++ [(s5, R.1)], true, by omega, by omega, by go_num, rfl, HZ, HOK, HNR.out, HFE.out⟩
                  · have z1 : (R.2 == 0) = false := by rw [beq_eq_false_iff_ne]; exact hz
                    have HZ : Hid (false = allOK (l.take (m + 1)) u) := hid (by rw [HNX.out]; simp [hz])
                    clear hz
                    go_wp2_with (first
                      | (go_at_call 12; (with_reducible refine TE.out.mono ?_); rintro e5 w5 ⟨s5, rfl, hn5, hf5⟩; have hown := (HROW.out.fr ((hf5.alloc (.cells #[.int .u8 R.1.v, .int .u8 R.1.kind, .slice s5.qn R.1.nums.length s5.cn, .slice s5.qt R.1.texts.length s5.ct] 25)).alloc (.cells #[.int .u8 R.1.v, .int .u8 R.1.kind, .slice s5.qn R.1.nums.length s5.cn, .slice s5.qt R.1.texts.length s5.ct] 25))).own)
                      | (at_builtin; refine wpList_append_fr _ rfl _ _ 26 rfl 25 i0 (.agg #[.int .u8 0, .int .u8 0, .slice none 0 0, .slice none 0 0]) 4 56 Tryd.underlying26 hi hz0 hz1 hz2 rfl (by decide) _ _ _ rfl hown ⟨w5.heap.size + 1, 0, none⟩ 1 1 (evC (s5, R.1)) rfl rfl ?c1 ?c2 ?c3 ?c4 ?_)
                      | fail)
                    case c1 => intro j u hu; have h := cells_new (w5.alloc (.cells #[.int .u8 R.1.v, .int .u8 R.1.kind, .slice s5.qn R.1.nums.length s5.cn, .slice s5.qt R.1.texts.length s5.ct] 25)) (evC (s5, R.1)) 25 j u hu; simp only [World.size_alloc] at h; exact h
                    case c2 => intro u hu; simp [evC] at hu; rcases hu with rfl | rfl | rfl | rfl <;> rfl
                    case c3 => have := HLL.out; unfold maxLen; omega
                    case c4 => have := HLL.out; omega
                    intro v' w6 ho hf6 hn6
                    have hA : Fr No w5 ((w5.alloc (.cells #[.int .u8 R.1.v, .int .u8 R.1.kind, .slice s5.qn R.1.nums.length s5.cn, .slice s5.qt R.1.texts.length s5.ct] 25)).alloc (.cells #[.int .u8 R.1.v, .int .u8 R.1.kind, .slice s5.qn R.1.nums.length s5.cn, .slice s5.qt R.1.texts.length s5.ct] 25)) := ((Fr.refl w5).alloc _).alloc _
                    have hfW := hf5.trans hA
                    have hnew := (hn5.fr hA).onlyS hown hf6
                    have hall : ∀ x, x ∈ L ++ [(s5, R.1)] → EvNew w.heap.size w6 x.1 x.2 := fun x hx => by
                      rcases List.mem_append.1 hx with hx | hx
                      · exact ((HROW.out.evs x hx).fr hfW).onlyS hown hf6
                      · obtain rfl : x = (s5, R.1) := by simpa using hx
                        exact hnew.mono hfz.size
                    have hrow := HROW.out.more (w4 := (w5.alloc (.cells #[.int .u8 R.1.v, .int .u8 R.1.kind, .slice s5.qn R.1.nums.length s5.cn, .slice s5.qt R.1.texts.length s5.ct] 25)).alloc (.cells #[.int .u8 R.1.v, .int .u8 R.1.kind, .slice s5.qn R.1.nums.length s5.cn, .slice s5.qt R.1.texts.length s5.ct] 25)) (p := (s5, R.1)) (Nat.le_trans hfz.size hfW.size) hall ho (by simpa using hn6) hnew (Nat.le_refl _)
                    have HNR := hid hrow
                    have HFE := hid ((hfz.trans hfW).newOnlyS (fun g hg => HROW.out.new g hg) hf6)
                    have HOK : Hid ((L ++ [(s5, R.1)]).length = m + 1 ∧ (L ++ [(s5, R.1)]).map Prod.snd = (l.take (m + 1)).map (fun p => (toR p.2 u).1)) := hid (by
                      obtain ⟨h1, h3⟩ := HL.out
                      rw [HE.out.2]
                      exact ⟨by simp [h1], by simp [h3, HR.out]⟩)
                    clear ho hf6 hn6 hown hA hfW hnew hall hrow
                    go_wp2_with fail
                    go_roundg (gk - 1)
                    case measure => omega
                    case rel => exact ⟨m + 1, L ++ [(s5, R.1)], false, by omega, by omega, by go_num, rfl, HZ, HOK, HNR.out, HFE.out⟩
              · obtain rfl : m = l.length := by omega
                rw [List.take_length] at HL HA
                obtain ⟨qo, co, rfl⟩ := hrow.shape
                have HROW := hid hrow
                clear hrow hlt hm hk
                rcases A with _ | _
                · have HST2 : Hid (lowO l (u + 1) = lowO l v) := hid (by have := HST.out; rw [← HA.out] at this; simpa using this.symm)
                  have j1 : (u : Int) + 1 ≤ 255 := by omega
                  have j2 : (0 : Int) ≤ (u : Int) + 1 := by omega
                  go_wp2_with fail
                  go_roundg (go - 1)
                  case measure => have := HGO.out; omega
                  case rel => exact ⟨u + 1, by go_num, HST2, by omega, by omega, hfz⟩
                · have HLO : Hid (lowO l v = some u) := hid (by have := HST.out; rw [← HA.out] at this; simpa using this)
                  go_wp2_with fail
                  go_ret3
                  exact ⟨hfz, .inr (.inr ⟨HB.out, u, L, qo, co, HLO.out, rfl, HL.out.2, HROW.out⟩)⟩
end Go.Proofs.YtgjabbhgmecbbaaDoor
