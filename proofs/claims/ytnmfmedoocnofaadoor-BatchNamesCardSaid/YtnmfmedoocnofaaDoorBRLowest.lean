/-
  The contracts of wire's and the document's readers and writers, for this seat (out of the wire seat's texts): no statement of the seat is proved here.
-/
import Derived.Test.YtnmfmedoocnofaaDoorRDown
import Derived.Test.YtnmfmedoocnofaaDoorNewest
import Derived.Test.YtnmfmedoocnofaaDoorLowest
namespace Go.Proofs.YtnmfmedoocnofaaDoor
open Go.RowKit

set_option maxHeartbeats 8000000 in
set_option maxRecDepth 100000 in
theorem rto_form (s : EvP) (e : Ev) (v : Nat) (w : World) (he : EvAt w s e) (hm : mayS e = false) :
    Calls Tryd.prog 57 #[evV s e, .int .u8 v] w (UpPost w (zeroE, 4)) := by
  have ME := hid (fun w1 (h : Fr No w w1) => rMay_any s e w1 (he.fr h))
  rw [hm] at ME
  unfold UpPost
  have HF0 : Fr No w ((w.alloc (.cells #[.int .u8 e.v, .int .u8 e.kind, .slice s.qn e.nums.length s.cn, .slice s.qt e.texts.length s.ct] 34)).alloc (.cells #[.int .u8 0, .int .u8 0, .slice none 0 0, .slice none 0 0] 34)) := ((Fr.refl w).alloc _).alloc _
  have g1 := Go.heap_alloc_new (w.alloc (.cells #[.int .u8 e.v, .int .u8 e.kind, .slice s.qn e.nums.length s.cn, .slice s.qt e.texts.length s.ct] 34)) (.cells #[.int .u8 0, .int .u8 0, .slice none 0 0, .slice none 0 0] 34)
  simp only [World.size_alloc] at g1
  have HG := hid g1
  clear g1
  have g0 : ((w.alloc (.cells #[.int .u8 e.v, .int .u8 e.kind, .slice s.qn e.nums.length s.cn, .slice s.qt e.texts.length s.ct] 34)).alloc (.cells #[.int .u8 0, .int .u8 0, .slice none 0 0, .slice none 0 0] 34)).heap[w.heap.size]? = some (.cells #[.int .u8 e.v, .int .u8 e.kind, .slice s.qn e.nums.length s.cn, .slice s.qt e.texts.length s.ct] 34 (0, 0)) := by
    rw [Below.heap_alloc _ _ _ (by simp)]; exact Go.heap_alloc_new _ _
  have HG0 := hid g0
  clear g0 he hm
  unfold evV at *
  go_enter Tryd.func57, Tryd.ntmps57
  go_wp2_with (first
    | (go_at_call 56; (with_reducible refine (ME.out _ HF0).mono ?_); rintro e1 w1 ⟨rfl, hf1⟩; obtain ⟨k0, k1, k2, k3, z0, z1, z2, z3⟩ := Go.Proofs.YtnmfmedoocnofaaDoor.cells4 (hf1.heap0 HG.out); obtain ⟨c0, c1, c2, c3, _, _, _, _⟩ := Go.Proofs.YtnmfmedoocnofaaDoor.cells4 (hf1.heap0 HG0.out)))
  obtain ⟨hst, hfr⟩ := store4 (hf1.heap0 HG.out) (.int .u8 0) (.int .u8 0) (.slice none 0 0) (.slice none 0 0)
  refine bodyPost_ret (results_row_tmp rfl _ _ (w.heap.size + 1) 34 _ (0, 0) _ (.int .i64 4) rfl hst rfl Tryd.underlying34 rfl (by kernel_rfl)) rfl ⟨⟨none, 0, none, 0⟩, rfl, EvNew.zero _ _, (HF0.trans hf1).newOnly (Nat.le_succ _) hfr⟩

set_option maxHeartbeats 8000000 in
set_option maxRecDepth 100000 in
theorem rto_version (s : EvP) (e : Ev) (v : Nat) (w : World) (he : EvAt w s e) (hm : mayS e = true) (hv : v < 1 ∨ 3 < v) :
    Calls Tryd.prog 57 #[evV s e, .int .u8 v] w (UpPost w (zeroE, 43)) := by
  have ME := hid (fun w1 (h : Fr No w w1) => rMay_any s e w1 (he.fr h))
  rw [hm] at ME
  unfold UpPost
  have HF0 : Fr No w ((w.alloc (.cells #[.int .u8 e.v, .int .u8 e.kind, .slice s.qn e.nums.length s.cn, .slice s.qt e.texts.length s.ct] 34)).alloc (.cells #[.int .u8 0, .int .u8 0, .slice none 0 0, .slice none 0 0] 34)) := ((Fr.refl w).alloc _).alloc _
  have g1 := Go.heap_alloc_new (w.alloc (.cells #[.int .u8 e.v, .int .u8 e.kind, .slice s.qn e.nums.length s.cn, .slice s.qt e.texts.length s.ct] 34)) (.cells #[.int .u8 0, .int .u8 0, .slice none 0 0, .slice none 0 0] 34)
  simp only [World.size_alloc] at g1
  have HG := hid g1
  clear g1
  have g0 : ((w.alloc (.cells #[.int .u8 e.v, .int .u8 e.kind, .slice s.qn e.nums.length s.cn, .slice s.qt e.texts.length s.ct] 34)).alloc (.cells #[.int .u8 0, .int .u8 0, .slice none 0 0, .slice none 0 0] 34)).heap[w.heap.size]? = some (.cells #[.int .u8 e.v, .int .u8 e.kind, .slice s.qn e.nums.length s.cn, .slice s.qt e.texts.length s.ct] 34 (0, 0)) := by
    rw [Below.heap_alloc _ _ _ (by simp)]; exact Go.heap_alloc_new _ _
  have HG0 := hid g0
  clear g0 he hm
  unfold evV at *
  by_cases h1 : v < 1
  · have b1 : decide ((v : Int) < 1) = true := by simp; omega
    clear hv h1
    go_enter Tryd.func57, Tryd.ntmps57
    go_wp2_with (first
      | (go_at_call 56; (with_reducible refine (ME.out _ HF0).mono ?_); rintro e1 w1 ⟨rfl, hf1⟩; obtain ⟨k0, k1, k2, k3, z0, z1, z2, z3⟩ := Go.Proofs.YtnmfmedoocnofaaDoor.cells4 (hf1.heap0 HG.out); obtain ⟨c0, c1, c2, c3, _, _, _, _⟩ := Go.Proofs.YtnmfmedoocnofaaDoor.cells4 (hf1.heap0 HG0.out)))
    obtain ⟨hst, hfr⟩ := store4 (hf1.heap0 HG.out) (.int .u8 0) (.int .u8 0) (.slice none 0 0) (.slice none 0 0)
    refine bodyPost_ret (results_row_tmp rfl _ _ (w.heap.size + 1) 34 _ (0, 0) _ (.int .i64 43) rfl hst rfl Tryd.underlying34 rfl (by kernel_rfl)) rfl ⟨⟨none, 0, none, 0⟩, rfl, EvNew.zero _ _, (HF0.trans hf1).newOnly (Nat.le_succ _) hfr⟩
  · have b1 : decide ((v : Int) < 1) = false := by simp; omega
    have b3 : decide ((3 : Int) < (v : Int)) = true := by simp; omega
    clear hv h1
    go_enter Tryd.func57, Tryd.ntmps57
    go_wp2_with (first
      | (go_at_call 56; (with_reducible refine (ME.out _ HF0).mono ?_); rintro e1 w1 ⟨rfl, hf1⟩; obtain ⟨k0, k1, k2, k3, z0, z1, z2, z3⟩ := Go.Proofs.YtnmfmedoocnofaaDoor.cells4 (hf1.heap0 HG.out); obtain ⟨c0, c1, c2, c3, _, _, _, _⟩ := Go.Proofs.YtnmfmedoocnofaaDoor.cells4 (hf1.heap0 HG0.out)))
    obtain ⟨hst, hfr⟩ := store4 (hf1.heap0 HG.out) (.int .u8 0) (.int .u8 0) (.slice none 0 0) (.slice none 0 0)
    refine bodyPost_ret (results_row_tmp rfl _ _ (w.heap.size + 1) 34 _ (0, 0) _ (.int .i64 43) rfl hst rfl Tryd.underlying34 rfl (by kernel_rfl)) rfl ⟨⟨none, 0, none, 0⟩, rfl, EvNew.zero _ _, (HF0.trans hf1).newOnly (Nat.le_succ _) hfr⟩

set_option maxHeartbeats 8000000 in
set_option maxRecDepth 100000 in
theorem rto_up (s : EvP) (e : Ev) (v : Nat) (w : World) (he : EvAt w s e) (hm : mayS e = true) (hv : 1 ≤ v ∧ v ≤ 3) (hlt : e.v < v) (IH : ∀ (s' : EvP) (e' : Ev) (w' : World), EvAt w' s' e' → mayS e' = true → (e'.v - v) + (v - e'.v) + 1 = (e.v - v) + (v - e.v) → Calls Tryd.prog 57 #[evV s' e', .int .u8 v] w' (UpPost w' (toR e' v))) :
    Calls Tryd.prog 57 #[evV s e, .int .u8 v] w (UpPost w (toR e v)) := by
  have ME := hid (fun w1 (h : Fr No w w1) => rMay_any s e w1 (he.fr h))
  rw [hm] at ME
  obtain ⟨_, hv1, hv3⟩ := may_is hm
  have b1 : decide ((v : Int) < 1) = false := by simp; omega
  have b3 : decide ((3 : Int) < (v : Int)) = false := by simp; omega
  have b5 : decide (e.v < v) = true := by simp; omega
  have UP := hid (fun w1 (h : Fr No w w1) => (by
    have h1 := rup_any s e w1 (he.fr h)
    unfold upR at h1
    rwa [if_pos hm, if_pos (may_rules hm (by omega))] at h1 : Calls Tryd.prog 84 #[evV s e] w1 (UpPost w1 (upS e, 0))))
  have HK := hid he.k8
  have hmm : mayS (upS e) = true := may_up hm (may_rules hm (by omega))
  have HMM := hid hmm
  have htt : toR (upS e) v = toR e v := by unfold toR; rw [hm, may_up hm (may_rules hm (by omega)), toS_up hlt]
  have IHX := hid (fun s' w1 (hn : EvAt w1 s' (upS e)) => IH s' (upS e) w1 hn hmm (by show (e.v + 1 - v) + (v - (e.v + 1)) + 1 = _; omega))
  rw [htt] at IHX
  generalize toR e v = R at IHX ⊢
  unfold UpPost at *
  have HF0 : Fr No w ((w.alloc (.cells #[.int .u8 e.v, .int .u8 e.kind, .slice s.qn e.nums.length s.cn, .slice s.qt e.texts.length s.ct] 34)).alloc (.cells #[.int .u8 0, .int .u8 0, .slice none 0 0, .slice none 0 0] 34)) := ((Fr.refl w).alloc _).alloc _
  have g1 := Go.heap_alloc_new (w.alloc (.cells #[.int .u8 e.v, .int .u8 e.kind, .slice s.qn e.nums.length s.cn, .slice s.qt e.texts.length s.ct] 34)) (.cells #[.int .u8 0, .int .u8 0, .slice none 0 0, .slice none 0 0] 34)
  simp only [World.size_alloc] at g1
  have HG := hid g1
  clear g1
  have g0 : ((w.alloc (.cells #[.int .u8 e.v, .int .u8 e.kind, .slice s.qn e.nums.length s.cn, .slice s.qt e.texts.length s.ct] 34)).alloc (.cells #[.int .u8 0, .int .u8 0, .slice none 0 0, .slice none 0 0] 34)).heap[w.heap.size]? = some (.cells #[.int .u8 e.v, .int .u8 e.kind, .slice s.qn e.nums.length s.cn, .slice s.qt e.texts.length s.ct] 34 (0, 0)) := by
    rw [Below.heap_alloc _ _ _ (by simp)]; exact Go.heap_alloc_new _ _
  have HG0 := hid g0
  have hkx : (upS e).kind ≤ 255 := he.k8
  have HKX := hid hkx
  clear g0 he hm hv hv1 hv3 hmm htt IH hkx hlt
  generalize upS e = U at UP IHX HMM HKX
  unfold evV at *
  go_enter Tryd.func57, Tryd.ntmps57
  go_wp2_with (first
    | (go_at_call 56; (with_reducible refine (ME.out _ HF0).mono ?_); rintro e1 w1 ⟨rfl, hf1⟩; obtain ⟨k0, k1, k2, k3, z0, z1, z2, z3⟩ := Go.Proofs.YtnmfmedoocnofaaDoor.cells4 (hf1.heap0 HG.out); obtain ⟨c0, c1, c2, c3, _, _, _, _⟩ := Go.Proofs.YtnmfmedoocnofaaDoor.cells4 (hf1.heap0 HG0.out))
    | (go_at_call 84; (with_reducible refine (UP.out _ (HF0.trans hf1)).mono ?_); rintro e5 w5 ⟨s5, rfl, hn5, hf5⟩; have HE5 := hid ((hn5.may HMM.out HKX.out).fr ((Fr.refl w5).alloc (.cells (eCells s5 U) 34))); have HF5 := hid (((HF0.trans hf1).trans hf5).alloc (.cells (eCells s5 U) 34)); have HG5 := hid ((hf5.alloc (.cells (eCells s5 U) 34)).heap0 (hf1.heap0 HG.out)); unfold eCells at HE5 HF5 HG5)
    | (go_at_call 57; (with_reducible refine (IHX.out s5 _ HE5.out).mono ?_); rintro e6 w6 ⟨s6, rfl, hn6, hf6⟩; clear k0 k1 k2 k3 z0 z1 z2 z3; obtain ⟨k0, k1, k2, k3, z0, z1, z2, z3⟩ := Go.Proofs.YtnmfmedoocnofaaDoor.cells4 (hf6.heap0 HG5.out)))
  have hst := BoxAt.fill (w1 := w6) (b := w.heap.size + 1) (B := w.heap.size) (s := s6) (e := R.1) (hf6.heap0 HG5.out) (Nat.le_succ _) (hn6.mono HF5.out.size)
  refine bodyPost_ret (results_row_tmp rfl _ _ (w.heap.size + 1) 34 _ (0, 0) _ (.int .i64 R.2) rfl hst.1.cells rfl Tryd.underlying34 rfl (by kernel_rfl)) rfl ⟨s6, rfl, hst.1.new, (HF5.out.trans hf6).newOnly (Nat.le_succ _) hst.2⟩

set_option maxHeartbeats 8000000 in
set_option maxRecDepth 100000 in
theorem rto_down (s : EvP) (e : Ev) (v : Nat) (w : World) (he : EvAt w s e) (hm : mayS e = true) (hv : 1 ≤ v ∧ v ≤ 3) (hgt : v < e.v) (hd : downIs e = true) (IH : ∀ (s' : EvP) (e' : Ev) (w' : World), EvAt w' s' e' → mayS e' = true → (e'.v - v) + (v - e'.v) + 1 = (e.v - v) + (v - e.v) → Calls Tryd.prog 57 #[evV s' e', .int .u8 v] w' (UpPost w' (toR e' v))) :
    Calls Tryd.prog 57 #[evV s e, .int .u8 v] w (UpPost w (toR e v)) := by
  have ME := hid (fun w1 (h : Fr No w w1) => rMay_any s e w1 (he.fr h))
  rw [hm] at ME
  obtain ⟨_, hv1, hv3⟩ := may_is hm
  have b1 : decide ((v : Int) < 1) = false := by simp; omega
  have b3 : decide ((3 : Int) < (v : Int)) = false := by simp; omega
  have b5 : decide (e.v < v) = false := by simp; omega
  have b6 : decide (v < e.v) = true := by simp; omega
  have UP := hid (fun w1 (h : Fr No w w1) => (by
    have h1 := rdown_any s e w1 (he.fr h)
    unfold downR at h1
    rwa [if_pos hm, if_pos hd] at h1 : Calls Tryd.prog 85 #[evV s e] w1 (UpPost w1 (downE e, 0))))
  have HK := hid he.k8
  have hmm : mayS (downE e) = true := (downIs_down hd).1
  have HMM := hid hmm
  have htt : toR (downE e) v = toR e v := by unfold toR; rw [hm, (downIs_down hd).1, toS_down hgt hd]
  have IHX := hid (fun s' w1 (hn : EvAt w1 s' (downE e)) => IH s' (downE e) w1 hn hmm (by show (e.v - 1 - v) + (v - (e.v - 1)) + 1 = _; omega))
  rw [htt] at IHX
  generalize toR e v = R at IHX ⊢
  unfold UpPost at *
  have HF0 : Fr No w ((w.alloc (.cells #[.int .u8 e.v, .int .u8 e.kind, .slice s.qn e.nums.length s.cn, .slice s.qt e.texts.length s.ct] 34)).alloc (.cells #[.int .u8 0, .int .u8 0, .slice none 0 0, .slice none 0 0] 34)) := ((Fr.refl w).alloc _).alloc _
  have g1 := Go.heap_alloc_new (w.alloc (.cells #[.int .u8 e.v, .int .u8 e.kind, .slice s.qn e.nums.length s.cn, .slice s.qt e.texts.length s.ct] 34)) (.cells #[.int .u8 0, .int .u8 0, .slice none 0 0, .slice none 0 0] 34)
  simp only [World.size_alloc] at g1
  have HG := hid g1
  clear g1
  have g0 : ((w.alloc (.cells #[.int .u8 e.v, .int .u8 e.kind, .slice s.qn e.nums.length s.cn, .slice s.qt e.texts.length s.ct] 34)).alloc (.cells #[.int .u8 0, .int .u8 0, .slice none 0 0, .slice none 0 0] 34)).heap[w.heap.size]? = some (.cells #[.int .u8 e.v, .int .u8 e.kind, .slice s.qn e.nums.length s.cn, .slice s.qt e.texts.length s.ct] 34 (0, 0)) := by
    rw [Below.heap_alloc _ _ _ (by simp)]; exact Go.heap_alloc_new _ _
  have HG0 := hid g0
  have hkx : (downE e).kind ≤ 255 := he.k8
  have HKX := hid hkx
  clear g0 he hm hv hv1 hv3 hmm htt IH hkx hgt hd
  generalize downE e = U at UP IHX HMM HKX
  unfold evV at *
  go_enter Tryd.func57, Tryd.ntmps57
  go_wp2_with (first
    | (go_at_call 56; (with_reducible refine (ME.out _ HF0).mono ?_); rintro e1 w1 ⟨rfl, hf1⟩; obtain ⟨k0, k1, k2, k3, z0, z1, z2, z3⟩ := Go.Proofs.YtnmfmedoocnofaaDoor.cells4 (hf1.heap0 HG.out); obtain ⟨c0, c1, c2, c3, _, _, _, _⟩ := Go.Proofs.YtnmfmedoocnofaaDoor.cells4 (hf1.heap0 HG0.out))
    | (go_at_call 85; (with_reducible refine (UP.out _ (HF0.trans hf1)).mono ?_); rintro e5 w5 ⟨s5, rfl, hn5, hf5⟩; have HE5 := hid ((hn5.may HMM.out HKX.out).fr ((Fr.refl w5).alloc (.cells (eCells s5 U) 34))); have HF5 := hid (((HF0.trans hf1).trans hf5).alloc (.cells (eCells s5 U) 34)); have HG5 := hid ((hf5.alloc (.cells (eCells s5 U) 34)).heap0 (hf1.heap0 HG.out)); unfold eCells at HE5 HF5 HG5)
    | (go_at_call 57; (with_reducible refine (IHX.out s5 _ HE5.out).mono ?_); rintro e6 w6 ⟨s6, rfl, hn6, hf6⟩; clear k0 k1 k2 k3 z0 z1 z2 z3; obtain ⟨k0, k1, k2, k3, z0, z1, z2, z3⟩ := Go.Proofs.YtnmfmedoocnofaaDoor.cells4 (hf6.heap0 HG5.out)))
  have hst := BoxAt.fill (w1 := w6) (b := w.heap.size + 1) (B := w.heap.size) (s := s6) (e := R.1) (hf6.heap0 HG5.out) (Nat.le_succ _) (hn6.mono HF5.out.size)
  refine bodyPost_ret (results_row_tmp rfl _ _ (w.heap.size + 1) 34 _ (0, 0) _ (.int .i64 R.2) rfl hst.1.cells rfl Tryd.underlying34 rfl (by kernel_rfl)) rfl ⟨s6, rfl, hst.1.new, (HF5.out.trans hf6).newOnly (Nat.le_succ _) hst.2⟩

set_option maxHeartbeats 8000000 in
set_option maxRecDepth 100000 in
theorem rto_none (s : EvP) (e : Ev) (v : Nat) (w : World) (he : EvAt w s e) (hm : mayS e = true) (hv : 1 ≤ v ∧ v ≤ 3) (hgt : v < e.v) (hd : downIs e = false) :
    Calls Tryd.prog 57 #[evV s e, .int .u8 v] w (UpPost w (zeroE, 43)) := by
  have ME := hid (fun w1 (h : Fr No w w1) => rMay_any s e w1 (he.fr h))
  rw [hm] at ME
  obtain ⟨_, hv1, hv3⟩ := may_is hm
  have b1 : decide ((v : Int) < 1) = false := by simp; omega
  have b3 : decide ((3 : Int) < (v : Int)) = false := by simp; omega
  have b5 : decide (e.v < v) = false := by simp; omega
  have b6 : decide (v < e.v) = true := by simp; omega
  have UP := hid (fun w1 (h : Fr No w w1) => (by
    have h1 := rdown_any s e w1 (he.fr h)
    unfold downR at h1
    rwa [if_pos hm, hd, if_neg (by simp)] at h1 : Calls Tryd.prog 85 #[evV s e] w1 (UpPost w1 (zeroE, 43))))
  unfold UpPost zeroE at *
  have HF0 : Fr No w ((w.alloc (.cells #[.int .u8 e.v, .int .u8 e.kind, .slice s.qn e.nums.length s.cn, .slice s.qt e.texts.length s.ct] 34)).alloc (.cells #[.int .u8 0, .int .u8 0, .slice none 0 0, .slice none 0 0] 34)) := ((Fr.refl w).alloc _).alloc _
  have g1 := Go.heap_alloc_new (w.alloc (.cells #[.int .u8 e.v, .int .u8 e.kind, .slice s.qn e.nums.length s.cn, .slice s.qt e.texts.length s.ct] 34)) (.cells #[.int .u8 0, .int .u8 0, .slice none 0 0, .slice none 0 0] 34)
  simp only [World.size_alloc] at g1
  have HG := hid g1
  clear g1
  have g0 : ((w.alloc (.cells #[.int .u8 e.v, .int .u8 e.kind, .slice s.qn e.nums.length s.cn, .slice s.qt e.texts.length s.ct] 34)).alloc (.cells #[.int .u8 0, .int .u8 0, .slice none 0 0, .slice none 0 0] 34)).heap[w.heap.size]? = some (.cells #[.int .u8 e.v, .int .u8 e.kind, .slice s.qn e.nums.length s.cn, .slice s.qt e.texts.length s.ct] 34 (0, 0)) := by
    rw [Below.heap_alloc _ _ _ (by simp)]; exact Go.heap_alloc_new _ _
  have HG0 := hid g0
  clear g0 he hm hv hv1 hv3 hgt hd
  unfold evV at *
  go_enter Tryd.func57, Tryd.ntmps57
  go_wp2_with (first
    | (go_at_call 56; (with_reducible refine (ME.out _ HF0).mono ?_); rintro e1 w1 ⟨rfl, hf1⟩; obtain ⟨k0, k1, k2, k3, z0, z1, z2, z3⟩ := Go.Proofs.YtnmfmedoocnofaaDoor.cells4 (hf1.heap0 HG.out); obtain ⟨c0, c1, c2, c3, _, _, _, _⟩ := Go.Proofs.YtnmfmedoocnofaaDoor.cells4 (hf1.heap0 HG0.out))
    | (go_at_call 85; (with_reducible refine (UP.out _ (HF0.trans hf1)).mono ?_); rintro e5 w5 ⟨s5, rfl, _, hf5⟩; clear k0 k1 k2 k3 z0 z1 z2 z3; obtain ⟨k0, k1, k2, k3, z0, z1, z2, z3⟩ := Go.Proofs.YtnmfmedoocnofaaDoor.cells4 (hf5.heap0 (hf1.heap0 HG.out)); have zl : w.heap.size + 1 < w5.heap.size := World.block_lt_of_cell? w5 _ k0))
  obtain ⟨hst, hfr⟩ := store4 (hf5.heap0 (hf1.heap0 HG.out)) (.int .u8 0) (.int .u8 0) (.slice none 0 0) (.slice none 0 0)
  refine bodyPost_ret (results_row_tmp rfl _ _ (w.heap.size + 1) 34 _ (0, 0) _ (.int .i64 43) rfl (((Fr.refl _).alloc _).heap0 hst) rfl Tryd.underlying34 rfl (by kernel_rfl)) rfl ⟨⟨none, 0, none, 0⟩, rfl, EvNew.zero _ _, (((HF0.trans hf1).trans hf5).newOnly (Nat.le_succ _) hfr).alloc _⟩

set_option maxHeartbeats 8000000 in
set_option maxRecDepth 100000 in
theorem rto_self (s : EvP) (e : Ev) (v : Nat) (w : World) (he : EvAt w s e) (hm : mayS e = true) (hv : 1 ≤ v ∧ v ≤ 3) (heq : e.v = v) :
    Calls Tryd.prog 57 #[evV s e, .int .u8 v] w (UpPost w (e, 0)) := by
  have ME := hid (fun w1 (h : Fr No w w1) => rMay_any s e w1 (he.fr h))
  rw [hm] at ME
  obtain ⟨hl7, hn7, ht1, _, _⟩ := may_small hm
  clear hl7
  have b1 : decide ((v : Int) < 1) = false := by simp; omega
  have b3 : decide ((3 : Int) < (v : Int)) = false := by simp; omega
  have b5 : decide (e.v < v) = false := by simp; omega
  have b6 : decide (v < e.v) = false := by simp; omega
  unfold UpPost
  have HF0 : Fr No w ((w.alloc (.cells #[.int .u8 e.v, .int .u8 e.kind, .slice s.qn e.nums.length s.cn, .slice s.qt e.texts.length s.ct] 34)).alloc (.cells #[.int .u8 0, .int .u8 0, .slice none 0 0, .slice none 0 0] 34)) := ((Fr.refl w).alloc _).alloc _
  have g1 := Go.heap_alloc_new (w.alloc (.cells #[.int .u8 e.v, .int .u8 e.kind, .slice s.qn e.nums.length s.cn, .slice s.qt e.texts.length s.ct] 34)) (.cells #[.int .u8 0, .int .u8 0, .slice none 0 0, .slice none 0 0] 34)
  simp only [World.size_alloc] at g1
  have HG := hid g1
  clear g1
  have g0 : ((w.alloc (.cells #[.int .u8 e.v, .int .u8 e.kind, .slice s.qn e.nums.length s.cn, .slice s.qt e.texts.length s.ct] 34)).alloc (.cells #[.int .u8 0, .int .u8 0, .slice none 0 0, .slice none 0 0] 34)).heap[w.heap.size]? = some (.cells #[.int .u8 e.v, .int .u8 e.kind, .slice s.qn e.nums.length s.cn, .slice s.qt e.texts.length s.ct] 34 (0, 0)) := by
    rw [Below.heap_alloc _ _ _ (by simp)]; exact Go.heap_alloc_new _ _
  have HG0 := hid g0
  obtain ⟨i0, hi, hz0, hz1, hz2⟩ := info_parts infoI64
  obtain ⟨j0, hj, hy0, hy1, hy2⟩ := info_parts infoStr
  have HE := hid he
  have m1 : e.nums.length ≤ maxLen := by unfold maxLen; omega
  have m2 : e.nums.length * 8 ≤ 140737488355328 := by omega
  have m3 : e.texts.length ≤ maxLen := by unfold maxLen; omega
  have m4 : e.texts.length * 16 ≤ 140737488355328 := by omega
  clear g0 he hm hv hn7 ht1 heq
  unfold evV at *
  go_enter Tryd.func57, Tryd.ntmps57
  go_upto_region 13 with (first
    | (go_at_call 56; (with_reducible refine (ME.out _ HF0).mono ?_); rintro e1 w1 ⟨rfl, hf1⟩; obtain ⟨k0, k1, k2, k3, z0, z1, z2, z3⟩ := Go.Proofs.YtnmfmedoocnofaaDoor.cells4 (hf1.heap0 HG.out); obtain ⟨c0, c1, c2, c3, _, _, _, _⟩ := Go.Proofs.YtnmfmedoocnofaaDoor.cells4 (hf1.heap0 HG0.out)))
  clear k0 k1 k2 k3 z0 z1 z2 z3
  have HW := hid (HF0.trans hf1)
  have HS1 := hid (fun w' (hf : Fr No w1 w') => (by
    have := Src.ofSl (P := Tryd.prog) (c := s.cn) Tryd.underlying31 (HE.out.nums.fr (HW.out.trans hf)) (num_one e.nums)
    simpa using this : Src Tryd.prog 1 31 (.slice s.qn e.nums.length s.cn) e.nums.length (e.nums.map numV) w'))
  have HS2 := hid (fun w' (hf : Fr No w1 w') => (by
    have := Src.ofSl (P := Tryd.prog) (c := s.ct) Tryd.underlying32 (HE.out.texts.fr (HW.out.trans hf)) (str_one e.texts)
    simpa using this : Src Tryd.prog 1 32 (.slice s.qt e.texts.length s.ct) e.texts.length (e.texts.map strV) w'))
  have HG1 := hid (hf1.heap0 HG.out)
  go_region_held3 (fun w' => Fr (Only (w.heap.size + 1)) w1 w' ∧ w'.cell? ⟨w.heap.size, 0, none⟩ = some (.int .u8 e.v) ∧ w'.cell? ⟨w.heap.size, 1, none⟩ = some (.int .u8 e.kind) ∧ w'.cell? ⟨w.heap.size, 2, none⟩ = some (.slice s.qn e.nums.length s.cn) ∧ w'.cell? ⟨w.heap.size, 3, none⟩ = some (.slice s.qt e.texts.length s.ct))
    ((go_split_ands; refine five_keep c0 c1 c2 c3 (by omega) ?_; (try (refine Fr.set_only ?_ _ _; refine Fr.set_only ?_ _ _; refine Fr.set_only ?_ _ _; refine Fr.set_only ?_ _ _)); refine Fr.of0 ?_; repeat (first | exact Fr.refl _ | assumption | refine Fr.drew ?_ | refine Fr.alloc ?_ _)))
    (first
      | ((refine step_append0 (by rfl) _ _ _ _ (by rfl) 2 i0 _ 8 Tryd.underlying31 hi hz0 hz1 hz2 (by rfl) _ (by rfl) (.slice s.qn e.nums.length s.cn) e.nums.length (e.nums.map numV) (by rfl) HS1.out m1 m2 ?_ ?_; · (repeat (first | exact Fr.refl _ | assumption | refine Fr.drew ?_ | refine Fr.alloc ?_ _))); intro q1 p1 wA hr1 hfA hFA)
      | ((refine step_append0 (by rfl) _ _ _ _ (by rfl) 9 j0 _ 16 Tryd.underlying32 hj hy0 hy1 hy2 (by rfl) _ (by rfl) (.slice s.qt e.texts.length s.ct) e.texts.length (e.texts.map strV) (by rfl) HS2.out m3 m4 ?_ ?_; · (repeat (first | exact Fr.refl _ | assumption | refine Fr.drew ?_ | refine Fr.alloc ?_ _))); intro q2 p2 wB hr2 hfB hFB; obtain ⟨k0, k1, k2, k3, f0, f1, f2, f3⟩ := Go.Proofs.YtnmfmedoocnofaaDoor.cells4 (hFB.heap0 HG1.out)))
  all_goals
    have hr1' := hr1.fr0 (show Fr No wA wB by first | exact hfB | exact ((Fr.refl _).alloc _).trans hfB | exact ((Fr.refl _).drew).trans hfB | exact (((Fr.refl _).alloc _).drew).trans hfB)
    have hst := BoxAt.fill (w1 := wB) (b := w.heap.size + 1) (B := w.heap.size) (s := ⟨q1, p1, q2, p2⟩) (e := e) (hFB.heap0 HG1.out) (Nat.le_succ _) ⟨hr1'.mono HW.out.size, hr2.mono HW.out.size⟩
    have HST := hid hst
    clear hst k0 k1 k2 k3 f0 f1 f2 f3 hr1 hr1' hr2 hfA hFA hfB c0 c1 c2 c3
    go_wp2_with fail
    refine bodyPost_ret (results_row_tmp rfl _ _ (w.heap.size + 1) 34 _ (0, 0) _ (.int .i64 0) rfl HST.out.1.cells rfl Tryd.underlying34 rfl (by kernel_rfl)) rfl ⟨_, rfl, HST.out.1.new, (HW.out.trans hFB).newOnly (Nat.le_succ _) HST.out.2⟩

/-- The document's To, whatever it is given. -/
theorem rto_any' (v : Nat) : ∀ (n : Nat) (s : EvP) (e : Ev) (w : World), EvAt w s e → (e.v - v) + (v - e.v) ≤ n → Calls Tryd.prog 57 #[evV s e, .int .u8 v] w (UpPost w (toR e v)) := by
  intro n
  induction n with
  | zero =>
    intro s e w he hn
    rcases hm : mayS e with _ | _
    · have : toR e v = (zeroE, 4) := by unfold toR; rw [hm]; rfl
      rw [this]; exact rto_form s e v w he hm
    · by_cases hv : v < 1 ∨ 3 < v
      · have : toR e v = (zeroE, 43) := by unfold toR; rw [hm, if_pos hv]; rfl
        rw [this]; exact rto_version s e v w he hm hv
      · have hE : e.v = v := by omega
        have : toR e v = (e, 0) := by unfold toR; rw [hm, if_neg hv, toS_self hE]; rfl
        rw [this]; exact rto_self s e v w he hm (by omega) hE
  | succ n ih =>
    intro s e w he hn
    rcases hm : mayS e with _ | _
    · have : toR e v = (zeroE, 4) := by unfold toR; rw [hm]; rfl
      rw [this]; exact rto_form s e v w he hm
    · by_cases hv : v < 1 ∨ 3 < v
      · have : toR e v = (zeroE, 43) := by unfold toR; rw [hm, if_pos hv]; rfl
        rw [this]; exact rto_version s e v w he hm hv
      · by_cases hE : e.v = v
        · have : toR e v = (e, 0) := by unfold toR; rw [hm, if_neg hv, toS_self hE]; rfl
          rw [this]; exact rto_self s e v w he hm (by omega) hE
        · by_cases hlt : e.v < v
          · exact rto_up s e v w he hm (by omega) hlt (fun s' e' w' h1 _ h3 => ih s' e' w' h1 (by omega))
          · rcases hd : downIs e with _ | _
            · have : toR e v = (zeroE, 43) := by unfold toR; rw [hm, if_neg hv, toS_none (by omega) hd]; rfl
              rw [this]; exact rto_none s e v w he hm (by omega) (by omega) hd
            · exact rto_down s e v w he hm (by omega) (by omega) hd (fun s' e' w' h1 _ h3 => ih s' e' w' h1 (by omega))
theorem rto_any (s : EvP) (e : Ev) (v : Nat) (w : World) (he : EvAt w s e) : Calls Tryd.prog 57 #[evV s e, .int .u8 v] w (UpPost w (toR e v)) := rto_any' v _ s e w he (Nat.le_refl _)

theorem allOK_snoc {l : List (EvP × Ev)} {m : Nat} {p : EvP × Ev} (hp : l[m]? = some p) (u : Nat) : allOK (l.take (m + 1)) u = (allOK (l.take m) u && decide ((toR p.2 u).2 = 0)) := by
  have h := List.getElem?_eq_some_iff.1 hp
  rw [List.take_succ_eq_append_getElem h.1, h.2]
  unfold allOK
  rw [List.all_append]
  simp

end Go.Proofs.YtnmfmedoocnofaaDoor
