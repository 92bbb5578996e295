/-
  upcast.To: the walk. No statement of the seat is proved here. upcast.To, Newest: the walk. No statement of the seat is proved here.
-/
import Derived.Test.YtgjabbhgmecbbaaDoorDown2
import Derived.Deep.LoopGhost
namespace Go.Proofs.YtgjabbhgmecbbaaDoor
open Go.RowKit

/-- What To tells. -/
def toR (e : Ev) (v : Nat) : Ev × Int := if mayS e then (if v < 1 ∨ 3 < v then (zeroE, 43) else match toS e v with | some x => (x, 0) | none => (zeroE, 43)) else (zeroE, 4)
theorem toS_up {x : Ev} {v : Nat} (h : x.v < v) : toS (upS x) v = toS x v := by
  unfold toS
  have e1 : (upS x).v = x.v + 1 := rfl
  rw [e1, if_pos (by omega), if_pos (by omega)]
  obtain ⟨n, hn⟩ : ∃ n, v - x.v = n + 1 := ⟨v - x.v - 1, by omega⟩
  rw [hn, show v - (x.v + 1) = n by omega]
  rfl
theorem toS_down {x : Ev} {v : Nat} (h : v < x.v) (hd : downIs x = true) : toS (downE x) v = toS x v := by
  unfold toS
  have e1 : (downE x).v = x.v - 1 := rfl
  obtain ⟨n, hn⟩ : ∃ n, x.v - v = n + 1 := ⟨x.v - v - 1, by omega⟩
  rw [e1, if_neg (show ¬ x.v ≤ v by omega), hn]
  show _ = (if downIs x then downTo n (downE x) else none)
  rw [if_pos hd]
  by_cases hx : x.v - 1 ≤ v
  · rw [if_pos hx]
    have : n = 0 := by omega
    subst this
    rw [show v - (x.v - 1) = 0 by omega]
    rfl
  · rw [if_neg hx]
    congr 1
    omega
theorem toS_none {x : Ev} {v : Nat} (h : v < x.v) (hd : downIs x = false) : toS x v = none := by
  unfold toS
  obtain ⟨n, hn⟩ : ∃ n, x.v - v = n + 1 := ⟨x.v - v - 1, by omega⟩
  rw [if_neg (show ¬ x.v ≤ v by omega), hn]
  show (if downIs x then downTo n (downE x) else none) = none
  rw [hd]
  rfl
theorem toS_self {x : Ev} {v : Nat} (h : x.v = v) : toS x v = some x := by
  unfold toS
  rw [if_pos (by omega), show v - x.v = 0 by omega]
  rfl
theorem downIs_down {x : Ev} (hd : downIs x = true) : mayS (downE x) = true ∧ (downE x).v + 1 = x.v := by
  obtain ⟨d, h1, h2, h3⟩ := downIs_iff.1 hd
  rw [down_of h1 h2 h3]
  exact ⟨h1, by rw [← h3]; rfl⟩

set_option maxHeartbeats 4000000 in
set_option maxRecDepth 100000 in
theorem to_form (s : EvP) (e : Ev) (v : Nat) (w : World) (he : EvAt w s e) (hkt : KT w) (hm : mayS e = false) :
    Calls Tryd.prog 14 #[evV s e, .int .u8 v] w (UpPost w (zeroE, 4)) := by
  have ME := hid (fun w1 (h : Fr No w w1) => may_any s e w1 (he.fr h) (hkt.fr h))
  rw [hm] at ME
  unfold UpPost
  have HF0 : Fr No w ((w.alloc (.cells #[.int .u8 e.v, .int .u8 e.kind, .slice s.qn e.nums.length s.cn, .slice s.qt e.texts.length s.ct] 25)).alloc (.cells #[.int .u8 0, .int .u8 0, .slice none 0 0, .slice none 0 0] 25)) := ((Fr.refl w).alloc _).alloc _
  have g1 := Go.heap_alloc_new (w.alloc (.cells #[.int .u8 e.v, .int .u8 e.kind, .slice s.qn e.nums.length s.cn, .slice s.qt e.texts.length s.ct] 25)) (.cells #[.int .u8 0, .int .u8 0, .slice none 0 0, .slice none 0 0] 25)
  simp only [World.size_alloc] at g1
  have HG := hid g1
  clear g1
  unfold evV at *
  go_enter Tryd.func14, Tryd.ntmps14
  go_wp2_with (first
    | (go_at_call 24; (with_reducible refine (ME.out _ HF0).mono ?_); rintro e1 w1 ⟨rfl, hf1⟩; obtain ⟨k0, k1, k2, k3, z0, z1, z2, z3⟩ := Go.Proofs.YtgjabbhgmecbbaaDoor.cells4 (hf1.heap0 HG.out)))
  obtain ⟨hst, hfr⟩ := store4 (hf1.heap0 HG.out) (.int .u8 0) (.int .u8 0) (.slice none 0 0) (.slice none 0 0)
  refine bodyPost_ret (results_row_tmp rfl _ _ (w.heap.size + 1) 25 _ (0, 0) _ (.int .i64 4) rfl hst rfl Tryd.underlying25 rfl (by kernel_rfl)) rfl ⟨⟨none, 0, none, 0⟩, rfl, EvNew.zero _ _, (HF0.trans hf1).newOnly (Nat.le_succ _) hfr⟩

set_option maxHeartbeats 4000000 in
set_option maxRecDepth 100000 in
theorem to_version (s : EvP) (e : Ev) (v : Nat) (w : World) (he : EvAt w s e) (hkt : KT w) (hm : mayS e = true) (hv : v < 1 ∨ 3 < v) :
    Calls Tryd.prog 14 #[evV s e, .int .u8 v] w (UpPost w (zeroE, 43)) := by
  have ME := hid (fun w1 (h : Fr No w w1) => may_any s e w1 (he.fr h) (hkt.fr h))
  rw [hm] at ME
  unfold UpPost
  have HF0 : Fr No w ((w.alloc (.cells #[.int .u8 e.v, .int .u8 e.kind, .slice s.qn e.nums.length s.cn, .slice s.qt e.texts.length s.ct] 25)).alloc (.cells #[.int .u8 0, .int .u8 0, .slice none 0 0, .slice none 0 0] 25)) := ((Fr.refl w).alloc _).alloc _
  have g1 := Go.heap_alloc_new (w.alloc (.cells #[.int .u8 e.v, .int .u8 e.kind, .slice s.qn e.nums.length s.cn, .slice s.qt e.texts.length s.ct] 25)) (.cells #[.int .u8 0, .int .u8 0, .slice none 0 0, .slice none 0 0] 25)
  simp only [World.size_alloc] at g1
  have HG := hid g1
  clear g1
  have hC : decide ((v : Int) < 1) = true ∨ (decide ((v : Int) < 1) = false ∧ decide ((3 : Int) < (v : Int)) = true) := by
    by_cases h : v < 1
    · exact .inl (by simp; omega)
    · exact .inr ⟨by simp; omega, by simp; omega⟩
  clear hv
  unfold evV at *
  rcases hC with d1 | ⟨d1, d2⟩
  all_goals
    go_enter Tryd.func14, Tryd.ntmps14
    go_wp2_with (first
      | (go_at_call 24; (with_reducible refine (ME.out _ HF0).mono ?_); rintro e1 w1 ⟨rfl, hf1⟩; obtain ⟨k0, k1, k2, k3, z0, z1, z2, z3⟩ := Go.Proofs.YtgjabbhgmecbbaaDoor.cells4 (hf1.heap0 HG.out)))
    obtain ⟨hst, hfr⟩ := store4 (hf1.heap0 HG.out) (.int .u8 0) (.int .u8 0) (.slice none 0 0) (.slice none 0 0)
    refine bodyPost_ret (results_row_tmp rfl _ _ (w.heap.size + 1) 25 _ (0, 0) _ (.int .i64 43) rfl hst rfl Tryd.underlying25 rfl (by kernel_rfl)) rfl ⟨⟨none, 0, none, 0⟩, rfl, EvNew.zero _ _, (HF0.trans hf1).newOnly (Nat.le_succ _) hfr⟩

theorem box_heap {w w' : World} {v0 v1 v2 v3 : Value} (h : Fr No (w.drew.alloc (.cells #[v0, v1, v2, v3] 25)) w') : w'.heap[w.heap.size]? = some (.cells #[v0, v1, v2, v3] 25 (0, 0)) := h.heap0 (Go.heap_alloc_new w.drew _)
theorem box_heap' {w w' : World} {v0 v1 v2 v3 : Value} (h : Fr No (w.alloc (.cells #[v0, v1, v2, v3] 25)) w') : w'.heap[w.heap.size]? = some (.cells #[v0, v1, v2, v3] 25 (0, 0)) := h.heap0 (Go.heap_alloc_new w _)
def toO (o : Option Ev) : Ev × Int := match o with | some x => (x, 0) | none => (zeroE, 43)
set_option maxHeartbeats 8000000 in
set_option maxRecDepth 100000 in
theorem to_ok (s : EvP) (e : Ev) (v : Nat) (w : World) (he : EvAt w s e) (hkt : KT w) (hm : mayS e = true) (hv1 : 1 ≤ v) (hv3 : v ≤ 3) :
    Calls Tryd.prog 14 #[evV s e, .int .u8 v] w (UpPost w (toO (toS e v))) := by
  have ME := hid (fun w1 (h : Fr No w w1) => may_any s e w1 (he.fr h) (hkt.fr h))
  rw [hm] at ME
  obtain ⟨hl7, hn7, ht1, hnr, htr⟩ := may_small hm
  have hk8 := he.k8
  have CN := hid (fun w1 (h : Fr No w w1) => cloneN s.qn e.nums s.cn w1 (he.nums.fr h) (by omega))
  have CT := hid (fun w1 (h : Fr No w w1) => cloneT s.qt e.texts s.ct w1 (he.texts.fr h) (by omega))
  have UPR := hid (fun (x : Ev) (s' : EvP) w1 (hn : EvNew w.heap.size w1 s' x) (hx : mayS x = true) (hk : x.kind = e.kind) (hlt : x.v < v) (h : Fr No w w1) => (by
    have h1 := up_any s' x w1 (hn.may hx (by omega)) (hkt.fr h)
    unfold upR at h1
    rwa [if_pos hx, if_pos (may_rules hx (by omega))] at h1 : Calls Tryd.prog 19 #[evV s' x] w1 (UpPost w1 (upS x, 0))))
  have DNR := hid (fun (x : Ev) (s' : EvP) w1 (hn : EvNew w.heap.size w1 s' x) (hx : mayS x = true) (hk : x.kind = e.kind) (h : Fr No w w1) => (by
    have h1 := down_any s' x w1 (hn.may hx (by omega)) (hkt.fr h)
    unfold downR at h1
    rwa [if_pos hx] at h1 : Calls Tryd.prog 20 #[evV s' x] w1 (UpPost w1 (if downIs x then (downE x, 0) else (zeroE, 43)))))
  unfold UpPost
  generalize hres : toO (toS e v) = R
  have HRES := hid hres
  have HF0 : Fr No w ((w.alloc (.cells #[.int .u8 e.v, .int .u8 e.kind, .slice s.qn e.nums.length s.cn, .slice s.qt e.texts.length s.ct] 25)).alloc (.cells #[.int .u8 0, .int .u8 0, .slice none 0 0, .slice none 0 0] 25)) := ((Fr.refl w).alloc _).alloc _
  have g1 := Go.heap_alloc_new (w.alloc (.cells #[.int .u8 e.v, .int .u8 e.kind, .slice s.qn e.nums.length s.cn, .slice s.qt e.texts.length s.ct] 25)) (.cells #[.int .u8 0, .int .u8 0, .slice none 0 0, .slice none 0 0] 25)
  simp only [World.size_alloc] at g1
  have HG := hid g1
  clear g1
  have g0 : ((w.alloc (.cells #[.int .u8 e.v, .int .u8 e.kind, .slice s.qn e.nums.length s.cn, .slice s.qt e.texts.length s.ct] 25)).alloc (.cells #[.int .u8 0, .int .u8 0, .slice none 0 0, .slice none 0 0] 25)).heap[w.heap.size]? = some (.cells #[.int .u8 e.v, .int .u8 e.kind, .slice s.qn e.nums.length s.cn, .slice s.qt e.texts.length s.ct] 25 (0, 0)) := by
    rw [Below.heap_alloc _ _ _ (by simp)]; exact Go.heap_alloc_new _ _
  have HG0 := hid g0
  have HM := hid hm
  have d1 : decide ((v : Int) < 1) = false := by simp; omega
  have d2 : decide ((3 : Int) < (v : Int)) = false := by simp; omega
  clear g0 hm hl7 hnr htr he hkt hres
  unfold evV at *
  go_enter Tryd.func14, Tryd.ntmps14
  go_upto_region 5 with (first
    | (go_at_call 24; (with_reducible refine (ME.out _ HF0).mono ?_); rintro e1 w2 ⟨rfl, hf1⟩; obtain ⟨c0, c1, c2, c3, _, _, _, _⟩ := Go.Proofs.YtgjabbhgmecbbaaDoor.cells4 (hf1.heap0 HG0.out)))
  have HW : Fr No w w2 := HF0.trans hf1
  go_cut [6] from 19 (fun x w' => Fr No w2 w' ∧ ∃ b s', x = .pointer (some ⟨b, 0, none⟩) ∧ BoxAt w2.heap.size w' b s' e)
  case first =>
    go_region_held3 (fun w' => Fr No w2 w' ∧ w'.cell? ⟨w.heap.size, 0, none⟩ = some (.int .u8 e.v) ∧ w'.cell? ⟨w.heap.size, 1, none⟩ = some (.int .u8 e.kind) ∧ w'.cell? ⟨w.heap.size, 2, none⟩ = some (.slice s.qn e.nums.length s.cn) ∧ w'.cell? ⟨w.heap.size, 3, none⟩ = some (.slice s.qt e.texts.length s.ct))
      ((go_split_ands; refine two_keep c0 c1 c2 c3 ?_; repeat (first | exact Fr.refl _ | assumption | refine Fr.drew ?_ | refine Fr.alloc ?_ _ | refine Fr.setNew ?_ (by first | exact Nat.le_refl _ | exact hF3.size | exact hF4.size | exact hF3.size) _)))
      (first
        | (go_at_call 29; (with_reducible refine (CN.out _ (HW.trans (by repeat (first | exact Fr.refl _ | assumption | refine Fr.drew ?_ | refine Fr.alloc ?_ _)))).mono ?_); rintro e3 w3 ⟨q3, p3, rfl, hr3, hf3⟩; have hF3 : Fr No w2 w3 := Fr.trans (by repeat (first | exact Fr.refl _ | assumption | refine Fr.drew ?_ | refine Fr.alloc ?_ _)) hf3; (first | (have hb3 := box_heap hf3; obtain ⟨k0, k1, k2, k3, f0, f1, f2, f3⟩ := Go.Proofs.YtgjabbhgmecbbaaDoor.cells4 hb3; have HB3 := hid hb3; clear hb3) | skip))
        | (go_at_call 30; (with_reducible refine (CT.out _ (HW.trans (by repeat (first | exact Fr.refl _ | assumption | refine Fr.drew ?_ | refine Fr.alloc ?_ _)))).mono ?_); rintro e4 w4 ⟨q4, p4, rfl, hr4, hf4⟩; have hF4 : Fr No w2 w4 := Fr.trans (by repeat (first | exact Fr.refl _ | assumption | refine Fr.drew ?_ | refine Fr.alloc ?_ _)) hf4; have hN4 : EvNew w2.heap.size w4 ⟨q3, p3, q4, p4⟩ e := ⟨(hr3.fr0 (Fr.trans (by repeat (first | exact Fr.refl _ | refine Fr.drew ?_ | refine Fr.alloc ?_ _)) hf4)).mono (by first | exact Nat.le_refl _ | (simp; done) | (simp; omega)), hr4.mono (by have h := hF3.size; first | exact h | (simp; omega))⟩; have HN4 := hid hN4; clear hN4 hr3 hr4; (first | (have hb4 := hf4.heap0 HB3.out; obtain ⟨m0, m1, m2, m3, g0, g1, g2, g3⟩ := Go.Proofs.YtgjabbhgmecbbaaDoor.cells4 hb4; have HB4 := hid hb4; clear hb4) | (have hb4 := box_heap' hf4; obtain ⟨m0, m1, m2, m3, g0, g1, g2, g3⟩ := Go.Proofs.YtgjabbhgmecbbaaDoor.cells4 hb4; have HB4 := hid hb4; clear hb4) | skip)))
    · have hB := BoxAt.made (w := w2) hF4 HN4.out
      have HB := hid hB
      clear hB
      go_wp2_with fail
      go_meet
      case rel => exact ⟨HB.out.2, _, _, rfl, HB.out.1⟩
    · have hB := BoxAt.fill (B := w2.heap.size) HB4.out hF3.size HN4.out
      have HB := hid hB
      have hle := hF3.size
      clear hB
      go_wp2_with fail
      go_meet
      case rel => exact ⟨hF4.newOnly hle HB.out.2, _, _, rfl, HB.out.1⟩
    · have hB := BoxAt.fill (B := w2.heap.size) HB4.out (Nat.le_refl _) HN4.out
      have HB := hid hB
      clear hB
      go_wp2_with fail
      go_meet
      case rel => exact ⟨hF4.newOnly (Nat.le_refl _) HB.out.2, _, _, rfl, HB.out.1⟩
  obtain ⟨h23, b, s', rfl, hB⟩ := hcut
  rename World => w4
  have wlt : w.heap.size + 1 < w2.heap.size := lt_of_block (hf1.heap0 HG.out)
  have HGB := hid (fun w6 (h : Fr No w2 w6) => Fr.heap0 h (hf1.heap0 HG.out))
  have hblo := hB.lo
  clear c0 c1 c2 c3 CN CT ME HG HG0 d1 d2
  go_wp2_with fail
  go_loopg [7] v (fun k f wr => f = .int .i64 0 ∧ ∃ (x : Ev) (s2 : EvP), Hid (mayS x = true ∧ x.kind = e.kind ∧ toS x v = toS e v) ∧ v ≤ x.v + k ∧ BoxAt w2.heap.size wr b s2 x ∧ Fr No w2 wr)
  case atStart => exact ⟨rfl, e, s', hid ⟨HM.out, rfl, rfl⟩, by omega, hB, h23⟩
  case round =>
    obtain ⟨rfl, x, s2, HX, hk, hbx, hf⟩ := hrel
    obtain ⟨k0, k1, k2, k3, f0, f1, f2, f3⟩ := hbx.cells4
    have HBX := hid hbx
    have HWR := hid (HW.trans hf)
    have HNW := hid (hbx.new.mono HW.size)
    have hle := hf.size
    have hblt := hbx.lt
    clear hbx
    by_cases hlt : x.v < v
    · have i1 : (x.v : Int) < (v : Int) := by omega
      have UP1 := hid (UPR.out x s2 wr HNW.out HX.out.1 HX.out.2.1 hlt HWR.out)
      have HU : Hid (mayS (upS x) = true ∧ (upS x).kind = e.kind ∧ toS (upS x) v = toS e v) := hid ⟨may_up HX.out.1 (may_rules HX.out.1 (by omega)), HX.out.2.1, (toS_up hlt).trans HX.out.2.2⟩
      have hUv : v ≤ (upS x).v + (gk - 1) := by show v ≤ x.v + 1 + _; omega
      have hgk : 0 < gk := by omega
      clear hlt
      generalize upS x = U at UP1 HU hUv
      go_wp2_with (first
        | (go_at_call 19; (with_reducible refine UP1.out.mono ?_); rintro e5 w5 ⟨s5, rfl, hn5, hf5⟩; unfold evV; clear k0 k1 k2 k3 f0 f1 f2 f3; obtain ⟨k0, k1, k2, k3, f0, f1, f2, f3⟩ := (HBX.out.fr hf5).cells4))
      obtain ⟨hO, hfO⟩ := HBX.out.over hf5 hn5 hle
      have HO := hid hO
      clear hO
      go_roundg (gk - 1)
      case measure => omega
      case rel => exact ⟨rfl, U, s5, HU, hUv, HO.out, (hf.trans hf5).newOnly hblo hfO⟩
    · have hd0 : decide (x.v < v) = false := by simpa using hlt
      have hge : v ≤ x.v := by omega
      clear k0 k1 k2 k3 f0 f1 f2 f3 hlt hk UPR
      obtain ⟨k0, k1, k2, k3, f0, f1, f2, f3⟩ := HBX.out.cells4
      go_wp2_with fail
      clear k0 k1 k2 k3 f0 f1 f2 f3
      go_loopg [7] x.v (fun k f wq => f = .int .i64 0 ∧ ∃ (y : Ev) (s3 : EvP), Hid (mayS y = true ∧ y.kind = e.kind ∧ toS y v = toS e v) ∧ v ≤ y.v ∧ y.v ≤ v + k ∧ BoxAt w2.heap.size wq b s3 y ∧ Fr No w2 wq)
      case atStart => exact ⟨rfl, x, s2, HX, hge, by omega, HBX.out, hf⟩
      case round =>
        rename World => wq
        obtain ⟨rfl, y, s3, HY, hyv, hyk, hby, hfq⟩ := hrel
        obtain ⟨k0, k1, k2, k3, f0, f1, f2, f3⟩ := hby.cells4
        have HBY := hid hby
        have HWQ := hid (HW.trans hfq)
        have HNQ := hid (hby.new.mono HW.size)
        have hleq := hfq.size
        have hbltq := hby.lt
        clear hby
        by_cases hlt : v < y.v
        · have i1 : (v : Int) < (y.v : Int) := by omega
          have DN1 := hid (DNR.out y s3 wq HNQ.out HY.out.1 HY.out.2.1 HWQ.out)
          rcases hdn : downIs y with _ | _
          · rw [hdn] at DN1
            simp only [Bool.false_eq_true, if_false] at DN1
            have hR : (zeroE, 43) = R := by rw [← HRES.out, ← HY.out.2.2, toS_none hlt hdn]; rfl
            unfold UpPost evV zeroE at DN1
            clear hlt hdn
            obtain rfl := hR
            go_wp2_with (first
              | (go_at_call 20; (with_reducible refine DN1.out.mono ?_); rintro e5 w5 ⟨s5, rfl, hn5, hf5⟩; clear k0 k1 k2 k3 f0 f1 f2 f3; obtain ⟨k0, k1, k2, k3, f0, f1, f2, f3⟩ := (HBY.out.fr hf5).cells4; obtain ⟨y0, y1, y2, y3, g0, g1, g2, g3⟩ := Go.Proofs.YtgjabbhgmecbbaaDoor.cells4 (HGB.out _ (hfq.trans hf5))))
            obtain ⟨_, hfO⟩ := HBY.out.over hf5 hn5 hleq
            obtain ⟨hst, hfr⟩ := store4 (hfO.heap (HGB.out _ (hfq.trans hf5)) (show w.heap.size + 1 ≠ b by omega)) (.int .u8 0) (.int .u8 0) (.slice none 0 0) (.slice none 0 0)
            refine bodyPost_ret (results_row_tmp rfl _ _ (w.heap.size + 1) 25 _ (0, 0) _ (.int .i64 43) rfl hst rfl Tryd.underlying25 rfl (by kernel_rfl)) rfl ⟨⟨none, 0, none, 0⟩, rfl, EvNew.zero _ _, ((HWQ.out.trans hf5).newOnly (by omega) hfO).newOnly (Nat.le_succ _) hfr⟩
          · obtain ⟨hd1, hd2⟩ := downIs_down hdn
            rw [hdn] at DN1
            simp only [if_true] at DN1
            have HU : Hid (mayS (downE y) = true ∧ (downE y).kind = e.kind ∧ toS (downE y) v = toS e v) := hid ⟨hd1, HY.out.2.1, (toS_down hlt hdn).trans HY.out.2.2⟩
            have hUv : v ≤ (downE y).v := by omega
            have hUk : (downE y).v ≤ v + (gk - 1) := by omega
            have hgk : 0 < gk := by omega
            clear hlt hdn hd1 hd2
            generalize downE y = U at DN1 HU hUv hUk
            go_wp2_with (first
              | (go_at_call 20; (with_reducible refine DN1.out.mono ?_); rintro e5 w5 ⟨s5, rfl, hn5, hf5⟩; unfold evV; clear k0 k1 k2 k3 f0 f1 f2 f3; obtain ⟨k0, k1, k2, k3, f0, f1, f2, f3⟩ := (HBY.out.fr hf5).cells4))
            obtain ⟨hO, hfO⟩ := HBY.out.over hf5 hn5 hleq
            have HO := hid hO
            clear hO
            go_roundg (gk - 1)
            case measure => omega
            case rel => exact ⟨rfl, U, s5, HU, hUv, hUk, HO.out, (hfq.trans hf5).newOnly hblo hfO⟩
        · have hd0 : decide (v < y.v) = false := by simpa using hlt
          have hR : (y, 0) = R := by rw [← HRES.out, ← HY.out.2.2, toS_self (by omega)]; rfl
          obtain ⟨y0, y1, y2, y3, g0, g1, g2, g3⟩ := Go.Proofs.YtgjabbhgmecbbaaDoor.cells4 (HGB.out _ hfq)
          clear hlt
          obtain rfl := hR
          go_wp2_with fail
          have hst := BoxAt.fill (w1 := wq) (b := w.heap.size + 1) (B := w.heap.size) (s := s3) (e := y) (HGB.out _ hfq) (Nat.le_succ _) HNQ.out
          refine bodyPost_ret (results_row_tmp rfl _ _ (w.heap.size + 1) 25 _ (0, 0) _ (.int .i64 0) rfl hst.1.cells rfl Tryd.underlying25 rfl (by kernel_rfl)) rfl ⟨s3, rfl, hst.1.new, HWQ.out.newOnly (Nat.le_succ _) hst.2⟩
end Go.Proofs.YtgjabbhgmecbbaaDoor
