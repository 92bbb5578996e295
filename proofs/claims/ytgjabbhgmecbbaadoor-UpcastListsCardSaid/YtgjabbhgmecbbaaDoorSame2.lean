/-
  Whether two events are the same: schema's Same.
-/
import Derived.Test.YtgjabbhgmecbbaaDoorSame
namespace Go.Proofs.YtgjabbhgmecbbaaDoor
open Go.RowKit

def eCells (s : EvP) (e : Ev) : Array Value := #[.int .u8 e.v, .int .u8 e.kind, .slice s.qn e.nums.length s.cn, .slice s.qt e.texts.length s.ct]
theorem evV_eq (s : EvP) (e : Ev) : evV s e = .agg (eCells s e) := rfl

set_option maxHeartbeats 2000000 in
set_option maxRecDepth 100000 in
theorem same_any (s t : EvP) (e f : Ev) (w : World) (he : EvAt w s e) (hf : EvAt w t f) :
    Calls Tryd.prog 22 #[evV s e, evV t f] w fun en w' => en = .returned (.bool (sameS e f)) ∧ Fr No w w' := by
  obtain ⟨qn, cn, qt, ct⟩ := s
  obtain ⟨v, k, ns, ts⟩ := e
  obtain ⟨qn2, cn2, qt2, ct2⟩ := t
  obtain ⟨v2, k2, ns2, ts2⟩ := f
  obtain ⟨h1, h2, h3, h4, h5, h6, h7, h8⟩ := he
  obtain ⟨f1, f2, f3, f4, f5, f6, f7, f8⟩ := hf
  simp only at h1 h2 h3 h4 h5 h6 h7 f1 f2 f3 f4 f5 f6 f7
  have HF : Fr No w ((w.alloc (.cells #[.int .u8 v, .int .u8 k, .slice qn ns.length cn, .slice qt ts.length ct] 25)).alloc (.cells #[.int .u8 v2, .int .u8 k2, .slice qn2 ns2.length cn2, .slice qt2 ts2.length ct2] 25)) := ((Fr.refl w).alloc _).alloc _
  have E1 := hid (fun w1 (h : Fr No w w1) => equalN ns ns2 qn cn qn2 cn2 w1 h5 (h3.fr h) (f3.fr h))
  have E2 := hid (fun w1 (h : Fr No w w1) => equalT ts ts2 qt ct qt2 ct2 w1 h6 (h4.fr h) (f4.fr h))
  have hR : sameS ⟨v, k, ns, ts⟩ ⟨v2, k2, ns2, ts2⟩ = (decide (v = v2) && (decide (k = k2) && (decide (ns = ns2) && decide (ts = ts2)))) := rfl
  rw [hR]
  have g0 := Go.heap_alloc_new (w.alloc (.cells #[.int .u8 v, .int .u8 k, .slice qn ns.length cn, .slice qt ts.length ct] 25)) (.cells #[.int .u8 v2, .int .u8 k2, .slice qn2 ns2.length cn2, .slice qt2 ts2.length ct2] 25)
  have g1 : ((w.alloc (.cells #[.int .u8 v, .int .u8 k, .slice qn ns.length cn, .slice qt ts.length ct] 25)).alloc (.cells #[.int .u8 v2, .int .u8 k2, .slice qn2 ns2.length cn2, .slice qt2 ts2.length ct2] 25)).heap[w.heap.size]? = some (.cells #[.int .u8 v, .int .u8 k, .slice qn ns.length cn, .slice qt ts.length ct] 25 (0, 0)) := by
    rw [Below.heap_alloc _ _ _ (by simp)]; exact Go.heap_alloc_new _ _
  have C0 := hid (fun w1 (h : Fr No _ w1) j => cell_of_row w1 _ j _ _ (0, 0) (h.heap0 g0))
  have C1 := hid (fun w1 (h : Fr No _ w1) j => cell_of_row w1 _ j _ _ (0, 0) (h.heap0 g1))
  clear g0 g1 hR h1 h2 h3 h4 h5 h6 h7 h8 f1 f2 f3 f4 f5 f6 f7 f8
  unfold evV
  simp only
  by_cases hv : v = v2
  · rw [decide_eq_true hv, Bool.true_and]
    have b1 : ((v : Int) == (v2 : Int)) = true := by simp [hv]
    clear hv
    by_cases hk : k = k2
    · rw [decide_eq_true hk, Bool.true_and]
      have b2 : ((k : Int) == (k2 : Int)) = true := by simp [hk]
      clear hk
      generalize decide (ns = ns2) = A at E1 ⊢
      generalize decide (ts = ts2) = B at E2 ⊢
      cases A
      · rw [Bool.false_and]
        go_enter Tryd.func22, Tryd.ntmps22
        go_wp2_with (first
          | (go_at_call 36; refine (E1.out _ HF).mono ?_; rintro e1 w1 ⟨rfl, hf1⟩))
        go_ret
        exact ⟨rfl, HF.trans hf1⟩
      · rw [Bool.true_and]
        go_enter Tryd.func22, Tryd.ntmps22
        go_wp2_with (first
          | (go_at_call 36; refine (E1.out _ HF).mono ?_; rintro e1 w1 ⟨rfl, hf1⟩
             have d0 := C0.out _ hf1 3
             have d1 := C1.out _ hf1 3
             simp only [List.getElem?_toArray, List.getElem?_cons_zero, List.getElem?_cons_succ, World.size_alloc] at d0 d1)
          | (go_at_call 37; refine (E2.out _ (HF.trans hf1)).mono ?_; rintro e2 w2 ⟨rfl, hf2⟩))
        go_ret
        exact ⟨rfl, (HF.trans hf1).trans hf2⟩
    · rw [decide_eq_false hk, Bool.false_and]
      have b2 : ((k : Int) == (k2 : Int)) = false := by simp; omega
      clear hk
      go_enter Tryd.func22, Tryd.ntmps22
      go_wp2_with fail
      go_ret
      exact ⟨rfl, HF⟩
  · rw [decide_eq_false hv, Bool.false_and]
    have b1 : ((v : Int) == (v2 : Int)) = false := by simp; omega
    clear hv
    go_enter Tryd.func22, Tryd.ntmps22
    go_wp2_with fail
    go_ret
    exact ⟨rfl, HF⟩
end Go.Proofs.YtgjabbhgmecbbaaDoor
