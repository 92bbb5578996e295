/-
  Whether two events are the same: slices.Equal, schema's Same, and the document's Same. Whether two events are the same: schema's Same.
-/
import Derived.Test.YtnmfmedoocnofaaDoorMay
import Derived.BigQuiet
namespace Go.Proofs.YtnmfmedoocnofaaDoor
open Go.RowKit

theorem list_ne_at {α : Type} {a b : List α} {i : Nat} {x y : α} (h1 : a[i]? = some x) (h2 : b[i]? = some y) (h : x ≠ y) : a ≠ b := by
  rintro rfl
  rw [h1] at h2
  exact h (Option.some.inj h2)
theorem list_eq_of {α : Type} {a b : List α} (hl : a.length = b.length) (h : ∀ (i : Nat) (x y : α), a[i]? = some x → b[i]? = some y → x = y) : a = b := by
  apply List.ext_getElem? 
  intro i
  by_cases hi : i < a.length
  · rw [List.getElem?_eq_getElem hi, List.getElem?_eq_getElem (by omega)]
    exact congrArg some (h i _ _ (List.getElem?_eq_getElem hi) (List.getElem?_eq_getElem (by omega)))
  · rw [List.getElem?_eq_none (by omega), List.getElem?_eq_none (by omega)]
def sameS (a b : Ev) : Bool := decide (a.v = b.v) && (decide (a.kind = b.kind) && (decide (a.nums = b.nums) && decide (a.texts = b.texts)))


set_option maxHeartbeats 1000000 in
set_option maxRecDepth 100000 in
theorem equalN (a b : List Int) (qa : Option Addr) (ca : Nat) (qb : Option Addr) (cb : Nat) (w : World) (ha : a.length ≤ 9223372036854775807)
    (h1 : SlAt w qa (a.map numV)) (h2 : SlAt w qb (b.map numV)) :
    Calls Tryd.prog 80 #[.slice qa a.length ca, .slice qb b.length cb] w fun e w' => e = .returned (.bool (decide (a = b))) ∧ Fr No w w' := by
  by_cases hl : a.length = b.length
  · have HG := hid (fun (h : ∀ (i : Nat) (x y : Int), a[i]? = some x → b[i]? = some y → x = y) => (decide_eq_true (list_eq_of hl h) : decide (a = b) = true))
    have HB := hid (fun (i : Nat) (x y : Int) (c : a[i]? = some x) (d : b[i]? = some y) (hf : x ≠ y) => (decide_eq_false (list_ne_at c d hf) : decide (a = b) = false))
    have H1 := hid h1
    have H2 := hid h2
    have hd0 : ((a.length : Int) != (b.length : Int)) = false := by simp [hl]
    have HN := hid hl
    have HM := hid ha
    generalize decide (a = b) = A at HG HB ⊢
    clear h1 h2 hl ha
    go_enter Tryd.func80, Tryd.ntmps80
    go_wp2_with fail
    go_loopw [13] (fun c wr => ∃ (i m0 : Nat), i ≤ a.length ∧ c = .int .i64 i ∧ wr = w.drewN m0 ∧ Hid (∀ (j : Nat) (x y : Int), j < i → a[j]? = some x → b[j]? = some y → x = y)) (fun c _ => a.length - (intOf c).toNat)
    case atStart => exact ⟨0, 0, Nat.zero_le _, rfl, rfl, hid (fun j _ _ h => absurd h (Nat.not_lt_zero _))⟩
    case round =>
      obtain ⟨i, m0, hi, rfl, rfl, HA⟩ := hrel
      have hil : i ≤ 9223372036854775807 := by have := HM.out; omega
      by_cases hlt : i < a.length
      · have hd : decide ((i : Int) < (a.length : Int)) = true := by simp; omega
        obtain ⟨x, hx⟩ : ∃ x, a[i]? = some x := ⟨_, List.getElem?_eq_getElem hlt⟩
        obtain ⟨y, hy⟩ : ∃ y, b[i]? = some y := ⟨_, List.getElem?_eq_getElem (by have := HN.out; omega)⟩
        obtain ⟨b1, o1, rfl, hc1⟩ := H1.out i (numV x) (by simp [hx])
        obtain ⟨b2, o2, rfl, hc2⟩ := H2.out i (numV y) (by simp [hy])
        unfold numV at hc1 hc2
        have i1 : (i : Int) < (a.length : Int) := by omega
        have i2 : (i : Int) < (b.length : Int) := by have := HN.out; omega
        have i3 : (0 : Int) ≤ (i : Int) := by omega
        have i4 : (i : Int) + 1 ≤ 9223372036854775807 := by have := HM.out; omega
        have HC := hid (And.intro hx hy)
        clear hx hy H1 H2
        by_cases hb : x = y
        · have hbb : (x != y) = false := (by simp [hb])
          have HBB := hid hb
          clear hb
          go_wp2_with fail
          go_quiet (fail)
          go_wp2_with fail
          go_roundw
          case rel =>
            refine ⟨i + 1, m0 + nq, by omega, by go_num, by first | rfl | simp, hid ?_⟩
            intro j x' y' hj c d
            by_cases hji : j = i
            · subst hji
              obtain ⟨e1, e2⟩ := HC.out
              rw [e1] at c
              rw [e2] at d
              cases c; cases d
              exact HBB.out
            · exact HA.out j x' y' (by omega) c d
          case measure => simp [intOf]; omega
        · have hbb : (x != y) = true := (by simp [hb])
          have HBB := hid hb
          clear hb
          go_wp2_with fail
          go_quiet (fail)
          go_wp2_with fail
          go_ret
          exact ⟨congrArg (fun z => Ending.returned (.bool z)) (HB.out i x y HC.out.1 HC.out.2 HBB.out).symm, (((Fr.refl w).drewN _).drewN _)⟩
      · have hd : decide ((i : Int) < (a.length : Int)) = false := by simp; omega
        go_wp2_with fail
        go_ret
        exact ⟨congrArg (fun z => Ending.returned (.bool z)) (HG.out (fun j x y c d => HA.out j x y (by have := (List.getElem?_eq_some_iff.1 c).1; omega) c d)).symm, ((Fr.refl w).drewN _)⟩
  · have e : decide (a = b) = false := decide_eq_false (fun h => hl (congrArg List.length h))
    have hd0 : ((a.length : Int) != (b.length : Int)) = true := by simp; omega
    rw [e]
    clear e hl h1 h2
    go_enter Tryd.func80, Tryd.ntmps80
    go_wp2_with fail
    go_ret
    exact ⟨rfl, Fr.refl _⟩

set_option maxHeartbeats 1000000 in
set_option maxRecDepth 100000 in
theorem equalT (a b : List (List UInt8)) (qa : Option Addr) (ca : Nat) (qb : Option Addr) (cb : Nat) (w : World) (ha : a.length ≤ 9223372036854775807)
    (h1 : SlAt w qa (a.map strV)) (h2 : SlAt w qb (b.map strV)) :
    Calls Tryd.prog 81 #[.slice qa a.length ca, .slice qb b.length cb] w fun e w' => e = .returned (.bool (decide (a = b))) ∧ Fr No w w' := by
  by_cases hl : a.length = b.length
  · have HG := hid (fun (h : ∀ (i : Nat) (x y : (List UInt8)), a[i]? = some x → b[i]? = some y → x = y) => (decide_eq_true (list_eq_of hl h) : decide (a = b) = true))
    have HB := hid (fun (i : Nat) (x y : (List UInt8)) (c : a[i]? = some x) (d : b[i]? = some y) (hf : x ≠ y) => (decide_eq_false (list_ne_at c d hf) : decide (a = b) = false))
    have H1 := hid h1
    have H2 := hid h2
    have hd0 : ((a.length : Int) != (b.length : Int)) = false := by simp [hl]
    have HN := hid hl
    have HM := hid ha
    generalize decide (a = b) = A at HG HB ⊢
    clear h1 h2 hl ha
    go_enter Tryd.func81, Tryd.ntmps81
    go_wp2_with fail
    go_loopw [13] (fun c wr => ∃ (i m0 : Nat), i ≤ a.length ∧ c = .int .i64 i ∧ wr = w.drewN m0 ∧ Hid (∀ (j : Nat) (x y : (List UInt8)), j < i → a[j]? = some x → b[j]? = some y → x = y)) (fun c _ => a.length - (intOf c).toNat)
    case atStart => exact ⟨0, 0, Nat.zero_le _, rfl, rfl, hid (fun j _ _ h => absurd h (Nat.not_lt_zero _))⟩
    case round =>
      obtain ⟨i, m0, hi, rfl, rfl, HA⟩ := hrel
      have hil : i ≤ 9223372036854775807 := by have := HM.out; omega
      by_cases hlt : i < a.length
      · have hd : decide ((i : Int) < (a.length : Int)) = true := by simp; omega
        obtain ⟨x, hx⟩ : ∃ x, a[i]? = some x := ⟨_, List.getElem?_eq_getElem hlt⟩
        obtain ⟨y, hy⟩ : ∃ y, b[i]? = some y := ⟨_, List.getElem?_eq_getElem (by have := HN.out; omega)⟩
        obtain ⟨b1, o1, rfl, hc1⟩ := H1.out i (strV x) (by simp [hx])
        obtain ⟨b2, o2, rfl, hc2⟩ := H2.out i (strV y) (by simp [hy])
        unfold strV at hc1 hc2
        have i1 : (i : Int) < (a.length : Int) := by omega
        have i2 : (i : Int) < (b.length : Int) := by have := HN.out; omega
        have i3 : (0 : Int) ≤ (i : Int) := by omega
        have i4 : (i : Int) + 1 ≤ 9223372036854775807 := by have := HM.out; omega
        have HC := hid (And.intro hx hy)
        clear hx hy H1 H2
        by_cases hb : x = y
        · have hbb : (x == y) = true := (by simp [hb])
          have hx1 : (⟨x.toArray⟩ : ByteArray).toList = x := by simp
          have hy1 : (⟨y.toArray⟩ : ByteArray).toList = y := by simp
          have HBB := hid hb
          clear hb
          go_wp2_with fail
          go_quiet (fail)
          go_wp2_with fail
          go_roundw
          case rel =>
            refine ⟨i + 1, m0 + nq, by omega, by go_num, by first | rfl | simp, hid ?_⟩
            intro j x' y' hj c d
            by_cases hji : j = i
            · subst hji
              obtain ⟨e1, e2⟩ := HC.out
              rw [e1] at c
              rw [e2] at d
              cases c; cases d
              exact HBB.out
            · exact HA.out j x' y' (by omega) c d
          case measure => simp [intOf]; omega
        · have hbb : (x == y) = false := (by simp [hb])
          have hx1 : (⟨x.toArray⟩ : ByteArray).toList = x := by simp
          have hy1 : (⟨y.toArray⟩ : ByteArray).toList = y := by simp
          have HBB := hid hb
          clear hb
          go_wp2_with fail
          go_quiet (fail)
          go_wp2_with fail
          go_ret
          exact ⟨congrArg (fun z => Ending.returned (.bool z)) (HB.out i x y HC.out.1 HC.out.2 HBB.out).symm, (((Fr.refl w).drewN _).drewN _)⟩
      · have hd : decide ((i : Int) < (a.length : Int)) = false := by simp; omega
        go_wp2_with fail
        go_ret
        exact ⟨congrArg (fun z => Ending.returned (.bool z)) (HG.out (fun j x y c d => HA.out j x y (by have := (List.getElem?_eq_some_iff.1 c).1; omega) c d)).symm, ((Fr.refl w).drewN _)⟩
  · have e : decide (a = b) = false := decide_eq_false (fun h => hl (congrArg List.length h))
    have hd0 : ((a.length : Int) != (b.length : Int)) = true := by simp; omega
    rw [e]
    clear e hl h1 h2
    go_enter Tryd.func81, Tryd.ntmps81
    go_wp2_with fail
    go_ret
    exact ⟨rfl, Fr.refl _⟩

def eCells (s : EvP) (e : Ev) : Array Value := #[.int .u8 e.v, .int .u8 e.kind, .slice s.qn e.nums.length s.cn, .slice s.qt e.texts.length s.ct]
theorem evV_eq (s : EvP) (e : Ev) : evV s e = .agg (eCells s e) := rfl

set_option maxHeartbeats 2000000 in
set_option maxRecDepth 100000 in
theorem same_any (s t : EvP) (e f : Ev) (w : World) (he : EvAt w s e) (hf : EvAt w t f) :
    Calls Tryd.prog 52 #[evV s e, evV t f] w fun en w' => en = .returned (.bool (sameS e f)) ∧ Fr No w w' := by
  obtain ⟨qn, cn, qt, ct⟩ := s
  obtain ⟨v, k, ns, ts⟩ := e
  obtain ⟨qn2, cn2, qt2, ct2⟩ := t
  obtain ⟨v2, k2, ns2, ts2⟩ := f
  obtain ⟨h1, h2, h3, h4, h5, h6, h7, h8⟩ := he
  obtain ⟨f1, f2, f3, f4, f5, f6, f7, f8⟩ := hf
  simp only at h1 h2 h3 h4 h5 h6 h7 f1 f2 f3 f4 f5 f6 f7
  have HF : Fr No w ((w.alloc (.cells #[.int .u8 v, .int .u8 k, .slice qn ns.length cn, .slice qt ts.length ct] 34)).alloc (.cells #[.int .u8 v2, .int .u8 k2, .slice qn2 ns2.length cn2, .slice qt2 ts2.length ct2] 34)) := ((Fr.refl w).alloc _).alloc _
  have E1 := hid (fun w1 (h : Fr No w w1) => equalN ns ns2 qn cn qn2 cn2 w1 h5 (h3.fr h) (f3.fr h))
  have E2 := hid (fun w1 (h : Fr No w w1) => equalT ts ts2 qt ct qt2 ct2 w1 h6 (h4.fr h) (f4.fr h))
  have hR : sameS ⟨v, k, ns, ts⟩ ⟨v2, k2, ns2, ts2⟩ = (decide (v = v2) && (decide (k = k2) && (decide (ns = ns2) && decide (ts = ts2)))) := rfl
  rw [hR]
  have g0 := Go.heap_alloc_new (w.alloc (.cells #[.int .u8 v, .int .u8 k, .slice qn ns.length cn, .slice qt ts.length ct] 34)) (.cells #[.int .u8 v2, .int .u8 k2, .slice qn2 ns2.length cn2, .slice qt2 ts2.length ct2] 34)
  have g1 : ((w.alloc (.cells #[.int .u8 v, .int .u8 k, .slice qn ns.length cn, .slice qt ts.length ct] 34)).alloc (.cells #[.int .u8 v2, .int .u8 k2, .slice qn2 ns2.length cn2, .slice qt2 ts2.length ct2] 34)).heap[w.heap.size]? = some (.cells #[.int .u8 v, .int .u8 k, .slice qn ns.length cn, .slice qt ts.length ct] 34 (0, 0)) := by
    rw [Below.heap_alloc _ _ _ (by simp)]; exact Go.heap_alloc_new _ _
  have C0 := hid (fun w1 (h : Fr No _ w1) j => cell_of_row w1 _ j _ _ (0, 0) (h.heap0 g0))
  have C1 := hid (fun w1 (h : Fr No _ w1) j => cell_of_row w1 _ j _ _ (0, 0) (h.heap0 g1))
  clear g0 g1 hR h1 h2 h3 h4 h5 h6 h7 h8 f1 f2 f3 f4 f5 f6 f7 f8
  unfold evV
  simp only
  by_cases hv : v = v2
  · rw [decide_eq_true hv, Bool.true_and]
    have b1 : ((v : Int) == (v2 : Int)) = true := by simp [hv]
    clear hv
    by_cases hk : k = k2
    · rw [decide_eq_true hk, Bool.true_and]
      have b2 : ((k : Int) == (k2 : Int)) = true := by simp [hk]
      clear hk
      generalize decide (ns = ns2) = A at E1 ⊢
      generalize decide (ts = ts2) = B at E2 ⊢
      cases A
      · rw [Bool.false_and]
        go_enter Tryd.func52, Tryd.ntmps52
        go_wp2_with (first
          | (go_at_call 80; refine (E1.out _ HF).mono ?_; rintro e1 w1 ⟨rfl, hf1⟩))
        go_ret
        exact ⟨rfl, HF.trans hf1⟩
      · rw [Bool.true_and]
        go_enter Tryd.func52, Tryd.ntmps52
        go_wp2_with (first
          | (go_at_call 80; refine (E1.out _ HF).mono ?_; rintro e1 w1 ⟨rfl, hf1⟩
             have d0 := C0.out _ hf1 3
             have d1 := C1.out _ hf1 3
             simp only [List.getElem?_toArray, List.getElem?_cons_zero, List.getElem?_cons_succ, World.size_alloc] at d0 d1)
          | (go_at_call 81; refine (E2.out _ (HF.trans hf1)).mono ?_; rintro e2 w2 ⟨rfl, hf2⟩))
        go_ret
        exact ⟨rfl, (HF.trans hf1).trans hf2⟩
    · rw [decide_eq_false hk, Bool.false_and]
      have b2 : ((k : Int) == (k2 : Int)) = false := by simp; omega
      clear hk
      go_enter Tryd.func52, Tryd.ntmps52
      go_wp2_with fail
      go_ret
      exact ⟨rfl, HF⟩
  · rw [decide_eq_false hv, Bool.false_and]
    have b1 : ((v : Int) == (v2 : Int)) = false := by simp; omega
    clear hv
    go_enter Tryd.func52, Tryd.ntmps52
    go_wp2_with fail
    go_ret
    exact ⟨rfl, HF⟩

theorem sameS_iff {a b : Ev} : sameS a b = true ↔ a = b := by
  unfold sameS
  simp only [Bool.and_eq_true, decide_eq_true_eq]
  constructor
  · rintro ⟨h1, h2, h3, h4⟩
    rcases a with ⟨v, k, ns, ts⟩
    rcases b with ⟨v', k', ns', ts'⟩
    simp only at h1 h2 h3 h4
    subst h1 h2 h3 h4
    rfl
  · rintro rfl; exact ⟨rfl, rfl, rfl, rfl⟩
theorem sameS_self (a : Ev) : sameS a a = true := sameS_iff.2 rfl
end Go.Proofs.YtnmfmedoocnofaaDoor
