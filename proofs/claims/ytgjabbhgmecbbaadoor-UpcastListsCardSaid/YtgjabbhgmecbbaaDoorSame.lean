/-
  Whether two events are the same: slices.Equal, schema's Same, and the document's Same.
-/
import Derived.Test.YtgjabbhgmecbbaaDoorMay
import Derived.BigQuiet
namespace Go.Proofs.YtgjabbhgmecbbaaDoor
open Go.RowKit

theorem list_ne_at {α : Type} {a b : List α} {i : Nat} {x y : α} (h1 : a[i]? = some x) (h2 : b[i]? = some y) (h : x ≠ y) : a ≠ b := by
  rintro rfl
  rw [h1] at h2
  exact h (Option.some.inj h2)
theorem list_eq_of {α : Type} {a b : List α} (hl : a.length = b.length) (h : ∀ (i : Nat) (x y : α), a[i]? = some x → b[i]? = some y → x = y) : a = b := by
  apply List.ext_getElem? 
  intro i
  by_cases hi : i < a.length
  · rw [List.getElem?_eq_getElem hi, List.getElem?_eq_getElem (by omega)]
    exact congrArg some (h i _ _ (List.getElem?_eq_getElem hi) (List.getElem?_eq_getElem (by omega)))
  · rw [List.getElem?_eq_none (by omega), List.getElem?_eq_none (by omega)]
def sameS (a b : Ev) : Bool := decide (a.v = b.v) && (decide (a.kind = b.kind) && (decide (a.nums = b.nums) && decide (a.texts = b.texts)))


set_option maxHeartbeats 1000000 in
set_option maxRecDepth 100000 in
theorem equalN (a b : List Int) (qa : Option Addr) (ca : Nat) (qb : Option Addr) (cb : Nat) (w : World) (ha : a.length ≤ 9223372036854775807)
    (h1 : SlAt w qa (a.map numV)) (h2 : SlAt w qb (b.map numV)) :
    Calls Tryd.prog 36 #[.slice qa a.length ca, .slice qb b.length cb] w fun e w' => e = .returned (.bool (decide (a = b))) ∧ Fr No w w' := by
  by_cases hl : a.length = b.length
  · have HG := hid (fun (h : ∀ (i : Nat) (x y : Int), a[i]? = some x → b[i]? = some y → x = y) => (decide_eq_true (list_eq_of hl h) : decide (a = b) = true))
    have HB := hid (fun (i : Nat) (x y : Int) (c : a[i]? = some x) (d : b[i]? = some y) (hf : x ≠ y) => (decide_eq_false (list_ne_at c d hf) : decide (a = b) = false))
    have H1 := hid h1
    have H2 := hid h2
    have hd0 : ((a.length : Int) != (b.length : Int)) = false := by simp [hl]
    have HN := hid hl
    have HM := hid ha
    generalize decide (a = b) = A at HG HB ⊢
    clear h1 h2 hl ha
    go_enter Tryd.func36, Tryd.ntmps36
    go_wp2_with fail
    go_loopw [13] (fun c wr => ∃ (i m0 : Nat), i ≤ a.length ∧ c = .int .i64 i ∧ wr = w.drewN m0 ∧ Hid (∀ (j : Nat) (x y : Int), j < i → a[j]? = some x → b[j]? = some y → x = y)) (fun c _ => a.length - (intOf c).toNat)
    case atStart => exact ⟨0, 0, Nat.zero_le _, rfl, rfl, hid (fun j _ _ h => absurd h (Nat.not_lt_zero _))⟩
    case round =>
      obtain ⟨i, m0, hi, rfl, rfl, HA⟩ := hrel
      have hil : i ≤ 9223372036854775807 := by have := HM.out; omega
      by_cases hlt : i < a.length
      · have hd : decide ((i : Int) < (a.length : Int)) = true := by simp; omega
        obtain ⟨x, hx⟩ : ∃ x, a[i]? = some x := ⟨_, List.getElem?_eq_getElem hlt⟩
        obtain ⟨y, hy⟩ : ∃ y, b[i]? = some y := ⟨_, List.getElem?_eq_getElem (by have := HN.out; omega)⟩
        obtain ⟨b1, o1, rfl, hc1⟩ := H1.out i (numV x) (by simp [hx])
        obtain ⟨b2, o2, rfl, hc2⟩ := H2.out i (numV y) (by simp [hy])
        unfold numV at hc1 hc2
        have i1 : (i : Int) < (a.length : Int) := by omega
        have i2 : (i : Int) < (b.length : Int) := by have := HN.out; omega
        have i3 : (0 : Int) ≤ (i : Int) := by omega
        have i4 : (i : Int) + 1 ≤ 9223372036854775807 := by have := HM.out; omega
        have HC := hid (And.intro hx hy)
        clear hx hy H1 H2
        by_cases hb : x = y
        · have hbb : (x != y) = false := (by simp [hb])
          have HBB := hid hb
          clear hb
          go_wp2_with fail
          go_quiet (fail)
          go_wp2_with fail
          go_roundw
          case rel =>
            refine ⟨i + 1, m0 + nq, by omega, by go_num, by first | rfl | simp, hid ?_⟩
            intro j x' y' hj c d
            by_cases hji : j = i
            · subst hji
              obtain ⟨e1, e2⟩ := HC.out
              rw [e1] at c
              rw [e2] at d
              cases c; cases d
              exact HBB.out
            · exact HA.out j x' y' (by omega) c d
          case measure => simp [intOf]; omega
        · have hbb : (x != y) = true := (by simp [hb])
          have HBB := hid hb
          clear hb
          go_wp2_with fail
          go_quiet (fail)
          go_wp2_with fail
          go_ret
          exact ⟨congrArg (fun z => Ending.returned (.bool z)) (HB.out i x y HC.out.1 HC.out.2 HBB.out).symm, (((Fr.refl w).drewN _).drewN _)⟩
      · have hd : decide ((i : Int) < (a.length : Int)) = false := by simp; omega
        go_wp2_with fail
        go_ret
        exact ⟨congrArg (fun z => Ending.returned (.bool z)) (HG.out (fun j x y c d => HA.out j x y (by have := (List.getElem?_eq_some_iff.1 c).1; omega) c d)).symm, ((Fr.refl w).drewN _)⟩
  · have e : decide (a = b) = false := decide_eq_false (fun h => hl (congrArg List.length h))
    have hd0 : ((a.length : Int) != (b.length : Int)) = true := by simp; omega
    rw [e]
    clear e hl h1 h2
    go_enter Tryd.func36, Tryd.ntmps36
    go_wp2_with fail
    go_ret
    exact ⟨rfl, Fr.refl _⟩

set_option maxHeartbeats 1000000 in
set_option maxRecDepth 100000 in
theorem equalT (a b : List (List UInt8)) (qa : Option Addr) (ca : Nat) (qb : Option Addr) (cb : Nat) (w : World) (ha : a.length ≤ 9223372036854775807)
    (h1 : SlAt w qa (a.map strV)) (h2 : SlAt w qb (b.map strV)) :
    Calls Tryd.prog 37 #[.slice qa a.length ca, .slice qb b.length cb] w fun e w' => e = .returned (.bool (decide (a = b))) ∧ Fr No w w' := by
  by_cases hl : a.length = b.length
  · have HG := hid (fun (h : ∀ (i : Nat) (x y : (List UInt8)), a[i]? = some x → b[i]? = some y → x = y) => (decide_eq_true (list_eq_of hl h) : decide (a = b) = true))
    have HB := hid (fun (i : Nat) (x y : (List UInt8)) (c : a[i]? = some x) (d : b[i]? = some y) (hf : x ≠ y) => (decide_eq_false (list_ne_at c d hf) : decide (a = b) = false))
    have H1 := hid h1
    have H2 := hid h2
    have hd0 : ((a.length : Int) != (b.length : Int)) = false := by simp [hl]
    have HN := hid hl
    have HM := hid ha
    generalize decide (a = b) = A at HG HB ⊢
    clear h1 h2 hl ha
    go_enter Tryd.func37, Tryd.ntmps37
    go_wp2_with fail
    go_loopw [13] (fun c wr => ∃ (i m0 : Nat), i ≤ a.length ∧ c = .int .i64 i ∧ wr = w.drewN m0 ∧ Hid (∀ (j : Nat) (x y : (List UInt8)), j < i → a[j]? = some x → b[j]? = some y → x = y)) (fun c _ => a.length - (intOf c).toNat)
    case atStart => exact ⟨0, 0, Nat.zero_le _, rfl, rfl, hid (fun j _ _ h => absurd h (Nat.not_lt_zero _))⟩
    case round =>
      obtain ⟨i, m0, hi, rfl, rfl, HA⟩ := hrel
      have hil : i ≤ 9223372036854775807 := by have := HM.out; omega
      by_cases hlt : i < a.length
      · have hd : decide ((i : Int) < (a.length : Int)) = true := by simp; omega
        obtain ⟨x, hx⟩ : ∃ x, a[i]? = some x := ⟨_, List.getElem?_eq_getElem hlt⟩
        obtain ⟨y, hy⟩ : ∃ y, b[i]? = some y := ⟨_, List.getElem?_eq_getElem (by have := HN.out; omega)⟩
        obtain ⟨b1, o1, rfl, hc1⟩ := H1.out i (strV x) (by simp [hx])
        obtain ⟨b2, o2, rfl, hc2⟩ := H2.out i (strV y) (by simp [hy])
        unfold strV at hc1 hc2
        have i1 : (i : Int) < (a.length : Int) := by omega
        have i2 : (i : Int) < (b.length : Int) := by have := HN.out; omega
        have i3 : (0 : Int) ≤ (i : Int) := by omega
        have i4 : (i : Int) + 1 ≤ 9223372036854775807 := by have := HM.out; omega
        have HC := hid (And.intro hx hy)
        clear hx hy H1 H2
        by_cases hb : x = y
        · have hbb : (x == y) = true := (by simp [hb])
          have hx1 : (⟨x.toArray⟩ : ByteArray).toList = x := by simp
          have hy1 : (⟨y.toArray⟩ : ByteArray).toList = y := by simp
          have HBB := hid hb
          clear hb
          go_wp2_with fail
          go_quiet (fail)
          go_wp2_with fail
          go_roundw
          case rel =>
            refine ⟨i + 1, m0 + nq, by omega, by go_num, by first | rfl | simp, hid ?_⟩
            intro j x' y' hj c d
            by_cases hji : j = i
            · subst hji
              obtain ⟨e1, e2⟩ := HC.out
              rw [e1] at c
              rw [e2] at d
              cases c; cases d
              exact HBB.out
            · exact HA.out j x' y' (by omega) c d
          case measure => simp [intOf]; omega
        · have hbb : (x == y) = false := (by simp [hb])
          have hx1 : (⟨x.toArray⟩ : ByteArray).toList = x := by simp
          have hy1 : (⟨y.toArray⟩ : ByteArray).toList = y := by simp
          have HBB := hid hb
          clear hb
          go_wp2_with fail
          go_quiet (fail)
          go_wp2_with fail
          go_ret
          exact ⟨congrArg (fun z => Ending.returned (.bool z)) (HB.out i x y HC.out.1 HC.out.2 HBB.out).symm, (((Fr.refl w).drewN _).drewN _)⟩
      · have hd : decide ((i : Int) < (a.length : Int)) = false := by simp; omega
        go_wp2_with fail
        go_ret
        exact ⟨congrArg (fun z => Ending.returned (.bool z)) (HG.out (fun j x y c d => HA.out j x y (by have := (List.getElem?_eq_some_iff.1 c).1; omega) c d)).symm, ((Fr.refl w).drewN _)⟩
  · have e : decide (a = b) = false := decide_eq_false (fun h => hl (congrArg List.length h))
    have hd0 : ((a.length : Int) != (b.length : Int)) = true := by simp; omega
    rw [e]
    clear e hl h1 h2
    go_enter Tryd.func37, Tryd.ntmps37
    go_wp2_with fail
    go_ret
    exact ⟨rfl, Fr.refl _⟩
end Go.Proofs.YtgjabbhgmecbbaaDoor
