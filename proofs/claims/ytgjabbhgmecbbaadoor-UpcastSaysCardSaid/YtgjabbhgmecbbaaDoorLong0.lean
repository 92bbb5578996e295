/-
  Whether an event has more than a statement goes over.
-/
import Derived.Test.YtgjabbhgmecbbaaDoorMay
namespace Go.Proofs.YtgjabbhgmecbbaaDoor
open Go.RowKit

def Small (e : Ev) : Prop := e.nums.length ≤ 300 ∧ e.texts.length ≤ 300 ∧ ∀ t, t ∈ e.texts → t.length ≤ 300
def LongPost (w : World) (e : Ev) (en : Ending) (w' : World) : Prop := ∃ b, en = .returned (.bool b) ∧ (b = false → Small e) ∧ Fr No w w'
structure LongRel (ns : Nat) (ts : List (List UInt8)) (i m : Nat) : Prop where
  le : i ≤ ts.length
  low : ns + ts.length ≤ m
  up : m ≤ ns + ts.length ∨ m ≤ 600
  each : ∀ j t, j < i → ts[j]? = some t → min t.length 300 + (ns + ts.length) ≤ m
theorem LongRel.next {ns : Nat} {ts : List (List UInt8)} {i m : Nat} {t : List UInt8} (h : LongRel ns ts i m) (ht : ts[i]? = some t) (hm : m ≤ 300) : LongRel ns ts (i + 1) (m + min t.length 300) := by
  have hi := (List.getElem?_eq_some_iff.1 ht).1
  refine ⟨by omega, by have := h.low; omega, .inr (by omega), fun j x hj hx => ?_⟩
  by_cases hji : j = i
  · subst hji
    rw [ht] at hx
    cases hx
    have := h.low
    omega
  · have := h.each j x (by omega) hx
    omega
theorem LongRel.small {ns : List Int} {ts : List (List UInt8)} {v k m : Nat} (h : LongRel ns.length ts ts.length m) (hm : m ≤ 300) : Small ⟨v, k, ns, ts⟩ := by
  have := h.low
  refine ⟨by show ns.length ≤ 300; omega, by show ts.length ≤ 300; omega, fun t ht => ?_⟩
  obtain ⟨j, hj⟩ := List.getElem?_of_mem ht
  have hl : j < ts.length := (List.getElem?_eq_some_iff.1 hj).1
  have := h.each j t hl hj
  omega

end Go.Proofs.YtgjabbhgmecbbaaDoor
