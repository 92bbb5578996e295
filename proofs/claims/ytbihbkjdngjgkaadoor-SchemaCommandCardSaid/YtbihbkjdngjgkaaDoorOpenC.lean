/-
  A parameter that is a command, opened. No statement of the seat is proved here.
-/
import Derived.Test.YtbihbkjdngjgkaaDoorOpenE
import Derived.Test.YtbihbkjdngjgkaaDoorMayCmd
namespace Go.Proofs.YtbihbkjdngjgkaaDoor
open Go.RowKit Go.ChangeShapes Go.WideShapes

theorem command_open {H : Type} {enc : TypeId × Value → H} {w : World} {base : Nat} {sp : Nat → Bool} {hd : Bool} {r : Reach} {b0 : Nat} {v : Value} {d : DataW H} {p : List MemPlace}
    (hv : Value.okWide Tryd.prog w r b0 39 v) (h : DataW.Trod enc Tryd.prog w base sp hd 39 v d p) :
    ∃ (q : Option Addr) (cn : Nat) (c : Cm), v = cmV q cn c ∧ CmAt w q c ∧ (∀ n, n ∈ c.nums → -9223372036854775808 ≤ n ∧ n ≤ 9223372036854775807) := by
  have hC : Tryd.prog.cellsOf 39 = 3 := by kernel_rfl
  obtain ⟨v0, v1, v2, y0, y1, y2, n, rfl, _, _, h0, h1, h2⟩ := Go.Joins.open_agg3 Tryd.underlying39 (by kernel_rfl) hC hv h
  obtain ⟨n0, e0, _, w0⟩ := DataW.trod_int Tryd.underlying5 h0
  obtain ⟨q1, c1, l1, e1, s1, b1, r1, _, _⟩ := nums_open h1
  obtain ⟨s2, e2, _, w2⟩ := DataW.trod_string Tryd.underlying9 h2
  simp only [List.cons.injEq, and_true] at e0 e1 e2
  subst e0 e1 e2
  obtain ⟨l0, u0⟩ := bounds_u8 w0
  obtain ⟨m0, rfl⟩ := Int.eq_ofNat_of_zero_le l0
  have : s2.data.toList.length ≤ 9223372036854775807 := by
    have h : s2.data.toList.length ≤ maxLen := by simpa using w2
    unfold maxLen at h
    exact h
  exact ⟨q1, c1, ⟨m0, l1, s2.data.toList⟩, rfl, ⟨by show m0 ≤ 255; omega, s1, b1, this⟩, r1⟩
end Go.Proofs.YtbihbkjdngjgkaaDoor
