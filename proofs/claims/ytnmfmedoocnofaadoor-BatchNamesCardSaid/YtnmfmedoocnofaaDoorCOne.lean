/-
  The contracts of wire's and the document's readers and writers, for this seat (out of the wire seat's texts): no statement of the seat is proved here.
-/
import Derived.Test.YtnmfmedoocnofaaDoorCPlain
namespace Go.Proofs.YtnmfmedoocnofaaDoor
open Go.RowKit

theorem shGo_canon (l : List UInt8) : ∀ i k acc m j, i + k = 10 → 1 ≤ k → shGo l i acc = .inr (m, j) →
    ∃ v, m = acc + v * 128 ^ i ∧ i < j ∧ shortF k v = l.take (j - i) ∧ j - i ≤ l.length ∧ (0 < i → 0 < v) := by
  induction l with
  | nil => intro i k acc m j _ _ h; simp [shGo] at h
  | cons c l ih =>
    intro i k acc m j hi hk h
    have hc := c.toNat_lt
    rw [shGo] at h
    split at h
    · simp at h
    · rename_i hno
      obtain ⟨k, rfl⟩ : ∃ k', k = k' + 1 := ⟨k - 1, by omega⟩
      split at h
      · rename_i hlt
        simp only [Sum.inr.injEq, Prod.mk.injEq] at h
        obtain ⟨rfl, rfl⟩ := h
        refine ⟨c.toNat, by rw [Nat.mod_eq_of_lt hlt], by omega, ?_, by simp, by omega⟩
        rw [shortF, if_pos hlt, byteN_self]
        simp
      · rename_i hge
        have hi9 : i ≠ 9 := by intro e; exact hno (.inl ⟨e, by omega⟩)
        obtain ⟨v, h1, h2, h3, h4, h5⟩ := ih (i + 1) k _ m j (by omega) (by omega) h
        have hv := h5 (by omega)
        refine ⟨c.toNat % 128 + 128 * v, ?_, by omega, ?_, ?_, by omega⟩
        · rw [h1, Nat.pow_succ, Nat.add_mul]
          have : v * (128 ^ i * 128) = 128 * v * 128 ^ i := by
            rw [Nat.mul_comm (128 ^ i) 128, ← Nat.mul_assoc, Nat.mul_comm v 128]
          omega
        · rw [shortF, if_neg (by omega), show (c.toNat % 128 + 128 * v) / 128 = v from by omega, h3, show (c.toNat % 128 + 128 * v) % 128 + 128 = c.toNat from by omega, byteN_self]
          rw [show j - i = (j - (i + 1)) + 1 from by omega, List.take_succ_cons]
        · simp; omega
theorem shGo_shortB_back (l : List UInt8) (m j : Nat) (h : shGo l 0 0 = .inr (m, j)) : shortB m = l.take j ∧ j ≤ l.length := by
  obtain ⟨v, h1, h2, h3, h4, _⟩ := shGo_canon l 0 10 0 m j rfl (by decide) h
  simp at h1 h3 h4
  subst h1
  exact ⟨h3, h4⟩

end Go.Proofs.YtnmfmedoocnofaaDoor
