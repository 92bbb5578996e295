/-
  WireOne: plain lemmas: what is read, written again, are the bytes.
-/
import Derived.Test.YtcggakegbdpdfaaPlain
namespace Go.Proofs.Ytcggakegbdpdfaa
open Go.RowKit

theorem byteN_mod (n : Nat) : byteN (n % 256) = byteN n := by
  have : (byteN (n % 256)).toNat = (byteN n).toNat := by rw [byteN_toNat, byteN_toNat]; omega
  exact UInt8.toNat_inj.1 this
theorem fixedB_beN (k : Nat) : ∀ l : List UInt8, l.length = k → fixedB k (beN l) = l := by
  induction k with
  | zero => intro l h; rw [List.length_eq_zero_iff.1 h]; rfl
  | succ k ih =>
    intro l h
    have hne : l ≠ [] := by intro e; rw [e] at h; simp at h
    have e := List.dropLast_concat_getLast hne
    generalize l.dropLast = a at e
    generalize l.getLast hne = c at e
    subst e
    simp at h
    rw [beN_snoc, fixedB]
    have hc := c.toNat_lt
    rw [show (beN a * 256 + c.toNat) / 256 = beN a from by omega, ih a h]
    congr 1
    rw [← byteN_mod, show (beN a * 256 + c.toNat) % 256 = c.toNat from by omega, byteN_self]

theorem shGo_canon (l : List UInt8) : ∀ i k acc m j, i + k = 10 → 1 ≤ k → shGo l i acc = .inr (m, j) →
    ∃ v, m = acc + v * 128 ^ i ∧ i < j ∧ shortF k v = l.take (j - i) ∧ j - i ≤ l.length ∧ (0 < i → 0 < v) := by
  induction l with
  | nil => intro i k acc m j _ _ h; simp [shGo] at h
  | cons c l ih =>
    intro i k acc m j hi hk h
    have hc := c.toNat_lt
    rw [shGo] at h
    split at h
    · simp at h
    · rename_i hno
      obtain ⟨k, rfl⟩ : ∃ k', k = k' + 1 := ⟨k - 1, by omega⟩
      split at h
      · rename_i hlt
        simp only [Sum.inr.injEq, Prod.mk.injEq] at h
        obtain ⟨rfl, rfl⟩ := h
        refine ⟨c.toNat, by rw [Nat.mod_eq_of_lt hlt], by omega, ?_, by simp, by omega⟩
        rw [shortF, if_pos hlt, byteN_self]
        simp
      · rename_i hge
        have hi9 : i ≠ 9 := by intro e; exact hno (.inl ⟨e, by omega⟩)
        obtain ⟨v, h1, h2, h3, h4, h5⟩ := ih (i + 1) k _ m j (by omega) (by omega) h
        have hv := h5 (by omega)
        refine ⟨c.toNat % 128 + 128 * v, ?_, by omega, ?_, ?_, by omega⟩
        · rw [h1, Nat.pow_succ, Nat.add_mul]
          have : v * (128 ^ i * 128) = 128 * v * 128 ^ i := by
            rw [Nat.mul_comm (128 ^ i) 128, ← Nat.mul_assoc, Nat.mul_comm v 128]
          omega
        · rw [shortF, if_neg (by omega), show (c.toNat % 128 + 128 * v) / 128 = v from by omega, h3, show (c.toNat % 128 + 128 * v) % 128 + 128 = c.toNat from by omega, byteN_self]
          rw [show j - i = (j - (i + 1)) + 1 from by omega, List.take_succ_cons]
        · simp; omega
theorem shGo_shortB_back (l : List UInt8) (m j : Nat) (h : shGo l 0 0 = .inr (m, j)) : shortB m = l.take j ∧ j ≤ l.length := by
  obtain ⟨v, h1, h2, h3, h4, _⟩ := shGo_canon l 0 10 0 m j rfl (by decide) h
  simp at h1 h3 h4
  subst h1
  exact ⟨h3, h4⟩

/-- The reader stands still, or a number and a text were read. -/
theorem itG_bad (x : It) (r : Rd) (he : r.e ≠ 0) : itG x r = ((0, []), r) := by
  have h1 : ∀ k, rFix k r = (0, r) := fun k => by unfold rFix; rw [if_neg he]
  have h2 : ∀ m, rSh m r = (0, r) := fun k => by unfold rSh; rw [if_neg he]
  have h3 : ∀ m, rTx m r = ([], r) := fun k => by unfold rTx; rw [if_neg he]
  have h4 : ∀ m, rRaw m r = ([], r) := fun k => by unfold rRaw; rw [if_neg he]
  unfold itG
  simp only [h1, h2, h3, h4]
  rcases kinds x.kind with e | e | e | e | e | e | e | e <;> simp [e, revN]

def Stuck (r : Rd) (g : (Nat × List UInt8) × Rd) : Prop := g.1 = (0, []) ∧ g.2.s = r.s ∧ g.2.at_ = r.at_ ∧ g.2.e ≠ 0 ∧ g.2.to = r.at_
def Moved (r : Rd) (n : Nat) (t : List UInt8) (r' : Rd) (B : List UInt8) : Prop :=
  r'.s = r.s ∧ r'.e = 0 ∧ r'.at_ ≤ r.s.length ∧ r.s.take r'.at_ = r.s.take r.at_ ++ B ∧ n < 18446744073709551616 ∧ t.length ≤ r.s.length ∧ r'.to = r.to

theorem take_more (s : List UInt8) (a k : Nat) : s.take (a + k) = s.take a ++ (s.drop a).take k := List.take_add
theorem rFix_both (k : Nat) (r : Rd) (he : r.e = 0) (hat : r.at_ ≤ r.s.length) :
    ((rFix k r).1 = 0 ∧ (rFix k r).2.s = r.s ∧ (rFix k r).2.at_ = r.at_ ∧ (rFix k r).2.e ≠ 0 ∧ (rFix k r).2.to = r.at_) ∨
    ∃ t, t.length = k ∧ rFix k r = (beN t, { r with at_ := r.at_ + k }) ∧ r.s.take (r.at_ + k) = r.s.take r.at_ ++ t ∧ r.at_ + k ≤ r.s.length := by
  by_cases h : r.s.length - r.at_ < k
  · rw [rFix_cut k r he h]
    exact .inl ⟨rfl, rfl, rfl, by simp, rfl⟩
  · refine .inr ⟨(r.s.drop r.at_).take k, by simp; omega, ?_, take_more _ _ _, by omega⟩
    unfold rFix
    rw [if_pos he, if_neg h]
theorem rRaw_both (m : Int) (r : Rd) (he : r.e = 0) (hat : r.at_ ≤ r.s.length) :
    ((rRaw m r).1 = [] ∧ (rRaw m r).2.s = r.s ∧ (rRaw m r).2.at_ = r.at_ ∧ (rRaw m r).2.e ≠ 0 ∧ (rRaw m r).2.to = r.at_) ∨
    ∃ t, t.length = m.toNat ∧ rRaw m r = (t, { r with at_ := r.at_ + m.toNat }) ∧ r.s.take (r.at_ + m.toNat) = r.s.take r.at_ ++ t ∧ r.at_ + m.toNat ≤ r.s.length := by
  unfold rRaw
  rw [if_pos he]
  by_cases h : r.s.length - r.at_ < m.toNat
  · rw [if_pos h]
    exact .inl ⟨rfl, rfl, rfl, by simp, rfl⟩
  · rw [if_neg h]
    exact .inr ⟨(r.s.drop r.at_).take m.toNat, by simp; omega, rfl, take_more _ _ _, by omega⟩
theorem rSh_both (m : Nat) (r : Rd) (he : r.e = 0) (hat : r.at_ ≤ r.s.length) :
    ((rSh m r).1 = 0 ∧ (rSh m r).2.s = r.s ∧ (rSh m r).2.at_ = r.at_ ∧ (rSh m r).2.e ≠ 0 ∧ (rSh m r).2.to = r.at_) ∨
    ∃ n k, rSh m r = (n, { r with at_ := r.at_ + k }) ∧ r.s.take (r.at_ + k) = r.s.take r.at_ ++ shortB n ∧ r.at_ + k ≤ r.s.length ∧ n < 18446744073709551616 ∧ k = (shortB n).length := by
  obtain ⟨s, a, e, to⟩ := r
  simp only at he hat
  subst he
  have hb := rShort_bound s a to m hat
  unfold rSh rShort at *
  simp only [if_true] at *
  cases hg : shGo (s.drop a) 0 0 with
  | inl e =>
    refine .inl ⟨by simp, by simp, by simp, ?_, by simp⟩
    have := shGo_bound (s.drop a) 0 0 (by simp) (by simp)
    rw [hg] at this
    simp only at this ⊢
    omega
  | inr q =>
    obtain ⟨n, k⟩ := q
    simp only [hg] at hb ⊢
    by_cases hm : m < n
    · simp only [if_pos hm]
      exact .inl (by simp)
    · simp only [if_neg hm] at hb ⊢
      obtain ⟨e1, e2⟩ := shGo_shortB_back _ _ _ hg
      refine .inr ⟨n, k, rfl, ?_, hb.2.2.1, hb.1, ?_⟩
      · rw [take_more, e1]
      · rw [e1, List.length_take]; omega
theorem itG_good (x : It) (r : Rd) (he : r.e = 0) (hat : r.at_ ≤ r.s.length) :
    Stuck r (itG x r) ∨ ∃ n t r', itG x r = ((n, t), r') ∧ Moved r n t r' (itB { x with n := n, s := t }) := by
  obtain ⟨k, xn, xs, most⟩ := x
  unfold itG itB
  rcases kinds k with e | e | e | e | e | e | e | e <;> simp only [e, Nat.reduceEqDiff, Nat.succ_ne_zero, ite_false, ite_true]
  · rcases rFix_both 1 r he hat with ⟨h1, h2⟩ | ⟨t, hl, h1, h2, h3⟩
    · exact .inl ⟨by rw [h1], h2⟩
    · refine .inr ⟨_, _, _, rfl, ?_⟩
      rw [h1]
      refine ⟨rfl, he, h3, ?_, ?_, by simp, rfl⟩
      · show r.s.take (r.at_ + 1) = _
        rw [h2, byteN_mod]
        congr 1
        have := fixedB_beN 1 t hl
        rw [fixedB_one] at this
        exact this.symm
      · have := beN_lt t; rw [hl] at this; simp only; omega
  · rcases rFix_both 2 r he hat with ⟨h1, h2⟩ | ⟨t, hl, h1, h2, h3⟩
    · exact .inl ⟨by rw [h1], h2⟩
    · refine .inr ⟨_, _, _, rfl, ?_⟩
      rw [h1]
      have hb := beN_lt t
      rw [hl] at hb
      refine ⟨rfl, he, h3, ?_, by simp only; omega, by simp, rfl⟩
      show r.s.take (r.at_ + 2) = _
      rw [h2, Nat.mod_eq_of_lt (by simpa using hb), fixedB_beN 2 t hl]
  · rcases rFix_both 4 r he hat with ⟨h1, h2⟩ | ⟨t, hl, h1, h2, h3⟩
    · exact .inl ⟨by rw [h1], h2⟩
    · refine .inr ⟨_, _, _, rfl, ?_⟩
      rw [h1]
      have hb := beN_lt t
      rw [hl] at hb
      refine ⟨rfl, he, h3, ?_, by simp only; omega, by simp, rfl⟩
      show r.s.take (r.at_ + 4) = _
      rw [h2, Nat.mod_eq_of_lt (by simpa using hb), fixedB_beN 4 t hl]
  · rcases rFix_both 8 r he hat with ⟨h1, h2⟩ | ⟨t, hl, h1, h2, h3⟩
    · exact .inl ⟨by rw [h1], h2⟩
    · refine .inr ⟨_, _, _, rfl, ?_⟩
      rw [h1]
      have hb := beN_lt t
      rw [hl] at hb
      refine ⟨rfl, he, h3, ?_, by simp only; omega, by simp, rfl⟩
      show r.s.take (r.at_ + 8) = _
      rw [h2, fixedB_beN 8 t hl]
  · rcases rSh_both xn r he hat with ⟨h1, h2⟩ | ⟨n, k, h1, h2, h3, h4, h5⟩
    · exact .inl ⟨by rw [h1], h2⟩
    · refine .inr ⟨_, _, _, rfl, ?_⟩
      rw [h1]
      exact ⟨rfl, he, h3, h2, h4, by simp, rfl⟩
  · unfold rTx
    rw [if_pos he]
    rcases rSh_both most.toNat r he hat with ⟨h1, h2⟩ | ⟨n, k, h1, h2, h3, h4, h5⟩
    · rw [if_neg h2.2.2.1]
      exact .inl ⟨rfl, h2⟩
    · rw [h1]
      simp only
      rw [if_pos he]
      by_cases hs : r.s.length - (r.at_ + k) < n
      · rw [if_pos hs]
        exact .inl ⟨rfl, rfl, rfl, by simp, rfl⟩
      · rw [if_neg hs]
        rcases rRaw_both (n : Int) { r with at_ := r.at_ + k } he h3 with ⟨_, _, _, h9, _⟩ | ⟨t, hl, g1, g2, g3⟩
        · exfalso
          unfold rRaw at h9
          simp only [he, Int.toNat_natCast, if_neg hs] at h9
          simp at h9
        · rw [g1]
          simp only [Int.toNat_natCast] at hl g2 g3 ⊢
          refine .inr ⟨_, _, _, rfl, rfl, he, g3, ?_, by simp, by omega, rfl⟩
          rw [g2, h2, textB, hl, List.append_assoc]
  · rcases rFix_both 4 r he hat with ⟨h1, h2⟩ | ⟨t, hl, h1, h2, h3⟩
    · exact .inl ⟨by rw [h1]; rfl, h2⟩
    · refine .inr ⟨_, _, _, rfl, ?_⟩
      rw [h1]
      have hb := beN_lt t
      rw [hl] at hb
      have hv := revN_lt (beN t)
      refine ⟨rfl, he, h3, ?_, by simp only; omega, by simp, rfl⟩
      show r.s.take (r.at_ + 4) = _
      rw [h2, Nat.mod_eq_of_lt hv]
      congr 1
      have e2 : revN (revN (beN t)) = beN t := revN_inv _ (by simpa using hb)
      rw [← fixedB_rev, e2, fixedB_beN 4 t hl]
  · rcases rRaw_both most r he hat with ⟨h1, h2⟩ | ⟨t, hl, h1, h2, h3⟩
    · exact .inl ⟨by rw [h1], h2⟩
    · refine .inr ⟨_, _, _, rfl, ?_⟩
      rw [h1]
      exact ⟨rfl, he, h3, h2, by simp, by simp only; omega, rfl⟩

end Go.Proofs.Ytcggakegbdpdfaa
