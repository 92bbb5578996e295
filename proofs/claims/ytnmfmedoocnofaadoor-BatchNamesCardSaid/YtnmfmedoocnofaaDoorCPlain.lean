/-
  The contracts of wire's and the document's readers and writers, for this seat (out of the wire seat's texts): no statement of the seat is proved here.
-/
import Derived.Test.YtnmfmedoocnofaaDoorBRd
namespace Go.Proofs.YtnmfmedoocnofaaDoor
open Go.RowKit

theorem rFix_lt (k : Nat) (r : Rd) : (rFix k r).1 < 256 ^ k := by
  unfold rFix
  have hp : 0 < 256 ^ k := Nat.pow_pos (by decide)
  split
  · split
    · exact hp
    · refine Nat.lt_of_lt_of_le (beN_lt _) (Nat.pow_le_pow_right (by decide) (by simp; omega))
  · exact hp
theorem wrapU64 (n : Nat) (h : n < 18446744073709551616) : IntKind.u64.wrap (n : Int) = (n : Int) := IntWalk.u64_in _ (by omega)


theorem beN_fixedB (k : Nat) : ∀ n, beN (fixedB k n) = n % 256 ^ k := by
  induction k with
  | zero => intro n; simp [fixedB, beN]; omega
  | succ k ih =>
    intro n
    rw [fixedB, beN_snoc, ih, byteN_toNat, Nat.pow_succ, Nat.mul_comm (256 ^ k) 256, Nat.mod_mul]
    omega

theorem sh9 : (128 : Nat) ^ 9 = 9223372036854775808 := by decide
theorem shGo_shortF (rest : List UInt8) (k : Nat) : ∀ n i acc, i + k = 10 → n < 128 ^ k → (i = 0 ∨ 0 < n) → n * 128 ^ i < 18446744073709551616 →
    shGo (shortF k n ++ rest) i acc = .inr (acc + n * 128 ^ i, i + (shortF k n).length) := by
  induction k with
  | zero =>
    intro n i acc hi hn h0 _
    simp at hn; omega
  | succ k ih =>
    intro n i acc hi hn h0 hb
    by_cases h : n < 128
    · rw [shortF, if_pos h]
      have e : (byteN n).toNat = n := by rw [byteN_toNat]; omega
      show shGo (byteN n :: rest) i acc = _
      rw [shGo, e, if_neg, if_pos h]
      · simp; rw [Nat.mod_eq_of_lt h]
      · rintro (⟨h9, h1⟩ | ⟨h9, h1⟩)
        · subst h9; rw [sh9] at hb; omega
        · omega
    · rw [shortF, if_neg h]
      have e : (byteN (n % 128 + 128)).toNat = n % 128 + 128 := by rw [byteN_toNat]; omega
      show shGo (byteN (n % 128 + 128) :: (shortF k (n / 128) ++ rest)) i acc = _
      rw [shGo, e, if_neg, if_neg (by omega)]
      · have hp : 0 < 128 ^ i := Nat.pow_pos (by decide)
        have hd : n / 128 * 128 + n % 128 = n := by omega
        have hm : n * 128 ^ i = n / 128 * 128 ^ (i + 1) + n % 128 * 128 ^ i := by
          rw [Nat.pow_succ, Nat.mul_comm (128 ^ i) 128, ← Nat.mul_assoc, ← Nat.add_mul, hd]
        rw [ih (n / 128) (i + 1) _ (by omega) (by rw [Nat.pow_succ] at hn; omega) (.inr (by omega)) (by omega)]
        rw [show (n % 128 + 128) % 128 = n % 128 from by omega]
        simp only [List.length_cons]
        congr 2
        · omega
        · omega
      · rintro (⟨h9, h1⟩ | ⟨h9, h1⟩)
        · have : k = 0 := by omega
          subst this; simp at hn; omega
        · omega
theorem shGo_cut (k : Nat) : ∀ n i acc j, i + k = 10 → n < 128 ^ k → (i = 0 ∨ 0 < n) → j < (shortF k n).length →
    shGo ((shortF k n).take j) i acc = .inl 8 := by
  induction k with
  | zero => intro n i acc j _ _ _ hj; simp [shortF] at hj
  | succ k ih =>
    intro n i acc j hi hn h0 hj
    cases j with
    | zero => rw [List.take_zero]; rfl
    | succ j =>
      by_cases h : n < 128
      · rw [shortF, if_pos h] at hj; simp at hj
      · rw [shortF, if_neg h] at hj ⊢
        have e : (byteN (n % 128 + 128)).toNat = n % 128 + 128 := by rw [byteN_toNat]; omega
        rw [List.take_succ_cons, shGo, e, if_neg, if_neg (by omega)]
        · exact ih (n / 128) (i + 1) _ j (by omega) (by rw [Nat.pow_succ] at hn; omega) (.inr (by omega)) (by simpa using hj)
        · rintro (⟨h9, h1⟩ | ⟨h9, h1⟩)
          · have : k = 0 := by omega
            subst this; simp at hn; omega
          · omega

theorem shGo_shortB (n : Nat) (hn : n ≤ 18446744073709551615) (q : List UInt8) : shGo (shortB n ++ q) 0 0 = .inr (n, (shortB n).length) := by
  have := shGo_shortF q 10 n 0 0 rfl (Nat.lt_of_le_of_lt hn (by decide)) (.inl rfl) (by simp; omega)
  unfold shortB
  rw [this]; simp
theorem shGo_shortB_cut (n : Nat) (hn : n ≤ 18446744073709551615) (j : Nat) (hj : j < (shortB n).length) : shGo ((shortB n).take j) 0 0 = .inl 8 :=
  shGo_cut 10 n 0 0 j rfl (Nat.lt_of_le_of_lt hn (by decide)) (.inl rfl) hj

theorem drop_length {s t : List UInt8} {a : Nat} (h : s.drop a = t) : s.length - a = t.length := by rw [← h]; simp
theorem rFix_at (k : Nat) (r : Rd) (t q : List UInt8) (he : r.e = 0) (h : r.s.drop r.at_ = t ++ q) (ht : t.length = k) : rFix k r = (beN t, { r with at_ := r.at_ + k }) := by
  have hl := drop_length h
  simp only [List.length_append] at hl
  unfold rFix
  rw [if_pos he, if_neg (by omega), h, List.take_append_of_le_length (by omega), List.take_of_length_le (by omega)]
theorem rFix_cut (k : Nat) (r : Rd) (he : r.e = 0) (h : r.s.length - r.at_ < k) : rFix k r = (0, { r with e := 8, to := r.at_ }) := by
  unfold rFix
  rw [if_pos he, if_pos h]
theorem rRaw_at (r : Rd) (t q : List UInt8) (he : r.e = 0) (h : r.s.drop r.at_ = t ++ q) : rRaw (t.length : Int) r = (t, { r with at_ := r.at_ + t.length }) := by
  have hl := drop_length h
  simp only [List.length_append] at hl
  unfold rRaw
  rw [if_pos he, Int.toNat_natCast, if_neg (by omega), h, List.take_append_of_le_length (by omega), List.take_of_length_le (by omega)]
theorem rRaw_cut (n : Nat) (r : Rd) (he : r.e = 0) (h : r.s.length - r.at_ < n) : rRaw (n : Int) r = ([], { r with e := 8, to := r.at_ }) := by
  unfold rRaw
  rw [if_pos he, Int.toNat_natCast, if_pos h]
theorem rSh_at (most n : Nat) (r : Rd) (q : List UInt8) (he : r.e = 0) (hn : n ≤ 18446744073709551615) (hm : n ≤ most) (h : r.s.drop r.at_ = shortB n ++ q) :
    rSh most r = (n, { r with at_ := r.at_ + (shortB n).length }) := by
  obtain ⟨s, a, e, to⟩ := r
  simp only at he h
  subst he
  unfold rSh rShort
  simp only [h, shGo_shortB n hn q, if_neg (Nat.not_lt.2 hm)]
  rfl
theorem rSh_cut (most n : Nat) (r : Rd) (j : Nat) (he : r.e = 0) (hn : n ≤ 18446744073709551615) (hj : j < (shortB n).length) (h : r.s.drop r.at_ = (shortB n).take j) :
    rSh most r = (0, { r with e := 8, to := r.at_ }) := by
  obtain ⟨s, a, e, to⟩ := r
  simp only at he h
  subst he
  unfold rSh rShort
  simp only [h, shGo_shortB_cut n hn j hj]
  rfl
theorem rTx_at (r : Rd) (t q : List UInt8) (he : r.e = 0) (ht : t.length ≤ 18446744073709551615) (h : r.s.drop r.at_ = textB t ++ q) :
    rTx (t.length : Int) r = (t, { r with at_ := r.at_ + (textB t).length }) := by
  have h1 : r.s.drop r.at_ = shortB t.length ++ (t ++ q) := by rw [h]; simp [textB]
  have e1 := rSh_at t.length t.length r _ he ht (Nat.le_refl _) h1
  have hl := drop_length h1
  simp only [List.length_append] at hl
  have h2 : r.s.drop (r.at_ + (shortB t.length).length) = t ++ q := by
    rw [← List.drop_drop, h1, List.drop_left]
  have e2 := rRaw_at { r with at_ := r.at_ + (shortB t.length).length } t q he h2
  unfold rTx
  rw [if_pos he, Int.toNat_natCast, e1]
  simp only
  rw [if_pos he, if_neg (by omega), e2]
  simp [textB, Nat.add_assoc]
theorem rTx_cut (r : Rd) (t : List UInt8) (j : Nat) (he : r.e = 0) (ht : t.length ≤ 18446744073709551615) (hj : j < (textB t).length) (h : r.s.drop r.at_ = (textB t).take j) :
    rTx (t.length : Int) r = ([], { r with e := 8, to := r.at_ }) := by
  unfold rTx
  rw [if_pos he, Int.toNat_natCast]
  by_cases hs : j < (shortB t.length).length
  · have h1 : r.s.drop r.at_ = (shortB t.length).take j := by
      rw [h, textB, List.take_append_of_le_length (by omega)]
    rw [rSh_cut _ _ r j he ht hs h1]
    rw [if_neg (by show ¬ (8 : Nat) = 0; decide)]
  · have h1 : r.s.drop r.at_ = shortB t.length ++ t.take (j - (shortB t.length).length) := by
      rw [h, textB, List.take_append, List.take_of_length_le (by omega)]
    have hl := drop_length h1
    unfold textB at hj
    simp only [List.length_append, List.length_take] at hl hj
    rw [rSh_at _ _ r _ he ht (Nat.le_refl _) h1]
    simp only
    rw [if_pos he, if_pos (by omega)]

end Go.Proofs.YtnmfmedoocnofaaDoor
