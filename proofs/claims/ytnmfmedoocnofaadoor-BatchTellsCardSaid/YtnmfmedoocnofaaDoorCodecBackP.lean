/-
  The codec in plain words: what is read has just these bytes; cut short is ErrShort. No statement of the seat is proved here.
-/
import Derived.Test.YtnmfmedoocnofaaDoorCodecPlain
namespace Go.Proofs.YtnmfmedoocnofaaDoor
open Go.RowKit

theorem rSh_back {m : Nat} {r : Rd} (he : r.e = 0) (hat : r.at_ ≤ r.s.length) (h : (rSh m r).2.e = 0) :
    r.s.drop r.at_ = shortB (rSh m r).1 ++ r.s.drop (rSh m r).2.at_ ∧ (rSh m r).2 = { r with at_ := r.at_ + (shortB (rSh m r).1).length } ∧ (rSh m r).1 ≤ m ∧ (rSh m r).2.at_ ≤ r.s.length := by
  obtain ⟨s, a, e, tt⟩ := r
  simp only at he hat
  subst he
  have hb := shGo_bound (s.drop a) 0 0 (by decide) (by decide)
  unfold rSh rShort at h ⊢
  simp only [if_true] at h ⊢
  rcases hs : shGo (s.drop a) 0 0 with k | ⟨n, k⟩
  · rw [hs] at h hb
    simp only at h hb
    omega
  · rw [hs] at h
    simp only at h
    by_cases hm : m < n
    · rw [if_pos hm] at h
      simp at h
    · simp only [if_neg hm]
      obtain ⟨h1, h2⟩ := shGo_shortB_back _ _ _ hs
      simp only [List.length_drop] at h2
      have hl : (shortB n).length = k := by rw [h1, List.length_take, List.length_drop]; omega
      refine ⟨?_, by rw [hl], by omega, by omega⟩
      rw [h1, ← List.drop_drop, List.take_append_drop]
theorem numT_back {v : Nat} {c : UInt8} {r : Rd} (he : r.e = 0) (hat : r.at_ ≤ r.s.length) (h : (numT v c (0, r)).2.1 = 0) :
    fitsS v c.toNat (numT v c (0, r)).1 = true ∧ r.s.drop r.at_ = shortB (numT v c (0, r)).1.toNat ++ r.s.drop (numT v c (0, r)).2.2.at_ ∧
    (numT v c (0, r)).2.2 = { r with at_ := r.at_ + (shortB (numT v c (0, r)).1.toNat).length } ∧ (numT v c (0, r)).2.2.at_ ≤ r.s.length := by
  have hn : numT v c (0, r) = (((rSh (boundS v c.toNat).2.1.toNat r).1 : Int), (lookE (rSh (boundS v c.toNat).2.1.toNat r).2 (fitsS v c.toNat ((rSh (boundS v c.toNat).2.1.toNat r).1 : Int)), (rSh (boundS v c.toNat).2.1.toNat r).2)) := rfl
  rw [hn] at h ⊢
  simp only at h ⊢
  obtain ⟨h1, h2⟩ := lookE_le h
  obtain ⟨g1, g2, _, g4⟩ := rSh_back he hat h1
  rw [Int.toNat_natCast]
  exact ⟨h2, g1, g2, g4⟩
theorem numsT_back (v : Nat) : ∀ (l : List UInt8) (r : Rd), r.e = 0 → r.at_ ≤ r.s.length → (numsT v l (0, r)).2.1 = 0 →
    l.length = (numsT v l (0, r)).1.length ∧ (∀ (j : Nat) (c : UInt8) (x : Int), l[j]? = some c → (numsT v l (0, r)).1[j]? = some x → fitsS v c.toNat x = true) ∧
    r.s.drop r.at_ = numsB (numsT v l (0, r)).1 ++ r.s.drop (numsT v l (0, r)).2.2.at_ ∧ (numsT v l (0, r)).2.2 = { r with at_ := r.at_ + (numsB (numsT v l (0, r)).1).length } ∧ (numsT v l (0, r)).2.2.at_ ≤ r.s.length
  | [], r, he, hat, _ => by simp [numsT, numsB]; exact hat
  | c :: l, r, he, hat, h => by
    have hu : numsT v (c :: l) (0, r) = ((numT v c (0, r)).1 :: (numsT v l (numT v c (0, r)).2).1, (numsT v l (numT v c (0, r)).2).2) := rfl
    rw [hu] at h ⊢
    simp only at h ⊢
    have h0 : (numT v c (0, r)).2.1 = 0 := by
      rcases Nat.eq_zero_or_pos (numT v c (0, r)).2.1 with h0 | h0
      · exact h0
      · rw [numsT_err v l _ (by omega)] at h; omega
    obtain ⟨f1, f2, f3, f4⟩ := numT_back he hat h0
    generalize hN : numT v c (0, r) = N at *
    obtain ⟨x, st, r1⟩ := N
    simp only at f1 f2 f3 f4 h0 h
    subst h0
    have e1 : r1.e = 0 := by rw [f3]; exact he
    have s1 : r1.s = r.s := by rw [f3]
    obtain ⟨k1, k2, k3, k4, k5⟩ := numsT_back v l r1 e1 (by rw [s1]; exact f4) h
    rw [s1] at k3 k5
    refine ⟨by simpa using k1, fun j c' x' a b => ?_, ?_, ?_, k5⟩
    · rcases j with _ | j
      · simp only [List.getElem?_cons_zero, Option.some.injEq] at a b
        subst a b
        exact f1
      · exact k2 j c' x' (by simpa using a) (by simpa using b)
    · rw [f2, k3, numsB_cons, List.append_assoc]
    · simp only
      rw [k4, f3, numsB_cons]
      simp [Nat.add_assoc]
theorem rTx_back {m : Nat} {r : Rd} (he : r.e = 0) (hat : r.at_ ≤ r.s.length) (h : (rTx (m : Int) r).2.e = 0) :
    r.s.drop r.at_ = textB (rTx (m : Int) r).1 ++ r.s.drop (rTx (m : Int) r).2.at_ ∧ (rTx (m : Int) r).2 = { r with at_ := r.at_ + (textB (rTx (m : Int) r).1).length } ∧ (rTx (m : Int) r).2.at_ ≤ r.s.length := by
  have hu : rTx (m : Int) r = if (rSh m r).2.e = 0 then (if r.s.length - (rSh m r).2.at_ < (rSh m r).1 then ([], (⟨r.s, r.at_, 8, r.at_⟩ : Rd)) else rRaw (rSh m r).1 (rSh m r).2) else ([], (rSh m r).2) := by
    unfold rTx
    rw [if_pos he, Int.toNat_natCast]
  rw [hu] at h ⊢
  by_cases h1 : (rSh m r).2.e = 0
  · rw [if_pos h1] at h ⊢
    obtain ⟨g1, g2, g3, g4⟩ := rSh_back he hat h1
    by_cases h2 : r.s.length - (rSh m r).2.at_ < (rSh m r).1
    · rw [if_pos h2] at h; simp at h
    · rw [if_neg h2] at h ⊢
      generalize rSh m r = N at *
      obtain ⟨n, r2⟩ := N
      simp only at g1 g2 g4 h1 h2 h ⊢
      have s2 : r2.s = r.s := by rw [g2]
      have hr : rRaw (n : Int) r2 = ((r.s.drop r2.at_).take n, { r2 with at_ := r2.at_ + n }) := by
        unfold rRaw
        rw [if_pos h1, Int.toNat_natCast, s2, if_neg h2]
      rw [hr]
      simp only
      have hln : ((r.s.drop r2.at_).take n).length = n := by rw [List.length_take, List.length_drop]; omega
      refine ⟨?_, ?_, by omega⟩
      · unfold textB
        rw [hln, g1, List.append_assoc, ← List.drop_drop, List.take_append_drop]
      · have hlt : (shortB n ++ (r.s.drop r2.at_).take n).length = (shortB n).length + n := by rw [List.length_append, hln]
        unfold textB
        rw [hln, hlt, g2]
        simp [Nat.add_assoc]
  · rw [if_neg h1] at h
    exact absurd h h1
/-- What is read may be, and has just these bytes. -/
theorem getT_back {v : Nat} {r : Rd} (he : r.e = 0) (hat : r.at_ ≤ r.s.length) (h : (getT v r).1.2 = 0) :
    mayS (getT v r).1.1 = true ∧ (getT v r).1.1.v = v ∧ r.s.drop r.at_ = evB (getT v r).1.1 ++ r.s.drop (getT v r).2.at_ ∧ (getT v r).2 = { r with at_ := r.at_ + (evB (getT v r).1.1).length } ∧ (getT v r).2.at_ ≤ r.s.length := by
  have hv : ¬ (v < 1 ∨ 3 < v) := fun hc => by unfold getT at h; rw [if_pos hc] at h; simp at h
  have hg : getT v r = bodyT v (fieldsS v (rFix 1 r).1) (rFix 1 r) := by unfold getT; rw [if_neg hv]
  rw [hg] at h ⊢
  unfold bodyT at h ⊢
  generalize hf : fieldsS v (rFix 1 r).1 = f at h ⊢
  -- the kind was there
  have hlen : 1 ≤ r.s.length - r.at_ := by
    rcases Nat.lt_or_ge (r.s.length - r.at_) 1 with hc | hc
    · exfalso
      have e1 := rFix_cut 1 r he hc
      rw [e1] at h
      have hl : lookE (⟨r.s, r.at_, 8, r.at_⟩ : Rd) f.2.2 ≠ 0 := by unfold lookE; simp
      rw [body_start (by simpa using hl)] at h
      simp only at h
      exact hl h
    · exact hc
  obtain ⟨c, hc⟩ : ∃ c, r.s.drop r.at_ = [c] ++ r.s.drop (r.at_ + 1) := ⟨r.s[r.at_]'(by omega), by rw [List.drop_eq_getElem_cons (by omega)]; rfl⟩
  have e1 := rFix_at 1 r [c] _ he hc rfl
  have hb : beN [c] = c.toNat := by simp [beN]
  rw [hb] at e1
  rw [e1] at h hf ⊢
  simp only at h hf ⊢
  have hbc : byteN c.toNat = c := byteN_self c
  -- the reader behind the kind
  generalize hr1 : ({ r with at_ := r.at_ + 1 } : Rd) = r1 at h ⊢
  have er1 : r1.e = 0 := by rw [← hr1]; exact he
  have sr1 : r1.s = r.s := by rw [← hr1]
  have ar1 : r1.at_ = r.at_ + 1 := by rw [← hr1]
  have hlk : lookE r1 f.2.2 = 0 := by
    rcases Nat.eq_zero_or_pos (lookE r1 f.2.2) with h0 | h0
    · exact h0
    · rw [body_start (by show lookE r1 f.2.2 ≠ 0; omega)] at h
      simp only at h
      omega
  obtain ⟨_, his⟩ := lookE_le hlk
  rw [hlk] at h ⊢
  have hn0 : (numsT v f.1 (0, r1)).2.1 = 0 := by
    rcases Nat.eq_zero_or_pos (numsT v f.1 (0, r1)).2.1 with h0 | h0
    · exact h0
    · have h2 := tsT_err (t := f.2.1) (st := (numsT v f.1 (0, r1)).2) (by omega)
      rw [endT_err (by rw [h2]; omega), h2] at h
      simp only at h
      omega
  obtain ⟨k1, k2, k3, k4, k5⟩ := numsT_back v f.1 r1 er1 (by rw [sr1, ar1]; omega) hn0
  generalize hNs : numsT v f.1 (0, r1) = Ns at *
  obtain ⟨ns, z, r2⟩ := Ns
  simp only at hn0 k1 k2 k3 k4 k5
  subst hn0
  have er2 : r2.e = 0 := by rw [k4]; exact er1
  have sr2 : r2.s = r.s := by rw [k4]; exact sr1
  rw [sr1] at k3 k5
  rw [ar1] at k3
  rcases ht : f.2.1 with _ | _
  · rw [ht] at h
    have hts : tsT false (0, r2) = ([], (0, r2)) := rfl
    rw [hts] at h ⊢
    have hend : endT v c.toNat ns ([], (0, r2)) = ((⟨v, c.toNat, ns, []⟩, 0), r2) := by unfold endT; simp
    rw [hend]
    simp only
    refine ⟨?_, by simp, ?_, ?_, k5⟩
    · unfold mayS
      simp only
      rw [hf, his, ht, allS_iff.2 ⟨k1, k2⟩]
      rfl
    · rw [hc, k3]
      simp [evB, textsB, hbc]
    · rw [k4, ← hr1]
      simp [evB, textsB, Nat.add_assoc]
      omega
  · rw [ht] at h
    have hts : tsT true (0, r2) = ([(nameT (0, r2)).1], (nameT (0, r2)).2) := rfl
    rw [hts] at h ⊢
    have hx0 : (nameT (0, r2)).2.1 = 0 := by
      rcases Nat.eq_zero_or_pos (nameT (0, r2)).2.1 with h0 | h0
      · exact h0
      · rw [endT_err (by show (nameT (0, r2)).2.1 ≠ 0; omega)] at h
        simp only at h
        omega
    have hnm : nameT (0, r2) = ((rTx 24 r2).1, (lookE (rTx 24 r2).2 (mayNameS (rTx 24 r2).1), (rTx 24 r2).2)) := rfl
    rw [hnm] at hx0 ⊢
    simp only at hx0
    obtain ⟨g1, g2⟩ := lookE_le hx0
    obtain ⟨j1, j2, j3⟩ := rTx_back (m := 24) er2 (by rw [sr2]; exact k5) g1
    rw [show ((24 : Nat) : Int) = (24 : Int) from rfl] at j1 j2 j3
    generalize rTx 24 r2 = T at *
    obtain ⟨x, r3⟩ := T
    simp only at hx0 g1 g2 j1 j2 j3 ⊢
    rw [hx0]
    have hend : endT v c.toNat ns ([x], (0, r3)) = ((⟨v, c.toNat, ns, [x]⟩, 0), r3) := by unfold endT; simp
    rw [hend]
    simp only
    rw [sr2] at j1 j3
    refine ⟨?_, by simp, ?_, ?_, j3⟩
    · unfold mayS
      simp only
      rw [hf, his, ht, allS_iff.2 ⟨k1, k2⟩]
      simpa [oneName] using g2
    · rw [hc, k3, j1]
      simp [evB, textsB, hbc]
    · rw [j2, k4, ← hr1]
      simp [evB, textsB, Nat.add_assoc]
      omega
end Go.Proofs.YtnmfmedoocnofaaDoor
