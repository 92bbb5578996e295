/-
  Batches in plain words: which events may be one, its payload, what a payload says; what is written is read, what is read has just these bytes, cut short it is ErrShort. No program in sight. No statement of the seat is proved here.
-/
import Derived.Test.YtnmfmedoocnofaaDoorCodecBackP
import Derived.Test.YtnmfmedoocnofaaDoorCutPlain
import Derived.Test.YtnmfmedoocnofaaDoorBRDec
namespace Go.Proofs.YtnmfmedoocnofaaDoor
open Go.RowKit
set_option maxRecDepth 100000

/-- May these be a batch? -/
def mayL (l : List Ev) : Bool := decide (0 < l.length) && (decide (l.length ≤ 40) && l.all fun e => decide (e.v = (l.headD zeroE).v) && mayS e)
def evsB (l : List Ev) : List UInt8 := l.flatMap evB
/-- A batch's payload. -/
def payB (l : List Ev) : List UInt8 := byteN (l.headD zeroE).v :: (shortB l.length ++ evsB l)
def encL (l : List Ev) : List UInt8 × Nat := if 40 < l.length then ([], 40) else if mayL l then (payB l, 0) else ([], 4)
/-- n events of a version. -/
def evsT (v : Nat) : Nat → Rd → (List Ev × Nat) × Rd
  | 0, r => (([], 0), r)
  | n + 1, r =>
    if (getT v r).1.2 = 0 then
      if (evsT v n (getT v r).2).1.2 = 0 then (((getT v r).1.1 :: (evsT v n (getT v r).2).1.1, 0), (evsT v n (getT v r).2).2) else (([], (evsT v n (getT v r).2).1.2), (evsT v n (getT v r).2).2)
    else (([], (getT v r).1.2), (getT v r).2)
def decE (len : Nat) (x : (List Ev × Nat) × Rd) : List Ev × Nat := if x.1.2 = 0 then (if x.2.at_ < len then ([], 4) else (x.1.1, 0)) else ([], x.1.2)
def decN (len v : Nat) (b : Nat × Rd) : List Ev × Nat := if b.2.e = 0 then (if b.1 = 0 then ([], 4) else decE len (evsT v b.1 b.2)) else ([], b.2.e)
def decV (len : Nat) (a : Nat × Rd) : List Ev × Nat := if a.2.e = 0 then (if a.1 < 1 ∨ 3 < a.1 then ([], 43) else decN len a.1 (rSh 40 a.2)) else ([], a.2.e)
/-- What a payload says. -/
def decL (s : List UInt8) : List Ev × Nat := decV s.length (rFix 1 ⟨s, 0, 0, 0⟩)

theorem evsT_at (v : Nat) : ∀ (l : List Ev) (r : Rd) (q : List UInt8), (∀ e, e ∈ l → e.v = v ∧ mayS e = true) → r.e = 0 → r.s.drop r.at_ = evsB l ++ q → evsT v l.length r = ((l, 0), { r with at_ := r.at_ + (evsB l).length })
  | [], r, q, _, _, _ => by cases r; rfl
  | e :: l, r, q, hl, he, h => by
    have h1 : r.s.drop r.at_ = evB e ++ (evsB l ++ q) := by rw [h]; simp [evsB]
    have hm := hl e List.mem_cons_self
    have hg := getT_at hm.2 r _ he h1
    rw [hm.1] at hg
    have h2 : ({ r with at_ := r.at_ + (evB e).length } : Rd).s.drop ({ r with at_ := r.at_ + (evB e).length } : Rd).at_ = evsB l ++ q := drop_at h1
    have ih := evsT_at v l _ q (fun x hx => hl x (List.mem_cons_of_mem _ hx)) (by exact he) h2
    rw [List.length_cons, evsT, hg]
    simp only [if_true, ih]
    simp [evsB, Nat.add_assoc]
theorem evsT_cut (v : Nat) : ∀ (l : List Ev) (r : Rd) (j : Nat), (∀ e, e ∈ l → e.v = v ∧ mayS e = true) → r.e = 0 → j < (evsB l).length → r.s.drop r.at_ = (evsB l).take j → (evsT v l.length r).1 = ([], 8)
  | [], r, j, _, _, hj, _ => by simp [evsB] at hj
  | e :: l, r, j, hl, he, hj, h => by
    have hb : evsB (e :: l) = evB e ++ evsB l := by simp [evsB]
    rw [hb] at hj h
    have hm := hl e List.mem_cons_self
    rcases Nat.lt_or_ge j (evB e).length with hlt | hge
    · rw [List.take_append_of_le_length (Nat.le_of_lt hlt)] at h
      have hg := getT_cut hm.2 r j he hlt h
      rw [hm.1] at hg
      rw [List.length_cons, evsT, hg]
      rfl
    · rw [List.take_append] at h
      rw [List.take_of_length_le hge] at h
      have hg := getT_at hm.2 r _ he h
      rw [hm.1] at hg
      have h2 : ({ r with at_ := r.at_ + (evB e).length } : Rd).s.drop ({ r with at_ := r.at_ + (evB e).length } : Rd).at_ = (evsB l).take (j - (evB e).length) := drop_at h
      have ih := evsT_cut v l _ (j - (evB e).length) (fun x hx => hl x (List.mem_cons_of_mem _ hx)) (by exact he) (by simp only [List.length_append] at hj; omega) h2
      rw [List.length_cons, evsT, hg]
      simp only [if_true, ih]
      rfl
theorem evsT_back (v : Nat) : ∀ (n : Nat) (r : Rd), r.e = 0 → r.at_ ≤ r.s.length → (evsT v n r).1.2 = 0 →
    (evsT v n r).1.1.length = n ∧ (∀ e, e ∈ (evsT v n r).1.1 → e.v = v ∧ mayS e = true) ∧ r.s.drop r.at_ = evsB (evsT v n r).1.1 ++ r.s.drop (evsT v n r).2.at_ ∧ (evsT v n r).2 = { r with at_ := r.at_ + (evsB (evsT v n r).1.1).length } ∧ (evsT v n r).2.at_ ≤ r.s.length
  | 0, r, _, hat, _ => by
    refine ⟨rfl, fun e he => (by simp [evsT] at he), by simp [evsT, evsB], by cases r; simp [evsT, evsB], hat⟩
  | n + 1, r, he, hat, h => by
    by_cases hg : (getT v r).1.2 = 0
    · obtain ⟨g1, g2, g3, g4, g5⟩ := getT_back he hat hg
      by_cases hm : (evsT v n (getT v r).2).1.2 = 0
      · have hu : evsT v (n + 1) r = (((getT v r).1.1 :: (evsT v n (getT v r).2).1.1, 0), (evsT v n (getT v r).2).2) := by rw [evsT, if_pos hg, if_pos hm]
        have hs : (getT v r).2.s = r.s := by rw [g4]
        have hee : (getT v r).2.e = 0 := by rw [g4]; exact he
        obtain ⟨m1, m2, m3, m4, m5⟩ := evsT_back v n (getT v r).2 hee (by rw [hs]; exact g5) hm
        rw [hu]
        refine ⟨by simp [m1], fun e hx => ?_, ?_, ?_, by simpa [hs] using m5⟩
        · rcases List.mem_cons.1 hx with rfl | hx
          · exact ⟨g2, g1⟩
          · exact m2 e hx
        · rw [g3]
          rw [hs] at m3
          have : evsB ((getT v r).1.1 :: (evsT v n (getT v r).2).1.1) = evB (getT v r).1.1 ++ evsB (evsT v n (getT v r).2).1.1 := by simp [evsB]
          rw [this, List.append_assoc, ← m3]
        · rw [m4, g4]
          simp [evsB, Nat.add_assoc]
      · exfalso
        rw [evsT, if_pos hg, if_neg hm] at h
        exact hm h
    · exfalso
      rw [evsT, if_neg hg] at h
      exact hg h
theorem evsT_err (v : Nat) : ∀ (n : Nat) (r : Rd), (evsT v n r).1.2 ≠ 0 → (evsT v n r).1.1 = []
  | 0, r, h => rfl
  | n + 1, r, h => by
    rw [evsT] at h ⊢
    split
    · split
      · rename_i h1 h2
        rw [if_pos h1, if_pos h2] at h
        exact absurd rfl h
      · rfl
    · rfl

theorem mayL_parts {l : List Ev} (h : mayL l = true) : 0 < l.length ∧ l.length ≤ 40 ∧ ∀ e, e ∈ l → e.v = (l.headD zeroE).v ∧ mayS e = true := by
  unfold mayL at h
  rw [Bool.and_eq_true, Bool.and_eq_true, decide_eq_true_eq, decide_eq_true_eq, List.all_eq_true] at h
  refine ⟨h.1, h.2.1, fun e he => ?_⟩
  have := h.2.2 e he
  rw [Bool.and_eq_true, decide_eq_true_eq] at this
  exact this
theorem mayL_of {l : List Ev} {v : Nat} (h0 : 0 < l.length) (h40 : l.length ≤ 40) (h : ∀ e, e ∈ l → e.v = v ∧ mayS e = true) : mayL l = true ∧ (l.headD zeroE).v = v := by
  rcases l with _ | ⟨x, l⟩
  · simp at h0
  · have hx := (h x List.mem_cons_self).1
    refine ⟨?_, hx⟩
    unfold mayL
    rw [Bool.and_eq_true, Bool.and_eq_true, decide_eq_true_eq, decide_eq_true_eq, List.all_eq_true]
    refine ⟨h0, h40, fun e he => ?_⟩
    rw [Bool.and_eq_true, decide_eq_true_eq]
    exact ⟨(h e he).1.trans hx.symm, (h e he).2⟩
theorem mayL_head {l : List Ev} (h : mayL l = true) : ∃ x, l.head? = some x ∧ (l.headD zeroE) = x ∧ mayS x = true ∧ 1 ≤ x.v ∧ x.v ≤ 3 := by
  obtain ⟨h0, _, h2⟩ := mayL_parts h
  rcases l with _ | ⟨x, l⟩
  · simp at h0
  · have hm := (h2 x List.mem_cons_self).2
    have hi := may_is hm
    exact ⟨x, rfl, rfl, hm, hi.2.1, hi.2.2⟩
theorem byteN_v {n : Nat} (h : n ≤ 3) : (byteN n).toNat = n := by rw [byteN_toNat]; omega

theorem dec_pay {l : List Ev} (h : mayL l = true) (q : List UInt8) : decL (payB l ++ q) = if q = [] then (l, 0) else ([], 4) := by
  obtain ⟨h0, h40, hl⟩ := mayL_parts h
  obtain ⟨x, _, hx, _, hv1, hv3⟩ := mayL_head h
  have hb := byteN_v hv3
  unfold decL payB
  rw [hx] at hl ⊢
  rw [List.cons_append, rFix1_cons, hb]
  unfold decV
  rw [if_pos rfl, if_neg (by omega)]
  have hd : (⟨byteN x.v :: (shortB l.length ++ evsB l ++ q), 1, 0, 0⟩ : Rd).s.drop 1 = shortB l.length ++ (evsB l ++ q) := by simp
  have hsh := rSh_at 40 l.length ⟨byteN x.v :: (shortB l.length ++ evsB l ++ q), 1, 0, 0⟩ (evsB l ++ q) rfl (by omega) h40 hd
  rw [hsh]
  unfold decN
  rw [if_pos rfl, if_neg (by omega)]
  have hd2 : (⟨byteN x.v :: (shortB l.length ++ evsB l ++ q), 1 + (shortB l.length).length, 0, 0⟩ : Rd).s.drop (1 + (shortB l.length).length) = evsB l ++ q := drop_at hd
  have he := evsT_at x.v l ⟨byteN x.v :: (shortB l.length ++ evsB l ++ q), 1 + (shortB l.length).length, 0, 0⟩ q hl rfl hd2
  rw [he]
  unfold decE
  rw [if_pos rfl]
  by_cases hq : q = []
  · subst hq
    rw [if_pos rfl, if_neg (by simp; omega)]
  · rw [if_neg hq, if_pos]
    have := List.length_pos_iff.2 hq
    simp
    omega
theorem dec_pay_cut {l : List Ev} (h : mayL l = true) (j : Nat) (hj : j < (payB l).length) : decL ((payB l).take j) = ([], 8) := by
  obtain ⟨h0, h40, hl⟩ := mayL_parts h
  obtain ⟨x, _, hx, _, hv1, hv3⟩ := mayL_head h
  have hb := byteN_v hv3
  rcases j with _ | j
  · rw [List.take_zero]; rfl
  · unfold payB at hj ⊢
    unfold decL
    rw [hx] at hl hj ⊢
    rw [List.take_succ_cons, rFix1_cons, hb]
    unfold decV
    rw [if_pos rfl, if_neg (by omega)]
    simp only [List.length_cons, List.length_append] at hj
    rcases Nat.lt_or_ge j (shortB l.length).length with hlt | hge
    · have hd : (⟨byteN x.v :: (shortB l.length ++ evsB l).take j, 1, 0, 0⟩ : Rd).s.drop 1 = (shortB l.length).take j := by
        rw [List.take_append_of_le_length (Nat.le_of_lt hlt)]; simp
      rw [rSh_cut 40 l.length ⟨byteN x.v :: (shortB l.length ++ evsB l).take j, 1, 0, 0⟩ j rfl (by omega) hlt hd]
      rfl
    · have hd : (⟨byteN x.v :: (shortB l.length ++ evsB l).take j, 1, 0, 0⟩ : Rd).s.drop 1 = shortB l.length ++ (evsB l).take (j - (shortB l.length).length) := by
        rw [List.take_append, List.take_of_length_le hge]; simp
      rw [rSh_at 40 l.length ⟨byteN x.v :: (shortB l.length ++ evsB l).take j, 1, 0, 0⟩ _ rfl (by omega) h40 hd]
      unfold decN
      rw [if_pos rfl, if_neg (by omega)]
      have hd2 : (⟨byteN x.v :: (shortB l.length ++ evsB l).take j, 1 + (shortB l.length).length, 0, 0⟩ : Rd).s.drop (1 + (shortB l.length).length) = (evsB l).take (j - (shortB l.length).length) := drop_at hd
      have he := evsT_cut x.v l ⟨byteN x.v :: (shortB l.length ++ evsB l).take j, 1 + (shortB l.length).length, 0, 0⟩ _ hl rfl (by omega) hd2
      unfold decE
      rw [he]
      rfl
theorem dec_err {s : List UInt8} (h : (decL s).2 ≠ 0) : (decL s).1 = [] := by
  unfold decL decV decN decE at h ⊢
  repeat' split
  all_goals first | rfl | skip
  rename_i h1 h2 h3 h4 h5 h6
  rw [if_pos h1, if_neg h2, if_pos h3, if_neg h4, if_pos h5, if_neg h6] at h
  exact absurd rfl h
theorem dec_back {s : List UInt8} (h : (decL s).2 = 0) : mayL (decL s).1 = true ∧ payB (decL s).1 = s := by
  rcases s with _ | ⟨c, s⟩
  · exact absurd h (by decide)
  · unfold decL at h ⊢
    rw [rFix1_cons] at h ⊢
    unfold decV at h ⊢
    rw [if_pos rfl] at h ⊢
    by_cases hv : c.toNat < 1 ∨ 3 < c.toNat
    · rw [if_pos hv] at h; cases h
    · rw [if_neg hv] at h ⊢
      unfold decN at h ⊢
      by_cases he : (rSh 40 ⟨c :: s, 1, 0, 0⟩).2.e = 0
      · rw [if_pos he] at h ⊢
        by_cases hn : (rSh 40 ⟨c :: s, 1, 0, 0⟩).1 = 0
        · rw [if_pos hn] at h; cases h
        · rw [if_neg hn] at h ⊢
          obtain ⟨b1, b2, b3, b4⟩ := rSh_back (m := 40) (r := ⟨c :: s, 1, 0, 0⟩) rfl (by simp) he
          generalize hb : rSh 40 ⟨c :: s, 1, 0, 0⟩ = b at he hn h b1 b2 b3 b4 ⊢
          obtain ⟨n, r⟩ := b
          simp only at he hn h b1 b2 b3 b4 ⊢
          unfold decE at h ⊢
          by_cases hk : (evsT c.toNat n r).1.2 = 0
          · rw [if_pos hk] at h ⊢
            have hs : r.s = c :: s := by rw [b2]
            obtain ⟨m1, m2, m3, m4, m5⟩ := evsT_back c.toNat n r he (by rw [hs]; exact b4) hk
            by_cases ha : (evsT c.toNat n r).2.at_ < (c :: s).length
            · rw [if_pos ha] at h; cases h
            · rw [if_neg ha]
              obtain ⟨o1, o2⟩ := mayL_of (by rw [m1]; omega) (by rw [m1]; exact b3) m2
              refine ⟨o1, ?_⟩
              unfold payB
              rw [o2, m1]
              rw [hs] at m3
              have hz : (c :: s).drop (evsT c.toNat n r).2.at_ = [] := List.drop_of_length_le (by omega)
              rw [hz, List.append_nil] at m3
              rw [m3] at b1
              rw [List.drop_succ_cons, List.drop_zero] at b1
              rw [← b1]
              show byteN c.toNat :: s = c :: s
              rw [byteN_self]
          · rw [if_neg hk] at h
            exact absurd h hk
      · rw [if_neg he] at h
        exact absurd h he

/-! ### how long a payload may be -/
theorem shortF_le8 : ∀ (k n : Nat), n < 128 ^ k → (shortF k n).length ≤ k := fun k n _ => shortF_length_le k n
theorem shortF_few : ∀ (k m n : Nat), k ≤ m → n < 128 ^ k → 0 < k → (shortF m n).length ≤ k
  | 0, _, _, _, _, h => absurd h (by decide)
  | k + 1, 0, _, h, _, _ => absurd h (by omega)
  | k + 1, m + 1, n, hm, hn, _ => by
    by_cases h : 128 ≤ n
    · rw [shortF_step _ _ h, List.length_cons]
      rcases k with _ | k
      · exact absurd hn (by omega)
      · have := shortF_few (k + 1) m (n / 128) (by omega) (by rw [Nat.pow_succ] at hn; exact Nat.div_lt_of_lt_mul (by rw [Nat.mul_comm]; exact hn)) (by omega)
        omega
    · rw [shortF_last _ _ h]
      simp
theorem shortB_8 {n : Nat} (h : n ≤ 1125899906842624) : (shortB n).length ≤ 8 := shortF_few 8 10 n (by decide) (by omega) (by decide)
theorem numsB_8 (ns : List Int) (h : ∀ n, n ∈ ns → 0 ≤ n ∧ n ≤ 1125899906842624) : (numsB ns).length ≤ 8 * ns.length := by
  induction ns with
  | nil => simp [numsB]
  | cons n ns ih =>
    have h1 := ih (fun x hx => h x (List.mem_cons_of_mem _ hx))
    have h2 := shortB_8 (n := n.toNat) (by have := h n List.mem_cons_self; omega)
    rw [numsB_cons, List.length_append, List.length_cons]
    omega
theorem evB_short {e : Ev} (hm : mayS e = true) : (evB e).length ≤ 91 := by
  obtain ⟨_, hn, ht, hnr, htr⟩ := may_small hm
  have h1 := numsB_8 e.nums hnr
  have h2 := textsB_length e.texts htr
  unfold evB
  simp only [List.length_append, List.length_cons, List.length_nil]
  omega
theorem evsB_short : ∀ (l : List Ev), (∀ e, e ∈ l → mayS e = true) → (evsB l).length ≤ 91 * l.length
  | [], _ => by simp [evsB]
  | e :: l, h => by
    have h1 := evsB_short l (fun x hx => h x (List.mem_cons_of_mem _ hx))
    have h2 := evB_short (h e List.mem_cons_self)
    have : evsB (e :: l) = evB e ++ evsB l := by simp [evsB]
    rw [this, List.length_append, List.length_cons]
    omega
theorem payB_short {l : List Ev} (h : mayL l = true) : (payB l).length ≤ 3660 := by
  obtain ⟨h0, h40, hl⟩ := mayL_parts h
  have h1 := evsB_short l (fun e he => (hl e he).2)
  have h2 := shortB_length_le l.length
  unfold payB
  simp only [List.length_cons, List.length_append]
  omega
end Go.Proofs.YtnmfmedoocnofaaDoor
