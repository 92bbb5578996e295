/-
  The codec in plain words: cut short is ErrShort. No statement of the seat is proved here.
-/
import Derived.Test.YtnmfmedoocnofaaDoorCodecBackP
namespace Go.Proofs.YtnmfmedoocnofaaDoor
open Go.RowKit

theorem numsT_cut (v : Nat) : ∀ (l : List UInt8) (ns : List Int) (r : Rd) (j : Nat), l.length = ns.length → (∀ (j : Nat) (c : UInt8) (x : Int), l[j]? = some c → ns[j]? = some x → fitsS v c.toNat x = true) → r.e = 0 →
    j < (numsB ns).length → r.s.drop r.at_ = (numsB ns).take j → (numsT v l (0, r)).2.1 = 8
  | [], [], _, j, _, _, _, hj, _ => by simp [numsB] at hj
  | [], _ :: _, _, _, h, _, _, _, _ => by simp at h
  | _ :: _, [], _, _, h, _, _, _, _ => by simp at h
  | c :: l, x :: ns, r, j, hl, hf, he, hj, h => by
    have hu : (numsT v (c :: l) (0, r)).2 = (numsT v l (numT v c (0, r)).2).2 := rfl
    rw [hu]
    have h0 := fits_small (hf 0 c x rfl rfl)
    rw [numsB_cons] at hj h
    by_cases hs : j < (shortB x.toNat).length
    · rw [List.take_append_of_le_length (by omega)] at h
      have e1 := rSh_cut (boundS v c.toNat).2.1.toNat x.toNat r j he (by omega) hs h
      have e2 : (numT v c (0, r)).2.1 = 8 := by
        unfold numT
        rw [if_pos rfl, e1]
        unfold lookE
        simp
      rw [numsT_err v l _ (by omega), e2]
    · rw [List.take_append, List.take_of_length_le (by omega)] at h
      rw [numT_at (hf 0 c x rfl rfl) he h]
      simp only
      refine numsT_cut v l ns { r with at_ := r.at_ + (shortB x.toNat).length } (j - (shortB x.toNat).length) (by simpa using hl) (fun j c' x' a b => hf (j + 1) c' x' (by simpa using a) (by simpa using b)) he ?_ (drop_at h)
      rw [List.length_append] at hj
      omega
theorem rTx_cutM (M : Nat) (r : Rd) (t : List UInt8) (j : Nat) (he : r.e = 0) (ht : t.length ≤ M) (hM : M ≤ 1000) (hj : j < (textB t).length) (h : r.s.drop r.at_ = (textB t).take j) : (rTx (M : Int) r).2.e = 8 := by
  unfold rTx
  rw [if_pos he, Int.toNat_natCast]
  by_cases hs : j < (shortB t.length).length
  · have h1 : r.s.drop r.at_ = (shortB t.length).take j := by
      rw [h, textB, List.take_append_of_le_length (by omega)]
    rw [rSh_cut _ _ r j he (by omega) hs h1]
    rw [if_neg (by show ¬ (8 : Nat) = 0; decide)]
  · have h1 : r.s.drop r.at_ = shortB t.length ++ t.take (j - (shortB t.length).length) := by
      rw [h, textB, List.take_append, List.take_of_length_le (by omega)]
    have hl := drop_length h1
    unfold textB at hj
    simp only [List.length_append, List.length_take] at hl hj
    rw [rSh_at M _ r _ he (by omega) ht h1]
    simp only
    rw [if_pos he, if_pos (by omega)]
theorem body_end {v k : Nat} {l : List UInt8} {t : Bool} {st0 : Nat × Rd} (h : (numsT v l st0).2.1 = 8) : (endT v k (numsT v l st0).1 (tsT t (numsT v l st0).2)).1 = (zeroE, 8) := by
  have h2 := tsT_err (t := t) (st := (numsT v l st0).2) (by omega)
  rw [endT_err (by rw [h2]; omega), h2, h]
theorem getT_cut {e : Ev} (hm : mayS e = true) (r : Rd) (j : Nat) (he : r.e = 0) (hj : j < (evB e).length) (h : r.s.drop r.at_ = (evB e).take j) : (getT e.v r).1 = (zeroE, 8) := by
  obtain ⟨hi, hl, hfit, ht1, ht2⟩ := mayS_parts (e := e) (l := (fieldsS e.v e.kind).1) (t := (fieldsS e.v e.kind).2.1) (i := (fieldsS e.v e.kind).2.2) rfl hm
  have hv := may_is hm
  have hk := may_kind hm
  unfold getT
  rw [if_neg (by omega)]
  unfold bodyT
  rcases j with _ | j
  · have hc : r.s.length - r.at_ < 1 := by
      have := congrArg List.length h
      simp at this
      omega
    rw [rFix_cut 1 r he hc]
    simp only
    rw [body_start (by simp [lookE])]
    simp [lookE]
  · have hev : evB e = byteN e.kind :: (numsB e.nums ++ textsB e.texts) := by simp [evB]
    rw [hev] at h hj
    rw [List.take_succ_cons] at h
    simp only [List.length_cons, List.length_append] at hj
    have h1 : r.s.drop r.at_ = [byteN e.kind] ++ (numsB e.nums ++ textsB e.texts).take j := h
    have e1 := rFix_at 1 r [byteN e.kind] _ he h1 rfl
    have hb : beN [byteN e.kind] = e.kind := by simp [beN, byteN_toNat]; omega
    rw [hb] at e1
    rw [e1]
    have h2 := drop_at h1
    simp only [List.length_cons, List.length_nil, Nat.zero_add] at h2
    simp only
    have hlk : lookE { r with at_ := r.at_ + 1 } (fieldsS e.v e.kind).2.2 = 0 := by
      unfold lookE
      simp only
      rw [if_pos he, hi]
      rfl
    rw [hlk]
    by_cases hn : j < (numsB e.nums).length
    · rw [List.take_append_of_le_length (by omega)] at h2
      exact body_end (numsT_cut e.v _ e.nums { r with at_ := r.at_ + 1 } j hl hfit he hn h2)
    · rw [List.take_append, List.take_of_length_le (by omega)] at h2
      rw [numsT_at e.v _ e.nums { r with at_ := r.at_ + 1 } _ hl hfit he h2]
      simp only
      have h3 := drop_at h2
      rcases ht : (fieldsS e.v e.kind).2.1 with _ | _
      · exfalso
        rw [ht2 ht] at hj
        simp [textsB] at hj
        omega
      · obtain ⟨s, hx, hs⟩ := ht1 ht
        have h24 : s.length ≤ 24 := by
          simp only [mayNameS, Bool.and_eq_true, decide_eq_true_eq] at hs
          omega
        have htx : textsB e.texts = textB s := by rw [hx]; simp [textsB]
        rw [htx] at h3 hj
        have e3 := rTx_cutM 24 { r with at_ := r.at_ + 1 + (numsB e.nums).length } s (j - (numsB e.nums).length) he h24 (by omega) (by omega) h3
        rw [show ((24 : Nat) : Int) = (24 : Int) from rfl] at e3
        have e4 : (nameT (0, { r with at_ := r.at_ + 1 + (numsB e.nums).length })).2.1 = 8 := by
          unfold nameT
          rw [if_pos rfl]
          simp only
          unfold lookE
          rw [if_neg (by rw [e3]; decide), e3]
        unfold tsT
        simp only [if_true]
        rw [endT_err (by simp only; omega)]
        simp only
        rw [e4]
/-- An event's bytes, cut short. -/
theorem dec_cut {e : Ev} (hm : mayS e = true) (j : Nat) (hj : j < (encB e).length) : decT ((encB e).take j) = (zeroE, 8) := by
  rcases j with _ | j
  · rfl
  · have hv := may_is hm
    have he : encB e = byteN e.v :: evB e := by simp [encB]
    rw [he] at hj ⊢
    rw [List.take_succ_cons]
    simp only [List.length_cons] at hj
    have hb : (byteN e.v).toNat = e.v := by rw [byteN_toNat]; omega
    have hfix : rFix 1 ⟨byteN e.v :: (evB e).take j, 0, 0, 0⟩ = (e.v, ⟨byteN e.v :: (evB e).take j, 1, 0, 0⟩) := by
      unfold rFix
      rw [if_pos rfl, if_neg (by simp)]
      simp [beN, hb]
    unfold decT
    rw [hfix]
    simp only [if_true]
    have hg := getT_cut hm ⟨byteN e.v :: (evB e).take j, 1, 0, 0⟩ j rfl (by omega) rfl
    unfold decG
    rw [hg]
    simp
end Go.Proofs.YtnmfmedoocnofaaDoor
