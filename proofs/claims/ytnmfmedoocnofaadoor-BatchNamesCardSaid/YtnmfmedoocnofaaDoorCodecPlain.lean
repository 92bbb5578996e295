/-
  The codec in plain words: an event's bytes are read as the event; what is read has just these bytes; cut short is ErrShort. No statement of the seat is proved here.
-/
import Derived.Test.YtnmfmedoocnofaaDoorCOne
import Derived.Test.YtnmfmedoocnofaaDoorCRGet
namespace Go.Proofs.YtnmfmedoocnofaaDoor
open Go.RowKit

theorem drop_at {s : List UInt8} {a : Nat} {t q : List UInt8} (h : s.drop a = t ++ q) : s.drop (a + t.length) = q := by rw [← List.drop_drop, h, List.drop_left]
theorem rd_add0 (r : Rd) : ({ r with at_ := r.at_ + 0 } : Rd) = r := by cases r; rfl
theorem numsB_cons (n : Int) (ns : List Int) : numsB (n :: ns) = shortB n.toNat ++ numsB ns := by simp [numsB]

/-! ### what was written is read -/
theorem numT_at {v : Nat} {c : UInt8} {x : Int} {r : Rd} {q : List UInt8} (hf : fitsS v c.toNat x = true) (he : r.e = 0) (h : r.s.drop r.at_ = shortB x.toNat ++ q) :
    numT v c (0, r) = (x, (0, { r with at_ := r.at_ + (shortB x.toNat).length })) := by
  have h0 := fits_small hf
  have hx : (x.toNat : Int) = x := by omega
  have hhi : x ≤ (boundS v c.toNat).2.1 := by
    unfold fitsS at hf
    simp only [Bool.and_eq_true, decide_eq_true_eq] at hf
    exact hf.2.2
  unfold numT
  rw [if_pos rfl, rSh_at _ x.toNat r q he (by omega) (by omega) h]
  simp only
  rw [hx, hf]
  unfold lookE
  simp only
  rw [if_pos he]
  rfl
theorem numsT_at (v : Nat) : ∀ (l : List UInt8) (ns : List Int) (r : Rd) (q : List UInt8), l.length = ns.length → (∀ (j : Nat) (c : UInt8) (x : Int), l[j]? = some c → ns[j]? = some x → fitsS v c.toNat x = true) → r.e = 0 →
    r.s.drop r.at_ = numsB ns ++ q → numsT v l (0, r) = (ns, (0, { r with at_ := r.at_ + (numsB ns).length }))
  | [], [], r, q, _, _, _, _ => by simp [numsT, numsB]
  | [], _ :: _, _, _, h, _, _, _ => by simp at h
  | _ :: _, [], _, _, h, _, _, _ => by simp at h
  | c :: l, x :: ns, r, q, hl, hf, he, h => by
    have h1 : r.s.drop r.at_ = shortB x.toNat ++ (numsB ns ++ q) := by rw [h, numsB_cons, List.append_assoc]
    have e1 := numT_at (hf 0 c x rfl rfl) he h1
    have h2 := drop_at h1
    have e2 := numsT_at v l ns { r with at_ := r.at_ + (shortB x.toNat).length } q (by simpa using hl) (fun j c' x' a b => hf (j + 1) c' x' (by simpa using a) (by simpa using b)) he h2
    show ((numT v c (0, r)).1 :: (numsT v l (numT v c (0, r)).2).1, (numsT v l (numT v c (0, r)).2).2) = _
    rw [e1]
    simp only
    rw [e2, numsB_cons]
    simp [Nat.add_assoc]
theorem rTx_atM (M : Nat) (r : Rd) (t q : List UInt8) (he : r.e = 0) (ht : t.length ≤ M) (hM : M ≤ 1000) (h : r.s.drop r.at_ = textB t ++ q) :
    rTx (M : Int) r = (t, { r with at_ := r.at_ + (textB t).length }) := by
  have h1 : r.s.drop r.at_ = shortB t.length ++ (t ++ q) := by rw [h]; simp [textB]
  have e1 := rSh_at M t.length r _ he (by omega) ht h1
  have hl := drop_length h1
  simp only [List.length_append] at hl
  have h2 := drop_at h1
  have e2 := rRaw_at { r with at_ := r.at_ + (shortB t.length).length } t q he h2
  unfold rTx
  rw [if_pos he, Int.toNat_natCast, e1]
  simp only
  rw [if_pos he, if_neg (by omega), e2]
  simp [textB, Nat.add_assoc]
theorem nameT_at {t q : List UInt8} {r : Rd} (ht : mayNameS t = true) (he : r.e = 0) (h : r.s.drop r.at_ = textB t ++ q) : nameT (0, r) = (t, (0, { r with at_ := r.at_ + (textB t).length })) := by
  have h24 : t.length ≤ 24 := by
    simp only [mayNameS, Bool.and_eq_true, decide_eq_true_eq] at ht
    omega
  have e1 := rTx_atM 24 r t q he h24 (by omega) h
  unfold nameT
  rw [if_pos rfl]
  rw [show ((24 : Nat) : Int) = (24 : Int) from rfl] at e1
  simp only
  rw [e1]
  simp only
  rw [ht]
  unfold lookE
  simp only
  rw [if_pos he]
  rfl
theorem getT_at {e : Ev} (hm : mayS e = true) (r : Rd) (q : List UInt8) (he : r.e = 0) (h : r.s.drop r.at_ = evB e ++ q) : getT e.v r = ((e, 0), { r with at_ := r.at_ + (evB e).length }) := by
  obtain ⟨hi, hl, hfit, ht1, ht2⟩ := mayS_parts (e := e) (l := (fieldsS e.v e.kind).1) (t := (fieldsS e.v e.kind).2.1) (i := (fieldsS e.v e.kind).2.2) rfl hm
  have hv := may_is hm
  have hk := may_kind hm
  unfold getT
  rw [if_neg (by omega)]
  have h1 : r.s.drop r.at_ = [byteN e.kind] ++ (numsB e.nums ++ (textsB e.texts ++ q)) := by rw [h]; simp [evB]
  have e1 := rFix_at 1 r [byteN e.kind] _ he h1 rfl
  have hb : beN [byteN e.kind] = e.kind := by simp [beN, byteN_toNat]; omega
  rw [hb] at e1
  rw [e1]
  have h2 := drop_at h1
  simp only [List.length_cons, List.length_nil, Nat.zero_add] at h2
  unfold bodyT
  simp only
  have hlk : lookE { r with at_ := r.at_ + 1 } (fieldsS e.v e.kind).2.2 = 0 := by
    unfold lookE
    simp only
    rw [if_pos he, hi]
    rfl
  rw [hlk, numsT_at e.v _ e.nums { r with at_ := r.at_ + 1 } _ hl hfit he h2]
  simp only
  have h3 := drop_at h2
  rcases ht : (fieldsS e.v e.kind).2.1 with _ | _
  · have hx := ht2 ht
    unfold tsT endT
    simp only [Bool.false_eq_true, if_false, if_true]
    obtain ⟨v, k, ns, ts⟩ := e
    simp only at hx
    subst hx
    simp [evB, textsB, Nat.add_assoc]
    omega
  · obtain ⟨s, hx, hs⟩ := ht1 ht
    rw [hx] at h3
    have h4 : r.s.drop (r.at_ + 1 + (numsB e.nums).length) = textB s ++ q := by rw [h3]; simp [textsB]
    have e3 := nameT_at (r := { r with at_ := r.at_ + 1 + (numsB e.nums).length }) hs he h4
    unfold tsT endT
    simp only [if_true]
    rw [e3]
    simp only [if_true]
    obtain ⟨v, k, ns, ts⟩ := e
    simp only at hx
    subst hx
    simp [evB, textsB, Nat.add_assoc]
    omega
/-- What is encoded is decoded as it is. -/
theorem dec_enc {e : Ev} (hm : mayS e = true) (q : List UInt8) : decT (encB e ++ q) = if q = [] then (e, 0) else (zeroE, 4) := by
  have hv := may_is hm
  unfold decT
  have h1 : encB e ++ q = byteN e.v :: (evB e ++ q) := by simp [encB]
  have hb : (byteN e.v).toNat = e.v := by rw [byteN_toNat]; omega
  have hfix : rFix 1 ⟨byteN e.v :: (evB e ++ q), 0, 0, 0⟩ = (e.v, ⟨byteN e.v :: (evB e ++ q), 1, 0, 0⟩) := by
    unfold rFix
    rw [if_pos rfl, if_neg (by simp)]
    simp [beN, hb]
  rw [h1, hfix]
  simp only [if_true]
  rw [getT_at hm ⟨byteN e.v :: (evB e ++ q), 1, 0, 0⟩ q rfl (by simp)]
  unfold decG
  simp only [if_true]
  rcases q with _ | ⟨c, q⟩
  · rw [if_neg (by simp; omega), if_pos rfl]
  · rw [if_pos (by simp; omega), if_neg (by simp)]
end Go.Proofs.YtnmfmedoocnofaaDoor
