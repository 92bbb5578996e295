/-
  What may be, in plain words: other numbers, more of them, other texts. No statement of the seat is proved here.
-/
import Derived.Test.YtgjabbhgmecbbaaDoorMay
namespace Go.Proofs.YtgjabbhgmecbbaaDoor
open Go.RowKit

theorem allS_iff {v : Nat} {l : List UInt8} {n : List Int} : allS v l n = true ↔ l.length = n.length ∧ ∀ (i : Nat) (c : UInt8) (x : Int), l[i]? = some c → n[i]? = some x → fitsS v c.toNat x = true := by
  constructor
  · intro h
    have hl : l.length = n.length := by
      rcases Nat.decEq l.length n.length with h' | h'
      · rw [allS_ne h'] at h; cases h
      · exact h'
    refine ⟨hl, fun i c x h1 h2 => ?_⟩
    rcases hf : fitsS v c.toNat x with _ | _
    · rw [allS_bad h1 h2 hf] at h; cases h
    · rfl
  · rintro ⟨h1, h2⟩
    exact allS_good h1 h2
/-- What an event that may be has. -/
theorem mayS_parts {e : Ev} {l : List UInt8} {t i : Bool} (h : fieldsS e.v e.kind = (l, t, i)) (hm : mayS e = true) :
    i = true ∧ l.length = e.nums.length ∧ (∀ (j : Nat) (c : UInt8) (x : Int), l[j]? = some c → e.nums[j]? = some x → fitsS e.v c.toNat x = true) ∧ (t = true → ∃ s, e.texts = [s] ∧ mayNameS s = true) ∧ (t = false → e.texts = []) := by
  rw [mayS_cases e l t i h] at hm
  simp only [Bool.and_eq_true] at hm
  obtain ⟨h1, h2, h3⟩ := hm
  obtain ⟨h4, h5⟩ := allS_iff.1 h2
  refine ⟨h1, h4, h5, fun ht => ?_, fun ht => ?_⟩
  · rw [ht, if_pos rfl] at h3
    rcases hx : e.texts with _ | ⟨s, r⟩
    · rw [hx] at h3; cases h3
    · rcases r with _ | ⟨s2, r⟩
      · rw [hx] at h3; exact ⟨s, rfl, h3⟩
      · rw [hx] at h3; cases h3
  · rw [ht] at h3
    simpa using h3
theorem mayS_len {e f : Ev} {l : List UInt8} {t i : Bool} (h : fieldsS e.v e.kind = (l, t, i)) (hv : f.v = e.v) (hk : f.kind = e.kind) (hl : l.length ≠ f.nums.length) : mayS f = false := by
  rw [mayS_cases f l t i (by rw [hv, hk]; exact h), allS_ne hl, Bool.false_and, Bool.and_false]
theorem mayS_text {e f : Ev} {l : List UInt8} {t i : Bool} (h : fieldsS e.v e.kind = (l, t, i)) (hv : f.v = e.v) (hk : f.kind = e.kind) (hx : (if t then oneName f.texts else f.texts.isEmpty) = false) : mayS f = false := by
  rw [mayS_cases f l t i (by rw [hv, hk]; exact h), hx, Bool.and_false, Bool.and_false]
/-- Another number in the place of one. -/
theorem mayS_set {e f : Ev} {l : List UInt8} {t i : Bool} (h : fieldsS e.v e.kind = (l, t, i)) (hm : mayS e = true) {k : Nat} {c : UInt8} {n : Int} (hc : l[k]? = some c)
    (hf : f = { e with nums := e.nums.set k n }) : mayS f = fitsS e.v c.toNat n := by
  subst hf
  have h0 := hm
  rw [mayS_cases e l t i h] at h0
  simp only [Bool.and_eq_true] at h0
  obtain ⟨h1, h2, h3⟩ := h0
  obtain ⟨h4, h5⟩ := allS_iff.1 h2
  have e1 : mayS { e with nums := e.nums.set k n } = (i && (allS e.v l (e.nums.set k n) && (if t then oneName e.texts else e.texts.isEmpty))) := mayS_cases { e with nums := e.nums.set k n } l t i h
  rw [e1, h1, h3, Bool.true_and, Bool.and_true]
  have hkl := (List.getElem?_eq_some_iff.1 hc).1
  rcases hf : fitsS e.v c.toNat n with _ | _
  · exact allS_bad (i := k) hc (by rw [List.getElem?_set_self (by omega)]) hf
  · refine allS_good (by simpa using h4) fun j c' x a b => ?_
    by_cases hj : j = k
    · subst hj
      rw [hc] at a
      cases a
      rw [List.getElem?_set_self (by omega)] at b
      cases b
      exact hf
    · rw [List.getElem?_set_ne (by omega)] at b
      exact h5 j c' x a b
end Go.Proofs.YtgjabbhgmecbbaaDoor
