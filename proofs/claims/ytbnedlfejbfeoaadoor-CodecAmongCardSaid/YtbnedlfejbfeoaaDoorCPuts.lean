/-
  CodecAmong: what is put, in plain words. No statement of the seat is proved here.
-/
import Derived.Test.YtbnedlfejbfeoaaDoorCLs
namespace Go.Proofs.YtbnedlfejbfeoaaDoor
open Go.RowKit

/-- The bytes of those events of a list that may be; these events. -/
def putsB (l : List (EvP × Ev)) : List UInt8 := l.flatMap (fun p => if mayS p.2 then evB p.2 else [])
def goods (l : List (EvP × Ev)) : List (EvP × Ev) := l.filter (fun p => mayS p.2)
theorem putsB_snoc (l : List (EvP × Ev)) (p : EvP × Ev) : putsB (l ++ [p]) = putsB l ++ (if mayS p.2 then evB p.2 else []) := by simp [putsB]
theorem goods_snoc (l : List (EvP × Ev)) (p : EvP × Ev) : goods (l ++ [p]) = goods l ++ (if mayS p.2 then [p] else []) := by
  unfold goods
  rw [List.filter_append]
  rcases h : mayS p.2 with _ | _ <;> simp [h]
theorem putsB_length (l : List (EvP × Ev)) : (putsB l).length ≤ 200 * l.length := by
  induction l with
  | nil => simp [putsB]
  | cons p l ih =>
    have h : putsB (p :: l) = (if mayS p.2 then evB p.2 else []) ++ putsB l := by simp [putsB]
    rw [h, List.length_append, List.length_cons]
    rcases hm : mayS p.2 with _ | _
    · simp; omega
    · have := evB_length hm
      simp; omega
/-- What is put is the good ones' bytes. -/
theorem putsB_goods (l : List (EvP × Ev)) : putsB l = (goods l).flatMap (fun p => evB p.2) := by
  induction l with
  | nil => rfl
  | cons p l ih =>
    have h : putsB (p :: l) = (if mayS p.2 then evB p.2 else []) ++ putsB l := by simp [putsB]
    rw [h, ih]
    unfold goods
    rw [List.filter_cons]
    rcases hm : mayS p.2 with _ | _ <;> simp
theorem goods_may {l : List (EvP × Ev)} {p : EvP × Ev} (h : p ∈ goods l) : mayS p.2 = true ∧ p ∈ l := by
  unfold goods at h
  rw [List.mem_filter] at h
  exact ⟨h.2, h.1⟩
theorem goods_length (l : List (EvP × Ev)) : (goods l).length ≤ l.length := List.length_filter_le _ _
/-- The row of events lies in no block that the writer owns. -/
theorem own_apart {w : World} {b : Nat} {o : Option Nat} {bs : List UInt8} {v : Value} {n : Nat} {xs : List Value} (hw : WrAt w b o bs) (ho : Own w 26 4 v n xs) : ∀ k, v.ownBlock = some k → ¬ OnlyO b o k := by
  intro k hk hx
  obtain ⟨v0, h1, h2, h3⟩ := hw
  rcases ho.2 with ⟨rfl, _⟩ | ⟨g, cap, cur, rfl, _, hg, _⟩
  · cases hk
  · obtain rfl : g = k := by simpa [Value.ownBlock] using hk
    rcases hx with rfl | hx
    · rw [hg] at h1
      simp at h1
    · rw [← h2] at hx
      rcases h3.2 with ⟨rfl, _⟩ | ⟨g', cap', cur', rfl, _, hg', _⟩
      · cases hx
      · obtain rfl : g' = g := by simpa [Value.ownBlock] using hx
        rw [hg] at hg'
        simp at hg'
end Go.Proofs.YtbnedlfejbfeoaaDoor
