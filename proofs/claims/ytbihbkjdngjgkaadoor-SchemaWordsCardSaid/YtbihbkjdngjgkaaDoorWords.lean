/-
  SchemaWords: the plain law and the walk.
-/
import Derived.Test.YtbihbkjdngjgkaaDoorAwake5
import Derived.Test.YtbihbkjdngjgkaaDoorFind
import Derived.Test.YtbihbkjdngjgkaaDoorRNames
import Derived.Test.YtbihbkjdngjgkaaDoorRWords
namespace Go.Proofs.YtbihbkjdngjgkaaDoor
open Go.RowKit

theorem placeOf_lt (rows : List RowT) (s : List UInt8) : placeOf rows s ≤ rows.length := by
  unfold placeOf
  split
  · rename_i i hi
    rw [List.findIdx?_eq_some_iff_getElem] at hi
    obtain ⟨hl, _⟩ := hi
    omega
  · omega
theorem names_place : ((List.range 24).all fun a => nameS a == [] || placeOf kindsT (nameS a) == a) = true := by decide +kernel
theorem words_place : ((List.range 21).all fun a => wordS a == [] || placeOf commandsT (wordS a) == a) = true := by decide +kernel
theorem place_name {a : Nat} (h : nameS a ≠ []) : placeOf kindsT (nameS a) = a ∧ 0 < a := by
  have hr : ¬ (a = 0 ∨ 23 < a) := fun hc => h (nameS_out a hc)
  have := List.all_eq_true.1 names_place a (List.mem_range.2 (by omega))
  simp only [Bool.or_eq_true, beq_iff_eq] at this
  exact ⟨this.resolve_left h, by omega⟩
theorem place_word {a : Nat} (h : wordS a ≠ []) : placeOf commandsT (wordS a) = a ∧ 0 < a := by
  have hr : ¬ (a = 0 ∨ 20 < a) := fun hc => h (wordS_out a hc)
  have := List.all_eq_true.1 words_place a (List.mem_range.2 (by omega))
  simp only [Bool.or_eq_true, beq_iff_eq] at this
  exact ⟨this.resolve_left h, by omega⟩
theorem place_nil (rows : List RowT) (h : (rows.all fun r => !r.name.isEmpty) = true) : placeOf rows [] = 0 := by
  refine placeOf_miss fun j r hr e => ?_
  have := List.all_eq_true.1 h r (List.mem_of_getElem? hr)
  rw [e] at this
  cases this
theorem placeOf_is {rows : List RowT} {s : List UInt8} (h : 0 < placeOf rows s) : ∃ r, rows[placeOf rows s - 1]? = some r ∧ r.name = s := by
  unfold placeOf at h ⊢
  split at h
  · rename_i i hi
    rw [List.findIdx?_eq_some_iff_getElem] at hi
    obtain ⟨hl, hn, _⟩ := hi
    exact ⟨rows[i], List.getElem?_eq_getElem hl, by simpa using hn⟩
  · omega
theorem name_place {s : List UInt8} (h : 0 < placeOf kindsT s) : nameS (placeOf kindsT s) = s := by
  obtain ⟨r, hr, hn⟩ := placeOf_is h
  unfold nameS eventT
  rw [if_neg (by omega), hr]
  exact hn
theorem word_place {s : List UInt8} (h : 0 < placeOf commandsT s) : wordS (placeOf commandsT s) = s := by
  obtain ⟨r, hr, hn⟩ := placeOf_is h
  unfold wordS commandT
  rw [if_neg (by omega), hr]
  exact hn
theorem nameS_eq2 {a b : Nat} (h : nameS a ≠ []) : (nameS a == nameS b) = ((a : Int) == (b : Int)) := by
  rw [Bool.eq_iff_iff]
  simp only [beq_iff_eq]
  constructor
  · intro e
    have h1 := (place_name h).1
    have h2 := (place_name (a := b) (by rw [← e]; exact h)).1
    rw [e] at h1
    rw [h1] at h2
    omega
  · intro e
    have : a = b := by omega
    rw [this]
theorem wordS_eq2 {a b : Nat} (h : wordS a ≠ []) : (wordS a == wordS b) = ((a : Int) == (b : Int)) := by
  rw [Bool.eq_iff_iff]
  simp only [beq_iff_eq]
  constructor
  · intro e
    have h1 := (place_word h).1
    have h2 := (place_word (a := b) (by rw [← e]; exact h)).1
    rw [e] at h1
    rw [h1] at h2
    omega
  · intro e
    have : a = b := by omega
    rw [this]
end Go.Proofs.YtbihbkjdngjgkaaDoor
