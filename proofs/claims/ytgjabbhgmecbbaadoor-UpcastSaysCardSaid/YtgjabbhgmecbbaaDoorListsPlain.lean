/-
  UpcastLists: the plain law. No statement of the seat is proved here.
-/
import Derived.Test.YtgjabbhgmecbbaaDoorLowest
namespace Go.Proofs.YtgjabbhgmecbbaaDoor
open Go.RowKit

theorem lowO_some {l : List (EvP × Ev)} {v u : Nat} (h : lowO l v = some u) : 1 ≤ v ∧ v ≤ u ∧ u ≤ 3 ∧ allOK l u = true ∧ ∀ x, v ≤ x → x < u → allOK l x = false := by
  unfold lowO at h
  by_cases hv : v < 1
  · rw [if_pos hv] at h; cases h
  · rw [if_neg hv] at h
    have h1 := List.find?_some h
    have h2 := List.mem_of_find?_eq_some h
    rw [List.mem_range'_1] at h2
    refine ⟨by omega, by omega, by omega, h1, fun x hx1 hx2 => ?_⟩
    rw [List.find?_eq_some_iff_append] at h
    obtain ⟨_, la, lb, has, hno⟩ := h
    have hxm : x ∈ la := by
      have hlen : ∀ i : Nat, (List.range' v (4 - v))[i]? = (la ++ u :: lb)[i]? := fun i => by rw [has]
      have hu : la.length = u - v := by
        have := hlen la.length
        rw [List.getElem?_append_right (Nat.le_refl _), Nat.sub_self, List.getElem?_cons_zero] at this
        rcases Nat.lt_or_ge la.length (4 - v) with hl | hl
        · rw [List.getElem?_range' hl] at this
          simp at this
          omega
        · rw [List.getElem?_eq_none (by simp; omega)] at this
          cases this
      have := hlen (x - v)
      rw [List.getElem?_append_left (by omega), List.getElem?_range' (by omega)] at this
      have h3 : la[x - v]? = some x := by
        rw [← this]
        congr 1
        omega
      exact List.mem_of_getElem? h3
    have := hno x hxm
    simpa using this
theorem lowO_of {l : List (EvP × Ev)} {v u : Nat} (h1 : 1 ≤ v) (h2 : v ≤ u) (h3 : u ≤ 3) (hok : allOK l u = true) : ∃ x, lowO l v = some x ∧ x ≤ u := by
  rcases h : lowO l v with _ | x
  · unfold lowO at h
    rw [if_neg (by omega), List.find?_eq_none] at h
    exact absurd hok (h u (by rw [List.mem_range'_1]; omega))
  · refine ⟨x, rfl, ?_⟩
    rcases Nat.lt_or_ge u x with hlt | hge
    · have := (lowO_some h).2.2.2.2 u h2 hlt
      rw [hok] at this; cases this
    · exact hge
theorem allOK_take {l : List (EvP × Ev)} {u k : Nat} (h : allOK l u = true) : allOK (l.take k) u = true := by
  unfold allOK at h ⊢
  rw [List.all_eq_true] at h ⊢
  exact fun p hp => h p (List.mem_of_mem_take hp)
theorem anyBad_take {l : List (EvP × Ev)} {k : Nat} (h : anyBad l = false) : anyBad (l.take k) = false := by
  unfold anyBad at h ⊢
  rw [List.any_eq_false] at h ⊢
  exact fun p hp => h p (List.mem_of_mem_take hp)
theorem not_bad {l : List (EvP × Ev)} (h : anyBad l = false) {p : EvP × Ev} (hp : p ∈ l) : mayS p.2 = true := by
  unfold anyBad at h
  rw [List.any_eq_false] at h
  simpa using h p hp
theorem ok_at {l : List (EvP × Ev)} {u : Nat} (h : allOK l u = true) {p : EvP × Ev} (hp : p ∈ l) : (toR p.2 u).2 = 0 := by
  unfold allOK at h
  rw [List.all_eq_true] at h
  simpa using h p hp
/-- What is told of an event that is said. -/
theorem toR_told {e : Ev} {u : Nat} (h : (toR e u).2 = 0) : mayS e = true ∧ 1 ≤ u ∧ u ≤ 3 ∧ mayS (toR e u).1 = true ∧ (toR e u).1.v = u ∧ topS (toR e u).1 = topS e ∧ toR (toR e u).1 u = ((toR e u).1, 0) ∧ ∀ y, toR (toR e u).1 y = toR e y := by
  rcases hm : mayS e with _ | _
  · have h1 : (toR e u).2 = 4 := by unfold toR; rw [hm]; rfl
    rw [h1] at h; cases h
  · by_cases hv : u < 1 ∨ 3 < u
    · have h1 : (toR e u).2 = 43 := by unfold toR; rw [if_pos hm, if_pos hv]
      rw [h1] at h; cases h
    · rcases ht : toS e u with _ | x
      · have h1 : (toR e u).2 = 43 := by unfold toR; rw [if_pos hm, if_neg hv, ht]
        rw [h1] at h; cases h
      · have h1 : toR e u = (x, 0) := by unfold toR; rw [if_pos hm, if_neg hv, ht]
        obtain ⟨m1, m2, m3⟩ := (toS_iff hm (by omega)).1 ht
        have hw : ∀ y, toR x y = toR e y := fun y => by
          unfold toR
          rw [if_pos m1, if_pos hm]
          by_cases hy : y < 1 ∨ 3 < y
          · rw [if_pos hy, if_pos hy]
          · rw [if_neg hy, if_neg hy]
            have e1 : toS x y = toS e y := by
              apply Option.ext
              intro z
              rw [toS_iff m1 (by omega), toS_iff hm (by omega), m3]
            rw [e1]
        rw [h1]
        refine ⟨rfl, by omega, by omega, m1, m2, m3, ?_, hw⟩
        rw [hw, h1]
/-- The list told is, said so again, the same. -/
structure Told (l L : List (EvP × Ev)) (u : Nat) : Prop where
  len : L.length = l.length
  each : ∀ (i : Nat) (s : EvP) (x : Ev), L[i]? = some (s, x) → ∃ (t : EvP) (e : Ev), l[i]? = some (t, e) ∧ x = (toR e u).1 ∧ (toR e u).2 = 0
theorem told_of {l L : List (EvP × Ev)} {u : Nat} (h : L.map Prod.snd = l.map (fun p => (toR p.2 u).1)) (hok : allOK l u = true) : Told l L u := by
  have hlen : L.length = l.length := by simpa using congrArg List.length h
  refine ⟨hlen, fun i s x hi => ?_⟩
  have hl := (List.getElem?_eq_some_iff.1 hi).1
  obtain ⟨⟨t, e⟩, hp⟩ : ∃ p, l[i]? = some p := ⟨_, List.getElem?_eq_getElem (by omega)⟩
  have h1 := congrArg (fun l => l[i]?) h
  simp only [List.getElem?_map, hi, hp, Option.map_some, Option.some.injEq] at h1
  exact ⟨t, e, hp, h1, ok_at hok (List.mem_of_getElem? hp)⟩
theorem Told.may {l L : List (EvP × Ev)} {u : Nat} (h : Told l L u) {p : EvP × Ev} (hp : p ∈ L) : mayS p.2 = true := by
  obtain ⟨i, hi⟩ := List.getElem?_of_mem hp
  obtain ⟨s, x⟩ := p
  obtain ⟨t, e, _, rfl, h2⟩ := h.each i s x hi
  exact (toR_told h2).2.2.2.1
theorem Told.ok {l L : List (EvP × Ev)} {u : Nat} (h : Told l L u) (y : Nat) : allOK L y = allOK l y := by
  rw [Bool.eq_iff_iff]
  unfold allOK
  simp only [List.all_eq_true, decide_eq_true_eq]
  constructor
  · intro ha p hp
    obtain ⟨i, hi⟩ := List.getElem?_of_mem hp
    have hl := (List.getElem?_eq_some_iff.1 hi).1
    obtain ⟨⟨s, x⟩, hx⟩ : ∃ q, L[i]? = some q := ⟨_, List.getElem?_eq_getElem (by have := h.len; omega)⟩
    obtain ⟨t, e, h1, rfl, h2⟩ := h.each i s x hx
    rw [hi] at h1
    obtain rfl := Option.some.inj h1
    have := ha _ (List.mem_of_getElem? hx)
    rw [(toR_told h2).2.2.2.2.2.2.2 y] at this
    exact this
  · intro ha p hp
    obtain ⟨i, hi⟩ := List.getElem?_of_mem hp
    obtain ⟨s, x⟩ := p
    obtain ⟨t, e, h1, rfl, h2⟩ := h.each i s x hi
    show (toR (toR e u).1 y).2 = 0
    rw [(toR_told h2).2.2.2.2.2.2.2 y]
    exact ha _ (List.mem_of_getElem? h1)
theorem Told.low {l L : List (EvP × Ev)} {u : Nat} (h : Told l L u) (v : Nat) : lowO L v = lowO l v := by
  unfold lowO
  have : (fun y => allOK L y) = fun y => allOK l y := by funext y; exact h.ok y
  rw [show allOK L = allOK l from this]
theorem Told.bad {l L : List (EvP × Ev)} {u : Nat} (h : Told l L u) : anyBad L = false := by
  unfold anyBad
  rw [List.any_eq_false]
  intro p hp
  simp [h.may hp]
theorem Told.again {l L L2 : List (EvP × Ev)} {u : Nat} (h : Told l L u) (h2 : L2.map Prod.snd = L.map (fun p => (toR p.2 u).1)) : L2.map Prod.snd = L.map Prod.snd := by
  rw [h2]
  apply List.map_congr_left
  intro p hp
  obtain ⟨i, hi⟩ := List.getElem?_of_mem hp
  obtain ⟨s, x⟩ := p
  obtain ⟨t, e, _, rfl, h4⟩ := h.each i s x hi
  show (toR (toR e u).1 u).1 = _
  rw [(toR_told h4).2.2.2.2.2.2.1]
end Go.Proofs.YtgjabbhgmecbbaaDoor
