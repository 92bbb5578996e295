/-
  The contracts of wire's and the document's readers and writers, for this seat (out of the wire seat's texts): no statement of the seat is proved here.
-/
import Derived.Test.YtbnedlfejbfeoaaDoorCBox
import Derived.Deep.LoopGhost
namespace Go.Proofs.YtbnedlfejbfeoaaDoor
open Go.RowKit

/-- The blocks that an event's rows lie in. -/
def inB (p : EvP × Ev) (k : Nat) : Prop := (p.2.nums ≠ [] ∧ ∃ o, p.1.qn = some ⟨k, o, none⟩) ∨ (p.2.texts ≠ [] ∧ ∃ o, p.1.qt = some ⟨k, o, none⟩)
theorem Rs.inBlock {B : Nat} {w : World} {t : TypeId} {q : Option Addr} {n cap k o : Nat} {xs : List Value} (h : Rs B w t (.slice q n cap) xs) (hne : xs ≠ []) (hq : q = some ⟨k, o, none⟩) : B ≤ k ∧ k < w.heap.size := by
  have hl : 0 < xs.length := List.length_pos_iff.2 hne
  obtain ⟨b, cur, h1, h2, h3, _⟩ := h.cell_at hl
  rw [hq] at h1
  obtain rfl : k = b := by simp at h1; exact h1.1
  exact ⟨h2, lt_of_block h3⟩
theorem EvNew.inB {B : Nat} {w : World} {p : EvP × Ev} (h : EvNew B w p.1 p.2) {k : Nat} (hk : inB p k) : B ≤ k ∧ k < w.heap.size := by
  rcases hk with ⟨h1, o, h2⟩ | ⟨h1, o, h2⟩
  · exact h.nums.inBlock (by simpa using h1) h2
  · exact h.texts.inBlock (by simpa using h1) h2
/-- An event's rows are being written over, and nothing else. -/
structure Spoil (W wr : World) (s : EvP) (e : Ev) : Prop where
  fr : Fr (inB (s, e)) W wr
  nums : e.nums ≠ [] → ∃ b cur, s.qn = some ⟨b, 0, none⟩ ∧ wr.heap[b]? = some (.cells cur 2 (0, 0)) ∧ e.nums.length ≤ cur.size
  texts : e.texts ≠ [] → ∃ b cur, s.qt = some ⟨b, 0, none⟩ ∧ wr.heap[b]? = some (.cells cur 9 (0, 0)) ∧ e.texts.length ≤ cur.size
theorem take_size {cur : Array Value} {xs : List Value} (h : cur.toList.take xs.length = xs) : xs.length ≤ cur.size := by
  have := congrArg List.length h
  rw [List.length_take] at this
  simp at this
  omega
/-- An event's rows lie in memory of their own. -/
structure EvHas (w : World) (s : EvP) (e : Ev) : Prop where
  nums : e.nums ≠ [] → ∃ b cur, s.qn = some ⟨b, 0, none⟩ ∧ w.heap[b]? = some (.cells cur 2 (0, 0)) ∧ e.nums.length ≤ cur.size
  texts : e.texts ≠ [] → ∃ b cur, s.qt = some ⟨b, 0, none⟩ ∧ w.heap[b]? = some (.cells cur 9 (0, 0)) ∧ e.texts.length ≤ cur.size
theorem EvNew.has {B : Nat} {w : World} {s : EvP} {e : Ev} (h : EvNew B w s e) : EvHas w s e := by
  refine ⟨fun hne => ?_, fun hne => ?_⟩
  · obtain ⟨b, cur, h1, _, h3, h4⟩ := h.nums.cell_at (i := 0) (by simpa using List.length_pos_iff.2 hne)
    exact ⟨b, cur, h1, h3, by simpa using take_size h4⟩
  · obtain ⟨b, cur, h1, _, h3, h4⟩ := h.texts.cell_at (i := 0) (by simpa using List.length_pos_iff.2 hne)
    exact ⟨b, cur, h1, h3, by simpa using take_size h4⟩
theorem EvHas.frX {X : Nat → Prop} {w w' : World} {s : EvP} {e : Ev} (h : EvHas w s e) (hf : Fr X w w') (hx : ∀ k, inB (s, e) k → ¬ X k) : EvHas w' s e := by
  refine ⟨fun hne => ?_, fun hne => ?_⟩
  · obtain ⟨b, cur, h1, h2, h3⟩ := h.nums hne
    exact ⟨b, cur, h1, hf.heap h2 (hx b (.inl ⟨hne, 0, h1⟩)), h3⟩
  · obtain ⟨b, cur, h1, h2, h3⟩ := h.texts hne
    exact ⟨b, cur, h1, hf.heap h2 (hx b (.inr ⟨hne, 0, h1⟩)), h3⟩
theorem EvHas.fr {w w' : World} {s : EvP} {e : Ev} (h : EvHas w s e) (hf : Fr No w w') : EvHas w' s e := h.frX hf (fun _ _ => id)
theorem EvHas.inB {w : World} {s : EvP} {e : Ev} (h : EvHas w s e) {k : Nat} (hk : inB (s, e) k) : ∃ cur t, w.heap[k]? = some (.cells cur t (0, 0)) ∧ t ≠ 26 := by
  rcases hk with ⟨hne, o, hq⟩ | ⟨hne, o, hq⟩
  · obtain ⟨b, cur, h1, h2, _⟩ := h.nums hne
    have hq : s.qn = some ⟨k, o, none⟩ := hq
    rw [h1] at hq
    obtain rfl : b = k := by simp at hq; exact hq.1
    exact ⟨cur, _, h2, by decide⟩
  · obtain ⟨b, cur, h1, h2, _⟩ := h.texts hne
    have hq : s.qt = some ⟨k, o, none⟩ := hq
    rw [h1] at hq
    obtain rfl : b = k := by simp at hq; exact hq.1
    exact ⟨cur, _, h2, by decide⟩
theorem EvAt.frX {X : Nat → Prop} {w w' : World} {s : EvP} {e : Ev} (h : EvAt w s e) (hf : Fr X w w') (hx : ∀ k, inB (s, e) k → ¬ X k) : EvAt w' s e := by
  refine ⟨h.v8, h.k8, fun i x hi => ?_, fun i x hi => ?_, h.nl, h.tl, h.tx, h.nr⟩
  · obtain ⟨b, o, hq, hc⟩ := h.nums i x hi
    exact ⟨b, o, hq, hf.cell hc (hx b (.inl ⟨fun hn => by rw [hn] at hi; simp at hi, o, hq⟩))⟩
  · obtain ⟨b, o, hq, hc⟩ := h.texts i x hi
    exact ⟨b, o, hq, hf.cell hc (hx b (.inr ⟨fun hn => by rw [hn] at hi; simp at hi, o, hq⟩))⟩
theorem Spoil.start {W w1 : World} {s : EvP} {e : Ev} (hf : Fr No W w1) (h : EvHas w1 s e) : Spoil W w1 s e := ⟨hf.of0, h.nums, h.texts⟩
theorem Spoil.setN {W wr : World} {s : EvP} {e : Ev} (h : Spoil W wr s e) {b : Nat} (hne : e.nums ≠ []) (hq : s.qn = some ⟨b, 0, none⟩) (i : Nat) (v : Value) : Spoil W (wr.setCell ⟨b, i, none⟩ v) s e := by
  obtain ⟨b', cur, h1, h2, h3⟩ := h.nums hne
  rw [hq] at h1
  obtain rfl : b = b' := by simp at h1; exact h1
  refine ⟨h.fr.setCell (.inl (.inl ⟨hne, 0, hq⟩)) v, fun _ => ⟨b, _, hq, heap_setCell_at v h2, by simpa using h3⟩, fun ht => ?_⟩
  obtain ⟨g, cur2, k1, k2, k3⟩ := h.texts ht
  refine ⟨g, cur2, k1, ?_, k3⟩
  rw [heap_setCell_past (fun hgb => ?_)]
  · exact k2
  · have hgb : g = b := hgb
    subst hgb
    rw [h2] at k2
    simp at k2
theorem Spoil.setT {W wr : World} {s : EvP} {e : Ev} (h : Spoil W wr s e) {b : Nat} (hne : e.texts ≠ []) (hq : s.qt = some ⟨b, 0, none⟩) (i : Nat) (v : Value) : Spoil W (wr.setCell ⟨b, i, none⟩ v) s e := by
  obtain ⟨b', cur, h1, h2, h3⟩ := h.texts hne
  rw [hq] at h1
  obtain rfl : b = b' := by simp at h1; exact h1
  refine ⟨h.fr.setCell (.inl (.inr ⟨hne, 0, hq⟩)) v, fun ht => ?_, fun _ => ⟨b, _, hq, heap_setCell_at v h2, by simpa using h3⟩⟩
  obtain ⟨g, cur2, k1, k2, k3⟩ := h.nums ht
  refine ⟨g, cur2, k1, ?_, k3⟩
  rw [heap_setCell_past (fun hgb => ?_)]
  · exact k2
  · have hgb : g = b := hgb
    subst hgb
    rw [h2] at k2
    simp at k2
/-- The cell that is written. -/
theorem row_cell {w : World} {b i : Nat} {cur : Array Value} {t : TypeId} (h : w.heap[b]? = some (.cells cur t (0, 0))) (hi : i < cur.size) : ∃ y, w.cell? ⟨b, i, none⟩ = some y ∧ w.frozen? ⟨b, i, none⟩ = false := by
  refine ⟨cur[i], ?_, ?_⟩
  · rw [cell_of_row w b i _ _ (0, 0) h]
    simp [hi]
  · exact frozen_of_row w b _ cur t h

end Go.Proofs.YtbnedlfejbfeoaaDoor
