/-
  A region that makes two events of its own out of two events: 'x, y := own(e), own(f)'. No statement of the seat is proved here.
-/
import Derived.Test.YtgjabbhgmecbbaaDoorOwn
import Derived.Test.YtgjabbhgmecbbaaDoorSame2
import Derived.Test.YtgjabbhgmecbbaaDoorInv
namespace Go.Proofs.YtgjabbhgmecbbaaDoor
open Go.RowKit

theorem Own.only {w w' : World} {t te : TypeId} {v : Value} {n b : Nat} {xs : List Value} {cs : Array Value} (h : Own w t 1 v n xs) (hne : t ≠ te) (hb : w.heap[b]? = some (.cells cs te (0, 0))) (hf : Fr (Only b) w w') : Own w' t 1 v n xs := by
  refine h.fr hf fun k hk e => ?_
  have e : k = b := e
  subst e
  rcases h.2 with ⟨rfl, _⟩ | ⟨g, cap, cur, rfl, _, hg, _⟩
  · cases hk
  · have : g = k := by simpa [Value.ownBlock] using hk
    subst this
    rw [hb] at hg
    simp at hg
    exact hne hg.2.symm
theorem Rs.only {B : Nat} {w w' : World} {t te : TypeId} {v : Value} {b : Nat} {xs : List Value} {cs : Array Value} (h : Rs B w t v xs) (hne : t ≠ te) (hb : w.heap[b]? = some (.cells cs te (0, 0))) (hf : Fr (Only b) w w') : Rs B w' t v xs := by
  rcases h with h | h
  · exact .inl h
  · exact .inr ⟨h.1.only hne hb hf, h.2⟩
theorem EvNew.only {B : Nat} {w w' : World} {s : EvP} {e : Ev} {b : Nat} {cs : Array Value} (h : EvNew B w s e) (hb : w.heap[b]? = some (.cells cs 25 (0, 0))) (hf : Fr (Only b) w w') : EvNew B w' s e :=
  ⟨h.nums.only (by decide) hb hf, h.texts.only (by decide) hb hf⟩

/-- Four cells are stored into an event's block. -/
theorem store4 {w : World} {b : Nat} {c0 c1 c2 c3 : Value} {te : TypeId} (hb : w.heap[b]? = some (.cells #[c0, c1, c2, c3] te (0, 0))) (v0 v1 v2 v3 : Value) :
    ((((w.setCell ⟨b, 0, none⟩ v0).setCell ⟨b, 1, none⟩ v1).setCell ⟨b, 2, none⟩ v2).setCell ⟨b, 3, none⟩ v3).heap[b]? = some (.cells #[v0, v1, v2, v3] te (0, 0)) ∧
    Fr (Only b) w ((((w.setCell ⟨b, 0, none⟩ v0).setCell ⟨b, 1, none⟩ v1).setCell ⟨b, 2, none⟩ v2).setCell ⟨b, 3, none⟩ v3) :=
  ⟨heap_setCell_at (i := 3) v3 (heap_setCell_at (i := 2) v2 (heap_setCell_at (i := 1) v1 (heap_setCell_at (i := 0) v0 hb))), ((((Fr.refl _).set_only _ _).set_only _ _).set_only _ _).set_only _ _⟩

/-- One event's half of the region: the call, the box, the store. -/
structure Half (B : Nat) (e : Ev) (lc la ls : Bool) (xc xa : Value) (w : World) : Prop where
  call : lc = true → ∃ s, xc = evV s e ∧ EvNew B w s e
  box : la = true → ∃ b c0 c1 c2 c3, xa = .pointer (some ⟨b, 0, none⟩) ∧ B ≤ b ∧ w.heap[b]? = some (.cells #[c0, c1, c2, c3] 25 (0, 0)) ∧
    (ls = true → ∃ s, #[c0, c1, c2, c3] = eCells s e ∧ EvNew B w s e)
  ord : la = false → ls = false
theorem Half.start (B : Nat) (e : Ev) (xc xa : Value) (w : World) : Half B e false false false xc xa w := ⟨fun h => (by cases h), fun h => (by cases h), fun _ => rfl⟩
theorem Half.fr {B : Nat} {e : Ev} {lc la ls : Bool} {xc xa : Value} {w w' : World} (h : Half B e lc la ls xc xa w) (hf : Fr No w w') : Half B e lc la ls xc xa w' := by
  refine ⟨fun hc => ?_, fun ha => ?_, h.ord⟩
  · obtain ⟨s, h1, h2⟩ := h.call hc
    exact ⟨s, h1, h2.fr hf⟩
  · obtain ⟨b, c0, c1, c2, c3, h1, h2, h3, h4⟩ := h.box ha
    exact ⟨b, c0, c1, c2, c3, h1, h2, hf.heap0 h3, fun hs => (h4 hs).imp fun s h => ⟨h.1, h.2.fr hf⟩⟩
theorem Half.called {B : Nat} {e : Ev} {lc la ls : Bool} {xc xa : Value} {w w' : World} {s : EvP} (h : Half B e lc la ls xc xa w) (hf : Fr No w w') (hs : EvNew B w' s e) : Half B e true la ls (evV s e) xa w' :=
  ⟨fun _ => ⟨s, rfl, hs⟩, (h.fr hf).box, h.ord⟩
theorem Half.boxed {B : Nat} {e : Ev} {lc la ls : Bool} {xc xa : Value} {w : World} (h : Half B e lc la ls xc xa w) (hl : la = false) (hB : B ≤ w.heap.size) (c0 c1 c2 c3 : Value) :
    Half B e lc true ls xc (.pointer (some ⟨w.heap.size, 0, none⟩)) (w.alloc (.cells #[c0, c1, c2, c3] 25)) := by
  have hls := h.ord hl
  refine ⟨(h.fr ((Fr.refl w).alloc _)).call, fun _ => ⟨_, c0, c1, c2, c3, rfl, hB, Go.heap_alloc_new _ _, fun hs => ?_⟩, fun h => (by cases h)⟩
  rw [hls] at hs
  cases hs
theorem Half.stored {B : Nat} {e : Ev} {lc ls : Bool} {xc xa : Value} {w w' : World} {b : Nat} {s : EvP} (h : Half B e lc true ls xc xa w) (hx : xa = .pointer (some ⟨b, 0, none⟩)) (hs : EvNew B w s e) {cs : Array Value} (hb : w.heap[b]? = some (.cells cs 25 (0, 0)))
    (hf : Fr (Only b) w w') (hw : w'.heap[b]? = some (.cells (eCells s e) 25 (0, 0))) : Half B e lc true true xc xa w' := by
  refine ⟨fun hc => ?_, fun _ => ?_, fun h => (by cases h)⟩
  · obtain ⟨s', h1, h2⟩ := h.call hc
    exact ⟨s', h1, h2.only hb hf⟩
  · obtain ⟨b', c0, c1, c2, c3, h1, h2, h3, h4⟩ := h.box rfl
    obtain rfl : b = b' := by rw [hx] at h1; simpa using h1
    exact ⟨b, _, _, _, _, hx, h2, hw, fun _ => ⟨s, rfl, hs.only hb hf⟩⟩
/-- Another event's block is written. -/
theorem Half.other {B : Nat} {e : Ev} {lc la ls : Bool} {xc xa : Value} {w w' : World} {b : Nat} (h : Half B e lc la ls xc xa w) {cs : Array Value} (hb : w.heap[b]? = some (.cells cs 25 (0, 0))) (hf : Fr (Only b) w w')
    (hne : la = true → xa ≠ .pointer (some ⟨b, 0, none⟩)) : Half B e lc la ls xc xa w' := by
  refine ⟨fun hc => ?_, fun ha => ?_, h.ord⟩
  · obtain ⟨s, h1, h2⟩ := h.call hc
    exact ⟨s, h1, h2.only hb hf⟩
  · obtain ⟨b', c0, c1, c2, c3, h1, h2, h3, h4⟩ := h.box ha
    have hbb : b' ≠ b := fun e => hne ha (by rw [h1, e])
    exact ⟨b', c0, c1, c2, c3, h1, h2, hf.heap h3 (fun e => hbb e), fun hs => (h4 hs).imp fun s h => ⟨h.1, h.2.only hb hf⟩⟩
theorem Half.lt {B : Nat} {e : Ev} {lc ls : Bool} {xc xa : Value} {w : World} (h : Half B e lc true ls xc xa w) : xa ≠ .pointer (some ⟨w.heap.size, 0, none⟩) := by
  obtain ⟨b, c0, c1, c2, c3, h1, h2, h3, h4⟩ := h.box rfl
  rw [h1]
  have := lt_of_block h3
  intro e
  have e2 : b = w.heap.size := congrArg Addr.block (Option.some.inj (Value.pointer.inj e))
  omega
theorem Half.ends {B : Nat} {e : Ev} {lc : Bool} {xc xa : Value} {w : World} (h : Half B e lc true true xc xa w) : ∃ b s, xa = .pointer (some ⟨b, 0, none⟩) ∧ B ≤ b ∧ w.heap[b]? = some (.cells (eCells s e) 25 (0, 0)) ∧ EvNew B w s e := by
  obtain ⟨b, c0, c1, c2, c3, h1, h2, h3, h4⟩ := h.box rfl
  obtain ⟨s, h5, h6⟩ := h4 rfl
  exact ⟨b, s, h1, h2, by rw [← h5]; exact h3, h6⟩

/-- The region whole: loads 0, 2; calls 1, 3; boxes 4, 5; stores 6, 7. -/
structure TwoRel (W : World) (E F : Value) (e f : Ev) (l0 l1 l2 l3 l4 l5 l6 l7 : Bool) (x0 x1 x2 x3 x4 x5 : Value) (w : World) : Prop where
  fr : Fr No W w
  a0 : l0 = true → x0 = E
  a2 : l2 = true → x2 = F
  e : Half W.heap.size e l1 l4 l6 x1 x4 w
  f : Half W.heap.size f l3 l5 l7 x3 x5 w
  ne : l4 = true → l5 = true → x4 ≠ x5
end Go.Proofs.YtgjabbhgmecbbaaDoor
