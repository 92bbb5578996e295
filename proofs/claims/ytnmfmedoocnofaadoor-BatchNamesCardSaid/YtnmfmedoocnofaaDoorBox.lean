/-
  A region that makes two events of its own out of two events: 'x, y := own(e), own(f)'. No statement of the seat is proved here. An event in a box of its own: made, a field turned, a row appended to or stored into. No statement of the seat is proved here.
-/
import Derived.Test.YtnmfmedoocnofaaDoorOwn
import Derived.Test.YtnmfmedoocnofaaDoorSame2
import Derived.Test.YtnmfmedoocnofaaDoorBase
namespace Go.Proofs.YtnmfmedoocnofaaDoor
open Go.RowKit

theorem Own.only {w w' : World} {t te : TypeId} {v : Value} {n b : Nat} {xs : List Value} {cs : Array Value} (h : Own w t 1 v n xs) (hne : t ≠ te) (hb : w.heap[b]? = some (.cells cs te (0, 0))) (hf : Fr (Only b) w w') : Own w' t 1 v n xs := by
  refine h.fr hf fun k hk e => ?_
  have e : k = b := e
  subst e
  rcases h.2 with ⟨rfl, _⟩ | ⟨g, cap, cur, rfl, _, hg, _⟩
  · cases hk
  · have : g = k := by simpa [Value.ownBlock] using hk
    subst this
    rw [hb] at hg
    simp at hg
    exact hne hg.2.symm
theorem Rs.only {B : Nat} {w w' : World} {t te : TypeId} {v : Value} {b : Nat} {xs : List Value} {cs : Array Value} (h : Rs B w t v xs) (hne : t ≠ te) (hb : w.heap[b]? = some (.cells cs te (0, 0))) (hf : Fr (Only b) w w') : Rs B w' t v xs := by
  rcases h with h | h
  · exact .inl h
  · exact .inr ⟨h.1.only hne hb hf, h.2⟩
theorem EvNew.only {B : Nat} {w w' : World} {s : EvP} {e : Ev} {b : Nat} {cs : Array Value} (h : EvNew B w s e) (hb : w.heap[b]? = some (.cells cs 34 (0, 0))) (hf : Fr (Only b) w w') : EvNew B w' s e :=
  ⟨h.nums.only (by decide) hb hf, h.texts.only (by decide) hb hf⟩

/-- Four cells are stored into an event's block. -/
theorem store4 {w : World} {b : Nat} {c0 c1 c2 c3 : Value} {te : TypeId} (hb : w.heap[b]? = some (.cells #[c0, c1, c2, c3] te (0, 0))) (v0 v1 v2 v3 : Value) :
    ((((w.setCell ⟨b, 0, none⟩ v0).setCell ⟨b, 1, none⟩ v1).setCell ⟨b, 2, none⟩ v2).setCell ⟨b, 3, none⟩ v3).heap[b]? = some (.cells #[v0, v1, v2, v3] te (0, 0)) ∧
    Fr (Only b) w ((((w.setCell ⟨b, 0, none⟩ v0).setCell ⟨b, 1, none⟩ v1).setCell ⟨b, 2, none⟩ v2).setCell ⟨b, 3, none⟩ v3) :=
  ⟨heap_setCell_at (i := 3) v3 (heap_setCell_at (i := 2) v2 (heap_setCell_at (i := 1) v1 (heap_setCell_at (i := 0) v0 hb))), ((((Fr.refl _).set_only _ _).set_only _ _).set_only _ _).set_only _ _⟩

/-- One event's half of the region: the call, the box, the store. -/
structure Half (B : Nat) (e : Ev) (lc la ls : Bool) (xc xa : Value) (w : World) : Prop where
  call : lc = true → ∃ s, xc = evV s e ∧ EvNew B w s e
  box : la = true → ∃ b c0 c1 c2 c3, xa = .pointer (some ⟨b, 0, none⟩) ∧ B ≤ b ∧ w.heap[b]? = some (.cells #[c0, c1, c2, c3] 34 (0, 0)) ∧
    (ls = true → ∃ s, #[c0, c1, c2, c3] = eCells s e ∧ EvNew B w s e)
  ord : la = false → ls = false
theorem Half.start (B : Nat) (e : Ev) (xc xa : Value) (w : World) : Half B e false false false xc xa w := ⟨fun h => (by cases h), fun h => (by cases h), fun _ => rfl⟩
theorem Half.fr {B : Nat} {e : Ev} {lc la ls : Bool} {xc xa : Value} {w w' : World} (h : Half B e lc la ls xc xa w) (hf : Fr No w w') : Half B e lc la ls xc xa w' := by
  refine ⟨fun hc => ?_, fun ha => ?_, h.ord⟩
  · obtain ⟨s, h1, h2⟩ := h.call hc
    exact ⟨s, h1, h2.fr hf⟩
  · obtain ⟨b, c0, c1, c2, c3, h1, h2, h3, h4⟩ := h.box ha
    exact ⟨b, c0, c1, c2, c3, h1, h2, hf.heap0 h3, fun hs => (h4 hs).imp fun s h => ⟨h.1, h.2.fr hf⟩⟩
theorem Half.called {B : Nat} {e : Ev} {lc la ls : Bool} {xc xa : Value} {w w' : World} {s : EvP} (h : Half B e lc la ls xc xa w) (hf : Fr No w w') (hs : EvNew B w' s e) : Half B e true la ls (evV s e) xa w' :=
  ⟨fun _ => ⟨s, rfl, hs⟩, (h.fr hf).box, h.ord⟩
theorem Half.boxed {B : Nat} {e : Ev} {lc la ls : Bool} {xc xa : Value} {w : World} (h : Half B e lc la ls xc xa w) (hl : la = false) (hB : B ≤ w.heap.size) (c0 c1 c2 c3 : Value) :
    Half B e lc true ls xc (.pointer (some ⟨w.heap.size, 0, none⟩)) (w.alloc (.cells #[c0, c1, c2, c3] 34)) := by
  have hls := h.ord hl
  refine ⟨(h.fr ((Fr.refl w).alloc _)).call, fun _ => ⟨_, c0, c1, c2, c3, rfl, hB, Go.heap_alloc_new _ _, fun hs => ?_⟩, fun h => (by cases h)⟩
  rw [hls] at hs
  cases hs
theorem Half.stored {B : Nat} {e : Ev} {lc ls : Bool} {xc xa : Value} {w w' : World} {b : Nat} {s : EvP} (h : Half B e lc true ls xc xa w) (hx : xa = .pointer (some ⟨b, 0, none⟩)) (hs : EvNew B w s e) {cs : Array Value} (hb : w.heap[b]? = some (.cells cs 34 (0, 0)))
    (hf : Fr (Only b) w w') (hw : w'.heap[b]? = some (.cells (eCells s e) 34 (0, 0))) : Half B e lc true true xc xa w' := by
  refine ⟨fun hc => ?_, fun _ => ?_, fun h => (by cases h)⟩
  · obtain ⟨s', h1, h2⟩ := h.call hc
    exact ⟨s', h1, h2.only hb hf⟩
  · obtain ⟨b', c0, c1, c2, c3, h1, h2, h3, h4⟩ := h.box rfl
    obtain rfl : b = b' := by rw [hx] at h1; simpa using h1
    exact ⟨b, _, _, _, _, hx, h2, hw, fun _ => ⟨s, rfl, hs.only hb hf⟩⟩
/-- Another event's block is written. -/
theorem Half.other {B : Nat} {e : Ev} {lc la ls : Bool} {xc xa : Value} {w w' : World} {b : Nat} (h : Half B e lc la ls xc xa w) {cs : Array Value} (hb : w.heap[b]? = some (.cells cs 34 (0, 0))) (hf : Fr (Only b) w w')
    (hne : la = true → xa ≠ .pointer (some ⟨b, 0, none⟩)) : Half B e lc la ls xc xa w' := by
  refine ⟨fun hc => ?_, fun ha => ?_, h.ord⟩
  · obtain ⟨s, h1, h2⟩ := h.call hc
    exact ⟨s, h1, h2.only hb hf⟩
  · obtain ⟨b', c0, c1, c2, c3, h1, h2, h3, h4⟩ := h.box ha
    have hbb : b' ≠ b := fun e => hne ha (by rw [h1, e])
    exact ⟨b', c0, c1, c2, c3, h1, h2, hf.heap h3 (fun e => hbb e), fun hs => (h4 hs).imp fun s h => ⟨h.1, h.2.only hb hf⟩⟩
theorem Half.lt {B : Nat} {e : Ev} {lc ls : Bool} {xc xa : Value} {w : World} (h : Half B e lc true ls xc xa w) : xa ≠ .pointer (some ⟨w.heap.size, 0, none⟩) := by
  obtain ⟨b, c0, c1, c2, c3, h1, h2, h3, h4⟩ := h.box rfl
  rw [h1]
  have := lt_of_block h3
  intro e
  have e2 : b = w.heap.size := congrArg Addr.block (Option.some.inj (Value.pointer.inj e))
  omega
theorem Half.ends {B : Nat} {e : Ev} {lc : Bool} {xc xa : Value} {w : World} (h : Half B e lc true true xc xa w) : ∃ b s, xa = .pointer (some ⟨b, 0, none⟩) ∧ B ≤ b ∧ w.heap[b]? = some (.cells (eCells s e) 34 (0, 0)) ∧ EvNew B w s e := by
  obtain ⟨b, c0, c1, c2, c3, h1, h2, h3, h4⟩ := h.box rfl
  obtain ⟨s, h5, h6⟩ := h4 rfl
  exact ⟨b, s, h1, h2, by rw [← h5]; exact h3, h6⟩

/-- The region whole: loads 0, 2; calls 1, 3; boxes 4, 5; stores 6, 7. -/
structure TwoRel (W : World) (E F : Value) (e f : Ev) (l0 l1 l2 l3 l4 l5 l6 l7 : Bool) (x0 x1 x2 x3 x4 x5 : Value) (w : World) : Prop where
  fr : Fr No W w
  a0 : l0 = true → x0 = E
  a2 : l2 = true → x2 = F
  e : Half W.heap.size e l1 l4 l6 x1 x4 w
  f : Half W.heap.size f l3 l5 l7 x3 x5 w
  ne : l4 = true → l5 = true → x4 ≠ x5

/-- Rows of a type that lie from a block on. -/
def RsT (w : World) (B : Nat) (t : TypeId) : Nat → Prop := fun k => B ≤ k ∧ ∃ cur, w.heap[k]? = some (.cells cur t (0, 0))
section
variable {P : Program}
theorem run_append_rt {w : World} {B : Nat} (t tx ty e : TypeId) (i : TypeInfo) (z : Value) (bytes : Nat) (ht : P.underlying t = some (.slice e)) (hi : P.info? e = some i) (hz : i.zero = some z)
    (hsize : i.size = 1) (hby : i.bytes = bytes) (hzs : z.cells.size = 1) {v : Value} {xs : List Value} (hr : Rs B w e v xs) (hB : B ≤ w.heap.size)
    {x : Value} {m : Nat} {news : List Value} (hx : Src P 1 tx x m news w) (h63 : xs.length + m ≤ maxLen) (hbytes : (xs.length + m) * bytes ≤ 140737488355328) :
    ∃ v' w', (Builtin.append_ #[t, tx] ty #[v, x]).run P w = .ok v' w' ∧ Rs B w' e v' (xs ++ news) ∧ Fr (RsT w B e) w w' := by
  rcases hr with ⟨rfl, a, rfl⟩ | ⟨hown, hn⟩
  · obtain ⟨v', w', h1, h2, h3, _⟩ := run_append0 (P := P) t tx ty e i z bytes ht hi hz hsize hby hzs a hB hx (by simpa using h63) (by simpa using hbytes)
    exact ⟨v', w', h1, by simpa using h2, h3.of0⟩
  · obtain ⟨v', w', hrun, h2, h3, h4⟩ := run_append_fr (P := P) w t tx ty e i z 1 bytes ht hi hz hsize hby hzs v xs.length xs hown x m news hx h63 hbytes
    have hnl : news.length = m := by simpa using hx.newsLen
    refine ⟨v', w', hrun, .inr ⟨by simpa [hnl] using h2, fun k hk => ?_⟩, h3.mono (fun k _ h => ⟨hn k h, ?_⟩)⟩
    · rcases h4 with h4 | h4
      · exact hn k (h4 ▸ hk)
      · rw [h4] at hk
        have : w.heap.size = k := by simpa using hk
        omega
    · have h : v.ownBlock = some k := h
      rcases hown.2 with ⟨rfl, _⟩ | ⟨g, cap, cur, rfl, _, hg, _⟩
      · cases h
      · have : g = k := by simpa [Value.ownBlock] using h
        subst this
        exact ⟨cur, hg⟩
theorem wpList_append_rt {w : World} {ops : Array Oper} {rest : List Oper} {o : Oper} {a : Act} {Q : Exit → Act → World → Prop} (hgd : o.guard = none) (s x : Operand) (t tx : TypeId)
    (ho : o.op = .call { callee := .builtin .append, args := #[s, x], argTypes := #[t, tx] }) (B : Nat) (e : TypeId) (i : TypeInfo) (z : Value) (bytes : Nat) (ht : P.underlying t = some (.slice e)) (hi : P.info? e = some i) (hz : i.zero = some z)
    (hsize : i.size = 1) (hby : i.bytes = bytes) (hzs : z.cells.size = 1) (v : Value) (xs : List Value) (hs : a.eval s = v) (hr : Rs B w e v xs) (hB : B ≤ w.heap.size)
    (xv : Value) (m : Nat) (news : List Value) (hxv : a.eval x = xv) (hx : Src P 1 tx xv m news w) (h63 : xs.length + m ≤ maxLen) (hbytes : (xs.length + m) * bytes ≤ 140737488355328)
    (h : ∀ v' w', Rs B w' e v' (xs ++ news) → Fr (RsT w B e) w w' → wpList P ops Q rest (a.put o.dst v') w') : wpList P ops Q (o :: rest) a w :=
  wpList_plain hgd fun K hK => by
    obtain ⟨v', w', hrun, h2, h3⟩ := run_append_rt (P := P) t tx o.type e i z bytes ht hi hz hsize hby hzs hr hB hx h63 hbytes
    unfold Oper.wp execOp
    simp only [ho, resolve, invoke, builtin, Sem.run_bind, Sem.run_pure, Result.andThen_ok, List.map_toArray, List.map_cons, List.map_nil, hs, hxv, hrun]
    exact hK _ _ (h v' w' h2 h3)
end
theorem Fr.heapT {w w' : World} {B : Nat} {t te : TypeId} (hf : Fr (RsT w B t) w w') (hne : t ≠ te) {b : Nat} {cs : Array Value} (hb : w.heap[b]? = some (.cells cs te (0, 0))) : w'.heap[b]? = some (.cells cs te (0, 0)) :=
  hf.heap hb (fun ⟨_, cur, hc⟩ => by rw [hb] at hc; simp at hc; exact hne hc.2.symm)
theorem Rs.frT {w w' : World} {B : Nat} {t te : TypeId} {v : Value} {xs : List Value} (h : Rs B w te v xs) (hf : Fr (RsT w B t) w w') (hne : t ≠ te) : Rs B w' te v xs := by
  rcases h with h | ⟨h, hn⟩
  · exact .inl h
  · refine .inr ⟨h.fr hf fun k hk hT => ?_, hn⟩
    obtain ⟨_, cur, hc⟩ := hT
    rcases h.2 with ⟨rfl, _⟩ | ⟨g, cap, cur', rfl, _, hg, _⟩
    · cases hk
    · have : g = k := by simpa [Value.ownBlock] using hk
      subst this
      rw [hg] at hc
      simp at hc
      exact hne hc.2.symm
theorem Fr.newT {w w1 w2 : World} {B : Nat} {t : TypeId} (h : Fr No w w1) (hB : w.heap.size ≤ B) (k : Fr (RsT w1 B t) w1 w2) : Fr No w w2 :=
  h.trans' k (fun i hi hy => by have := hy.1; omega)

/-- A row of something is stored into. -/
theorem Rs.set {B : Nat} {w : World} {t : TypeId} {q : Option Addr} {n cap : Nat} {xs : List Value} (h : Rs B w t (.slice q n cap) xs) {k : Nat} (hk : k < xs.length) (u : Value) :
    ∃ g c, q = some ⟨g, 0, none⟩ ∧ B ≤ g ∧ w.cell? ⟨g, k, none⟩ = some c ∧ w.frozen? ⟨g, k, none⟩ = false ∧ (∃ cur, w.heap[g]? = some (.cells cur t (0, 0))) ∧ Rs B (w.setCell ⟨g, k, none⟩ u) t (.slice q n cap) (xs.set k u) := by
  rcases h with ⟨rfl, _⟩ | ⟨h, hb⟩
  · simp at hk
  · rcases h.2 with ⟨h1, h2⟩ | ⟨g, cap', cur, h1, h0, hg, h3, h4, h5, h6⟩
    · have := h.1
      rw [h2] at this
      omega
    · have hq : q = some ⟨g, 0, none⟩ := by injection h1
      have hkc : k < cur.size := by omega
      refine ⟨g, cur[k], hq, hb g (by rw [h1]; rfl), by rw [cell_of_row w g k cur t (0, 0) hg]; simp [hkc], frozen_of_row w g _ cur t hg, ⟨cur, hg⟩, .inr ⟨⟨by simp, .inr ⟨g, cap', cur.setIfInBounds k u, by simpa using h1, h0, heap_setCell_at u hg, by simpa using h3, h4, by simpa using h5, ?_⟩⟩, hb⟩⟩
      simp only [Array.toList_setIfInBounds, List.length_set, Nat.mul_one] at h6 ⊢
      rw [List.take_set, h6]

theorem Rs.cap_le {B : Nat} {w : World} {t : TypeId} {q : Option Addr} {n cap : Nat} {xs : List Value} (h : Rs B w t (.slice q n cap) xs) : n ≤ cap := by
  rcases h with ⟨_, a, h⟩ | ⟨h, _⟩
  · injection h with _ h1 h2
    omega
  · rcases h.2 with ⟨h1, h2⟩ | ⟨g, cap', cur, h1, _, _, h3, _⟩
    · injection h1 with _ h4 h5
      omega
    · injection h1 with _ h4 h5
      omega
/-- An event in a box that was made from block B on. -/
structure BoxAt (B : Nat) (w : World) (b : Nat) (s : EvP) (e : Ev) : Prop where
  lo : B ≤ b
  cells : w.heap[b]? = some (.cells (eCells s e) 34 (0, 0))
  new : EvNew B w s e
theorem BoxAt.fr {B : Nat} {w w' : World} {b : Nat} {s : EvP} {e : Ev} (h : BoxAt B w b s e) (hf : Fr No w w') : BoxAt B w' b s e := ⟨h.lo, hf.heap0 h.cells, h.new.fr hf⟩
theorem BoxAt.mono {B B' : Nat} {w : World} {b : Nat} {s : EvP} {e : Ev} (h : BoxAt B w b s e) (hB : B' ≤ B) : BoxAt B' w b s e := ⟨Nat.le_trans hB h.lo, h.cells, h.new.mono hB⟩
theorem BoxAt.lt {B : Nat} {w : World} {b : Nat} {s : EvP} {e : Ev} (h : BoxAt B w b s e) : b < w.heap.size := lt_of_block h.cells
theorem BoxAt.cells4 {B : Nat} {w : World} {b : Nat} {s : EvP} {e : Ev} (h : BoxAt B w b s e) : w.cell? ⟨b, 0, none⟩ = some (.int .u8 e.v) ∧ w.cell? ⟨b, 1, none⟩ = some (.int .u8 e.kind) ∧ w.cell? ⟨b, 2, none⟩ = some (.slice s.qn e.nums.length s.cn) ∧ w.cell? ⟨b, 3, none⟩ = some (.slice s.qt e.texts.length s.ct) ∧
    w.frozen? ⟨b, 0, none⟩ = false ∧ w.frozen? ⟨b, 1, none⟩ = false ∧ w.frozen? ⟨b, 2, none⟩ = false ∧ w.frozen? ⟨b, 3, none⟩ = false := Go.Proofs.YtnmfmedoocnofaaDoor.cells4 h.cells
/-- x := own(e): the box behind the call. -/
theorem BoxAt.made {w w1 : World} {s : EvP} {e : Ev} (hf : Fr No w w1) (h : EvNew w.heap.size w1 s e) : BoxAt w.heap.size (w1.alloc (.cells (eCells s e) 34)) w1.heap.size s e ∧ Fr No w (w1.alloc (.cells (eCells s e) 34)) :=
  ⟨⟨hf.size, Go.heap_alloc_new _ _, h.fr ((Fr.refl w1).alloc _)⟩, hf.alloc _⟩
/-- A field is turned. -/
theorem BoxAt.setV {B : Nat} {w : World} {b : Nat} {s : EvP} {e : Ev} (h : BoxAt B w b s e) (v : Nat) : BoxAt B (w.setCell ⟨b, 0, none⟩ (.int .u8 v)) b s { e with v := v } :=
  have hf : Fr (Only b) w (w.setCell ⟨b, 0, none⟩ (.int .u8 v)) := (Fr.refl w).set_only _ _
  ⟨h.lo, heap_setCell_at (i := 0) _ h.cells, ⟨(h.new.only h.cells hf).nums, (h.new.only h.cells hf).texts⟩⟩
theorem BoxAt.setK {B : Nat} {w : World} {b : Nat} {s : EvP} {e : Ev} (h : BoxAt B w b s e) (v : Nat) : BoxAt B (w.setCell ⟨b, 1, none⟩ (.int .u8 v)) b s { e with kind := v } :=
  have hf : Fr (Only b) w (w.setCell ⟨b, 1, none⟩ (.int .u8 v)) := (Fr.refl w).set_only _ _
  ⟨h.lo, heap_setCell_at (i := 1) _ h.cells, ⟨(h.new.only h.cells hf).nums, (h.new.only h.cells hf).texts⟩⟩
/-- A row is put in another's place. -/
theorem BoxAt.setN {B : Nat} {w w1 : World} {b : Nat} {s : EvP} {e : Ev} (h : BoxAt B w b s e) (hf : Fr (RsT w B 2) w w1) {q : Option Addr} {n c : Nat} {l : List Int} (hn : n = l.length) (hr : Rs B w1 2 (.slice q n c) (l.map numV)) :
    BoxAt B (w1.setCell ⟨b, 2, none⟩ (.slice q n c)) b ⟨q, c, s.qt, s.ct⟩ { e with nums := l } := by
  subst hn
  have hb := hf.heapT (by decide) h.cells
  have h2 : Fr (Only b) w1 (w1.setCell ⟨b, 2, none⟩ (.slice q l.length c)) := (Fr.refl w1).set_only _ _
  exact ⟨h.lo, heap_setCell_at (i := 2) _ hb, ⟨hr.only (by decide) hb h2, (h.new.texts.frT hf (by decide)).only (by decide) hb h2⟩⟩
theorem BoxAt.setT {B : Nat} {w w1 : World} {b : Nat} {s : EvP} {e : Ev} (h : BoxAt B w b s e) (hf : Fr (RsT w B 9) w w1) {q : Option Addr} {n c : Nat} {l : List (List UInt8)} (hn : n = l.length) (hr : Rs B w1 9 (.slice q n c) (l.map strV)) :
    BoxAt B (w1.setCell ⟨b, 3, none⟩ (.slice q n c)) b ⟨s.qn, s.cn, q, c⟩ { e with texts := l } := by
  subst hn
  have hb := hf.heapT (by decide) h.cells
  have h2 : Fr (Only b) w1 (w1.setCell ⟨b, 3, none⟩ (.slice q l.length c)) := (Fr.refl w1).set_only _ _
  exact ⟨h.lo, heap_setCell_at (i := 3) _ hb, ⟨(h.new.nums.frT hf (by decide)).only (by decide) hb h2, hr.only (by decide) hb h2⟩⟩
/-- What is written in the box, or in its rows, is new. -/
theorem BoxAt.fr_set {B : Nat} {w0 w w1 : World} {b : Nat} {s : EvP} {e : Ev} (h : BoxAt B w b s e) (h0 : Fr No w0 w1) (hB : w0.heap.size ≤ B) (i : Nat) (u : Value) : Fr No w0 (w1.setCell ⟨b, i, none⟩ u) :=
  h0.newOnly (Nat.le_trans hB h.lo) ((Fr.refl w1).set_only _ _)
/-- A number is stored into the box's row. -/
theorem BoxAt.store {B : Nat} {w : World} {b : Nat} {s : EvP} {e : Ev} (h : BoxAt B w b s e) {k : Nat} (hk : k < e.nums.length) (n : Int) :
    ∃ g c, s.qn = some ⟨g, 0, none⟩ ∧ B ≤ g ∧ w.cell? ⟨g, k, none⟩ = some c ∧ w.frozen? ⟨g, k, none⟩ = false ∧ (∃ cur, w.heap[g]? = some (.cells cur 2 (0, 0))) ∧ BoxAt B (w.setCell ⟨g, k, none⟩ (numV n)) b s { e with nums := e.nums.set k n } := by
  obtain ⟨g, c, h1, h2, h3, h4, ⟨cur, hc⟩, h5⟩ := h.new.nums.set (k := k) (by simpa using hk) (numV n)
  have hf : Fr (Only g) w (w.setCell ⟨g, k, none⟩ (numV n)) := (Fr.refl w).set_only _ _
  have hne : b ≠ g := by
    intro e
    subst e
    have := h.cells
    rw [hc] at this
    simp at this
  refine ⟨g, c, h1, h2, h3, h4, ⟨cur, hc⟩, ⟨h.lo, ?_, ⟨?_, h.new.texts.only (by decide) hc hf⟩⟩⟩
  · have := hf.heap h.cells hne
    simpa [eCells] using this
  · rw [List.map_set]
    simpa using h5
/-- A text is stored into the box's row. -/
theorem BoxAt.storeT {B : Nat} {w : World} {b : Nat} {s : EvP} {e : Ev} (h : BoxAt B w b s e) {k : Nat} (hk : k < e.texts.length) (n : List UInt8) :
    ∃ g c, s.qt = some ⟨g, 0, none⟩ ∧ B ≤ g ∧ w.cell? ⟨g, k, none⟩ = some c ∧ w.frozen? ⟨g, k, none⟩ = false ∧ BoxAt B (w.setCell ⟨g, k, none⟩ (strV n)) b s { e with texts := e.texts.set k n } := by
  obtain ⟨g, c, h1, h2, h3, h4, ⟨cur, hc⟩, h5⟩ := h.new.texts.set (k := k) (by simpa using hk) (strV n)
  have hf : Fr (Only g) w (w.setCell ⟨g, k, none⟩ (strV n)) := (Fr.refl w).set_only _ _
  have hne : b ≠ g := by
    intro e
    subst e
    have := h.cells
    rw [hc] at this
    simp at this
  refine ⟨g, c, h1, h2, h3, h4, ⟨h.lo, ?_, ⟨h.new.nums.only (by decide) hc hf, ?_⟩⟩⟩
  · have := hf.heap h.cells hne
    simpa [eCells] using this
  · rw [List.map_set]
    simpa using h5
/-- Another event of its own is put into the box. -/
theorem BoxAt.over {B : Nat} {w w1 : World} {b : Nat} {s s' : EvP} {e0 e : Ev} (h : BoxAt B w b s e0) (hf : Fr No w w1) (hn : EvNew w.heap.size w1 s' e) (hB : B ≤ w.heap.size) :
    BoxAt B ((((w1.setCell ⟨b, 0, none⟩ (.int .u8 e.v)).setCell ⟨b, 1, none⟩ (.int .u8 e.kind)).setCell ⟨b, 2, none⟩ (.slice s'.qn e.nums.length s'.cn)).setCell ⟨b, 3, none⟩ (.slice s'.qt e.texts.length s'.ct)) b s' e ∧
    Fr (Only b) w1 ((((w1.setCell ⟨b, 0, none⟩ (.int .u8 e.v)).setCell ⟨b, 1, none⟩ (.int .u8 e.kind)).setCell ⟨b, 2, none⟩ (.slice s'.qn e.nums.length s'.cn)).setCell ⟨b, 3, none⟩ (.slice s'.qt e.texts.length s'.ct)) := by
  obtain ⟨h1, h2⟩ := store4 (hf.heap0 h.cells) (.int .u8 e.v) (.int .u8 e.kind) (.slice s'.qn e.nums.length s'.cn) (.slice s'.qt e.texts.length s'.ct)
  exact ⟨⟨h.lo, h1, (hn.mono hB).only (hf.heap0 h.cells) h2⟩, h2⟩
/-- A box for an event, whatever lies in it. -/
structure EvBox (B : Nat) (w : World) (b : Nat) : Prop where
  lo : B ≤ b
  cells : ∃ c0 c1 c2 c3, w.heap[b]? = some (.cells #[c0, c1, c2, c3] 34 (0, 0))
theorem BoxAt.evBox {B : Nat} {w : World} {b : Nat} {s : EvP} {e : Ev} (h : BoxAt B w b s e) : EvBox B w b := ⟨h.lo, _, _, _, _, h.cells⟩
theorem EvBox.fr {B : Nat} {w w' : World} {b : Nat} (h : EvBox B w b) (hf : Fr No w w') : EvBox B w' b := by
  obtain ⟨c0, c1, c2, c3, hc⟩ := h.cells
  exact ⟨h.lo, c0, c1, c2, c3, hf.heap0 hc⟩
theorem EvBox.only {B : Nat} {w w' : World} {b g : Nat} (h : EvBox B w b) (hf : Fr (Only g) w w') (hne : b ≠ g) : EvBox B w' b := by
  obtain ⟨c0, c1, c2, c3, hc⟩ := h.cells
  exact ⟨h.lo, c0, c1, c2, c3, hf.heap hc hne⟩
theorem EvBox.ne {B : Nat} {w : World} {b g : Nat} {cur : Array Value} {t : TypeId} (h : EvBox B w b) (hg : w.heap[g]? = some (.cells cur t (0, 0))) (ht : t ≠ 34) : b ≠ g := by
  intro e
  subst e
  obtain ⟨c0, c1, c2, c3, hc⟩ := h.cells
  rw [hg] at hc
  simp at hc
  exact ht hc.2
theorem EvBox.over {B : Nat} {w w1 : World} {b : Nat} {s' : EvP} {e : Ev} (h : EvBox B w b) (hf : Fr No w w1) (hn : EvNew w.heap.size w1 s' e) (hB : B ≤ w.heap.size) :
    (∃ c0 c1 c2 c3, w1.heap[b]? = some (.cells #[c0, c1, c2, c3] 34 (0, 0))) ∧
    BoxAt B ((((w1.setCell ⟨b, 0, none⟩ (.int .u8 e.v)).setCell ⟨b, 1, none⟩ (.int .u8 e.kind)).setCell ⟨b, 2, none⟩ (.slice s'.qn e.nums.length s'.cn)).setCell ⟨b, 3, none⟩ (.slice s'.qt e.texts.length s'.ct)) b s' e ∧
    Fr (Only b) w1 ((((w1.setCell ⟨b, 0, none⟩ (.int .u8 e.v)).setCell ⟨b, 1, none⟩ (.int .u8 e.kind)).setCell ⟨b, 2, none⟩ (.slice s'.qn e.nums.length s'.cn)).setCell ⟨b, 3, none⟩ (.slice s'.qt e.texts.length s'.ct)) := by
  obtain ⟨c0, c1, c2, c3, hc⟩ := (h.fr hf).cells
  obtain ⟨h1, h2⟩ := store4 hc (.int .u8 e.v) (.int .u8 e.kind) (.slice s'.qn e.nums.length s'.cn) (.slice s'.qt e.texts.length s'.ct)
  exact ⟨⟨c0, c1, c2, c3, hc⟩, ⟨h.lo, h1, (hn.mono hB).only hc h2⟩, h2⟩
/-- Another event's box, or its rows' blocks, are written. -/
theorem BoxAt.other {B B' : Nat} {w w' : World} {b g : Nat} {s : EvP} {e : Ev} (h : BoxAt B w b s e) (hg : EvBox B' w g) (hf : Fr (Only g) w w') (hne : b ≠ g) : BoxAt B w' b s e := by
  obtain ⟨c0, c1, c2, c3, hc⟩ := hg.cells
  exact ⟨h.lo, hf.heap h.cells hne, h.new.only hc hf⟩
section
variable {P : Program}
theorem step_append_rw {w W : World} {ops : Array Oper} {o : Oper} {a : Act} {K : Act → World → Prop} {Q : Exit → Act → World → Prop} {E : Prop} (hgd : o.guard = none) (s x : Operand) (t tx : TypeId)
    (ho : o.op = .call { callee := .builtin .append, args := #[s, x], argTypes := #[t, tx] }) (e : TypeId) (i : TypeInfo) (z : Value) (bytes : Nat) (ht : P.underlying t = some (.slice e)) (hi : P.info? e = some i) (hz : i.zero = some z)
    (hsize : i.size = 1) (hby : i.bytes = bytes) (hzs : z.cells.size = 1) (v : Value) (xs : List Value) (hs : a.eval s = v) (hr : Rs W.heap.size w e v xs)
    (xv : Value) (m : Nat) (news : List Value) (hxv : a.eval x = xv) (hx : ∀ w', Fr No W w' → Src P 1 tx xv m news w') (h63 : xs.length + m ≤ maxLen) (hbytes : (xs.length + m) * bytes ≤ 140737488355328) (hF : Fr No W w)
    (h : ∀ q cap w', Rs W.heap.size w' e (.slice q (xs ++ news).length cap) (xs ++ news) → Fr No W w' → K (a.put o.dst (.slice q (xs ++ news).length cap)) w') :
    if Region.wanted o (yielded ops a.tmps) = true then Oper.wp P o a w K Q else E := by
  have hw : Region.wanted o (yielded ops a.tmps) = true := by simp [Region.wanted, hgd]
  rw [if_pos hw]
  obtain ⟨v', w', hrun, h2, h3⟩ := run_append_rt (P := P) (B := W.heap.size) t tx o.type e i z bytes ht hi hz hsize hby hzs hr hF.size (hx _ hF) h63 hbytes
  unfold Oper.wp execOp
  simp only [ho, resolve, invoke, builtin, Sem.run_bind, Sem.run_pure, Result.andThen_ok, List.map_toArray, List.map_cons, List.map_nil, hs, hxv, hrun]
  obtain ⟨q, cap, rfl⟩ := h2.shape
  exact h q cap w' h2 (hF.newT (Nat.le_refl _) h3)
end
theorem BoxAt.at_ {B : Nat} {w : World} {b : Nat} {s : EvP} {e : Ev} (h : BoxAt B w b s e) (hv : e.v ≤ 255) (hk : e.kind ≤ 255) (hn : e.nums.length ≤ 9223372036854775807) (ht : e.texts.length ≤ 9223372036854775807)
    (htx : ∀ s, s ∈ e.texts → s.length ≤ 9223372036854775807) (hr : ∀ n, n ∈ e.nums → -9223372036854775808 ≤ n ∧ n ≤ 9223372036854775807) : EvAt w s e :=
  ⟨hv, hk, h.new.nums.at_, h.new.texts.at_, hn, ht, htx, hr⟩
end Go.Proofs.YtnmfmedoocnofaaDoor
