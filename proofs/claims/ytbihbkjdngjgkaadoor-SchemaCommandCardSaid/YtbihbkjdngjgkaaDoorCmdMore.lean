/-
  A region that makes a command out of another one: its numbers and one more. No statement of the seat is proved here.
-/
import Derived.Test.YtbihbkjdngjgkaaDoorBox
import Derived.Test.YtbihbkjdngjgkaaDoorMayCmd
namespace Go.Proofs.YtbihbkjdngjgkaaDoor
open Go.RowKit

section
variable {P : Program}
theorem wp_append_rt {w : World} {o : Oper} {a : Act} {K : Act → World → Prop} {Q : Exit → Act → World → Prop} (s x : Operand) (t tx : TypeId)
    (ho : o.op = .call { callee := .builtin .append, args := #[s, x], argTypes := #[t, tx] }) (B : Nat) (e : TypeId) (i : TypeInfo) (z : Value) (bytes : Nat) (ht : P.underlying t = some (.slice e)) (hi : P.info? e = some i) (hz : i.zero = some z)
    (hsize : i.size = 1) (hby : i.bytes = bytes) (hzs : z.cells.size = 1) (v : Value) (xs : List Value) (hs : a.eval s = v) (hr : Rs B w e v xs) (hB : B ≤ w.heap.size)
    (xv : Value) (m : Nat) (news : List Value) (hxv : a.eval x = xv) (hx : Src P 1 tx xv m news w) (h63 : xs.length + m ≤ maxLen) (hbytes : (xs.length + m) * bytes ≤ 140737488355328)
    (h : ∀ v' w', Rs B w' e v' (xs ++ news) → Fr (RsT w B e) w w' → K (a.put o.dst v') w') : o.wp P a w K Q := by
  obtain ⟨v', w', hrun, h2, h3⟩ := run_append_rt (P := P) t tx o.type e i z bytes ht hi hz hsize hby hzs hr hB hx h63 hbytes
  unfold Oper.wp execOp
  simp only [ho, resolve, invoke, builtin, Sem.run_bind, Sem.run_pure, Result.andThen_ok, List.map_toArray, List.map_cons, List.map_nil, hs, hxv, hrun]
  exact h v' w' h2 h3
theorem wp_append0 {w : World} {o : Oper} {a : Act} {K : Act → World → Prop} {Q : Exit → Act → World → Prop} (s x : Operand) (t tx : TypeId)
    (ho : o.op = .call { callee := .builtin .append, args := #[s, x], argTypes := #[t, tx] }) (B : Nat) (e : TypeId) (i : TypeInfo) (z : Value) (bytes : Nat) (ht : P.underlying t = some (.slice e)) (hi : P.info? e = some i) (hz : i.zero = some z)
    (hsize : i.size = 1) (hby : i.bytes = bytes) (hzs : z.cells.size = 1) (a0 : Option Addr) (hs : a.eval s = .slice a0 0 0) (hB : B ≤ w.heap.size)
    (xv : Value) (m : Nat) (news : List Value) (hxv : a.eval x = xv) (hx : Src P 1 tx xv m news w) (h63 : m ≤ maxLen) (hbytes : m * bytes ≤ 140737488355328)
    (h : ∀ v' w', Rs B w' e v' news → Fr No w w' → K (a.put o.dst v') w') : o.wp P a w K Q := by
  obtain ⟨v', w', hrun, h2, h3, _⟩ := run_append0 (P := P) (B := B) t tx o.type e i z bytes ht hi hz hsize hby hzs a0 hB hx h63 hbytes
  unfold Oper.wp execOp
  simp only [ho, resolve, invoke, builtin, Sem.run_bind, Sem.run_pure, Result.andThen_ok, List.map_toArray, List.map_cons, List.map_nil, hs, hxv, hrun]
  exact h v' w' h2 h3
end

/-- What the operations of the region have left, in whatever order. -/
structure MoreRel (W : World) (b : Nat) (q : Option Addr) (cn : Nat) (c : Cm) (n : Int) (l0 l1 l2 l3 l4 l5 l6 l7 l8 l9 l10 l11 l12 l13 : Bool) (x0 x1 x2 x3 x4 x5 x6 x7 x8 x9 x10 x11 x12 : Value) (w : World) : Prop where
  fr : Fr No W w
  a0 : l0 = true → x0 = .pointer (some ⟨b, 0, none⟩)
  a1 : l1 = true → x1 = .int .u8 c.kind
  a2 : l2 = true → ∃ a, x2 = .slice a 0 0
  a3 : l3 = true → x3 = .pointer (some ⟨b, 1, none⟩)
  a4 : l4 = true → x4 = .slice q c.nums.length cn
  a5 : l5 = true → l8 = false → Rs W.heap.size w 2 x5 (c.nums.map numV)
  a6 : l6 = true → x6 = .int .i64 n
  a7 : l7 = true → l8 = false → ∃ g, x7 = .slice (some ⟨g, 0, none⟩) 1 1 ∧ w.heap[g]? = some (.cells #[.int .i64 n] 2 (0, 0))
  a8 : l8 = true → Rs W.heap.size w 2 x8 ((c.nums ++ [n]).map numV)
  a9 : l9 = true → x9 = .pointer (some ⟨b, 2, none⟩)
  a10 : l10 = true → x10 = .string ⟨c.text.toArray⟩
  a11 : l11 = true → l8 = true ∧ x11 = .agg #[.int .u8 c.kind, x8, .string ⟨c.text.toArray⟩]
  a12 : l12 = true → ∃ g c0 c1 c2, x12 = .pointer (some ⟨g, 0, none⟩) ∧ W.heap.size ≤ g ∧ w.heap[g]? = some (.cells #[c0, c1, c2] 39 (0, 0)) ∧ (l13 = true → #[c0, c1, c2] = #[.int .u8 c.kind, x8, .string ⟨c.text.toArray⟩])
  o13 : l12 = false → l13 = false
  o8 : l8 = false → l13 = false
variable {W : World} {b : Nat} {q : Option Addr} {cn : Nat} {c : Cm} {n : Int} {l0 l1 l2 l3 l4 l5 l6 l7 l8 l9 l10 l11 l12 l13 : Bool} {x0 x1 x2 x3 x4 x5 x6 x7 x8 x9 x10 x11 x12 : Value} {w w' : World}
theorem MoreRel.start (x0 x1 x2 x3 x4 x5 x6 x7 x8 x9 x10 x11 x12 : Value) (hf : Fr No W w) : MoreRel W b q cn c n false false false false false false false false false false false false false false x0 x1 x2 x3 x4 x5 x6 x7 x8 x9 x10 x11 x12 w := by
  refine ⟨hf, ?_, ?_, ?_, ?_, ?_, ?_, ?_, ?_, ?_, ?_, ?_, ?_, ?_, fun _ => rfl, fun _ => rfl⟩ <;> (intro h; cases h)
theorem MoreRel.keep (h : MoreRel W b q cn c n l0 l1 l2 l3 l4 l5 l6 l7 l8 l9 l10 l11 l12 l13 x0 x1 x2 x3 x4 x5 x6 x7 x8 x9 x10 x11 x12 w) (hf : Fr No w w') : MoreRel W b q cn c n l0 l1 l2 l3 l4 l5 l6 l7 l8 l9 l10 l11 l12 l13 x0 x1 x2 x3 x4 x5 x6 x7 x8 x9 x10 x11 x12 w' :=
  ⟨h.fr.trans hf, h.a0, h.a1, h.a2, h.a3, h.a4, fun a b => (h.a5 a b).fr0 hf, h.a6, fun a b => (h.a7 a b).imp fun g h => ⟨h.1, hf.heap0 h.2⟩, fun a => (h.a8 a).fr0 hf, h.a9, h.a10, h.a11,
   fun a => by
    obtain ⟨g, c0, c1, c2, h1, h2, h3, h4⟩ := h.a12 a
    exact ⟨g, c0, c1, c2, h1, h2, hf.heap0 h3, h4⟩, h.o13, h.o8⟩
/-- The second append. -/
theorem MoreRel.app (h : MoreRel W b q cn c n l0 l1 l2 l3 l4 l5 l6 l7 false l9 l10 l11 l12 l13 x0 x1 x2 x3 x4 x5 x6 x7 x8 x9 x10 x11 x12 w) {v : Value} (hr : Rs W.heap.size w' 2 v ((c.nums ++ [n]).map numV)) (hf : Fr (RsT w W.heap.size 2) w w') :
    MoreRel W b q cn c n l0 l1 l2 l3 l4 l5 l6 l7 true l9 l10 l11 l12 l13 x0 x1 x2 x3 x4 x5 x6 x7 v x9 x10 x11 x12 w' := by
  have h13 := h.o8 rfl
  subst h13
  refine ⟨h.fr.newT (Nat.le_refl _) hf, h.a0, h.a1, h.a2, h.a3, h.a4, fun _ h => (by cases h), h.a6, fun _ h => (by cases h), fun _ => hr, h.a9, h.a10, fun a => ?_, fun a => ?_, h.o13, fun h => (by cases h)⟩
  · have := (h.a11 a).1
    cases this
  · obtain ⟨g, c0, c1, c2, h1, h2, h3, _⟩ := h.a12 a
    exact ⟨g, c0, c1, c2, h1, h2, hf.heapT (by decide) h3, fun h => (by cases h)⟩
theorem MoreRel.box (h : MoreRel W b q cn c n l0 l1 l2 l3 l4 l5 l6 l7 l8 l9 l10 l11 false l13 x0 x1 x2 x3 x4 x5 x6 x7 x8 x9 x10 x11 x12 w) (c0 c1 c2 : Value) :
    MoreRel W b q cn c n l0 l1 l2 l3 l4 l5 l6 l7 l8 l9 l10 l11 true l13 x0 x1 x2 x3 x4 x5 x6 x7 x8 x9 x10 x11 (.pointer (some ⟨w.heap.size, 0, none⟩)) (w.alloc (.cells #[c0, c1, c2] 39)) := by
  have h13 := h.o13 rfl
  subst h13
  have hk := h.keep ((Fr.refl w).alloc (.cells #[c0, c1, c2] 39))
  exact ⟨hk.fr, hk.a0, hk.a1, hk.a2, hk.a3, hk.a4, hk.a5, hk.a6, hk.a7, hk.a8, hk.a9, hk.a10, hk.a11, fun _ => ⟨_, c0, c1, c2, rfl, h.fr.size, Go.heap_alloc_new _ _, fun h => (by cases h)⟩, fun h => (by cases h), hk.o8⟩
theorem MoreRel.put (h : MoreRel W b q cn c n l0 l1 l2 l3 l4 l5 l6 l7 true l9 l10 l11 true l13 x0 x1 x2 x3 x4 x5 x6 x7 x8 x9 x10 x11 x12 w) {g : Nat} (hx : x12 = .pointer (some ⟨g, 0, none⟩)) :
    MoreRel W b q cn c n l0 l1 l2 l3 l4 l5 l6 l7 true l9 l10 l11 true true x0 x1 x2 x3 x4 x5 x6 x7 x8 x9 x10 x11 x12 (((w.setCell ⟨g, 0, none⟩ (.int .u8 c.kind)).setCell ⟨g, 1, none⟩ x8).setCell ⟨g, 2, none⟩ (.string ⟨c.text.toArray⟩)) := by
  obtain ⟨g', c0, c1, c2, h1, h2, h3, _⟩ := h.a12 rfl
  obtain rfl : g = g' := by rw [hx] at h1; simpa using h1
  have hf : Fr (Only g) w (((w.setCell ⟨g, 0, none⟩ (.int .u8 c.kind)).setCell ⟨g, 1, none⟩ x8).setCell ⟨g, 2, none⟩ (.string ⟨c.text.toArray⟩)) := (((Fr.refl _).set_only _ _).set_only _ _).set_only _ _
  have hc := heap_setCell_at (i := 2) (.string ⟨c.text.toArray⟩) (heap_setCell_at (i := 1) x8 (heap_setCell_at (i := 0) (.int .u8 c.kind) h3))
  exact ⟨h.fr.newOnly h2 hf, h.a0, h.a1, h.a2, h.a3, h.a4, fun _ h => (by cases h), h.a6, fun _ h => (by cases h), fun a => (h.a8 a).only (by decide) h3 hf, h.a9, h.a10, h.a11,
    fun _ => ⟨g, _, _, _, hx, h2, hc, fun _ => rfl⟩, fun h => (by cases h), fun h => (by cases h)⟩
theorem MoreRel.ends (h : MoreRel W b q cn c n l0 l1 l2 l3 l4 l5 l6 l7 true l9 l10 l11 true true x0 x1 x2 x3 x4 x5 x6 x7 x8 x9 x10 x11 x12 w) :
    ∃ g q' p', x12 = .pointer (some ⟨g, 0, none⟩) ∧ W.heap.size ≤ g ∧ w.heap[g]? = some (.cells #[.int .u8 c.kind, .slice q' (c.nums ++ [n]).length p', .string ⟨c.text.toArray⟩] 39 (0, 0)) ∧ SlAt w q' ((c.nums ++ [n]).map numV) := by
  obtain ⟨g, c0, c1, c2, h1, h2, h3, h4⟩ := h.a12 rfl
  obtain ⟨q', p', rfl, hs⟩ := (h.a8 rfl).at'
  rw [h4 rfl] at h3
  exact ⟨g, q', p', h1, h2, by simpa using h3, hs⟩
end Go.Proofs.YtbihbkjdngjgkaaDoor
