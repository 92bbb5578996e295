/-
  Helper facts on worlds, frames and slices, over any program: no statement of the seat is proved here. No conditions.
-/
import Derived.WalkKit
import Derived.WalkSpells
import Derived.WalkLawsBesides
import Derived.Deep.AppendSrc
namespace Go.Proofs.YtgjabbhgmecbbaaDoor
open Go.RowKit

theorem hid {p : Prop} (h : p) : Hid p := h

/-- The frame: but for the blocks of X, what was there in w stands in w'. -/
structure Fr (X : Nat → Prop) (w w' : World) : Prop where
  os : w'.os = w.os
  tape : w'.tape = w.tape
  output : w'.output = w.output
  size : w.heap.size ≤ w'.heap.size
  block : ∀ k, k < w.heap.size → ¬ X k → w'.heap[k]? = w.heap[k]?

/-- No old block has turned. -/
def No : Nat → Prop := fun _ => False
/-- One block may have turned. -/
def Only (b : Nat) : Nat → Prop := fun k => k = b
/-- A block, and perhaps another one. -/
def OnlyO (b : Nat) (o : Option Nat) : Nat → Prop := fun k => k = b ∨ o = some k
def OnlyS (o : Option Nat) : Nat → Prop := fun k => o = some k

theorem Fr.refl {X : Nat → Prop} (w : World) : Fr X w w := ⟨rfl, rfl, rfl, Nat.le_refl _, fun _ _ _ => rfl⟩
theorem Fr.mono {X Y : Nat → Prop} {w w' : World} (h : Fr X w w') (hXY : ∀ k, k < w.heap.size → X k → Y k) : Fr Y w w' :=
  ⟨h.os, h.tape, h.output, h.size, fun k hk hn => h.block k hk (fun hx => hn (hXY k hk hx))⟩
theorem Fr.of0 {Y : Nat → Prop} {w w' : World} (h : Fr No w w') : Fr Y w w' := h.mono (fun _ _ hx => hx.elim)
theorem Fr.trans {X : Nat → Prop} {a b c : World} (h : Fr X a b) (k : Fr X b c) : Fr X a c :=
  ⟨k.os.trans h.os, k.tape.trans h.tape, k.output.trans h.output, Nat.le_trans h.size k.size,
   fun i hi hn => (k.block i (Nat.lt_of_lt_of_le hi h.size) hn).trans (h.block i hi hn)⟩
/-- Two frames: what the second one turns the first one may turn, or it is new. -/
theorem Fr.trans' {X Y : Nat → Prop} {a b c : World} (h : Fr X a b) (k : Fr Y b c) (hY : ∀ i, i < a.heap.size → Y i → X i) : Fr X a c :=
  ⟨k.os.trans h.os, k.tape.trans h.tape, k.output.trans h.output, Nat.le_trans h.size k.size,
   fun i hi hn => (k.block i (Nat.lt_of_lt_of_le hi h.size) (fun hy => hn (hY i hi hy))).trans (h.block i hi hn)⟩
theorem Fr.drew {X : Nat → Prop} {a w : World} (h : Fr X a w) : Fr X a w.drew := ⟨h.os, h.tape, h.output, h.size, h.block⟩
theorem Fr.drewN {X : Nat → Prop} {a w : World} (h : Fr X a w) (n : Nat) : Fr X a (w.drewN n) := ⟨h.os, h.tape, h.output, h.size, h.block⟩
theorem Fr.alloc {X : Nat → Prop} {a w : World} (h : Fr X a w) (o : Obj) : Fr X a (w.alloc o) :=
  h.trans ⟨rfl, rfl, rfl, by simp, fun k hk _ => Below.heap_alloc _ _ _ hk⟩
theorem Fr.setCell {X : Nat → Prop} {a w : World} (h : Fr X a w) {p : Addr} (hp : X p.block ∨ a.heap.size ≤ p.block) (u : Value) : Fr X a (w.setCell p u) :=
  ⟨h.os, h.tape, h.output, by simpa [World.setCell] using h.size, fun k hk hn => by
    rw [Below.heap_setCell _ _ _ _ (fun e => by subst e; rcases hp with hp | hp; exact hn hp; omega)]
    exact h.block k hk hn⟩
theorem Fr.set_only {b : Nat} {a w : World} (h : Fr (Only b) a w) (i : Nat) (u : Value) : Fr (Only b) a (w.setCell ⟨b, i, none⟩ u) :=
  Fr.setCell (X := Only b) (p := ⟨b, i, none⟩) h (.inl (show b = b from rfl)) u
theorem Fr.below {w w' : World} (h : Fr No w w') : Below w.heap.size w w' := ⟨h.os, h.tape, h.output, h.size, fun k hk => h.block k hk id⟩
theorem Fr.of_below {X : Nat → Prop} {B : Nat} {w w' : World} (h : Below B w w') (hB : ∀ k, k < w.heap.size → ¬ X k → k < B) : Fr X w w' :=
  ⟨h.os, h.tape, h.output, h.size, fun k hk hn => h.block k (hB k hk hn)⟩
theorem Fr.heap {X : Nat → Prop} {w w' : World} (h : Fr X w w') {k : Nat} {o : Obj} (hk : w.heap[k]? = some o) (hn : ¬ X k) : w'.heap[k]? = some o :=
  (h.block k (lt_of_block hk) hn).trans hk
theorem Fr.cell {X : Nat → Prop} {w w' : World} (h : Fr X w w') {a : Addr} {v : Value} (hc : w.cell? a = some v) (hn : ¬ X a.block) : w'.cell? a = some v :=
  (World.cell?_of_block (w := w) (h.block a.block (World.block_lt_of_cell? w a hc) hn)).trans hc

theorem no_self (k : Nat) : ¬ No k := id
theorem Fr.cell0 {w w' : World} (h : Fr No w w') {a : Addr} {v : Value} (hc : w.cell? a = some v) : w'.cell? a = some v := h.cell hc id
theorem Fr.heap0 {w w' : World} (h : Fr No w w') {k : Nat} {o : Obj} (hk : w.heap[k]? = some o) : w'.heap[k]? = some o := h.heap hk id

/-- Something new was turned alone. -/
theorem Fr.newOnly {w w1 w2 : World} {b : Nat} (h : Fr No w w1) (hb : w.heap.size ≤ b) (k : Fr (Only b) w1 w2) : Fr No w w2 :=
  h.trans' k (fun i hi hy => absurd hi (by rw [show i = b from hy]; omega))
theorem Fr.newOnlyO {w w1 w2 : World} {b : Nat} {o : Option Nat} (h : Fr No w w1) (hb : w.heap.size ≤ b) (ho : ∀ g, o = some g → w.heap.size ≤ g) (k : Fr (OnlyO b o) w1 w2) : Fr No w w2 :=
  h.trans' k (fun i hi hy => by
    rcases hy with hy | hy
    · exact absurd hi (by rw [hy]; omega)
    · have := ho i hy; omega)
theorem Fr.newOnlyS {w w1 w2 : World} {o : Option Nat} (h : Fr No w w1) (ho : ∀ g, o = some g → w.heap.size ≤ g) (k : Fr (OnlyS o) w1 w2) : Fr No w w2 :=
  h.trans' k (fun i hi hy => by have := ho i hy; omega)

/-! ### blocks of cells -/
theorem heap_setCell_at {w : World} {g i : Nat} {cs : Array Value} {t : TypeId} (v : Value) (hg : w.heap[g]? = some (.cells cs t (0, 0))) :
    (w.setCell ⟨g, i, none⟩ v).heap[g]? = some (.cells (cs.setIfInBounds i v) t (0, 0)) := by
  simp [World.setCell, Array.getElem?_modify, hg]
theorem heap_setCell_past {w : World} {a : Addr} {k : Nat} {v : Value} (h : k ≠ a.block) : (w.setCell a v).heap[k]? = w.heap[k]? := Below.heap_setCell _ _ _ _ h
theorem heap_drewN (w : World) (n : Nat) : (w.drewN n).heap = w.heap := rfl

/-! ### owned rows -/
/-- Slice value v (n elements of e, size cells each) owns the cells xs. -/
abbrev Own (w : World) (e : TypeId) (size : Nat) (v : Value) (n : Nat) (xs : List Value) : Prop := w.ownsRow 0 e size v n xs

theorem Own.fr {X : Nat → Prop} {w w' : World} {e size n : Nat} {v : Value} {xs : List Value} (h : Own w e size v n xs) (hf : Fr X w w')
    (hn : ∀ k, v.ownBlock = some k → ¬ X k) : Own w' e size v n xs := by
  refine ⟨h.1, ?_⟩
  rcases h.2 with h2 | ⟨g, cap, cur, rfl, hb, hg, r⟩
  · exact .inl h2
  · exact .inr ⟨g, cap, cur, rfl, hb, hf.heap hg (hn g rfl), r⟩
theorem Own.lt {w : World} {e size n : Nat} {v : Value} {xs : List Value} (h : Own w e size v n xs) : ∀ k, v.ownBlock = some k → k < w.heap.size :=
  fun k hk => (World.ownsRow.lt h k hk).2
theorem Own.shape {w : World} {e size n : Nat} {v : Value} {xs : List Value} (h : Own w e size v n xs) : ∃ a cap, v = .slice a n cap := by
  rcases h.2 with ⟨rfl, rfl⟩ | ⟨g, cap, cur, rfl, _⟩
  · exact ⟨_, _, rfl⟩
  · exact ⟨_, _, rfl⟩
theorem Own.nil (w : World) (e size : Nat) : Own w e size (.slice none 0 0) 0 [] := World.ownsRow_nil _ _ _ _

/-! ### append, whatever is appended -/
theorem setCells_size (g : Nat) : ∀ (news : List Value) (o : Nat) (w : World), (w.setCells g o news).heap.size = w.heap.size
  | [], _, _ => rfl
  | v :: vs, o, w => (setCells_size g vs (o + 1) (w.setCell ⟨g, o, none⟩ v)).trans (World.size_setCell _ _ _)
theorem setCells_tape (g : Nat) : ∀ (news : List Value) (o : Nat) (w : World), (w.setCells g o news).tape = w.tape
  | [], _, _ => rfl
  | v :: vs, o, w => (setCells_tape g vs (o + 1) (w.setCell ⟨g, o, none⟩ v)).trans rfl
theorem heap_setCells_other (g : Nat) {k : Nat} (hk : k ≠ g) : ∀ (news : List Value) (o : Nat) (w : World), (w.setCells g o news).heap[k]? = w.heap[k]?
  | [], _, _ => rfl
  | v :: vs, o, w => (heap_setCells_other g hk vs (o + 1) (w.setCell ⟨g, o, none⟩ v)).trans (Below.heap_setCell _ _ _ _ hk)
theorem heap_setCells (g : Nat) (e : TypeId) : ∀ (news : List Value) (o : Nat) (cur : Array Value) (w : World), w.heap[g]? = some (.cells cur e (0, 0)) → o + news.length ≤ cur.size →
    ∃ cur', (w.setCells g o news).heap[g]? = some (.cells cur' e (0, 0)) ∧ cur'.size = cur.size ∧ cur'.toList.take (o + news.length) = cur.toList.take o ++ news
  | [], o, cur, w, hg, _ => ⟨cur, hg, rfl, by simp⟩
  | v :: vs, o, cur, w, hg, hl => by
    have hl' : o < cur.size := by simp at hl; omega
    have h1 := heap_setCell_at (i := o) v hg
    obtain ⟨cur', h2, h3, h4⟩ := heap_setCells g e vs (o + 1) (cur.setIfInBounds o v) (w.setCell ⟨g, o, none⟩ v) h1 (by simp at hl ⊢; omega)
    refine ⟨cur', h2, by simpa using h3, ?_⟩
    have e1 : o + (v :: vs).length = o + 1 + vs.length := by simp; omega
    rw [e1, h4]
    have e2 : (cur.setIfInBounds o v).toList = cur.toList.set o v := by simp
    rw [e2, List.take_set, List.take_succ_eq_append_getElem (by simpa using hl')]
    have e3 : (List.take o cur.toList ++ [cur.toList[o]'(by simpa using hl')]).set o v = List.take o cur.toList ++ [v] := by
      have hlen : (List.take o cur.toList).length = o := by simp; omega
      rw [List.set_append_right _ _ (by omega), hlen]
      simp
    rw [e3]
    simp

section
variable {P : Program} (w : World)
/-- append onto an owned slice, whatever is appended: it says which block the new value lives in. -/
theorem run_append_fr (t tx ty e : TypeId) (i : TypeInfo) (z : Value) (size bytes : Nat) (ht : P.underlying t = some (.slice e)) (hi : P.info? e = some i) (hz : i.zero = some z)
    (hsize : i.size = size) (hby : i.bytes = bytes) (hzs : z.cells.size = size)
    (v : Value) (n : Nat) (xs : List Value) (hown : Own w e size v n xs)
    (x : Value) (m : Nat) (news : List Value) (hx : Src P size tx x m news w)
    (h63 : n + m ≤ maxLen) (hbytes : (n + m) * bytes ≤ 140737488355328) :
    ∃ v' w', (Builtin.append_ #[t, tx] ty #[v, x]).run P w = .ok v' w' ∧ Own w' e size v' (n + m) (xs ++ news) ∧ Fr (OnlyS v.ownBlock) w w' ∧
      (v'.ownBlock = v.ownBlock ∨ v'.ownBlock = some w.heap.size) := by
  subst hsize hby
  have hsmall : n + m ≤ 9223372036854775807 := by simp only [maxLen] at h63; omega
  have hlen : (xs ++ news).length = (n + m) * i.size := by rw [List.length_append, hown.1, hx.newsLen, Nat.add_mul]
  have grown : ∀ (old : Nat), old < n + m → ∀ (row : Option Nat),
      Own (w.drew.alloc (.cells ((xs ++ news).toArray ++ Builtin.zeroCells z.cells (grownCap w (n + m) old e - (n + m))) e)) e i.size
        (.slice (some ⟨w.heap.size, 0, none⟩) (n + m) (grownCap w (n + m) old e)) (n + m) (xs ++ news) ∧
      Fr (OnlyS row) w (w.drew.alloc (.cells ((xs ++ news).toArray ++ Builtin.zeroCells z.cells (grownCap w (n + m) old e - (n + m))) e)) := by
    intro old ho row
    have hge := grownCap_ge w (n + m) old e
    have hcm : grownCap w (n + m) old e ≤ maxLen := grownCap_le_maxLen w (n + m) old e h63
    refine ⟨⟨hlen, .inr ⟨w.heap.size, _, _, rfl, Nat.zero_le _, Go.heap_alloc_new w.drew _, hge, hcm, ?_, ?_⟩⟩, ((Fr.refl w).drew).alloc _⟩
    · simp only [Array.size_append, List.size_toArray, size_zeroCells, hzs, hlen, ← Nat.add_mul]
      congr 1
      omega
    · simp only [Array.toList_append]
      rw [← hlen]
      exact List.take_left
  rcases hown.2 with ⟨rfl, rfl⟩ | ⟨g, cap, cur, rfl, hbg, hg, hnc, hcm, hcs, htake⟩
  · have hx0 : xs = [] := List.eq_nil_of_length_eq_zero (by simpa using hown.1)
    subst hx0
    by_cases hm : m = 0
    · subst hm
      have hn : news = [] := List.eq_nil_of_length_eq_zero (by simpa using hx.newsLen)
      subst hn
      refine ⟨.slice none 0 0, w, ?_, World.ownsRow_nil _ _ _ _, Fr.refl _, .inl rfl⟩
      rcases hx.kind with ⟨e', hk⟩ | hk <;>
        simp [Builtin.append_, run_underlying ht, run_underlying hk, sizeOf, typeInfo, hi, hx.len, hx.cells]
    · have hr := run_append_grow_src (P := P) w t tx ty e i z ht hi hz none 0 0 [] (by simp [run_firstCells_none]) x m news hx (by omega) (by omega) (growslice_fits (by omega) hbytes)
      obtain ⟨g1, g2⟩ := grown 0 (by omega) (Value.ownBlock (.slice none 0 0))
      exact ⟨_, _, hr, g1, g2, .inr rfl⟩
  · by_cases hroom : n + m ≤ cap
    · have hfit : n * i.size + news.length ≤ cur.size := by rw [hx.newsLen, hcs, ← Nat.add_mul]; exact Nat.mul_le_mul_right _ hroom
      have hcell : ∀ o, w.cell? ⟨g, o, none⟩ = cur[o]? := fun o => cell_of_row w g o cur e (0, 0) hg
      have hr := run_append_room_src (P := P) w t tx ty e i ht hi g 0 n cap x m news hx hroom
        (fun j hj => by rw [hcell]; have : 0 + n * i.size + j < cur.size := by omega
                        simp; omega)
        (fun j _ => frozen_of_row w g _ cur e hg)
      simp only [Nat.zero_add] at hr
      obtain ⟨cur', h2, h3, h4⟩ := heap_setCells g e news (n * i.size) cur w hg hfit
      refine ⟨_, _, hr, ⟨hlen, .inr ⟨g, cap, cur', rfl, Nat.zero_le _, h2, hroom, hcm, h3.trans hcs, ?_⟩⟩, ?_, .inl rfl⟩
      · rw [Nat.add_mul, ← hx.newsLen, h4, htake]
      · have hk := World.keptBut_setCells g (may := fun _ => True) news (n * i.size) w (fun _ _ => trivial)
        refine ⟨hk.1, ?_, hk.2.1, ?_, ?_⟩
        · exact setCells_tape g news (n * i.size) w
        · exact Nat.le_of_eq (setCells_size g news (n * i.size) w).symm
        · intro k hk1 hk2
          exact heap_setCells_other g (fun h => hk2 (by subst h; rfl)) news (n * i.size) w
    · have hold : (Builtin.firstCells i.size n (.slice (some ⟨g, 0, none⟩) n cap)).run P w.drew = .ok xs.toArray w.drew :=
        run_firstCells_some w.drew i.size n _ n cap xs hown.1 (by simpa using hown.cells (g := g) rfl)
      have hr := run_append_grow_src (P := P) w t tx ty e i z ht hi hz (some ⟨g, 0, none⟩) n cap xs hold x m news hx (by omega) (by omega) (growslice_fits (by omega) hbytes)
      obtain ⟨g1, g2⟩ := grown cap (by omega) (Value.ownBlock (.slice (some ⟨g, 0, none⟩) n cap))
      exact ⟨_, _, hr, g1, g2, .inr rfl⟩

/-- The like for the walk: a slice with an address, a string, nil. -/
theorem wpList_append_src {ops : Array Oper} {rest : List Oper} {o : Oper} {a : Act} {Q : Exit → Act → World → Prop} (hgd : o.guard = none) (s x : Operand) (t tx : TypeId)
    (ho : o.op = .call { callee := .builtin .append, args := #[s, x], argTypes := #[t, tx] })
    (e : TypeId) (i : TypeInfo) (z : Value) (size bytes : Nat) (ht : P.underlying t = some (.slice e)) (hi : P.info? e = some i) (hz : i.zero = some z)
    (hsize : i.size = size) (hby : i.bytes = bytes) (hzs : z.cells.size = size)
    (v : Value) (n : Nat) (xs : List Value) (hs : a.eval s = v) (hown : Own w e size v n xs)
    (xv : Value) (m : Nat) (news : List Value) (hxv : a.eval x = xv) (hx : Src P size tx xv m news w)
    (h63 : n + m ≤ maxLen) (hbytes : (n + m) * bytes ≤ 140737488355328)
    (h : ∀ v' w', Own w' e size v' (n + m) (xs ++ news) → Fr (OnlyS v.ownBlock) w w' → (v'.ownBlock = v.ownBlock ∨ v'.ownBlock = some w.heap.size) → wpList P ops Q rest (a.put o.dst v') w') : wpList P ops Q (o :: rest) a w :=
  wpList_plain hgd fun K hK => by
    obtain ⟨v', w', hr, h2, h3, h4⟩ := run_append_fr (P := P) w t tx o.type e i z size bytes ht hi hz hsize hby hzs v n xs hown xv m news hx h63 hbytes
    unfold Oper.wp execOp
    simp only [ho, resolve, invoke, builtin, Sem.run_bind, Sem.run_pure, Result.andThen_ok, List.map_toArray, List.map_cons, List.map_nil, hs, hxv, hr]
    exact hK _ _ (h v' w' h2 h3 h4)

/-- The like for the walk: what is appended lies at an address. -/
theorem wpList_append_fr {ops : Array Oper} {rest : List Oper} {o : Oper} {a : Act} {Q : Exit → Act → World → Prop} (hgd : o.guard = none) (s x : Operand) (t : TypeId)
    (ho : o.op = .call { callee := .builtin .append, args := #[s, x], argTypes := #[t, t] })
    (e : TypeId) (i : TypeInfo) (z : Value) (size bytes : Nat) (ht : P.underlying t = some (.slice e)) (hi : P.info? e = some i) (hz : i.zero = some z)
    (hsize : i.size = size) (hby : i.bytes = bytes) (hzs : z.cells.size = size) (_hsz : 0 < size)
    (v : Value) (n : Nat) (xs : List Value) (hs : a.eval s = v) (hown : Own w e size v n xs)
    (ad : Addr) (m c : Nat) (news : List Value) (hx : a.eval x = .slice (some ad) m c) (hl : news.length = m * size) (hnews : ∀ j u, news[j]? = some u → w.cell? (ad.add j) = some u) (h1 : ∀ u ∈ news, u.oneCell' = true)
    (h63 : n + m ≤ maxLen) (hbytes : (n + m) * bytes ≤ 140737488355328)
    (h : ∀ v' w', Own w' e size v' (n + m) (xs ++ news) → Fr (OnlyS v.ownBlock) w w' → (v'.ownBlock = v.ownBlock ∨ v'.ownBlock = some w.heap.size) → wpList P ops Q rest (a.put o.dst v') w') : wpList P ops Q (o :: rest) a w :=
  wpList_append_src w hgd s x t t ho e i z size bytes ht hi hz hsize hby hzs v n xs hs hown _ m news hx (Src.ofSlice w ht ad m c news hl hnews h1) h63 hbytes h
end

/-- The cells of a block that was just made. -/
theorem cells_new (w : World) (news : List Value) (t : TypeId) : ∀ j u, news[j]? = some u → (w.alloc (.cells news.toArray t)).cell? ((⟨w.heap.size, 0, none⟩ : Addr).add j) = some u := by
  intro j u hu
  have hadd : (⟨w.heap.size, 0, none⟩ : Addr).add j = ⟨w.heap.size, j, none⟩ := by unfold Addr.add; split <;> simp_all
  rw [hadd, World.cell?_alloc_at _ _ _ _ rfl]
  simpa using hu

end Go.Proofs.YtgjabbhgmecbbaaDoor
