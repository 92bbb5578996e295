/-
  Helper facts on worlds, frames and slices, over any program: no statement of the seat is proved here. No conditions. Plain words on bytes: what wire's numbers and texts are as lists of bytes. No program in sight. No conditions. A region that draws its order, whose operations read and whose calls write to no old block: one walk serves every order. A region that draws its order, by one relation that every operation keeps: no order is walked. No statement of the seat is proved here. A region that draws its order: an operation that yields its value in every world that meets S may be taken first, where S holds behind every operation but the last one, which waits for all. No statement of the seat is proved here.
-/
import Derived.WalkKit
import Derived.WalkSpells
import Derived.WalkLawsBesides
import Derived.Deep.AppendSrc
import Derived.BigQuiet
import Derived.Deep.Cut
import Derived.Orders
import Derived.OrdersHeld
namespace Go.Proofs.YtnmfmedoocnofaaDoor
open Go.RowKit

theorem hid {p : Prop} (h : p) : Hid p := h

/-- The frame: but for the blocks of X, what was there in w stands in w'. -/
structure Fr (X : Nat → Prop) (w w' : World) : Prop where
  os : w'.os = w.os
  tape : w'.tape = w.tape
  output : w'.output = w.output
  size : w.heap.size ≤ w'.heap.size
  block : ∀ k, k < w.heap.size → ¬ X k → w'.heap[k]? = w.heap[k]?

/-- No old block has turned. -/
def No : Nat → Prop := fun _ => False
/-- One block may have turned. -/
def Only (b : Nat) : Nat → Prop := fun k => k = b
/-- A block, and perhaps another one. -/
def OnlyO (b : Nat) (o : Option Nat) : Nat → Prop := fun k => k = b ∨ o = some k
def OnlyS (o : Option Nat) : Nat → Prop := fun k => o = some k

theorem Fr.refl {X : Nat → Prop} (w : World) : Fr X w w := ⟨rfl, rfl, rfl, Nat.le_refl _, fun _ _ _ => rfl⟩
theorem Fr.mono {X Y : Nat → Prop} {w w' : World} (h : Fr X w w') (hXY : ∀ k, k < w.heap.size → X k → Y k) : Fr Y w w' :=
  ⟨h.os, h.tape, h.output, h.size, fun k hk hn => h.block k hk (fun hx => hn (hXY k hk hx))⟩
theorem Fr.of0 {Y : Nat → Prop} {w w' : World} (h : Fr No w w') : Fr Y w w' := h.mono (fun _ _ hx => hx.elim)
theorem Fr.trans {X : Nat → Prop} {a b c : World} (h : Fr X a b) (k : Fr X b c) : Fr X a c :=
  ⟨k.os.trans h.os, k.tape.trans h.tape, k.output.trans h.output, Nat.le_trans h.size k.size,
   fun i hi hn => (k.block i (Nat.lt_of_lt_of_le hi h.size) hn).trans (h.block i hi hn)⟩
/-- Two frames: what the second one turns the first one may turn, or it is new. -/
theorem Fr.trans' {X Y : Nat → Prop} {a b c : World} (h : Fr X a b) (k : Fr Y b c) (hY : ∀ i, i < a.heap.size → Y i → X i) : Fr X a c :=
  ⟨k.os.trans h.os, k.tape.trans h.tape, k.output.trans h.output, Nat.le_trans h.size k.size,
   fun i hi hn => (k.block i (Nat.lt_of_lt_of_le hi h.size) (fun hy => hn (hY i hi hy))).trans (h.block i hi hn)⟩
theorem Fr.drew {X : Nat → Prop} {a w : World} (h : Fr X a w) : Fr X a w.drew := ⟨h.os, h.tape, h.output, h.size, h.block⟩
theorem Fr.drewN {X : Nat → Prop} {a w : World} (h : Fr X a w) (n : Nat) : Fr X a (w.drewN n) := ⟨h.os, h.tape, h.output, h.size, h.block⟩
theorem Fr.alloc {X : Nat → Prop} {a w : World} (h : Fr X a w) (o : Obj) : Fr X a (w.alloc o) :=
  h.trans ⟨rfl, rfl, rfl, by simp, fun k hk _ => Below.heap_alloc _ _ _ hk⟩
theorem Fr.setCell {X : Nat → Prop} {a w : World} (h : Fr X a w) {p : Addr} (hp : X p.block ∨ a.heap.size ≤ p.block) (u : Value) : Fr X a (w.setCell p u) :=
  ⟨h.os, h.tape, h.output, by simpa [World.setCell] using h.size, fun k hk hn => by
    rw [Below.heap_setCell _ _ _ _ (fun e => by subst e; rcases hp with hp | hp; exact hn hp; omega)]
    exact h.block k hk hn⟩
theorem Fr.set_only {b : Nat} {a w : World} (h : Fr (Only b) a w) (i : Nat) (u : Value) : Fr (Only b) a (w.setCell ⟨b, i, none⟩ u) :=
  Fr.setCell (X := Only b) (p := ⟨b, i, none⟩) h (.inl (show b = b from rfl)) u
theorem Fr.below {w w' : World} (h : Fr No w w') : Below w.heap.size w w' := ⟨h.os, h.tape, h.output, h.size, fun k hk => h.block k hk id⟩
theorem Fr.of_below {X : Nat → Prop} {B : Nat} {w w' : World} (h : Below B w w') (hB : ∀ k, k < w.heap.size → ¬ X k → k < B) : Fr X w w' :=
  ⟨h.os, h.tape, h.output, h.size, fun k hk hn => h.block k (hB k hk hn)⟩
theorem Fr.heap {X : Nat → Prop} {w w' : World} (h : Fr X w w') {k : Nat} {o : Obj} (hk : w.heap[k]? = some o) (hn : ¬ X k) : w'.heap[k]? = some o :=
  (h.block k (lt_of_block hk) hn).trans hk
theorem Fr.cell {X : Nat → Prop} {w w' : World} (h : Fr X w w') {a : Addr} {v : Value} (hc : w.cell? a = some v) (hn : ¬ X a.block) : w'.cell? a = some v :=
  (World.cell?_of_block (w := w) (h.block a.block (World.block_lt_of_cell? w a hc) hn)).trans hc

theorem no_self (k : Nat) : ¬ No k := id
theorem Fr.cell0 {w w' : World} (h : Fr No w w') {a : Addr} {v : Value} (hc : w.cell? a = some v) : w'.cell? a = some v := h.cell hc id
theorem Fr.heap0 {w w' : World} (h : Fr No w w') {k : Nat} {o : Obj} (hk : w.heap[k]? = some o) : w'.heap[k]? = some o := h.heap hk id

/-- Something new was turned alone. -/
theorem Fr.newOnly {w w1 w2 : World} {b : Nat} (h : Fr No w w1) (hb : w.heap.size ≤ b) (k : Fr (Only b) w1 w2) : Fr No w w2 :=
  h.trans' k (fun i hi hy => absurd hi (by rw [show i = b from hy]; omega))
theorem Fr.newOnlyO {w w1 w2 : World} {b : Nat} {o : Option Nat} (h : Fr No w w1) (hb : w.heap.size ≤ b) (ho : ∀ g, o = some g → w.heap.size ≤ g) (k : Fr (OnlyO b o) w1 w2) : Fr No w w2 :=
  h.trans' k (fun i hi hy => by
    rcases hy with hy | hy
    · exact absurd hi (by rw [hy]; omega)
    · have := ho i hy; omega)
theorem Fr.newOnlyS {w w1 w2 : World} {o : Option Nat} (h : Fr No w w1) (ho : ∀ g, o = some g → w.heap.size ≤ g) (k : Fr (OnlyS o) w1 w2) : Fr No w w2 :=
  h.trans' k (fun i hi hy => by have := ho i hy; omega)

/-! ### blocks of cells -/
theorem heap_setCell_at {w : World} {g i : Nat} {cs : Array Value} {t : TypeId} (v : Value) (hg : w.heap[g]? = some (.cells cs t (0, 0))) :
    (w.setCell ⟨g, i, none⟩ v).heap[g]? = some (.cells (cs.setIfInBounds i v) t (0, 0)) := by
  simp [World.setCell, Array.getElem?_modify, hg]
theorem heap_setCell_past {w : World} {a : Addr} {k : Nat} {v : Value} (h : k ≠ a.block) : (w.setCell a v).heap[k]? = w.heap[k]? := Below.heap_setCell _ _ _ _ h
theorem heap_drewN (w : World) (n : Nat) : (w.drewN n).heap = w.heap := rfl

/-! ### owned rows -/
/-- Slice value v (n elements of e, size cells each) owns the cells xs. -/
abbrev Own (w : World) (e : TypeId) (size : Nat) (v : Value) (n : Nat) (xs : List Value) : Prop := w.ownsRow 0 e size v n xs

theorem Own.fr {X : Nat → Prop} {w w' : World} {e size n : Nat} {v : Value} {xs : List Value} (h : Own w e size v n xs) (hf : Fr X w w')
    (hn : ∀ k, v.ownBlock = some k → ¬ X k) : Own w' e size v n xs := by
  refine ⟨h.1, ?_⟩
  rcases h.2 with h2 | ⟨g, cap, cur, rfl, hb, hg, r⟩
  · exact .inl h2
  · exact .inr ⟨g, cap, cur, rfl, hb, hf.heap hg (hn g rfl), r⟩
theorem Own.lt {w : World} {e size n : Nat} {v : Value} {xs : List Value} (h : Own w e size v n xs) : ∀ k, v.ownBlock = some k → k < w.heap.size :=
  fun k hk => (World.ownsRow.lt h k hk).2
theorem Own.shape {w : World} {e size n : Nat} {v : Value} {xs : List Value} (h : Own w e size v n xs) : ∃ a cap, v = .slice a n cap := by
  rcases h.2 with ⟨rfl, rfl⟩ | ⟨g, cap, cur, rfl, _⟩
  · exact ⟨_, _, rfl⟩
  · exact ⟨_, _, rfl⟩
theorem Own.nil (w : World) (e size : Nat) : Own w e size (.slice none 0 0) 0 [] := World.ownsRow_nil _ _ _ _

/-! ### append, whatever is appended -/
theorem setCells_size (g : Nat) : ∀ (news : List Value) (o : Nat) (w : World), (w.setCells g o news).heap.size = w.heap.size
  | [], _, _ => rfl
  | v :: vs, o, w => (setCells_size g vs (o + 1) (w.setCell ⟨g, o, none⟩ v)).trans (World.size_setCell _ _ _)
theorem setCells_tape (g : Nat) : ∀ (news : List Value) (o : Nat) (w : World), (w.setCells g o news).tape = w.tape
  | [], _, _ => rfl
  | v :: vs, o, w => (setCells_tape g vs (o + 1) (w.setCell ⟨g, o, none⟩ v)).trans rfl
theorem heap_setCells_other (g : Nat) {k : Nat} (hk : k ≠ g) : ∀ (news : List Value) (o : Nat) (w : World), (w.setCells g o news).heap[k]? = w.heap[k]?
  | [], _, _ => rfl
  | v :: vs, o, w => (heap_setCells_other g hk vs (o + 1) (w.setCell ⟨g, o, none⟩ v)).trans (Below.heap_setCell _ _ _ _ hk)
theorem heap_setCells (g : Nat) (e : TypeId) : ∀ (news : List Value) (o : Nat) (cur : Array Value) (w : World), w.heap[g]? = some (.cells cur e (0, 0)) → o + news.length ≤ cur.size →
    ∃ cur', (w.setCells g o news).heap[g]? = some (.cells cur' e (0, 0)) ∧ cur'.size = cur.size ∧ cur'.toList.take (o + news.length) = cur.toList.take o ++ news
  | [], o, cur, w, hg, _ => ⟨cur, hg, rfl, by simp⟩
  | v :: vs, o, cur, w, hg, hl => by
    have hl' : o < cur.size := by simp at hl; omega
    have h1 := heap_setCell_at (i := o) v hg
    obtain ⟨cur', h2, h3, h4⟩ := heap_setCells g e vs (o + 1) (cur.setIfInBounds o v) (w.setCell ⟨g, o, none⟩ v) h1 (by simp at hl ⊢; omega)
    refine ⟨cur', h2, by simpa using h3, ?_⟩
    have e1 : o + (v :: vs).length = o + 1 + vs.length := by simp; omega
    rw [e1, h4]
    have e2 : (cur.setIfInBounds o v).toList = cur.toList.set o v := by simp
    rw [e2, List.take_set, List.take_succ_eq_append_getElem (by simpa using hl')]
    have e3 : (List.take o cur.toList ++ [cur.toList[o]'(by simpa using hl')]).set o v = List.take o cur.toList ++ [v] := by
      have hlen : (List.take o cur.toList).length = o := by simp; omega
      rw [List.set_append_right _ _ (by omega), hlen]
      simp
    rw [e3]
    simp

section
variable {P : Program} (w : World)
/-- append onto an owned slice, whatever is appended: it says which block the new value lives in. -/
theorem run_append_fr (t tx ty e : TypeId) (i : TypeInfo) (z : Value) (size bytes : Nat) (ht : P.underlying t = some (.slice e)) (hi : P.info? e = some i) (hz : i.zero = some z)
    (hsize : i.size = size) (hby : i.bytes = bytes) (hzs : z.cells.size = size)
    (v : Value) (n : Nat) (xs : List Value) (hown : Own w e size v n xs)
    (x : Value) (m : Nat) (news : List Value) (hx : Src P size tx x m news w)
    (h63 : n + m ≤ maxLen) (hbytes : (n + m) * bytes ≤ 140737488355328) :
    ∃ v' w', (Builtin.append_ #[t, tx] ty #[v, x]).run P w = .ok v' w' ∧ Own w' e size v' (n + m) (xs ++ news) ∧ Fr (OnlyS v.ownBlock) w w' ∧
      (v'.ownBlock = v.ownBlock ∨ v'.ownBlock = some w.heap.size) := by
  subst hsize hby
  have hsmall : n + m ≤ 9223372036854775807 := by simp only [maxLen] at h63; omega
  have hlen : (xs ++ news).length = (n + m) * i.size := by rw [List.length_append, hown.1, hx.newsLen, Nat.add_mul]
  have grown : ∀ (old : Nat), old < n + m → ∀ (row : Option Nat),
      Own (w.drew.alloc (.cells ((xs ++ news).toArray ++ Builtin.zeroCells z.cells (grownCap w (n + m) old e - (n + m))) e)) e i.size
        (.slice (some ⟨w.heap.size, 0, none⟩) (n + m) (grownCap w (n + m) old e)) (n + m) (xs ++ news) ∧
      Fr (OnlyS row) w (w.drew.alloc (.cells ((xs ++ news).toArray ++ Builtin.zeroCells z.cells (grownCap w (n + m) old e - (n + m))) e)) := by
    intro old ho row
    have hge := grownCap_ge w (n + m) old e
    have hcm : grownCap w (n + m) old e ≤ maxLen := grownCap_le_maxLen w (n + m) old e h63
    refine ⟨⟨hlen, .inr ⟨w.heap.size, _, _, rfl, Nat.zero_le _, Go.heap_alloc_new w.drew _, hge, hcm, ?_, ?_⟩⟩, ((Fr.refl w).drew).alloc _⟩
    · simp only [Array.size_append, List.size_toArray, size_zeroCells, hzs, hlen, ← Nat.add_mul]
      congr 1
      omega
    · simp only [Array.toList_append]
      rw [← hlen]
      exact List.take_left
  rcases hown.2 with ⟨rfl, rfl⟩ | ⟨g, cap, cur, rfl, hbg, hg, hnc, hcm, hcs, htake⟩
  · have hx0 : xs = [] := List.eq_nil_of_length_eq_zero (by simpa using hown.1)
    subst hx0
    by_cases hm : m = 0
    · subst hm
      have hn : news = [] := List.eq_nil_of_length_eq_zero (by simpa using hx.newsLen)
      subst hn
      refine ⟨.slice none 0 0, w, ?_, World.ownsRow_nil _ _ _ _, Fr.refl _, .inl rfl⟩
      rcases hx.kind with ⟨e', hk⟩ | hk <;>
        simp [Builtin.append_, run_underlying ht, run_underlying hk, sizeOf, typeInfo, hi, hx.len, hx.cells]
    · have hr := run_append_grow_src (P := P) w t tx ty e i z ht hi hz none 0 0 [] (by simp [run_firstCells_none]) x m news hx (by omega) (by omega) (growslice_fits (by omega) hbytes)
      obtain ⟨g1, g2⟩ := grown 0 (by omega) (Value.ownBlock (.slice none 0 0))
      exact ⟨_, _, hr, g1, g2, .inr rfl⟩
  · by_cases hroom : n + m ≤ cap
    · have hfit : n * i.size + news.length ≤ cur.size := by rw [hx.newsLen, hcs, ← Nat.add_mul]; exact Nat.mul_le_mul_right _ hroom
      have hcell : ∀ o, w.cell? ⟨g, o, none⟩ = cur[o]? := fun o => cell_of_row w g o cur e (0, 0) hg
      have hr := run_append_room_src (P := P) w t tx ty e i ht hi g 0 n cap x m news hx hroom
        (fun j hj => by rw [hcell]; have : 0 + n * i.size + j < cur.size := by omega
                        simp; omega)
        (fun j _ => frozen_of_row w g _ cur e hg)
      simp only [Nat.zero_add] at hr
      obtain ⟨cur', h2, h3, h4⟩ := heap_setCells g e news (n * i.size) cur w hg hfit
      refine ⟨_, _, hr, ⟨hlen, .inr ⟨g, cap, cur', rfl, Nat.zero_le _, h2, hroom, hcm, h3.trans hcs, ?_⟩⟩, ?_, .inl rfl⟩
      · rw [Nat.add_mul, ← hx.newsLen, h4, htake]
      · have hk := World.keptBut_setCells g (may := fun _ => True) news (n * i.size) w (fun _ _ => trivial)
        refine ⟨hk.1, ?_, hk.2.1, ?_, ?_⟩
        · exact setCells_tape g news (n * i.size) w
        · exact Nat.le_of_eq (setCells_size g news (n * i.size) w).symm
        · intro k hk1 hk2
          exact heap_setCells_other g (fun h => hk2 (by subst h; rfl)) news (n * i.size) w
    · have hold : (Builtin.firstCells i.size n (.slice (some ⟨g, 0, none⟩) n cap)).run P w.drew = .ok xs.toArray w.drew :=
        run_firstCells_some w.drew i.size n _ n cap xs hown.1 (by simpa using hown.cells (g := g) rfl)
      have hr := run_append_grow_src (P := P) w t tx ty e i z ht hi hz (some ⟨g, 0, none⟩) n cap xs hold x m news hx (by omega) (by omega) (growslice_fits (by omega) hbytes)
      obtain ⟨g1, g2⟩ := grown cap (by omega) (Value.ownBlock (.slice (some ⟨g, 0, none⟩) n cap))
      exact ⟨_, _, hr, g1, g2, .inr rfl⟩

/-- The like for the walk: a slice with an address, a string, nil. -/
theorem wpList_append_src {ops : Array Oper} {rest : List Oper} {o : Oper} {a : Act} {Q : Exit → Act → World → Prop} (hgd : o.guard = none) (s x : Operand) (t tx : TypeId)
    (ho : o.op = .call { callee := .builtin .append, args := #[s, x], argTypes := #[t, tx] })
    (e : TypeId) (i : TypeInfo) (z : Value) (size bytes : Nat) (ht : P.underlying t = some (.slice e)) (hi : P.info? e = some i) (hz : i.zero = some z)
    (hsize : i.size = size) (hby : i.bytes = bytes) (hzs : z.cells.size = size)
    (v : Value) (n : Nat) (xs : List Value) (hs : a.eval s = v) (hown : Own w e size v n xs)
    (xv : Value) (m : Nat) (news : List Value) (hxv : a.eval x = xv) (hx : Src P size tx xv m news w)
    (h63 : n + m ≤ maxLen) (hbytes : (n + m) * bytes ≤ 140737488355328)
    (h : ∀ v' w', Own w' e size v' (n + m) (xs ++ news) → Fr (OnlyS v.ownBlock) w w' → (v'.ownBlock = v.ownBlock ∨ v'.ownBlock = some w.heap.size) → wpList P ops Q rest (a.put o.dst v') w') : wpList P ops Q (o :: rest) a w :=
  wpList_plain hgd fun K hK => by
    obtain ⟨v', w', hr, h2, h3, h4⟩ := run_append_fr (P := P) w t tx o.type e i z size bytes ht hi hz hsize hby hzs v n xs hown xv m news hx h63 hbytes
    unfold Oper.wp execOp
    simp only [ho, resolve, invoke, builtin, Sem.run_bind, Sem.run_pure, Result.andThen_ok, List.map_toArray, List.map_cons, List.map_nil, hs, hxv, hr]
    exact hK _ _ (h v' w' h2 h3 h4)

/-- The like for the walk: what is appended lies at an address. -/
theorem wpList_append_fr {ops : Array Oper} {rest : List Oper} {o : Oper} {a : Act} {Q : Exit → Act → World → Prop} (hgd : o.guard = none) (s x : Operand) (t : TypeId)
    (ho : o.op = .call { callee := .builtin .append, args := #[s, x], argTypes := #[t, t] })
    (e : TypeId) (i : TypeInfo) (z : Value) (size bytes : Nat) (ht : P.underlying t = some (.slice e)) (hi : P.info? e = some i) (hz : i.zero = some z)
    (hsize : i.size = size) (hby : i.bytes = bytes) (hzs : z.cells.size = size) (_hsz : 0 < size)
    (v : Value) (n : Nat) (xs : List Value) (hs : a.eval s = v) (hown : Own w e size v n xs)
    (ad : Addr) (m c : Nat) (news : List Value) (hx : a.eval x = .slice (some ad) m c) (hl : news.length = m * size) (hnews : ∀ j u, news[j]? = some u → w.cell? (ad.add j) = some u) (h1 : ∀ u ∈ news, u.oneCell' = true)
    (h63 : n + m ≤ maxLen) (hbytes : (n + m) * bytes ≤ 140737488355328)
    (h : ∀ v' w', Own w' e size v' (n + m) (xs ++ news) → Fr (OnlyS v.ownBlock) w w' → (v'.ownBlock = v.ownBlock ∨ v'.ownBlock = some w.heap.size) → wpList P ops Q rest (a.put o.dst v') w') : wpList P ops Q (o :: rest) a w :=
  wpList_append_src w hgd s x t t ho e i z size bytes ht hi hz hsize hby hzs v n xs hs hown _ m news hx (Src.ofSlice w ht ad m c news hl hnews h1) h63 hbytes h
end

/-- The cells of a block that was just made. -/
theorem cells_new (w : World) (news : List Value) (t : TypeId) : ∀ j u, news[j]? = some u → (w.alloc (.cells news.toArray t)).cell? ((⟨w.heap.size, 0, none⟩ : Addr).add j) = some u := by
  intro j u hu
  have hadd : (⟨w.heap.size, 0, none⟩ : Addr).add j = ⟨w.heap.size, j, none⟩ := by unfold Addr.add; split <;> simp_all
  rw [hadd, World.cell?_alloc_at _ _ _ _ rfl]
  simpa using hu

/-- A byte as a value. -/
def byteV (c : UInt8) : Value := .int .u8 c.toNat
def byteN (n : Nat) : UInt8 := UInt8.ofNat n
theorem byteV_ofNat (n : Nat) : byteV (byteN n) = .int .u8 ((n % 256 : Nat) : Int) := by
  unfold byteV byteN; rw [UInt8.toNat_ofNat']
theorem byteN_toNat (n : Nat) : (byteN n).toNat = n % 256 := UInt8.toNat_ofNat'
theorem byteN_self (c : UInt8) : byteN c.toNat = c := UInt8.ofNat_toNat
theorem byteV_eq (n : Int) (m : Nat) (h : n = ((m % 256 : Nat) : Int)) : Value.int .u8 n = byteV (byteN m) := by rw [byteV_ofNat, h]

/-- Bytes as a text. -/
def strV (l : List UInt8) : Value := .string ⟨l.toArray⟩
theorem push_bytes (l : List UInt8) : ∀ acc : List UInt8, (l.map (fun c => (c.toNat : Int))).foldl (fun (r : ByteArray) (n : Int) => r.push (UInt8.ofNat n.toNat)) ⟨acc.toArray⟩ = ⟨(acc ++ l).toArray⟩ := by
  induction l with
  | nil => intro acc; simp
  | cons c l ih =>
    intro acc
    simp only [List.map_cons, List.foldl_cons]
    have e : (ByteArray.mk acc.toArray).push (UInt8.ofNat ((c.toNat : Int)).toNat) = ByteArray.mk (acc ++ [c]).toArray := by
      simp [ByteArray.push, UInt8.ofNat_toNat]
    rw [e, ih]
    simp
/-- What owned bytes become as a text. -/
theorem run_text_of_own {P : Program} (w : World) (src dst e : TypeId) (hs : P.underlying src = some (.slice e)) (he : P.underlying e = some (.int .u8)) (hd : P.underlying dst = some .string)
    (v : Value) (n : Nat) (l : List UInt8) (hown : Own w e 1 v n (l.map byteV)) : (convert src dst v).run P w = .ok (strV l) w := by
  rcases hown.2 with ⟨rfl, rfl⟩ | ⟨g, cap, cur, rfl, _, hg, _⟩
  · have : l = [] := by have := hown.1; simpa using this
    subst this
    rw [run_convert_bytes_string w src dst e _ _ _ hs he hd]
    rfl
  · rw [run_convert_bytes_string w src dst e _ _ _ hs he hd]
    have hl : n = l.length := by have := hown.1; simpa using this.symm
    have hload := run_loadCells_list (P := P) w ⟨g, 0, none⟩ (l.map byteV) (hown.cells (g := g) rfl)
    rw [run_bytesToString w ⟨g, 0, none⟩ n cap (l.map (fun c => (c.toNat : Int))) (by rw [hl, List.map_map]; simp only [List.length_map] at hload; exact hload)]
    have := push_bytes l []
    rw [show ByteArray.empty = ⟨([] : List UInt8).toArray⟩ from rfl, this]
    rfl
theorem byteCells_eq (l : List UInt8) : byteCells ⟨l.toArray⟩ = l.map byteV := by simp [byteCells, byteV]
theorem byteCells_map (s : ByteArray) : byteCells s = s.data.toList.map byteV := rfl

/-- A fixed number of k bytes, the highest first. -/
def fixedB : Nat → Nat → List UInt8
  | 0, _ => []
  | k + 1, n => fixedB k (n / 256) ++ [byteN n]
theorem fixedB_length (k n : Nat) : (fixedB k n).length = k := by
  induction k generalizing n with
  | zero => rfl
  | succ k ih => simp [fixedB, ih]
theorem fixedB_one (n : Nat) : fixedB 1 n = [byteN n] := rfl
theorem fixedB_two (n : Nat) : fixedB 2 n = [byteN (n / 256), byteN n] := rfl
theorem fixedB_four (n : Nat) : fixedB 4 n = [byteN (n / 16777216), byteN (n / 65536), byteN (n / 256), byteN n] := by
  simp [fixedB, Nat.div_div_eq_div_mul]
theorem fixedB_eight (n : Nat) : fixedB 8 n = [byteN (n / 72057594037927936), byteN (n / 281474976710656), byteN (n / 1099511627776), byteN (n / 4294967296), byteN (n / 16777216), byteN (n / 65536), byteN (n / 256), byteN n] := by
  simp [fixedB, Nat.div_div_eq_div_mul]

/-- A short number: groups of seven bits, the least first; k: no more than so many. -/
def shortF : Nat → Nat → List UInt8
  | 0, _ => []
  | k + 1, n => if n < 128 then [byteN n] else byteN (n % 128 + 128) :: shortF k (n / 128)
def shortB (n : Nat) : List UInt8 := shortF 10 n

theorem shortF_length_le (k n : Nat) : (shortF k n).length ≤ k := by
  induction k generalizing n with
  | zero => simp [shortF]
  | succ k ih =>
    simp only [shortF]
    split
    · simp
    · simp; exact ih _
theorem shortB_length_le (n : Nat) : (shortB n).length ≤ 10 := shortF_length_le 10 n
theorem shortF_pos (k n : Nat) : 1 ≤ (shortF (k + 1) n).length := by
  simp only [shortF]; split <;> simp
theorem shortB_pos (n : Nat) : 1 ≤ (shortB n).length := shortF_pos 9 n

theorem or128 (m : Nat) : bits .or .u8 ((m : Int) % 256) 128 = ((m % 128 + 128 : Nat) : Int) := by
  have h : ∀ x, x < 256 → x ||| 128 = x % 128 + 128 := by decide +kernel
  have e : ((m : Int) % 256) = ((m % 256 : Nat) : Int) := by simp
  rw [e, show (128 : Int) = ((128 : Nat) : Int) from rfl, u8_or_nat _ _ (Nat.mod_lt _ (by decide)) (by decide), h _ (Nat.mod_lt _ (by decide))]
  congr 2
  omega
theorem shortF_step (j m : Nat) (h : 128 ≤ m) : shortF (j + 1) m = byteN (m % 128 + 128) :: shortF j (m / 128) := by
  rw [shortF, if_neg (by omega)]
theorem shortF_last (j m : Nat) (h : ¬ 128 ≤ m) : shortF (j + 1) m = [byteN m] := by
  rw [shortF, if_pos (by omega)]

/-- A text: its length, its bytes. -/
def textB (s : List UInt8) : List UInt8 := shortB s.length ++ s
/-- Four bytes, the lowest first. -/
def lowB (n : Nat) : List UInt8 := [byteN n, byteN (n / 256), byteN (n / 65536), byteN (n / 16777216)]

/-- The bytes of a number of four, turned round. -/
def revN (n : Nat) : Nat := n % 256 * 16777216 + n / 256 % 256 * 65536 + n / 65536 % 256 * 256 + n / 16777216 % 256

theorem q1 (a b c d : Nat) (hb : b < 256) (hc : c < 256) (hd : d < 256) : (a * 16777216 + b * 65536 + c * 256 + d) / 16777216 = a := by omega
theorem q2 (a b c d : Nat) (hb : b < 256) (hc : c < 256) (hd : d < 256) : (a * 16777216 + b * 65536 + c * 256 + d) / 65536 % 256 = b := by omega
theorem q3 (a b c d : Nat) (hc : c < 256) (hd : d < 256) : (a * 16777216 + b * 65536 + c * 256 + d) / 256 % 256 = c := by omega
theorem q4 (a b c d : Nat) (hd : d < 256) : (a * 16777216 + b * 65536 + c * 256 + d) % 256 = d := by omega
theorem q5 (x y : Nat) (hy : y < 65536) : (65536 * x + y) / 65536 = x := by omega
theorem q6 (x y : Nat) (hy : y < 65536) : (65536 * x + y) * 65536 % 4294967296 = 65536 * y := by omega
theorem and_split (a b c d : Nat) (hb : b < 65536) (hd : d < 65536) : (65536 * a + b) &&& (65536 * c + d) = 65536 * (a &&& c) + (b &&& d) := by
  have hbd : b &&& d < 2 ^ 16 := Nat.and_lt_two_pow b hd
  have hb' : b < 2 ^ 16 := hb
  have hd' : d < 2 ^ 16 := hd
  apply Nat.eq_of_testBit_eq
  intro i
  rw [Nat.testBit_and, show (65536 : Nat) = 2 ^ 16 from rfl, Nat.testBit_two_pow_mul_add _ hb', Nat.testBit_two_pow_mul_add _ hd', Nat.testBit_two_pow_mul_add _ hbd]
  split <;> simp
theorem or_add (a b k : Nat) (hb : b < 2 ^ k) : b ||| (2 ^ k * a) = 2 ^ k * a + b := by
  rw [Nat.or_comm, Nat.two_pow_add_eq_or_of_lt hb]
theorem or_add' (a b k : Nat) (hb : b < 2 ^ k) : (2 ^ k * a) ||| b = 2 ^ k * a + b := by
  rw [Nat.two_pow_add_eq_or_of_lt hb]
theorem and_mask (x : Nat) : x &&& 16711935 = 65536 * (x / 65536 % 256) + x % 256 := by
  have h := and_split (x / 65536) (x % 65536) 255 255 (Nat.mod_lt _ (by decide)) (by decide)
  rw [Nat.div_add_mod] at h
  rw [show (16711935 : Nat) = 65536 * 255 + 255 from rfl, h]
  rw [show (255 : Nat) = 2 ^ 8 - 1 from rfl, Nat.and_two_pow_sub_one_eq_mod, Nat.and_two_pow_sub_one_eq_mod]
  omega
theorem or_split (a b c d : Nat) (hb : b < 65536) (hd : d < 65536) : (65536 * a + b) ||| (65536 * c + d) = 65536 * (a ||| c) + (b ||| d) := by
  have hbd : b ||| d < 2 ^ 16 := Nat.or_lt_two_pow hb hd
  have hb' : b < 2 ^ 16 := hb
  have hd' : d < 2 ^ 16 := hd
  apply Nat.eq_of_testBit_eq
  intro i
  rw [Nat.testBit_or, show (65536 : Nat) = 2 ^ 16 from rfl, Nat.testBit_two_pow_mul_add _ hb', Nat.testBit_two_pow_mul_add _ hd', Nat.testBit_two_pow_mul_add _ hbd]
  split <;> simp
theorem rev_nat (n : Nat) :
    ((((n / 256) &&& 16711935) ||| ((n &&& 16711935) * 256 % 4294967296)) / 65536) ||| ((((n / 256) &&& 16711935) ||| ((n &&& 16711935) * 256 % 4294967296)) * 65536 % 4294967296) = revN n := by
  rw [and_mask, and_mask]
  have e1 : (65536 * (n / 65536 % 256) + n % 256) * 256 % 4294967296 = 65536 * (256 * (n / 65536 % 256)) + 256 * (n % 256) := by omega
  rw [e1, or_split _ _ _ _ (by omega) (by omega)]
  have o1 : n / 256 / 65536 % 256 ||| 256 * (n / 65536 % 256) = 256 * (n / 65536 % 256) + n / 256 / 65536 % 256 := or_add _ _ 8 (Nat.mod_lt _ (by decide))
  have o2 : n / 256 % 256 ||| 256 * (n % 256) = 256 * (n % 256) + n / 256 % 256 := or_add _ _ 8 (Nat.mod_lt _ (by decide))
  rw [o1, o2, q5 _ _ (by omega), q6 _ _ (by omega)]
  have o3 := or_add (256 * (n % 256) + n / 256 % 256) (256 * (n / 65536 % 256) + n / 256 / 65536 % 256) 16 (by omega)
  rw [show (65536 : Nat) = 2 ^ 16 from rfl] at *
  rw [o3]
  unfold revN
  have e5 : n / 256 / 2 ^ 16 % 256 = n / 16777216 % 256 := by rw [Nat.div_div_eq_div_mul]
  rw [e5]
  omega
theorem rev_bits (n : Nat) (hn : n ≤ 4294967295) :
    bits .or .u32 (bits .or .u32 (bits .and .u32 ((n : Int) / 256) 16711935) (bits .and .u32 (n : Int) 16711935 * 256 % 4294967296) / 65536)
      (bits .or .u32 (bits .and .u32 ((n : Int) / 256) 16711935) (bits .and .u32 (n : Int) 16711935 * 256 % 4294967296) * 65536 % 4294967296) = (revN n : Int) := by
  have hand : ∀ a : Nat, a < 4294967296 → bits .and .u32 (a : Int) 16711935 = ((a &&& 16711935 : Nat) : Int) := fun a ha => u32_and_nat a 16711935 ha (by decide)
  have e1 : ((n : Int) / 256) = ((n / 256 : Nat) : Int) := by simp
  rw [e1, hand _ (by omega), hand _ (by omega)]
  have e2 : (((n &&& 16711935 : Nat) : Int) * 256 % 4294967296) = (((n &&& 16711935) * 256 % 4294967296 : Nat) : Int) := by simp
  have l1 : n / 256 &&& 16711935 < 4294967296 := Nat.lt_of_le_of_lt Nat.and_le_right (by decide)
  rw [e2, u32_or_nat _ _ l1 (Nat.mod_lt _ (by decide))]
  have l2 : (n / 256 &&& 16711935) ||| ((n &&& 16711935) * 256 % 4294967296) < 4294967296 := Nat.or_lt_two_pow (n := 32) l1 (Nat.mod_lt _ (by decide))
  have hrev := rev_nat n
  generalize (n / 256 &&& 16711935) ||| ((n &&& 16711935) * 256 % 4294967296) = c at *
  have e3 : ((c : Int) / 65536) = ((c / 65536 : Nat) : Int) := by simp
  have e4 : ((c : Int) * 65536 % 4294967296) = ((c * 65536 % 4294967296 : Nat) : Int) := by simp
  rw [e3, e4, u32_or_nat _ _ (by omega) (Nat.mod_lt _ (by decide)), hrev]
theorem revN_le (n : Nat) : revN n ≤ 4294967295 := by unfold revN; omega
theorem fixedB_rev (n : Nat) : fixedB 4 (revN n) = lowB n := by
  rw [fixedB_four]
  unfold lowB revN
  have e : ∀ a b : Nat, a % 256 = b % 256 → byteN a = byteN b := fun a b h => by
    apply UInt8.toNat_inj.1; rw [byteN_toNat, byteN_toNat, h]
  have h0 := Nat.mod_lt n (show 0 < 256 by decide)
  have h1 := Nat.mod_lt (n / 256) (show 0 < 256 by decide)
  have h2 := Nat.mod_lt (n / 65536) (show 0 < 256 by decide)
  have h3 := Nat.mod_lt (n / 16777216) (show 0 < 256 by decide)
  rw [e _ n (by rw [q1 _ _ _ _ h1 h2 h3, Nat.mod_mod]), e _ (n / 256) (q2 _ _ _ _ h1 h2 h3), e _ (n / 65536) (q3 _ _ _ _ h2 h3), e _ (n / 16777216) (q4 _ _ _ _ h3)]

/-- A world behind w: no old block was turned. -/
structure Aft (w : World) where
  val : World
  h : Fr No w val
instance (w : World) : Inhabited (Aft w) := ⟨⟨w, Fr.refl w⟩⟩

theorem wp_region_aft {P : Program} {id : Nat} {Q : Exit → Act → World → Prop} {a : Act} {w : World} {l : List Oper} (hm : P.follows .mixedOrders = true) (hB : Region.lexB .any l.toArray = true)
    (h : wpQuiet P l.toArray (fun w' => ∃ x : Aft w, w' = x.val) (fun a' => ∀ w', (∃ x : Aft w, w' = x.val) → Q .normal a' w') l a) : (Code.region id l.toArray true).wp P Q a w :=
  wp_region_quiet (C := fun w' => ∃ x : Aft w, w' = x.val) hm hB ⟨⟨_, (Fr.refl w).drew⟩, rfl⟩ (by simpa using h)

theorem calls_aft {P : Program} {f : FuncId} {args : Array Value} {w : World} {x : Aft w} {v : Value}
    (h : Calls P f args x.val fun e w' => e = .returned v ∧ Fr No x.val w') : Calls P f args x.val fun e w'' => e = .returned v ∧ ∃ y : Aft w, w'' = y.val :=
  h.mono fun _ w' ⟨he, hf⟩ => ⟨he, ⟨w', x.h.trans hf⟩, rfl⟩

section
variable {P : Program} {ops : Array Oper} {md : Region.Mode} {Q : Exit → Act → World → Prop}

def freeN (l : Array Bool) : Nat := (l.toList.filter (fun b => !b)).length
theorem freeN_set {l : Array Bool} {i : Nat} (h : l.getD i true = false) : freeN (l.setIfInBounds i true) < freeN l := by
  obtain ⟨l⟩ := l
  unfold freeN
  simp only [List.setIfInBounds_toArray]
  have hi : i < l.length := by
    rcases Nat.lt_or_ge i l.length with hi | hi
    · exact hi
    · simp [Array.getD, Nat.not_lt.2 hi] at h
  have hf : l[i] = false := by simpa [Array.getD, hi] using h
  clear h
  induction l generalizing i with
  | nil => simp at hi
  | cons b l ih =>
    cases i with
    | zero =>
      simp only [List.getElem_cons_zero] at hf
      subst hf
      simp
    | succ i =>
      have := ih (i := i) (by simpa using hi) (by simpa using hf)
      simp only [List.set_cons_succ, List.filter_cons]
      split
      · simpa using this
      · exact this
theorem ready_free {l : Array Bool} {i : Nat} (h : i ∈ Region.ready md ops l) : l.getD i true = false := (mem_ready.1 h).1

theorem wpAny_inv (I : Array Bool → Act → World → Prop)
    (step : ∀ listed a w i, I listed a w → i ∈ Region.ready md ops listed → wpOp P ops Q i (fun a' w' => I (listed.setIfInBounds i true) a' w') a w)
    (done : ∀ listed a w, I listed a w → Region.ready md ops listed = [] → Q .normal a w) :
    ∀ (fuel : Nat) (listed : Array Bool) (a : Act) (w : World), freeN listed ≤ fuel → I listed a w → wpAny P md ops Q fuel listed a w
  | 0, listed, a, w, hf, h => by
    have hr : Region.ready md ops listed = [] := by
      rcases hx : Region.ready md ops listed with _ | ⟨i, r⟩
      · rfl
      · have h1 := freeN_set (ready_free (md := md) (ops := ops) (l := listed) (i := i) (by rw [hx]; simp))
        omega
    exact ⟨hr, done _ _ _ h hr⟩
  | fuel + 1, listed, a, w, hf, h => by
    refine ⟨fun hr => done _ _ _ h hr, fun i hi => ?_⟩
    refine wpOp_mono (fun a' w' h' => ?_) (step listed a w i h hi)
    have h1 := freeN_set (ready_free hi)
    exact wpAny_inv I step done fuel _ a' w' (by omega) h'

theorem wp_region_inv {id : Nat} {a : Act} {w : World} (hm : P.follows .mixedOrders = true) (I : Array Bool → Act → World → Prop)
    (h0 : I (Array.replicate ops.size false) a w.drew)
    (step : ∀ listed a w i, I listed a w → i ∈ Region.ready .any ops listed → wpOp P ops Q i (fun a' w' => I (listed.setIfInBounds i true) a' w') a w)
    (done : ∀ listed a w, I listed a w → Region.ready .any ops listed = [] → Q .normal a w) : (Code.region id ops true).wp P Q a w :=
  wp_region_any hm (wpAny_inv I step done _ _ _ _ (by simp [freeN]) h0)

/-- One operation of a region, which is wanted. -/
theorem wpOp_go {i : Nat} {o : Oper} {K : Act → World → Prop} {a : Act} {w : World} (hi : ops[i]? = some o) (hg : o.guard = none) (h : o.wp P a w K Q) : wpOp P ops Q i K a w := by
  unfold wpOp
  rw [hi]
  have hw : Region.wanted o (yielded ops a.tmps) = true := by simp [Region.wanted, hg]
  simp only [hw, if_true]
  exact .inl h

/-- .. with what follows behind a variable. -/
theorem wpOp_step {i : Nat} {o : Oper} {I : Act → World → Prop} {a : Act} {w : World} (hi : ops[i]? = some o) (hg : o.guard = none) (h : ∀ K : Act → World → Prop, (∀ a w, I a w → K a w) → o.wp P a w K Q) : wpOp P ops Q i I a w :=
  wpOp_go hi hg (h I (fun _ _ h => h))
/-- The relation may name the frame at the region's beginning. -/
theorem wp_region_inv' {id : Nat} {a : Act} {w : World} (hm : P.follows .mixedOrders = true) (J : Act → Array Bool → Act → World → Prop)
    (h0 : J a (Array.replicate ops.size false) a w.drew)
    (step : ∀ listed a' w' i, J a listed a' w' → i ∈ Region.ready .any ops listed → wpOp P ops Q i (fun a'' w'' => J a (listed.setIfInBounds i true) a'' w'') a' w')
    (done : ∀ listed a' w', J a listed a' w' → Region.ready .any ops listed = [] → Q .normal a' w') : (Code.region id ops true).wp P Q a w :=
  wp_region_inv hm (J a) h0 step done

/-- Operation i may come up: it has not yet, and what binds it has. -/
theorem ready_of {listed : Array Bool} {i : Nat} {o : Oper} (h : i ∈ Region.ready md ops listed) (hi : ops[i]? = some o) : ∀ e ∈ o.after, Region.binds md e = true → listed.getD e.on false = true := by
  obtain ⟨_, o', ho, ha⟩ := mem_ready.1 h
  rw [hi] at ho
  cases ho
  exact ha
theorem ready_lt {listed : Array Bool} {i : Nat} (h : i ∈ Region.ready md ops listed) : i < ops.size := by
  obtain ⟨_, o', ho, _⟩ := mem_ready.1 h
  exact (Array.getElem?_eq_some_iff.1 ho).1
/-- Where nothing may come up any more all has come up, if what an operation waits for stands before it. -/
theorem listed_all {listed : Array Bool} (hlow : ((List.range ops.size).all fun i => (ops[i]?).all fun o => o.after.all fun e => decide (e.on < i)) = true) (hs : listed.size = ops.size)
    (hr : Region.ready md ops listed = []) : ∀ i, i < ops.size → listed.getD i true = true := by
  intro i
  induction i using Nat.strongRecOn with
  | ind i ih =>
    intro hi
    rcases hx : listed.getD i true with _ | _
    · exfalso
      have hmem : i ∈ Region.ready md ops listed := by
        refine mem_ready.2 ⟨hx, ops[i], Array.getElem?_eq_getElem hi, fun e he _ => ?_⟩
        have h1 := List.all_eq_true.1 hlow i (List.mem_range.2 hi)
        rw [Array.getElem?_eq_getElem hi] at h1
        simp only [Option.all_some] at h1
        have h2 : e.on < i := by
          obtain ⟨k, hk, rfl⟩ := Array.mem_iff_getElem.1 he
          have := Array.all_eq_true.1 h1 k hk
          simpa using this
        have h3 := ih e.on h2 (by omega)
        have h4 : e.on < listed.size := by omega
        simp only [Array.getD, h4, dif_pos] at h3 ⊢
        exact h3
      rw [hr] at hmem
      cases hmem
    · rfl
end

section
variable {P : Program} {ops : Array Oper} {Q : Exit → Act → World → Prop} {md : Region.Mode} {S : World → Prop} {last : Nat}

/-- Whatever order is picked from here on; S holds behind every operation but the last one. -/
def wpAnyL (P : Program) (md : Region.Mode) (ops : Array Oper) (Q : Exit → Act → World → Prop) (S : World → Prop) (last : Nat) : Nat → Array Bool → Act → World → Prop
  | 0, listed, a, w => Region.ready md ops listed = [] ∧ Q .normal a w
  | fuel + 1, listed, a, w =>
    (Region.ready md ops listed = [] → Q .normal a w) ∧
    ∀ i ∈ Region.ready md ops listed, wpOp P ops Q i (fun a' w' => (i ≠ last → S w') ∧ wpAnyL P md ops Q S last fuel (listed.setIfInBounds i true) a' w') a w
theorem wpAny_of_but : ∀ (fuel : Nat) (listed : Array Bool) (a : Act) (w : World), wpAnyL P md ops Q S last fuel listed a w → wpAny P md ops Q fuel listed a w
  | 0, _, _, _, h => h
  | fuel + 1, _, _, _, h => ⟨h.1, fun i hi => wpOp_mono (fun a' w' h' => wpAny_of_but fuel _ a' w' h'.2) (h.2 i hi)⟩
/-- What has come up had waited for what it waits for. -/
def closed (md : Region.Mode) (ops : Array Oper) (listed : Array Bool) : Prop := ∀ j oj, ops[j]? = some oj → listed.getD j false = true → ∀ e ∈ oj.after, Region.binds md e = true → listed.getD e.on false = true
def closedB (md : Region.Mode) (ops : Array Oper) (listed : Array Bool) : Bool := (List.range ops.size).all fun j => (ops[j]?).all fun o => !(listed.getD j false) || o.after.all fun e => !(Region.binds md e) || listed.getD e.on false
theorem closedB_spec {listed : Array Bool} (h : closedB md ops listed = true) : closed md ops listed := fun j oj hj hl e he hb => by
  have hlt := (Array.getElem?_eq_some_iff.1 hj).1
  have h1 := List.all_eq_true.1 h j (List.mem_range.2 hlt)
  rw [hj] at h1
  simp only [Option.all_some, hl, Bool.not_true, Bool.false_or] at h1
  obtain ⟨k, hk, rfl⟩ := Array.mem_iff_getElem.1 he
  have h2 := Array.all_eq_true.1 h1 k hk
  rw [hb] at h2
  simpa using h2
/-- Does number j wait for number i, by way of others perhaps? -/
def waitsB (md : Region.Mode) (ops : Array Oper) (i : Nat) : Nat → Nat → Bool
  | 0, _ => false
  | n + 1, j => (ops[j]?).any fun o => o.after.any fun e => Region.binds md e && (decide (e.on = i) || waitsB md ops i n e.on)
theorem not_both {listed : Array Bool} {i : Nat} (h0 : listed.getD i true = false) (h1 : listed.getD i false = true) : False := by
  rcases Nat.lt_or_ge i listed.size with h' | h'
  · simp [h'] at h0 h1; rw [h0] at h1; cases h1
  · simp [Array.getElem?_eq_none h'] at h1
theorem waitsB_not {listed : Array Bool} {i : Nat} (hc : closed md ops listed) (h0 : listed.getD i true = false) : ∀ (n j : Nat), waitsB md ops i n j = true → listed.getD j false = true → False
  | 0, _, h, _ => by cases h
  | n + 1, j, h, hl => by
    rw [waitsB, Option.any_eq_true] at h
    obtain ⟨o, ho, h⟩ := h
    obtain ⟨k, hk, h2⟩ := Array.any_eq_true.1 h
    rw [Bool.and_eq_true, Bool.or_eq_true, decide_eq_true_eq] at h2
    have h3 := hc j o ho hl _ (Array.getElem_mem hk) h2.1
    rcases h2.2 with h4 | h4
    · rw [h4] at h3; exact not_both h0 h3
    · exact waitsB_not hc h0 n _ h4 h3
theorem closed_set {listed : Array Bool} {j : Nat} (hc : closed md ops listed) (hj : j ∈ Region.ready md ops listed) : closed md ops (listed.setIfInBounds j true) := by
  obtain ⟨hjun, oj, hoj, hall⟩ := mem_ready.1 hj
  have up : ∀ k, listed.getD k false = true → (listed.setIfInBounds j true).getD k false = true := fun k hk => by
    by_cases hkj : j = k
    · subst hkj
      rcases Nat.lt_or_ge j listed.size with h' | h'
      · simp [h']
      · simp [Array.getElem?_eq_none h'] at hk
    · rw [getD_set_ne false hkj]; exact hk
  intro k ok hk hl e he hb
  by_cases hkj : j = k
  · subst hkj
    rw [hoj] at hk
    obtain rfl := Option.some.inj hk
    exact up _ (hall e he hb)
  · rw [getD_set_ne false hkj] at hl
    exact up _ (hc k ok hk hl e he hb)
theorem wpAnyL_first {i : Nat} {oi : Oper} {v : Value} (hi : ops[i]? = some oi) (hsel : ∀ (j : Nat) (o : Oper) cs b, ops[j]? = some o → o.op ≠ .select cs b)
    (hQ : ∀ c a w, Q (.panic c) (a.put oi.dst v) w → Q (.panic c) a w) (hl : waitsB md ops i ops.size last = true) (hil : i ≠ last) :
    ∀ (fuel : Nat) (listed : Array Bool) (a : Act) (w : World),
      (∀ j oj, ops[j]? = some oj → j ≠ i → listed.getD j true = false → (∀ e ∈ oj.after, Region.binds md e = true → e.on ≠ i) → oi.apart ops oj = true) →
      closed md ops listed → i ∈ Region.ready md ops listed → YieldsIf P ops S oi v a → S w →
      wpAnyL P md ops Q S last fuel (listed.setIfInBounds i true) (a.put oi.dst v) w → wpAnyL P md ops Q S last (fuel + 1) listed a w := by
  intro fuel
  induction fuel with
  | zero =>
    intro listed a w _ _ hr hy hS H
    refine ⟨fun h => (by rw [h] at hr; cases hr), fun j hj => ?_⟩
    by_cases hji : j = i
    · subst hji; exact hy.wpOp hi hS ⟨fun _ => hS, H⟩
    · have := ready_mono hj hji
      rw [H.1] at this
      cases this
  | succ fuel ih =>
    intro listed a w hfree hcl hr hy hS H
    refine ⟨fun h => (by rw [h] at hr; cases hr), fun j hj => ?_⟩
    by_cases hji : j = i
    · subst hji; exact hy.wpOp hi hS ⟨fun _ => hS, H⟩
    · have h1 := H.2 j (ready_mono hj hji)
      obtain ⟨hjun, oj, hoj, hall⟩ := mem_ready.1 hj
      have hnot : ∀ e ∈ oj.after, Region.binds md e = true → e.on ≠ i := fun e he hb heq => by
        have h1 := hall e he hb
        have h0 := (mem_ready.1 hr).1
        rw [heq] at h1
        rcases Nat.lt_or_ge i listed.size with h' | h'
        · simp [h'] at h0 h1; rw [h0] at h1; cases h1
        · simp [Array.getElem?_eq_none h'] at h1
      have hjl : j ≠ last := fun e => by
        subst e
        obtain ⟨n, hn⟩ : ∃ n, ops.size = n + 1 := ⟨ops.size - 1, by have := (Array.getElem?_eq_some_iff.1 hoj).1; omega⟩
        rw [hn, waitsB, Option.any_eq_true] at hl
        obtain ⟨o, ho, h⟩ := hl
        rw [hoj] at ho
        obtain rfl := Option.some.inj ho
        obtain ⟨k, hk, h2⟩ := Array.any_eq_true.1 h
        rw [Bool.and_eq_true, Bool.or_eq_true, decide_eq_true_eq] at h2
        have h3 := hall _ (Array.getElem_mem hk) h2.1
        rcases h2.2 with h4 | h4
        · exact hnot _ (Array.getElem_mem hk) h2.1 h4
        · exact waitsB_not hcl (mem_ready.1 hr).1 n _ h4 h3
      have h2 := wpOp_putIf hoj (hfree j oj hoj hji hjun hnot) (fun cs b => hsel i oi cs b hi) (fun cs b => hsel j oj cs b hoj) hQ hy h1
      have hfree' : ∀ k ok, ops[k]? = some ok → k ≠ i → (listed.setIfInBounds j true).getD k true = false →
          (∀ e ∈ ok.after, Region.binds md e = true → e.on ≠ i) → oi.apart ops ok = true := fun k ok hk hki hun hno => by
        refine hfree k ok hk hki ?_ hno
        by_cases hjk : j = k
        · subst hjk; exact hjun
        · rw [getD_set_ne true hjk] at hun; exact hun
      refine wpOp_mono (fun a' w' h3 => ⟨h3.2.1, ih (listed.setIfInBounds j true) a' w' hfree' (closed_set hcl hj) (ready_mono hr (Ne.symm hji)) h3.1 (h3.2.1 hjl) ?_⟩) h2
      rw [Array.setIfInBounds_comm _ _ hji]
      exact h3.2.2
theorem wpAnyL_take {i : Nat} {oi : Oper} {v : Value} {fuel : Nat} {listed : Array Bool} {a : Act} {w : World} (hi : ops[i]? = some oi)
    (hs : Region.noSelect ops = true) (hf : Region.free md ops listed i = true) (hr : (Region.ready md ops listed).contains i = true) (hl : (waitsB md ops i ops.size last && (decide (i ≠ last) && closedB md ops listed)) = true)
    (hQ : ∀ c a w, Q (.panic c) (a.put oi.dst v) w → Q (.panic c) a w) (hS : S w) (hy : YieldsIf P ops S oi v a)
    (h : wpAnyL P md ops Q S last fuel (listed.setIfInBounds i true) (a.put oi.dst v) w) : wpAnyL P md ops Q S last (fuel + 1) listed a w :=
  have hl' : waitsB md ops i ops.size last = true ∧ i ≠ last ∧ closedB md ops listed = true := by simpa using hl
  wpAnyL_first hi (Region.noSelect_spec hs) hQ hl'.1 hl'.2.1 fuel listed a w (Region.free_spec hi hf) (closedB_spec hl'.2.2) (by simpa using hr) hy hS h
/-- One operation alone may come up. -/
theorem wpAnyL_one (i : Nat) {o : Oper} {fuel : Nat} {listed : Array Bool} {a : Act} {w : World} (hr : Region.ready md ops listed = [i]) (hi : ops[i]? = some o) (hg : o.guard = none)
    (h : ∀ K : Act → World → Prop, (∀ a' w', (i ≠ last → S w') → wpAnyL P md ops Q S last fuel (listed.setIfInBounds i true) a' w' → K a' w') → o.wp P a w K Q) : wpAnyL P md ops Q S last (fuel + 1) listed a w :=
  ⟨fun h0 => (by rw [hr] at h0; cases h0), fun j hj => by
    rw [hr] at hj
    obtain rfl : j = i := by simpa using hj
    exact wpOp_go hi hg (h _ (fun a' w' h1 h2 => ⟨h1, h2⟩))⟩
theorem wpAnyL_done {listed : Array Bool} {a : Act} {w : World} (hr : Region.ready md ops listed = []) (h : Q .normal a w) : ∀ fuel, wpAnyL P md ops Q S last fuel listed a w
  | 0 => ⟨hr, h⟩
  | _ + 1 => ⟨fun _ => h, by rw [hr]; simp⟩
theorem wp_region_but (S : World → Prop) (last : Nat) {id : Nat} {a : Act} {w : World} (hm : P.follows .mixedOrders = true)
    (h : wpAnyL P .any ops Q S last ops.size (Array.replicate ops.size false) a w.drew) : (Code.region id ops true).wp P Q a w :=
  wp_region_any hm (wpAny_of_but _ _ _ _ h)
end
end Go.Proofs.YtnmfmedoocnofaaDoor
