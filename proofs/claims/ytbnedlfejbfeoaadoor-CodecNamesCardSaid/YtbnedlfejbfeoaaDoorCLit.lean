/-
  Literals: what a slot holds behind one operation of a literal. No statement of the seat is proved here.
-/
import Derived.Test.YtbnedlfejbfeoaaDoorCFill
import Derived.Great.FillDense
namespace Go.Proofs.YtbnedlfejbfeoaaDoor
open Go.RowKit

theorem act_tmp (a : Act) (t : Nat) : a.tmps[t]?.getD undef = a.eval (.tmp t) := by simp [Act.eval, Array.getD_eq_getD_getElem?]

def IntsAt (zs : List Int) (w : World) (v : Value) : Prop := ∃ q, v = .slice q zs.length zs.length ∧ SlAt w q (zs.map numV)
def StrsAt (ts : List (List UInt8)) (w : World) (v : Value) : Prop := ∃ q, v = .slice q ts.length ts.length ∧ SlAt w q (ts.map strV)
def LEv (e : Ev) (w : World) (v : Value) : Prop := ∃ s, v = evV s e ∧ EvAt w s e
def LPair (p : Ev × List UInt8) (w : World) (v : Value) : Prop :=
  ∃ s, v = .agg #[.int .u8 p.1.v, .int .u8 p.1.kind, .slice s.qn p.1.nums.length s.cn, .slice s.qt p.1.texts.length s.ct, strV p.2] ∧ EvAt w s p.1
def LSk (p : List UInt8 × Nat) (_ : World) (v : Value) : Prop := v = .agg #[strV p.1, .int .i64 p.2]
/-- A slice literal of things of s cells each. -/
def LRows (T : TypeId) (H : List (World → Value → Prop)) (w : World) (v : Value) : Prop :=
  ∃ (g : Nat) (vs : List Value), v = .slice (some ⟨g, 0, none⟩) H.length H.length ∧ w.heap[g]? = some (.cells (vs.flatMap fun v => v.cells.toList).toArray T (0, 0)) ∧ vs.length = H.length ∧ ∀ (i : Nat) h, H[i]? = some h → ∃ v, vs[i]? = some v ∧ h w v

theorem IntsAt.fr {zs : List Int} {w w' : World} {v : Value} (h : IntsAt zs w v) (hf : Fr No w w') : IntsAt zs w' v := h.imp fun _ h => ⟨h.1, h.2.fr hf⟩
theorem StrsAt.fr {zs : List (List UInt8)} {w w' : World} {v : Value} (h : StrsAt zs w v) (hf : Fr No w w') : StrsAt zs w' v := h.imp fun _ h => ⟨h.1, h.2.fr hf⟩
theorem LEv.fr {e : Ev} {w w' : World} {v : Value} (h : LEv e w v) (hf : Fr No w w') : LEv e w' v := h.imp fun _ h => ⟨h.1, h.2.fr hf⟩
theorem LPair.fr {e : Ev × List UInt8} {w w' : World} {v : Value} (h : LPair e w v) (hf : Fr No w w') : LPair e w' v := h.imp fun _ h => ⟨h.1, h.2.fr hf⟩
theorem LRows.fr {T : TypeId} {H : List (World → Value → Prop)} {w w' : World} {v : Value} (h : LRows T H w v) (hf : Fr No w w') (hm : ∀ h ∈ H, ∀ v, h w v → h w' v) : LRows T H w' v := by
  obtain ⟨g, vs, h1, h2, h3, h4⟩ := h
  exact ⟨g, vs, h1, hf.heap0 h2, h3, fun i x hi => (h4 i x hi).imp fun v h => ⟨h.1, hm _ (List.mem_of_getElem? hi) _ h.2⟩⟩
/-- Cell j of part i. -/
theorem LRows.cell {vs : List Value} {T : TypeId} {w : World} {g s : Nat} (hs : 0 < s) (hg : w.heap[g]? = some (.cells (vs.flatMap fun v => v.cells.toList).toArray T (0, 0))) (hv : ∀ v ∈ vs, v.cells.size = s) {i j : Nat} {v c : Value}
    (hi : vs[i]? = some v) (hj : v.cells[j]? = some c) (hjs : j < s) : w.cell? ⟨g, i * s + j, none⟩ = some c := by
  rw [cell_of_row w g _ _ T (0, 0) hg]
  have h := Go.Great.flat_get hs vs hv (i * s + j)
  have h1 : (i * s + j) / s = i := by rw [Nat.mul_comm, Nat.mul_add_div hs, Nat.div_eq_of_lt hjs, Nat.add_zero]
  have h2 : (i * s + j) % s = j := by rw [Nat.mul_comm, Nat.mul_add_mod, Nat.mod_eq_of_lt hjs]
  rw [h1, h2, hi] at h
  simpa [hj] using h

inductive Lit where
  | none
  | num (n : Int)
  | ints (zs : List Int)
  | strs (ts : List (List UInt8))
  | ev (e : Ev)
  | pair (e : Ev) (t : List UInt8)
  | sk (t : List UInt8) (k : Nat)
  | evs (l : List Ev)
  | pairs (l : List (Ev × List UInt8))
  | sks (l : List (List UInt8 × Nat))
instance : Inhabited Lit := ⟨.none⟩

def Lit.holds (TP TS : TypeId) : Lit → World → Value → Prop
  | .none, _, _ => True
  | .num n, _, v => v = .int .i64 n
  | .ints zs, w, v => IntsAt zs w v
  | .strs ts, w, v => StrsAt ts w v
  | .ev e, w, v => LEv e w v
  | .pair e t, w, v => LPair (e, t) w v
  | .sk t k, w, v => LSk (t, k) w v
  | .evs l, w, v => LRows 26 (l.map LEv) w v
  | .pairs l, w, v => LRows TP (l.map LPair) w v
  | .sks l, w, v => LRows TS (l.map LSk) w v
theorem Lit.fr {TP TS : TypeId} : ∀ (k : Lit) (w w' : World) (v : Value), k.holds TP TS w v → Fr No w w' → k.holds TP TS w' v
  | .none, _, _, _, _, _ => trivial
  | .num _, _, _, _, h, _ => h
  | .ints _, _, _, _, h, hf => IntsAt.fr h hf
  | .strs _, _, _, _, h, hf => StrsAt.fr h hf
  | .ev _, _, _, _, h, hf => LEv.fr h hf
  | .pair _ _, _, _, _, h, hf => LPair.fr h hf
  | .sk _ _, _, _, _, h, _ => h
  | .evs _, _, _, _, h, hf => LRows.fr h hf fun x hx v hv => by obtain ⟨_, _, rfl⟩ := List.mem_map.1 hx; exact LEv.fr hv hf
  | .pairs _, _, _, _, h, hf => LRows.fr h hf fun x hx v hv => by obtain ⟨_, _, rfl⟩ := List.mem_map.1 hx; exact LPair.fr hv hf
  | .sks _, _, _, _, h, hf => LRows.fr h hf fun x hx v hv => by obtain ⟨_, _, rfl⟩ := List.mem_map.1 hx; exact hv
def litAt (TP TS : TypeId) (ks : List Lit) (i : Nat) (w : World) (v : Value) : Prop := (ks.getD i .none).holds TP TS w v

section
variable {P : Program}
theorem parts_tmps (a : Act) (parts : Array (Nat × Operand)) (ts : List Nat) (hp : parts.toList = (ts.zipIdx 0).map fun x => (x.2, Operand.tmp x.1)) :
    (parts.map fun (i, x) => (i, a.eval x)).toList = ((ts.map fun t => a.eval (.tmp t)).zipIdx 0).map fun x => (x.2, x.1) := by
  rw [Array.toList_map, hp, List.zipIdx_map, List.map_map, List.map_map]
  rfl
/-- A slice literal of parts that lie in slots. -/
theorem step_rows {o : Oper} {a : Act} {w : World} {K : Act → World → Prop} {Q : Exit → Act → World → Prop} (t e : TypeId) (len : Nat) (parts : Array (Nat × Operand)) (ho : o.op = .buildSlice t len parts) (H : List (World → Value → Prop))
    (hu : P.underlying t = some (.slice e)) (s : Nat) (hs : 0 < s) (hsz : (P.info? e).map (·.size) = some s) (hz : ((P.info? e).bind (·.zero)).isSome = true) (ts : List Nat)
    (hp : parts.toList = (ts.zipIdx 0).map fun x => (x.2, Operand.tmp x.1)) (hlen : len = ts.length) (hH : H.length = ts.length) (hpos : 0 < len) (hsmall : len * s ≤ 2 ^ 24)
    (hv : ∀ (i : Nat) (h : World → Value → Prop) (d : Nat), H[i]? = some h → ts[i]? = some d → h w (a.eval (.tmp d))) (hc : ∀ h ∈ H, ∀ w v, h w v → v.cells.size = s) (hm : ∀ h ∈ H, ∀ w w' v, h w v → Fr No w w' → h w' v)
    (h : ∀ v w', Fr No w w' → LRows e H w' v → K (a.put o.dst v) w') : o.wp P a w K Q := by
  cases hie : P.info? e with
  | none => simp [hie] at hsz
  | some ie =>
    simp only [hie, Option.map_some, Option.some.injEq, Option.bind_some] at hsz hz
    obtain ⟨z, hzz⟩ := Option.isSome_iff_exists.1 hz
    have hvs : ∀ v ∈ (ts.map fun t => a.eval (.tmp t)), v.cells.size = s := fun v hv' => by
      obtain ⟨d, hd, rfl⟩ := List.mem_map.1 hv'
      obtain ⟨i, hi⟩ := List.mem_iff_getElem?.1 hd
      have hi' : i < H.length := by rw [hH]; exact (List.getElem?_eq_some_iff.1 hi).1
      exact hc _ (List.getElem_mem hi') w _ (hv i _ d (List.getElem?_eq_getElem hi') hi)
    have hne : ¬ len * ie.size = 0 := by rw [hsz]; exact Nat.ne_of_gt (Nat.mul_pos hpos hs)
    have hf := Go.Great.fill_whole hs (ts.map fun t => a.eval (.tmp t)) ((Array.range (len * ie.size)).map (z.cells[· % z.cells.size]!)) hvs (by simp [hlen, hsz])
    rw [← parts_tmps a parts ts hp] at hf
    refine wp_buildSlice t e len parts ho _ ie z hu hie hzz (by rw [hsz]; omega) hne (by rw [hsz] at hf ⊢; exact hf) ?_
    refine h _ _ ((Fr.refl w).alloc _) ⟨w.heap.size, ts.map fun t => a.eval (.tmp t), by rw [hlen, hH], Go.heap_alloc_new _ _, by simp [hH], fun i x hi => ?_⟩
    have hi' : i < ts.length := by rw [← hH]; exact (List.getElem?_eq_some_iff.1 hi).1
    refine ⟨a.eval (.tmp ts[i]), by simp [hi'], ?_⟩
    exact hm _ (List.mem_of_getElem? hi) _ _ _ (hv i x _ hi (List.getElem?_eq_getElem hi')) ((Fr.refl w).alloc _)
end
end Go.Proofs.YtbnedlfejbfeoaaDoor
