/-
  Rows that a call made, whatever their making: empty, or owned; append onto them: no statement of the seat is proved here. No conditions. An event in new memory: own of the statements.
-/
import Derived.Test.YtnmfmedoocnofaaDoorSpec
import Derived.RegionTactic
import Derived.Test.YtnmfmedoocnofaaDoorMay
import Derived.Deep.RegionHeld3
import Derived.Deep.DrawnRows
import Derived.Laws.Rows
namespace Go.Proofs.YtnmfmedoocnofaaDoor
open Go.RowKit

/-- A slice without room, or an owned row that lies from block B on. -/
def Rs (B : Nat) (w : World) (t : TypeId) (v : Value) (xs : List Value) : Prop :=
  (xs = [] ∧ ∃ a, v = .slice a 0 0) ∨ (Own w t 1 v xs.length xs ∧ ∀ k, v.ownBlock = some k → B ≤ k)
theorem Rs.of_res {B : Nat} {w : World} {t : TypeId} {v : Value} {xs : List Value} (h : Res B w t v xs) : Rs B w t v xs := .inr ⟨h.own, h.new⟩
theorem Rs.nil (B : Nat) (w : World) (t : TypeId) (a : Option Addr) : Rs B w t (.slice a 0 0) [] := .inl ⟨rfl, a, rfl⟩
/-- The blocks that writing to the row may turn. -/
def RsX (B : Nat) (v : Value) : Nat → Prop := fun k => v.ownBlock = some k ∧ B ≤ k
theorem Rs.fr {X : Nat → Prop} {B : Nat} {w w' : World} {t : TypeId} {v : Value} {xs : List Value} (h : Rs B w t v xs) (hf : Fr X w w') (hn : ∀ k, v.ownBlock = some k → B ≤ k → ¬ X k) : Rs B w' t v xs := by
  rcases h with h | h
  · exact .inl h
  · exact .inr ⟨h.1.fr hf (fun k hk => hn k hk (h.2 k hk)), h.2⟩
theorem Rs.fr0 {B : Nat} {w w' : World} {t : TypeId} {v : Value} {xs : List Value} (h : Rs B w t v xs) (hf : Fr No w w') : Rs B w' t v xs := h.fr hf (fun _ _ _ => id)
theorem Rs.mono {B B' : Nat} {w : World} {t : TypeId} {v : Value} {xs : List Value} (h : Rs B w t v xs) (hB : B' ≤ B) : Rs B' w t v xs := by
  rcases h with h | h
  · exact .inl h
  · exact .inr ⟨h.1, fun k hk => Nat.le_trans hB (h.2 k hk)⟩
theorem Rs.shape {B : Nat} {w : World} {t : TypeId} {v : Value} {xs : List Value} (h : Rs B w t v xs) : ∃ q cap, v = .slice q xs.length cap := by
  rcases h with ⟨rfl, a, rfl⟩ | h
  · exact ⟨_, _, rfl⟩
  · exact h.1.shape
theorem Rs.at_ {B : Nat} {w : World} {t : TypeId} {q : Option Addr} {n cap : Nat} {xs : List Value} (h : Rs B w t (.slice q n cap) xs) : SlAt w q xs := by
  rcases h with ⟨rfl, _⟩ | h
  · exact SlAt.nil _ _
  · exact Res.at_ (B := B) (t := t) ⟨h.1, h.2⟩
theorem Rs.at' {B : Nat} {w : World} {t : TypeId} {v : Value} {xs : List Value} (h : Rs B w t v xs) : ∃ q cap, v = .slice q xs.length cap ∧ SlAt w q xs := by
  obtain ⟨q, cap, rfl⟩ := h.shape
  exact ⟨q, cap, rfl, h.at_⟩
/-- A row of something lies in a new block. -/
theorem Rs.cell_at {B : Nat} {w : World} {t : TypeId} {q : Option Addr} {n cap : Nat} {xs : List Value} (h : Rs B w t (.slice q n cap) xs) {i : Nat} (hi : i < xs.length) :
    ∃ b cur, q = some ⟨b, 0, none⟩ ∧ B ≤ b ∧ w.heap[b]? = some (.cells cur t (0, 0)) ∧ cur.toList.take xs.length = xs := by
  rcases h with ⟨rfl, _⟩ | ⟨h, hb⟩
  · simp at hi
  · rcases h.2 with ⟨h1, h2⟩ | ⟨g, cap', cur, h1, _, hg, h3, h4, h5, h6⟩
    · have := h.1
      rw [h2] at this
      omega
    · refine ⟨g, cur, by injection h1, hb g (by rw [h1]; rfl), hg, ?_⟩
      simpa using h6

section
variable {P : Program}
theorem Src.ofSl {w : World} {t e : TypeId} (ht : P.underlying t = some (.slice e)) {q : Option Addr} {c : Nat} {xs : List Value} (h : SlAt w q xs) (h1 : ∀ u, u ∈ xs → u.oneCell' = true) :
    Src P 1 t (.slice q xs.length c) xs.length xs w := by
  rcases q with _ | a
  · have : xs = [] := by
      rcases xs with _ | ⟨x, xs⟩
      · rfl
      · obtain ⟨b, o, hq, _⟩ := h 0 x rfl
        cases hq
    subst this
    exact Src.ofNil w ht c
  · refine Src.ofSlice w ht a _ c xs (by simp) (fun j u hu => ?_) h1
    obtain ⟨b, o, hq, hc⟩ := h j u hu
    injection hq with hq
    subst hq
    have hadd : (⟨b, o, none⟩ : Addr).add j = ⟨b, o + j, none⟩ := by unfold Addr.add; split <;> simp_all
    rw [hadd]
    exact hc

/-- append onto a slice without room. -/
theorem run_append0 {w : World} {B : Nat} (t tx ty e : TypeId) (i : TypeInfo) (z : Value) (bytes : Nat) (ht : P.underlying t = some (.slice e)) (hi : P.info? e = some i) (hz : i.zero = some z)
    (hsize : i.size = 1) (hby : i.bytes = bytes) (hzs : z.cells.size = 1) (a : Option Addr) (hB : B ≤ w.heap.size)
    {x : Value} {m : Nat} {news : List Value} (hx : Src P 1 tx x m news w) (h63 : m ≤ maxLen) (hbytes : m * bytes ≤ 140737488355328) :
    ∃ v' w', (Builtin.append_ #[t, tx] ty #[.slice a 0 0, x]).run P w = .ok v' w' ∧ Rs B w' e v' news ∧ Fr No w w' ∧ (v'.ownBlock = (Value.slice a 0 0).ownBlock ∨ v'.ownBlock = some w.heap.size) := by
  by_cases hm : m = 0
  · subst hm
    have hn : news = [] := List.eq_nil_of_length_eq_zero (by simpa using hx.newsLen)
    subst hn
    refine ⟨.slice a 0 0, w, ?_, Rs.nil _ _ _ _, Fr.refl _, .inl rfl⟩
    have hc : (Builtin.firstCells i.size 0 x).run P w = .ok #[] w := by rw [hsize]; exact hx.cells
    rcases a with _ | a <;> rcases hx.kind with ⟨e', hk⟩ | hk <;>
      simp [Builtin.append_, run_underlying ht, run_underlying hk, sizeOf, typeInfo, hi, hx.len, hc, storeCells]
  · have hold : (Builtin.firstCells i.size 0 (.slice a 0 0)).run P w.drew = .ok ([] : List Value).toArray w.drew := by
      rcases a with _ | a
      · exact run_firstCells_none _ _ _ _ _
      · exact run_firstCells_some w.drew i.size 0 a 0 0 [] (by simp) (by simp)
    have hx' : Src P i.size tx x m news w := by rw [hsize]; exact hx
    have hs63 : ((0 + m : Nat) : Int) ≤ 9223372036854775807 := by unfold maxLen at h63; omega
    have hr := run_append_grow_src (P := P) w t tx ty e i z ht hi hz a 0 0 [] hold x m news hx' (by omega) hs63 (growslice_fits (by omega) (by rw [hby]; simpa using hbytes))
    have hge := grownCap_ge w (0 + m) 0 e
    have hnl : news.length = m := by simpa using hx.newsLen
    have hcm : grownCap w (0 + m) 0 e ≤ maxLen := grownCap_le_maxLen w (0 + m) 0 e (by simpa using h63)
    refine ⟨_, _, hr, .inr ⟨⟨by simp, .inr ⟨w.heap.size, _, _, ?_, Nat.zero_le _, Go.heap_alloc_new w.drew _, ?_, hcm, ?_, ?_⟩⟩, ?_⟩, ((Fr.refl w).drew).alloc _, .inr rfl⟩
    · simp [hnl]
    · omega
    · simp only [List.nil_append, Array.size_append, List.size_toArray, size_zeroCells, hzs, hnl]; omega
    · simp
    · intro k hk
      have : w.heap.size = k := by simpa [Value.ownBlock] using hk
      omega
theorem run_append_rs {w : World} {B : Nat} (t tx ty e : TypeId) (i : TypeInfo) (z : Value) (bytes : Nat) (ht : P.underlying t = some (.slice e)) (hi : P.info? e = some i) (hz : i.zero = some z)
    (hsize : i.size = 1) (hby : i.bytes = bytes) (hzs : z.cells.size = 1) {v : Value} {xs : List Value} (hr : Rs B w e v xs) (hB : B ≤ w.heap.size)
    {x : Value} {m : Nat} {news : List Value} (hx : Src P 1 tx x m news w) (h63 : xs.length + m ≤ maxLen) (hbytes : (xs.length + m) * bytes ≤ 140737488355328) :
    ∃ v' w', (Builtin.append_ #[t, tx] ty #[v, x]).run P w = .ok v' w' ∧ Rs B w' e v' (xs ++ news) ∧ Fr (RsX B v) w w' ∧ (v'.ownBlock = v.ownBlock ∨ v'.ownBlock = some w.heap.size) := by
  rcases hr with ⟨rfl, a, rfl⟩ | ⟨hown, hn⟩
  · obtain ⟨v', w', h1, h2, h3, h4⟩ := run_append0 (P := P) t tx ty e i z bytes ht hi hz hsize hby hzs a hB hx (by simpa using h63) (by simpa using hbytes)
    exact ⟨v', w', h1, by simpa using h2, h3.of0, h4⟩
  · have hx' : Src P 1 tx x m news w := hx
    obtain ⟨v', w', hrun, h2, h3, h4⟩ := run_append_fr (P := P) w t tx ty e i z 1 bytes ht hi hz hsize hby hzs v xs.length xs hown x m news hx' h63 hbytes
    have hnl : news.length = m := by simpa using hx.newsLen
    refine ⟨v', w', hrun, .inr ⟨by simpa [hnl] using h2, fun k hk => ?_⟩, h3.mono (fun k _ h => ⟨h, hn k h⟩), h4⟩
    rcases h4 with h4 | h4
    · exact hn k (h4 ▸ hk)
    · rw [h4] at hk
      have : w.heap.size = k := by simpa using hk
      omega

theorem wp_append_rs {w : World} {o : Oper} {a : Act} {K : Act → World → Prop} {Q : Exit → Act → World → Prop} (s x : Operand) (t tx : TypeId)
    (ho : o.op = .call { callee := .builtin .append, args := #[s, x], argTypes := #[t, tx] }) (B : Nat) (e : TypeId) (i : TypeInfo) (z : Value) (bytes : Nat) (ht : P.underlying t = some (.slice e)) (hi : P.info? e = some i) (hz : i.zero = some z)
    (hsize : i.size = 1) (hby : i.bytes = bytes) (hzs : z.cells.size = 1) (v : Value) (xs : List Value) (hs : a.eval s = v) (hr : Rs B w e v xs) (hB : B ≤ w.heap.size)
    (xv : Value) (m : Nat) (news : List Value) (hxv : a.eval x = xv) (hx : Src P 1 tx xv m news w) (h63 : xs.length + m ≤ maxLen) (hbytes : (xs.length + m) * bytes ≤ 140737488355328)
    (h : ∀ v' w', Rs B w' e v' (xs ++ news) → Fr (RsX B v) w w' → (v'.ownBlock = v.ownBlock ∨ v'.ownBlock = some w.heap.size) → K (a.put o.dst v') w') : o.wp P a w K Q := by
  obtain ⟨v', w', hrun, h2, h3, h4⟩ := run_append_rs (P := P) t tx o.type e i z bytes ht hi hz hsize hby hzs hr hB hx h63 hbytes
  unfold Oper.wp execOp
  simp only [ho, resolve, invoke, builtin, Sem.run_bind, Sem.run_pure, Result.andThen_ok, List.map_toArray, List.map_cons, List.map_nil, hs, hxv, hrun]
  exact h v' w' h2 h3 h4

theorem wpList_append_rs {w : World} {ops : Array Oper} {rest : List Oper} {o : Oper} {a : Act} {Q : Exit → Act → World → Prop} (hgd : o.guard = none) (s x : Operand) (t tx : TypeId)
    (ho : o.op = .call { callee := .builtin .append, args := #[s, x], argTypes := #[t, tx] }) (B : Nat) (e : TypeId) (i : TypeInfo) (z : Value) (bytes : Nat) (ht : P.underlying t = some (.slice e)) (hi : P.info? e = some i) (hz : i.zero = some z)
    (hsize : i.size = 1) (hby : i.bytes = bytes) (hzs : z.cells.size = 1) (v : Value) (xs : List Value) (hs : a.eval s = v) (hr : Rs B w e v xs) (hB : B ≤ w.heap.size)
    (xv : Value) (m : Nat) (news : List Value) (hxv : a.eval x = xv) (hx : Src P 1 tx xv m news w) (h63 : xs.length + m ≤ maxLen) (hbytes : (xs.length + m) * bytes ≤ 140737488355328)
    (h : ∀ v' w', Rs B w' e v' (xs ++ news) → Fr (RsX B v) w w' → (v'.ownBlock = v.ownBlock ∨ v'.ownBlock = some w.heap.size) → wpList P ops Q rest (a.put o.dst v') w') : wpList P ops Q (o :: rest) a w :=
  wpList_plain hgd fun _ hK => wp_append_rs s x t tx ho B e i z bytes ht hi hz hsize hby hzs v xs hs hr hB xv m news hxv hx h63 hbytes fun v' w' h2 h3 h4 => hK _ _ (h v' w' h2 h3 h4)

theorem step_append_rs {w : World} {ops : Array Oper} {o : Oper} {a : Act} {K : Act → World → Prop} {Q : Exit → Act → World → Prop} {E : Prop} (hgd : o.guard = none) (s x : Operand) (t tx : TypeId)
    (ho : o.op = .call { callee := .builtin .append, args := #[s, x], argTypes := #[t, tx] }) (B : Nat) (e : TypeId) (i : TypeInfo) (z : Value) (bytes : Nat) (ht : P.underlying t = some (.slice e)) (hi : P.info? e = some i) (hz : i.zero = some z)
    (hsize : i.size = 1) (hby : i.bytes = bytes) (hzs : z.cells.size = 1) (v : Value) (xs : List Value) (hs : a.eval s = v) (hr : Rs B w e v xs) (hB : B ≤ w.heap.size)
    (xv : Value) (m : Nat) (news : List Value) (hxv : a.eval x = xv) (hx : Src P 1 tx xv m news w) (h63 : xs.length + m ≤ maxLen) (hbytes : (xs.length + m) * bytes ≤ 140737488355328)
    (h : ∀ v' w', Rs B w' e v' (xs ++ news) → Fr (RsX B v) w w' → (v'.ownBlock = v.ownBlock ∨ v'.ownBlock = some w.heap.size) → K (a.put o.dst v') w') :
    if Region.wanted o (yielded ops a.tmps) = true then Oper.wp P o a w K Q else E := by
  have hw : Region.wanted o (yielded ops a.tmps) = true := by simp [Region.wanted, hgd]
  rw [if_pos hw]
  exact wp_append_rs s x t tx ho B e i z bytes ht hi hz hsize hby hzs v xs hs hr hB xv m news hxv hx h63 hbytes h

theorem step_append0 {w W : World} {ops : Array Oper} {o : Oper} {a : Act} {K : Act → World → Prop} {Q : Exit → Act → World → Prop} {E : Prop} (hgd : o.guard = none) (s x : Operand) (t tx : TypeId)
    (ho : o.op = .call { callee := .builtin .append, args := #[s, x], argTypes := #[t, tx] }) (e : TypeId) (i : TypeInfo) (z : Value) (bytes : Nat) (ht : P.underlying t = some (.slice e)) (hi : P.info? e = some i) (hz : i.zero = some z)
    (hsize : i.size = 1) (hby : i.bytes = bytes) (hzs : z.cells.size = 1) (a0 : Option Addr) (hs : a.eval s = .slice a0 0 0)
    (xv : Value) (m : Nat) (news : List Value) (hxv : a.eval x = xv) (hx : ∀ w', Fr No W w' → Src P 1 tx xv m news w') (h63 : m ≤ maxLen) (hbytes : m * bytes ≤ 140737488355328) (hF : Fr No W w)
    (h : ∀ q cap w', Rs W.heap.size w' e (.slice q m cap) news → Fr No w w' → Fr No W w' → K (a.put o.dst (.slice q m cap)) w') :
    if Region.wanted o (yielded ops a.tmps) = true then Oper.wp P o a w K Q else E := by
  have hw : Region.wanted o (yielded ops a.tmps) = true := by simp [Region.wanted, hgd]
  rw [if_pos hw]
  obtain ⟨v', w', hrun, h2, h3, h4⟩ := run_append0 (P := P) (B := W.heap.size) t tx o.type e i z bytes ht hi hz hsize hby hzs a0 hF.size (hx _ hF) h63 hbytes
  unfold Oper.wp execOp
  simp only [ho, resolve, invoke, builtin, Sem.run_bind, Sem.run_pure, Result.andThen_ok, List.map_toArray, List.map_cons, List.map_nil, hs, hxv, hrun]
  obtain ⟨q, cap, rfl⟩ := h2.shape
  have hnl : news.length = m := by simpa using (hx _ hF).newsLen
  subst hnl
  exact h q cap w' h2 h3 (hF.trans h3)
end
/-- No old block is turned by writing to such a row. -/
theorem Fr.rsx {w w1 w2 : World} {B : Nat} {v : Value} (h : Fr No w w1) (hB : w.heap.size ≤ B) (k : Fr (RsX B v) w1 w2) : Fr No w w2 :=
  h.trans' k (fun i hi hy => absurd hi (by have := hy.2; omega))
/-- Onto what has no room nothing old at all is turned. -/
theorem Fr.rsx0 {w1 w2 : World} {B : Nat} {v : Value} (k : Fr (RsX B v) w1 w2) (hv : ∀ i, i < w1.heap.size → ¬ RsX B v i) : Fr No w1 w2 := k.mono (fun i hi hx => hv i hi hx)

section
theorem infoI64 : (Tryd.prog.info? 2).map (fun i => (i.zero, i.size, i.bytes)) = some (some (.int .i64 0), 1, 8) := by kernel_rfl
theorem infoStr : (Tryd.prog.info? 9).map (fun i => (i.zero, i.size, i.bytes)) = some (some (.string ⟨#[]⟩), 1, 16) := by kernel_rfl
/-- An event whose slices lie in new memory. -/
structure EvNew (B : Nat) (w : World) (s : EvP) (e : Ev) : Prop where
  nums : Rs B w 2 (.slice s.qn e.nums.length s.cn) (e.nums.map numV)
  texts : Rs B w 9 (.slice s.qt e.texts.length s.ct) (e.texts.map strV)
theorem EvNew.fr {B : Nat} {w w' : World} {s : EvP} {e : Ev} (h : EvNew B w s e) (hf : Fr No w w') : EvNew B w' s e := ⟨h.nums.fr0 hf, h.texts.fr0 hf⟩
theorem EvNew.mono {B B' : Nat} {w : World} {s : EvP} {e : Ev} (h : EvNew B w s e) (hB : B' ≤ B) : EvNew B' w s e := ⟨h.nums.mono hB, h.texts.mono hB⟩
theorem EvNew.at_ {B : Nat} {w w0 : World} {s s0 : EvP} {e : Ev} (h : EvNew B w s e) (h0 : EvAt w0 s0 e) : EvAt w s e := ⟨h0.v8, h0.k8, h.nums.at_, h.texts.at_, h0.nl, h0.tl, h0.tx, h0.nr⟩
def OwnPost (w : World) (e : Ev) (en : Ending) (w' : World) : Prop := ∃ s, en = .returned (evV s e) ∧ EvNew w.heap.size w' s e ∧ Fr No w w'
theorem num_one (l : List Int) : ∀ u, u ∈ l.map numV → u.oneCell' = true := by
  intro u hu
  obtain ⟨n, _, rfl⟩ := List.mem_map.1 hu
  rfl
theorem str_one (l : List (List UInt8)) : ∀ u, u ∈ l.map strV → u.oneCell' = true := by
  intro u hu
  obtain ⟨n, _, rfl⟩ := List.mem_map.1 hu
  rfl

theorem cells4 {w : World} {b : Nat} {v0 v1 v2 v3 : Value} {t : TypeId} (h : w.heap[b]? = some (.cells #[v0, v1, v2, v3] t (0, 0))) :
    w.cell? ⟨b, 0, none⟩ = some v0 ∧ w.cell? ⟨b, 1, none⟩ = some v1 ∧ w.cell? ⟨b, 2, none⟩ = some v2 ∧ w.cell? ⟨b, 3, none⟩ = some v3 ∧
    w.frozen? ⟨b, 0, none⟩ = false ∧ w.frozen? ⟨b, 1, none⟩ = false ∧ w.frozen? ⟨b, 2, none⟩ = false ∧ w.frozen? ⟨b, 3, none⟩ = false := by
  refine ⟨?_, ?_, ?_, ?_, ?_, ?_, ?_, ?_⟩ <;> simp [World.cell?, World.frozen?, h]
theorem five_keep {W w' : World} {R b : Nat} {v0 v1 v2 v3 : Value} (c0 : W.cell? ⟨b, 0, none⟩ = some v0) (c1 : W.cell? ⟨b, 1, none⟩ = some v1) (c2 : W.cell? ⟨b, 2, none⟩ = some v2) (c3 : W.cell? ⟨b, 3, none⟩ = some v3) (hne : b ≠ R) (hF : Fr (Only R) W w') :
    Fr (Only R) W w' ∧ w'.cell? ⟨b, 0, none⟩ = some v0 ∧ w'.cell? ⟨b, 1, none⟩ = some v1 ∧ w'.cell? ⟨b, 2, none⟩ = some v2 ∧ w'.cell? ⟨b, 3, none⟩ = some v3 := ⟨hF, hF.cell c0 hne, hF.cell c1 hne, hF.cell c2 hne, hF.cell c3 hne⟩

theorem own_end {w W w1 w2 : World} {v k : Nat} {ns : List Int} {ts : List (List UInt8)} {q1 q2 : Option Addr} {p1 p2 : Nat} (HF : Fr No w W) (hsz : W.heap.size = w.heap.size + 2)
    (hr1 : Rs W.heap.size w1 2 (.slice q1 ns.length p1) (ns.map numV)) (h12 : Fr No w1 w2) (hr2 : Rs W.heap.size w2 9 (.slice q2 ts.length p2) (ts.map strV)) (hF2 : Fr No W w2)
    (g2 : W.heap[w.heap.size + 1]? = some (.cells #[.int .u8 0, .int .u8 0, .slice none 0 0, .slice none 0 0] 34 (0, 0))) :
    ((((w2.setCell ⟨w.heap.size + 1, 0, none⟩ (.int .u8 v)).setCell ⟨w.heap.size + 1, 1, none⟩ (.int .u8 k)).setCell ⟨w.heap.size + 1, 2, none⟩ (.slice q1 ns.length p1)).setCell ⟨w.heap.size + 1, 3, none⟩ (.slice q2 ts.length p2)).heap[w.heap.size + 1]? =
        some (.cells #[.int .u8 v, .int .u8 k, .slice q1 ns.length p1, .slice q2 ts.length p2] 34 (0, 0)) ∧
    OwnPost w ⟨v, k, ns, ts⟩ (.returned (.agg #[.int .u8 v, .int .u8 k, .slice q1 ns.length p1, .slice q2 ts.length p2]))
      ((((w2.setCell ⟨w.heap.size + 1, 0, none⟩ (.int .u8 v)).setCell ⟨w.heap.size + 1, 1, none⟩ (.int .u8 k)).setCell ⟨w.heap.size + 1, 2, none⟩ (.slice q1 ns.length p1)).setCell ⟨w.heap.size + 1, 3, none⟩ (.slice q2 ts.length p2)) := by
  have hO : Fr (Only (w.heap.size + 1)) w2 ((((w2.setCell ⟨w.heap.size + 1, 0, none⟩ (.int .u8 v)).setCell ⟨w.heap.size + 1, 1, none⟩ (.int .u8 k)).setCell ⟨w.heap.size + 1, 2, none⟩ (.slice q1 ns.length p1)).setCell ⟨w.heap.size + 1, 3, none⟩ (.slice q2 ts.length p2)) :=
    ((((Fr.refl _).set_only _ _).set_only _ _).set_only _ _).set_only _ _
  refine ⟨?_, ⟨⟨q1, p1, q2, p2⟩, rfl, ⟨?_, ?_⟩, ?_⟩⟩
  · have e0 := hF2.heap0 g2
    have e1 := heap_setCell_at (i := 0) (.int .u8 v) e0
    have e2 := heap_setCell_at (i := 1) (.int .u8 k) e1
    have e3 := heap_setCell_at (i := 2) (.slice q1 ns.length p1) e2
    have e4 := heap_setCell_at (i := 3) (.slice q2 ts.length p2) e3
    exact e4
  · exact ((hr1.fr0 h12).fr hO (fun k _ hk e => by have e : k = w.heap.size + 1 := e; omega)).mono (by omega)
  · exact (hr2.fr hO (fun k _ hk e => by have e : k = w.heap.size + 1 := e; omega)).mono (by omega)
  · exact (HF.trans hF2).newOnly (by omega) hO

attribute [local go_sem ↓] Go.wp_at_zero Go.wp_at_succ
set_option maxHeartbeats 4000000 in
set_option maxRecDepth 100000 in
theorem own5_big (s : EvP) (e : Ev) (w : World) (he : EvAt w s e) (hn : e.nums.length ≤ 17592186044416) (ht : e.texts.length ≤ 8796093022208) :
    Calls Tryd.prog 53 #[evV s e] w (OwnPost w e) := by
  obtain ⟨qn, cn, qt, ct⟩ := s
  obtain ⟨v, k, ns, ts⟩ := e
  obtain ⟨h1, h2, h3, h4, h5, h6, h7, h8⟩ := he
  simp only at h1 h2 h3 h4 h5 h6 h7 hn ht
  obtain ⟨i0, hi, hz0, hz1, hz2⟩ := info_parts infoI64
  obtain ⟨j0, hj, hy0, hy1, hy2⟩ := info_parts infoStr
  unfold evV
  simp only
  go_enter Tryd.func53, Tryd.ntmps53
  go_wp2_with fail
  generalize hW : (w.alloc (.cells #[.int .u8 v, .int .u8 k, .slice qn ns.length cn, .slice qt ts.length ct] 34)).alloc (.cells #[.int .u8 0, .int .u8 0, .slice none 0 0, .slice none 0 0] 34) = W
  have HF : Fr No w W := by subst hW; exact ((Fr.refl w).alloc _).alloc _
  have hsz : W.heap.size = w.heap.size + 2 := by subst hW; simp
  have g1 : W.heap[w.heap.size]? = some (.cells #[.int .u8 v, .int .u8 k, .slice qn ns.length cn, .slice qt ts.length ct] 34 (0, 0)) := by
    subst hW; rw [Below.heap_alloc _ _ _ (by simp)]; exact Go.heap_alloc_new _ _
  have g2 : W.heap[w.heap.size + 1]? = some (.cells #[.int .u8 0, .int .u8 0, .slice none 0 0, .slice none 0 0] 34 (0, 0)) := by
    subst hW
    have := Go.heap_alloc_new (w.alloc (.cells #[.int .u8 v, .int .u8 k, .slice qn ns.length cn, .slice qt ts.length ct] 34)) (.cells #[.int .u8 0, .int .u8 0, .slice none 0 0, .slice none 0 0] 34)
    simpa using this
  have C0 : W.cell? ⟨w.heap.size, 0, none⟩ = some (.int .u8 v) := cell_of_row W _ 0 _ _ (0, 0) g1
  have C1 : W.cell? ⟨w.heap.size, 1, none⟩ = some (.int .u8 k) := cell_of_row W _ 1 _ _ (0, 0) g1
  have C2 : W.cell? ⟨w.heap.size, 2, none⟩ = some (.slice qn ns.length cn) := cell_of_row W _ 2 _ _ (0, 0) g1
  have C3 : W.cell? ⟨w.heap.size, 3, none⟩ = some (.slice qt ts.length ct) := cell_of_row W _ 3 _ _ (0, 0) g1
  have S1 : ∀ w', Fr No W w' → Src Tryd.prog 1 31 (.slice qn ns.length cn) ns.length (ns.map numV) w' := fun w' hf => by
    have := Src.ofSl (P := Tryd.prog) (c := cn) Tryd.underlying31 (h3.fr (HF.trans hf)) (num_one ns)
    simpa using this
  have S2 : ∀ w', Fr No W w' → Src Tryd.prog 1 32 (.slice qt ts.length ct) ts.length (ts.map strV) w' := fun w' hf => by
    have := Src.ofSl (P := Tryd.prog) (c := ct) Tryd.underlying32 (h4.fr (HF.trans hf)) (str_one ts)
    simpa using this
  have HS1 := hid S1
  have HS2 := hid S2
  have HG := hid g2
  have m1 : ns.length ≤ maxLen := by unfold maxLen; omega
  have m2 : ns.length * 8 ≤ 140737488355328 := by omega
  have m3 : ts.length ≤ maxLen := by unfold maxLen; omega
  have m4 : ts.length * 16 ≤ 140737488355328 := by omega
  have HSZ := hid hsz
  clear hW g1 g2 S1 S2 h1 h2 h3 h4 h5 h6 h7 h8 hsz
  go_region_held3 (fun w' => Fr (Only (w.heap.size + 1)) W w' ∧ w'.cell? ⟨w.heap.size, 0, none⟩ = some (.int .u8 v) ∧ w'.cell? ⟨w.heap.size, 1, none⟩ = some (.int .u8 k) ∧ w'.cell? ⟨w.heap.size, 2, none⟩ = some (.slice qn ns.length cn) ∧ w'.cell? ⟨w.heap.size, 3, none⟩ = some (.slice qt ts.length ct))
    ((go_split_ands; refine five_keep C0 C1 C2 C3 (by omega) ?_; (try (refine Fr.set_only ?_ _ _; refine Fr.set_only ?_ _ _; refine Fr.set_only ?_ _ _; refine Fr.set_only ?_ _ _)); refine Fr.of0 ?_; repeat (first | exact Fr.refl _ | assumption | refine Fr.drew ?_ | refine Fr.alloc ?_ _)))
    (first
      | ((refine step_append0 (by rfl) _ _ _ _ (by rfl) 2 i0 _ 8 Tryd.underlying31 hi hz0 hz1 hz2 (by rfl) _ (by rfl) (.slice qn ns.length cn) ns.length (ns.map numV) (by rfl) HS1.out m1 m2 ?_ ?_; · (repeat (first | exact Fr.refl _ | assumption | refine Fr.drew ?_ | refine Fr.alloc ?_ _))); intro q1 p1 w1 hr1 hf1 hF1)
      | ((refine step_append0 (by rfl) _ _ _ _ (by rfl) 9 j0 _ 16 Tryd.underlying32 hj hy0 hy1 hy2 (by rfl) _ (by rfl) (.slice qt ts.length ct) ts.length (ts.map strV) (by rfl) HS2.out m3 m4 ?_ ?_; · (repeat (first | exact Fr.refl _ | assumption | refine Fr.drew ?_ | refine Fr.alloc ?_ _))); intro q2 p2 w2 hr2 hf2 hF2; obtain ⟨k0, k1, k2, k3, f0, f1, f2, f3⟩ := cells4 (hF2.heap0 HG.out)))
  all_goals
    obtain ⟨E1, E2⟩ := own_end (v := v) (k := k) HF HSZ.out hr1 (by first | exact hf2 | exact ((Fr.refl _).alloc _).trans hf2 | exact ((Fr.refl _).drew).trans hf2 | exact (((Fr.refl _).alloc _).drew).trans hf2) hr2 hF2 HG.out
    have HE := hid E2
    clear E2 k0 k1 k2 k3 f0 f1 f2 f3 hr1 hr2 hf1 hf2 hF1 hF2 C0 C1 C2 C3
    go_wp2_with fail
    exact bodyPost_ret (Go.results_cell_row rfl _ _ (w.heap.size + 1) 34 _ (0, 0) _ rfl E1 Tryd.underlying34 rfl (by kernel_rfl)) rfl HE.out
end
theorem own5_any (s : EvP) (e : Ev) (w : World) (he : EvAt w s e) (hn : e.nums.length ≤ 4000) (ht : e.texts.length ≤ 4000) :
    Calls Tryd.prog 53 #[evV s e] w (OwnPost w e) := own5_big s e w he (by omega) (by omega)
end Go.Proofs.YtnmfmedoocnofaaDoor
