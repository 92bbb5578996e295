/-
  Rows that a call made, whatever their making: empty, or owned; append onto them: no statement of the seat is proved here. No conditions.
-/
import Derived.Test.YtgjabbhgmecbbaaDoorSpec
import Derived.RegionTactic
namespace Go.Proofs.YtgjabbhgmecbbaaDoor
open Go.RowKit

/-- A slice without room, or an owned row that lies from block B on. -/
def Rs (B : Nat) (w : World) (t : TypeId) (v : Value) (xs : List Value) : Prop :=
  (xs = [] ∧ ∃ a, v = .slice a 0 0) ∨ (Own w t 1 v xs.length xs ∧ ∀ k, v.ownBlock = some k → B ≤ k)
theorem Rs.of_res {B : Nat} {w : World} {t : TypeId} {v : Value} {xs : List Value} (h : Res B w t v xs) : Rs B w t v xs := .inr ⟨h.own, h.new⟩
theorem Rs.nil (B : Nat) (w : World) (t : TypeId) (a : Option Addr) : Rs B w t (.slice a 0 0) [] := .inl ⟨rfl, a, rfl⟩
/-- The blocks that writing to the row may turn. -/
def RsX (B : Nat) (v : Value) : Nat → Prop := fun k => v.ownBlock = some k ∧ B ≤ k
theorem Rs.fr {X : Nat → Prop} {B : Nat} {w w' : World} {t : TypeId} {v : Value} {xs : List Value} (h : Rs B w t v xs) (hf : Fr X w w') (hn : ∀ k, v.ownBlock = some k → B ≤ k → ¬ X k) : Rs B w' t v xs := by
  rcases h with h | h
  · exact .inl h
  · exact .inr ⟨h.1.fr hf (fun k hk => hn k hk (h.2 k hk)), h.2⟩
theorem Rs.fr0 {B : Nat} {w w' : World} {t : TypeId} {v : Value} {xs : List Value} (h : Rs B w t v xs) (hf : Fr No w w') : Rs B w' t v xs := h.fr hf (fun _ _ _ => id)
theorem Rs.mono {B B' : Nat} {w : World} {t : TypeId} {v : Value} {xs : List Value} (h : Rs B w t v xs) (hB : B' ≤ B) : Rs B' w t v xs := by
  rcases h with h | h
  · exact .inl h
  · exact .inr ⟨h.1, fun k hk => Nat.le_trans hB (h.2 k hk)⟩
theorem Rs.shape {B : Nat} {w : World} {t : TypeId} {v : Value} {xs : List Value} (h : Rs B w t v xs) : ∃ q cap, v = .slice q xs.length cap := by
  rcases h with ⟨rfl, a, rfl⟩ | h
  · exact ⟨_, _, rfl⟩
  · exact h.1.shape
theorem Rs.at_ {B : Nat} {w : World} {t : TypeId} {q : Option Addr} {n cap : Nat} {xs : List Value} (h : Rs B w t (.slice q n cap) xs) : SlAt w q xs := by
  rcases h with ⟨rfl, _⟩ | h
  · exact SlAt.nil _ _
  · exact Res.at_ (B := B) (t := t) ⟨h.1, h.2⟩
theorem Rs.at' {B : Nat} {w : World} {t : TypeId} {v : Value} {xs : List Value} (h : Rs B w t v xs) : ∃ q cap, v = .slice q xs.length cap ∧ SlAt w q xs := by
  obtain ⟨q, cap, rfl⟩ := h.shape
  exact ⟨q, cap, rfl, h.at_⟩
/-- A row of something lies in a new block. -/
theorem Rs.cell_at {B : Nat} {w : World} {t : TypeId} {q : Option Addr} {n cap : Nat} {xs : List Value} (h : Rs B w t (.slice q n cap) xs) {i : Nat} (hi : i < xs.length) :
    ∃ b cur, q = some ⟨b, 0, none⟩ ∧ B ≤ b ∧ w.heap[b]? = some (.cells cur t (0, 0)) ∧ cur.toList.take xs.length = xs := by
  rcases h with ⟨rfl, _⟩ | ⟨h, hb⟩
  · simp at hi
  · rcases h.2 with ⟨h1, h2⟩ | ⟨g, cap', cur, h1, _, hg, h3, h4, h5, h6⟩
    · have := h.1
      rw [h2] at this
      omega
    · refine ⟨g, cur, by injection h1, hb g (by rw [h1]; rfl), hg, ?_⟩
      simpa using h6

section
variable {P : Program}
theorem Src.ofSl {w : World} {t e : TypeId} (ht : P.underlying t = some (.slice e)) {q : Option Addr} {c : Nat} {xs : List Value} (h : SlAt w q xs) (h1 : ∀ u, u ∈ xs → u.oneCell' = true) :
    Src P 1 t (.slice q xs.length c) xs.length xs w := by
  rcases q with _ | a
  · have : xs = [] := by
      rcases xs with _ | ⟨x, xs⟩
      · rfl
      · obtain ⟨b, o, hq, _⟩ := h 0 x rfl
        cases hq
    subst this
    exact Src.ofNil w ht c
  · refine Src.ofSlice w ht a _ c xs (by simp) (fun j u hu => ?_) h1
    obtain ⟨b, o, hq, hc⟩ := h j u hu
    injection hq with hq
    subst hq
    have hadd : (⟨b, o, none⟩ : Addr).add j = ⟨b, o + j, none⟩ := by unfold Addr.add; split <;> simp_all
    rw [hadd]
    exact hc

/-- append onto a slice without room. -/
theorem run_append0 {w : World} {B : Nat} (t tx ty e : TypeId) (i : TypeInfo) (z : Value) (bytes : Nat) (ht : P.underlying t = some (.slice e)) (hi : P.info? e = some i) (hz : i.zero = some z)
    (hsize : i.size = 1) (hby : i.bytes = bytes) (hzs : z.cells.size = 1) (a : Option Addr) (hB : B ≤ w.heap.size)
    {x : Value} {m : Nat} {news : List Value} (hx : Src P 1 tx x m news w) (h63 : m ≤ maxLen) (hbytes : m * bytes ≤ 140737488355328) :
    ∃ v' w', (Builtin.append_ #[t, tx] ty #[.slice a 0 0, x]).run P w = .ok v' w' ∧ Rs B w' e v' news ∧ Fr No w w' ∧ (v'.ownBlock = (Value.slice a 0 0).ownBlock ∨ v'.ownBlock = some w.heap.size) := by
  by_cases hm : m = 0
  · subst hm
    have hn : news = [] := List.eq_nil_of_length_eq_zero (by simpa using hx.newsLen)
    subst hn
    refine ⟨.slice a 0 0, w, ?_, Rs.nil _ _ _ _, Fr.refl _, .inl rfl⟩
    have hc : (Builtin.firstCells i.size 0 x).run P w = .ok #[] w := by rw [hsize]; exact hx.cells
    rcases a with _ | a <;> rcases hx.kind with ⟨e', hk⟩ | hk <;>
      simp [Builtin.append_, run_underlying ht, run_underlying hk, sizeOf, typeInfo, hi, hx.len, hc, storeCells]
  · have hold : (Builtin.firstCells i.size 0 (.slice a 0 0)).run P w.drew = .ok ([] : List Value).toArray w.drew := by
      rcases a with _ | a
      · exact run_firstCells_none _ _ _ _ _
      · exact run_firstCells_some w.drew i.size 0 a 0 0 [] (by simp) (by simp)
    have hx' : Src P i.size tx x m news w := by rw [hsize]; exact hx
    have hs63 : ((0 + m : Nat) : Int) ≤ 9223372036854775807 := by unfold maxLen at h63; omega
    have hr := run_append_grow_src (P := P) w t tx ty e i z ht hi hz a 0 0 [] hold x m news hx' (by omega) hs63 (growslice_fits (by omega) (by rw [hby]; simpa using hbytes))
    have hge := grownCap_ge w (0 + m) 0 e
    have hnl : news.length = m := by simpa using hx.newsLen
    have hcm : grownCap w (0 + m) 0 e ≤ maxLen := grownCap_le_maxLen w (0 + m) 0 e (by simpa using h63)
    refine ⟨_, _, hr, .inr ⟨⟨by simp, .inr ⟨w.heap.size, _, _, ?_, Nat.zero_le _, Go.heap_alloc_new w.drew _, ?_, hcm, ?_, ?_⟩⟩, ?_⟩, ((Fr.refl w).drew).alloc _, .inr rfl⟩
    · simp [hnl]
    · omega
    · simp only [List.nil_append, Array.size_append, List.size_toArray, size_zeroCells, hzs, hnl]; omega
    · simp
    · intro k hk
      have : w.heap.size = k := by simpa [Value.ownBlock] using hk
      omega
theorem run_append_rs {w : World} {B : Nat} (t tx ty e : TypeId) (i : TypeInfo) (z : Value) (bytes : Nat) (ht : P.underlying t = some (.slice e)) (hi : P.info? e = some i) (hz : i.zero = some z)
    (hsize : i.size = 1) (hby : i.bytes = bytes) (hzs : z.cells.size = 1) {v : Value} {xs : List Value} (hr : Rs B w e v xs) (hB : B ≤ w.heap.size)
    {x : Value} {m : Nat} {news : List Value} (hx : Src P 1 tx x m news w) (h63 : xs.length + m ≤ maxLen) (hbytes : (xs.length + m) * bytes ≤ 140737488355328) :
    ∃ v' w', (Builtin.append_ #[t, tx] ty #[v, x]).run P w = .ok v' w' ∧ Rs B w' e v' (xs ++ news) ∧ Fr (RsX B v) w w' ∧ (v'.ownBlock = v.ownBlock ∨ v'.ownBlock = some w.heap.size) := by
  rcases hr with ⟨rfl, a, rfl⟩ | ⟨hown, hn⟩
  · obtain ⟨v', w', h1, h2, h3, h4⟩ := run_append0 (P := P) t tx ty e i z bytes ht hi hz hsize hby hzs a hB hx (by simpa using h63) (by simpa using hbytes)
    exact ⟨v', w', h1, by simpa using h2, h3.of0, h4⟩
  · have hx' : Src P 1 tx x m news w := hx
    obtain ⟨v', w', hrun, h2, h3, h4⟩ := run_append_fr (P := P) w t tx ty e i z 1 bytes ht hi hz hsize hby hzs v xs.length xs hown x m news hx' h63 hbytes
    have hnl : news.length = m := by simpa using hx.newsLen
    refine ⟨v', w', hrun, .inr ⟨by simpa [hnl] using h2, fun k hk => ?_⟩, h3.mono (fun k _ h => ⟨h, hn k h⟩), h4⟩
    rcases h4 with h4 | h4
    · exact hn k (h4 ▸ hk)
    · rw [h4] at hk
      have : w.heap.size = k := by simpa using hk
      omega

theorem wp_append_rs {w : World} {o : Oper} {a : Act} {K : Act → World → Prop} {Q : Exit → Act → World → Prop} (s x : Operand) (t tx : TypeId)
    (ho : o.op = .call { callee := .builtin .append, args := #[s, x], argTypes := #[t, tx] }) (B : Nat) (e : TypeId) (i : TypeInfo) (z : Value) (bytes : Nat) (ht : P.underlying t = some (.slice e)) (hi : P.info? e = some i) (hz : i.zero = some z)
    (hsize : i.size = 1) (hby : i.bytes = bytes) (hzs : z.cells.size = 1) (v : Value) (xs : List Value) (hs : a.eval s = v) (hr : Rs B w e v xs) (hB : B ≤ w.heap.size)
    (xv : Value) (m : Nat) (news : List Value) (hxv : a.eval x = xv) (hx : Src P 1 tx xv m news w) (h63 : xs.length + m ≤ maxLen) (hbytes : (xs.length + m) * bytes ≤ 140737488355328)
    (h : ∀ v' w', Rs B w' e v' (xs ++ news) → Fr (RsX B v) w w' → (v'.ownBlock = v.ownBlock ∨ v'.ownBlock = some w.heap.size) → K (a.put o.dst v') w') : o.wp P a w K Q := by
  obtain ⟨v', w', hrun, h2, h3, h4⟩ := run_append_rs (P := P) t tx o.type e i z bytes ht hi hz hsize hby hzs hr hB hx h63 hbytes
  unfold Oper.wp execOp
  simp only [ho, resolve, invoke, builtin, Sem.run_bind, Sem.run_pure, Result.andThen_ok, List.map_toArray, List.map_cons, List.map_nil, hs, hxv, hrun]
  exact h v' w' h2 h3 h4

theorem wpList_append_rs {w : World} {ops : Array Oper} {rest : List Oper} {o : Oper} {a : Act} {Q : Exit → Act → World → Prop} (hgd : o.guard = none) (s x : Operand) (t tx : TypeId)
    (ho : o.op = .call { callee := .builtin .append, args := #[s, x], argTypes := #[t, tx] }) (B : Nat) (e : TypeId) (i : TypeInfo) (z : Value) (bytes : Nat) (ht : P.underlying t = some (.slice e)) (hi : P.info? e = some i) (hz : i.zero = some z)
    (hsize : i.size = 1) (hby : i.bytes = bytes) (hzs : z.cells.size = 1) (v : Value) (xs : List Value) (hs : a.eval s = v) (hr : Rs B w e v xs) (hB : B ≤ w.heap.size)
    (xv : Value) (m : Nat) (news : List Value) (hxv : a.eval x = xv) (hx : Src P 1 tx xv m news w) (h63 : xs.length + m ≤ maxLen) (hbytes : (xs.length + m) * bytes ≤ 140737488355328)
    (h : ∀ v' w', Rs B w' e v' (xs ++ news) → Fr (RsX B v) w w' → (v'.ownBlock = v.ownBlock ∨ v'.ownBlock = some w.heap.size) → wpList P ops Q rest (a.put o.dst v') w') : wpList P ops Q (o :: rest) a w :=
  wpList_plain hgd fun _ hK => wp_append_rs s x t tx ho B e i z bytes ht hi hz hsize hby hzs v xs hs hr hB xv m news hxv hx h63 hbytes fun v' w' h2 h3 h4 => hK _ _ (h v' w' h2 h3 h4)

theorem step_append_rs {w : World} {ops : Array Oper} {o : Oper} {a : Act} {K : Act → World → Prop} {Q : Exit → Act → World → Prop} {E : Prop} (hgd : o.guard = none) (s x : Operand) (t tx : TypeId)
    (ho : o.op = .call { callee := .builtin .append, args := #[s, x], argTypes := #[t, tx] }) (B : Nat) (e : TypeId) (i : TypeInfo) (z : Value) (bytes : Nat) (ht : P.underlying t = some (.slice e)) (hi : P.info? e = some i) (hz : i.zero = some z)
    (hsize : i.size = 1) (hby : i.bytes = bytes) (hzs : z.cells.size = 1) (v : Value) (xs : List Value) (hs : a.eval s = v) (hr : Rs B w e v xs) (hB : B ≤ w.heap.size)
    (xv : Value) (m : Nat) (news : List Value) (hxv : a.eval x = xv) (hx : Src P 1 tx xv m news w) (h63 : xs.length + m ≤ maxLen) (hbytes : (xs.length + m) * bytes ≤ 140737488355328)
    (h : ∀ v' w', Rs B w' e v' (xs ++ news) → Fr (RsX B v) w w' → (v'.ownBlock = v.ownBlock ∨ v'.ownBlock = some w.heap.size) → K (a.put o.dst v') w') :
    if Region.wanted o (yielded ops a.tmps) = true then Oper.wp P o a w K Q else E := by
  have hw : Region.wanted o (yielded ops a.tmps) = true := by simp [Region.wanted, hgd]
  rw [if_pos hw]
  exact wp_append_rs s x t tx ho B e i z bytes ht hi hz hsize hby hzs v xs hs hr hB xv m news hxv hx h63 hbytes h

theorem step_append0 {w W : World} {ops : Array Oper} {o : Oper} {a : Act} {K : Act → World → Prop} {Q : Exit → Act → World → Prop} {E : Prop} (hgd : o.guard = none) (s x : Operand) (t tx : TypeId)
    (ho : o.op = .call { callee := .builtin .append, args := #[s, x], argTypes := #[t, tx] }) (e : TypeId) (i : TypeInfo) (z : Value) (bytes : Nat) (ht : P.underlying t = some (.slice e)) (hi : P.info? e = some i) (hz : i.zero = some z)
    (hsize : i.size = 1) (hby : i.bytes = bytes) (hzs : z.cells.size = 1) (a0 : Option Addr) (hs : a.eval s = .slice a0 0 0)
    (xv : Value) (m : Nat) (news : List Value) (hxv : a.eval x = xv) (hx : ∀ w', Fr No W w' → Src P 1 tx xv m news w') (h63 : m ≤ maxLen) (hbytes : m * bytes ≤ 140737488355328) (hF : Fr No W w)
    (h : ∀ q cap w', Rs W.heap.size w' e (.slice q m cap) news → Fr No w w' → Fr No W w' → K (a.put o.dst (.slice q m cap)) w') :
    if Region.wanted o (yielded ops a.tmps) = true then Oper.wp P o a w K Q else E := by
  have hw : Region.wanted o (yielded ops a.tmps) = true := by simp [Region.wanted, hgd]
  rw [if_pos hw]
  obtain ⟨v', w', hrun, h2, h3, h4⟩ := run_append0 (P := P) (B := W.heap.size) t tx o.type e i z bytes ht hi hz hsize hby hzs a0 hF.size (hx _ hF) h63 hbytes
  unfold Oper.wp execOp
  simp only [ho, resolve, invoke, builtin, Sem.run_bind, Sem.run_pure, Result.andThen_ok, List.map_toArray, List.map_cons, List.map_nil, hs, hxv, hrun]
  obtain ⟨q, cap, rfl⟩ := h2.shape
  have hnl : news.length = m := by simpa using (hx _ hF).newsLen
  subst hnl
  exact h q cap w' h2 h3 (hF.trans h3)
end
/-- No old block is turned by writing to such a row. -/
theorem Fr.rsx {w w1 w2 : World} {B : Nat} {v : Value} (h : Fr No w w1) (hB : w.heap.size ≤ B) (k : Fr (RsX B v) w1 w2) : Fr No w w2 :=
  h.trans' k (fun i hi hy => absurd hi (by have := hy.2; omega))
/-- Onto what has no room nothing old at all is turned. -/
theorem Fr.rsx0 {w1 w2 : World} {B : Nat} {v : Value} (k : Fr (RsX B v) w1 w2) (hv : ∀ i, i < w1.heap.size → ¬ RsX B v i) : Fr No w1 w2 := k.mono (fun i hi hx => hv i hi hx)
end Go.Proofs.YtgjabbhgmecbbaaDoor
