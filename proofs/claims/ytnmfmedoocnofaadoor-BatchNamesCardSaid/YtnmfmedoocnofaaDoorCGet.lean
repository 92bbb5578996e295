/-
  What codec.Get reads, in plain words; codec.Get: the walk. No statement of the seat is proved here.
-/
import Derived.Test.YtnmfmedoocnofaaDoorCTaker
namespace Go.Proofs.YtnmfmedoocnofaaDoor
open Go.RowKit

/-- What Get reads. -/
def tsT (t : Bool) (st : Nat × Rd) : List (List UInt8) × (Nat × Rd) := if t then ([(nameT st).1], (nameT st).2) else ([], st)
def endT (v k : Nat) (ns : List Int) (ts : List (List UInt8) × (Nat × Rd)) : (Ev × Nat) × Rd := if ts.2.1 = 0 then ((⟨v, k, ns, ts.1⟩, 0), ts.2.2) else ((zeroE, ts.2.1), ts.2.2)
def bodyT (v : Nat) (f : List UInt8 × Bool × Bool) (k : Nat × Rd) : (Ev × Nat) × Rd := endT v k.1 (numsT v f.1 (lookE k.2 f.2.2, k.2)).1 (tsT f.2.1 (numsT v f.1 (lookE k.2 f.2.2, k.2)).2)
def getT (v : Nat) (r : Rd) : (Ev × Nat) × Rd := if v < 1 ∨ 3 < v then ((zeroE, 43), r) else bodyT v (fieldsS v (rFix 1 r).1) (rFix 1 r)
def GetPost (w : World) (b : Nat) (R : (Ev × Nat) × Rd) (en : Ending) (w' : World) : Prop :=
  ∃ s, en = .returned (.tuple #[evV s R.1.1, .int .i64 R.1.2]) ∧ EvNew w.heap.size w' s R.1.1 ∧ RdIs w' b R.2 ∧ Fr (Only b) w w'
/-- What Get turns: the reader, the taker, the event's box, and rows that it makes. -/
def GetX (W : World) (b bt b9 B : Nat) : Nat → Prop := fun k => k = b ∨ k = bt ∨ k = b9 ∨ RsT W B 2 k ∨ RsT W B 9 k
theorem GetX.trans {W w5 w6 : World} {b bt b9 B : Nat} (h : Fr (GetX W b bt b9 B) W w5) (k : Fr (GetX w5 b bt b9 B) w5 w6) : Fr (GetX W b bt b9 B) W w6 :=
  h.trans' k (fun i hi hy => by
    by_cases hx : GetX W b bt b9 B i
    · exact hx
    · have hb := h.block i hi hx
      rcases hy with hy | hy | hy | ⟨hy, cur, hc⟩ | ⟨hy, cur, hc⟩
      · exact .inl hy
      · exact .inr (.inl hy)
      · exact .inr (.inr (.inl hy))
      · exact .inr (.inr (.inr (.inl ⟨hy, cur, by rw [← hb]; exact hc⟩)))
      · exact .inr (.inr (.inr (.inr ⟨hy, cur, by rw [← hb]; exact hc⟩))))
theorem GetX.not {W : World} {b bt b9 B k : Nat} {cs : Array Value} {t : TypeId} (hk : W.heap[k]? = some (.cells cs t (0, 0))) (h1 : k ≠ b) (h2 : k ≠ bt) (h3 : k ≠ b9) (h4 : t ≠ 2) (h5 : t ≠ 9) : ¬ GetX W b bt b9 B k := fun hx => by
  rcases hx with hx | hx | hx | ⟨_, cur, hc⟩ | ⟨_, cur, hc⟩
  · exact h1 hx
  · exact h2 hx
  · exact h3 hx
  · rw [hk] at hc; simp at hc; exact h4 hc.2
  · rw [hk] at hc; simp at hc; exact h5 hc.2

set_option maxHeartbeats 4000000 in
set_option maxRecDepth 100000 in
theorem get_nil (v : Nat) (w : World) : Calls Tryd.prog 63 #[.pointer none, .int .u8 v] w fun en w' => ∃ s, en = .returned (.tuple #[evV s zeroE, .int .i64 2]) ∧ EvNew w.heap.size w' s zeroE ∧ Fr No w w' := by
  have HF0 : Fr No w (w.alloc (.cells #[.int .u8 0, .int .u8 0, .slice none 0 0, .slice none 0 0] 34)) := (Fr.refl w).alloc _
  have HG := hid (Go.heap_alloc_new w (.cells #[.int .u8 0, .int .u8 0, .slice none 0 0, .slice none 0 0] 34))
  have EN := hid (fun w1 => err_nil w1)
  unfold evV zeroE
  go_enter Tryd.func63, Tryd.ntmps63
  go_wp2_with (first
    | (go_at_call 61; (with_reducible refine (EN.out _).mono ?_); rintro e1 w1 ⟨rfl, hf1⟩; obtain ⟨k0, k1, k2, k3, z0, z1, z2, z3⟩ := Go.Proofs.YtnmfmedoocnofaaDoor.cells4 (hf1.heap0 HG.out))
    | fail)
  obtain ⟨hst, hfr⟩ := store4 (hf1.heap0 HG.out) (.int .u8 0) (.int .u8 0) (.slice none 0 0) (.slice none 0 0)
  refine bodyPost_ret (results_row_tmp rfl _ _ w.heap.size 34 _ (0, 0) _ (.int .i64 2) rfl hst rfl Tryd.underlying34 rfl (by kernel_rfl)) rfl ⟨⟨none, 0, none, 0⟩, rfl, EvNew.zero _ _, (HF0.trans hf1).newOnly (Nat.le_refl _) hfr⟩

set_option maxHeartbeats 4000000 in
set_option maxRecDepth 100000 in
theorem get_version (b : Nat) (r : Rd) (v : Nat) (w : World) (hr : RdIs w b r) (hv : v < 1 ∨ 3 < v) :
    Calls Tryd.prog 63 #[.pointer (some ⟨b, 0, none⟩), .int .u8 v] w (GetPost w b ((zeroE, 43), r)) := by
  have HF0 : Fr No w (w.alloc (.cells #[.int .u8 0, .int .u8 0, .slice none 0 0, .slice none 0 0] 34)) := (Fr.refl w).alloc _
  have HG := hid (Go.heap_alloc_new w (.cells #[.int .u8 0, .int .u8 0, .slice none 0 0, .slice none 0 0] 34))
  have ER := hid (fun w1 (h : Fr No w w1) => err_any b r.s r.at_ r.e r.to w1 (hr.fr h id))
  have HR := hid hr
  have hblt := hr.lt
  clear hr
  unfold GetPost evV zeroE
  have HM : (decide ((v : Int) < 1) = true) ∨ (decide ((v : Int) < 1) = false ∧ decide ((3 : Int) < (v : Int)) = true) := by
    by_cases h : v < 1
    · exact .inl (by simp; omega)
    · exact .inr ⟨by simp; omega, by simp; omega⟩
  clear hv
  rcases HM with b1 | ⟨b1, b3⟩
  all_goals
    go_enter Tryd.func63, Tryd.ntmps63
    go_wp2_with (first
      | (go_at_call 61; (with_reducible refine (ER.out _ HF0).mono ?_); rintro e1 w1 ⟨rfl, hf1⟩; obtain ⟨k0, k1, k2, k3, z0, z1, z2, z3⟩ := Go.Proofs.YtnmfmedoocnofaaDoor.cells4 (hf1.heap0 HG.out))
      | fail)
    obtain ⟨hst, hfr⟩ := store4 (hf1.heap0 HG.out) (.int .u8 0) (.int .u8 0) (.slice none 0 0) (.slice none 0 0)
    refine bodyPost_ret (results_row_tmp rfl _ _ w.heap.size 34 _ (0, 0) _ (.int .i64 43) rfl hst rfl Tryd.underlying34 rfl (by kernel_rfl)) rfl ⟨⟨none, 0, none, 0⟩, rfl, EvNew.zero _ _, ?_, ((HF0.trans hf1).newOnly (Nat.le_refl _) hfr).of0⟩
    exact HR.out.fr ((HF0.trans hf1).newOnly (Nat.le_refl _) hfr) id

theorem RowsAt.frX {X : Nat → Prop} {w w' : World} {g : Nat} {rows : List RowT} (h : RowsAt w g rows) (hf : Fr X w w') (hg : ¬ X g) : RowsAt w' g rows := by
  intro i r hr j hj
  have h1 := h i r hr j hj
  rcases hc : (rowV r)[j]? with _ | v
  · have hl : (rowV r).length = 5 := rfl
    rw [List.getElem?_eq_none_iff] at hc
    omega
  · rw [hc] at h1
    exact hf.cell h1 hg
theorem kt_ne {w : World} {b : Nat} {r : Rd} (h : KT w) (hr : RdIs w b r) : b ≠ 0 := by
  rintro rfl
  have h1 := h 0 _ rfl 1 (by decide)
  have h2 := (rd_cells hr).2.1
  simp only [Nat.zero_mul, Nat.zero_add] at h1
  rw [h2] at h1
  cases h1
theorem Rs.frTy {X : Nat → Prop} {B : Nat} {w w' : World} {t : TypeId} {v : Value} {xs : List Value} (h : Rs B w t v xs) (hf : Fr X w w') (hx : ∀ k cur, w.heap[k]? = some (.cells cur t (0, 0)) → ¬ X k) : Rs B w' t v xs := by
  rcases h with h | ⟨ho, hb⟩
  · exact .inl h
  · refine .inr ⟨ho.fr hf (fun k hk => ?_), hb⟩
    rcases ho.2 with ⟨rfl, _⟩ | ⟨g, cap, cur, rfl, _, hg, _⟩
    · cases hk
    · obtain rfl : g = k := by simpa [Value.ownBlock] using hk
      exact hx g cur hg
theorem BoxAt.frTy {X : Nat → Prop} {B : Nat} {w w' : World} {b : Nat} {s : EvP} {e : Ev} (h : BoxAt B w b s e) (hf : Fr X w w') (hx : ∀ k cur t, w.heap[k]? = some (.cells cur t (0, 0)) → (t = 2 ∨ t = 9 ∨ t = 34) → ¬ X k) : BoxAt B w' b s e :=
  ⟨h.lo, hf.heap h.cells (hx b _ _ h.cells (.inr (.inr rfl))), ⟨h.new.nums.frTy hf (fun k cur hk => hx k cur _ hk (.inl rfl)), h.new.texts.frTy hf (fun k cur hk => hx k cur _ hk (.inr (.inl rfl)))⟩⟩
theorem two_ty {w : World} {b bt bv br e : Nat} {r : Rd} (ht : TkAt w b bt bv br e) (hr : RdIs w b r) : ∀ (k : Nat) (cur : Array Value) (t : TypeId), w.heap[k]? = some (.cells cur t (0, 0)) → (t = 2 ∨ t = 9 ∨ t = 34) → ¬ OnlyTwo b bt k := by
  intro k cur t hk hty hx
  rcases hx with rfl | rfl
  · have h1 := hr.1
    rw [hk] at h1
    simp at h1
    obtain ⟨_, rfl⟩ := h1
    rcases hty with h | h | h <;> exact absurd h (by decide)
  · have h1 := ht.tk
    rw [hk] at h1
    simp at h1
    obtain ⟨_, rfl⟩ := h1
    rcases hty with h | h | h <;> exact absurd h (by decide)
/-- What a number's (a name's) statement turns before its store. -/
def NumX (W : World) (b bt B : Nat) (t : TypeId) : Nat → Prop := fun k => OnlyTwo b bt k ∨ RsT W B t k
theorem NumX.trans {W w5 w6 : World} {b bt B : Nat} {t : TypeId} (h : Fr (NumX W b bt B t) W w5) (k : Fr (RsT w5 B t) w5 w6) : Fr (NumX W b bt B t) W w6 :=
  h.trans' k (fun i hi hy => by
    by_cases hx : NumX W b bt B t i
    · exact hx
    · obtain ⟨hy, cur, hc⟩ := hy
      exact .inr ⟨hy, cur, by rw [← h.block i hi hx]; exact hc⟩)
/-- Where Get stands. -/
structure GetRel (w4 wr : World) (B b bt bv br b9 : Nat) (s : EvP) (e : Ev) (st : Nat × Rd) : Prop where
  fr : Fr (GetX w4 b bt b9 B) w4 wr
  tk : TkAt wr b bt bv br st.1
  rd : RdIs wr b st.2
  box : BoxAt B wr b9 s e
/-- A number came, and stands in the event's row. -/
theorem GetRel.num {w4 wr w6 wA : World} {B b bt bv br b9 : Nat} {s : EvP} {e : Ev} {st st' : Nat × Rd} {n : Int} {q : Option Addr} {c : Nat} {v : Value} (h : GetRel w4 wr B b bt bv br b9 s e st)
    (h6 : Fr (OnlyTwo b bt) wr w6) (ht : TkAt w6 b bt bv br st'.1) (hr : RdIs w6 b st'.2) (hA : Fr (RsT (w6.alloc (.cells #[v] 2)) B 2) (w6.alloc (.cells #[v] 2)) wA)
    (hrow : Rs B wA 2 (.slice q (e.nums.length + 1) c) ((e.nums ++ [n]).map numV)) :
    GetRel w4 (wA.setCell ⟨b9, 2, none⟩ (.slice q (e.nums.length + 1) c)) B b bt bv br b9 ⟨q, c, s.qt, s.ct⟩ { e with nums := e.nums ++ [n] } st' := by
  have hbx6 : BoxAt B w6 b9 s e := h.box.frTy h6 (two_ty h.tk h.rd)
  have fa : Fr No w6 (w6.alloc (.cells #[v] 2)) := (Fr.refl w6).alloc _
  have hbx := (hbx6.fr fa).setN hA (n := e.nums.length + 1) (by simp) hrow
  have ht1 := ht.fr0 fa
  have hr1 : RdIs (w6.alloc (.cells #[v] 2)) b st'.2 := hr.fr fa id
  have ht2 := ht1.fr hA (RsT.ofT ht1.tk (by decide)) (RsT.ofT ht1.tv (by decide)) (RsT.ofT ht1.rb (by decide))
  have hr2 : RdIs wA b st'.2 := hr1.fr hA (RsT.ofT hr1.1 (by decide))
  have hbA := hA.heapT (by decide) (hbx6.fr fa).cells
  have hs : Fr (Only b9) wA (wA.setCell ⟨b9, 2, none⟩ (.slice q (e.nums.length + 1) c)) := (Fr.refl _).set_only _ _
  refine ⟨?_, ht2.fr hs (fun hx => ne_of_cells ht2.tk hbA (by decide) hx) (fun hx => ne_of_cells ht2.tv hbA (by decide) hx) (fun hx => ne_of_cells ht2.rb hbA (by decide) hx), hr2.fr hs (fun hx => ne_of_cells hr2.1 hbA (by decide) hx), hbx⟩
  have f1 : Fr (GetX wr b bt b9 B) wr w6 := h6.mono (fun k _ hk => by rcases hk with hk | hk; exact .inl hk; exact .inr (.inl hk))
  have f2 : Fr (GetX w6 b bt b9 B) w6 (w6.alloc (.cells #[v] 2)) := fa.of0
  have f3 : Fr (GetX (w6.alloc (.cells #[v] 2)) b bt b9 B) (w6.alloc (.cells #[v] 2)) wA := hA.mono (fun k _ hk => .inr (.inr (.inr (.inl hk))))
  have f4 : Fr (GetX wA b bt b9 B) wA (wA.setCell ⟨b9, 2, none⟩ (.slice q (e.nums.length + 1) c)) := hs.mono (fun k _ hk => .inr (.inr (.inl hk)))
  exact GetX.trans (GetX.trans (GetX.trans (GetX.trans h.fr f1) f2) f3) f4
theorem GetRel.txt {w4 wr w6 wA : World} {B b bt bv br b9 : Nat} {s : EvP} {e : Ev} {st st' : Nat × Rd} {x : List UInt8} {q : Option Addr} {c : Nat} {v : Value} (h : GetRel w4 wr B b bt bv br b9 s e st)
    (h6 : Fr (OnlyTwo b bt) wr w6) (ht : TkAt w6 b bt bv br st'.1) (hr : RdIs w6 b st'.2) (hA : Fr (RsT (w6.alloc (.cells #[v] 9)) B 9) (w6.alloc (.cells #[v] 9)) wA)
    (hrow : Rs B wA 9 (.slice q (e.texts.length + 1) c) ((e.texts ++ [x]).map strV)) :
    GetRel w4 (wA.setCell ⟨b9, 3, none⟩ (.slice q (e.texts.length + 1) c)) B b bt bv br b9 ⟨s.qn, s.cn, q, c⟩ { e with texts := e.texts ++ [x] } st' := by
  have hbx6 : BoxAt B w6 b9 s e := h.box.frTy h6 (two_ty h.tk h.rd)
  have fa : Fr No w6 (w6.alloc (.cells #[v] 9)) := (Fr.refl w6).alloc _
  have hbx := (hbx6.fr fa).setT hA (n := e.texts.length + 1) (by simp) hrow
  have ht1 := ht.fr0 fa
  have hr1 : RdIs (w6.alloc (.cells #[v] 9)) b st'.2 := hr.fr fa id
  have ht2 := ht1.fr hA (RsT.ofT ht1.tk (by decide)) (RsT.ofT ht1.tv (by decide)) (RsT.ofT ht1.rb (by decide))
  have hr2 : RdIs wA b st'.2 := hr1.fr hA (RsT.ofT hr1.1 (by decide))
  have hbA := hA.heapT (by decide) (hbx6.fr fa).cells
  have hs : Fr (Only b9) wA (wA.setCell ⟨b9, 3, none⟩ (.slice q (e.texts.length + 1) c)) := (Fr.refl _).set_only _ _
  refine ⟨?_, ht2.fr hs (fun hx => ne_of_cells ht2.tk hbA (by decide) hx) (fun hx => ne_of_cells ht2.tv hbA (by decide) hx) (fun hx => ne_of_cells ht2.rb hbA (by decide) hx), hr2.fr hs (fun hx => ne_of_cells hr2.1 hbA (by decide) hx), hbx⟩
  have f1 : Fr (GetX wr b bt b9 B) wr w6 := h6.mono (fun k _ hk => by rcases hk with hk | hk; exact .inl hk; exact .inr (.inl hk))
  have f2 : Fr (GetX w6 b bt b9 B) w6 (w6.alloc (.cells #[v] 9)) := fa.of0
  have f3 : Fr (GetX (w6.alloc (.cells #[v] 9)) b bt b9 B) (w6.alloc (.cells #[v] 9)) wA := hA.mono (fun k _ hk => .inr (.inr (.inr (.inr hk))))
  have f4 : Fr (GetX wA b bt b9 B) wA (wA.setCell ⟨b9, 3, none⟩ (.slice q (e.texts.length + 1) c)) := hs.mono (fun k _ hk => .inr (.inr (.inl hk)))
  exact GetX.trans (GetX.trans (GetX.trans (GetX.trans h.fr f1) f2) f3) f4
end Go.Proofs.YtnmfmedoocnofaaDoor
