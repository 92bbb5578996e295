/-
  Events in new memory, of the statements. No statement of the seat is proved here. An event's rows are written over: plain. No statement of the seat is proved here.
-/
import Derived.Test.YtnmfmedoocnofaaDoorLowest
import Derived.Deep.LoopGhost
namespace Go.Proofs.YtnmfmedoocnofaaDoor
open Go.RowKit

def OwnsPost (w : World) (l : List (EvP × Ev)) (en : Ending) (w' : World) : Prop :=
  ∃ (L : List (EvP × Ev)) (q : Option Addr) (cap : Nat), en = .returned (.slice q L.length cap) ∧ L.map Prod.snd = l.map Prod.snd ∧ LsRow w.heap.size w' (.slice q L.length cap) L ∧ Fr No w w'
set_option maxHeartbeats 8000000 in
set_option maxRecDepth 100000 in
theorem owns_big (l : List (EvP × Ev)) (q : Option Addr) (cap : Nat) (w : World) (hl : LsAt w q l) (hn : l.length ≤ 1000000) (hs : ∀ p, p ∈ l → p.2.nums.length ≤ 17592186044416 ∧ p.2.texts.length ≤ 8796093022208) :
    Calls Tryd.prog 27 #[.slice q l.length cap] w (OwnsPost w l) := by
  have LA := hid (fun w1 (h : Fr No w w1) => hl.fr h)
  have OW := hid (fun s e w1 (h : EvAt w1 s e) h1 h2 => own5_big s e w1 h h1 h2)
  have HS := hid hs
  clear hl hs
  go_enter Tryd.func27, Tryd.ntmps27
  go_wp2_with fail
  go_loopg [3, 4] l.length (fun k ov i wr => ∃ (m : Nat) (L : List (EvP × Ev)), m ≤ l.length ∧ l.length ≤ m + k ∧ i = .int .i64 m ∧ Hid (L.length = m ∧ L.map Prod.snd = (l.take m).map Prod.snd) ∧ LsRow w.heap.size wr ov L ∧ Fr No w wr)
  case atStart => exact ⟨0, [], Nat.zero_le _, by omega, rfl, hid ⟨rfl, rfl⟩, LsRow.nil _ _, Fr.refl _⟩
  case round =>
    rename Value => ov
    obtain ⟨m, L, hm, hk, rfl, HL, hrow, hf⟩ := hrel
    by_cases hlt : m < l.length
    · obtain ⟨p, hp⟩ : ∃ p, l[m]? = some p := ⟨_, List.getElem?_eq_getElem hlt⟩
      obtain ⟨s, e⟩ := p
      obtain ⟨hE, b, o, hq, c0, c1, c2, c3⟩ := LA.out _ hf m s e hp
      subst hq
      have i1 : (m : Int) < (l.length : Int) := by omega
      have i2 : (0 : Int) ≤ (m : Int) := by omega
      have i4 : (m : Int) + 1 ≤ 1000001 := by omega
      have ht : l.take (m + 1) = l.take m ++ [(s, e)] := by rw [List.take_succ_eq_append_getElem hlt, (List.getElem?_eq_some_iff.1 hp).2]
      have hsz := HS.out _ (List.mem_of_getElem? hp)
      have OE := hid (OW.out s e wr hE hsz.1 hsz.2)
      have HE := hid (And.intro hp ht)
      have HLL := hid HL.out.1
      have HROW := hid hrow
      obtain ⟨i0, hi, hz0, hz1, hz2⟩ := info_parts infoEv
      clear hp ht hE hrow hsz
      unfold OwnPost evV at OE
      go_wp2_with (first
        | (go_at_call 53; (with_reducible refine OE.out.mono ?_); rintro e5 w5 ⟨s5, rfl, hn5, hf5⟩; have hown := (HROW.out.fr (hf5.alloc (.cells #[.int .u8 e.v, .int .u8 e.kind, .slice s5.qn e.nums.length s5.cn, .slice s5.qt e.texts.length s5.ct] 34))).own)
        | (at_builtin; refine wpList_append_fr _ rfl _ _ 26 rfl 34 i0 (.agg #[.int .u8 0, .int .u8 0, .slice none 0 0, .slice none 0 0]) 4 56 Tryd.underlying26 hi hz0 hz1 hz2 rfl (by decide) _ _ _ rfl hown ⟨w5.heap.size, 0, none⟩ 1 1 (evC (s5, e)) rfl rfl ?c1 ?c2 ?c3 ?c4 ?_)
        | fail)
      case c1 => intro j u hu; have h := cells_new w5 (evC (s5, e)) 34 j u hu; exact h
      case c2 => intro u hu; simp [evC] at hu; rcases hu with rfl | rfl | rfl | rfl <;> rfl
      case c3 => have := HLL.out; unfold maxLen; omega
      case c4 => have := HLL.out; omega
      intro v' w6 ho hf6 hn6
      have hA : Fr No w5 (w5.alloc (.cells #[.int .u8 e.v, .int .u8 e.kind, .slice s5.qn e.nums.length s5.cn, .slice s5.qt e.texts.length s5.ct] 34)) := (Fr.refl w5).alloc _
      have hfW := hf5.trans hA
      have hnew := (hn5.fr hA).onlyS hown hf6
      have hall : ∀ x, x ∈ L ++ [(s5, e)] → EvNew w.heap.size w6 x.1 x.2 := fun x hx => by
        rcases List.mem_append.1 hx with hx | hx
        · exact ((HROW.out.evs x hx).fr hfW).onlyS hown hf6
        · obtain rfl : x = (s5, e) := by simpa using hx
          exact hnew.mono hf.size
      have hrow := HROW.out.more (w4 := w5.alloc (.cells #[.int .u8 e.v, .int .u8 e.kind, .slice s5.qn e.nums.length s5.cn, .slice s5.qt e.texts.length s5.ct] 34)) (p := (s5, e)) (Nat.le_trans hf.size hfW.size) hall ho (by simpa using hn6) hnew (Nat.le_refl _)
      have HNR := hid hrow
      have HFE := hid ((hf.trans hfW).newOnlyS (fun g hg => HROW.out.new g hg) hf6)
      have HOK : Hid ((L ++ [(s5, e)]).length = m + 1 ∧ (L ++ [(s5, e)]).map Prod.snd = (l.take (m + 1)).map Prod.snd) := hid (by
        obtain ⟨h1, h3⟩ := HL.out
        rw [HE.out.2]
        exact ⟨by simp [h1], by simp [h3]⟩)
      clear ho hf6 hn6 hown hA hfW hnew hall hrow
      go_wp2_with fail
      go_roundg (gk - 1)
      case measure => omega
      case rel => exact ⟨m + 1, L ++ [(s5, e)], by omega, by omega, by go_num, HOK, HNR.out, HFE.out⟩
    · obtain rfl : m = l.length := by omega
      rw [List.take_length] at HL
      obtain ⟨qo, co, rfl⟩ := hrow.shape
      have HROW := hid hrow
      clear hrow
      go_wp2_with fail
      go_ret
      exact ⟨L, qo, co, rfl, HL.out.2, HROW.out, hf⟩

theorem owns_any (l : List (EvP × Ev)) (q : Option Addr) (cap : Nat) (w : World) (hl : LsAt w q l) (hn : l.length ≤ 1000000) (hs : ∀ p, p ∈ l → p.2.nums.length ≤ 4000 ∧ p.2.texts.length ≤ 4000) :
    Calls Tryd.prog 27 #[.slice q l.length cap] w (OwnsPost w l) := owns_big l q cap w hl hn (fun p hp => by have := hs p hp; omega)
/-- An event's rows are being written over, and nothing else. -/
structure Spoil (W wr : World) (s : EvP) (e : Ev) : Prop where
  fr : Fr (inB (s, e)) W wr
  nums : e.nums ≠ [] → ∃ b cur, s.qn = some ⟨b, 0, none⟩ ∧ wr.heap[b]? = some (.cells cur 2 (0, 0)) ∧ e.nums.length ≤ cur.size
  texts : e.texts ≠ [] → ∃ b cur, s.qt = some ⟨b, 0, none⟩ ∧ wr.heap[b]? = some (.cells cur 9 (0, 0)) ∧ e.texts.length ≤ cur.size
theorem take_size {cur : Array Value} {xs : List Value} (h : cur.toList.take xs.length = xs) : xs.length ≤ cur.size := by
  have := congrArg List.length h
  rw [List.length_take] at this
  simp at this
  omega
/-- An event's rows lie in memory of their own. -/
structure EvHas (w : World) (s : EvP) (e : Ev) : Prop where
  nums : e.nums ≠ [] → ∃ b cur, s.qn = some ⟨b, 0, none⟩ ∧ w.heap[b]? = some (.cells cur 2 (0, 0)) ∧ e.nums.length ≤ cur.size
  texts : e.texts ≠ [] → ∃ b cur, s.qt = some ⟨b, 0, none⟩ ∧ w.heap[b]? = some (.cells cur 9 (0, 0)) ∧ e.texts.length ≤ cur.size
theorem EvNew.has {B : Nat} {w : World} {s : EvP} {e : Ev} (h : EvNew B w s e) : EvHas w s e := by
  refine ⟨fun hne => ?_, fun hne => ?_⟩
  · obtain ⟨b, cur, h1, _, h3, h4⟩ := h.nums.cell_at (i := 0) (by simpa using List.length_pos_iff.2 hne)
    exact ⟨b, cur, h1, h3, by simpa using take_size h4⟩
  · obtain ⟨b, cur, h1, _, h3, h4⟩ := h.texts.cell_at (i := 0) (by simpa using List.length_pos_iff.2 hne)
    exact ⟨b, cur, h1, h3, by simpa using take_size h4⟩
theorem EvHas.frX {X : Nat → Prop} {w w' : World} {s : EvP} {e : Ev} (h : EvHas w s e) (hf : Fr X w w') (hx : ∀ k, inB (s, e) k → ¬ X k) : EvHas w' s e := by
  refine ⟨fun hne => ?_, fun hne => ?_⟩
  · obtain ⟨b, cur, h1, h2, h3⟩ := h.nums hne
    exact ⟨b, cur, h1, hf.heap h2 (hx b (.inl ⟨hne, 0, h1⟩)), h3⟩
  · obtain ⟨b, cur, h1, h2, h3⟩ := h.texts hne
    exact ⟨b, cur, h1, hf.heap h2 (hx b (.inr ⟨hne, 0, h1⟩)), h3⟩
theorem EvHas.fr {w w' : World} {s : EvP} {e : Ev} (h : EvHas w s e) (hf : Fr No w w') : EvHas w' s e := h.frX hf (fun _ _ => id)
theorem EvHas.inB {w : World} {s : EvP} {e : Ev} (h : EvHas w s e) {k : Nat} (hk : inB (s, e) k) : ∃ cur t, w.heap[k]? = some (.cells cur t (0, 0)) ∧ t ≠ 34 := by
  rcases hk with ⟨hne, o, hq⟩ | ⟨hne, o, hq⟩
  · obtain ⟨b, cur, h1, h2, _⟩ := h.nums hne
    have hq : s.qn = some ⟨k, o, none⟩ := hq
    rw [h1] at hq
    obtain rfl : b = k := by simp at hq; exact hq.1
    exact ⟨cur, _, h2, by decide⟩
  · obtain ⟨b, cur, h1, h2, _⟩ := h.texts hne
    have hq : s.qt = some ⟨k, o, none⟩ := hq
    rw [h1] at hq
    obtain rfl : b = k := by simp at hq; exact hq.1
    exact ⟨cur, _, h2, by decide⟩
theorem EvAt.frX {X : Nat → Prop} {w w' : World} {s : EvP} {e : Ev} (h : EvAt w s e) (hf : Fr X w w') (hx : ∀ k, inB (s, e) k → ¬ X k) : EvAt w' s e := by
  refine ⟨h.v8, h.k8, fun i x hi => ?_, fun i x hi => ?_, h.nl, h.tl, h.tx, h.nr⟩
  · obtain ⟨b, o, hq, hc⟩ := h.nums i x hi
    exact ⟨b, o, hq, hf.cell hc (hx b (.inl ⟨fun hn => by rw [hn] at hi; simp at hi, o, hq⟩))⟩
  · obtain ⟨b, o, hq, hc⟩ := h.texts i x hi
    exact ⟨b, o, hq, hf.cell hc (hx b (.inr ⟨fun hn => by rw [hn] at hi; simp at hi, o, hq⟩))⟩
theorem Spoil.start {W w1 : World} {s : EvP} {e : Ev} (hf : Fr No W w1) (h : EvHas w1 s e) : Spoil W w1 s e := ⟨hf.of0, h.nums, h.texts⟩
theorem Spoil.setN {W wr : World} {s : EvP} {e : Ev} (h : Spoil W wr s e) {b : Nat} (hne : e.nums ≠ []) (hq : s.qn = some ⟨b, 0, none⟩) (i : Nat) (v : Value) : Spoil W (wr.setCell ⟨b, i, none⟩ v) s e := by
  obtain ⟨b', cur, h1, h2, h3⟩ := h.nums hne
  rw [hq] at h1
  obtain rfl : b = b' := by simp at h1; exact h1
  refine ⟨h.fr.setCell (.inl (.inl ⟨hne, 0, hq⟩)) v, fun _ => ⟨b, _, hq, heap_setCell_at v h2, by simpa using h3⟩, fun ht => ?_⟩
  obtain ⟨g, cur2, k1, k2, k3⟩ := h.texts ht
  refine ⟨g, cur2, k1, ?_, k3⟩
  rw [heap_setCell_past (fun hgb => ?_)]
  · exact k2
  · have hgb : g = b := hgb
    subst hgb
    rw [h2] at k2
    simp at k2
theorem Spoil.setT {W wr : World} {s : EvP} {e : Ev} (h : Spoil W wr s e) {b : Nat} (hne : e.texts ≠ []) (hq : s.qt = some ⟨b, 0, none⟩) (i : Nat) (v : Value) : Spoil W (wr.setCell ⟨b, i, none⟩ v) s e := by
  obtain ⟨b', cur, h1, h2, h3⟩ := h.texts hne
  rw [hq] at h1
  obtain rfl : b = b' := by simp at h1; exact h1
  refine ⟨h.fr.setCell (.inl (.inr ⟨hne, 0, hq⟩)) v, fun ht => ?_, fun _ => ⟨b, _, hq, heap_setCell_at v h2, by simpa using h3⟩⟩
  obtain ⟨g, cur2, k1, k2, k3⟩ := h.nums ht
  refine ⟨g, cur2, k1, ?_, k3⟩
  rw [heap_setCell_past (fun hgb => ?_)]
  · exact k2
  · have hgb : g = b := hgb
    subst hgb
    rw [h2] at k2
    simp at k2
/-- The cell that is written. -/
theorem row_cell {w : World} {b i : Nat} {cur : Array Value} {t : TypeId} (h : w.heap[b]? = some (.cells cur t (0, 0))) (hi : i < cur.size) : ∃ y, w.cell? ⟨b, i, none⟩ = some y ∧ w.frozen? ⟨b, i, none⟩ = false := by
  refine ⟨cur[i], ?_, ?_⟩
  · rw [cell_of_row w b i _ _ (0, 0) h]
    simp [hi]
  · exact frozen_of_row w b _ cur t h
end Go.Proofs.YtnmfmedoocnofaaDoor
