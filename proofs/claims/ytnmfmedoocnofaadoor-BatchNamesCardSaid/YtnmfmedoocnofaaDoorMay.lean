/-
  told: what a row has in a version. told: what a row has in a version: the walks. The fields of events and commands, and their names: the contracts of schema's Fields, Command, Name, Word. Whether an event may be: the contracts of schema's all and May. What may be, in plain words: other numbers, more of them, other texts. No statement of the seat is proved here.
-/
import Derived.Test.YtnmfmedoocnofaaDoorSpec
import Derived.Laws.RangeAny
import Derived.WalkKit
import Derived.OwnWalk
import Derived.BigQuiet
namespace Go.Proofs.YtnmfmedoocnofaaDoor
open Go.RowKit

def setIt (w : World) (k : Nat) (s : ByteArray) (p : Nat) : World := { w with heap := w.heap.setIfInBounds k (.stringIter s p) }
theorem setIt_heap {w : World} {k : Nat} {s : ByteArray} {p p' : Nat} (h : w.heap[k]? = some (.stringIter s p)) : (setIt w k s p').heap[k]? = some (.stringIter s p') := by
  have := lt_of_block h
  simp [setIt, this]
theorem Fr.setItNew {X : Nat → Prop} {a w : World} (h : Fr X a w) {k : Nat} (hk : a.heap.size ≤ k) (s : ByteArray) (p : Nat) : Fr X a (setIt w k s p) :=
  ⟨h.os, h.tape, h.output, by simpa [setIt] using h.size, fun i hi hn => by
    have : i ≠ k := by omega
    simp only [setIt, Array.getElem?_setIfInBounds]
    rw [if_neg (fun e => this e.symm)]
    exact h.block i hi hn⟩
theorem Fr.setItOnly (w : World) (k : Nat) (s : ByteArray) (p : Nat) : Fr (Only k) w (setIt w k s p) :=
  ⟨rfl, rfl, rfl, by simp [setIt], fun i hi hn => by
    simp only [setIt, Array.getElem?_setIfInBounds]
    rw [if_neg (fun e => hn e.symm)]⟩
theorem run_next_at {P : Program} {w : World} {k : Nat} {s : ByteArray} {pos : Nat} (hit : w.heap[k]? = some (.stringIter s pos)) (ty : TypeId) (h : pos < s.size) (ha : (s[pos]'h).toNat < 128) :
    (Instr.next (.pointer (some ⟨k, 0, none⟩)) true ty).run P w = .ok (.tuple #[.bool true, .int .i64 pos, .int .i32 (s[pos]'h).toNat]) (setIt w k s (pos + 1)) := by
  have hk := lt_of_block hit
  simp only [Instr.next, getObj, setObj, Sem.run_bind, Sem.run, hit, Result.andThen, h, if_true, decode_ascii s pos h ha]
  simp [goInt, setIt]
theorem run_next_at_end {P : Program} {w : World} {k : Nat} {s : ByteArray} {pos : Nat} (hit : w.heap[k]? = some (.stringIter s pos)) (ty : TypeId) (h : ¬ pos < s.size) :
    (Instr.next (.pointer (some ⟨k, 0, none⟩)) true ty).run P w = .ok (.tuple #[.bool false]) w := by
  simp [Instr.next, getObj, Sem.run, hit, h]

theorem infoCls : (Tryd.prog.info? 126).map (fun i => (i.zero, i.size, i.bytes)) = some (some (.int .u8 0), 1, 1) := by kernel_rfl
def ToldPost (w : World) (x : List UInt8 × Bool × Bool) (e : Ending) (w' : World) : Prop :=
  ∃ L, e = .returned (.tuple #[L, .bool x.2.1, .bool x.2.2]) ∧ Res w.heap.size w' 126 L (x.1.map clsV) ∧ Fr No w w'
theorem toldPost_none {w w' : World} (h : Fr No w w') : ToldPost w ([], false, false) (.returned (.tuple #[.slice none 0 0, .bool false, .bool false])) w' := ⟨_, rfl, Res.nil _ _ _, h⟩

structure ToldRel (w : World) (f : List UInt8) (k : Nat) (X : Array Value) (i : Nat) (v : Value) (wr : World) : Prop where
  le : i ≤ f.length
  own : Own wr 126 1 v i ((f.take i).map clsV)
  new : ∀ b, v.ownBlock = some b → w.heap.size < b
  it : wr.heap[k]? = some (.stringIter ⟨f.toArray⟩ i)
  box : wr.heap[w.heap.size]? = some (.cells X 132 (0, 0))
  fr : Fr No w wr
  lk : w.heap.size < k
theorem told_step {w wr w1 : World} {f : List UInt8} {k i : Nat} {X : Array Value} {v v' : Value} {c : UInt8} (h : ToldRel w f k X i v wr) (hc : f[i]? = some c)
    (ho : Own w1 126 1 v' (i + 1) ((f.take i).map clsV ++ [clsV c]))
    (hf : Fr (OnlyS v.ownBlock) ((setIt wr k ⟨f.toArray⟩ (i + 1)).alloc (.cells #[clsV c] 126)) w1)
    (hn : v'.ownBlock = v.ownBlock ∨ v'.ownBlock = some (wr.heap.size + 1)) : ToldRel w f k X (i + 1) v' w1 := by
  obtain ⟨hlt, hce⟩ := List.getElem?_eq_some_iff.1 hc
  have hk := lt_of_block h.it
  have hz := h.fr.size
  have hkv : v.ownBlock ≠ some k := by
    intro e
    rcases h.own.2 with ⟨rfl, _⟩ | ⟨g, cap, cur, rfl, _, hg, _⟩
    · cases e
    · have : g = k := by simpa [Value.ownBlock] using e
      subst this
      rw [h.it] at hg
      simp at hg
  have hbox0 := lt_of_block h.box
  have hbv : v.ownBlock ≠ some w.heap.size := fun e => by have := h.new _ e; omega
  have hs : (setIt wr k ⟨f.toArray⟩ (i + 1)).heap.size = wr.heap.size := by simp [setIt]
  have hF : Fr No w ((setIt wr k ⟨f.toArray⟩ (i + 1)).alloc (.cells #[clsV c] 126)) := (h.fr.setItNew (Nat.le_of_lt h.lk) _ _).alloc _
  refine ⟨by omega, ?_, ?_, ?_, ?_, hF.newOnlyS (fun g hg => by have := h.new g hg; omega) hf, h.lk⟩
  · have e : (f.take (i + 1)).map clsV = (f.take i).map clsV ++ [clsV c] := by
      rw [List.take_succ_eq_append_getElem hlt, hce]; simp
    rw [e]; exact ho
  · intro b hb
    rcases hn with hn | hn
    · exact h.new b (hn ▸ hb)
    · rw [hn] at hb
      have : wr.heap.size + 1 = b := by simpa using hb
      omega
  · refine hf.heap ?_ hkv
    rw [Below.heap_alloc _ _ _ (by rw [hs]; exact hk)]
    exact setIt_heap h.it
  · refine hf.heap ?_ hbv
    rw [Below.heap_alloc _ _ _ (by rw [hs]; exact hbox0)]
    have hne : w.heap.size ≠ k := by have := h.lk; omega
    simp only [setIt, Array.getElem?_setIfInBounds]
    rw [if_neg (fun e => hne e.symm)]
    exact h.box

theorem told_start (w : World) (f : List UInt8) (X : Array Value) : ToldRel w f (w.heap.size + 1) X 0 (.slice none 0 0) (World.iter (w.alloc (.cells X 132)) ⟨f.toArray⟩ 0) := by
  refine ⟨Nat.zero_le _, Own.nil _ _ _, fun _ h => (by cases h), ?_, ?_, (((Fr.refl w).alloc _).alloc _), Nat.lt_succ_self _⟩
  · have := World.iter_heap (w.alloc (.cells X 132)) ⟨f.toArray⟩ 0
    simpa using this
  · show (World.alloc (w.alloc _) _).heap[w.heap.size]? = _
    rw [Below.heap_alloc _ _ _ (by simp)]
    exact Go.heap_alloc_new _ _
theorem told_own {w wr : World} {f : List UInt8} {k i : Nat} {X : Array Value} {v : Value} (h : ToldRel w f k X i v wr) (p : Nat) : Own (setIt wr k ⟨f.toArray⟩ p) 126 1 v i ((f.take i).map clsV) :=
  h.own.fr (Fr.setItOnly wr k _ _) fun b hb e => by
    have e : b = k := e
    subst e
    rcases h.own.2 with ⟨rfl, _⟩ | ⟨g, cap, cur, rfl, _, hg, _⟩
    · cases hb
    · have : g = b := by simpa [Value.ownBlock] using hb
      subst this
      have := h.it
      rw [hg] at this
      simp at this
theorem told_next {P : Program} {wr : World} {f : List UInt8} {k i : Nat} {c : UInt8} (h : wr.heap[k]? = some (.stringIter ⟨f.toArray⟩ i)) (hc : f[i]? = some c) (ha : c.toNat < 128) :
    ∀ ty, (Instr.next (.pointer (some ⟨k, 0, none⟩)) true ty).run P wr = .ok (.tuple #[.bool true, .int .i64 i, .int .i32 (c.toNat : Int)]) (setIt wr k ⟨f.toArray⟩ (i + 1)) := by
  intro ty
  obtain ⟨hlt, rfl⟩ := List.getElem?_eq_some_iff.1 hc
  exact run_next_at (P := P) (s := ⟨f.toArray⟩) h ty (by show i < f.length; exact hlt) ha
theorem told_out (r : RowT) (v : Nat) (w : World) (hv : v = 0 ∨ 3 < v) (h8 : v ≤ 255) :
    Calls Tryd.prog 99 #[rowA r, .int .u8 v] w (ToldPost w ([], false, false)) := by
  unfold rowA strV
  rcases hv with rfl | hv
  · go_enter Tryd.func99, Tryd.ntmps99
    go_wp2
    go_ret3
    exact toldPost_none ((Fr.refl w).alloc _)
  · have h1 : decide ((v : Int) < 1) = false := by simp; omega
    have h2 : decide ((3 : Int) < (v : Int)) = true := by simp; omega
    go_enter Tryd.func99, Tryd.ntmps99
    go_wp2
    go_ret3
    exact toldPost_none ((Fr.refl w).alloc _)

set_option maxHeartbeats 1000000 in
theorem told_good1 (n f1 f2 f3 : List UInt8) (t : Bool) (w : World) (HG : Hid (∀ (i : Nat) (c : UInt8), f1[i]? = some c → c.toNat < 128 ∧ c.toNat ≠ 32)) (HL : Hid (f1.length ≤ 1000)) :
    Calls Tryd.prog 99 #[.agg #[strV n, strV f1, strV f2, strV f3, .bool t], .int .u8 1] w (ToldPost w (f1, t, true)) := by
  obtain ⟨i0, hi, hz0, hz1, hz2⟩ := info_parts infoCls
  unfold strV
  go_enter Tryd.func99, Tryd.ntmps99
  go_wp2_with fail
  have HR : ToldRel w f1 (w.heap.size + 1) #[.string ⟨n.toArray⟩, .string ⟨f1.toArray⟩, .string ⟨f2.toArray⟩, .string ⟨f3.toArray⟩, .bool t] 0 (.slice none 0 0) (World.iter (w.alloc (.cells #[.string ⟨n.toArray⟩, .string ⟨f1.toArray⟩, .string ⟨f2.toArray⟩, .string ⟨f3.toArray⟩, .bool t] 132)) ⟨f1.toArray⟩ 0) := told_start w f1 _
  generalize w.heap.size + 1 = k at HR ⊢
  generalize hX : #[Value.string ⟨n.toArray⟩, .string ⟨f1.toArray⟩, .string ⟨f2.toArray⟩, .string ⟨f3.toArray⟩, .bool t] = X at HR ⊢
  go_loopw [4] (fun l wr => ∃ i : Nat, ToldRel w f1 k X i l wr) (fun _ wr => f1.length - wr.iterPos k)
  case atStart => exact ⟨0, HR⟩
  case round =>
    clear HR
    obtain ⟨i, hR⟩ := hrel
    have hit := iterPos_of hR.it
    by_cases hlt : i < f1.length
    · obtain ⟨c, hc⟩ : ∃ c, f1[i]? = some c := ⟨_, List.getElem?_eq_getElem hlt⟩
      obtain ⟨hg1, hg2⟩ := HG.out i c hc
      have hnx := told_next (P := Tryd.prog) hR.it hc hg1
      have c1 : ((c.toNat : Int) == 32) = false := by simp; omega
      have c2 : (0 : Int) ≤ (c.toNat : Int) := by omega
      have c3 : (c.toNat : Int) ≤ 127 := by omega
      have cw : IntKind.u8.wrap (c.toNat : Int) = (c.toNat : Int) := IntWalk.u8_in _ (by omega)
      have hown : Own ((setIt wr k ⟨f1.toArray⟩ (i + 1)).alloc (.cells #[.int .u8 (c.toNat : Int)] 126)) 126 1 u4 i ((f1.take i).map clsV) := World.ownsRow.alloc (told_own hR (i + 1)) _
      have hil : i ≤ 1000 := by have := HL.out; omega
      have HH := hid hR
      have HC := hid hc
      have hlk := lt_of_block hR.it
      clear hR hc hg1 hg2 hlt
      go_wp2_with (at_builtin; refine wpList_append_fr _ rfl _ _ 100 rfl 126 i0 (.int .u8 0) 1 1 Tryd.underlying100 hi hz0 hz1 hz2 rfl (by decide) _ _ _ rfl hown ⟨(setIt wr k ⟨f1.toArray⟩ (i + 1)).heap.size, 0, none⟩ _ _ [clsV c] rfl rfl ?c1 ?c2 ?c3 ?c4 ?_)
      case c1 => exact cells_new _ [clsV c] _
      case c2 => intro u hu; simp at hu; subst hu; rfl
      case c3 => unfold maxLen; omega
      case c4 => omega
      intro v' w1 ho hf hn
      have HN := hid (told_step HH.out HC.out (by rw [List.map_take]; exact ho) hf (by simpa [setIt] using hn))
      obtain ⟨a1, cp, rfl⟩ := Own.shape ho
      clear ho hf hn hown cw
      go_wp2_with fail
      go_roundw
      case rel => exact ⟨i + 1, HN.out⟩
      case measure =>
        have hle := HN.out.le
        rw [iterPos_of HN.out.it, iterPos_of HH.out.it]
        omega
    · have hnx := fun ty => run_next_at_end (P := Tryd.prog) hR.it ty (show ¬ i < f1.length from hlt)
      have hle := hR.le
      obtain rfl : i = f1.length := by omega
      have hbox := hR.box
      rw [← hX] at hbox
      have hc4 : wr.cell? ⟨w.heap.size, 4, none⟩ = some (.bool t) := by
        rw [cell_of_row wr w.heap.size 4 _ _ (0, 0) hbox]; rfl
      have ho := hR.own
      rw [List.take_length] at ho
      obtain ⟨a1, cp, rfl⟩ := Own.shape ho
      have HE : Hid (∀ nq, ToldPost w (f1, t, true) (.returned (.tuple #[.slice a1 f1.length cp, .bool t, .bool true])) (wr.drewN nq)) :=
        hid (fun nq => ⟨_, rfl, ⟨by simpa using ho.fr ((Fr.refl (X := No) wr).drewN nq) (fun _ _ => id), fun b hb => Nat.le_of_lt (hR.new b hb)⟩, hR.fr.drewN nq⟩)
      clear hR ho hbox hit
      go_wp2_with fail
      go_quiet (fail)
      go_wp2_with fail
      go_ret3
      exact HE.out _

set_option maxHeartbeats 1000000 in
theorem told_blank1 (n f1 f2 f3 : List UInt8) (t : Bool) (w : World) (hb : f1 = [32]) :
    Calls Tryd.prog 99 #[.agg #[strV n, strV f1, strV f2, strV f3, .bool t], .int .u8 1] w (ToldPost w ([], false, false)) := by
  have HB := hid hb
  clear hb
  unfold strV
  go_enter Tryd.func99, Tryd.ntmps99
  go_wp2_with fail
  have HR : ToldRel w f1 (w.heap.size + 1) #[.string ⟨n.toArray⟩, .string ⟨f1.toArray⟩, .string ⟨f2.toArray⟩, .string ⟨f3.toArray⟩, .bool t] 0 (.slice none 0 0) (World.iter (w.alloc (.cells #[.string ⟨n.toArray⟩, .string ⟨f1.toArray⟩, .string ⟨f2.toArray⟩, .string ⟨f3.toArray⟩, .bool t] 132)) ⟨f1.toArray⟩ 0) := told_start w f1 _
  generalize w.heap.size + 1 = k at HR ⊢
  generalize hX : #[Value.string ⟨n.toArray⟩, .string ⟨f1.toArray⟩, .string ⟨f2.toArray⟩, .string ⟨f3.toArray⟩, .bool t] = X at HR ⊢
  go_loopw [4] (fun l wr => ToldRel w f1 k X 0 l wr) (fun _ wr => f1.length - wr.iterPos k)
  case atStart => exact HR
  case round =>
    clear HR
    have hit := iterPos_of hrel.it
    have hnx := told_next (P := Tryd.prog) hrel.it (c := 32) (by rw [HB.out]; rfl) (by decide)
    have HE : Hid (ToldPost w ([], false, false) (.returned (.tuple #[.slice none 0 0, .bool false, .bool false])) (setIt wr k ⟨f1.toArray⟩ (0 + 1))) :=
      hid (toldPost_none (hrel.fr.setItNew (Nat.le_of_lt hrel.lk) _ _))
    clear hrel hit
    go_wp2_with fail
    go_ret3
    exact HE.out

set_option maxHeartbeats 1000000 in
theorem told_good2 (n f1 f2 f3 : List UInt8) (t : Bool) (w : World) (HG : Hid (∀ (i : Nat) (c : UInt8), f2[i]? = some c → c.toNat < 128 ∧ c.toNat ≠ 32)) (HL : Hid (f2.length ≤ 1000)) :
    Calls Tryd.prog 99 #[.agg #[strV n, strV f1, strV f2, strV f3, .bool t], .int .u8 2] w (ToldPost w (f2, t, true)) := by
  obtain ⟨i0, hi, hz0, hz1, hz2⟩ := info_parts infoCls
  unfold strV
  go_enter Tryd.func99, Tryd.ntmps99
  go_wp2_with fail
  have HR : ToldRel w f2 (w.heap.size + 1) #[.string ⟨n.toArray⟩, .string ⟨f1.toArray⟩, .string ⟨f2.toArray⟩, .string ⟨f3.toArray⟩, .bool t] 0 (.slice none 0 0) (World.iter (w.alloc (.cells #[.string ⟨n.toArray⟩, .string ⟨f1.toArray⟩, .string ⟨f2.toArray⟩, .string ⟨f3.toArray⟩, .bool t] 132)) ⟨f2.toArray⟩ 0) := told_start w f2 _
  generalize w.heap.size + 1 = k at HR ⊢
  generalize hX : #[Value.string ⟨n.toArray⟩, .string ⟨f1.toArray⟩, .string ⟨f2.toArray⟩, .string ⟨f3.toArray⟩, .bool t] = X at HR ⊢
  go_loopw [4] (fun l wr => ∃ i : Nat, ToldRel w f2 k X i l wr) (fun _ wr => f2.length - wr.iterPos k)
  case atStart => exact ⟨0, HR⟩
  case round =>
    clear HR
    obtain ⟨i, hR⟩ := hrel
    have hit := iterPos_of hR.it
    by_cases hlt : i < f2.length
    · obtain ⟨c, hc⟩ : ∃ c, f2[i]? = some c := ⟨_, List.getElem?_eq_getElem hlt⟩
      obtain ⟨hg1, hg2⟩ := HG.out i c hc
      have hnx := told_next (P := Tryd.prog) hR.it hc hg1
      have c1 : ((c.toNat : Int) == 32) = false := by simp; omega
      have c2 : (0 : Int) ≤ (c.toNat : Int) := by omega
      have c3 : (c.toNat : Int) ≤ 127 := by omega
      have cw : IntKind.u8.wrap (c.toNat : Int) = (c.toNat : Int) := IntWalk.u8_in _ (by omega)
      have hown : Own ((setIt wr k ⟨f2.toArray⟩ (i + 1)).alloc (.cells #[.int .u8 (c.toNat : Int)] 126)) 126 1 u4 i ((f2.take i).map clsV) := World.ownsRow.alloc (told_own hR (i + 1)) _
      have hil : i ≤ 1000 := by have := HL.out; omega
      have HH := hid hR
      have HC := hid hc
      have hlk := lt_of_block hR.it
      clear hR hc hg1 hg2 hlt
      go_wp2_with (at_builtin; refine wpList_append_fr _ rfl _ _ 100 rfl 126 i0 (.int .u8 0) 1 1 Tryd.underlying100 hi hz0 hz1 hz2 rfl (by decide) _ _ _ rfl hown ⟨(setIt wr k ⟨f2.toArray⟩ (i + 1)).heap.size, 0, none⟩ _ _ [clsV c] rfl rfl ?c1 ?c2 ?c3 ?c4 ?_)
      case c1 => exact cells_new _ [clsV c] _
      case c2 => intro u hu; simp at hu; subst hu; rfl
      case c3 => unfold maxLen; omega
      case c4 => omega
      intro v' w1 ho hf hn
      have HN := hid (told_step HH.out HC.out (by rw [List.map_take]; exact ho) hf (by simpa [setIt] using hn))
      obtain ⟨a1, cp, rfl⟩ := Own.shape ho
      clear ho hf hn hown cw
      go_wp2_with fail
      go_roundw
      case rel => exact ⟨i + 1, HN.out⟩
      case measure =>
        have hle := HN.out.le
        rw [iterPos_of HN.out.it, iterPos_of HH.out.it]
        omega
    · have hnx := fun ty => run_next_at_end (P := Tryd.prog) hR.it ty (show ¬ i < f2.length from hlt)
      have hle := hR.le
      obtain rfl : i = f2.length := by omega
      have hbox := hR.box
      rw [← hX] at hbox
      have hc4 : wr.cell? ⟨w.heap.size, 4, none⟩ = some (.bool t) := by
        rw [cell_of_row wr w.heap.size 4 _ _ (0, 0) hbox]; rfl
      have ho := hR.own
      rw [List.take_length] at ho
      obtain ⟨a1, cp, rfl⟩ := Own.shape ho
      have HE : Hid (∀ nq, ToldPost w (f2, t, true) (.returned (.tuple #[.slice a1 f2.length cp, .bool t, .bool true])) (wr.drewN nq)) :=
        hid (fun nq => ⟨_, rfl, ⟨by simpa using ho.fr ((Fr.refl (X := No) wr).drewN nq) (fun _ _ => id), fun b hb => Nat.le_of_lt (hR.new b hb)⟩, hR.fr.drewN nq⟩)
      clear hR ho hbox hit
      go_wp2_with fail
      go_quiet (fail)
      go_wp2_with fail
      go_ret3
      exact HE.out _

set_option maxHeartbeats 1000000 in
theorem told_blank2 (n f1 f2 f3 : List UInt8) (t : Bool) (w : World) (hb : f2 = [32]) :
    Calls Tryd.prog 99 #[.agg #[strV n, strV f1, strV f2, strV f3, .bool t], .int .u8 2] w (ToldPost w ([], false, false)) := by
  have HB := hid hb
  clear hb
  unfold strV
  go_enter Tryd.func99, Tryd.ntmps99
  go_wp2_with fail
  have HR : ToldRel w f2 (w.heap.size + 1) #[.string ⟨n.toArray⟩, .string ⟨f1.toArray⟩, .string ⟨f2.toArray⟩, .string ⟨f3.toArray⟩, .bool t] 0 (.slice none 0 0) (World.iter (w.alloc (.cells #[.string ⟨n.toArray⟩, .string ⟨f1.toArray⟩, .string ⟨f2.toArray⟩, .string ⟨f3.toArray⟩, .bool t] 132)) ⟨f2.toArray⟩ 0) := told_start w f2 _
  generalize w.heap.size + 1 = k at HR ⊢
  generalize hX : #[Value.string ⟨n.toArray⟩, .string ⟨f1.toArray⟩, .string ⟨f2.toArray⟩, .string ⟨f3.toArray⟩, .bool t] = X at HR ⊢
  go_loopw [4] (fun l wr => ToldRel w f2 k X 0 l wr) (fun _ wr => f2.length - wr.iterPos k)
  case atStart => exact HR
  case round =>
    clear HR
    have hit := iterPos_of hrel.it
    have hnx := told_next (P := Tryd.prog) hrel.it (c := 32) (by rw [HB.out]; rfl) (by decide)
    have HE : Hid (ToldPost w ([], false, false) (.returned (.tuple #[.slice none 0 0, .bool false, .bool false])) (setIt wr k ⟨f2.toArray⟩ (0 + 1))) :=
      hid (toldPost_none (hrel.fr.setItNew (Nat.le_of_lt hrel.lk) _ _))
    clear hrel hit
    go_wp2_with fail
    go_ret3
    exact HE.out

set_option maxHeartbeats 1000000 in
theorem told_good3 (n f1 f2 f3 : List UInt8) (t : Bool) (w : World) (HG : Hid (∀ (i : Nat) (c : UInt8), f3[i]? = some c → c.toNat < 128 ∧ c.toNat ≠ 32)) (HL : Hid (f3.length ≤ 1000)) :
    Calls Tryd.prog 99 #[.agg #[strV n, strV f1, strV f2, strV f3, .bool t], .int .u8 3] w (ToldPost w (f3, t, true)) := by
  obtain ⟨i0, hi, hz0, hz1, hz2⟩ := info_parts infoCls
  unfold strV
  go_enter Tryd.func99, Tryd.ntmps99
  go_wp2_with fail
  have HR : ToldRel w f3 (w.heap.size + 1) #[.string ⟨n.toArray⟩, .string ⟨f1.toArray⟩, .string ⟨f2.toArray⟩, .string ⟨f3.toArray⟩, .bool t] 0 (.slice none 0 0) (World.iter (w.alloc (.cells #[.string ⟨n.toArray⟩, .string ⟨f1.toArray⟩, .string ⟨f2.toArray⟩, .string ⟨f3.toArray⟩, .bool t] 132)) ⟨f3.toArray⟩ 0) := told_start w f3 _
  generalize w.heap.size + 1 = k at HR ⊢
  generalize hX : #[Value.string ⟨n.toArray⟩, .string ⟨f1.toArray⟩, .string ⟨f2.toArray⟩, .string ⟨f3.toArray⟩, .bool t] = X at HR ⊢
  go_loopw [4] (fun l wr => ∃ i : Nat, ToldRel w f3 k X i l wr) (fun _ wr => f3.length - wr.iterPos k)
  case atStart => exact ⟨0, HR⟩
  case round =>
    clear HR
    obtain ⟨i, hR⟩ := hrel
    have hit := iterPos_of hR.it
    by_cases hlt : i < f3.length
    · obtain ⟨c, hc⟩ : ∃ c, f3[i]? = some c := ⟨_, List.getElem?_eq_getElem hlt⟩
      obtain ⟨hg1, hg2⟩ := HG.out i c hc
      have hnx := told_next (P := Tryd.prog) hR.it hc hg1
      have c1 : ((c.toNat : Int) == 32) = false := by simp; omega
      have c2 : (0 : Int) ≤ (c.toNat : Int) := by omega
      have c3 : (c.toNat : Int) ≤ 127 := by omega
      have cw : IntKind.u8.wrap (c.toNat : Int) = (c.toNat : Int) := IntWalk.u8_in _ (by omega)
      have hown : Own ((setIt wr k ⟨f3.toArray⟩ (i + 1)).alloc (.cells #[.int .u8 (c.toNat : Int)] 126)) 126 1 u4 i ((f3.take i).map clsV) := World.ownsRow.alloc (told_own hR (i + 1)) _
      have hil : i ≤ 1000 := by have := HL.out; omega
      have HH := hid hR
      have HC := hid hc
      have hlk := lt_of_block hR.it
      clear hR hc hg1 hg2 hlt
      go_wp2_with (at_builtin; refine wpList_append_fr _ rfl _ _ 100 rfl 126 i0 (.int .u8 0) 1 1 Tryd.underlying100 hi hz0 hz1 hz2 rfl (by decide) _ _ _ rfl hown ⟨(setIt wr k ⟨f3.toArray⟩ (i + 1)).heap.size, 0, none⟩ _ _ [clsV c] rfl rfl ?c1 ?c2 ?c3 ?c4 ?_)
      case c1 => exact cells_new _ [clsV c] _
      case c2 => intro u hu; simp at hu; subst hu; rfl
      case c3 => unfold maxLen; omega
      case c4 => omega
      intro v' w1 ho hf hn
      have HN := hid (told_step HH.out HC.out (by rw [List.map_take]; exact ho) hf (by simpa [setIt] using hn))
      obtain ⟨a1, cp, rfl⟩ := Own.shape ho
      clear ho hf hn hown cw
      go_wp2_with fail
      go_roundw
      case rel => exact ⟨i + 1, HN.out⟩
      case measure =>
        have hle := HN.out.le
        rw [iterPos_of HN.out.it, iterPos_of HH.out.it]
        omega
    · have hnx := fun ty => run_next_at_end (P := Tryd.prog) hR.it ty (show ¬ i < f3.length from hlt)
      have hle := hR.le
      obtain rfl : i = f3.length := by omega
      have hbox := hR.box
      rw [← hX] at hbox
      have hc4 : wr.cell? ⟨w.heap.size, 4, none⟩ = some (.bool t) := by
        rw [cell_of_row wr w.heap.size 4 _ _ (0, 0) hbox]; rfl
      have ho := hR.own
      rw [List.take_length] at ho
      obtain ⟨a1, cp, rfl⟩ := Own.shape ho
      have HE : Hid (∀ nq, ToldPost w (f3, t, true) (.returned (.tuple #[.slice a1 f3.length cp, .bool t, .bool true])) (wr.drewN nq)) :=
        hid (fun nq => ⟨_, rfl, ⟨by simpa using ho.fr ((Fr.refl (X := No) wr).drewN nq) (fun _ _ => id), fun b hb => Nat.le_of_lt (hR.new b hb)⟩, hR.fr.drewN nq⟩)
      clear hR ho hbox hit
      go_wp2_with fail
      go_quiet (fail)
      go_wp2_with fail
      go_ret3
      exact HE.out _

set_option maxHeartbeats 1000000 in
theorem told_blank3 (n f1 f2 f3 : List UInt8) (t : Bool) (w : World) (hb : f3 = [32]) :
    Calls Tryd.prog 99 #[.agg #[strV n, strV f1, strV f2, strV f3, .bool t], .int .u8 3] w (ToldPost w ([], false, false)) := by
  have HB := hid hb
  clear hb
  unfold strV
  go_enter Tryd.func99, Tryd.ntmps99
  go_wp2_with fail
  have HR : ToldRel w f3 (w.heap.size + 1) #[.string ⟨n.toArray⟩, .string ⟨f1.toArray⟩, .string ⟨f2.toArray⟩, .string ⟨f3.toArray⟩, .bool t] 0 (.slice none 0 0) (World.iter (w.alloc (.cells #[.string ⟨n.toArray⟩, .string ⟨f1.toArray⟩, .string ⟨f2.toArray⟩, .string ⟨f3.toArray⟩, .bool t] 132)) ⟨f3.toArray⟩ 0) := told_start w f3 _
  generalize w.heap.size + 1 = k at HR ⊢
  generalize hX : #[Value.string ⟨n.toArray⟩, .string ⟨f1.toArray⟩, .string ⟨f2.toArray⟩, .string ⟨f3.toArray⟩, .bool t] = X at HR ⊢
  go_loopw [4] (fun l wr => ToldRel w f3 k X 0 l wr) (fun _ wr => f3.length - wr.iterPos k)
  case atStart => exact HR
  case round =>
    clear HR
    have hit := iterPos_of hrel.it
    have hnx := told_next (P := Tryd.prog) hrel.it (c := 32) (by rw [HB.out]; rfl) (by decide)
    have HE : Hid (ToldPost w ([], false, false) (.returned (.tuple #[.slice none 0 0, .bool false, .bool false])) (setIt wr k ⟨f3.toArray⟩ (0 + 1))) :=
      hid (toldPost_none (hrel.fr.setItNew (Nat.le_of_lt hrel.lk) _ _))
    clear hrel hit
    go_wp2_with fail
    go_ret3
    exact HE.out

theorem told_any (r : RowT) (v : Nat) (w : World) (h8 : v ≤ 255) (hr : RowOk r = true) (hl : (fieldT r v).length ≤ 1000) :
    Calls Tryd.prog 99 #[rowA r, .int .u8 v] w (ToldPost w (toldS r v)) := by
  unfold toldS
  by_cases hv : v = 0 ∨ 3 < v
  · rw [if_pos hv]
    exact told_out r v w hv h8
  · rw [if_neg hv]
    obtain ⟨n, f1, f2, f3, t⟩ := r
    by_cases hb : fieldT ⟨n, f1, f2, f3, t⟩ v = [32]
    · rw [if_pos hb]
      have : v = 1 ∨ v = 2 ∨ v = 3 := by omega
      rcases this with rfl | rfl | rfl
      · exact told_blank1 n f1 f2 f3 t w hb
      · exact told_blank2 n f1 f2 f3 t w hb
      · exact told_blank3 n f1 f2 f3 t w hb
    · rw [if_neg hb]
      have hg : ∀ (i : Nat) (c : UInt8), (fieldT ⟨n, f1, f2, f3, t⟩ v)[i]? = some c → c.toNat < 128 ∧ c.toNat ≠ 32 := by
        intro i c hc
        rcases RowOk.field hr v with h | h
        · exact absurd h hb
        · obtain ⟨hi, rfl⟩ := List.getElem?_eq_some_iff.1 hc
          exact h i hi
      have : v = 1 ∨ v = 2 ∨ v = 3 := by omega
      rcases this with rfl | rfl | rfl
      · exact told_good1 n f1 f2 f3 t w (hid hg) (hid hl)
      · exact told_good2 n f1 f2 f3 t w (hid hg) (hid hl)
      · exact told_good3 n f1 f2 f3 t w (hid hg) (hid hl)

theorem RowsAt.fr {w w' : World} {g : Nat} {rows : List RowT} (h : RowsAt w g rows) (hf : Fr No w w') : RowsAt w' g rows := by
  intro i r hr j hj
  have hlen : (rowV r).length = 5 := rfl
  have := h i r hr j hj
  rw [List.getElem?_eq_getElem (by omega)] at this ⊢
  exact hf.cell0 this
abbrev KT (w : World) : Prop := RowsAt w 0 kindsT

theorem event_any (k : Nat) (w : World) (hk : k ≤ 255) (h : KT w) :
    Calls Tryd.prog 98 #[.int .u8 k] w fun e w' => e = .returned (rowA (eventT k)) ∧ Fr No w w' := by
  by_cases h0 : k = 0 ∨ 23 < k
  · have e : eventT k = noRow := by
      unfold eventT
      rcases h0 with rfl | h0
      · rfl
      · rw [if_neg (by omega), List.getElem?_eq_none (by simp [kindsT]; omega)]; rfl
    rw [e]
    exact event_out k w hk h0
  · obtain ⟨j, rfl⟩ : ∃ j, k = j + 1 := ⟨k - 1, by omega⟩
    have hj : j < kindsT.length := by simp [kindsT]; omega
    have e : kindsT[j]? = some (eventT (j + 1)) := by
      unfold eventT
      rw [if_neg (by omega), Nat.add_sub_cancel, List.getElem?_eq_getElem hj]; rfl
    have := event_in j _ w e (by omega) h
    simpa using this

theorem short_rows (rows : List RowT) (h : (rows.all fun r => decide (r.f1.length ≤ 7) && (decide (r.f2.length ≤ 7) && decide (r.f3.length ≤ 7))) = true) (k v : Nat) : (fieldT ((rows[k]?).getD noRow) v).length ≤ 7 := by
  have key : ∀ r : RowT, (decide (r.f1.length ≤ 7) && (decide (r.f2.length ≤ 7) && decide (r.f3.length ≤ 7))) = true → (fieldT r v).length ≤ 7 := by
    intro r hr
    simp only [Bool.and_eq_true, decide_eq_true_eq] at hr
    unfold fieldT
    split
    · exact hr.1
    · split
      · exact hr.2.1
      · exact hr.2.2
  rcases hx : rows[k]? with _ | r
  · exact key noRow (by decide)
  · exact key r (List.all_eq_true.1 h r (List.mem_of_getElem? hx))
theorem fieldT_event (k v : Nat) : (fieldT (eventT k) v).length ≤ 7 := by
  unfold eventT
  split
  · simpa using short_rows [] rfl 0 v
  · exact short_rows kindsT (by decide) _ v
theorem fieldT_command (k v : Nat) : (fieldT (commandT k) v).length ≤ 7 := by
  unfold commandT
  split
  · simpa using short_rows [] rfl 0 v
  · exact short_rows commandsT (by decide) _ v
theorem toldS_length (r : RowT) (v : Nat) (h : (fieldT r v).length ≤ 7) : (toldS r v).1.length ≤ 7 := by
  unfold toldS
  split
  · simp
  · split
    · simp
    · exact h
theorem fieldsS_length (v k : Nat) : (fieldsS v k).1.length ≤ 7 := toldS_length _ _ (fieldT_event k v)
theorem commandS_length (k : Nat) : (commandS k).1.length ≤ 7 := toldS_length _ _ (fieldT_command k 3)

theorem ToldPost.later {w w1 w' : World} {x : List UInt8 × Bool × Bool} {e : Ending} (hf : Fr No w w1) (h : ToldPost w1 x e w') : ToldPost w x e w' := by
  obtain ⟨L, he, hr, hf1⟩ := h
  exact ⟨L, he, hr.mono hf.size, hf.trans hf1⟩

set_option maxHeartbeats 1000000 in
theorem fields_any (v k : Nat) (w : World) (hv : v ≤ 255) (hk : k ≤ 255) (h : KT w) :
    Calls Tryd.prog 72 #[.int .u8 v, .int .u8 k] w (ToldPost w (fieldsS v k)) := by
  have H1 := hid (event_any k w hk h)
  have H2 := hid (fun w1 => told_any (eventT k) v w1 hv (rowOk_event k) (by have := fieldT_event k v; omega))
  unfold fieldsS
  generalize eventT k = r at H1 H2 ⊢
  generalize toldS r v = x at H2 ⊢
  clear h
  go_enter Tryd.func72, Tryd.ntmps72
  go_wp2_with (first
    | (go_at_call 98; refine (H1.out).mono ?_; rintro e1 w1 ⟨rfl, hf1⟩)
    | (go_at_call 99; refine (H2.out _).mono ?_; intro e2 w2 h2; have h3 := ToldPost.later hf1 h2; clear h2; obtain ⟨L, rfl, hr, hf⟩ := h3))
  go_ret3
  exact ⟨L, rfl, hr, hf⟩

/-- Where an event's slices lie. -/
structure EvP where
  qn : Option Addr
  cn : Nat
  qt : Option Addr
  ct : Nat
def evV (s : EvP) (e : Ev) : Value := .agg #[.int .u8 e.v, .int .u8 e.kind, .slice s.qn e.nums.length s.cn, .slice s.qt e.texts.length s.ct]
structure EvAt (w : World) (s : EvP) (e : Ev) : Prop where
  v8 : e.v ≤ 255
  k8 : e.kind ≤ 255
  nums : SlAt w s.qn (e.nums.map numV)
  texts : SlAt w s.qt (e.texts.map strV)
  nl : e.nums.length ≤ 9223372036854775807
  tl : e.texts.length ≤ 9223372036854775807
  tx : ∀ s, s ∈ e.texts → s.length ≤ 9223372036854775807
  nr : ∀ n, n ∈ e.nums → -9223372036854775808 ≤ n ∧ n ≤ 9223372036854775807
theorem EvAt.fr {w w' : World} {s : EvP} {e : Ev} (h : EvAt w s e) (hf : Fr No w w') : EvAt w' s e := ⟨h.v8, h.k8, h.nums.fr hf, h.texts.fr hf, h.nl, h.tl, h.tx, h.nr⟩

theorem allS_ne {v : Nat} {l : List UInt8} {n : List Int} (h : l.length ≠ n.length) : allS v l n = false := by simp [allS, h]
theorem allS_bad {v : Nat} {l : List UInt8} {n : List Int} {i : Nat} {c : UInt8} {x : Int} (h1 : l[i]? = some c) (h2 : n[i]? = some x) (hf : fitsS v c.toNat x = false) : allS v l n = false := by
  unfold allS
  rw [Bool.and_eq_false_iff]
  right
  rw [List.all_eq_false]
  have : (l.zip n)[i]? = some (c, x) := by rw [List.getElem?_zip_eq_some]; exact ⟨h1, h2⟩
  exact ⟨(c, x), List.mem_of_getElem? this, by simp [hf]⟩
theorem allS_good {v : Nat} {l : List UInt8} {n : List Int} (h : l.length = n.length) (hf : ∀ (i : Nat) (c : UInt8) (x : Int), l[i]? = some c → n[i]? = some x → fitsS v c.toNat x = true) : allS v l n = true := by
  unfold allS
  simp only [h, decide_true, Bool.true_and, List.all_eq_true]
  intro p hp
  obtain ⟨i, hi⟩ := List.getElem?_of_mem hp
  obtain ⟨c, x⟩ := p
  rw [List.getElem?_zip_eq_some] at hi
  exact hf i c x hi.1 hi.2

set_option maxHeartbeats 1000000 in
theorem all_any (v : Nat) (l : List UInt8) (n : List Int) (ql : Option Addr) (cl : Nat) (qn : Option Addr) (cn : Nat) (w : World) (hl : l.length ≤ 1000) (_hn : n.length ≤ 9223372036854775807)
    (h1 : SlAt w ql (l.map clsV)) (h2 : SlAt w qn (n.map numV)) :
    Calls Tryd.prog 73 #[.int .u8 v, .slice ql l.length cl, .slice qn n.length cn] w fun e w' => e = .returned (.bool (allS v l n)) ∧ w = w' := by
  by_cases hne : l.length = n.length
  · have HG := hid (fun (h : ∀ (i : Nat) (c : UInt8) (x : Int), l[i]? = some c → n[i]? = some x → fitsS v c.toNat x = true) => allS_good hne h)
    have HB := hid (fun (i : Nat) (c : UInt8) (x : Int) (a : l[i]? = some c) (b : n[i]? = some x) (hf : fitsS v c.toNat x = false) => allS_bad a b hf)
    have H1 := hid h1
    have H2 := hid h2
    have hd0 : ((l.length : Int) != (n.length : Int)) = false := by simp [hne]
    have HN := hid hne
    generalize allS v l n = A at HG HB ⊢
    clear h1 h2 hne
    go_enter Tryd.func73, Tryd.ntmps73
    go_wp2_with fail
    go_loop [16] (fun c => ∃ i : Nat, i ≤ l.length ∧ c = .int .i64 i ∧ Hid (∀ (j : Nat) (c : UInt8) (x : Int), j < i → l[j]? = some c → n[j]? = some x → fitsS v c.toNat x = true)) (fun c => l.length - (intOf c).toNat)
    case atStart => exact ⟨0, Nat.zero_le _, rfl, hid (fun j _ _ h => absurd h (Nat.not_lt_zero _))⟩
    case round =>
      obtain ⟨i, hi, rfl, HA⟩ := hrel
      by_cases hlt : i < l.length
      · have hd : decide ((i : Int) < (l.length : Int)) = true := by simp; omega
        obtain ⟨c, hc⟩ : ∃ c, l[i]? = some c := ⟨_, List.getElem?_eq_getElem hlt⟩
        obtain ⟨x, hx⟩ : ∃ x, n[i]? = some x := ⟨_, List.getElem?_eq_getElem (by have := HN.out; omega)⟩
        obtain ⟨b1, o1, rfl, hc1⟩ := H1.out i (clsV c) (by simp [hc])
        obtain ⟨b2, o2, rfl, hc2⟩ := H2.out i (numV x) (by simp [hx])
        unfold clsV at hc1
        unfold numV at hc2
        have HF := hid (fits_any v c.toNat x w)
        have hdn : decide ((i : Int) < (n.length : Int)) = true := by have := HN.out; simp; omega
        have hin : (i : Int) < (n.length : Int) := by have := HN.out; omega
        have HC := hid (And.intro hc hx)
        clear hc hx H1 H2
        cases hb : fitsS v c.toNat x with
        | false =>
          have HBB := hid hb
          rw [hb] at HF
          clear hb
          go_wp2_with (first | (go_at_call 100; refine HF.out.mono ?_; rintro e1 w1 ⟨rfl, rfl⟩))
          go_ret
          exact ⟨congrArg (fun z => Ending.returned (.bool z)) (HB.out i c x HC.out.1 HC.out.2 HBB.out).symm, rfl⟩
        | true =>
          have HBB := hid hb
          rw [hb] at HF
          clear hb
          go_wp2_with (first | (go_at_call 100; refine HF.out.mono ?_; rintro e1 w1 ⟨rfl, rfl⟩))
          go_round
          case rel =>
            refine ⟨i + 1, by omega, by go_num, hid ?_⟩
            intro j c' x' hj a b
            by_cases hji : j = i
            · subst hji
              obtain ⟨e1, e2⟩ := HC.out
              rw [e1] at a
              rw [e2] at b
              cases a; cases b
              exact HBB.out
            · exact HA.out j c' x' (by omega) a b
          case measure => simp [intOf]; omega
      · have hd : decide ((i : Int) < (l.length : Int)) = false := by simp; omega
        go_wp2_with fail
        go_ret
        exact ⟨congrArg (fun z => Ending.returned (.bool z)) (HG.out (fun j c x a b => HA.out j c x (by have := (List.getElem?_eq_some_iff.1 a).1; omega) a b)).symm, rfl⟩
  · have e : allS v l n = false := allS_ne hne
    have hd0 : ((l.length : Int) != (n.length : Int)) = true := by simp; omega
    rw [e]
    clear e hne h1 h2
    go_enter Tryd.func73, Tryd.ntmps73
    go_wp2_with fail
    go_ret
    exact ⟨rfl, rfl⟩

theorem Res.at' {B : Nat} {w : World} {t : TypeId} {v : Value} {xs : List Value} (h : Res B w t v xs) : ∃ q cap, v = .slice q xs.length cap ∧ SlAt w q xs := by
  obtain ⟨q, cap, rfl⟩ := h.shape
  exact ⟨q, cap, rfl, h.at_⟩

theorem mayS_cases (e : Ev) (l : List UInt8) (t i : Bool) (h : fieldsS e.v e.kind = (l, t, i)) :
    mayS e = (i && (allS e.v l e.nums && (if t then oneName e.texts else e.texts.isEmpty))) := by
  unfold mayS; rw [h]

set_option maxHeartbeats 2000000 in
set_option maxRecDepth 100000 in
theorem may_any (s : EvP) (e : Ev) (w : World) (he : EvAt w s e) (hk : KT w) :
    Calls Tryd.prog 44 #[evV s e] w fun en w' => en = .returned (.bool (mayS e)) ∧ Fr No w w' := by
  obtain ⟨qn, cn, qt, ct⟩ := s
  obtain ⟨v, k, ns, ts⟩ := e
  obtain ⟨h1, h2, h3, h4, h5, h6, h7, h8⟩ := he
  simp only at h1 h2 h3 h4 h5 h6 h7
  have H1 := hid (fun w1 (hf : Fr No w w1) => fields_any v k w1 h1 h2 (hk.fr hf))
  have hm := mayS_cases ⟨v, k, ns, ts⟩
  have hlen := fieldsS_length v k
  simp only at hm
  generalize fieldsS v k = x at H1 hm hlen
  obtain ⟨l, t, i⟩ := x
  rw [hm l t i rfl]
  clear hm h8
  simp only at hlen
  have H2 := hid (fun w1 (hf : Fr No w w1) q cap (ha : SlAt w1 q (l.map clsV)) => all_any v l ns q cap qn cn w1 (by omega) h5 ha (h3.fr hf))
  generalize allS v l ns = A at H2 ⊢
  unfold evV
  simp only
  have HF0 : Hid (∀ w', Fr No (w.alloc (.cells #[.int .u8 v, .int .u8 k, .slice qn ns.length cn, .slice qt ts.length ct] 34)) w' → Fr No w w') := hid (fun w' h => ((Fr.refl w).alloc _).trans h)
  generalize hW : w.alloc (.cells #[.int .u8 v, .int .u8 k, .slice qn ns.length cn, .slice qt ts.length ct] 34) = W at HF0
  have g : W.heap[w.heap.size]? = some (.cells #[.int .u8 v, .int .u8 k, .slice qn ns.length cn, .slice qt ts.length ct] 34 (0, 0)) := by subst hW; exact Go.heap_alloc_new _ _
  have hcell : ∀ w1, Fr No W w1 → ∀ j, w1.cell? ⟨w.heap.size, j, none⟩ = (#[Value.int .u8 v, .int .u8 k, .slice qn ns.length cn, .slice qt ts.length ct] : Array Value)[j]? := fun w1 hf j => cell_of_row w1 _ j _ _ (0, 0) (hf.heap0 g)
  subst hW
  have HC := hid hcell
  clear hcell g h1 h2
  have HT := hid (And.intro h4 (And.intro h6 h7))
  clear h3 h4 h6 h7 hk
  cases i
  · rw [Bool.false_and]
    go_enter Tryd.func44, Tryd.ntmps44
    go_wp2_with (first
      | (go_at_call 72; refine (H1.out _ ((Fr.refl _).alloc _)).mono ?_; intro e2 w2 h2; obtain ⟨L, rfl, hr, hf⟩ := h2; obtain ⟨q, cap, rfl, hs⟩ := hr.at'; simp only [List.length_map] at *))
    go_ret
    exact ⟨rfl, HF0.out _ hf⟩
  · cases A
    · rw [Bool.true_and, Bool.false_and]
      go_enter Tryd.func44, Tryd.ntmps44
      go_wp2_with (first
        | (go_at_call 72; refine (H1.out _ ((Fr.refl _).alloc _)).mono ?_; intro e2 w2 h2; obtain ⟨L, rfl, hr, hf⟩ := h2; obtain ⟨q, cap, rfl, hs⟩ := hr.at'; simp only [List.length_map] at *
           have d0 := HC.out _ hf 0
           have d1 := HC.out _ hf 2
           simp only [List.getElem?_toArray, List.getElem?_cons_zero, List.getElem?_cons_succ] at d0 d1)
        | (go_at_call 73; refine (H2.out _ (HF0.out _ hf) q cap hs).mono ?_; rintro e3 w3 ⟨rfl, rfl⟩))
      go_ret
      exact ⟨rfl, HF0.out _ hf⟩
    · rw [Bool.true_and, Bool.true_and]
      cases t
      · have hd : ((ts.length : Int) == 0) = ts.isEmpty := by cases ts <;> simp; omega
        have HD := hid hd
        clear hd
        simp only [Bool.false_eq_true, if_false]
        generalize ts.isEmpty = R at HD ⊢
        go_enter Tryd.func44, Tryd.ntmps44
        go_wp2_with (first
          | (go_at_call 72; refine (H1.out _ ((Fr.refl _).alloc _)).mono ?_; intro e2 w2 h2; obtain ⟨L, rfl, hr, hf⟩ := h2; obtain ⟨q, cap, rfl, hs⟩ := hr.at'; simp only [List.length_map] at *
             have d0 := HC.out _ hf 0
             have d1 := HC.out _ hf 2
             have d2 := HC.out _ hf 3
             simp only [List.getElem?_toArray, List.getElem?_cons_zero, List.getElem?_cons_succ] at d0 d1 d2)
          | (go_at_call 73; refine (H2.out _ (HF0.out _ hf) q cap hs).mono ?_; rintro e3 w3 ⟨rfl, rfl⟩))
        go_ret
        exact ⟨congrArg (fun z => Ending.returned (.bool z)) HD.out, HF0.out _ hf⟩
      · simp only [if_true]
        by_cases h1 : ts.length = 1
        · obtain ⟨s0, rfl⟩ : ∃ s0, ts = [s0] := List.length_eq_one_iff.1 h1
          obtain ⟨g1, _, g3⟩ := HT.out
          obtain ⟨b, o, rfl, hc⟩ := g1 0 (strV s0) rfl
          have hc : w.cell? ⟨b, o, none⟩ = some (strV s0) := hc
          simp only [List.length_cons, List.length_nil, Nat.zero_add, oneName] at HC HF0 ⊢
          have HN := hid (fun w1 => mayName_any s0 w1 (g3 s0 (by simp)))
          generalize mayNameS s0 = R at HN ⊢
          unfold strV at HN hc
          have HCC := hid hc
          clear hc g1 g3 HT h1
          go_enter Tryd.func44, Tryd.ntmps44
          go_wp2_with (first
            | (go_at_call 72; refine (H1.out _ ((Fr.refl _).alloc _)).mono ?_; intro e2 w2 h2; obtain ⟨L, rfl, hr, hf⟩ := h2; obtain ⟨q, cap, rfl, hs⟩ := hr.at'; simp only [List.length_map] at *
               have d0 := HC.out _ hf 0
               have d1 := HC.out _ hf 2
               have d2 := HC.out _ hf 3
               have d3 := (HF0.out _ hf).cell0 HCC.out
               simp only [List.getElem?_toArray, List.getElem?_cons_zero, List.getElem?_cons_succ] at d0 d1 d2)
            | (go_at_call 73; refine (H2.out _ (HF0.out _ hf) q cap hs).mono ?_; rintro e3 w3 ⟨rfl, rfl⟩)
            | (go_at_call 74; refine (HN.out _).mono ?_; rintro e4 w4 ⟨rfl, hf4⟩))
          go_ret
          exact ⟨rfl, (HF0.out _ hf).trans hf4⟩
        · have hd : ((ts.length : Int) == 1) = false := by simp; omega
          have hR : oneName ts = false := by
            match ts, h1 with
            | [], _ => rfl
            | [_], h1 => exact absurd rfl h1
            | _ :: _ :: _, _ => rfl
          rw [hR]
          clear hR h1 HT
          go_enter Tryd.func44, Tryd.ntmps44
          go_wp2_with (first
            | (go_at_call 72; refine (H1.out _ ((Fr.refl _).alloc _)).mono ?_; intro e2 w2 h2; obtain ⟨L, rfl, hr, hf⟩ := h2; obtain ⟨q, cap, rfl, hs⟩ := hr.at'; simp only [List.length_map] at *
               have d0 := HC.out _ hf 0
               have d1 := HC.out _ hf 2
               have d2 := HC.out _ hf 3
               simp only [List.getElem?_toArray, List.getElem?_cons_zero, List.getElem?_cons_succ] at d0 d1 d2)
            | (go_at_call 73; refine (H2.out _ (HF0.out _ hf) q cap hs).mono ?_; rintro e3 w3 ⟨rfl, rfl⟩))
          go_ret
          exact ⟨rfl, HF0.out _ hf⟩

theorem allS_iff {v : Nat} {l : List UInt8} {n : List Int} : allS v l n = true ↔ l.length = n.length ∧ ∀ (i : Nat) (c : UInt8) (x : Int), l[i]? = some c → n[i]? = some x → fitsS v c.toNat x = true := by
  constructor
  · intro h
    have hl : l.length = n.length := by
      rcases Nat.decEq l.length n.length with h' | h'
      · rw [allS_ne h'] at h; cases h
      · exact h'
    refine ⟨hl, fun i c x h1 h2 => ?_⟩
    rcases hf : fitsS v c.toNat x with _ | _
    · rw [allS_bad h1 h2 hf] at h; cases h
    · rfl
  · rintro ⟨h1, h2⟩
    exact allS_good h1 h2
/-- What an event that may be has. -/
theorem mayS_parts {e : Ev} {l : List UInt8} {t i : Bool} (h : fieldsS e.v e.kind = (l, t, i)) (hm : mayS e = true) :
    i = true ∧ l.length = e.nums.length ∧ (∀ (j : Nat) (c : UInt8) (x : Int), l[j]? = some c → e.nums[j]? = some x → fitsS e.v c.toNat x = true) ∧ (t = true → ∃ s, e.texts = [s] ∧ mayNameS s = true) ∧ (t = false → e.texts = []) := by
  rw [mayS_cases e l t i h] at hm
  simp only [Bool.and_eq_true] at hm
  obtain ⟨h1, h2, h3⟩ := hm
  obtain ⟨h4, h5⟩ := allS_iff.1 h2
  refine ⟨h1, h4, h5, fun ht => ?_, fun ht => ?_⟩
  · rw [ht, if_pos rfl] at h3
    rcases hx : e.texts with _ | ⟨s, r⟩
    · rw [hx] at h3; cases h3
    · rcases r with _ | ⟨s2, r⟩
      · rw [hx] at h3; exact ⟨s, rfl, h3⟩
      · rw [hx] at h3; cases h3
  · rw [ht] at h3
    simpa using h3
theorem mayS_len {e f : Ev} {l : List UInt8} {t i : Bool} (h : fieldsS e.v e.kind = (l, t, i)) (hv : f.v = e.v) (hk : f.kind = e.kind) (hl : l.length ≠ f.nums.length) : mayS f = false := by
  rw [mayS_cases f l t i (by rw [hv, hk]; exact h), allS_ne hl, Bool.false_and, Bool.and_false]
theorem mayS_text {e f : Ev} {l : List UInt8} {t i : Bool} (h : fieldsS e.v e.kind = (l, t, i)) (hv : f.v = e.v) (hk : f.kind = e.kind) (hx : (if t then oneName f.texts else f.texts.isEmpty) = false) : mayS f = false := by
  rw [mayS_cases f l t i (by rw [hv, hk]; exact h), hx, Bool.and_false, Bool.and_false]
/-- Another number in the place of one. -/
theorem mayS_set {e f : Ev} {l : List UInt8} {t i : Bool} (h : fieldsS e.v e.kind = (l, t, i)) (hm : mayS e = true) {k : Nat} {c : UInt8} {n : Int} (hc : l[k]? = some c)
    (hf : f = { e with nums := e.nums.set k n }) : mayS f = fitsS e.v c.toNat n := by
  subst hf
  have h0 := hm
  rw [mayS_cases e l t i h] at h0
  simp only [Bool.and_eq_true] at h0
  obtain ⟨h1, h2, h3⟩ := h0
  obtain ⟨h4, h5⟩ := allS_iff.1 h2
  have e1 : mayS { e with nums := e.nums.set k n } = (i && (allS e.v l (e.nums.set k n) && (if t then oneName e.texts else e.texts.isEmpty))) := mayS_cases { e with nums := e.nums.set k n } l t i h
  rw [e1, h1, h3, Bool.true_and, Bool.and_true]
  have hkl := (List.getElem?_eq_some_iff.1 hc).1
  rcases hf : fitsS e.v c.toNat n with _ | _
  · exact allS_bad (i := k) hc (by rw [List.getElem?_set_self (by omega)]) hf
  · refine allS_good (by simpa using h4) fun j c' x a b => ?_
    by_cases hj : j = k
    · subst hj
      rw [hc] at a
      cases a
      rw [List.getElem?_set_self (by omega)] at b
      cases b
      exact hf
    · rw [List.getElem?_set_ne (by omega)] at b
      exact h5 j c' x a b
end Go.Proofs.YtnmfmedoocnofaaDoor
