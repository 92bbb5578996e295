/-
  told: what a row has in a version: the walks.
-/
import Derived.Test.YtgjabbhgmecbbaaDoorTold
import Derived.BigQuiet
namespace Go.Proofs.YtgjabbhgmecbbaaDoor
open Go.RowKit

theorem infoCls : (Tryd.prog.info? 71).map (fun i => (i.zero, i.size, i.bytes)) = some (some (.int .u8 0), 1, 1) := by kernel_rfl
def ToldPost (w : World) (x : List UInt8 × Bool × Bool) (e : Ending) (w' : World) : Prop :=
  ∃ L, e = .returned (.tuple #[L, .bool x.2.1, .bool x.2.2]) ∧ Res w.heap.size w' 71 L (x.1.map clsV) ∧ Fr No w w'
theorem toldPost_none {w w' : World} (h : Fr No w w') : ToldPost w ([], false, false) (.returned (.tuple #[.slice none 0 0, .bool false, .bool false])) w' := ⟨_, rfl, Res.nil _ _ _, h⟩

structure ToldRel (w : World) (f : List UInt8) (k : Nat) (X : Array Value) (i : Nat) (v : Value) (wr : World) : Prop where
  le : i ≤ f.length
  own : Own wr 71 1 v i ((f.take i).map clsV)
  new : ∀ b, v.ownBlock = some b → w.heap.size < b
  it : wr.heap[k]? = some (.stringIter ⟨f.toArray⟩ i)
  box : wr.heap[w.heap.size]? = some (.cells X 76 (0, 0))
  fr : Fr No w wr
  lk : w.heap.size < k
theorem told_step {w wr w1 : World} {f : List UInt8} {k i : Nat} {X : Array Value} {v v' : Value} {c : UInt8} (h : ToldRel w f k X i v wr) (hc : f[i]? = some c)
    (ho : Own w1 71 1 v' (i + 1) ((f.take i).map clsV ++ [clsV c]))
    (hf : Fr (OnlyS v.ownBlock) ((setIt wr k ⟨f.toArray⟩ (i + 1)).alloc (.cells #[clsV c] 71)) w1)
    (hn : v'.ownBlock = v.ownBlock ∨ v'.ownBlock = some (wr.heap.size + 1)) : ToldRel w f k X (i + 1) v' w1 := by
  obtain ⟨hlt, hce⟩ := List.getElem?_eq_some_iff.1 hc
  have hk := lt_of_block h.it
  have hz := h.fr.size
  have hkv : v.ownBlock ≠ some k := by
    intro e
    rcases h.own.2 with ⟨rfl, _⟩ | ⟨g, cap, cur, rfl, _, hg, _⟩
    · cases e
    · have : g = k := by simpa [Value.ownBlock] using e
      subst this
      rw [h.it] at hg
      simp at hg
  have hbox0 := lt_of_block h.box
  have hbv : v.ownBlock ≠ some w.heap.size := fun e => by have := h.new _ e; omega
  have hs : (setIt wr k ⟨f.toArray⟩ (i + 1)).heap.size = wr.heap.size := by simp [setIt]
  have hF : Fr No w ((setIt wr k ⟨f.toArray⟩ (i + 1)).alloc (.cells #[clsV c] 71)) := (h.fr.setItNew (Nat.le_of_lt h.lk) _ _).alloc _
  refine ⟨by omega, ?_, ?_, ?_, ?_, hF.newOnlyS (fun g hg => by have := h.new g hg; omega) hf, h.lk⟩
  · have e : (f.take (i + 1)).map clsV = (f.take i).map clsV ++ [clsV c] := by
      rw [List.take_succ_eq_append_getElem hlt, hce]; simp
    rw [e]; exact ho
  · intro b hb
    rcases hn with hn | hn
    · exact h.new b (hn ▸ hb)
    · rw [hn] at hb
      have : wr.heap.size + 1 = b := by simpa using hb
      omega
  · refine hf.heap ?_ hkv
    rw [Below.heap_alloc _ _ _ (by rw [hs]; exact hk)]
    exact setIt_heap h.it
  · refine hf.heap ?_ hbv
    rw [Below.heap_alloc _ _ _ (by rw [hs]; exact hbox0)]
    have hne : w.heap.size ≠ k := by have := h.lk; omega
    simp only [setIt, Array.getElem?_setIfInBounds]
    rw [if_neg (fun e => hne e.symm)]
    exact h.box

theorem told_start (w : World) (f : List UInt8) (X : Array Value) : ToldRel w f (w.heap.size + 1) X 0 (.slice none 0 0) (World.iter (w.alloc (.cells X 76)) ⟨f.toArray⟩ 0) := by
  refine ⟨Nat.zero_le _, Own.nil _ _ _, fun _ h => (by cases h), ?_, ?_, (((Fr.refl w).alloc _).alloc _), Nat.lt_succ_self _⟩
  · have := World.iter_heap (w.alloc (.cells X 76)) ⟨f.toArray⟩ 0
    simpa using this
  · show (World.alloc (w.alloc _) _).heap[w.heap.size]? = _
    rw [Below.heap_alloc _ _ _ (by simp)]
    exact Go.heap_alloc_new _ _
theorem told_own {w wr : World} {f : List UInt8} {k i : Nat} {X : Array Value} {v : Value} (h : ToldRel w f k X i v wr) (p : Nat) : Own (setIt wr k ⟨f.toArray⟩ p) 71 1 v i ((f.take i).map clsV) :=
  h.own.fr (Fr.setItOnly wr k _ _) fun b hb e => by
    have e : b = k := e
    subst e
    rcases h.own.2 with ⟨rfl, _⟩ | ⟨g, cap, cur, rfl, _, hg, _⟩
    · cases hb
    · have : g = b := by simpa [Value.ownBlock] using hb
      subst this
      have := h.it
      rw [hg] at this
      simp at this
theorem told_next {P : Program} {wr : World} {f : List UInt8} {k i : Nat} {c : UInt8} (h : wr.heap[k]? = some (.stringIter ⟨f.toArray⟩ i)) (hc : f[i]? = some c) (ha : c.toNat < 128) :
    ∀ ty, (Instr.next (.pointer (some ⟨k, 0, none⟩)) true ty).run P wr = .ok (.tuple #[.bool true, .int .i64 i, .int .i32 (c.toNat : Int)]) (setIt wr k ⟨f.toArray⟩ (i + 1)) := by
  intro ty
  obtain ⟨hlt, rfl⟩ := List.getElem?_eq_some_iff.1 hc
  exact run_next_at (P := P) (s := ⟨f.toArray⟩) h ty (by show i < f.length; exact hlt) ha
theorem told_out (r : RowT) (v : Nat) (w : World) (hv : v = 0 ∨ 3 < v) (h8 : v ≤ 255) :
    Calls Tryd.prog 49 #[rowA r, .int .u8 v] w (ToldPost w ([], false, false)) := by
  unfold rowA strV
  rcases hv with rfl | hv
  · go_enter Tryd.func49, Tryd.ntmps49
    go_wp2
    go_ret3
    exact toldPost_none ((Fr.refl w).alloc _)
  · have h1 : decide ((v : Int) < 1) = false := by simp; omega
    have h2 : decide ((3 : Int) < (v : Int)) = true := by simp; omega
    go_enter Tryd.func49, Tryd.ntmps49
    go_wp2
    go_ret3
    exact toldPost_none ((Fr.refl w).alloc _)

set_option maxHeartbeats 1000000 in
theorem told_good1 (n f1 f2 f3 : List UInt8) (t : Bool) (w : World) (HG : Hid (∀ (i : Nat) (c : UInt8), f1[i]? = some c → c.toNat < 128 ∧ c.toNat ≠ 32)) (HL : Hid (f1.length ≤ 1000)) :
    Calls Tryd.prog 49 #[.agg #[strV n, strV f1, strV f2, strV f3, .bool t], .int .u8 1] w (ToldPost w (f1, t, true)) := by
  obtain ⟨i0, hi, hz0, hz1, hz2⟩ := info_parts infoCls
  unfold strV
  go_enter Tryd.func49, Tryd.ntmps49
  go_wp2_with fail
  have HR : ToldRel w f1 (w.heap.size + 1) #[.string ⟨n.toArray⟩, .string ⟨f1.toArray⟩, .string ⟨f2.toArray⟩, .string ⟨f3.toArray⟩, .bool t] 0 (.slice none 0 0) (World.iter (w.alloc (.cells #[.string ⟨n.toArray⟩, .string ⟨f1.toArray⟩, .string ⟨f2.toArray⟩, .string ⟨f3.toArray⟩, .bool t] 76)) ⟨f1.toArray⟩ 0) := told_start w f1 _
  generalize w.heap.size + 1 = k at HR ⊢
  generalize hX : #[Value.string ⟨n.toArray⟩, .string ⟨f1.toArray⟩, .string ⟨f2.toArray⟩, .string ⟨f3.toArray⟩, .bool t] = X at HR ⊢
  go_loopw [4] (fun l wr => ∃ i : Nat, ToldRel w f1 k X i l wr) (fun _ wr => f1.length - wr.iterPos k)
  case atStart => exact ⟨0, HR⟩
  case round =>
    clear HR
    obtain ⟨i, hR⟩ := hrel
    have hit := iterPos_of hR.it
    by_cases hlt : i < f1.length
    · obtain ⟨c, hc⟩ : ∃ c, f1[i]? = some c := ⟨_, List.getElem?_eq_getElem hlt⟩
      obtain ⟨hg1, hg2⟩ := HG.out i c hc
      have hnx := told_next (P := Tryd.prog) hR.it hc hg1
      have c1 : ((c.toNat : Int) == 32) = false := by simp; omega
      have c2 : (0 : Int) ≤ (c.toNat : Int) := by omega
      have c3 : (c.toNat : Int) ≤ 127 := by omega
      have cw : IntKind.u8.wrap (c.toNat : Int) = (c.toNat : Int) := IntWalk.u8_in _ (by omega)
      have hown : Own ((setIt wr k ⟨f1.toArray⟩ (i + 1)).alloc (.cells #[.int .u8 (c.toNat : Int)] 71)) 71 1 u4 i ((f1.take i).map clsV) := World.ownsRow.alloc (told_own hR (i + 1)) _
      have hil : i ≤ 1000 := by have := HL.out; omega
      have HH := hid hR
      have HC := hid hc
      have hlk := lt_of_block hR.it
      clear hR hc hg1 hg2 hlt
      go_wp2_with (at_builtin; refine wpList_append_fr _ rfl _ _ 60 rfl 71 i0 (.int .u8 0) 1 1 Tryd.underlying60 hi hz0 hz1 hz2 rfl (by decide) _ _ _ rfl hown ⟨(setIt wr k ⟨f1.toArray⟩ (i + 1)).heap.size, 0, none⟩ _ _ [clsV c] rfl rfl ?c1 ?c2 ?c3 ?c4 ?_)
      case c1 => exact cells_new _ [clsV c] _
      case c2 => intro u hu; simp at hu; subst hu; rfl
      case c3 => unfold maxLen; omega
      case c4 => omega
      intro v' w1 ho hf hn
      have HN := hid (told_step HH.out HC.out (by rw [List.map_take]; exact ho) hf (by simpa [setIt] using hn))
      obtain ⟨a1, cp, rfl⟩ := Own.shape ho
      clear ho hf hn hown cw
      go_wp2_with fail
      go_roundw
      case rel => exact ⟨i + 1, HN.out⟩
      case measure =>
        have hle := HN.out.le
        rw [iterPos_of HN.out.it, iterPos_of HH.out.it]
        omega
    · have hnx := fun ty => run_next_at_end (P := Tryd.prog) hR.it ty (show ¬ i < f1.length from hlt)
      have hle := hR.le
      obtain rfl : i = f1.length := by omega
      have hbox := hR.box
      rw [← hX] at hbox
      have hc4 : wr.cell? ⟨w.heap.size, 4, none⟩ = some (.bool t) := by
        rw [cell_of_row wr w.heap.size 4 _ _ (0, 0) hbox]; rfl
      have ho := hR.own
      rw [List.take_length] at ho
      obtain ⟨a1, cp, rfl⟩ := Own.shape ho
      have HE : Hid (∀ nq, ToldPost w (f1, t, true) (.returned (.tuple #[.slice a1 f1.length cp, .bool t, .bool true])) (wr.drewN nq)) :=
        hid (fun nq => ⟨_, rfl, ⟨by simpa using ho.fr ((Fr.refl (X := No) wr).drewN nq) (fun _ _ => id), fun b hb => Nat.le_of_lt (hR.new b hb)⟩, hR.fr.drewN nq⟩)
      clear hR ho hbox hit
      go_wp2_with fail
      go_quiet (fail)
      go_wp2_with fail
      go_ret3
      exact HE.out _

set_option maxHeartbeats 1000000 in
theorem told_blank1 (n f1 f2 f3 : List UInt8) (t : Bool) (w : World) (hb : f1 = [32]) :
    Calls Tryd.prog 49 #[.agg #[strV n, strV f1, strV f2, strV f3, .bool t], .int .u8 1] w (ToldPost w ([], false, false)) := by
  have HB := hid hb
  clear hb
  unfold strV
  go_enter Tryd.func49, Tryd.ntmps49
  go_wp2_with fail
  have HR : ToldRel w f1 (w.heap.size + 1) #[.string ⟨n.toArray⟩, .string ⟨f1.toArray⟩, .string ⟨f2.toArray⟩, .string ⟨f3.toArray⟩, .bool t] 0 (.slice none 0 0) (World.iter (w.alloc (.cells #[.string ⟨n.toArray⟩, .string ⟨f1.toArray⟩, .string ⟨f2.toArray⟩, .string ⟨f3.toArray⟩, .bool t] 76)) ⟨f1.toArray⟩ 0) := told_start w f1 _
  generalize w.heap.size + 1 = k at HR ⊢
  generalize hX : #[Value.string ⟨n.toArray⟩, .string ⟨f1.toArray⟩, .string ⟨f2.toArray⟩, .string ⟨f3.toArray⟩, .bool t] = X at HR ⊢
  go_loopw [4] (fun l wr => ToldRel w f1 k X 0 l wr) (fun _ wr => f1.length - wr.iterPos k)
  case atStart => exact HR
  case round =>
    clear HR
    have hit := iterPos_of hrel.it
    have hnx := told_next (P := Tryd.prog) hrel.it (c := 32) (by rw [HB.out]; rfl) (by decide)
    have HE : Hid (ToldPost w ([], false, false) (.returned (.tuple #[.slice none 0 0, .bool false, .bool false])) (setIt wr k ⟨f1.toArray⟩ (0 + 1))) :=
      hid (toldPost_none (hrel.fr.setItNew (Nat.le_of_lt hrel.lk) _ _))
    clear hrel hit
    go_wp2_with fail
    go_ret3
    exact HE.out

set_option maxHeartbeats 1000000 in
theorem told_good2 (n f1 f2 f3 : List UInt8) (t : Bool) (w : World) (HG : Hid (∀ (i : Nat) (c : UInt8), f2[i]? = some c → c.toNat < 128 ∧ c.toNat ≠ 32)) (HL : Hid (f2.length ≤ 1000)) :
    Calls Tryd.prog 49 #[.agg #[strV n, strV f1, strV f2, strV f3, .bool t], .int .u8 2] w (ToldPost w (f2, t, true)) := by
  obtain ⟨i0, hi, hz0, hz1, hz2⟩ := info_parts infoCls
  unfold strV
  go_enter Tryd.func49, Tryd.ntmps49
  go_wp2_with fail
  have HR : ToldRel w f2 (w.heap.size + 1) #[.string ⟨n.toArray⟩, .string ⟨f1.toArray⟩, .string ⟨f2.toArray⟩, .string ⟨f3.toArray⟩, .bool t] 0 (.slice none 0 0) (World.iter (w.alloc (.cells #[.string ⟨n.toArray⟩, .string ⟨f1.toArray⟩, .string ⟨f2.toArray⟩, .string ⟨f3.toArray⟩, .bool t] 76)) ⟨f2.toArray⟩ 0) := told_start w f2 _
  generalize w.heap.size + 1 = k at HR ⊢
  generalize hX : #[Value.string ⟨n.toArray⟩, .string ⟨f1.toArray⟩, .string ⟨f2.toArray⟩, .string ⟨f3.toArray⟩, .bool t] = X at HR ⊢
  go_loopw [4] (fun l wr => ∃ i : Nat, ToldRel w f2 k X i l wr) (fun _ wr => f2.length - wr.iterPos k)
  case atStart => exact ⟨0, HR⟩
  case round =>
    clear HR
    obtain ⟨i, hR⟩ := hrel
    have hit := iterPos_of hR.it
    by_cases hlt : i < f2.length
    · obtain ⟨c, hc⟩ : ∃ c, f2[i]? = some c := ⟨_, List.getElem?_eq_getElem hlt⟩
      obtain ⟨hg1, hg2⟩ := HG.out i c hc
      have hnx := told_next (P := Tryd.prog) hR.it hc hg1
      have c1 : ((c.toNat : Int) == 32) = false := by simp; omega
      have c2 : (0 : Int) ≤ (c.toNat : Int) := by omega
      have c3 : (c.toNat : Int) ≤ 127 := by omega
      have cw : IntKind.u8.wrap (c.toNat : Int) = (c.toNat : Int) := IntWalk.u8_in _ (by omega)
      have hown : Own ((setIt wr k ⟨f2.toArray⟩ (i + 1)).alloc (.cells #[.int .u8 (c.toNat : Int)] 71)) 71 1 u4 i ((f2.take i).map clsV) := World.ownsRow.alloc (told_own hR (i + 1)) _
      have hil : i ≤ 1000 := by have := HL.out; omega
      have HH := hid hR
      have HC := hid hc
      have hlk := lt_of_block hR.it
      clear hR hc hg1 hg2 hlt
      go_wp2_with (at_builtin; refine wpList_append_fr _ rfl _ _ 60 rfl 71 i0 (.int .u8 0) 1 1 Tryd.underlying60 hi hz0 hz1 hz2 rfl (by decide) _ _ _ rfl hown ⟨(setIt wr k ⟨f2.toArray⟩ (i + 1)).heap.size, 0, none⟩ _ _ [clsV c] rfl rfl ?c1 ?c2 ?c3 ?c4 ?_)
      case c1 => exact cells_new _ [clsV c] _
      case c2 => intro u hu; simp at hu; subst hu; rfl
      case c3 => unfold maxLen; omega
      case c4 => omega
      intro v' w1 ho hf hn
      have HN := hid (told_step HH.out HC.out (by rw [List.map_take]; exact ho) hf (by simpa [setIt] using hn))
      obtain ⟨a1, cp, rfl⟩ := Own.shape ho
      clear ho hf hn hown cw
      go_wp2_with fail
      go_roundw
      case rel => exact ⟨i + 1, HN.out⟩
      case measure =>
        have hle := HN.out.le
        rw [iterPos_of HN.out.it, iterPos_of HH.out.it]
        omega
    · have hnx := fun ty => run_next_at_end (P := Tryd.prog) hR.it ty (show ¬ i < f2.length from hlt)
      have hle := hR.le
      obtain rfl : i = f2.length := by omega
      have hbox := hR.box
      rw [← hX] at hbox
      have hc4 : wr.cell? ⟨w.heap.size, 4, none⟩ = some (.bool t) := by
        rw [cell_of_row wr w.heap.size 4 _ _ (0, 0) hbox]; rfl
      have ho := hR.own
      rw [List.take_length] at ho
      obtain ⟨a1, cp, rfl⟩ := Own.shape ho
      have HE : Hid (∀ nq, ToldPost w (f2, t, true) (.returned (.tuple #[.slice a1 f2.length cp, .bool t, .bool true])) (wr.drewN nq)) :=
        hid (fun nq => ⟨_, rfl, ⟨by simpa using ho.fr ((Fr.refl (X := No) wr).drewN nq) (fun _ _ => id), fun b hb => Nat.le_of_lt (hR.new b hb)⟩, hR.fr.drewN nq⟩)
      clear hR ho hbox hit
      go_wp2_with fail
      go_quiet (fail)
      go_wp2_with fail
      go_ret3
      exact HE.out _

set_option maxHeartbeats 1000000 in
theorem told_blank2 (n f1 f2 f3 : List UInt8) (t : Bool) (w : World) (hb : f2 = [32]) :
    Calls Tryd.prog 49 #[.agg #[strV n, strV f1, strV f2, strV f3, .bool t], .int .u8 2] w (ToldPost w ([], false, false)) := by
  have HB := hid hb
  clear hb
  unfold strV
  go_enter Tryd.func49, Tryd.ntmps49
  go_wp2_with fail
  have HR : ToldRel w f2 (w.heap.size + 1) #[.string ⟨n.toArray⟩, .string ⟨f1.toArray⟩, .string ⟨f2.toArray⟩, .string ⟨f3.toArray⟩, .bool t] 0 (.slice none 0 0) (World.iter (w.alloc (.cells #[.string ⟨n.toArray⟩, .string ⟨f1.toArray⟩, .string ⟨f2.toArray⟩, .string ⟨f3.toArray⟩, .bool t] 76)) ⟨f2.toArray⟩ 0) := told_start w f2 _
  generalize w.heap.size + 1 = k at HR ⊢
  generalize hX : #[Value.string ⟨n.toArray⟩, .string ⟨f1.toArray⟩, .string ⟨f2.toArray⟩, .string ⟨f3.toArray⟩, .bool t] = X at HR ⊢
  go_loopw [4] (fun l wr => ToldRel w f2 k X 0 l wr) (fun _ wr => f2.length - wr.iterPos k)
  case atStart => exact HR
  case round =>
    clear HR
    have hit := iterPos_of hrel.it
    have hnx := told_next (P := Tryd.prog) hrel.it (c := 32) (by rw [HB.out]; rfl) (by decide)
    have HE : Hid (ToldPost w ([], false, false) (.returned (.tuple #[.slice none 0 0, .bool false, .bool false])) (setIt wr k ⟨f2.toArray⟩ (0 + 1))) :=
      hid (toldPost_none (hrel.fr.setItNew (Nat.le_of_lt hrel.lk) _ _))
    clear hrel hit
    go_wp2_with fail
    go_ret3
    exact HE.out

set_option maxHeartbeats 1000000 in
theorem told_good3 (n f1 f2 f3 : List UInt8) (t : Bool) (w : World) (HG : Hid (∀ (i : Nat) (c : UInt8), f3[i]? = some c → c.toNat < 128 ∧ c.toNat ≠ 32)) (HL : Hid (f3.length ≤ 1000)) :
    Calls Tryd.prog 49 #[.agg #[strV n, strV f1, strV f2, strV f3, .bool t], .int .u8 3] w (ToldPost w (f3, t, true)) := by
  obtain ⟨i0, hi, hz0, hz1, hz2⟩ := info_parts infoCls
  unfold strV
  go_enter Tryd.func49, Tryd.ntmps49
  go_wp2_with fail
  have HR : ToldRel w f3 (w.heap.size + 1) #[.string ⟨n.toArray⟩, .string ⟨f1.toArray⟩, .string ⟨f2.toArray⟩, .string ⟨f3.toArray⟩, .bool t] 0 (.slice none 0 0) (World.iter (w.alloc (.cells #[.string ⟨n.toArray⟩, .string ⟨f1.toArray⟩, .string ⟨f2.toArray⟩, .string ⟨f3.toArray⟩, .bool t] 76)) ⟨f3.toArray⟩ 0) := told_start w f3 _
  generalize w.heap.size + 1 = k at HR ⊢
  generalize hX : #[Value.string ⟨n.toArray⟩, .string ⟨f1.toArray⟩, .string ⟨f2.toArray⟩, .string ⟨f3.toArray⟩, .bool t] = X at HR ⊢
  go_loopw [4] (fun l wr => ∃ i : Nat, ToldRel w f3 k X i l wr) (fun _ wr => f3.length - wr.iterPos k)
  case atStart => exact ⟨0, HR⟩
  case round =>
    clear HR
    obtain ⟨i, hR⟩ := hrel
    have hit := iterPos_of hR.it
    by_cases hlt : i < f3.length
    · obtain ⟨c, hc⟩ : ∃ c, f3[i]? = some c := ⟨_, List.getElem?_eq_getElem hlt⟩
      obtain ⟨hg1, hg2⟩ := HG.out i c hc
      have hnx := told_next (P := Tryd.prog) hR.it hc hg1
      have c1 : ((c.toNat : Int) == 32) = false := by simp; omega
      have c2 : (0 : Int) ≤ (c.toNat : Int) := by omega
      have c3 : (c.toNat : Int) ≤ 127 := by omega
      have cw : IntKind.u8.wrap (c.toNat : Int) = (c.toNat : Int) := IntWalk.u8_in _ (by omega)
      have hown : Own ((setIt wr k ⟨f3.toArray⟩ (i + 1)).alloc (.cells #[.int .u8 (c.toNat : Int)] 71)) 71 1 u4 i ((f3.take i).map clsV) := World.ownsRow.alloc (told_own hR (i + 1)) _
      have hil : i ≤ 1000 := by have := HL.out; omega
      have HH := hid hR
      have HC := hid hc
      have hlk := lt_of_block hR.it
      clear hR hc hg1 hg2 hlt
      go_wp2_with (at_builtin; refine wpList_append_fr _ rfl _ _ 60 rfl 71 i0 (.int .u8 0) 1 1 Tryd.underlying60 hi hz0 hz1 hz2 rfl (by decide) _ _ _ rfl hown ⟨(setIt wr k ⟨f3.toArray⟩ (i + 1)).heap.size, 0, none⟩ _ _ [clsV c] rfl rfl ?c1 ?c2 ?c3 ?c4 ?_)
      case c1 => exact cells_new _ [clsV c] _
      case c2 => intro u hu; simp at hu; subst hu; rfl
      case c3 => unfold maxLen; omega
      case c4 => omega
      intro v' w1 ho hf hn
      have HN := hid (told_step HH.out HC.out (by rw [List.map_take]; exact ho) hf (by simpa [setIt] using hn))
      obtain ⟨a1, cp, rfl⟩ := Own.shape ho
      clear ho hf hn hown cw
      go_wp2_with fail
      go_roundw
      case rel => exact ⟨i + 1, HN.out⟩
      case measure =>
        have hle := HN.out.le
        rw [iterPos_of HN.out.it, iterPos_of HH.out.it]
        omega
    · have hnx := fun ty => run_next_at_end (P := Tryd.prog) hR.it ty (show ¬ i < f3.length from hlt)
      have hle := hR.le
      obtain rfl : i = f3.length := by omega
      have hbox := hR.box
      rw [← hX] at hbox
      have hc4 : wr.cell? ⟨w.heap.size, 4, none⟩ = some (.bool t) := by
        rw [cell_of_row wr w.heap.size 4 _ _ (0, 0) hbox]; rfl
      have ho := hR.own
      rw [List.take_length] at ho
      obtain ⟨a1, cp, rfl⟩ := Own.shape ho
      have HE : Hid (∀ nq, ToldPost w (f3, t, true) (.returned (.tuple #[.slice a1 f3.length cp, .bool t, .bool true])) (wr.drewN nq)) :=
        hid (fun nq => ⟨_, rfl, ⟨by simpa using ho.fr ((Fr.refl (X := No) wr).drewN nq) (fun _ _ => id), fun b hb => Nat.le_of_lt (hR.new b hb)⟩, hR.fr.drewN nq⟩)
      clear hR ho hbox hit
      go_wp2_with fail
      go_quiet (fail)
      go_wp2_with fail
      go_ret3
      exact HE.out _

set_option maxHeartbeats 1000000 in
theorem told_blank3 (n f1 f2 f3 : List UInt8) (t : Bool) (w : World) (hb : f3 = [32]) :
    Calls Tryd.prog 49 #[.agg #[strV n, strV f1, strV f2, strV f3, .bool t], .int .u8 3] w (ToldPost w ([], false, false)) := by
  have HB := hid hb
  clear hb
  unfold strV
  go_enter Tryd.func49, Tryd.ntmps49
  go_wp2_with fail
  have HR : ToldRel w f3 (w.heap.size + 1) #[.string ⟨n.toArray⟩, .string ⟨f1.toArray⟩, .string ⟨f2.toArray⟩, .string ⟨f3.toArray⟩, .bool t] 0 (.slice none 0 0) (World.iter (w.alloc (.cells #[.string ⟨n.toArray⟩, .string ⟨f1.toArray⟩, .string ⟨f2.toArray⟩, .string ⟨f3.toArray⟩, .bool t] 76)) ⟨f3.toArray⟩ 0) := told_start w f3 _
  generalize w.heap.size + 1 = k at HR ⊢
  generalize hX : #[Value.string ⟨n.toArray⟩, .string ⟨f1.toArray⟩, .string ⟨f2.toArray⟩, .string ⟨f3.toArray⟩, .bool t] = X at HR ⊢
  go_loopw [4] (fun l wr => ToldRel w f3 k X 0 l wr) (fun _ wr => f3.length - wr.iterPos k)
  case atStart => exact HR
  case round =>
    clear HR
    have hit := iterPos_of hrel.it
    have hnx := told_next (P := Tryd.prog) hrel.it (c := 32) (by rw [HB.out]; rfl) (by decide)
    have HE : Hid (ToldPost w ([], false, false) (.returned (.tuple #[.slice none 0 0, .bool false, .bool false])) (setIt wr k ⟨f3.toArray⟩ (0 + 1))) :=
      hid (toldPost_none (hrel.fr.setItNew (Nat.le_of_lt hrel.lk) _ _))
    clear hrel hit
    go_wp2_with fail
    go_ret3
    exact HE.out

theorem told_any (r : RowT) (v : Nat) (w : World) (h8 : v ≤ 255) (hr : RowOk r = true) (hl : (fieldT r v).length ≤ 1000) :
    Calls Tryd.prog 49 #[rowA r, .int .u8 v] w (ToldPost w (toldS r v)) := by
  unfold toldS
  by_cases hv : v = 0 ∨ 3 < v
  · rw [if_pos hv]
    exact told_out r v w hv h8
  · rw [if_neg hv]
    obtain ⟨n, f1, f2, f3, t⟩ := r
    by_cases hb : fieldT ⟨n, f1, f2, f3, t⟩ v = [32]
    · rw [if_pos hb]
      have : v = 1 ∨ v = 2 ∨ v = 3 := by omega
      rcases this with rfl | rfl | rfl
      · exact told_blank1 n f1 f2 f3 t w hb
      · exact told_blank2 n f1 f2 f3 t w hb
      · exact told_blank3 n f1 f2 f3 t w hb
    · rw [if_neg hb]
      have hg : ∀ (i : Nat) (c : UInt8), (fieldT ⟨n, f1, f2, f3, t⟩ v)[i]? = some c → c.toNat < 128 ∧ c.toNat ≠ 32 := by
        intro i c hc
        rcases RowOk.field hr v with h | h
        · exact absurd h hb
        · obtain ⟨hi, rfl⟩ := List.getElem?_eq_some_iff.1 hc
          exact h i hi
      have : v = 1 ∨ v = 2 ∨ v = 3 := by omega
      rcases this with rfl | rfl | rfl
      · exact told_good1 n f1 f2 f3 t w (hid hg) (hid hl)
      · exact told_good2 n f1 f2 f3 t w (hid hg) (hid hl)
      · exact told_good3 n f1 f2 f3 t w (hid hg) (hid hl)
end Go.Proofs.YtgjabbhgmecbbaaDoor
