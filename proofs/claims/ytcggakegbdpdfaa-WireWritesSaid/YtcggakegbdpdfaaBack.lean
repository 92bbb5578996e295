/-
  WireBack: the walk.
-/
import Derived.Test.YtcggakegbdpdfaaPlain
import Derived.Test.YtcggakegbdpdfaaAft
namespace Go.Proofs.Ytcggakegbdpdfaa
open Go.RowKit

def catB (l : List It) (i : Nat) : List UInt8 := (l.take i).flatMap itB
theorem catB_zero (l : List It) : catB l 0 = [] := by simp [catB]
theorem catB_succ (l : List It) (i : Nat) (x : It) (h : l[i]? = some x) : catB l (i + 1) = catB l i ++ itB x := by
  obtain ⟨hi, rfl⟩ := List.getElem?_eq_some_iff.1 h
  unfold catB
  rw [List.take_succ_eq_append_getElem hi, List.flatMap_append]
  simp
theorem itB_length (x : It) : (itB x).length ≤ 20 + x.s.length := by
  have h1 := shortB_length_le x.n
  have h2 := shortB_length_le x.s.length
  unfold itB
  repeat (split; · simp [fixedB_length, textB, lowB] <;> omega)
  omega
theorem mem_le (l : List It) (x : It) (h : x ∈ l) : 20 + x.s.length ≤ totL [] l := by
  unfold totL
  simp only [List.length_nil, Nat.zero_add]
  induction l with
  | nil => cases h
  | cons y l ih =>
    simp only [List.map_cons, List.sum_cons]
    rcases List.mem_cons.1 h with rfl | h
    · omega
    · have := ih h; omega
theorem len_le (l : List It) : 20 * l.length ≤ totL [] l := by
  unfold totL
  simp only [List.length_nil, Nat.zero_add]
  induction l with
  | nil => simp
  | cons y l ih => simp only [List.map_cons, List.sum_cons, List.length_cons]; omega
theorem catB_le (l : List It) (i : Nat) : (catB l i).length ≤ totL [] l := by
  unfold catB totL
  simp only [List.length_nil, Nat.zero_add]
  induction l generalizing i with
  | nil => simp
  | cons x l ih =>
    cases i with
    | zero => simp
    | succ i =>
      have := ih i
      have := itB_length x
      simp only [List.take_succ_cons, List.flatMap_cons, List.length_append, List.map_cons, List.sum_cons]
      omega
theorem catB_split (l : List It) (i : Nat) (x : It) (h : l[i]? = some x) : ∃ q, catB l l.length = catB l i ++ (itB x ++ q) := by
  obtain ⟨hi, rfl⟩ := List.getElem?_eq_some_iff.1 h
  refine ⟨(l.drop (i + 1)).flatMap itB, ?_⟩
  unfold catB
  rw [List.take_length]
  have e : l.take i ++ (l[i] :: l.drop (i + 1)) = l := by rw [← List.drop_eq_getElem_cons hi, List.take_append_drop]
  have e2 := congrArg (List.flatMap itB) e
  rw [List.flatMap_append, List.flatMap_cons] at e2
  exact e2.symm
theorem Own.cell {w : World} {e n : Nat} {a : Option Addr} {c : Nat} {xs : List Value} (h : Own w e 1 (.slice a n c) n xs) (i : Nat) (hi : i < n) :
    ∃ g v, a = some ⟨g, 0, none⟩ ∧ (Value.slice a n c).ownBlock = some g ∧ xs[i]? = some v ∧ w.cell? ⟨g, i, none⟩ = some v := by
  have hlen := h.1
  rcases h.2 with ⟨h2, _⟩ | ⟨g, cap, cur, h2, hb, hg, h3, h4, h5, h6⟩
  · simp at h2; omega
  · simp only [Value.slice.injEq] at h2
    obtain ⟨rfl, _, rfl⟩ := h2
    have hix : i < xs.length := by omega
    have hic : i < cur.size := by omega
    refine ⟨g, xs[i], rfl, rfl, List.getElem?_eq_getElem hix, ?_⟩
    have e : cur[i]? = some xs[i] := by
      rw [← List.getElem?_eq_getElem hix, ← h6, List.getElem?_take_of_lt (by omega), Array.getElem?_toList]
    simp only [World.cell?, hg]
    simpa using e
def endsV (l : List It) (i : Nat) : List Value := (List.range i).map fun j => .int .i64 (catB l (j + 1)).length
theorem endsV_get (l : List It) (n i : Nat) (hi : i < n) : (endsV l n)[i]? = some (.int .i64 (catB l (i + 1)).length) := by
  unfold endsV
  simp [hi]
theorem endsV_succ (l : List It) (i : Nat) : endsV l (i + 1) = endsV l i ++ [.int .i64 (catB l (i + 1)).length] := by simp [endsV, List.range_succ]

theorem infoInt : (Try.prog.info? 3).map (fun i => (i.zero, i.size, i.bytes)) = some (some (.int .i64 0), 1, 8) := by kernel_rfl

/-- The writing loop's state. -/
def BackRel (w : World) (B : Nat) (l : List It) (i : Nat) (ve : Value) (wr : World) : Prop :=
  ∃ o, WrAt wr B o (catB l i) ∧ Own wr 3 1 ve i (endsV l i) ∧ Fr No w wr ∧ w.heap.size ≤ B ∧ (∀ g, o = some g → w.heap.size ≤ g) ∧ (∀ g, ve.ownBlock = some g → w.heap.size ≤ g ∧ g ≠ B ∧ o ≠ some g)

theorem back_step {w wr w2 w4 : World} {B : Nat} {l : List It} {i : Nat} {x : It} {o : Option Nat} {ve ve' : Value} {O : Obj} (hx : l[i]? = some x)
    (h1 : WrAt wr B o (catB l i)) (h2 : Own wr 3 1 ve i (endsV l i)) (h3 : Fr No w wr) (h4 : w.heap.size ≤ B) (h5 : ∀ g, o = some g → w.heap.size ≤ g) (h6 : ∀ g, ve.ownBlock = some g → w.heap.size ≤ g ∧ g ≠ B ∧ o ≠ some g)
    (hq : Wrote wr w2 B o (catB l i ++ itB x))
    (ho : Own w4 3 1 ve' (i + 1) (endsV l i ++ [.int .i64 (catB l (i + 1)).length])) (hf : Fr (OnlyS ve.ownBlock) (w2.alloc O) w4) (hm : ve'.ownBlock = ve.ownBlock ∨ ve'.ownBlock = some (w2.heap.size + 1)) :
    BackRel w B l (i + 1) ve' w4 := by
  obtain ⟨o', ha, hf2, hno⟩ := hq
  rw [← catB_succ l i x hx] at ha
  have f2 : Fr No w w2 := h3.newOnlyO h4 h5 hf2
  have f3 : Fr No w (w2.alloc O) := f2.alloc O
  have ho' : ∀ g, o' = some g → w.heap.size ≤ g := by
    intro g hg
    rcases hno with rfl | hno
    · exact h5 g hg
    · exact Nat.le_trans h3.size (hno g hg)
  have ha3 : WrAt (w2.alloc O) B o' (catB l (i + 1)) := ha.fr ((Fr.refl (X := No) w2).alloc O) id (fun _ _ => id)
  have hsep : ∀ g, ve.ownBlock = some g → g ≠ B ∧ o' ≠ some g := by
    intro g hg
    refine ⟨(h6 g hg).2.1, ?_⟩
    rcases hno with rfl | hno
    · exact (h6 g hg).2.2
    · intro e
      have := hno g e
      have := h2.lt g hg
      omega
  refine ⟨o', ha3.fr hf (fun hB => (hsep B hB).1 rfl) (fun g hg hg2 => (hsep g hg2).2 hg), by rw [endsV_succ]; exact ho, f3.newOnlyS (fun g hg => (h6 g hg).1) hf, h4, ho', ?_⟩
  intro g hg
  rcases hm with hm | hm
  · rw [hm] at hg
    exact ⟨(h6 g hg).1, hsep g hg⟩
  · rw [hm] at hg
    have e : g = w2.heap.size + 1 := by simpa using hg.symm
    have s2 := f2.size
    have := ha.lt
    refine ⟨by omega, by omega, ?_⟩
    intro e2
    have := ha.lto g e2
    omega

end Go.Proofs.Ytcggakegbdpdfaa
