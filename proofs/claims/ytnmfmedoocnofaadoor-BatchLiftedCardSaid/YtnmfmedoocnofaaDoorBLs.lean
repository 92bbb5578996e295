/-
  The contracts of wire's and the document's readers and writers, for this seat (out of the wire seat's texts): no statement of the seat is proved here.
-/
import Derived.Test.YtnmfmedoocnofaaDoorOpenE
import Derived.Test.YtnmfmedoocnofaaDoorLowest
namespace Go.Proofs.YtnmfmedoocnofaaDoor
open Go.RowKit

open Go.RowKit Go.ChangeShapes Go.WideShapes

instance : Inhabited (EvP × Ev) := ⟨(⟨none, 0, none, 0⟩, ⟨0, 0, [], []⟩)⟩
theorem weightsAll_each {H : Type} {P : Program} {e : TypeId} {D : Nat → DataW H} : ∀ (l : List Nat), (DataW.weightsAll P e (l.map D)).all (· ≤ reachBytes) = true → ∀ i, i ∈ l → ((D i).weights P e).all (· ≤ reachBytes) = true
  | [], _, _, h => by cases h
  | a :: l, h, i, hi => by
    rw [List.map_cons, DataW.weightsAll, List.all_append, Bool.and_eq_true] at h
    rcases List.mem_cons.1 hi with rfl | hi
    · exact h.1
    · exact weightsAll_each l h.2 i hi
set_option maxRecDepth 100000 in
theorem events_open {H : Type} {enc : TypeId × Value → H} {W : World} {r : Reach} {base b0 : Nat} {sp : Nat → Bool} {hd : Bool} {v : Value} {d : DataW H} {p : List MemPlace}
    (hv : Value.okWide Tryd.prog W r b0 26 v) (h : DataW.Trod enc Tryd.prog W base sp hd 26 v d p) :
    ∃ (q : Option Addr) (cap : Nat) (l : List (EvP × Ev)), v = .slice q l.length cap ∧ LsAt W q l ∧ l.length ≤ cap ∧
      ((d.weights Tryd.prog 26).all (· ≤ reachBytes) = true → l.length ≤ 17592186044416 ∧ ∀ p, p ∈ l → p.2.nums.length ≤ 17592186044416 ∧ p.2.texts.length ≤ 8796093022208) := by
  have hC : Tryd.prog.cellsOf 34 = 4 := by kernel_rfl
  obtain ⟨a, len, cap, rfl⟩ := okWide_slice Tryd.underlying26 hv
  obtain ⟨fuel, hf⟩ := h
  rcases Go.Deep.open_slice Tryd.underlying26 hf with ⟨hcs, _⟩ | ⟨a1, len1, cap1, m, n, D, Pl, hcs, _, hl, hm, hmm, hx0, hx⟩
  · simp [Value.cells] at hcs
    obtain ⟨rfl, rfl, rfl⟩ := hcs
    exact ⟨none, 0, [], rfl, fun i s e h => (by simp at h), Nat.le_refl _, fun _ => ⟨Nat.zero_le _, fun _ h => (by cases h)⟩⟩
  · simp [Value.cells] at hcs
    obtain ⟨rfl, rfl, rfl⟩ := hcs
    have hlm : len ≤ m := by rw [hmm]; split <;> omega
    have each : ∀ i, i < len → ∃ y : EvP × Ev, W.cells? base (a1.add (i * 4)) 4 = some [.int .u8 y.2.v, .int .u8 y.2.kind, .slice y.1.qn y.2.nums.length y.1.cn, .slice y.1.qt y.2.texts.length y.1.ct] ∧ EvAt W y.1 y.2 ∧
        (((D i).weights Tryd.prog 34).all (· ≤ reachBytes) = true → y.2.nums.length ≤ 17592186044416 ∧ y.2.texts.length ≤ 8796093022208) := by
      intro i hi
      obtain ⟨cs', h1, h2⟩ := hx i (by omega)
      rw [hC] at h1
      obtain ⟨s, e, rfl, h4, h5, _⟩ := event_cells h2
      exact ⟨(s, e), h1, h4, h5⟩
    obtain ⟨f, hfy⟩ := Go.Deep.choose_lt each
    refine ⟨some a1, cap, (List.range len).map f, by simp, ?_, by simpa using hl, ?_⟩
    · intro i s e hy
      have hi : i < len := by
        have := (List.getElem?_eq_some_iff.1 hy).1
        simpa using this
      have e1 : f i = (s, e) := by
        simp [hi] at hy
        exact hy
      obtain ⟨_, _, hcell0⟩ := World.cells?_some (hfy 0 (by omega)).1
      have hc0 := hcell0 0 (by omega)
      have hspot : a1.spot = none := by
        obtain ⟨b, o, s⟩ := a1
        have h1 : (⟨b, o, s⟩ : Addr).add (0 * 4) = ⟨b, o, s⟩ := by simp [Addr.add]
        rw [h1] at hc0
        have h2 : (⟨b, o, s⟩ : Addr).add 0 = ⟨b, o, s⟩ := by simp [Addr.add]
        rw [h2] at hc0
        exact cell_spot hc0
      obtain ⟨b, o, sp1⟩ := a1
      simp only at hspot
      subst hspot
      obtain ⟨_, _, hcell⟩ := World.cells?_some (hfy i hi).1
      have hE := (hfy i hi).2.1
      rw [e1] at hcell hE
      refine ⟨hE, b, o, rfl, ?_, ?_, ?_, ?_⟩
      · have := hcell 0 (by omega); simpa [add_plain, Nat.add_assoc] using this
      · have := hcell 1 (by omega); simpa [add_plain, Nat.add_assoc] using this
      · have := hcell 2 (by omega); simpa [add_plain, Nat.add_assoc] using this
      · have := hcell 3 (by omega); simpa [add_plain, Nat.add_assoc] using this
    · intro ha
      have hd0 : d = .slice ((List.range len).map D) ((List.range (m - len)).map fun j => D (len + j)) := congrArg Prod.fst hx0
      rw [hd0] at ha
      simp only [DataW.weights, Tryd.underlying26, List.all_cons, List.all_append, Bool.and_eq_true, decide_eq_true_eq] at ha
      have hb : Tryd.prog.bytesOf 34 = 56 := by kernel_rfl
      refine ⟨?_, fun p hp => ?_⟩
      · have h1 := ha.1
        rw [hb] at h1
        simp only [List.length_map, List.length_range, reachBytes] at h1
        simp
        omega
      · obtain ⟨i, hi, rfl⟩ := List.mem_map.1 hp
        exact (hfy i (List.mem_range.1 hi)).2.2 (weightsAll_each _ ha.2.1 i hi)

def ManyPost (w : World) (l : List (EvP × Ev)) (en : Ending) (w' : World) : Prop := ∃ b, en = .returned (.bool b) ∧ (b = false → l.length ≤ 60) ∧ Fr No w w'

end Go.Proofs.YtnmfmedoocnofaaDoor
