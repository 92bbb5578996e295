/-
  A parameter that is a slice of items, opened.
-/
import Derived.Test.YtcggakegbdpdfaaItem2
import Derived.Test.YtcggakegbdpdfaaProof
import Derived.Deep.Slices
import Derived.Lib.LaidU8
namespace Go.Proofs.Ytcggakegbdpdfaa
open Go.RowKit Go.ChangeShapes Go.WideShapes

instance : Inhabited It := ⟨⟨0, 0, [], 0⟩⟩
theorem int_nat {k : IntKind} {n : Int} (h : (Lit.int k n).wf = true) (hk : k.min = 0) : ∃ m : Nat, n = m := by
  simp only [Lit.wf, Bool.and_eq_true, decide_eq_true_eq] at h
  exact Int.eq_ofNat_of_zero_le (by omega)

theorem item_cells {H : Type} {enc : TypeId × Value → H} {w : World} {base : Nat} {sp : Nat → Bool} {hd : Bool} {n : Nat} {cs : List Value} {x : DataW H × List MemPlace}
    (h : DataW.trod enc Try.prog w base sp hd n 35 cs = some x) : ∃ y : It, y.Ok ∧ cs = [.int .u8 y.kind, .int .u64 y.n, strV y.s, .int .i64 y.most] := by
  have hC : Try.prog.cellsOf 35 = 4 := by kernel_rfl
  have k5 : Try.prog.cellsOf 5 = 1 := by kernel_rfl
  have k22 : Try.prog.cellsOf 22 = 1 := by kernel_rfl
  have k9 : Try.prog.cellsOf 9 = 1 := by kernel_rfl
  have k3 : Try.prog.cellsOf 3 = 1 := by kernel_rfl
  obtain ⟨xs, m, _, _, hlen, _, hf⟩ := DataW.trod_struct Try.underlying35 h
  rw [hC] at hlen
  match cs, hlen with
  | [v0, v1, v2, v3], _ =>
    have g0 := hf 0 _ rfl
    have g1 := hf 1 _ rfl
    have g2 := hf 2 _ rfl
    have g3 := hf 3 _ rfl
    simp [k5, k22, k9, k3] at g0 g1 g2 g3
    have hxl := ‹xs.length = _›
    simp at hxl
    match xs, hxl with
    | [y0, y1, y2, y3], _ =>
      obtain ⟨n0, e0, _, w0⟩ := DataW.trod_int Try.underlying5 g0
      obtain ⟨n1, e1, _, w1⟩ := DataW.trod_int Try.underlying22 g1
      obtain ⟨s2, e2, _, w2⟩ := DataW.trod_string Try.underlying9 g2
      obtain ⟨n3, e3, _, w3⟩ := DataW.trod_int Try.underlying3 g3
      simp only [List.cons.injEq, and_true] at e0 e1 e2 e3
      subst e0 e1 e2 e3
      obtain ⟨m0, rfl⟩ := int_nat w0 rfl
      obtain ⟨m1, rfl⟩ := int_nat w1 rfl
      have b0 := bounds_u8 w0
      have b1 := bounds_u64 w1
      have b3 := bounds_i64 w3
      refine ⟨⟨m0, m1, s2.data.toList, n3⟩, ⟨by simp only; omega, by simp only; omega, ?_, b3.1, b3.2⟩, rfl⟩
      have : s2.data.toList.length ≤ maxLen := by simpa using w2
      unfold maxLen at this
      simpa using this

theorem items_open {H : Type} {enc : TypeId × Value → H} {W : World} {r : Reach} {base b0 : Nat} {sp : Nat → Bool} {hd : Bool} {v : Value} {d : DataW H} {p : List MemPlace}
    (hv : Value.okWide Try.prog W r b0 27 v) (h : DataW.Trod enc Try.prog W base sp hd 27 v d p) :
    ∃ (q : Option Addr) (cap : Nat) (l : List It), v = .slice q l.length cap ∧ ItsAt W q l ∧ l.length ≤ 9223372036854775807 := by
  have hC : Try.prog.cellsOf 35 = 4 := by kernel_rfl
  obtain ⟨a, len, cap, rfl⟩ := okWide_slice Try.underlying27 hv
  obtain ⟨fuel, hf⟩ := h
  rcases Go.Deep.open_slice Try.underlying27 hf with ⟨hcs, _⟩ | ⟨a1, len1, cap1, m, n, D, Pl, hcs, _, hl, hm, hmm, _, hx⟩
  · simp [Value.cells] at hcs
    obtain ⟨rfl, rfl, rfl⟩ := hcs
    exact ⟨none, 0, [], rfl, ⟨by simp, by simp⟩, by simp⟩
  · simp [Value.cells] at hcs
    obtain ⟨rfl, rfl, rfl⟩ := hcs
    have hlm : len ≤ m := by rw [hmm]; split <;> omega
    have each : ∀ i, i < len → ∃ y : It, y.Ok ∧ W.cells? base (a1.add (i * 4)) 4 = some [.int .u8 y.kind, .int .u64 y.n, strV y.s, .int .i64 y.most] := by
      intro i hi
      obtain ⟨cs', h1, h2⟩ := hx i (by omega)
      rw [hC] at h1
      obtain ⟨y, hy, rfl⟩ := item_cells h2
      exact ⟨y, hy, h1⟩
    obtain ⟨f, hfy⟩ := Go.Deep.choose_lt each
    refine ⟨some a1, cap, (List.range len).map f, by simp, ⟨?_, ?_⟩, ?_⟩
    · intro y hy
      obtain ⟨i, hi, rfl⟩ := List.mem_map.1 hy
      exact (hfy i (List.mem_range.1 hi)).1
    · intro i y hy
      have hi : i < len := by
        have := (List.getElem?_eq_some_iff.1 hy).1
        simpa using this
      have e : f i = y := by
        simp [hi] at hy
        exact hy
      obtain ⟨_, _, hcell0⟩ := World.cells?_some (hfy 0 (by omega)).2
      have hc0 := hcell0 0 (by omega)
      have hspot : a1.spot = none := by
        obtain ⟨b, o, s⟩ := a1
        have : (⟨b, o, s⟩ : Addr).add (0 * 4) = ⟨b, o, s⟩ := by simp [Addr.add]
        rw [this] at hc0
        have : (⟨b, o, s⟩ : Addr).add 0 = ⟨b, o, s⟩ := by simp [Addr.add]
        rw [this] at hc0
        exact cell_spot hc0
      obtain ⟨b, o, s⟩ := a1
      simp only at hspot
      subst hspot
      obtain ⟨_, _, hcell⟩ := World.cells?_some (hfy i hi).2
      rw [e] at hcell
      refine ⟨b, o, rfl, ?_, ?_, ?_, ?_⟩
      · have := hcell 0 (by omega); simpa [add_plain, Nat.add_assoc] using this
      · have := hcell 1 (by omega); simpa [add_plain, Nat.add_assoc] using this
      · have := hcell 2 (by omega); simpa [add_plain, Nat.add_assoc] using this
      · have := hcell 3 (by omega); simpa [add_plain, Nat.add_assoc] using this
    · simp
      unfold maxLen at hm
      omega

end Go.Proofs.Ytcggakegbdpdfaa
