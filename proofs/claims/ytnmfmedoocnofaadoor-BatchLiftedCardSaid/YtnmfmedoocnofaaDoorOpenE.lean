/-
  A parameter that is an event, opened. No statement of the seat is proved here.
-/
import Derived.Test.YtnmfmedoocnofaaDoorMay
import Derived.Test.YtnmfmedoocnofaaDoorProof
import Derived.ChangeSlices
import Derived.SliceStrings
import Derived.Lib.SmallJoins
import Derived.Lib.LaidU8
import Derived.Deep.Slices
namespace Go.Proofs.YtnmfmedoocnofaaDoor
set_option maxRecDepth 100000
open Go.RowKit Go.ChangeShapes Go.WideShapes

section
variable {H : Type} {enc : TypeId × Value → H} {w : World} {base : Nat} {sp : Nat → Bool} {hd : Bool} {n : Nat}

theorem spot_of {a : Addr} {v : Value} (h : w.cell? a = some v) : a.spot = none := by
  obtain ⟨b, o, s⟩ := a
  exact cell_spot h
theorem slAt_of {a : Addr} {xs : List Value} (h : ∀ i x, xs[i]? = some x → w.cell? (a.add i) = some x) : SlAt w (some a) xs := by
  intro i x hx
  obtain ⟨b, o, s⟩ := a
  have h0 : 0 < xs.length := by have := (List.getElem?_eq_some_iff.1 hx).1; omega
  have hs := h 0 _ (List.getElem?_eq_getElem h0)
  have e0 : (⟨b, o, s⟩ : Addr).add 0 = ⟨b, o, s⟩ := by simp [Addr.add]
  rw [e0] at hs
  have := cell_spot hs
  subst this
  refine ⟨b, o, rfl, ?_⟩
  have hi := h i x hx
  rwa [Go.WideShapes.add_plain] at hi
theorem bytes_i64 : Tryd.prog.bytesOf 2 = 8 := by kernel_rfl
theorem bytes_str : Tryd.prog.bytesOf 9 = 16 := by kernel_rfl

theorem nums_open {cs : List Value} {x : DataW H × List MemPlace} (h : DataW.trod enc Tryd.prog w base sp hd n 31 cs = some x) :
    ∃ (q : Option Addr) (cap : Nat) (l : List Int), cs = [.slice q l.length cap] ∧ SlAt w q (l.map numV) ∧ l.length ≤ 9223372036854775807 ∧ (∀ n, n ∈ l → -9223372036854775808 ≤ n ∧ n ≤ 9223372036854775807) ∧
      ((x.1.weights Tryd.prog 31).all (· ≤ reachBytes) = true → l.length ≤ 17592186044416) ∧ l.length ≤ cap := by
  have k : Tryd.prog.cellsOf 2 = 1 := by kernel_rfl
  rcases open_ints Tryd.underlying31 Tryd.underlying2 k h with ⟨rfl, rfl⟩ | ⟨a, len, cap, zs, rfl, hb, hl, hm, hz, rfl, hc, hw⟩
  · exact ⟨none, 0, [], rfl, SlAt.nil _ _, by simp, by simp, by simp, by simp⟩
  · have hlen : len ≤ zs.length := by rw [hz]; split <;> omega
    have hz2 : zs.length ≤ cap := by rw [hz]; split <;> omega
    refine ⟨some a, cap, zs.take len, by simp [Nat.min_eq_left hlen], slAt_of ?_, ?_, ?_, ?_, by simp; omega⟩
    · intro i y hy
      rw [List.getElem?_map] at hy
      rcases hi : (zs.take len)[i]? with _ | z
      · rw [hi] at hy; cases hy
      · rw [hi] at hy
        cases hy
        have hil := (List.getElem?_eq_some_iff.1 hi).1
        have hiz : i < zs.length := by simp at hil; omega
        rw [hc i hiz]
        rw [List.getElem?_take] at hi
        split at hi
        · simp [numV, List.getD, hi]
        · cases hi
    · simp; unfold maxLen at hm; omega
    · intro n hn
      exact bounds_i64 (hw n (List.mem_of_mem_take hn))
    · intro ha
      simp only [DataW.weights, Tryd.underlying31, List.all_cons, Bool.and_eq_true, decide_eq_true_eq] at ha
      have h1 := ha.1
      rw [bytes_i64] at h1
      simp only [lits, List.length_map, List.length_take, List.length_drop, reachBytes] at h1
      simp
      omega

theorem texts_open {cs : List Value} {x : DataW H × List MemPlace} (h : DataW.trod enc Tryd.prog w base sp hd n 32 cs = some x) :
    ∃ (q : Option Addr) (cap : Nat) (l : List (List UInt8)), cs = [.slice q l.length cap] ∧ SlAt w q (l.map strV) ∧ l.length ≤ 9223372036854775807 ∧ (∀ s, s ∈ l → s.length ≤ 9223372036854775807) ∧
      ((x.1.weights Tryd.prog 32).all (· ≤ reachBytes) = true → l.length ≤ 8796093022208) ∧ l.length ≤ cap := by
  have k : Tryd.prog.cellsOf 9 = 1 := by kernel_rfl
  rcases open_strings Tryd.underlying32 Tryd.underlying9 k h with ⟨rfl, rfl⟩ | ⟨a, len, cap, ss, rfl, hb, hl, hm, hz, rfl, hc, hw⟩
  · exact ⟨none, 0, [], rfl, SlAt.nil _ _, by simp, by simp, by simp, by simp⟩
  · have hlen : len ≤ ss.length := by rw [hz]; split <;> omega
    have hz2 : ss.length ≤ cap := by rw [hz]; split <;> omega
    refine ⟨some a, cap, (ss.take len).map (fun s => s.data.toList), by simp [Nat.min_eq_left hlen], slAt_of ?_, ?_, ?_, ?_, by simp; omega⟩
    · intro i y hy
      rw [List.getElem?_map, List.getElem?_map] at hy
      rcases hi : (ss.take len)[i]? with _ | z
      · rw [hi] at hy; cases hy
      · rw [hi] at hy
        cases hy
        have hil := (List.getElem?_eq_some_iff.1 hi).1
        have hiz : i < ss.length := by simp at hil; omega
        rw [hc i hiz]
        rw [List.getElem?_take] at hi
        split at hi
        · simp [strV, List.getD, hi]
        · cases hi
    · simp; unfold maxLen at hm; omega
    · intro s hs
      obtain ⟨t, ht, rfl⟩ := List.mem_map.1 hs
      have := hw t (List.mem_of_mem_take ht)
      unfold maxLen at this
      simp
      exact this
    · intro ha
      simp only [DataW.weights, Tryd.underlying32, List.all_cons, Bool.and_eq_true, decide_eq_true_eq] at ha
      have h1 := ha.1
      rw [bytes_str] at h1
      simp only [strs, List.length_map, List.length_take, List.length_drop, reachBytes] at h1
      simp
      omega

theorem event_cells {cs : List Value} {x : DataW H × List MemPlace} (h : DataW.trod enc Tryd.prog w base sp hd n 34 cs = some x) :
    ∃ (s : EvP) (e : Ev), cs = [.int .u8 e.v, .int .u8 e.kind, .slice s.qn e.nums.length s.cn, .slice s.qt e.texts.length s.ct] ∧ EvAt w s e ∧
      ((x.1.weights Tryd.prog 34).all (· ≤ reachBytes) = true → e.nums.length ≤ 17592186044416 ∧ e.texts.length ≤ 8796093022208) ∧ (e.nums.length ≤ s.cn ∧ e.texts.length ≤ s.ct) := by
  have hC : Tryd.prog.cellsOf 34 = 4 := by kernel_rfl
  have k0 : Tryd.prog.cellsOf 5 = 1 := by kernel_rfl
  have k1 : Tryd.prog.cellsOf 31 = 1 := by kernel_rfl
  have k2 : Tryd.prog.cellsOf 32 = 1 := by kernel_rfl
  obtain ⟨y0, y1, y2, y3, m, rfl, hlen, h0, h1, h2, h3⟩ := Go.Joins.trod_struct4 Tryd.underlying34 h
  rw [hC] at hlen
  match cs, hlen with
  | [v0, v1, v2, v3], _ =>
    simp [k0, k1, k2] at h0 h1 h2 h3
    obtain ⟨n0, e0, _, w0⟩ := DataW.trod_int Tryd.underlying5 h0
    obtain ⟨n1, e1, _, w1⟩ := DataW.trod_int Tryd.underlying5 h1
    obtain ⟨q2, c2, l2, e2, s2, b2, r2, z2, p2⟩ := nums_open h2
    obtain ⟨q3, c3, l3, e3, s3, b3, r3, z3, p3⟩ := texts_open h3
    simp only [List.cons.injEq, and_true] at e0 e1 e2 e3
    subst e0 e1 e2 e3
    obtain ⟨l0, u0⟩ := bounds_u8 w0
    obtain ⟨l1, u1⟩ := bounds_u8 w1
    obtain ⟨m0, rfl⟩ := Int.eq_ofNat_of_zero_le l0
    obtain ⟨m1, rfl⟩ := Int.eq_ofNat_of_zero_le l1
    refine ⟨⟨q2, c2, q3, c3⟩, ⟨m0, m1, l2, l3⟩, rfl, ⟨by show m0 ≤ 255; omega, by show m1 ≤ 255; omega, s2, s3, b2, b3, r3, r2⟩, ?_, p2, p3⟩
    intro ha
    simp only [DataW.weights, Tryd.underlying34, List.map_cons, List.map_nil, DataW.weightsEach, List.append_nil, List.all_append, Bool.and_eq_true] at ha
    exact ⟨z2 ha.2.2.1, z3 ha.2.2.2⟩

theorem event_open_cap {r : Reach} {b0 : Nat} {v : Value} {d : DataW H} {p : List MemPlace} (hv : Value.okWide Tryd.prog w r b0 34 v) (h : DataW.Trod enc Tryd.prog w base sp hd 34 v d p) :
    ∃ (s : EvP) (e : Ev), v = evV s e ∧ EvAt w s e ∧ ((d.weights Tryd.prog 34).all (· ≤ reachBytes) = true → e.nums.length ≤ 17592186044416 ∧ e.texts.length ≤ 8796093022208) ∧ (e.nums.length ≤ s.cn ∧ e.texts.length ≤ s.ct) := by
  obtain ⟨cs, rfl, hsz⟩ := okWide_struct Tryd.underlying34 hv
  obtain ⟨fuel, hf⟩ := h
  obtain ⟨s, e, h1, h2, h3, h4⟩ := event_cells hf
  refine ⟨s, e, ?_, h2, h3, h4⟩
  unfold evV
  have : cs.toList = [.int .u8 e.v, .int .u8 e.kind, .slice s.qn e.nums.length s.cn, .slice s.qt e.texts.length s.ct] := by simpa [Value.cells] using h1
  rw [← Array.toArray_toList (xs := cs), this]
theorem event_open {r : Reach} {b0 : Nat} {v : Value} {d : DataW H} {p : List MemPlace} (hv : Value.okWide Tryd.prog w r b0 34 v) (h : DataW.Trod enc Tryd.prog w base sp hd 34 v d p) :
    ∃ (s : EvP) (e : Ev), v = evV s e ∧ EvAt w s e ∧ ((d.weights Tryd.prog 34).all (· ≤ reachBytes) = true → e.nums.length ≤ 17592186044416 ∧ e.texts.length ≤ 8796093022208) :=
  let ⟨s, e, h1, h2, h3, _⟩ := event_open_cap hv h
  ⟨s, e, h1, h2, h3⟩
end
end Go.Proofs.YtnmfmedoocnofaaDoor
