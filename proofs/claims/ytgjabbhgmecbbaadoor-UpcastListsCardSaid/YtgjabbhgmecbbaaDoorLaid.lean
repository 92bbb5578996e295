/-
  The laid tables: a row's five cells.
-/
import Derived.Test.YtgjabbhgmecbbaaDoorBase
import Derived.Test.YtgjabbhgmecbbaaDoorProg
import Derived.Test.YtgjabbhgmecbbaaDoorPure
import Derived.OpenShut
import Derived.FnData
namespace Go.Proofs.YtgjabbhgmecbbaaDoor
open Go.RowKit Go.ChangeShapes Go.WideShapes

/-- A row of a table: its name, its fields version by version, whether it has a text. -/
structure RowT where
  name : List UInt8
  f1 : List UInt8
  f2 : List UInt8
  f3 : List UInt8
  text : Bool
deriving DecidableEq
def rowV (x : RowT) : List Value := [strV x.name, strV x.f1, strV x.f2, strV x.f3, .bool x.text]
def rowD {H : Type} (x : RowT) : DataW H := .agg [.lit (.string x.name), .agg [.lit (.string x.f1), .lit (.string x.f2), .lit (.string x.f3)], .lit (.bool x.text)]

theorem str_cells {H : Type} {enc : TypeId × Value → H} {w : World} {base : Nat} {sp : Nat → Bool} {hd : Bool} {n : Nat} {cs : List Value} {x : DataW H × List MemPlace} {l : List UInt8}
    (h : DataW.trod enc Tryd.prog w base sp hd n 9 cs = some x) (hx : x.1 = .lit (.string l)) : cs = [strV l] := by
  obtain ⟨s, rfl, rfl, _⟩ := DataW.trod_string Tryd.underlying9 h
  simp at hx
  subst hx
  rfl
set_option maxRecDepth 100000 in
theorem three_cells {H : Type} {enc : TypeId × Value → H} {w : World} {base : Nat} {sp : Nat → Bool} {hd : Bool} {n : Nat} {cs : List Value} {x : DataW H × List MemPlace} {l1 l2 l3 : List UInt8}
    (h : DataW.trod enc Tryd.prog w base sp hd n 74 cs = some x) (hx : x.1 = .agg [.lit (.string l1), .lit (.string l2), .lit (.string l3)]) : cs = [strV l1, strV l2, strV l3] := by
  obtain ⟨xs, m, _, rfl, hlen, hn, hel⟩ := DataW.trod_array Tryd.underlying74 h
  have c9 : Tryd.prog.cellsOf 9 = 1 := by kernel_rfl
  have c3 : Tryd.prog.cellsOf 74 = 3 := by kernel_rfl
  rw [c3] at hlen
  have g0 := hel 0 (by decide)
  have g1 := hel 1 (by decide)
  have g2 := hel 2 (by decide)
  clear hel h
  match cs, hlen with
  | [v0, v1, v2], _ =>
   match xs, hn with
   | [x0, x1, x2], _ =>
    simp at hx
    simp [c9] at g0 g1 g2
    have e0 := str_cells g0 hx.1
    have e1 := str_cells g1 hx.2.1
    have e2 := str_cells g2 hx.2.2
    simp at e0 e1 e2
    rw [e0, e1, e2]
set_option maxRecDepth 100000 in
theorem row_cells {H : Type} {enc : TypeId × Value → H} {w : World} {base : Nat} {sp : Nat → Bool} {hd : Bool} {n : Nat} {cs : List Value} {x : DataW H × List MemPlace} {r : RowT}
    (h : DataW.trod enc Tryd.prog w base sp hd n 76 cs = some x) (hx : x.1 = rowD r) : cs = rowV r := by
  have c9 : Tryd.prog.cellsOf 9 = 1 := by kernel_rfl
  have c3 : Tryd.prog.cellsOf 74 = 3 := by kernel_rfl
  have c4 : Tryd.prog.cellsOf 4 = 1 := by kernel_rfl
  have c5 : Tryd.prog.cellsOf 76 = 5 := by kernel_rfl
  obtain ⟨xs, m, _, rfl, hlen, hn, hf⟩ := DataW.trod_struct Tryd.underlying76 h
  rw [c5] at hlen
  have g0 := hf 0 _ rfl
  have g1 := hf 1 _ rfl
  have g2 := hf 2 _ rfl
  clear hf h
  match cs, hlen with
  | [v0, v1, v2, v3, v4], _ =>
   match xs, hn with
   | [x0, x1, x2], _ =>
    simp [rowD] at hx
    simp [c9, c3, c4] at g0 g1 g2
    have e0 := str_cells g0 hx.1
    have e1 := three_cells g1 hx.2.1
    obtain ⟨b, e2, e3⟩ := DataW.trod_bool Tryd.underlying4 g2
    simp at e0 e1 e2
    have hb : b = r.text := by
      have := hx.2.2
      rw [e3] at this
      simpa using this
    rw [e0, e1.1, e1.2.1, e1.2.2, e2, hb]
    rfl

theorem table_cells {H : Type} {enc : TypeId × Value → H} {w : World} {base : Nat} {sp : Nat → Bool} {hd : Bool} {n k : Nat} {t : TypeId} {cs : List Value} {x : DataW H × List MemPlace} {rows : List RowT}
    (ht : Tryd.prog.underlying t = some (.array k 76)) (h : DataW.trod enc Tryd.prog w base sp hd n t cs = some x) (hx : x.1 = .agg (rows.map rowD)) :
    ∀ i r, rows[i]? = some r → ∀ j, j < 5 → cs[i * 5 + j]? = (rowV r)[j]? := by
  have c5 : Tryd.prog.cellsOf 76 = 5 := by kernel_rfl
  obtain ⟨xs, m, _, rfl, _, hn, hel⟩ := DataW.trod_array ht h
  simp only [DataW.agg.injEq] at hx
  intro i r hr j hj
  have hlen : xs.length = rows.length := by have := congrArg List.length hx; simpa using this
  have hi : i < rows.length := (List.getElem?_eq_some_iff.1 hr).1
  have hy : xs[i]? = some (xs[i]'(by omega)) := List.getElem?_eq_getElem (by omega)
  have hy1 : (xs[i]'(by omega)).1 = rowD r := by
    have := congrArg (fun l => l[i]?) hx
    simp only [List.getElem?_map, hy, hr, Option.map_some, Option.some.injEq] at this
    exact this
  have g := hel i (by omega)
  rw [hy, c5] at g
  have e := row_cells g hy1
  rw [← e, List.getElem?_take_of_lt hj, List.getElem?_drop]

end Go.Proofs.YtgjabbhgmecbbaaDoor
