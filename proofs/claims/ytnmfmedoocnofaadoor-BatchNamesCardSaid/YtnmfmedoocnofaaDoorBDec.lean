/-
  The contracts of wire's and the document's readers and writers, for this seat (out of the wire seat's texts): no statement of the seat is proved here.
-/
import Derived.Test.YtnmfmedoocnofaaDoorCGet2
namespace Go.Proofs.YtnmfmedoocnofaaDoor
open Go.RowKit

/-- Get, whatever version it is asked. -/
theorem get_any (b : Nat) (r : Rd) (v : Nat) (w : World) (hr : RdIs w b r) (hkt : KT w) : Calls Tryd.prog 63 #[.pointer (some ⟨b, 0, none⟩), .int .u8 v] w (GetPost w b (getT v r)) := by
  unfold getT
  by_cases hv : v < 1 ∨ 3 < v
  · rw [if_pos hv]; exact get_version b r v w hr hv
  · rw [if_neg hv]; exact get_ok b r v w hr hkt (by omega)

/-! ### the text that is read stays -/
theorem rFix_s (k : Nat) (r : Rd) : (rFix k r).2.s = r.s := by
  unfold rFix
  split
  · split <;> rfl
  · rfl
theorem rRaw_s (n : Int) (r : Rd) : (rRaw n r).2.s = r.s := by
  unfold rRaw
  split
  · split <;> rfl
  · rfl
theorem rTx_s (m : Int) (r : Rd) : (rTx m r).2.s = r.s := by
  unfold rTx
  split
  · split
    · split
      · rfl
      · rw [rRaw_s, rSh_s]
    · rw [rSh_s]
  · rfl
theorem numT_s (v : Nat) (c : UInt8) (st : Nat × Rd) : (numT v c st).2.2.s = st.2.s := by
  unfold numT
  split
  · exact rSh_s _ _
  · rfl
theorem nameT_s (st : Nat × Rd) : (nameT st).2.2.s = st.2.s := by
  unfold nameT
  split
  · exact rTx_s _ _
  · rfl
theorem numsT_s (v : Nat) : ∀ (l : List UInt8) (st : Nat × Rd), (numsT v l st).2.2.s = st.2.s
  | [], _ => rfl
  | c :: l, st => by
    show (numsT v l (numT v c st).2).2.2.s = _
    rw [numsT_s v l, numT_s]
theorem endT_s (v k : Nat) (ns : List Int) (ts : List (List UInt8) × (Nat × Rd)) : (endT v k ns ts).2 = ts.2.2 := by unfold endT; split <;> rfl
theorem tsT_s (t : Bool) (st : Nat × Rd) : (tsT t st).2.2.s = st.2.s := by
  unfold tsT
  split
  · exact nameT_s st
  · rfl
theorem getT_s (v : Nat) (r : Rd) : (getT v r).2.s = r.s := by
  unfold getT
  split
  · rfl
  · unfold bodyT
    rw [endT_s, tsT_s, numsT_s]
    exact rFix_s 1 r

/-- What Decode tells. -/
def decG (n : Nat) (g : (Ev × Nat) × Rd) : Ev × Nat := if g.1.2 = 0 then (if g.2.at_ < n then (zeroE, 4) else g.1) else (zeroE, g.1.2)
def decT (s : List UInt8) : Ev × Nat :=
  if (rFix 1 ⟨s, 0, 0, 0⟩).2.e = 0 then decG s.length (getT (rFix 1 ⟨s, 0, 0, 0⟩).1 (rFix 1 ⟨s, 0, 0, 0⟩).2) else (zeroE, (rFix 1 ⟨s, 0, 0, 0⟩).2.e)
def DecPost (w : World) (R : Ev × Nat) (en : Ending) (w' : World) : Prop := ∃ s, en = .returned (.tuple #[evV s R.1, .int .i64 R.2]) ∧ EvNew w.heap.size w' s R.1 ∧ Fr No w w'

end Go.Proofs.YtnmfmedoocnofaaDoor
