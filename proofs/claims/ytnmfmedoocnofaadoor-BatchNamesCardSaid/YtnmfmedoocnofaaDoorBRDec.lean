/-
  The contracts of wire's and the document's readers and writers, for this seat (out of the wire seat's texts): no statement of the seat is proved here.
-/
import Derived.Test.YtnmfmedoocnofaaDoorCRGet2
namespace Go.Proofs.YtnmfmedoocnofaaDoor
open Go.RowKit

theorem rget_any (b : Nat) (r : Rd) (v : Nat) (w : World) (hr : DRd w b r) (hsm : r.s.length ≤ 9000000000000000000) : Calls Tryd.prog 36 #[.pointer (some ⟨b, 0, none⟩), .int .u8 v] w (DGetPost w b (getT v r)) := by
  unfold getT
  by_cases hv : v < 1 ∨ 3 < v
  · rw [if_pos hv]; exact rget_version b r v w hr hv
  · rw [if_neg hv]; exact rget_ok b r v w hr hsm (by omega)
theorem rFix1_nil : rFix 1 ⟨[], 0, 0, 0⟩ = (0, ⟨[], 0, 8, 0⟩) := rfl
theorem rFix1_cons (c : UInt8) (l : List UInt8) : rFix 1 ⟨c :: l, 0, 0, 0⟩ = (c.toNat, ⟨c :: l, 1, 0, 0⟩) := by
  unfold rFix
  rw [if_pos rfl, if_neg (by simp)]
  simp [beN]

end Go.Proofs.YtnmfmedoocnofaaDoor
