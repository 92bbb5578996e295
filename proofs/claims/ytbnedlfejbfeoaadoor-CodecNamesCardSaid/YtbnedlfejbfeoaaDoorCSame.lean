/-
  The contracts of wire's and the document's readers and writers, for this seat (out of the wire seat's texts): no statement of the seat is proved here.
-/
import Derived.Test.YtbnedlfejbfeoaaDoorMay
import Derived.BigQuiet
namespace Go.Proofs.YtbnedlfejbfeoaaDoor
open Go.RowKit

theorem list_ne_at {α : Type} {a b : List α} {i : Nat} {x y : α} (h1 : a[i]? = some x) (h2 : b[i]? = some y) (h : x ≠ y) : a ≠ b := by
  rintro rfl
  rw [h1] at h2
  exact h (Option.some.inj h2)
theorem list_eq_of {α : Type} {a b : List α} (hl : a.length = b.length) (h : ∀ (i : Nat) (x y : α), a[i]? = some x → b[i]? = some y → x = y) : a = b := by
  apply List.ext_getElem? 
  intro i
  by_cases hi : i < a.length
  · rw [List.getElem?_eq_getElem hi, List.getElem?_eq_getElem (by omega)]
    exact congrArg some (h i _ _ (List.getElem?_eq_getElem hi) (List.getElem?_eq_getElem (by omega)))
  · rw [List.getElem?_eq_none (by omega), List.getElem?_eq_none (by omega)]
def sameS (a b : Ev) : Bool := decide (a.v = b.v) && (decide (a.kind = b.kind) && (decide (a.nums = b.nums) && decide (a.texts = b.texts)))


def eCells (s : EvP) (e : Ev) : Array Value := #[.int .u8 e.v, .int .u8 e.kind, .slice s.qn e.nums.length s.cn, .slice s.qt e.texts.length s.ct]
theorem evV_eq (s : EvP) (e : Ev) : evV s e = .agg (eCells s e) := rfl

theorem sameS_iff {a b : Ev} : sameS a b = true ↔ a = b := by
  unfold sameS
  simp only [Bool.and_eq_true, decide_eq_true_eq]
  constructor
  · rintro ⟨h1, h2, h3, h4⟩
    rcases a with ⟨v, k, ns, ts⟩
    rcases b with ⟨v', k', ns', ts'⟩
    simp only at h1 h2 h3 h4
    subst h1 h2 h3 h4
    rfl
  · rintro rfl; exact ⟨rfl, rfl, rfl, rfl⟩
theorem sameS_self (a : Ev) : sameS a a = true := sameS_iff.2 rfl


theorem sameS_v {e f : Ev} (h : e.v ≠ f.v) : sameS e f = false := by simp [sameS, h]
theorem sameS_k {e f : Ev} (h : e.kind ≠ f.kind) : sameS e f = false := by simp [sameS, h]
theorem sameS_n {e f : Ev} (h : e.nums ≠ f.nums) : sameS e f = false := by simp [sameS, h]
theorem sameS_t {e f : Ev} (h : e.texts ≠ f.texts) : sameS e f = false := by simp [sameS, h]
theorem sameS_all {e f : Ev} (h1 : e.v = f.v) (h2 : e.kind = f.kind) (h3 : e.nums = f.nums) (h4 : e.texts = f.texts) : sameS e f = true := by simp [sameS, h1, h2, h3, h4]

end Go.Proofs.YtbnedlfejbfeoaaDoor
