/-
  told: what a row has in a version.
-/
import Derived.Test.YtgjabbhgmecbbaaDoorSpec
import Derived.Laws.RangeAny
import Derived.WalkKit
import Derived.OwnWalk
namespace Go.Proofs.YtgjabbhgmecbbaaDoor
open Go.RowKit

def setIt (w : World) (k : Nat) (s : ByteArray) (p : Nat) : World := { w with heap := w.heap.setIfInBounds k (.stringIter s p) }
theorem setIt_heap {w : World} {k : Nat} {s : ByteArray} {p p' : Nat} (h : w.heap[k]? = some (.stringIter s p)) : (setIt w k s p').heap[k]? = some (.stringIter s p') := by
  have := lt_of_block h
  simp [setIt, this]
theorem Fr.setItNew {X : Nat → Prop} {a w : World} (h : Fr X a w) {k : Nat} (hk : a.heap.size ≤ k) (s : ByteArray) (p : Nat) : Fr X a (setIt w k s p) :=
  ⟨h.os, h.tape, h.output, by simpa [setIt] using h.size, fun i hi hn => by
    have : i ≠ k := by omega
    simp only [setIt, Array.getElem?_setIfInBounds]
    rw [if_neg (fun e => this e.symm)]
    exact h.block i hi hn⟩
theorem Fr.setItOnly (w : World) (k : Nat) (s : ByteArray) (p : Nat) : Fr (Only k) w (setIt w k s p) :=
  ⟨rfl, rfl, rfl, by simp [setIt], fun i hi hn => by
    simp only [setIt, Array.getElem?_setIfInBounds]
    rw [if_neg (fun e => hn e.symm)]⟩
theorem run_next_at {P : Program} {w : World} {k : Nat} {s : ByteArray} {pos : Nat} (hit : w.heap[k]? = some (.stringIter s pos)) (ty : TypeId) (h : pos < s.size) (ha : (s[pos]'h).toNat < 128) :
    (Instr.next (.pointer (some ⟨k, 0, none⟩)) true ty).run P w = .ok (.tuple #[.bool true, .int .i64 pos, .int .i32 (s[pos]'h).toNat]) (setIt w k s (pos + 1)) := by
  have hk := lt_of_block hit
  simp only [Instr.next, getObj, setObj, Sem.run_bind, Sem.run, hit, Result.andThen, h, if_true, decode_ascii s pos h ha]
  simp [goInt, setIt]
theorem run_next_at_end {P : Program} {w : World} {k : Nat} {s : ByteArray} {pos : Nat} (hit : w.heap[k]? = some (.stringIter s pos)) (ty : TypeId) (h : ¬ pos < s.size) :
    (Instr.next (.pointer (some ⟨k, 0, none⟩)) true ty).run P w = .ok (.tuple #[.bool false]) w := by
  simp [Instr.next, getObj, Sem.run, hit, h]
end Go.Proofs.YtgjabbhgmecbbaaDoor
