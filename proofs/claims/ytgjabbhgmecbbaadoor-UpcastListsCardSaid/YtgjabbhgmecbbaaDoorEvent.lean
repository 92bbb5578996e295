/-
  A kind's row.
-/
import Derived.Test.YtgjabbhgmecbbaaDoorTab
import Derived.WalkKit
import Derived.Laws.Rows
namespace Go.Proofs.YtgjabbhgmecbbaaDoor
open Go.RowKit

def noRow : RowT := ⟨[], [32], [32], [32], false⟩
def eventT (k : Nat) : RowT := if k = 0 then noRow else (kindsT[k - 1]?).getD noRow
def rowA (r : RowT) : Value := .agg #[strV r.name, strV r.f1, strV r.f2, strV r.f3, .bool r.text]

set_option maxHeartbeats 1000000 in
theorem event_in (k : Nat) (r : RowT) (w : World) (hr : kindsT[k]? = some r) (hk : k < 23) (h : RowsAt w 0 kindsT) :
    Calls Tryd.prog 48 #[.int .u8 ((k : Int) + 1)] w fun e w' => e = .returned (rowA r) ∧ Fr No w w' := by
  have c0 : w.cell? ⟨0, k * 5, none⟩ = some (strV r.name) := h k r hr 0 (by decide)
  have c1 : w.cell? ⟨0, k * 5 + 1, none⟩ = some (strV r.f1) := h k r hr 1 (by decide)
  have c2 : w.cell? ⟨0, k * 5 + 2, none⟩ = some (strV r.f2) := h k r hr 2 (by decide)
  have c3 : w.cell? ⟨0, k * 5 + 3, none⟩ = some (strV r.f3) := h k r hr 3 (by decide)
  have c4 : w.cell? ⟨0, k * 5 + 4, none⟩ = some (.bool r.text) := h k r hr 4 (by decide)
  have hlt : 0 < w.heap.size := World.block_lt_of_cell? w _ c0
  unfold rowA
  unfold strV at *
  clear hr h
  go_enter Tryd.func48, Tryd.ntmps48
  go_wp2
  refine bodyPost_ret (Go.results_cell_row rfl _ _ w.heap.size 76 _ (0, 0) _ rfl (Go.heap_alloc_new _ _) Tryd.underlying76 rfl (by kernel_rfl)) rfl ⟨rfl, (Fr.refl w).alloc _⟩

set_option maxHeartbeats 1000000 in
theorem event_out (k : Nat) (w : World) (h8 : k ≤ 255) (hk : k = 0 ∨ 23 < k) :
    Calls Tryd.prog 48 #[.int .u8 k] w fun e w' => e = .returned (rowA noRow) ∧ Fr No w w' := by
  unfold rowA noRow strV
  rcases hk with rfl | hk
  all_goals
    go_enter Tryd.func48, Tryd.ntmps48
    go_wp2
    refine bodyPost_ret (Go.results_cell_row rfl _ _ w.heap.size 76 _ (0, 0) _ rfl (Go.heap_alloc_new _ _) Tryd.underlying76 rfl (by kernel_rfl)) rfl ⟨rfl, (Fr.refl w).alloc _⟩
end Go.Proofs.YtgjabbhgmecbbaaDoor
