/-
  upcast: the rule of a class, and of a fresh one. No statement of the seat is proved here.
-/
import Derived.Test.YtgjabbhgmecbbaaDoorUp
import Derived.Laws.Rows
namespace Go.Proofs.YtgjabbhgmecbbaaDoor
open Go.RowKit

def ruleV (r : RuleS) : Value := .agg #[.int .i64 r.fr, .int .i64 r.times, .int .i64 r.plus]

set_option maxHeartbeats 1000000 in
theorem fresh_any (c : UInt8) (w : World) :
    Calls Tryd.prog 46 #[.int .u8 (c.toNat : Int)] w fun e w' => e = .returned (ruleV ⟨-1, 0, freshC c⟩) ∧ Fr No w w' := by
  unfold ruleV freshC
  by_cases h : c = 122
  · subst h
    have e : ((122 : UInt8).toNat : Int) = 122 := rfl
    rw [e]
    go_enter Tryd.func46, Tryd.ntmps46
    go_wp2
    refine bodyPost_ret (Go.results_cell_row rfl _ _ w.heap.size 57 _ (0, 0) _ rfl (Go.heap_alloc_new _ _) Tryd.underlying57 rfl (by kernel_rfl)) rfl ⟨rfl, (Fr.refl w).alloc _⟩
  · have hb : ((c.toNat : Int) == 122) = false := by
      rw [beq_eq_false_iff_ne]
      intro e
      exact h (UInt8.toNat_inj.1 (by exact_mod_cast e))
    rw [if_neg h]
    clear h
    go_enter Tryd.func46, Tryd.ntmps46
    go_wp2
    refine bodyPost_ret (Go.results_cell_row rfl _ _ w.heap.size 57 _ (0, 0) _ rfl (Go.heap_alloc_new _ _) Tryd.underlying57 rfl (by kernel_rfl)) rfl ⟨rfl, (Fr.refl w).alloc _⟩

def RuleIs (v c t p : Int) : Prop := ∀ w : World, Calls Tryd.prog 47 #[.int .u8 v, .int .u8 c] w fun e w' => e = .returned (.agg #[.int .i64 0, .int .i64 t, .int .i64 p]) ∧ Fr No w w'
theorem rule_1_112 : RuleIs 1 112 100 0 := by
  intro w
  go_enter Tryd.func47, Tryd.ntmps47
  go_wp2
  refine bodyPost_ret (Go.results_cell_row rfl _ _ w.heap.size 57 _ (0, 0) _ rfl ((Below.heap_alloc _ _ _ (by simp)).trans (Go.heap_alloc_new _ _)) Tryd.underlying57 rfl (by kernel_rfl)) rfl ⟨rfl, ((Fr.refl w).alloc _).alloc _⟩

theorem rule_1_107 : RuleIs 1 107 100 0 := by
  intro w
  go_enter Tryd.func47, Tryd.ntmps47
  go_wp2
  refine bodyPost_ret (Go.results_cell_row rfl _ _ w.heap.size 57 _ (0, 0) _ rfl ((Below.heap_alloc _ _ _ (by simp)).trans (Go.heap_alloc_new _ _)) Tryd.underlying57 rfl (by kernel_rfl)) rfl ⟨rfl, ((Fr.refl w).alloc _).alloc _⟩

theorem rule_1_109 : RuleIs 1 109 100 0 := by
  intro w
  go_enter Tryd.func47, Tryd.ntmps47
  go_wp2
  refine bodyPost_ret (Go.results_cell_row rfl _ _ w.heap.size 57 _ (0, 0) _ rfl ((Below.heap_alloc _ _ _ (by simp)).trans (Go.heap_alloc_new _ _)) Tryd.underlying57 rfl (by kernel_rfl)) rfl ⟨rfl, ((Fr.refl w).alloc _).alloc _⟩

theorem rule_1_98 : RuleIs 1 98 100 0 := by
  intro w
  go_enter Tryd.func47, Tryd.ntmps47
  go_wp2
  refine bodyPost_ret (Go.results_cell_row rfl _ _ w.heap.size 57 _ (0, 0) _ rfl ((Below.heap_alloc _ _ _ (by simp)).trans (Go.heap_alloc_new _ _)) Tryd.underlying57 rfl (by kernel_rfl)) rfl ⟨rfl, ((Fr.refl w).alloc _).alloc _⟩

theorem rule_2_116 : RuleIs 2 116 10 0 := by
  intro w
  go_enter Tryd.func47, Tryd.ntmps47
  go_wp2
  refine bodyPost_ret (Go.results_cell_row rfl _ _ w.heap.size 57 _ (0, 0) _ rfl ((Below.heap_alloc _ _ _ (by simp)).trans (Go.heap_alloc_new _ _)) Tryd.underlying57 rfl (by kernel_rfl)) rfl ⟨rfl, ((Fr.refl w).alloc _).alloc _⟩

theorem rule_2_115 : RuleIs 2 115 1 1 := by
  intro w
  go_enter Tryd.func47, Tryd.ntmps47
  go_wp2
  refine bodyPost_ret (Go.results_cell_row rfl _ _ w.heap.size 57 _ (0, 0) _ rfl ((Below.heap_alloc _ _ _ (by simp)).trans (Go.heap_alloc_new _ _)) Tryd.underlying57 rfl (by kernel_rfl)) rfl ⟨rfl, ((Fr.refl w).alloc _).alloc _⟩

theorem rule_1 (c : Nat) (h1 : ((c : Int) == 112) = false) (h2 : ((c : Int) == 107) = false) (h3 : ((c : Int) == 109) = false) (h4 : ((c : Int) == 98) = false) : RuleIs 1 c 1 0 := by
  intro w
  go_enter Tryd.func47, Tryd.ntmps47
  go_wp2
  refine bodyPost_ret (Go.results_cell_row rfl _ _ w.heap.size 57 _ (0, 0) _ rfl ((Below.heap_alloc _ _ _ (by simp)).trans (Go.heap_alloc_new _ _)) Tryd.underlying57 rfl (by kernel_rfl)) rfl ⟨rfl, ((Fr.refl w).alloc _).alloc _⟩

theorem rule_2 (c : Nat) (h1 : ((c : Int) == 116) = false) (h2 : ((c : Int) == 115) = false) : RuleIs 2 c 1 0 := by
  intro w
  go_enter Tryd.func47, Tryd.ntmps47
  go_wp2
  refine bodyPost_ret (Go.results_cell_row rfl _ _ w.heap.size 57 _ (0, 0) _ rfl ((Below.heap_alloc _ _ _ (by simp)).trans (Go.heap_alloc_new _ _)) Tryd.underlying57 rfl (by kernel_rfl)) rfl ⟨rfl, ((Fr.refl w).alloc _).alloc _⟩

theorem rule_0 (v c : Nat) (h1 : ((v : Int) == 1) = false) (h2 : ((v : Int) == 2) = false) : RuleIs v c 1 0 := by
  intro w
  go_enter Tryd.func47, Tryd.ntmps47
  go_wp2
  refine bodyPost_ret (Go.results_cell_row rfl _ _ w.heap.size 57 _ (0, 0) _ rfl ((Below.heap_alloc _ _ _ (by simp)).trans (Go.heap_alloc_new _ _)) Tryd.underlying57 rfl (by kernel_rfl)) rfl ⟨rfl, ((Fr.refl w).alloc _).alloc _⟩

theorem cls_ne {c d : UInt8} (h : c ≠ d) : ((c.toNat : Int) == (d.toNat : Int)) = false := by
  rw [beq_eq_false_iff_ne]
  intro e
  exact h (UInt8.toNat_inj.1 (by exact_mod_cast e))
theorem rule_any (v : Nat) (c : UInt8) : RuleIs v c.toNat (ruleC v c).1 (ruleC v c).2 := by
  unfold ruleC
  by_cases h1 : v = 1
  · subst h1
    by_cases a1 : c = 112
    · subst a1; exact rule_1_112
    by_cases a2 : c = 107
    · subst a2; exact rule_1_107
    by_cases a3 : c = 109
    · subst a3; exact rule_1_109
    by_cases a4 : c = 98
    · subst a4; exact rule_1_98
    rw [if_neg (by simp [a1, a2, a3, a4]), if_neg (by simp), if_neg (by simp)]
    exact rule_1 c.toNat (cls_ne a1) (cls_ne a2) (cls_ne a3) (cls_ne a4)
  · by_cases h2 : v = 2
    · subst h2
      by_cases a1 : c = 116
      · subst a1; exact rule_2_116
      by_cases a2 : c = 115
      · subst a2; exact rule_2_115
      rw [if_neg (by simp), if_neg (by simp [a1]), if_neg (by simp [a2])]
      exact rule_2 c.toNat (cls_ne a1) (cls_ne a2)
    · rw [if_neg (by simp [h1]), if_neg (by simp [h2]), if_neg (by simp [h2])]
      exact rule_0 v c.toNat (by rw [beq_eq_false_iff_ne]; omega) (by rw [beq_eq_false_iff_ne]; omega)
end Go.Proofs.YtgjabbhgmecbbaaDoor
