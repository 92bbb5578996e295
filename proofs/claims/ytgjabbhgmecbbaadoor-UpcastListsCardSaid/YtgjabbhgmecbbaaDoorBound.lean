/-
  The bounds of the classes.
-/
import Derived.Test.YtgjabbhgmecbbaaDoorBase
import Derived.Test.YtgjabbhgmecbbaaDoorProg
import Derived.WalkKit
import Derived.OwnWalk
namespace Go.Proofs.YtgjabbhgmecbbaaDoor
open Go.RowKit

/-- The least and the greatest number of a class in a version. -/
def boundS (v c : Nat) : Int × Int × Bool :=
  match v, c with
  | 1, 97 => (1, 64, true)
  | 1, 105 => (1, 16, true)
  | 1, 111 => (1, 1099511627776, true)
  | 1, 99 => (1, 1099511627776, true)
  | 1, 113 => (1, 1048576, true)
  | 1, 109 => (1, 11258999068426, true)
  | 1, 122 => (0, 11258999068426, true)
  | 1, 112 => (1, 10737418, true)
  | 1, 107 => (1, 10737418, true)
  | 1, 98 => (0, 10, true)
  | 1, 116 => (1, 109951162777, true)
  | 1, 115 => (0, 1, true)
  | 2, 97 => (1, 64, true)
  | 2, 105 => (1, 16, true)
  | 2, 111 => (1, 1099511627776, true)
  | 2, 99 => (1, 1099511627776, true)
  | 2, 113 => (1, 1048576, true)
  | 2, 109 => (1, 1125899906842624, true)
  | 2, 122 => (0, 1125899906842624, true)
  | 2, 112 => (1, 1073741824, true)
  | 2, 107 => (1, 1073741824, true)
  | 2, 98 => (0, 1000, true)
  | 2, 116 => (1, 109951162777, true)
  | 2, 115 => (0, 1, true)
  | 3, 97 => (1, 64, true)
  | 3, 105 => (1, 16, true)
  | 3, 111 => (1, 1099511627776, true)
  | 3, 99 => (1, 1099511627776, true)
  | 3, 113 => (1, 1048576, true)
  | 3, 109 => (1, 1125899906842624, true)
  | 3, 122 => (0, 1125899906842624, true)
  | 3, 112 => (1, 1073741824, true)
  | 3, 107 => (1, 1073741824, true)
  | 3, 98 => (0, 1000, true)
  | 3, 116 => (1, 1099511627776, true)
  | 3, 115 => (1, 2, true)
  | _, _ => (0, 0, false)

def BoundIs (v c : Int) (x : Int × Int × Bool) : Prop :=
  ∀ w : World, Calls Tryd.prog 53 #[.int .u8 v, .int .u8 c] w fun e w' => e = .returned (.tuple #[.int .i64 x.1, .int .i64 x.2.1, .bool x.2.2]) ∧ w = w'

theorem bound_1_97 : BoundIs 1 97 (1, 64, true) := by
  intro w
  go_enter Tryd.func53, Tryd.ntmps53
  go_wp2
  go_ret3
  exact ⟨rfl, rfl⟩
theorem bound_1_105 : BoundIs 1 105 (1, 16, true) := by
  intro w
  go_enter Tryd.func53, Tryd.ntmps53
  go_wp2
  go_ret3
  exact ⟨rfl, rfl⟩
theorem bound_1_111 : BoundIs 1 111 (1, 1099511627776, true) := by
  intro w
  go_enter Tryd.func53, Tryd.ntmps53
  go_wp2
  go_ret3
  exact ⟨rfl, rfl⟩
theorem bound_1_99 : BoundIs 1 99 (1, 1099511627776, true) := by
  intro w
  go_enter Tryd.func53, Tryd.ntmps53
  go_wp2
  go_ret3
  exact ⟨rfl, rfl⟩
theorem bound_1_113 : BoundIs 1 113 (1, 1048576, true) := by
  intro w
  go_enter Tryd.func53, Tryd.ntmps53
  go_wp2
  go_ret3
  exact ⟨rfl, rfl⟩
theorem bound_1_109 : BoundIs 1 109 (1, 11258999068426, true) := by
  intro w
  go_enter Tryd.func53, Tryd.ntmps53
  go_wp2
  go_ret3
  exact ⟨rfl, rfl⟩
theorem bound_1_122 : BoundIs 1 122 (0, 11258999068426, true) := by
  intro w
  go_enter Tryd.func53, Tryd.ntmps53
  go_wp2
  go_ret3
  exact ⟨rfl, rfl⟩
theorem bound_1_112 : BoundIs 1 112 (1, 10737418, true) := by
  intro w
  go_enter Tryd.func53, Tryd.ntmps53
  go_wp2
  go_ret3
  exact ⟨rfl, rfl⟩
theorem bound_1_107 : BoundIs 1 107 (1, 10737418, true) := by
  intro w
  go_enter Tryd.func53, Tryd.ntmps53
  go_wp2
  go_ret3
  exact ⟨rfl, rfl⟩
theorem bound_1_98 : BoundIs 1 98 (0, 10, true) := by
  intro w
  go_enter Tryd.func53, Tryd.ntmps53
  go_wp2
  go_ret3
  exact ⟨rfl, rfl⟩
theorem bound_1_116 : BoundIs 1 116 (1, 109951162777, true) := by
  intro w
  go_enter Tryd.func53, Tryd.ntmps53
  go_wp2
  go_ret3
  exact ⟨rfl, rfl⟩
theorem bound_1_115 : BoundIs 1 115 (0, 1, true) := by
  intro w
  go_enter Tryd.func53, Tryd.ntmps53
  go_wp2
  go_ret3
  exact ⟨rfl, rfl⟩
theorem bound_2_97 : BoundIs 2 97 (1, 64, true) := by
  intro w
  go_enter Tryd.func53, Tryd.ntmps53
  go_wp2
  go_ret3
  exact ⟨rfl, rfl⟩
theorem bound_2_105 : BoundIs 2 105 (1, 16, true) := by
  intro w
  go_enter Tryd.func53, Tryd.ntmps53
  go_wp2
  go_ret3
  exact ⟨rfl, rfl⟩
theorem bound_2_111 : BoundIs 2 111 (1, 1099511627776, true) := by
  intro w
  go_enter Tryd.func53, Tryd.ntmps53
  go_wp2
  go_ret3
  exact ⟨rfl, rfl⟩
theorem bound_2_99 : BoundIs 2 99 (1, 1099511627776, true) := by
  intro w
  go_enter Tryd.func53, Tryd.ntmps53
  go_wp2
  go_ret3
  exact ⟨rfl, rfl⟩
theorem bound_2_113 : BoundIs 2 113 (1, 1048576, true) := by
  intro w
  go_enter Tryd.func53, Tryd.ntmps53
  go_wp2
  go_ret3
  exact ⟨rfl, rfl⟩
theorem bound_2_109 : BoundIs 2 109 (1, 1125899906842624, true) := by
  intro w
  go_enter Tryd.func53, Tryd.ntmps53
  go_wp2
  go_ret3
  exact ⟨rfl, rfl⟩
theorem bound_2_122 : BoundIs 2 122 (0, 1125899906842624, true) := by
  intro w
  go_enter Tryd.func53, Tryd.ntmps53
  go_wp2
  go_ret3
  exact ⟨rfl, rfl⟩
theorem bound_2_112 : BoundIs 2 112 (1, 1073741824, true) := by
  intro w
  go_enter Tryd.func53, Tryd.ntmps53
  go_wp2
  go_ret3
  exact ⟨rfl, rfl⟩
theorem bound_2_107 : BoundIs 2 107 (1, 1073741824, true) := by
  intro w
  go_enter Tryd.func53, Tryd.ntmps53
  go_wp2
  go_ret3
  exact ⟨rfl, rfl⟩
theorem bound_2_98 : BoundIs 2 98 (0, 1000, true) := by
  intro w
  go_enter Tryd.func53, Tryd.ntmps53
  go_wp2
  go_ret3
  exact ⟨rfl, rfl⟩
theorem bound_2_116 : BoundIs 2 116 (1, 109951162777, true) := by
  intro w
  go_enter Tryd.func53, Tryd.ntmps53
  go_wp2
  go_ret3
  exact ⟨rfl, rfl⟩
theorem bound_2_115 : BoundIs 2 115 (0, 1, true) := by
  intro w
  go_enter Tryd.func53, Tryd.ntmps53
  go_wp2
  go_ret3
  exact ⟨rfl, rfl⟩
theorem bound_3_97 : BoundIs 3 97 (1, 64, true) := by
  intro w
  go_enter Tryd.func53, Tryd.ntmps53
  go_wp2
  go_ret3
  exact ⟨rfl, rfl⟩
theorem bound_3_105 : BoundIs 3 105 (1, 16, true) := by
  intro w
  go_enter Tryd.func53, Tryd.ntmps53
  go_wp2
  go_ret3
  exact ⟨rfl, rfl⟩
theorem bound_3_111 : BoundIs 3 111 (1, 1099511627776, true) := by
  intro w
  go_enter Tryd.func53, Tryd.ntmps53
  go_wp2
  go_ret3
  exact ⟨rfl, rfl⟩
theorem bound_3_99 : BoundIs 3 99 (1, 1099511627776, true) := by
  intro w
  go_enter Tryd.func53, Tryd.ntmps53
  go_wp2
  go_ret3
  exact ⟨rfl, rfl⟩
theorem bound_3_113 : BoundIs 3 113 (1, 1048576, true) := by
  intro w
  go_enter Tryd.func53, Tryd.ntmps53
  go_wp2
  go_ret3
  exact ⟨rfl, rfl⟩
theorem bound_3_109 : BoundIs 3 109 (1, 1125899906842624, true) := by
  intro w
  go_enter Tryd.func53, Tryd.ntmps53
  go_wp2
  go_ret3
  exact ⟨rfl, rfl⟩
theorem bound_3_122 : BoundIs 3 122 (0, 1125899906842624, true) := by
  intro w
  go_enter Tryd.func53, Tryd.ntmps53
  go_wp2
  go_ret3
  exact ⟨rfl, rfl⟩
theorem bound_3_112 : BoundIs 3 112 (1, 1073741824, true) := by
  intro w
  go_enter Tryd.func53, Tryd.ntmps53
  go_wp2
  go_ret3
  exact ⟨rfl, rfl⟩
theorem bound_3_107 : BoundIs 3 107 (1, 1073741824, true) := by
  intro w
  go_enter Tryd.func53, Tryd.ntmps53
  go_wp2
  go_ret3
  exact ⟨rfl, rfl⟩
theorem bound_3_98 : BoundIs 3 98 (0, 1000, true) := by
  intro w
  go_enter Tryd.func53, Tryd.ntmps53
  go_wp2
  go_ret3
  exact ⟨rfl, rfl⟩
theorem bound_3_116 : BoundIs 3 116 (1, 1099511627776, true) := by
  intro w
  go_enter Tryd.func53, Tryd.ntmps53
  go_wp2
  go_ret3
  exact ⟨rfl, rfl⟩
theorem bound_3_115 : BoundIs 3 115 (1, 2, true) := by
  intro w
  go_enter Tryd.func53, Tryd.ntmps53
  go_wp2
  go_ret3
  exact ⟨rfl, rfl⟩
theorem bound_1 (c : Nat) (h97 : ((c : Int) == 97) = false) (h105 : ((c : Int) == 105) = false) (h111 : ((c : Int) == 111) = false) (h99 : ((c : Int) == 99) = false) (h113 : ((c : Int) == 113) = false) (h109 : ((c : Int) == 109) = false) (h122 : ((c : Int) == 122) = false) (h112 : ((c : Int) == 112) = false) (h107 : ((c : Int) == 107) = false) (h98 : ((c : Int) == 98) = false) (h116 : ((c : Int) == 116) = false) (h115 : ((c : Int) == 115) = false) : BoundIs 1 c (0, 0, false) := by
  intro w
  go_enter Tryd.func53, Tryd.ntmps53
  go_wp2
  go_ret3
  exact ⟨rfl, rfl⟩
theorem bound_2 (c : Nat) (h97 : ((c : Int) == 97) = false) (h105 : ((c : Int) == 105) = false) (h111 : ((c : Int) == 111) = false) (h99 : ((c : Int) == 99) = false) (h113 : ((c : Int) == 113) = false) (h109 : ((c : Int) == 109) = false) (h122 : ((c : Int) == 122) = false) (h112 : ((c : Int) == 112) = false) (h107 : ((c : Int) == 107) = false) (h98 : ((c : Int) == 98) = false) (h116 : ((c : Int) == 116) = false) (h115 : ((c : Int) == 115) = false) : BoundIs 2 c (0, 0, false) := by
  intro w
  go_enter Tryd.func53, Tryd.ntmps53
  go_wp2
  go_ret3
  exact ⟨rfl, rfl⟩
theorem bound_3 (c : Nat) (h97 : ((c : Int) == 97) = false) (h105 : ((c : Int) == 105) = false) (h111 : ((c : Int) == 111) = false) (h99 : ((c : Int) == 99) = false) (h113 : ((c : Int) == 113) = false) (h109 : ((c : Int) == 109) = false) (h122 : ((c : Int) == 122) = false) (h112 : ((c : Int) == 112) = false) (h107 : ((c : Int) == 107) = false) (h98 : ((c : Int) == 98) = false) (h116 : ((c : Int) == 116) = false) (h115 : ((c : Int) == 115) = false) : BoundIs 3 c (0, 0, false) := by
  intro w
  go_enter Tryd.func53, Tryd.ntmps53
  go_wp2
  go_ret3
  exact ⟨rfl, rfl⟩
theorem bound_0 (c : Nat) : BoundIs 0 c (0, 0, false) := by
  intro w
  go_enter Tryd.func53, Tryd.ntmps53
  go_wp2
  go_ret3
  exact ⟨rfl, rfl⟩
theorem bound_4 (v c : Nat) (h : decide ((3 : Int) < (v : Int)) = true) (h1 : decide ((v : Int) < 1) = false) : BoundIs v c (0, 0, false) := by
  intro w
  go_enter Tryd.func53, Tryd.ntmps53
  go_wp2
  go_ret3
  exact ⟨rfl, rfl⟩
theorem bound_any (v c : Nat) : BoundIs v c (boundS v c) := by
  by_cases h3 : 3 < v
  · have e : boundS v c = (0, 0, false) := by
      unfold boundS; split <;> first | omega | rfl
    rw [e]
    exact bound_4 v c (by simp; omega) (by simp; omega)
  have hv : v = 0 ∨ v = 1 ∨ v = 2 ∨ v = 3 := by omega
  have hc : c = 97 ∨ c = 105 ∨ c = 111 ∨ c = 99 ∨ c = 113 ∨ c = 109 ∨ c = 122 ∨ c = 112 ∨ c = 107 ∨ c = 98 ∨ c = 116 ∨ c = 115 ∨ (c ≠ 97 ∧ c ≠ 105 ∧ c ≠ 111 ∧ c ≠ 99 ∧ c ≠ 113 ∧ c ≠ 109 ∧ c ≠ 122 ∧ c ≠ 112 ∧ c ≠ 107 ∧ c ≠ 98 ∧ c ≠ 116 ∧ c ≠ 115) := by omega
  rcases hv with rfl | rfl | rfl | rfl
  · have e : boundS 0 c = (0, 0, false) := by unfold boundS; split <;> first | omega | rfl
    rw [e]
    exact bound_0 c
  · rcases hc with rfl | rfl | rfl | rfl | rfl | rfl | rfl | rfl | rfl | rfl | rfl | rfl | hc
    · exact bound_1_97
    · exact bound_1_105
    · exact bound_1_111
    · exact bound_1_99
    · exact bound_1_113
    · exact bound_1_109
    · exact bound_1_122
    · exact bound_1_112
    · exact bound_1_107
    · exact bound_1_98
    · exact bound_1_116
    · exact bound_1_115
    · have e : boundS 1 c = (0, 0, false) := by unfold boundS; split <;> first | omega | rfl
      rw [e]
      exact bound_1 c (by simp; omega) (by simp; omega) (by simp; omega) (by simp; omega) (by simp; omega) (by simp; omega) (by simp; omega) (by simp; omega) (by simp; omega) (by simp; omega) (by simp; omega) (by simp; omega)
  · rcases hc with rfl | rfl | rfl | rfl | rfl | rfl | rfl | rfl | rfl | rfl | rfl | rfl | hc
    · exact bound_2_97
    · exact bound_2_105
    · exact bound_2_111
    · exact bound_2_99
    · exact bound_2_113
    · exact bound_2_109
    · exact bound_2_122
    · exact bound_2_112
    · exact bound_2_107
    · exact bound_2_98
    · exact bound_2_116
    · exact bound_2_115
    · have e : boundS 2 c = (0, 0, false) := by unfold boundS; split <;> first | omega | rfl
      rw [e]
      exact bound_2 c (by simp; omega) (by simp; omega) (by simp; omega) (by simp; omega) (by simp; omega) (by simp; omega) (by simp; omega) (by simp; omega) (by simp; omega) (by simp; omega) (by simp; omega) (by simp; omega)
  · rcases hc with rfl | rfl | rfl | rfl | rfl | rfl | rfl | rfl | rfl | rfl | rfl | rfl | hc
    · exact bound_3_97
    · exact bound_3_105
    · exact bound_3_111
    · exact bound_3_99
    · exact bound_3_113
    · exact bound_3_109
    · exact bound_3_122
    · exact bound_3_112
    · exact bound_3_107
    · exact bound_3_98
    · exact bound_3_116
    · exact bound_3_115
    · have e : boundS 3 c = (0, 0, false) := by unfold boundS; split <;> first | omega | rfl
      rw [e]
      exact bound_3 c (by simp; omega) (by simp; omega) (by simp; omega) (by simp; omega) (by simp; omega) (by simp; omega) (by simp; omega) (by simp; omega) (by simp; omega) (by simp; omega) (by simp; omega) (by simp; omega)
end Go.Proofs.YtgjabbhgmecbbaaDoor
