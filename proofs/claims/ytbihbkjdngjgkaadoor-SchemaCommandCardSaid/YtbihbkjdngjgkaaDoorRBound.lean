/-
  The bounds of the classes, by the document.
-/
import Derived.Test.YtbihbkjdngjgkaaDoorBound
import Derived.WalkKit
import Derived.OwnWalk
namespace Go.Proofs.YtbihbkjdngjgkaaDoor
open Go.RowKit

def RBoundIs (v c : Int) (x : Int × Int × Bool) : Prop :=
  ∀ w : World, Calls Tryd.prog 32 #[.int .u8 v, .int .u8 c] w fun e w' => e = .returned (.tuple #[.int .i64 x.1, .int .i64 x.2.1, .bool x.2.2]) ∧ w = w'

theorem rbound_1_97 : RBoundIs 1 97 (1, 64, true) := by
  intro w
  go_enter Tryd.func32, Tryd.ntmps32
  go_wp2
  go_ret3
  exact ⟨rfl, rfl⟩
theorem rbound_1_105 : RBoundIs 1 105 (1, 16, true) := by
  intro w
  go_enter Tryd.func32, Tryd.ntmps32
  go_wp2
  go_ret3
  exact ⟨rfl, rfl⟩
theorem rbound_1_111 : RBoundIs 1 111 (1, 1099511627776, true) := by
  intro w
  go_enter Tryd.func32, Tryd.ntmps32
  go_wp2
  go_ret3
  exact ⟨rfl, rfl⟩
theorem rbound_1_99 : RBoundIs 1 99 (1, 1099511627776, true) := by
  intro w
  go_enter Tryd.func32, Tryd.ntmps32
  go_wp2
  go_ret3
  exact ⟨rfl, rfl⟩
theorem rbound_1_113 : RBoundIs 1 113 (1, 1048576, true) := by
  intro w
  go_enter Tryd.func32, Tryd.ntmps32
  go_wp2
  go_ret3
  exact ⟨rfl, rfl⟩
theorem rbound_1_109 : RBoundIs 1 109 (1, 11258999068426, true) := by
  intro w
  go_enter Tryd.func32, Tryd.ntmps32
  go_wp2
  go_ret3
  exact ⟨rfl, rfl⟩
theorem rbound_1_122 : RBoundIs 1 122 (0, 11258999068426, true) := by
  intro w
  go_enter Tryd.func32, Tryd.ntmps32
  go_wp2
  go_ret3
  exact ⟨rfl, rfl⟩
theorem rbound_1_112 : RBoundIs 1 112 (1, 10737418, true) := by
  intro w
  go_enter Tryd.func32, Tryd.ntmps32
  go_wp2
  go_ret3
  exact ⟨rfl, rfl⟩
theorem rbound_1_107 : RBoundIs 1 107 (1, 10737418, true) := by
  intro w
  go_enter Tryd.func32, Tryd.ntmps32
  go_wp2
  go_ret3
  exact ⟨rfl, rfl⟩
theorem rbound_1_98 : RBoundIs 1 98 (0, 10, true) := by
  intro w
  go_enter Tryd.func32, Tryd.ntmps32
  go_wp2
  go_ret3
  exact ⟨rfl, rfl⟩
theorem rbound_1_116 : RBoundIs 1 116 (1, 109951162777, true) := by
  intro w
  go_enter Tryd.func32, Tryd.ntmps32
  go_wp2
  go_ret3
  exact ⟨rfl, rfl⟩
theorem rbound_1_115 : RBoundIs 1 115 (0, 1, true) := by
  intro w
  go_enter Tryd.func32, Tryd.ntmps32
  go_wp2
  go_ret3
  exact ⟨rfl, rfl⟩
theorem rbound_2_97 : RBoundIs 2 97 (1, 64, true) := by
  intro w
  go_enter Tryd.func32, Tryd.ntmps32
  go_wp2
  go_ret3
  exact ⟨rfl, rfl⟩
theorem rbound_2_105 : RBoundIs 2 105 (1, 16, true) := by
  intro w
  go_enter Tryd.func32, Tryd.ntmps32
  go_wp2
  go_ret3
  exact ⟨rfl, rfl⟩
theorem rbound_2_111 : RBoundIs 2 111 (1, 1099511627776, true) := by
  intro w
  go_enter Tryd.func32, Tryd.ntmps32
  go_wp2
  go_ret3
  exact ⟨rfl, rfl⟩
theorem rbound_2_99 : RBoundIs 2 99 (1, 1099511627776, true) := by
  intro w
  go_enter Tryd.func32, Tryd.ntmps32
  go_wp2
  go_ret3
  exact ⟨rfl, rfl⟩
theorem rbound_2_113 : RBoundIs 2 113 (1, 1048576, true) := by
  intro w
  go_enter Tryd.func32, Tryd.ntmps32
  go_wp2
  go_ret3
  exact ⟨rfl, rfl⟩
theorem rbound_2_109 : RBoundIs 2 109 (1, 1125899906842624, true) := by
  intro w
  go_enter Tryd.func32, Tryd.ntmps32
  go_wp2
  go_ret3
  exact ⟨rfl, rfl⟩
theorem rbound_2_122 : RBoundIs 2 122 (0, 1125899906842624, true) := by
  intro w
  go_enter Tryd.func32, Tryd.ntmps32
  go_wp2
  go_ret3
  exact ⟨rfl, rfl⟩
theorem rbound_2_112 : RBoundIs 2 112 (1, 1073741824, true) := by
  intro w
  go_enter Tryd.func32, Tryd.ntmps32
  go_wp2
  go_ret3
  exact ⟨rfl, rfl⟩
theorem rbound_2_107 : RBoundIs 2 107 (1, 1073741824, true) := by
  intro w
  go_enter Tryd.func32, Tryd.ntmps32
  go_wp2
  go_ret3
  exact ⟨rfl, rfl⟩
theorem rbound_2_98 : RBoundIs 2 98 (0, 1000, true) := by
  intro w
  go_enter Tryd.func32, Tryd.ntmps32
  go_wp2
  go_ret3
  exact ⟨rfl, rfl⟩
theorem rbound_2_116 : RBoundIs 2 116 (1, 109951162777, true) := by
  intro w
  go_enter Tryd.func32, Tryd.ntmps32
  go_wp2
  go_ret3
  exact ⟨rfl, rfl⟩
theorem rbound_2_115 : RBoundIs 2 115 (0, 1, true) := by
  intro w
  go_enter Tryd.func32, Tryd.ntmps32
  go_wp2
  go_ret3
  exact ⟨rfl, rfl⟩
theorem rbound_3_97 : RBoundIs 3 97 (1, 64, true) := by
  intro w
  go_enter Tryd.func32, Tryd.ntmps32
  go_wp2
  go_ret3
  exact ⟨rfl, rfl⟩
theorem rbound_3_105 : RBoundIs 3 105 (1, 16, true) := by
  intro w
  go_enter Tryd.func32, Tryd.ntmps32
  go_wp2
  go_ret3
  exact ⟨rfl, rfl⟩
theorem rbound_3_111 : RBoundIs 3 111 (1, 1099511627776, true) := by
  intro w
  go_enter Tryd.func32, Tryd.ntmps32
  go_wp2
  go_ret3
  exact ⟨rfl, rfl⟩
theorem rbound_3_99 : RBoundIs 3 99 (1, 1099511627776, true) := by
  intro w
  go_enter Tryd.func32, Tryd.ntmps32
  go_wp2
  go_ret3
  exact ⟨rfl, rfl⟩
theorem rbound_3_113 : RBoundIs 3 113 (1, 1048576, true) := by
  intro w
  go_enter Tryd.func32, Tryd.ntmps32
  go_wp2
  go_ret3
  exact ⟨rfl, rfl⟩
theorem rbound_3_109 : RBoundIs 3 109 (1, 1125899906842624, true) := by
  intro w
  go_enter Tryd.func32, Tryd.ntmps32
  go_wp2
  go_ret3
  exact ⟨rfl, rfl⟩
theorem rbound_3_122 : RBoundIs 3 122 (0, 1125899906842624, true) := by
  intro w
  go_enter Tryd.func32, Tryd.ntmps32
  go_wp2
  go_ret3
  exact ⟨rfl, rfl⟩
theorem rbound_3_112 : RBoundIs 3 112 (1, 1073741824, true) := by
  intro w
  go_enter Tryd.func32, Tryd.ntmps32
  go_wp2
  go_ret3
  exact ⟨rfl, rfl⟩
theorem rbound_3_107 : RBoundIs 3 107 (1, 1073741824, true) := by
  intro w
  go_enter Tryd.func32, Tryd.ntmps32
  go_wp2
  go_ret3
  exact ⟨rfl, rfl⟩
theorem rbound_3_98 : RBoundIs 3 98 (0, 1000, true) := by
  intro w
  go_enter Tryd.func32, Tryd.ntmps32
  go_wp2
  go_ret3
  exact ⟨rfl, rfl⟩
theorem rbound_3_116 : RBoundIs 3 116 (1, 1099511627776, true) := by
  intro w
  go_enter Tryd.func32, Tryd.ntmps32
  go_wp2
  go_ret3
  exact ⟨rfl, rfl⟩
theorem rbound_3_115 : RBoundIs 3 115 (1, 2, true) := by
  intro w
  go_enter Tryd.func32, Tryd.ntmps32
  go_wp2
  go_ret3
  exact ⟨rfl, rfl⟩
theorem rbound_1 (c : Nat) (h97 : ((c : Int) == 97) = false) (h105 : ((c : Int) == 105) = false) (h111 : ((c : Int) == 111) = false) (h99 : ((c : Int) == 99) = false) (h113 : ((c : Int) == 113) = false) (h109 : ((c : Int) == 109) = false) (h122 : ((c : Int) == 122) = false) (h112 : ((c : Int) == 112) = false) (h107 : ((c : Int) == 107) = false) (h98 : ((c : Int) == 98) = false) (h116 : ((c : Int) == 116) = false) (h115 : ((c : Int) == 115) = false) : RBoundIs 1 c (0, 0, false) := by
  intro w
  go_enter Tryd.func32, Tryd.ntmps32
  go_wp2
  go_ret3
  exact ⟨rfl, rfl⟩
theorem rbound_2 (c : Nat) (h97 : ((c : Int) == 97) = false) (h105 : ((c : Int) == 105) = false) (h111 : ((c : Int) == 111) = false) (h99 : ((c : Int) == 99) = false) (h113 : ((c : Int) == 113) = false) (h109 : ((c : Int) == 109) = false) (h122 : ((c : Int) == 122) = false) (h112 : ((c : Int) == 112) = false) (h107 : ((c : Int) == 107) = false) (h98 : ((c : Int) == 98) = false) (h116 : ((c : Int) == 116) = false) (h115 : ((c : Int) == 115) = false) : RBoundIs 2 c (0, 0, false) := by
  intro w
  go_enter Tryd.func32, Tryd.ntmps32
  go_wp2
  go_ret3
  exact ⟨rfl, rfl⟩
theorem rbound_3 (c : Nat) (h97 : ((c : Int) == 97) = false) (h105 : ((c : Int) == 105) = false) (h111 : ((c : Int) == 111) = false) (h99 : ((c : Int) == 99) = false) (h113 : ((c : Int) == 113) = false) (h109 : ((c : Int) == 109) = false) (h122 : ((c : Int) == 122) = false) (h112 : ((c : Int) == 112) = false) (h107 : ((c : Int) == 107) = false) (h98 : ((c : Int) == 98) = false) (h116 : ((c : Int) == 116) = false) (h115 : ((c : Int) == 115) = false) : RBoundIs 3 c (0, 0, false) := by
  intro w
  go_enter Tryd.func32, Tryd.ntmps32
  go_wp2
  go_ret3
  exact ⟨rfl, rfl⟩
theorem rbound_0 (c : Nat) : RBoundIs 0 c (0, 0, false) := by
  intro w
  go_enter Tryd.func32, Tryd.ntmps32
  go_wp2
  go_ret3
  exact ⟨rfl, rfl⟩
theorem rbound_4 (v c : Nat) (h : decide ((3 : Int) < (v : Int)) = true) (h1 : decide ((v : Int) < 1) = false) : RBoundIs v c (0, 0, false) := by
  intro w
  go_enter Tryd.func32, Tryd.ntmps32
  go_wp2
  go_ret3
  exact ⟨rfl, rfl⟩
theorem rbound_any (v c : Nat) : RBoundIs v c (boundS v c) := by
  by_cases h3 : 3 < v
  · have e : boundS v c = (0, 0, false) := by
      unfold boundS; split <;> first | omega | rfl
    rw [e]
    exact rbound_4 v c (by simp; omega) (by simp; omega)
  have hv : v = 0 ∨ v = 1 ∨ v = 2 ∨ v = 3 := by omega
  have hc : c = 97 ∨ c = 105 ∨ c = 111 ∨ c = 99 ∨ c = 113 ∨ c = 109 ∨ c = 122 ∨ c = 112 ∨ c = 107 ∨ c = 98 ∨ c = 116 ∨ c = 115 ∨ (c ≠ 97 ∧ c ≠ 105 ∧ c ≠ 111 ∧ c ≠ 99 ∧ c ≠ 113 ∧ c ≠ 109 ∧ c ≠ 122 ∧ c ≠ 112 ∧ c ≠ 107 ∧ c ≠ 98 ∧ c ≠ 116 ∧ c ≠ 115) := by omega
  rcases hv with rfl | rfl | rfl | rfl
  · have e : boundS 0 c = (0, 0, false) := by unfold boundS; split <;> first | omega | rfl
    rw [e]
    exact rbound_0 c
  · rcases hc with rfl | rfl | rfl | rfl | rfl | rfl | rfl | rfl | rfl | rfl | rfl | rfl | hc
    · exact rbound_1_97
    · exact rbound_1_105
    · exact rbound_1_111
    · exact rbound_1_99
    · exact rbound_1_113
    · exact rbound_1_109
    · exact rbound_1_122
    · exact rbound_1_112
    · exact rbound_1_107
    · exact rbound_1_98
    · exact rbound_1_116
    · exact rbound_1_115
    · have e : boundS 1 c = (0, 0, false) := by unfold boundS; split <;> first | omega | rfl
      rw [e]
      exact rbound_1 c (by simp; omega) (by simp; omega) (by simp; omega) (by simp; omega) (by simp; omega) (by simp; omega) (by simp; omega) (by simp; omega) (by simp; omega) (by simp; omega) (by simp; omega) (by simp; omega)
  · rcases hc with rfl | rfl | rfl | rfl | rfl | rfl | rfl | rfl | rfl | rfl | rfl | rfl | hc
    · exact rbound_2_97
    · exact rbound_2_105
    · exact rbound_2_111
    · exact rbound_2_99
    · exact rbound_2_113
    · exact rbound_2_109
    · exact rbound_2_122
    · exact rbound_2_112
    · exact rbound_2_107
    · exact rbound_2_98
    · exact rbound_2_116
    · exact rbound_2_115
    · have e : boundS 2 c = (0, 0, false) := by unfold boundS; split <;> first | omega | rfl
      rw [e]
      exact rbound_2 c (by simp; omega) (by simp; omega) (by simp; omega) (by simp; omega) (by simp; omega) (by simp; omega) (by simp; omega) (by simp; omega) (by simp; omega) (by simp; omega) (by simp; omega) (by simp; omega)
  · rcases hc with rfl | rfl | rfl | rfl | rfl | rfl | rfl | rfl | rfl | rfl | rfl | rfl | hc
    · exact rbound_3_97
    · exact rbound_3_105
    · exact rbound_3_111
    · exact rbound_3_99
    · exact rbound_3_113
    · exact rbound_3_109
    · exact rbound_3_122
    · exact rbound_3_112
    · exact rbound_3_107
    · exact rbound_3_98
    · exact rbound_3_116
    · exact rbound_3_115
    · have e : boundS 3 c = (0, 0, false) := by unfold boundS; split <;> first | omega | rfl
      rw [e]
      exact rbound_3 c (by simp; omega) (by simp; omega) (by simp; omega) (by simp; omega) (by simp; omega) (by simp; omega) (by simp; omega) (by simp; omega) (by simp; omega) (by simp; omega) (by simp; omega) (by simp; omega)
end Go.Proofs.YtbihbkjdngjgkaaDoor
