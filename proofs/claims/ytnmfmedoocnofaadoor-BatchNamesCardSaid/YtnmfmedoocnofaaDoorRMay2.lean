/-
  The bounds of the classes, by the document. The fields of a kind, by the document. Whether a text is a name, whether numbers are of classes, by the document. Whether an event may be, by the document.
-/
import Derived.Test.YtnmfmedoocnofaaDoorSpec
import Derived.WalkKit
import Derived.OwnWalk
import Derived.Test.YtnmfmedoocnofaaDoorMay
namespace Go.Proofs.YtnmfmedoocnofaaDoor
open Go.RowKit

def RBoundIs (v c : Int) (x : Int × Int × Bool) : Prop :=
  ∀ w : World, Calls Tryd.prog 67 #[.int .u8 v, .int .u8 c] w fun e w' => e = .returned (.tuple #[.int .i64 x.1, .int .i64 x.2.1, .bool x.2.2]) ∧ w = w'

theorem rbound_1_97 : RBoundIs 1 97 (1, 64, true) := by
  intro w
  go_enter Tryd.func67, Tryd.ntmps67
  go_wp2
  go_ret3
  exact ⟨rfl, rfl⟩
theorem rbound_1_105 : RBoundIs 1 105 (1, 16, true) := by
  intro w
  go_enter Tryd.func67, Tryd.ntmps67
  go_wp2
  go_ret3
  exact ⟨rfl, rfl⟩
theorem rbound_1_111 : RBoundIs 1 111 (1, 1099511627776, true) := by
  intro w
  go_enter Tryd.func67, Tryd.ntmps67
  go_wp2
  go_ret3
  exact ⟨rfl, rfl⟩
theorem rbound_1_99 : RBoundIs 1 99 (1, 1099511627776, true) := by
  intro w
  go_enter Tryd.func67, Tryd.ntmps67
  go_wp2
  go_ret3
  exact ⟨rfl, rfl⟩
theorem rbound_1_113 : RBoundIs 1 113 (1, 1048576, true) := by
  intro w
  go_enter Tryd.func67, Tryd.ntmps67
  go_wp2
  go_ret3
  exact ⟨rfl, rfl⟩
theorem rbound_1_109 : RBoundIs 1 109 (1, 11258999068426, true) := by
  intro w
  go_enter Tryd.func67, Tryd.ntmps67
  go_wp2
  go_ret3
  exact ⟨rfl, rfl⟩
theorem rbound_1_122 : RBoundIs 1 122 (0, 11258999068426, true) := by
  intro w
  go_enter Tryd.func67, Tryd.ntmps67
  go_wp2
  go_ret3
  exact ⟨rfl, rfl⟩
theorem rbound_1_112 : RBoundIs 1 112 (1, 10737418, true) := by
  intro w
  go_enter Tryd.func67, Tryd.ntmps67
  go_wp2
  go_ret3
  exact ⟨rfl, rfl⟩
theorem rbound_1_107 : RBoundIs 1 107 (1, 10737418, true) := by
  intro w
  go_enter Tryd.func67, Tryd.ntmps67
  go_wp2
  go_ret3
  exact ⟨rfl, rfl⟩
theorem rbound_1_98 : RBoundIs 1 98 (0, 10, true) := by
  intro w
  go_enter Tryd.func67, Tryd.ntmps67
  go_wp2
  go_ret3
  exact ⟨rfl, rfl⟩
theorem rbound_1_116 : RBoundIs 1 116 (1, 109951162777, true) := by
  intro w
  go_enter Tryd.func67, Tryd.ntmps67
  go_wp2
  go_ret3
  exact ⟨rfl, rfl⟩
theorem rbound_1_115 : RBoundIs 1 115 (0, 1, true) := by
  intro w
  go_enter Tryd.func67, Tryd.ntmps67
  go_wp2
  go_ret3
  exact ⟨rfl, rfl⟩
theorem rbound_2_97 : RBoundIs 2 97 (1, 64, true) := by
  intro w
  go_enter Tryd.func67, Tryd.ntmps67
  go_wp2
  go_ret3
  exact ⟨rfl, rfl⟩
theorem rbound_2_105 : RBoundIs 2 105 (1, 16, true) := by
  intro w
  go_enter Tryd.func67, Tryd.ntmps67
  go_wp2
  go_ret3
  exact ⟨rfl, rfl⟩
theorem rbound_2_111 : RBoundIs 2 111 (1, 1099511627776, true) := by
  intro w
  go_enter Tryd.func67, Tryd.ntmps67
  go_wp2
  go_ret3
  exact ⟨rfl, rfl⟩
theorem rbound_2_99 : RBoundIs 2 99 (1, 1099511627776, true) := by
  intro w
  go_enter Tryd.func67, Tryd.ntmps67
  go_wp2
  go_ret3
  exact ⟨rfl, rfl⟩
theorem rbound_2_113 : RBoundIs 2 113 (1, 1048576, true) := by
  intro w
  go_enter Tryd.func67, Tryd.ntmps67
  go_wp2
  go_ret3
  exact ⟨rfl, rfl⟩
theorem rbound_2_109 : RBoundIs 2 109 (1, 1125899906842624, true) := by
  intro w
  go_enter Tryd.func67, Tryd.ntmps67
  go_wp2
  go_ret3
  exact ⟨rfl, rfl⟩
theorem rbound_2_122 : RBoundIs 2 122 (0, 1125899906842624, true) := by
  intro w
  go_enter Tryd.func67, Tryd.ntmps67
  go_wp2
  go_ret3
  exact ⟨rfl, rfl⟩
theorem rbound_2_112 : RBoundIs 2 112 (1, 1073741824, true) := by
  intro w
  go_enter Tryd.func67, Tryd.ntmps67
  go_wp2
  go_ret3
  exact ⟨rfl, rfl⟩
theorem rbound_2_107 : RBoundIs 2 107 (1, 1073741824, true) := by
  intro w
  go_enter Tryd.func67, Tryd.ntmps67
  go_wp2
  go_ret3
  exact ⟨rfl, rfl⟩
theorem rbound_2_98 : RBoundIs 2 98 (0, 1000, true) := by
  intro w
  go_enter Tryd.func67, Tryd.ntmps67
  go_wp2
  go_ret3
  exact ⟨rfl, rfl⟩
theorem rbound_2_116 : RBoundIs 2 116 (1, 109951162777, true) := by
  intro w
  go_enter Tryd.func67, Tryd.ntmps67
  go_wp2
  go_ret3
  exact ⟨rfl, rfl⟩
theorem rbound_2_115 : RBoundIs 2 115 (0, 1, true) := by
  intro w
  go_enter Tryd.func67, Tryd.ntmps67
  go_wp2
  go_ret3
  exact ⟨rfl, rfl⟩
theorem rbound_3_97 : RBoundIs 3 97 (1, 64, true) := by
  intro w
  go_enter Tryd.func67, Tryd.ntmps67
  go_wp2
  go_ret3
  exact ⟨rfl, rfl⟩
theorem rbound_3_105 : RBoundIs 3 105 (1, 16, true) := by
  intro w
  go_enter Tryd.func67, Tryd.ntmps67
  go_wp2
  go_ret3
  exact ⟨rfl, rfl⟩
theorem rbound_3_111 : RBoundIs 3 111 (1, 1099511627776, true) := by
  intro w
  go_enter Tryd.func67, Tryd.ntmps67
  go_wp2
  go_ret3
  exact ⟨rfl, rfl⟩
theorem rbound_3_99 : RBoundIs 3 99 (1, 1099511627776, true) := by
  intro w
  go_enter Tryd.func67, Tryd.ntmps67
  go_wp2
  go_ret3
  exact ⟨rfl, rfl⟩
theorem rbound_3_113 : RBoundIs 3 113 (1, 1048576, true) := by
  intro w
  go_enter Tryd.func67, Tryd.ntmps67
  go_wp2
  go_ret3
  exact ⟨rfl, rfl⟩
theorem rbound_3_109 : RBoundIs 3 109 (1, 1125899906842624, true) := by
  intro w
  go_enter Tryd.func67, Tryd.ntmps67
  go_wp2
  go_ret3
  exact ⟨rfl, rfl⟩
theorem rbound_3_122 : RBoundIs 3 122 (0, 1125899906842624, true) := by
  intro w
  go_enter Tryd.func67, Tryd.ntmps67
  go_wp2
  go_ret3
  exact ⟨rfl, rfl⟩
theorem rbound_3_112 : RBoundIs 3 112 (1, 1073741824, true) := by
  intro w
  go_enter Tryd.func67, Tryd.ntmps67
  go_wp2
  go_ret3
  exact ⟨rfl, rfl⟩
theorem rbound_3_107 : RBoundIs 3 107 (1, 1073741824, true) := by
  intro w
  go_enter Tryd.func67, Tryd.ntmps67
  go_wp2
  go_ret3
  exact ⟨rfl, rfl⟩
theorem rbound_3_98 : RBoundIs 3 98 (0, 1000, true) := by
  intro w
  go_enter Tryd.func67, Tryd.ntmps67
  go_wp2
  go_ret3
  exact ⟨rfl, rfl⟩
theorem rbound_3_116 : RBoundIs 3 116 (1, 1099511627776, true) := by
  intro w
  go_enter Tryd.func67, Tryd.ntmps67
  go_wp2
  go_ret3
  exact ⟨rfl, rfl⟩
theorem rbound_3_115 : RBoundIs 3 115 (1, 2, true) := by
  intro w
  go_enter Tryd.func67, Tryd.ntmps67
  go_wp2
  go_ret3
  exact ⟨rfl, rfl⟩
theorem rbound_1 (c : Nat) (h97 : ((c : Int) == 97) = false) (h105 : ((c : Int) == 105) = false) (h111 : ((c : Int) == 111) = false) (h99 : ((c : Int) == 99) = false) (h113 : ((c : Int) == 113) = false) (h109 : ((c : Int) == 109) = false) (h122 : ((c : Int) == 122) = false) (h112 : ((c : Int) == 112) = false) (h107 : ((c : Int) == 107) = false) (h98 : ((c : Int) == 98) = false) (h116 : ((c : Int) == 116) = false) (h115 : ((c : Int) == 115) = false) : RBoundIs 1 c (0, 0, false) := by
  intro w
  go_enter Tryd.func67, Tryd.ntmps67
  go_wp2
  go_ret3
  exact ⟨rfl, rfl⟩
theorem rbound_2 (c : Nat) (h97 : ((c : Int) == 97) = false) (h105 : ((c : Int) == 105) = false) (h111 : ((c : Int) == 111) = false) (h99 : ((c : Int) == 99) = false) (h113 : ((c : Int) == 113) = false) (h109 : ((c : Int) == 109) = false) (h122 : ((c : Int) == 122) = false) (h112 : ((c : Int) == 112) = false) (h107 : ((c : Int) == 107) = false) (h98 : ((c : Int) == 98) = false) (h116 : ((c : Int) == 116) = false) (h115 : ((c : Int) == 115) = false) : RBoundIs 2 c (0, 0, false) := by
  intro w
  go_enter Tryd.func67, Tryd.ntmps67
  go_wp2
  go_ret3
  exact ⟨rfl, rfl⟩
theorem rbound_3 (c : Nat) (h97 : ((c : Int) == 97) = false) (h105 : ((c : Int) == 105) = false) (h111 : ((c : Int) == 111) = false) (h99 : ((c : Int) == 99) = false) (h113 : ((c : Int) == 113) = false) (h109 : ((c : Int) == 109) = false) (h122 : ((c : Int) == 122) = false) (h112 : ((c : Int) == 112) = false) (h107 : ((c : Int) == 107) = false) (h98 : ((c : Int) == 98) = false) (h116 : ((c : Int) == 116) = false) (h115 : ((c : Int) == 115) = false) : RBoundIs 3 c (0, 0, false) := by
  intro w
  go_enter Tryd.func67, Tryd.ntmps67
  go_wp2
  go_ret3
  exact ⟨rfl, rfl⟩
theorem rbound_0 (c : Nat) : RBoundIs 0 c (0, 0, false) := by
  intro w
  go_enter Tryd.func67, Tryd.ntmps67
  go_wp2
  go_ret3
  exact ⟨rfl, rfl⟩
theorem rbound_4 (v c : Nat) (h : decide ((3 : Int) < (v : Int)) = true) (h1 : decide ((v : Int) < 1) = false) : RBoundIs v c (0, 0, false) := by
  intro w
  go_enter Tryd.func67, Tryd.ntmps67
  go_wp2
  go_ret3
  exact ⟨rfl, rfl⟩
theorem rbound_any (v c : Nat) : RBoundIs v c (boundS v c) := by
  by_cases h3 : 3 < v
  · have e : boundS v c = (0, 0, false) := by
      unfold boundS; split <;> first | omega | rfl
    rw [e]
    exact rbound_4 v c (by simp; omega) (by simp; omega)
  have hv : v = 0 ∨ v = 1 ∨ v = 2 ∨ v = 3 := by omega
  have hc : c = 97 ∨ c = 105 ∨ c = 111 ∨ c = 99 ∨ c = 113 ∨ c = 109 ∨ c = 122 ∨ c = 112 ∨ c = 107 ∨ c = 98 ∨ c = 116 ∨ c = 115 ∨ (c ≠ 97 ∧ c ≠ 105 ∧ c ≠ 111 ∧ c ≠ 99 ∧ c ≠ 113 ∧ c ≠ 109 ∧ c ≠ 122 ∧ c ≠ 112 ∧ c ≠ 107 ∧ c ≠ 98 ∧ c ≠ 116 ∧ c ≠ 115) := by omega
  rcases hv with rfl | rfl | rfl | rfl
  · have e : boundS 0 c = (0, 0, false) := by unfold boundS; split <;> first | omega | rfl
    rw [e]
    exact rbound_0 c
  · rcases hc with rfl | rfl | rfl | rfl | rfl | rfl | rfl | rfl | rfl | rfl | rfl | rfl | hc
    · exact rbound_1_97
    · exact rbound_1_105
    · exact rbound_1_111
    · exact rbound_1_99
    · exact rbound_1_113
    · exact rbound_1_109
    · exact rbound_1_122
    · exact rbound_1_112
    · exact rbound_1_107
    · exact rbound_1_98
    · exact rbound_1_116
    · exact rbound_1_115
    · have e : boundS 1 c = (0, 0, false) := by unfold boundS; split <;> first | omega | rfl
      rw [e]
      exact rbound_1 c (by simp; omega) (by simp; omega) (by simp; omega) (by simp; omega) (by simp; omega) (by simp; omega) (by simp; omega) (by simp; omega) (by simp; omega) (by simp; omega) (by simp; omega) (by simp; omega)
  · rcases hc with rfl | rfl | rfl | rfl | rfl | rfl | rfl | rfl | rfl | rfl | rfl | rfl | hc
    · exact rbound_2_97
    · exact rbound_2_105
    · exact rbound_2_111
    · exact rbound_2_99
    · exact rbound_2_113
    · exact rbound_2_109
    · exact rbound_2_122
    · exact rbound_2_112
    · exact rbound_2_107
    · exact rbound_2_98
    · exact rbound_2_116
    · exact rbound_2_115
    · have e : boundS 2 c = (0, 0, false) := by unfold boundS; split <;> first | omega | rfl
      rw [e]
      exact rbound_2 c (by simp; omega) (by simp; omega) (by simp; omega) (by simp; omega) (by simp; omega) (by simp; omega) (by simp; omega) (by simp; omega) (by simp; omega) (by simp; omega) (by simp; omega) (by simp; omega)
  · rcases hc with rfl | rfl | rfl | rfl | rfl | rfl | rfl | rfl | rfl | rfl | rfl | rfl | hc
    · exact rbound_3_97
    · exact rbound_3_105
    · exact rbound_3_111
    · exact rbound_3_99
    · exact rbound_3_113
    · exact rbound_3_109
    · exact rbound_3_122
    · exact rbound_3_112
    · exact rbound_3_107
    · exact rbound_3_98
    · exact rbound_3_116
    · exact rbound_3_115
    · have e : boundS 3 c = (0, 0, false) := by unfold boundS; split <;> first | omega | rfl
      rw [e]
      exact rbound_3 c (by simp; omega) (by simp; omega) (by simp; omega) (by simp; omega) (by simp; omega) (by simp; omega) (by simp; omega) (by simp; omega) (by simp; omega) (by simp; omega) (by simp; omega) (by simp; omega)

def RFieldsIs (v k : Int) (x : List UInt8 × Bool × Bool) : Prop :=
  ∀ w : World, Calls Tryd.prog 66 #[.int .u8 v, .int .u8 k] w fun e w' => e = .returned (.tuple #[strV x.1, .bool x.2.1, .bool x.2.2]) ∧ w = w'

theorem rfields_1_1 : RFieldsIs 1 1 ([97], true, true) := by
  intro w
  go_enter Tryd.func66, Tryd.ntmps66
  go_wp2
  go_ret3
  exact ⟨rfl, rfl⟩
theorem rfields_1_2 : RFieldsIs 1 2 ([97], false, true) := by
  intro w
  go_enter Tryd.func66, Tryd.ntmps66
  go_wp2
  go_ret3
  exact ⟨rfl, rfl⟩
theorem rfields_1_3 : RFieldsIs 1 3 ([105], true, true) := by
  intro w
  go_enter Tryd.func66, Tryd.ntmps66
  go_wp2
  go_ret3
  exact ⟨rfl, rfl⟩
theorem rfields_1_4 : RFieldsIs 1 4 ([105], false, true) := by
  intro w
  go_enter Tryd.func66, Tryd.ntmps66
  go_wp2
  go_ret3
  exact ⟨rfl, rfl⟩
theorem rfields_1_5 : RFieldsIs 1 5 ([105], false, true) := by
  intro w
  go_enter Tryd.func66, Tryd.ntmps66
  go_wp2
  go_ret3
  exact ⟨rfl, rfl⟩
theorem rfields_1_6 : RFieldsIs 1 6 ([97, 109], false, true) := by
  intro w
  go_enter Tryd.func66, Tryd.ntmps66
  go_wp2
  go_ret3
  exact ⟨rfl, rfl⟩
theorem rfields_1_7 : RFieldsIs 1 7 ([97, 109], false, true) := by
  intro w
  go_enter Tryd.func66, Tryd.ntmps66
  go_wp2
  go_ret3
  exact ⟨rfl, rfl⟩
theorem rfields_1_8 : RFieldsIs 1 8 ([97, 105, 113], false, true) := by
  intro w
  go_enter Tryd.func66, Tryd.ntmps66
  go_wp2
  go_ret3
  exact ⟨rfl, rfl⟩
theorem rfields_1_9 : RFieldsIs 1 9 ([97, 105, 113], false, true) := by
  intro w
  go_enter Tryd.func66, Tryd.ntmps66
  go_wp2
  go_ret3
  exact ⟨rfl, rfl⟩
theorem rfields_1_10 : RFieldsIs 1 10 ([98], false, true) := by
  intro w
  go_enter Tryd.func66, Tryd.ntmps66
  go_wp2
  go_ret3
  exact ⟨rfl, rfl⟩
theorem rfields_1_11 : RFieldsIs 1 11 ([111, 97, 105, 115, 112, 113], false, true) := by
  intro w
  go_enter Tryd.func66, Tryd.ntmps66
  go_wp2
  go_ret3
  exact ⟨rfl, rfl⟩
theorem rfields_1_12 : RFieldsIs 1 12 ([111], false, true) := by
  intro w
  go_enter Tryd.func66, Tryd.ntmps66
  go_wp2
  go_ret3
  exact ⟨rfl, rfl⟩
theorem rfields_1_13 : RFieldsIs 1 13 ([111, 111, 112, 113], false, true) := by
  intro w
  go_enter Tryd.func66, Tryd.ntmps66
  go_wp2
  go_ret3
  exact ⟨rfl, rfl⟩
theorem rfields_1_14 : RFieldsIs 1 14 ([99, 97, 105, 113, 109, 116], false, true) := by
  intro w
  go_enter Tryd.func66, Tryd.ntmps66
  go_wp2
  go_ret3
  exact ⟨rfl, rfl⟩
theorem rfields_1_15 : RFieldsIs 1 15 ([99, 97, 109], false, true) := by
  intro w
  go_enter Tryd.func66, Tryd.ntmps66
  go_wp2
  go_ret3
  exact ⟨rfl, rfl⟩
theorem rfields_1_16 : RFieldsIs 1 16 ([99, 97, 105, 113, 109, 116], false, true) := by
  intro w
  go_enter Tryd.func66, Tryd.ntmps66
  go_wp2
  go_ret3
  exact ⟨rfl, rfl⟩
theorem rfields_1_17 : RFieldsIs 1 17 ([99, 97, 109], false, true) := by
  intro w
  go_enter Tryd.func66, Tryd.ntmps66
  go_wp2
  go_ret3
  exact ⟨rfl, rfl⟩
theorem rfields_1_18 : RFieldsIs 1 18 ([99, 97, 109], false, true) := by
  intro w
  go_enter Tryd.func66, Tryd.ntmps66
  go_wp2
  go_ret3
  exact ⟨rfl, rfl⟩
theorem rfields_1_19 : RFieldsIs 1 19 ([99], false, true) := by
  intro w
  go_enter Tryd.func66, Tryd.ntmps66
  go_wp2
  go_ret3
  exact ⟨rfl, rfl⟩
theorem rfields_1_20 : RFieldsIs 1 20 ([116], false, true) := by
  intro w
  go_enter Tryd.func66, Tryd.ntmps66
  go_wp2
  go_ret3
  exact ⟨rfl, rfl⟩
theorem rfields_1_21 : RFieldsIs 1 21 ([], false, false) := by
  intro w
  go_enter Tryd.func66, Tryd.ntmps66
  go_wp2
  go_ret3
  exact ⟨rfl, rfl⟩
theorem rfields_1_22 : RFieldsIs 1 22 ([], false, false) := by
  intro w
  go_enter Tryd.func66, Tryd.ntmps66
  go_wp2
  go_ret3
  exact ⟨rfl, rfl⟩
theorem rfields_1_23 : RFieldsIs 1 23 ([], false, false) := by
  intro w
  go_enter Tryd.func66, Tryd.ntmps66
  go_wp2
  go_ret3
  exact ⟨rfl, rfl⟩
theorem rfields_2_1 : RFieldsIs 2 1 ([97], true, true) := by
  intro w
  go_enter Tryd.func66, Tryd.ntmps66
  go_wp2
  go_ret3
  exact ⟨rfl, rfl⟩
theorem rfields_2_2 : RFieldsIs 2 2 ([97], false, true) := by
  intro w
  go_enter Tryd.func66, Tryd.ntmps66
  go_wp2
  go_ret3
  exact ⟨rfl, rfl⟩
theorem rfields_2_3 : RFieldsIs 2 3 ([105, 107], true, true) := by
  intro w
  go_enter Tryd.func66, Tryd.ntmps66
  go_wp2
  go_ret3
  exact ⟨rfl, rfl⟩
theorem rfields_2_4 : RFieldsIs 2 4 ([105], false, true) := by
  intro w
  go_enter Tryd.func66, Tryd.ntmps66
  go_wp2
  go_ret3
  exact ⟨rfl, rfl⟩
theorem rfields_2_5 : RFieldsIs 2 5 ([105], false, true) := by
  intro w
  go_enter Tryd.func66, Tryd.ntmps66
  go_wp2
  go_ret3
  exact ⟨rfl, rfl⟩
theorem rfields_2_6 : RFieldsIs 2 6 ([97, 109], false, true) := by
  intro w
  go_enter Tryd.func66, Tryd.ntmps66
  go_wp2
  go_ret3
  exact ⟨rfl, rfl⟩
theorem rfields_2_7 : RFieldsIs 2 7 ([97, 109], false, true) := by
  intro w
  go_enter Tryd.func66, Tryd.ntmps66
  go_wp2
  go_ret3
  exact ⟨rfl, rfl⟩
theorem rfields_2_8 : RFieldsIs 2 8 ([97, 105, 113], false, true) := by
  intro w
  go_enter Tryd.func66, Tryd.ntmps66
  go_wp2
  go_ret3
  exact ⟨rfl, rfl⟩
theorem rfields_2_9 : RFieldsIs 2 9 ([97, 105, 113], false, true) := by
  intro w
  go_enter Tryd.func66, Tryd.ntmps66
  go_wp2
  go_ret3
  exact ⟨rfl, rfl⟩
theorem rfields_2_10 : RFieldsIs 2 10 ([98], false, true) := by
  intro w
  go_enter Tryd.func66, Tryd.ntmps66
  go_wp2
  go_ret3
  exact ⟨rfl, rfl⟩
theorem rfields_2_11 : RFieldsIs 2 11 ([111, 97, 105, 115, 112, 113], false, true) := by
  intro w
  go_enter Tryd.func66, Tryd.ntmps66
  go_wp2
  go_ret3
  exact ⟨rfl, rfl⟩
theorem rfields_2_12 : RFieldsIs 2 12 ([111], false, true) := by
  intro w
  go_enter Tryd.func66, Tryd.ntmps66
  go_wp2
  go_ret3
  exact ⟨rfl, rfl⟩
theorem rfields_2_13 : RFieldsIs 2 13 ([111, 111, 112, 113, 122], false, true) := by
  intro w
  go_enter Tryd.func66, Tryd.ntmps66
  go_wp2
  go_ret3
  exact ⟨rfl, rfl⟩
theorem rfields_2_14 : RFieldsIs 2 14 ([99, 97, 105, 113, 109, 109, 116], false, true) := by
  intro w
  go_enter Tryd.func66, Tryd.ntmps66
  go_wp2
  go_ret3
  exact ⟨rfl, rfl⟩
theorem rfields_2_15 : RFieldsIs 2 15 ([99, 97, 109], false, true) := by
  intro w
  go_enter Tryd.func66, Tryd.ntmps66
  go_wp2
  go_ret3
  exact ⟨rfl, rfl⟩
theorem rfields_2_16 : RFieldsIs 2 16 ([99, 97, 105, 113, 109, 116], false, true) := by
  intro w
  go_enter Tryd.func66, Tryd.ntmps66
  go_wp2
  go_ret3
  exact ⟨rfl, rfl⟩
theorem rfields_2_17 : RFieldsIs 2 17 ([99, 97, 109], false, true) := by
  intro w
  go_enter Tryd.func66, Tryd.ntmps66
  go_wp2
  go_ret3
  exact ⟨rfl, rfl⟩
theorem rfields_2_18 : RFieldsIs 2 18 ([99, 97, 109, 122], false, true) := by
  intro w
  go_enter Tryd.func66, Tryd.ntmps66
  go_wp2
  go_ret3
  exact ⟨rfl, rfl⟩
theorem rfields_2_19 : RFieldsIs 2 19 ([99], false, true) := by
  intro w
  go_enter Tryd.func66, Tryd.ntmps66
  go_wp2
  go_ret3
  exact ⟨rfl, rfl⟩
theorem rfields_2_20 : RFieldsIs 2 20 ([116], false, true) := by
  intro w
  go_enter Tryd.func66, Tryd.ntmps66
  go_wp2
  go_ret3
  exact ⟨rfl, rfl⟩
theorem rfields_2_21 : RFieldsIs 2 21 ([97, 97, 109], false, true) := by
  intro w
  go_enter Tryd.func66, Tryd.ntmps66
  go_wp2
  go_ret3
  exact ⟨rfl, rfl⟩
theorem rfields_2_22 : RFieldsIs 2 22 ([], false, false) := by
  intro w
  go_enter Tryd.func66, Tryd.ntmps66
  go_wp2
  go_ret3
  exact ⟨rfl, rfl⟩
theorem rfields_2_23 : RFieldsIs 2 23 ([], false, false) := by
  intro w
  go_enter Tryd.func66, Tryd.ntmps66
  go_wp2
  go_ret3
  exact ⟨rfl, rfl⟩
theorem rfields_3_1 : RFieldsIs 3 1 ([97], true, true) := by
  intro w
  go_enter Tryd.func66, Tryd.ntmps66
  go_wp2
  go_ret3
  exact ⟨rfl, rfl⟩
theorem rfields_3_2 : RFieldsIs 3 2 ([97], false, true) := by
  intro w
  go_enter Tryd.func66, Tryd.ntmps66
  go_wp2
  go_ret3
  exact ⟨rfl, rfl⟩
theorem rfields_3_3 : RFieldsIs 3 3 ([105, 107], true, true) := by
  intro w
  go_enter Tryd.func66, Tryd.ntmps66
  go_wp2
  go_ret3
  exact ⟨rfl, rfl⟩
theorem rfields_3_4 : RFieldsIs 3 4 ([105], false, true) := by
  intro w
  go_enter Tryd.func66, Tryd.ntmps66
  go_wp2
  go_ret3
  exact ⟨rfl, rfl⟩
theorem rfields_3_5 : RFieldsIs 3 5 ([105], false, true) := by
  intro w
  go_enter Tryd.func66, Tryd.ntmps66
  go_wp2
  go_ret3
  exact ⟨rfl, rfl⟩
theorem rfields_3_6 : RFieldsIs 3 6 ([97, 109], false, true) := by
  intro w
  go_enter Tryd.func66, Tryd.ntmps66
  go_wp2
  go_ret3
  exact ⟨rfl, rfl⟩
theorem rfields_3_7 : RFieldsIs 3 7 ([97, 109], false, true) := by
  intro w
  go_enter Tryd.func66, Tryd.ntmps66
  go_wp2
  go_ret3
  exact ⟨rfl, rfl⟩
theorem rfields_3_8 : RFieldsIs 3 8 ([97, 105, 113], false, true) := by
  intro w
  go_enter Tryd.func66, Tryd.ntmps66
  go_wp2
  go_ret3
  exact ⟨rfl, rfl⟩
theorem rfields_3_9 : RFieldsIs 3 9 ([97, 105, 113], false, true) := by
  intro w
  go_enter Tryd.func66, Tryd.ntmps66
  go_wp2
  go_ret3
  exact ⟨rfl, rfl⟩
theorem rfields_3_10 : RFieldsIs 3 10 ([98], false, true) := by
  intro w
  go_enter Tryd.func66, Tryd.ntmps66
  go_wp2
  go_ret3
  exact ⟨rfl, rfl⟩
theorem rfields_3_11 : RFieldsIs 3 11 ([111, 97, 105, 115, 112, 113], false, true) := by
  intro w
  go_enter Tryd.func66, Tryd.ntmps66
  go_wp2
  go_ret3
  exact ⟨rfl, rfl⟩
theorem rfields_3_12 : RFieldsIs 3 12 ([111], false, true) := by
  intro w
  go_enter Tryd.func66, Tryd.ntmps66
  go_wp2
  go_ret3
  exact ⟨rfl, rfl⟩
theorem rfields_3_13 : RFieldsIs 3 13 ([111, 111, 112, 113, 122], false, true) := by
  intro w
  go_enter Tryd.func66, Tryd.ntmps66
  go_wp2
  go_ret3
  exact ⟨rfl, rfl⟩
theorem rfields_3_14 : RFieldsIs 3 14 ([99, 97, 105, 113, 109, 109, 116], false, true) := by
  intro w
  go_enter Tryd.func66, Tryd.ntmps66
  go_wp2
  go_ret3
  exact ⟨rfl, rfl⟩
theorem rfields_3_15 : RFieldsIs 3 15 ([99, 97, 109], false, true) := by
  intro w
  go_enter Tryd.func66, Tryd.ntmps66
  go_wp2
  go_ret3
  exact ⟨rfl, rfl⟩
theorem rfields_3_16 : RFieldsIs 3 16 ([99, 97, 105, 113, 109, 116], false, true) := by
  intro w
  go_enter Tryd.func66, Tryd.ntmps66
  go_wp2
  go_ret3
  exact ⟨rfl, rfl⟩
theorem rfields_3_17 : RFieldsIs 3 17 ([99, 97, 109], false, true) := by
  intro w
  go_enter Tryd.func66, Tryd.ntmps66
  go_wp2
  go_ret3
  exact ⟨rfl, rfl⟩
theorem rfields_3_18 : RFieldsIs 3 18 ([99, 97, 109, 122], false, true) := by
  intro w
  go_enter Tryd.func66, Tryd.ntmps66
  go_wp2
  go_ret3
  exact ⟨rfl, rfl⟩
theorem rfields_3_19 : RFieldsIs 3 19 ([99], false, true) := by
  intro w
  go_enter Tryd.func66, Tryd.ntmps66
  go_wp2
  go_ret3
  exact ⟨rfl, rfl⟩
theorem rfields_3_20 : RFieldsIs 3 20 ([116], false, true) := by
  intro w
  go_enter Tryd.func66, Tryd.ntmps66
  go_wp2
  go_ret3
  exact ⟨rfl, rfl⟩
theorem rfields_3_21 : RFieldsIs 3 21 ([97, 97, 109], false, true) := by
  intro w
  go_enter Tryd.func66, Tryd.ntmps66
  go_wp2
  go_ret3
  exact ⟨rfl, rfl⟩
theorem rfields_3_22 : RFieldsIs 3 22 ([97], true, true) := by
  intro w
  go_enter Tryd.func66, Tryd.ntmps66
  go_wp2
  go_ret3
  exact ⟨rfl, rfl⟩
theorem rfields_3_23 : RFieldsIs 3 23 ([105, 107], false, true) := by
  intro w
  go_enter Tryd.func66, Tryd.ntmps66
  go_wp2
  go_ret3
  exact ⟨rfl, rfl⟩
theorem rfields_1 (k : Nat) (_h1 : ((k : Int) == 1) = false) (_h2 : ((k : Int) == 2) = false) (_h3 : ((k : Int) == 3) = false) (_h4 : ((k : Int) == 4) = false) (_h5 : ((k : Int) == 5) = false) (_h6 : ((k : Int) == 6) = false) (_h7 : ((k : Int) == 7) = false) (_h8 : ((k : Int) == 8) = false) (_h9 : ((k : Int) == 9) = false) (_h10 : ((k : Int) == 10) = false) (_h11 : ((k : Int) == 11) = false) (_h12 : ((k : Int) == 12) = false) (_h13 : ((k : Int) == 13) = false) (_h14 : ((k : Int) == 14) = false) (_h15 : ((k : Int) == 15) = false) (_h16 : ((k : Int) == 16) = false) (_h17 : ((k : Int) == 17) = false) (_h18 : ((k : Int) == 18) = false) (_h19 : ((k : Int) == 19) = false) (_h20 : ((k : Int) == 20) = false) (_h21 : ((k : Int) == 21) = false) (_h22 : ((k : Int) == 22) = false) (_h23 : ((k : Int) == 23) = false) : RFieldsIs 1 k ([], false, false) := by
  intro w
  go_enter Tryd.func66, Tryd.ntmps66
  go_wp2
  go_ret3
  exact ⟨rfl, rfl⟩
theorem rfields_2 (k : Nat) (_h1 : ((k : Int) == 1) = false) (_h2 : ((k : Int) == 2) = false) (_h3 : ((k : Int) == 3) = false) (_h4 : ((k : Int) == 4) = false) (_h5 : ((k : Int) == 5) = false) (_h6 : ((k : Int) == 6) = false) (_h7 : ((k : Int) == 7) = false) (_h8 : ((k : Int) == 8) = false) (_h9 : ((k : Int) == 9) = false) (_h10 : ((k : Int) == 10) = false) (_h11 : ((k : Int) == 11) = false) (_h12 : ((k : Int) == 12) = false) (_h13 : ((k : Int) == 13) = false) (_h14 : ((k : Int) == 14) = false) (_h15 : ((k : Int) == 15) = false) (_h16 : ((k : Int) == 16) = false) (_h17 : ((k : Int) == 17) = false) (_h18 : ((k : Int) == 18) = false) (_h19 : ((k : Int) == 19) = false) (_h20 : ((k : Int) == 20) = false) (_h21 : ((k : Int) == 21) = false) (_h22 : ((k : Int) == 22) = false) (_h23 : ((k : Int) == 23) = false) : RFieldsIs 2 k ([], false, false) := by
  intro w
  go_enter Tryd.func66, Tryd.ntmps66
  go_wp2
  go_ret3
  exact ⟨rfl, rfl⟩
theorem rfields_3 (k : Nat) (_h1 : ((k : Int) == 1) = false) (_h2 : ((k : Int) == 2) = false) (_h3 : ((k : Int) == 3) = false) (_h4 : ((k : Int) == 4) = false) (_h5 : ((k : Int) == 5) = false) (_h6 : ((k : Int) == 6) = false) (_h7 : ((k : Int) == 7) = false) (_h8 : ((k : Int) == 8) = false) (_h9 : ((k : Int) == 9) = false) (_h10 : ((k : Int) == 10) = false) (_h11 : ((k : Int) == 11) = false) (_h12 : ((k : Int) == 12) = false) (_h13 : ((k : Int) == 13) = false) (_h14 : ((k : Int) == 14) = false) (_h15 : ((k : Int) == 15) = false) (_h16 : ((k : Int) == 16) = false) (_h17 : ((k : Int) == 17) = false) (_h18 : ((k : Int) == 18) = false) (_h19 : ((k : Int) == 19) = false) (_h20 : ((k : Int) == 20) = false) (_h21 : ((k : Int) == 21) = false) (_h22 : ((k : Int) == 22) = false) (_h23 : ((k : Int) == 23) = false) : RFieldsIs 3 k ([], false, false) := by
  intro w
  go_enter Tryd.func66, Tryd.ntmps66
  go_wp2
  go_ret3
  exact ⟨rfl, rfl⟩
theorem rfields_0 (k : Nat) : RFieldsIs 0 k ([], false, false) := by
  intro w
  go_enter Tryd.func66, Tryd.ntmps66
  go_wp2
  go_ret3
  exact ⟨rfl, rfl⟩
theorem rfields_4 (v k : Nat) (h : decide ((3 : Int) < (v : Int)) = true) (h1 : decide ((v : Int) < 1) = false) : RFieldsIs v k ([], false, false) := by
  intro w
  go_enter Tryd.func66, Tryd.ntmps66
  go_wp2
  go_ret3
  exact ⟨rfl, rfl⟩
theorem fieldsS_out (v k : Nat) (h : v = 0 ∨ 3 < v) : fieldsS v k = ([], false, false) := by unfold fieldsS toldS; rw [if_pos h]
theorem eventT_out (k : Nat) (h : k = 0 ∨ 23 < k) : eventT k = noRow := by
  unfold eventT
  rcases h with rfl | h
  · rfl
  · rw [if_neg (by omega), List.getElem?_eq_none (by simp [kindsT]; omega)]; rfl
theorem fieldsS_none (v k : Nat) (h : k = 0 ∨ 23 < k) : fieldsS v k = ([], false, false) := by
  unfold fieldsS
  rw [eventT_out k h]
  unfold toldS
  split
  · rfl
  · rw [if_pos]
    unfold fieldT noRow
    split
    · rfl
    · split <;> rfl
theorem rfields_any (v k : Nat) : RFieldsIs v k (fieldsS v k) := by
  by_cases hv : v = 0 ∨ 3 < v
  · rw [fieldsS_out v k hv]
    rcases hv with rfl | hv
    · exact rfields_0 k
    · exact rfields_4 v k (by simp; omega) (by simp; omega)
  · have hv : v = 1 ∨ v = 2 ∨ v = 3 := by omega
    have hk : k = 1 ∨ k = 2 ∨ k = 3 ∨ k = 4 ∨ k = 5 ∨ k = 6 ∨ k = 7 ∨ k = 8 ∨ k = 9 ∨ k = 10 ∨ k = 11 ∨ k = 12 ∨ k = 13 ∨ k = 14 ∨ k = 15 ∨ k = 16 ∨ k = 17 ∨ k = 18 ∨ k = 19 ∨ k = 20 ∨ k = 21 ∨ k = 22 ∨ k = 23 ∨ (k = 0 ∨ 23 < k) := by omega
    rcases hv with rfl | rfl | rfl
    · rcases hk with rfl | rfl | rfl | rfl | rfl | rfl | rfl | rfl | rfl | rfl | rfl | rfl | rfl | rfl | rfl | rfl | rfl | rfl | rfl | rfl | rfl | rfl | rfl | hk
      · exact rfields_1_1
      · exact rfields_1_2
      · exact rfields_1_3
      · exact rfields_1_4
      · exact rfields_1_5
      · exact rfields_1_6
      · exact rfields_1_7
      · exact rfields_1_8
      · exact rfields_1_9
      · exact rfields_1_10
      · exact rfields_1_11
      · exact rfields_1_12
      · exact rfields_1_13
      · exact rfields_1_14
      · exact rfields_1_15
      · exact rfields_1_16
      · exact rfields_1_17
      · exact rfields_1_18
      · exact rfields_1_19
      · exact rfields_1_20
      · exact rfields_1_21
      · exact rfields_1_22
      · exact rfields_1_23
      · rw [fieldsS_none _ k hk]
        exact rfields_1 k (by simp; omega) (by simp; omega) (by simp; omega) (by simp; omega) (by simp; omega) (by simp; omega) (by simp; omega) (by simp; omega) (by simp; omega) (by simp; omega) (by simp; omega) (by simp; omega) (by simp; omega) (by simp; omega) (by simp; omega) (by simp; omega) (by simp; omega) (by simp; omega) (by simp; omega) (by simp; omega) (by simp; omega) (by simp; omega) (by simp; omega)
    · rcases hk with rfl | rfl | rfl | rfl | rfl | rfl | rfl | rfl | rfl | rfl | rfl | rfl | rfl | rfl | rfl | rfl | rfl | rfl | rfl | rfl | rfl | rfl | rfl | hk
      · exact rfields_2_1
      · exact rfields_2_2
      · exact rfields_2_3
      · exact rfields_2_4
      · exact rfields_2_5
      · exact rfields_2_6
      · exact rfields_2_7
      · exact rfields_2_8
      · exact rfields_2_9
      · exact rfields_2_10
      · exact rfields_2_11
      · exact rfields_2_12
      · exact rfields_2_13
      · exact rfields_2_14
      · exact rfields_2_15
      · exact rfields_2_16
      · exact rfields_2_17
      · exact rfields_2_18
      · exact rfields_2_19
      · exact rfields_2_20
      · exact rfields_2_21
      · exact rfields_2_22
      · exact rfields_2_23
      · rw [fieldsS_none _ k hk]
        exact rfields_2 k (by simp; omega) (by simp; omega) (by simp; omega) (by simp; omega) (by simp; omega) (by simp; omega) (by simp; omega) (by simp; omega) (by simp; omega) (by simp; omega) (by simp; omega) (by simp; omega) (by simp; omega) (by simp; omega) (by simp; omega) (by simp; omega) (by simp; omega) (by simp; omega) (by simp; omega) (by simp; omega) (by simp; omega) (by simp; omega) (by simp; omega)
    · rcases hk with rfl | rfl | rfl | rfl | rfl | rfl | rfl | rfl | rfl | rfl | rfl | rfl | rfl | rfl | rfl | rfl | rfl | rfl | rfl | rfl | rfl | rfl | rfl | hk
      · exact rfields_3_1
      · exact rfields_3_2
      · exact rfields_3_3
      · exact rfields_3_4
      · exact rfields_3_5
      · exact rfields_3_6
      · exact rfields_3_7
      · exact rfields_3_8
      · exact rfields_3_9
      · exact rfields_3_10
      · exact rfields_3_11
      · exact rfields_3_12
      · exact rfields_3_13
      · exact rfields_3_14
      · exact rfields_3_15
      · exact rfields_3_16
      · exact rfields_3_17
      · exact rfields_3_18
      · exact rfields_3_19
      · exact rfields_3_20
      · exact rfields_3_21
      · exact rfields_3_22
      · exact rfields_3_23
      · rw [fieldsS_none _ k hk]
        exact rfields_3 k (by simp; omega) (by simp; omega) (by simp; omega) (by simp; omega) (by simp; omega) (by simp; omega) (by simp; omega) (by simp; omega) (by simp; omega) (by simp; omega) (by simp; omega) (by simp; omega) (by simp; omega) (by simp; omega) (by simp; omega) (by simp; omega) (by simp; omega) (by simp; omega) (by simp; omega) (by simp; omega) (by simp; omega) (by simp; omega) (by simp; omega)

theorem mayNameS_len (s : List UInt8) (h : s.length < 1 ∨ 24 < s.length) : mayNameS s = false := by
  unfold mayNameS
  rw [Bool.and_eq_false_iff]
  right
  rcases h with h | h
  · rw [decide_eq_false (by omega)]; rfl
  · rw [decide_eq_false (p := s.length ≤ 24) (by omega), Bool.and_false]
theorem mayNameS_all (s : List UInt8) (h1 : 1 ≤ s.length) (h2 : s.length ≤ 24) (h : s.all (fun c => nameB c.toNat) = true) : mayNameS s = true := by
  unfold mayNameS
  rw [h, decide_eq_true h1, decide_eq_true h2]; rfl

set_option maxHeartbeats 2000000 in
set_option maxRecDepth 100000 in
theorem rMayName_any (s : List UInt8) (w : World) :
    Calls Tryd.prog 69 #[strV s] w fun e w' => e = .returned (.bool (mayNameS s)) ∧ w = w' := by
  unfold strV
  by_cases h1 : s.length < 1
  · rw [mayNameS_len s (.inl h1)]
    have d1 : decide ((s.length : Int) < 1) = true := by simp; omega
    go_enter Tryd.func69, Tryd.ntmps69
    go_wp2_with fail
    go_ret
    exact ⟨rfl, rfl⟩
  have d1 : decide ((s.length : Int) < 1) = false := by simp; omega
  by_cases h2 : 24 < s.length
  · rw [mayNameS_len s (.inr h2)]
    have d2 : decide ((24 : Int) < (s.length : Int)) = true := by simp; omega
    clear h1
    go_enter Tryd.func69, Tryd.ntmps69
    go_wp2_with fail
    go_ret
    exact ⟨rfl, rfl⟩
  have d2 : decide ((24 : Int) < (s.length : Int)) = false := by simp; omega
  have HT := hid (fun h => mayNameS_all s (by omega) (by omega) h)
  have HNN := hid (fun i (hi : i < s.length) (hc : nameB s[i].toNat = false) => all_not s i hi hc)
  have hlen : s.length ≤ 24 := by omega
  generalize mayNameS s = R at HT HNN ⊢
  clear h1 h2
  go_enter Tryd.func69, Tryd.ntmps69
  go_wp2_with fail
  go_loop [3] (fun c => ∃ i : Nat, i ≤ s.length ∧ c = .int .i64 i ∧ Hid ((s.take i).all (fun c => nameB c.toNat) = true)) (fun c => s.length - (intOf c).toNat)
  case atStart => exact ⟨0, Nat.zero_le _, rfl, hid (by simp)⟩
  case round =>
    obtain ⟨i, hi, rfl, HA⟩ := hrel
    by_cases hlt : i < s.length
    · have hd : decide ((i : Int) < (s.length : Int)) = true := by simp; omega
      have hsz : i < ({ data := s.toArray } : ByteArray).size := hlt
      obtain ⟨cb, hcb⟩ : ∃ cb, cb = s[i].toNat := ⟨_, rfl⟩
      have hx : (({ data := s.toArray } : ByteArray)[i]'hsz).toNat = cb := by rw [hcb]; rfl
      have HCB := hid hcb
      clear hcb
      have hcl : cb < 256 := by rw [HCB.out]; exact s[i].toNat_lt
      have HS := hid (fun (h : nameB cb = true) => all_snoc s i hlt HA.out (by rw [← HCB.out]; exact h))
      have HN := hid (fun (h : nameB cb = false) => HNN.out i hlt (by rw [← HCB.out]; exact h))
      go_wp2_with fail
      all_goals first
        | (go_round
           case rel => exact ⟨i + 1, by omega, by go_num, hid (HS.out (by (try simp only [Bool.not_eq_false', decide_eq_false_iff_not, decide_eq_true_eq, beq_iff_eq] at *); simp [nameB]; omega))⟩
           case measure => simp [intOf]; omega)
        | (go_ret
           exact ⟨congrArg (fun z => Ending.returned (.bool z)) (HN.out (by (try simp only [Bool.not_eq_true', decide_eq_false_iff_not, decide_eq_true_eq, beq_eq_false_iff_ne, ne_eq] at *); simp [nameB]; omega)).symm, rfl⟩)
    · have hd : decide ((i : Int) < (s.length : Int)) = false := by simp; omega
      go_wp2_with fail
      go_ret
      refine ⟨congrArg (fun z => Ending.returned (.bool z)) (HT.out ?_).symm, rfl⟩
      have := HA.out
      rwa [List.take_of_length_le (by omega)] at this

theorem fits_parts (v c : Nat) (x : Int) (lo hi : Int) (is : Bool) (hb : boundS v c = (lo, hi, is)) : fitsS v c x = (is && (decide (lo ≤ x) && decide (x ≤ hi))) := by
  unfold fitsS; rw [hb]

set_option maxHeartbeats 2000000 in
set_option maxRecDepth 100000 in
theorem rAll_any (v : Nat) (l : List UInt8) (n : List Int) (qn : Option Addr) (cn : Nat) (w : World) (hl : l.length ≤ 1000)
    (h2 : SlAt w qn (n.map numV)) :
    Calls Tryd.prog 83 #[.int .u8 v, strV l, .slice qn n.length cn] w fun e w' => e = .returned (.bool (allS v l n)) ∧ w = w' := by
  unfold strV
  by_cases hne : l.length = n.length
  · have HG := hid (fun (h : ∀ (i : Nat) (c : UInt8) (x : Int), l[i]? = some c → n[i]? = some x → fitsS v c.toNat x = true) => allS_good hne h)
    have HB := hid (fun (i : Nat) (c : UInt8) (x : Int) (a : l[i]? = some c) (b : n[i]? = some x) (hf : fitsS v c.toNat x = false) => allS_bad a b hf)
    have H2 := hid h2
    have hd0 : ((l.length : Int) != (n.length : Int)) = false := by simp [hne]
    have HN := hid hne
    generalize allS v l n = A at HG HB ⊢
    clear h2 hne
    go_enter Tryd.func83, Tryd.ntmps83
    go_wp2_with fail
    go_loop [7] (fun c => ∃ i : Nat, i ≤ l.length ∧ c = .int .i64 i ∧ Hid (∀ (j : Nat) (c : UInt8) (x : Int), j < i → l[j]? = some c → n[j]? = some x → fitsS v c.toNat x = true)) (fun c => l.length - (intOf c).toNat)
    case atStart => exact ⟨0, Nat.zero_le _, rfl, hid (fun j _ _ h => absurd h (Nat.not_lt_zero _))⟩
    case round =>
      obtain ⟨i, hi, rfl, HA⟩ := hrel
      by_cases hlt : i < l.length
      · have hd : decide ((i : Int) < (l.length : Int)) = true := by simp; omega
        obtain ⟨c, hc⟩ : ∃ c, l[i]? = some c := ⟨_, List.getElem?_eq_getElem hlt⟩
        obtain ⟨x, hx⟩ : ∃ x, n[i]? = some x := ⟨_, List.getElem?_eq_getElem (by have := HN.out; omega)⟩
        obtain ⟨b2, o2, rfl, hc2⟩ := H2.out i (numV x) (by simp [hx])
        unfold numV at hc2
        have hsz : i < ({ data := l.toArray } : ByteArray).size := hlt
        have hix : (({ data := l.toArray } : ByteArray)[i]'hsz).toNat = c.toNat := by
          have := (List.getElem?_eq_some_iff.1 hc).2
          rw [← this]; rfl
        have hin : (i : Int) < (n.length : Int) := by have := HN.out; omega
        have HC := hid (And.intro hc hx)
        have HBd := hid (rbound_any v c.toNat)
        have hfp := fits_parts v c.toNat x
        generalize boundS v c.toNat = bd at HBd hfp
        obtain ⟨lo, hi', is⟩ := bd
        have hfp := hfp lo hi' is rfl
        unfold RBoundIs at HBd
        simp only at HBd
        clear hc hx H2
        cases hb : fitsS v c.toNat x with
        | false =>
          have HBB := hid hb
          rw [hb] at hfp
          clear hb
          have hcase : is = false ∨ (is = true ∧ x < lo) ∨ (is = true ∧ lo ≤ x ∧ hi' < x) := by
            cases is
            · exact .inl rfl
            · right
              simp only [Bool.true_and] at hfp
              by_cases h1 : lo ≤ x
              · right
                rw [decide_eq_true h1, Bool.true_and] at hfp
                have := of_decide_eq_false hfp.symm
                exact ⟨rfl, h1, by omega⟩
              · exact .inl ⟨rfl, by omega⟩
          clear hfp
          rcases hcase with rfl | ⟨rfl, h1⟩ | ⟨rfl, h1, h3⟩
          · go_wp2_with (first | (go_at_call 67; refine (HBd.out _).mono ?_; rintro e1 w1 ⟨rfl, rfl⟩))
            go_ret
            exact ⟨congrArg (fun z => Ending.returned (.bool z)) (HB.out i c x HC.out.1 HC.out.2 HBB.out).symm, rfl⟩
          · have c1 : decide (x < lo) = true := by simpa using h1
            go_wp2_with (first | (go_at_call 67; refine (HBd.out _).mono ?_; rintro e1 w1 ⟨rfl, rfl⟩))
            go_ret
            exact ⟨congrArg (fun z => Ending.returned (.bool z)) (HB.out i c x HC.out.1 HC.out.2 HBB.out).symm, rfl⟩
          · have c1 : decide (x < lo) = false := by simpa using h1
            have c2 : decide (hi' < x) = true := by simpa using h3
            clear h1
            go_wp2_with (first | (go_at_call 67; refine (HBd.out _).mono ?_; rintro e1 w1 ⟨rfl, rfl⟩))
            go_ret
            exact ⟨congrArg (fun z => Ending.returned (.bool z)) (HB.out i c x HC.out.1 HC.out.2 HBB.out).symm, rfl⟩
        | true =>
          have HBB := hid hb
          rw [hb] at hfp
          clear hb
          have hp : is = true ∧ lo ≤ x ∧ x ≤ hi' := by
            cases is
            · cases hfp
            · have := hfp.symm
              simp only [Bool.true_and, Bool.and_eq_true, decide_eq_true_eq] at this
              exact ⟨rfl, this⟩
          clear hfp
          obtain ⟨rfl, h1, h3⟩ := hp
          have c1 : decide (x < lo) = false := by simpa using h1
          have c2 : decide (hi' < x) = false := by simpa using h3
          clear h1 h3
          go_wp2_with (first | (go_at_call 67; refine (HBd.out _).mono ?_; rintro e1 w1 ⟨rfl, rfl⟩))
          go_round
          case rel =>
            refine ⟨i + 1, by omega, by go_num, hid ?_⟩
            intro j c' x' hj a b
            by_cases hji : j = i
            · subst hji
              obtain ⟨e1, e2⟩ := HC.out
              rw [e1] at a
              rw [e2] at b
              cases a; cases b
              exact HBB.out
            · exact HA.out j c' x' (by omega) a b
          case measure => simp [intOf]; omega
      · have hd : decide ((i : Int) < (l.length : Int)) = false := by simp; omega
        go_wp2_with fail
        go_ret
        exact ⟨congrArg (fun z => Ending.returned (.bool z)) (HG.out (fun j c x a b => HA.out j c x (by have := (List.getElem?_eq_some_iff.1 a).1; omega) a b)).symm, rfl⟩
  · have e : allS v l n = false := allS_ne hne
    have hd0 : ((l.length : Int) != (n.length : Int)) = true := by simp; omega
    rw [e]
    clear e hne h2
    go_enter Tryd.func83, Tryd.ntmps83
    go_wp2_with fail
    go_ret
    exact ⟨rfl, rfl⟩

set_option maxHeartbeats 2000000 in
set_option maxRecDepth 100000 in
theorem rMay_any (s : EvP) (e : Ev) (w : World) (he : EvAt w s e) :
    Calls Tryd.prog 56 #[evV s e] w fun en w' => en = .returned (.bool (mayS e)) ∧ Fr No w w' := by
  obtain ⟨qn, cn, qt, ct⟩ := s
  obtain ⟨v, k, ns, ts⟩ := e
  obtain ⟨h1, h2, h3, h4, h5, h6, h7, h8⟩ := he
  simp only at h1 h2 h3 h4 h5 h6 h7
  have H1 := hid (rfields_any v k)
  have hm := mayS_cases ⟨v, k, ns, ts⟩
  have hlen := fieldsS_length v k
  simp only at hm
  generalize fieldsS v k = x at H1 hm hlen
  obtain ⟨l, t, i⟩ := x
  rw [hm l t i rfl]
  clear hm h8
  simp only at hlen
  have HF0 : Fr No w (w.alloc (.cells #[.int .u8 v, .int .u8 k, .slice qn ns.length cn, .slice qt ts.length ct] 34)) := (Fr.refl w).alloc _
  have H2 := hid (rAll_any v l ns qn cn _ (by omega) (h3.fr HF0))
  unfold RFieldsIs at H1
  unfold strV at H1 H2
  simp only at H1
  generalize allS v l ns = A at H2 ⊢
  unfold evV
  simp only
  have HT := hid (And.intro h4 (And.intro h6 h7))
  clear h3 h4 h6 h7 h1 h2
  cases i
  · rw [Bool.false_and]
    go_enter Tryd.func56, Tryd.ntmps56
    go_wp2_with (first
      | (go_at_call 66; refine (H1.out _).mono ?_; rintro e2 w2 ⟨rfl, rfl⟩))
    go_ret
    exact ⟨rfl, HF0⟩
  · cases A
    · rw [Bool.true_and, Bool.false_and]
      go_enter Tryd.func56, Tryd.ntmps56
      go_wp2_with (first
        | (go_at_call 66; refine (H1.out _).mono ?_; rintro e2 w2 ⟨rfl, rfl⟩)
        | (go_at_call 83; refine H2.out.mono ?_; rintro e3 w3 ⟨rfl, rfl⟩))
      go_ret
      exact ⟨rfl, HF0⟩
    · rw [Bool.true_and, Bool.true_and]
      cases t
      · have hd : ((ts.length : Int) == 0) = ts.isEmpty := by cases ts <;> simp; omega
        have HD := hid hd
        clear hd
        simp only [Bool.false_eq_true, if_false]
        generalize ts.isEmpty = R at HD ⊢
        go_enter Tryd.func56, Tryd.ntmps56
        go_wp2_with (first
          | (go_at_call 66; refine (H1.out _).mono ?_; rintro e2 w2 ⟨rfl, rfl⟩)
          | (go_at_call 83; refine H2.out.mono ?_; rintro e3 w3 ⟨rfl, rfl⟩))
        go_ret
        exact ⟨congrArg (fun z => Ending.returned (.bool z)) HD.out, HF0⟩
      · simp only [if_true]
        by_cases h1 : ts.length = 1
        · obtain ⟨s0, rfl⟩ : ∃ s0, ts = [s0] := List.length_eq_one_iff.1 h1
          obtain ⟨g1, _, g3⟩ := HT.out
          obtain ⟨b, o, rfl, hc⟩ := g1 0 (strV s0) rfl
          have hc : w.cell? ⟨b, o, none⟩ = some (strV s0) := hc
          simp only [List.length_cons, List.length_nil, Nat.zero_add, oneName] at HF0 H2 ⊢
          have HN := hid (fun w1 => rMayName_any s0 w1)
          generalize mayNameS s0 = R at HN ⊢
          unfold strV at HN hc
          have hc2 := HF0.cell0 hc
          clear hc g1 g3 HT h1
          go_enter Tryd.func56, Tryd.ntmps56
          go_wp2_with (first
            | (go_at_call 66; refine (H1.out _).mono ?_; rintro e2 w2 ⟨rfl, rfl⟩)
            | (go_at_call 83; refine H2.out.mono ?_; rintro e3 w3 ⟨rfl, rfl⟩)
            | (go_at_call 69; refine (HN.out _).mono ?_; rintro e4 w4 ⟨rfl, rfl⟩))
          go_ret
          exact ⟨rfl, HF0⟩
        · have hd : ((ts.length : Int) == 1) = false := by simp; omega
          have hR : oneName ts = false := by
            match ts, h1 with
            | [], _ => rfl
            | [_], h1 => exact absurd rfl h1
            | _ :: _ :: _, _ => rfl
          rw [hR]
          clear hR h1 HT
          go_enter Tryd.func56, Tryd.ntmps56
          go_wp2_with (first
            | (go_at_call 66; refine (H1.out _).mono ?_; rintro e2 w2 ⟨rfl, rfl⟩)
            | (go_at_call 83; refine H2.out.mono ?_; rintro e3 w3 ⟨rfl, rfl⟩))
          go_ret
          exact ⟨rfl, HF0⟩
end Go.Proofs.YtnmfmedoocnofaaDoor
