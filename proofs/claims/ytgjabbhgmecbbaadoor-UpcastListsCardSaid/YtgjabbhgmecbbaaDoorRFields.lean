/-
  The fields of a kind, by the document.
-/
import Derived.Test.YtgjabbhgmecbbaaDoorSpec
import Derived.OwnWalk
namespace Go.Proofs.YtgjabbhgmecbbaaDoor
open Go.RowKit

def RFieldsIs (v k : Int) (x : List UInt8 × Bool × Bool) : Prop :=
  ∀ w : World, Calls Tryd.prog 41 #[.int .u8 v, .int .u8 k] w fun e w' => e = .returned (.tuple #[strV x.1, .bool x.2.1, .bool x.2.2]) ∧ w = w'

theorem rfields_1_1 : RFieldsIs 1 1 ([97], true, true) := by
  intro w
  go_enter Tryd.func41, Tryd.ntmps41
  go_wp2
  go_ret3
  exact ⟨rfl, rfl⟩
theorem rfields_1_2 : RFieldsIs 1 2 ([97], false, true) := by
  intro w
  go_enter Tryd.func41, Tryd.ntmps41
  go_wp2
  go_ret3
  exact ⟨rfl, rfl⟩
theorem rfields_1_3 : RFieldsIs 1 3 ([105], true, true) := by
  intro w
  go_enter Tryd.func41, Tryd.ntmps41
  go_wp2
  go_ret3
  exact ⟨rfl, rfl⟩
theorem rfields_1_4 : RFieldsIs 1 4 ([105], false, true) := by
  intro w
  go_enter Tryd.func41, Tryd.ntmps41
  go_wp2
  go_ret3
  exact ⟨rfl, rfl⟩
theorem rfields_1_5 : RFieldsIs 1 5 ([105], false, true) := by
  intro w
  go_enter Tryd.func41, Tryd.ntmps41
  go_wp2
  go_ret3
  exact ⟨rfl, rfl⟩
theorem rfields_1_6 : RFieldsIs 1 6 ([97, 109], false, true) := by
  intro w
  go_enter Tryd.func41, Tryd.ntmps41
  go_wp2
  go_ret3
  exact ⟨rfl, rfl⟩
theorem rfields_1_7 : RFieldsIs 1 7 ([97, 109], false, true) := by
  intro w
  go_enter Tryd.func41, Tryd.ntmps41
  go_wp2
  go_ret3
  exact ⟨rfl, rfl⟩
theorem rfields_1_8 : RFieldsIs 1 8 ([97, 105, 113], false, true) := by
  intro w
  go_enter Tryd.func41, Tryd.ntmps41
  go_wp2
  go_ret3
  exact ⟨rfl, rfl⟩
theorem rfields_1_9 : RFieldsIs 1 9 ([97, 105, 113], false, true) := by
  intro w
  go_enter Tryd.func41, Tryd.ntmps41
  go_wp2
  go_ret3
  exact ⟨rfl, rfl⟩
theorem rfields_1_10 : RFieldsIs 1 10 ([98], false, true) := by
  intro w
  go_enter Tryd.func41, Tryd.ntmps41
  go_wp2
  go_ret3
  exact ⟨rfl, rfl⟩
theorem rfields_1_11 : RFieldsIs 1 11 ([111, 97, 105, 115, 112, 113], false, true) := by
  intro w
  go_enter Tryd.func41, Tryd.ntmps41
  go_wp2
  go_ret3
  exact ⟨rfl, rfl⟩
theorem rfields_1_12 : RFieldsIs 1 12 ([111], false, true) := by
  intro w
  go_enter Tryd.func41, Tryd.ntmps41
  go_wp2
  go_ret3
  exact ⟨rfl, rfl⟩
theorem rfields_1_13 : RFieldsIs 1 13 ([111, 111, 112, 113], false, true) := by
  intro w
  go_enter Tryd.func41, Tryd.ntmps41
  go_wp2
  go_ret3
  exact ⟨rfl, rfl⟩
theorem rfields_1_14 : RFieldsIs 1 14 ([99, 97, 105, 113, 109, 116], false, true) := by
  intro w
  go_enter Tryd.func41, Tryd.ntmps41
  go_wp2
  go_ret3
  exact ⟨rfl, rfl⟩
theorem rfields_1_15 : RFieldsIs 1 15 ([99, 97, 109], false, true) := by
  intro w
  go_enter Tryd.func41, Tryd.ntmps41
  go_wp2
  go_ret3
  exact ⟨rfl, rfl⟩
theorem rfields_1_16 : RFieldsIs 1 16 ([99, 97, 105, 113, 109, 116], false, true) := by
  intro w
  go_enter Tryd.func41, Tryd.ntmps41
  go_wp2
  go_ret3
  exact ⟨rfl, rfl⟩
theorem rfields_1_17 : RFieldsIs 1 17 ([99, 97, 109], false, true) := by
  intro w
  go_enter Tryd.func41, Tryd.ntmps41
  go_wp2
  go_ret3
  exact ⟨rfl, rfl⟩
theorem rfields_1_18 : RFieldsIs 1 18 ([99, 97, 109], false, true) := by
  intro w
  go_enter Tryd.func41, Tryd.ntmps41
  go_wp2
  go_ret3
  exact ⟨rfl, rfl⟩
theorem rfields_1_19 : RFieldsIs 1 19 ([99], false, true) := by
  intro w
  go_enter Tryd.func41, Tryd.ntmps41
  go_wp2
  go_ret3
  exact ⟨rfl, rfl⟩
theorem rfields_1_20 : RFieldsIs 1 20 ([116], false, true) := by
  intro w
  go_enter Tryd.func41, Tryd.ntmps41
  go_wp2
  go_ret3
  exact ⟨rfl, rfl⟩
theorem rfields_1_21 : RFieldsIs 1 21 ([], false, false) := by
  intro w
  go_enter Tryd.func41, Tryd.ntmps41
  go_wp2
  go_ret3
  exact ⟨rfl, rfl⟩
theorem rfields_1_22 : RFieldsIs 1 22 ([], false, false) := by
  intro w
  go_enter Tryd.func41, Tryd.ntmps41
  go_wp2
  go_ret3
  exact ⟨rfl, rfl⟩
theorem rfields_1_23 : RFieldsIs 1 23 ([], false, false) := by
  intro w
  go_enter Tryd.func41, Tryd.ntmps41
  go_wp2
  go_ret3
  exact ⟨rfl, rfl⟩
theorem rfields_2_1 : RFieldsIs 2 1 ([97], true, true) := by
  intro w
  go_enter Tryd.func41, Tryd.ntmps41
  go_wp2
  go_ret3
  exact ⟨rfl, rfl⟩
theorem rfields_2_2 : RFieldsIs 2 2 ([97], false, true) := by
  intro w
  go_enter Tryd.func41, Tryd.ntmps41
  go_wp2
  go_ret3
  exact ⟨rfl, rfl⟩
theorem rfields_2_3 : RFieldsIs 2 3 ([105, 107], true, true) := by
  intro w
  go_enter Tryd.func41, Tryd.ntmps41
  go_wp2
  go_ret3
  exact ⟨rfl, rfl⟩
theorem rfields_2_4 : RFieldsIs 2 4 ([105], false, true) := by
  intro w
  go_enter Tryd.func41, Tryd.ntmps41
  go_wp2
  go_ret3
  exact ⟨rfl, rfl⟩
theorem rfields_2_5 : RFieldsIs 2 5 ([105], false, true) := by
  intro w
  go_enter Tryd.func41, Tryd.ntmps41
  go_wp2
  go_ret3
  exact ⟨rfl, rfl⟩
theorem rfields_2_6 : RFieldsIs 2 6 ([97, 109], false, true) := by
  intro w
  go_enter Tryd.func41, Tryd.ntmps41
  go_wp2
  go_ret3
  exact ⟨rfl, rfl⟩
theorem rfields_2_7 : RFieldsIs 2 7 ([97, 109], false, true) := by
  intro w
  go_enter Tryd.func41, Tryd.ntmps41
  go_wp2
  go_ret3
  exact ⟨rfl, rfl⟩
theorem rfields_2_8 : RFieldsIs 2 8 ([97, 105, 113], false, true) := by
  intro w
  go_enter Tryd.func41, Tryd.ntmps41
  go_wp2
  go_ret3
  exact ⟨rfl, rfl⟩
theorem rfields_2_9 : RFieldsIs 2 9 ([97, 105, 113], false, true) := by
  intro w
  go_enter Tryd.func41, Tryd.ntmps41
  go_wp2
  go_ret3
  exact ⟨rfl, rfl⟩
theorem rfields_2_10 : RFieldsIs 2 10 ([98], false, true) := by
  intro w
  go_enter Tryd.func41, Tryd.ntmps41
  go_wp2
  go_ret3
  exact ⟨rfl, rfl⟩
theorem rfields_2_11 : RFieldsIs 2 11 ([111, 97, 105, 115, 112, 113], false, true) := by
  intro w
  go_enter Tryd.func41, Tryd.ntmps41
  go_wp2
  go_ret3
  exact ⟨rfl, rfl⟩
theorem rfields_2_12 : RFieldsIs 2 12 ([111], false, true) := by
  intro w
  go_enter Tryd.func41, Tryd.ntmps41
  go_wp2
  go_ret3
  exact ⟨rfl, rfl⟩
theorem rfields_2_13 : RFieldsIs 2 13 ([111, 111, 112, 113, 122], false, true) := by
  intro w
  go_enter Tryd.func41, Tryd.ntmps41
  go_wp2
  go_ret3
  exact ⟨rfl, rfl⟩
theorem rfields_2_14 : RFieldsIs 2 14 ([99, 97, 105, 113, 109, 109, 116], false, true) := by
  intro w
  go_enter Tryd.func41, Tryd.ntmps41
  go_wp2
  go_ret3
  exact ⟨rfl, rfl⟩
theorem rfields_2_15 : RFieldsIs 2 15 ([99, 97, 109], false, true) := by
  intro w
  go_enter Tryd.func41, Tryd.ntmps41
  go_wp2
  go_ret3
  exact ⟨rfl, rfl⟩
theorem rfields_2_16 : RFieldsIs 2 16 ([99, 97, 105, 113, 109, 116], false, true) := by
  intro w
  go_enter Tryd.func41, Tryd.ntmps41
  go_wp2
  go_ret3
  exact ⟨rfl, rfl⟩
theorem rfields_2_17 : RFieldsIs 2 17 ([99, 97, 109], false, true) := by
  intro w
  go_enter Tryd.func41, Tryd.ntmps41
  go_wp2
  go_ret3
  exact ⟨rfl, rfl⟩
theorem rfields_2_18 : RFieldsIs 2 18 ([99, 97, 109, 122], false, true) := by
  intro w
  go_enter Tryd.func41, Tryd.ntmps41
  go_wp2
  go_ret3
  exact ⟨rfl, rfl⟩
theorem rfields_2_19 : RFieldsIs 2 19 ([99], false, true) := by
  intro w
  go_enter Tryd.func41, Tryd.ntmps41
  go_wp2
  go_ret3
  exact ⟨rfl, rfl⟩
theorem rfields_2_20 : RFieldsIs 2 20 ([116], false, true) := by
  intro w
  go_enter Tryd.func41, Tryd.ntmps41
  go_wp2
  go_ret3
  exact ⟨rfl, rfl⟩
theorem rfields_2_21 : RFieldsIs 2 21 ([97, 97, 109], false, true) := by
  intro w
  go_enter Tryd.func41, Tryd.ntmps41
  go_wp2
  go_ret3
  exact ⟨rfl, rfl⟩
theorem rfields_2_22 : RFieldsIs 2 22 ([], false, false) := by
  intro w
  go_enter Tryd.func41, Tryd.ntmps41
  go_wp2
  go_ret3
  exact ⟨rfl, rfl⟩
theorem rfields_2_23 : RFieldsIs 2 23 ([], false, false) := by
  intro w
  go_enter Tryd.func41, Tryd.ntmps41
  go_wp2
  go_ret3
  exact ⟨rfl, rfl⟩
theorem rfields_3_1 : RFieldsIs 3 1 ([97], true, true) := by
  intro w
  go_enter Tryd.func41, Tryd.ntmps41
  go_wp2
  go_ret3
  exact ⟨rfl, rfl⟩
theorem rfields_3_2 : RFieldsIs 3 2 ([97], false, true) := by
  intro w
  go_enter Tryd.func41, Tryd.ntmps41
  go_wp2
  go_ret3
  exact ⟨rfl, rfl⟩
theorem rfields_3_3 : RFieldsIs 3 3 ([105, 107], true, true) := by
  intro w
  go_enter Tryd.func41, Tryd.ntmps41
  go_wp2
  go_ret3
  exact ⟨rfl, rfl⟩
theorem rfields_3_4 : RFieldsIs 3 4 ([105], false, true) := by
  intro w
  go_enter Tryd.func41, Tryd.ntmps41
  go_wp2
  go_ret3
  exact ⟨rfl, rfl⟩
theorem rfields_3_5 : RFieldsIs 3 5 ([105], false, true) := by
  intro w
  go_enter Tryd.func41, Tryd.ntmps41
  go_wp2
  go_ret3
  exact ⟨rfl, rfl⟩
theorem rfields_3_6 : RFieldsIs 3 6 ([97, 109], false, true) := by
  intro w
  go_enter Tryd.func41, Tryd.ntmps41
  go_wp2
  go_ret3
  exact ⟨rfl, rfl⟩
theorem rfields_3_7 : RFieldsIs 3 7 ([97, 109], false, true) := by
  intro w
  go_enter Tryd.func41, Tryd.ntmps41
  go_wp2
  go_ret3
  exact ⟨rfl, rfl⟩
theorem rfields_3_8 : RFieldsIs 3 8 ([97, 105, 113], false, true) := by
  intro w
  go_enter Tryd.func41, Tryd.ntmps41
  go_wp2
  go_ret3
  exact ⟨rfl, rfl⟩
theorem rfields_3_9 : RFieldsIs 3 9 ([97, 105, 113], false, true) := by
  intro w
  go_enter Tryd.func41, Tryd.ntmps41
  go_wp2
  go_ret3
  exact ⟨rfl, rfl⟩
theorem rfields_3_10 : RFieldsIs 3 10 ([98], false, true) := by
  intro w
  go_enter Tryd.func41, Tryd.ntmps41
  go_wp2
  go_ret3
  exact ⟨rfl, rfl⟩
theorem rfields_3_11 : RFieldsIs 3 11 ([111, 97, 105, 115, 112, 113], false, true) := by
  intro w
  go_enter Tryd.func41, Tryd.ntmps41
  go_wp2
  go_ret3
  exact ⟨rfl, rfl⟩
theorem rfields_3_12 : RFieldsIs 3 12 ([111], false, true) := by
  intro w
  go_enter Tryd.func41, Tryd.ntmps41
  go_wp2
  go_ret3
  exact ⟨rfl, rfl⟩
theorem rfields_3_13 : RFieldsIs 3 13 ([111, 111, 112, 113, 122], false, true) := by
  intro w
  go_enter Tryd.func41, Tryd.ntmps41
  go_wp2
  go_ret3
  exact ⟨rfl, rfl⟩
theorem rfields_3_14 : RFieldsIs 3 14 ([99, 97, 105, 113, 109, 109, 116], false, true) := by
  intro w
  go_enter Tryd.func41, Tryd.ntmps41
  go_wp2
  go_ret3
  exact ⟨rfl, rfl⟩
theorem rfields_3_15 : RFieldsIs 3 15 ([99, 97, 109], false, true) := by
  intro w
  go_enter Tryd.func41, Tryd.ntmps41
  go_wp2
  go_ret3
  exact ⟨rfl, rfl⟩
theorem rfields_3_16 : RFieldsIs 3 16 ([99, 97, 105, 113, 109, 116], false, true) := by
  intro w
  go_enter Tryd.func41, Tryd.ntmps41
  go_wp2
  go_ret3
  exact ⟨rfl, rfl⟩
theorem rfields_3_17 : RFieldsIs 3 17 ([99, 97, 109], false, true) := by
  intro w
  go_enter Tryd.func41, Tryd.ntmps41
  go_wp2
  go_ret3
  exact ⟨rfl, rfl⟩
theorem rfields_3_18 : RFieldsIs 3 18 ([99, 97, 109, 122], false, true) := by
  intro w
  go_enter Tryd.func41, Tryd.ntmps41
  go_wp2
  go_ret3
  exact ⟨rfl, rfl⟩
theorem rfields_3_19 : RFieldsIs 3 19 ([99], false, true) := by
  intro w
  go_enter Tryd.func41, Tryd.ntmps41
  go_wp2
  go_ret3
  exact ⟨rfl, rfl⟩
theorem rfields_3_20 : RFieldsIs 3 20 ([116], false, true) := by
  intro w
  go_enter Tryd.func41, Tryd.ntmps41
  go_wp2
  go_ret3
  exact ⟨rfl, rfl⟩
theorem rfields_3_21 : RFieldsIs 3 21 ([97, 97, 109], false, true) := by
  intro w
  go_enter Tryd.func41, Tryd.ntmps41
  go_wp2
  go_ret3
  exact ⟨rfl, rfl⟩
theorem rfields_3_22 : RFieldsIs 3 22 ([97], true, true) := by
  intro w
  go_enter Tryd.func41, Tryd.ntmps41
  go_wp2
  go_ret3
  exact ⟨rfl, rfl⟩
theorem rfields_3_23 : RFieldsIs 3 23 ([105, 107], false, true) := by
  intro w
  go_enter Tryd.func41, Tryd.ntmps41
  go_wp2
  go_ret3
  exact ⟨rfl, rfl⟩
theorem rfields_1 (k : Nat) (_h1 : ((k : Int) == 1) = false) (_h2 : ((k : Int) == 2) = false) (_h3 : ((k : Int) == 3) = false) (_h4 : ((k : Int) == 4) = false) (_h5 : ((k : Int) == 5) = false) (_h6 : ((k : Int) == 6) = false) (_h7 : ((k : Int) == 7) = false) (_h8 : ((k : Int) == 8) = false) (_h9 : ((k : Int) == 9) = false) (_h10 : ((k : Int) == 10) = false) (_h11 : ((k : Int) == 11) = false) (_h12 : ((k : Int) == 12) = false) (_h13 : ((k : Int) == 13) = false) (_h14 : ((k : Int) == 14) = false) (_h15 : ((k : Int) == 15) = false) (_h16 : ((k : Int) == 16) = false) (_h17 : ((k : Int) == 17) = false) (_h18 : ((k : Int) == 18) = false) (_h19 : ((k : Int) == 19) = false) (_h20 : ((k : Int) == 20) = false) (_h21 : ((k : Int) == 21) = false) (_h22 : ((k : Int) == 22) = false) (_h23 : ((k : Int) == 23) = false) : RFieldsIs 1 k ([], false, false) := by
  intro w
  go_enter Tryd.func41, Tryd.ntmps41
  go_wp2
  go_ret3
  exact ⟨rfl, rfl⟩
theorem rfields_2 (k : Nat) (_h1 : ((k : Int) == 1) = false) (_h2 : ((k : Int) == 2) = false) (_h3 : ((k : Int) == 3) = false) (_h4 : ((k : Int) == 4) = false) (_h5 : ((k : Int) == 5) = false) (_h6 : ((k : Int) == 6) = false) (_h7 : ((k : Int) == 7) = false) (_h8 : ((k : Int) == 8) = false) (_h9 : ((k : Int) == 9) = false) (_h10 : ((k : Int) == 10) = false) (_h11 : ((k : Int) == 11) = false) (_h12 : ((k : Int) == 12) = false) (_h13 : ((k : Int) == 13) = false) (_h14 : ((k : Int) == 14) = false) (_h15 : ((k : Int) == 15) = false) (_h16 : ((k : Int) == 16) = false) (_h17 : ((k : Int) == 17) = false) (_h18 : ((k : Int) == 18) = false) (_h19 : ((k : Int) == 19) = false) (_h20 : ((k : Int) == 20) = false) (_h21 : ((k : Int) == 21) = false) (_h22 : ((k : Int) == 22) = false) (_h23 : ((k : Int) == 23) = false) : RFieldsIs 2 k ([], false, false) := by
  intro w
  go_enter Tryd.func41, Tryd.ntmps41
  go_wp2
  go_ret3
  exact ⟨rfl, rfl⟩
theorem rfields_3 (k : Nat) (_h1 : ((k : Int) == 1) = false) (_h2 : ((k : Int) == 2) = false) (_h3 : ((k : Int) == 3) = false) (_h4 : ((k : Int) == 4) = false) (_h5 : ((k : Int) == 5) = false) (_h6 : ((k : Int) == 6) = false) (_h7 : ((k : Int) == 7) = false) (_h8 : ((k : Int) == 8) = false) (_h9 : ((k : Int) == 9) = false) (_h10 : ((k : Int) == 10) = false) (_h11 : ((k : Int) == 11) = false) (_h12 : ((k : Int) == 12) = false) (_h13 : ((k : Int) == 13) = false) (_h14 : ((k : Int) == 14) = false) (_h15 : ((k : Int) == 15) = false) (_h16 : ((k : Int) == 16) = false) (_h17 : ((k : Int) == 17) = false) (_h18 : ((k : Int) == 18) = false) (_h19 : ((k : Int) == 19) = false) (_h20 : ((k : Int) == 20) = false) (_h21 : ((k : Int) == 21) = false) (_h22 : ((k : Int) == 22) = false) (_h23 : ((k : Int) == 23) = false) : RFieldsIs 3 k ([], false, false) := by
  intro w
  go_enter Tryd.func41, Tryd.ntmps41
  go_wp2
  go_ret3
  exact ⟨rfl, rfl⟩
theorem rfields_0 (k : Nat) : RFieldsIs 0 k ([], false, false) := by
  intro w
  go_enter Tryd.func41, Tryd.ntmps41
  go_wp2
  go_ret3
  exact ⟨rfl, rfl⟩
theorem rfields_4 (v k : Nat) (h : decide ((3 : Int) < (v : Int)) = true) (h1 : decide ((v : Int) < 1) = false) : RFieldsIs v k ([], false, false) := by
  intro w
  go_enter Tryd.func41, Tryd.ntmps41
  go_wp2
  go_ret3
  exact ⟨rfl, rfl⟩
theorem fieldsS_out (v k : Nat) (h : v = 0 ∨ 3 < v) : fieldsS v k = ([], false, false) := by unfold fieldsS toldS; rw [if_pos h]
theorem eventT_out (k : Nat) (h : k = 0 ∨ 23 < k) : eventT k = noRow := by
  unfold eventT
  rcases h with rfl | h
  · rfl
  · rw [if_neg (by omega), List.getElem?_eq_none (by simp [kindsT]; omega)]; rfl
theorem fieldsS_none (v k : Nat) (h : k = 0 ∨ 23 < k) : fieldsS v k = ([], false, false) := by
  unfold fieldsS
  rw [eventT_out k h]
  unfold toldS
  split
  · rfl
  · rw [if_pos]
    unfold fieldT noRow
    split
    · rfl
    · split <;> rfl
theorem rfields_any (v k : Nat) : RFieldsIs v k (fieldsS v k) := by
  by_cases hv : v = 0 ∨ 3 < v
  · rw [fieldsS_out v k hv]
    rcases hv with rfl | hv
    · exact rfields_0 k
    · exact rfields_4 v k (by simp; omega) (by simp; omega)
  · have hv : v = 1 ∨ v = 2 ∨ v = 3 := by omega
    have hk : k = 1 ∨ k = 2 ∨ k = 3 ∨ k = 4 ∨ k = 5 ∨ k = 6 ∨ k = 7 ∨ k = 8 ∨ k = 9 ∨ k = 10 ∨ k = 11 ∨ k = 12 ∨ k = 13 ∨ k = 14 ∨ k = 15 ∨ k = 16 ∨ k = 17 ∨ k = 18 ∨ k = 19 ∨ k = 20 ∨ k = 21 ∨ k = 22 ∨ k = 23 ∨ (k = 0 ∨ 23 < k) := by omega
    rcases hv with rfl | rfl | rfl
    · rcases hk with rfl | rfl | rfl | rfl | rfl | rfl | rfl | rfl | rfl | rfl | rfl | rfl | rfl | rfl | rfl | rfl | rfl | rfl | rfl | rfl | rfl | rfl | rfl | hk
      · exact rfields_1_1
      · exact rfields_1_2
      · exact rfields_1_3
      · exact rfields_1_4
      · exact rfields_1_5
      · exact rfields_1_6
      · exact rfields_1_7
      · exact rfields_1_8
      · exact rfields_1_9
      · exact rfields_1_10
      · exact rfields_1_11
      · exact rfields_1_12
      · exact rfields_1_13
      · exact rfields_1_14
      · exact rfields_1_15
      · exact rfields_1_16
      · exact rfields_1_17
      · exact rfields_1_18
      · exact rfields_1_19
      · exact rfields_1_20
      · exact rfields_1_21
      · exact rfields_1_22
      · exact rfields_1_23
      · rw [fieldsS_none _ k hk]
        exact rfields_1 k (by simp; omega) (by simp; omega) (by simp; omega) (by simp; omega) (by simp; omega) (by simp; omega) (by simp; omega) (by simp; omega) (by simp; omega) (by simp; omega) (by simp; omega) (by simp; omega) (by simp; omega) (by simp; omega) (by simp; omega) (by simp; omega) (by simp; omega) (by simp; omega) (by simp; omega) (by simp; omega) (by simp; omega) (by simp; omega) (by simp; omega)
    · rcases hk with rfl | rfl | rfl | rfl | rfl | rfl | rfl | rfl | rfl | rfl | rfl | rfl | rfl | rfl | rfl | rfl | rfl | rfl | rfl | rfl | rfl | rfl | rfl | hk
      · exact rfields_2_1
      · exact rfields_2_2
      · exact rfields_2_3
      · exact rfields_2_4
      · exact rfields_2_5
      · exact rfields_2_6
      · exact rfields_2_7
      · exact rfields_2_8
      · exact rfields_2_9
      · exact rfields_2_10
      · exact rfields_2_11
      · exact rfields_2_12
      · exact rfields_2_13
      · exact rfields_2_14
      · exact rfields_2_15
      · exact rfields_2_16
      · exact rfields_2_17
      · exact rfields_2_18
      · exact rfields_2_19
      · exact rfields_2_20
      · exact rfields_2_21
      · exact rfields_2_22
      · exact rfields_2_23
      · rw [fieldsS_none _ k hk]
        exact rfields_2 k (by simp; omega) (by simp; omega) (by simp; omega) (by simp; omega) (by simp; omega) (by simp; omega) (by simp; omega) (by simp; omega) (by simp; omega) (by simp; omega) (by simp; omega) (by simp; omega) (by simp; omega) (by simp; omega) (by simp; omega) (by simp; omega) (by simp; omega) (by simp; omega) (by simp; omega) (by simp; omega) (by simp; omega) (by simp; omega) (by simp; omega)
    · rcases hk with rfl | rfl | rfl | rfl | rfl | rfl | rfl | rfl | rfl | rfl | rfl | rfl | rfl | rfl | rfl | rfl | rfl | rfl | rfl | rfl | rfl | rfl | rfl | hk
      · exact rfields_3_1
      · exact rfields_3_2
      · exact rfields_3_3
      · exact rfields_3_4
      · exact rfields_3_5
      · exact rfields_3_6
      · exact rfields_3_7
      · exact rfields_3_8
      · exact rfields_3_9
      · exact rfields_3_10
      · exact rfields_3_11
      · exact rfields_3_12
      · exact rfields_3_13
      · exact rfields_3_14
      · exact rfields_3_15
      · exact rfields_3_16
      · exact rfields_3_17
      · exact rfields_3_18
      · exact rfields_3_19
      · exact rfields_3_20
      · exact rfields_3_21
      · exact rfields_3_22
      · exact rfields_3_23
      · rw [fieldsS_none _ k hk]
        exact rfields_3 k (by simp; omega) (by simp; omega) (by simp; omega) (by simp; omega) (by simp; omega) (by simp; omega) (by simp; omega) (by simp; omega) (by simp; omega) (by simp; omega) (by simp; omega) (by simp; omega) (by simp; omega) (by simp; omega) (by simp; omega) (by simp; omega) (by simp; omega) (by simp; omega) (by simp; omega) (by simp; omega) (by simp; omega) (by simp; omega) (by simp; omega)
end Go.Proofs.YtgjabbhgmecbbaaDoor
