/-
  What a command asks, by the document.
-/
import Derived.Test.YtbihbkjdngjgkaaDoorFields
namespace Go.Proofs.YtbihbkjdngjgkaaDoor
open Go.RowKit

def RCmdIs (k : Int) (x : List UInt8 × Bool × Bool) : Prop :=
  ∀ w : World, Calls Tryd.prog 25 #[.int .u8 k] w fun e w' => e = .returned (.tuple #[strV x.1, .bool x.2.1, .bool x.2.2]) ∧ Fr No w w'

set_option maxRecDepth 100000 in
theorem rcmd_1 : RCmdIs 1 ([], true, true) := by
  intro w
  go_enter Tryd.func25, Tryd.ntmps25
  go_wp2
  go_ret3
  exact ⟨rfl, (Fr.refl w).alloc _⟩
set_option maxRecDepth 100000 in
theorem rcmd_2 : RCmdIs 2 ([97], false, true) := by
  intro w
  go_enter Tryd.func25, Tryd.ntmps25
  go_wp2
  go_ret3
  exact ⟨rfl, (Fr.refl w).alloc _⟩
set_option maxRecDepth 100000 in
theorem rcmd_3 : RCmdIs 3 ([107], true, true) := by
  intro w
  go_enter Tryd.func25, Tryd.ntmps25
  go_wp2
  go_ret3
  exact ⟨rfl, (Fr.refl w).alloc _⟩
set_option maxRecDepth 100000 in
theorem rcmd_4 : RCmdIs 4 ([105], false, true) := by
  intro w
  go_enter Tryd.func25, Tryd.ntmps25
  go_wp2
  go_ret3
  exact ⟨rfl, (Fr.refl w).alloc _⟩
set_option maxRecDepth 100000 in
theorem rcmd_5 : RCmdIs 5 ([105], false, true) := by
  intro w
  go_enter Tryd.func25, Tryd.ntmps25
  go_wp2
  go_ret3
  exact ⟨rfl, (Fr.refl w).alloc _⟩
set_option maxRecDepth 100000 in
theorem rcmd_6 : RCmdIs 6 ([97, 109], false, true) := by
  intro w
  go_enter Tryd.func25, Tryd.ntmps25
  go_wp2
  go_ret3
  exact ⟨rfl, (Fr.refl w).alloc _⟩
set_option maxRecDepth 100000 in
theorem rcmd_7 : RCmdIs 7 ([97, 109], false, true) := by
  intro w
  go_enter Tryd.func25, Tryd.ntmps25
  go_wp2
  go_ret3
  exact ⟨rfl, (Fr.refl w).alloc _⟩
set_option maxRecDepth 100000 in
theorem rcmd_8 : RCmdIs 8 ([97, 105, 113], false, true) := by
  intro w
  go_enter Tryd.func25, Tryd.ntmps25
  go_wp2
  go_ret3
  exact ⟨rfl, (Fr.refl w).alloc _⟩
set_option maxRecDepth 100000 in
theorem rcmd_9 : RCmdIs 9 ([97, 105, 113], false, true) := by
  intro w
  go_enter Tryd.func25, Tryd.ntmps25
  go_wp2
  go_ret3
  exact ⟨rfl, (Fr.refl w).alloc _⟩
set_option maxRecDepth 100000 in
theorem rcmd_10 : RCmdIs 10 ([98], false, true) := by
  intro w
  go_enter Tryd.func25, Tryd.ntmps25
  go_wp2
  go_ret3
  exact ⟨rfl, (Fr.refl w).alloc _⟩
set_option maxRecDepth 100000 in
theorem rcmd_11 : RCmdIs 11 ([97, 105, 115, 112, 113], false, true) := by
  intro w
  go_enter Tryd.func25, Tryd.ntmps25
  go_wp2
  go_ret3
  exact ⟨rfl, (Fr.refl w).alloc _⟩
set_option maxRecDepth 100000 in
theorem rcmd_12 : RCmdIs 12 ([97, 111], false, true) := by
  intro w
  go_enter Tryd.func25, Tryd.ntmps25
  go_wp2
  go_ret3
  exact ⟨rfl, (Fr.refl w).alloc _⟩
set_option maxRecDepth 100000 in
theorem rcmd_13 : RCmdIs 13 ([97, 105, 113, 109, 109, 116], false, true) := by
  intro w
  go_enter Tryd.func25, Tryd.ntmps25
  go_wp2
  go_ret3
  exact ⟨rfl, (Fr.refl w).alloc _⟩
set_option maxRecDepth 100000 in
theorem rcmd_14 : RCmdIs 14 ([97, 99, 109], false, true) := by
  intro w
  go_enter Tryd.func25, Tryd.ntmps25
  go_wp2
  go_ret3
  exact ⟨rfl, (Fr.refl w).alloc _⟩
set_option maxRecDepth 100000 in
theorem rcmd_15 : RCmdIs 15 ([97, 105, 113, 109, 116], false, true) := by
  intro w
  go_enter Tryd.func25, Tryd.ntmps25
  go_wp2
  go_ret3
  exact ⟨rfl, (Fr.refl w).alloc _⟩
set_option maxRecDepth 100000 in
theorem rcmd_16 : RCmdIs 16 ([97, 99, 109], false, true) := by
  intro w
  go_enter Tryd.func25, Tryd.ntmps25
  go_wp2
  go_ret3
  exact ⟨rfl, (Fr.refl w).alloc _⟩
set_option maxRecDepth 100000 in
theorem rcmd_17 : RCmdIs 17 ([116], false, true) := by
  intro w
  go_enter Tryd.func25, Tryd.ntmps25
  go_wp2
  go_ret3
  exact ⟨rfl, (Fr.refl w).alloc _⟩
set_option maxRecDepth 100000 in
theorem rcmd_18 : RCmdIs 18 ([97, 97, 109], false, true) := by
  intro w
  go_enter Tryd.func25, Tryd.ntmps25
  go_wp2
  go_ret3
  exact ⟨rfl, (Fr.refl w).alloc _⟩
set_option maxRecDepth 100000 in
theorem rcmd_19 : RCmdIs 19 ([97], true, true) := by
  intro w
  go_enter Tryd.func25, Tryd.ntmps25
  go_wp2
  go_ret3
  exact ⟨rfl, (Fr.refl w).alloc _⟩
set_option maxRecDepth 100000 in
theorem rcmd_20 : RCmdIs 20 ([105, 107], false, true) := by
  intro w
  go_enter Tryd.func25, Tryd.ntmps25
  go_wp2
  go_ret3
  exact ⟨rfl, (Fr.refl w).alloc _⟩
set_option maxRecDepth 100000 in
theorem rcmd_0 : RCmdIs 0 ([], false, false) := by
  intro w
  go_enter Tryd.func25, Tryd.ntmps25
  go_wp2
  go_ret3
  exact ⟨rfl, (Fr.refl w).alloc _⟩
set_option maxRecDepth 100000 in
theorem rcmd_out (k : Nat) (_h8 : (k : Int) ≤ 255) (h : decide ((20 : Int) < (k : Int)) = true) (h1 : decide ((k : Int) < 1) = false) : RCmdIs k ([], false, false) := by
  intro w
  go_enter Tryd.func25, Tryd.ntmps25
  go_wp2
  go_ret3
  exact ⟨rfl, (Fr.refl w).alloc _⟩
theorem commandT_out (k : Nat) (h : k = 0 ∨ 20 < k) : commandT k = noRow := by
  unfold commandT
  rcases h with rfl | h
  · rfl
  · rw [if_neg (by omega), List.getElem?_eq_none (by simp [commandsT]; omega)]; rfl
theorem commandS_none (k : Nat) (h : k = 0 ∨ 20 < k) : commandS k = ([], false, false) := by
  unfold commandS
  rw [commandT_out k h]
  rfl
theorem rcmd_any (k : Nat) (h8 : k ≤ 255) : RCmdIs k (commandS k) := by
  have hk : k = 1 ∨ k = 2 ∨ k = 3 ∨ k = 4 ∨ k = 5 ∨ k = 6 ∨ k = 7 ∨ k = 8 ∨ k = 9 ∨ k = 10 ∨ k = 11 ∨ k = 12 ∨ k = 13 ∨ k = 14 ∨ k = 15 ∨ k = 16 ∨ k = 17 ∨ k = 18 ∨ k = 19 ∨ k = 20 ∨ (k = 0 ∨ 20 < k) := by omega
  rcases hk with rfl | rfl | rfl | rfl | rfl | rfl | rfl | rfl | rfl | rfl | rfl | rfl | rfl | rfl | rfl | rfl | rfl | rfl | rfl | rfl | hk
  · exact rcmd_1
  · exact rcmd_2
  · exact rcmd_3
  · exact rcmd_4
  · exact rcmd_5
  · exact rcmd_6
  · exact rcmd_7
  · exact rcmd_8
  · exact rcmd_9
  · exact rcmd_10
  · exact rcmd_11
  · exact rcmd_12
  · exact rcmd_13
  · exact rcmd_14
  · exact rcmd_15
  · exact rcmd_16
  · exact rcmd_17
  · exact rcmd_18
  · exact rcmd_19
  · exact rcmd_20
  · rw [commandS_none k hk]
    rcases hk with rfl | hk
    · exact rcmd_0
    · exact rcmd_out k (by omega) (by simp; omega) (by simp; omega)
end Go.Proofs.YtbihbkjdngjgkaaDoor
