/-
  The words of commands, by the document.
-/
import Derived.Test.YtbihbkjdngjgkaaDoorFields
namespace Go.Proofs.YtbihbkjdngjgkaaDoor
open Go.RowKit

def RrwordIs (k : Int) (x : List UInt8) : Prop :=
  ∀ w : World, Calls Tryd.prog 31 #[.int .u8 k] w fun e w' => e = .returned (strV x) ∧ Fr No w w'

set_option maxRecDepth 100000 in
theorem rword_1 : RrwordIs 1 [111, 112, 101, 110] := by
  intro w
  go_enter Tryd.func31, Tryd.ntmps31
  go_wp2
  go_ret
  exact ⟨rfl, (Fr.refl w).alloc _⟩
set_option maxRecDepth 100000 in
theorem rword_2 : RrwordIs 2 [99, 108, 111, 115, 101] := by
  intro w
  go_enter Tryd.func31, Tryd.ntmps31
  go_wp2
  go_ret
  exact ⟨rfl, (Fr.refl w).alloc _⟩
set_option maxRecDepth 100000 in
theorem rword_3 : RrwordIs 3 [108, 105, 115, 116] := by
  intro w
  go_enter Tryd.func31, Tryd.ntmps31
  go_wp2
  go_ret
  exact ⟨rfl, (Fr.refl w).alloc _⟩
set_option maxRecDepth 100000 in
theorem rword_4 : RrwordIs 4 [104, 97, 108, 116] := by
  intro w
  go_enter Tryd.func31, Tryd.ntmps31
  go_wp2
  go_ret
  exact ⟨rfl, (Fr.refl w).alloc _⟩
set_option maxRecDepth 100000 in
theorem rword_5 : RrwordIs 5 [114, 101, 115, 117, 109, 101] := by
  intro w
  go_enter Tryd.func31, Tryd.ntmps31
  go_wp2
  go_ret
  exact ⟨rfl, (Fr.refl w).alloc _⟩
set_option maxRecDepth 100000 in
theorem rword_6 : RrwordIs 6 [100, 101, 112, 111, 115, 105, 116] := by
  intro w
  go_enter Tryd.func31, Tryd.ntmps31
  go_wp2
  go_ret
  exact ⟨rfl, (Fr.refl w).alloc _⟩
set_option maxRecDepth 100000 in
theorem rword_7 : RrwordIs 7 [119, 105, 116, 104, 100, 114, 97, 119] := by
  intro w
  go_enter Tryd.func31, Tryd.ntmps31
  go_wp2
  go_ret
  exact ⟨rfl, (Fr.refl w).alloc _⟩
set_option maxRecDepth 100000 in
theorem rword_8 : RrwordIs 8 [105, 115, 115, 117, 101] := by
  intro w
  go_enter Tryd.func31, Tryd.ntmps31
  go_wp2
  go_ret
  exact ⟨rfl, (Fr.refl w).alloc _⟩
set_option maxRecDepth 100000 in
theorem rword_9 : RrwordIs 9 [114, 101, 100, 101, 101, 109] := by
  intro w
  go_enter Tryd.func31, Tryd.ntmps31
  go_wp2
  go_ret
  exact ⟨rfl, (Fr.refl w).alloc _⟩
set_option maxRecDepth 100000 in
theorem rword_10 : RrwordIs 10 [102, 101, 101] := by
  intro w
  go_enter Tryd.func31, Tryd.ntmps31
  go_wp2
  go_ret
  exact ⟨rfl, (Fr.refl w).alloc _⟩
set_option maxRecDepth 100000 in
theorem rword_11 : RrwordIs 11 [112, 108, 97, 99, 101] := by
  intro w
  go_enter Tryd.func31, Tryd.ntmps31
  go_wp2
  go_ret
  exact ⟨rfl, (Fr.refl w).alloc _⟩
set_option maxRecDepth 100000 in
theorem rword_12 : RrwordIs 12 [99, 97, 110, 99, 101, 108] := by
  intro w
  go_enter Tryd.func31, Tryd.ntmps31
  go_wp2
  go_ret
  exact ⟨rfl, (Fr.refl w).alloc _⟩
set_option maxRecDepth 100000 in
theorem rword_13 : RrwordIs 13 [101, 110, 103, 108, 105, 115, 104] := by
  intro w
  go_enter Tryd.func31, Tryd.ntmps31
  go_wp2
  go_ret
  exact ⟨rfl, (Fr.refl w).alloc _⟩
set_option maxRecDepth 100000 in
theorem rword_14 : RrwordIs 14 [114, 97, 105, 115, 101] := by
  intro w
  go_enter Tryd.func31, Tryd.ntmps31
  go_wp2
  go_ret
  exact ⟨rfl, (Fr.refl w).alloc _⟩
set_option maxRecDepth 100000 in
theorem rword_15 : RrwordIs 15 [115, 101, 97, 108, 101, 100] := by
  intro w
  go_enter Tryd.func31, Tryd.ntmps31
  go_wp2
  go_ret
  exact ⟨rfl, (Fr.refl w).alloc _⟩
set_option maxRecDepth 100000 in
theorem rword_16 : RrwordIs 16 [98, 105, 100] := by
  intro w
  go_enter Tryd.func31, Tryd.ntmps31
  go_wp2
  go_ret
  exact ⟨rfl, (Fr.refl w).alloc _⟩
set_option maxRecDepth 100000 in
theorem rword_17 : RrwordIs 17 [109, 111, 118, 101] := by
  intro w
  go_enter Tryd.func31, Tryd.ntmps31
  go_wp2
  go_ret
  exact ⟨rfl, (Fr.refl w).alloc _⟩
set_option maxRecDepth 100000 in
theorem rword_18 : RrwordIs 18 [116, 114, 97, 110, 115, 102, 101, 114] := by
  intro w
  go_enter Tryd.func31, Tryd.ntmps31
  go_wp2
  go_ret
  exact ⟨rfl, (Fr.refl w).alloc _⟩
set_option maxRecDepth 100000 in
theorem rword_19 : RrwordIs 19 [114, 101, 110, 97, 109, 101] := by
  intro w
  go_enter Tryd.func31, Tryd.ntmps31
  go_wp2
  go_ret
  exact ⟨rfl, (Fr.refl w).alloc _⟩
set_option maxRecDepth 100000 in
theorem rword_20 : RrwordIs 20 [116, 105, 99, 107] := by
  intro w
  go_enter Tryd.func31, Tryd.ntmps31
  go_wp2
  go_ret
  exact ⟨rfl, (Fr.refl w).alloc _⟩
set_option maxRecDepth 100000 in
theorem rword_0 : RrwordIs 0 [] := by
  intro w
  go_enter Tryd.func31, Tryd.ntmps31
  go_wp2
  go_ret
  exact ⟨rfl, (Fr.refl w).alloc _⟩
set_option maxRecDepth 100000 in
theorem rword_out (k : Nat) (_h8 : (k : Int) ≤ 255) (h : decide ((20 : Int) < (k : Int)) = true) (h1 : decide ((k : Int) < 1) = false) : RrwordIs k [] := by
  intro w
  go_enter Tryd.func31, Tryd.ntmps31
  go_wp2
  go_ret
  exact ⟨rfl, (Fr.refl w).alloc _⟩
theorem wordS_out (k : Nat) (h : k = 0 ∨ 20 < k) : wordS k = [] := by
  unfold wordS commandT
  rcases h with rfl | h
  · rfl
  · rw [if_neg (by omega), List.getElem?_eq_none (by simp [commandsT]; omega)]; rfl
theorem rword_any (k : Nat) (h8 : k ≤ 255) : RrwordIs k (wordS k) := by
  have hk : k = 1 ∨ k = 2 ∨ k = 3 ∨ k = 4 ∨ k = 5 ∨ k = 6 ∨ k = 7 ∨ k = 8 ∨ k = 9 ∨ k = 10 ∨ k = 11 ∨ k = 12 ∨ k = 13 ∨ k = 14 ∨ k = 15 ∨ k = 16 ∨ k = 17 ∨ k = 18 ∨ k = 19 ∨ k = 20 ∨ (k = 0 ∨ 20 < k) := by omega
  rcases hk with rfl | rfl | rfl | rfl | rfl | rfl | rfl | rfl | rfl | rfl | rfl | rfl | rfl | rfl | rfl | rfl | rfl | rfl | rfl | rfl | hk
  · exact rword_1
  · exact rword_2
  · exact rword_3
  · exact rword_4
  · exact rword_5
  · exact rword_6
  · exact rword_7
  · exact rword_8
  · exact rword_9
  · exact rword_10
  · exact rword_11
  · exact rword_12
  · exact rword_13
  · exact rword_14
  · exact rword_15
  · exact rword_16
  · exact rword_17
  · exact rword_18
  · exact rword_19
  · exact rword_20
  · rw [wordS_out k hk]
    rcases hk with rfl | hk
    · exact rword_0
    · exact rword_out k (by omega) (by simp; omega) (by simp; omega)
end Go.Proofs.YtbihbkjdngjgkaaDoor
