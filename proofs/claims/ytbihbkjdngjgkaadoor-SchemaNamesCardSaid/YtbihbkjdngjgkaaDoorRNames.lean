/-
  The names of kinds, by the document.
-/
import Derived.Test.YtbihbkjdngjgkaaDoorFields
namespace Go.Proofs.YtbihbkjdngjgkaaDoor
open Go.RowKit

def RrnameIs (k : Int) (x : List UInt8) : Prop :=
  ∀ w : World, Calls Tryd.prog 34 #[.int .u8 k] w fun e w' => e = .returned (strV x) ∧ Fr No w w'

set_option maxRecDepth 100000 in
theorem rname_1 : RrnameIs 1 [111, 112, 101, 110, 101, 100] := by
  intro w
  go_enter Tryd.func34, Tryd.ntmps34
  go_wp2
  go_ret
  exact ⟨rfl, (Fr.refl w).alloc _⟩
set_option maxRecDepth 100000 in
theorem rname_2 : RrnameIs 2 [99, 108, 111, 115, 101, 100] := by
  intro w
  go_enter Tryd.func34, Tryd.ntmps34
  go_wp2
  go_ret
  exact ⟨rfl, (Fr.refl w).alloc _⟩
set_option maxRecDepth 100000 in
theorem rname_3 : RrnameIs 3 [108, 105, 115, 116, 101, 100] := by
  intro w
  go_enter Tryd.func34, Tryd.ntmps34
  go_wp2
  go_ret
  exact ⟨rfl, (Fr.refl w).alloc _⟩
set_option maxRecDepth 100000 in
theorem rname_4 : RrnameIs 4 [104, 97, 108, 116, 101, 100] := by
  intro w
  go_enter Tryd.func34, Tryd.ntmps34
  go_wp2
  go_ret
  exact ⟨rfl, (Fr.refl w).alloc _⟩
set_option maxRecDepth 100000 in
theorem rname_5 : RrnameIs 5 [114, 101, 115, 117, 109, 101, 100] := by
  intro w
  go_enter Tryd.func34, Tryd.ntmps34
  go_wp2
  go_ret
  exact ⟨rfl, (Fr.refl w).alloc _⟩
set_option maxRecDepth 100000 in
theorem rname_6 : RrnameIs 6 [100, 101, 112, 111, 115, 105, 116, 101, 100] := by
  intro w
  go_enter Tryd.func34, Tryd.ntmps34
  go_wp2
  go_ret
  exact ⟨rfl, (Fr.refl w).alloc _⟩
set_option maxRecDepth 100000 in
theorem rname_7 : RrnameIs 7 [119, 105, 116, 104, 100, 114, 97, 119, 110] := by
  intro w
  go_enter Tryd.func34, Tryd.ntmps34
  go_wp2
  go_ret
  exact ⟨rfl, (Fr.refl w).alloc _⟩
set_option maxRecDepth 100000 in
theorem rname_8 : RrnameIs 8 [105, 115, 115, 117, 101, 100] := by
  intro w
  go_enter Tryd.func34, Tryd.ntmps34
  go_wp2
  go_ret
  exact ⟨rfl, (Fr.refl w).alloc _⟩
set_option maxRecDepth 100000 in
theorem rname_9 : RrnameIs 9 [114, 101, 100, 101, 101, 109, 101, 100] := by
  intro w
  go_enter Tryd.func34, Tryd.ntmps34
  go_wp2
  go_ret
  exact ⟨rfl, (Fr.refl w).alloc _⟩
set_option maxRecDepth 100000 in
theorem rname_10 : RrnameIs 10 [102, 101, 101, 32, 115, 101, 116] := by
  intro w
  go_enter Tryd.func34, Tryd.ntmps34
  go_wp2
  go_ret
  exact ⟨rfl, (Fr.refl w).alloc _⟩
set_option maxRecDepth 100000 in
theorem rname_11 : RrnameIs 11 [112, 108, 97, 99, 101, 100] := by
  intro w
  go_enter Tryd.func34, Tryd.ntmps34
  go_wp2
  go_ret
  exact ⟨rfl, (Fr.refl w).alloc _⟩
set_option maxRecDepth 100000 in
theorem rname_12 : RrnameIs 12 [99, 97, 110, 99, 101, 108, 108, 101, 100] := by
  intro w
  go_enter Tryd.func34, Tryd.ntmps34
  go_wp2
  go_ret
  exact ⟨rfl, (Fr.refl w).alloc _⟩
set_option maxRecDepth 100000 in
theorem rname_13 : RrnameIs 13 [116, 114, 97, 100, 101, 100] := by
  intro w
  go_enter Tryd.func34, Tryd.ntmps34
  go_wp2
  go_ret
  exact ⟨rfl, (Fr.refl w).alloc _⟩
set_option maxRecDepth 100000 in
theorem rname_14 : RrnameIs 14 [101, 110, 103, 108, 105, 115, 104] := by
  intro w
  go_enter Tryd.func34, Tryd.ntmps34
  go_wp2
  go_ret
  exact ⟨rfl, (Fr.refl w).alloc _⟩
set_option maxRecDepth 100000 in
theorem rname_15 : RrnameIs 15 [114, 97, 105, 115, 101, 100] := by
  intro w
  go_enter Tryd.func34, Tryd.ntmps34
  go_wp2
  go_ret
  exact ⟨rfl, (Fr.refl w).alloc _⟩
set_option maxRecDepth 100000 in
theorem rname_16 : RrnameIs 16 [115, 101, 97, 108, 101, 100] := by
  intro w
  go_enter Tryd.func34, Tryd.ntmps34
  go_wp2
  go_ret
  exact ⟨rfl, (Fr.refl w).alloc _⟩
set_option maxRecDepth 100000 in
theorem rname_17 : RrnameIs 17 [98, 105, 100] := by
  intro w
  go_enter Tryd.func34, Tryd.ntmps34
  go_wp2
  go_ret
  exact ⟨rfl, (Fr.refl w).alloc _⟩
set_option maxRecDepth 100000 in
theorem rname_18 : RrnameIs 18 [115, 111, 108, 100] := by
  intro w
  go_enter Tryd.func34, Tryd.ntmps34
  go_wp2
  go_ret
  exact ⟨rfl, (Fr.refl w).alloc _⟩
set_option maxRecDepth 100000 in
theorem rname_19 : RrnameIs 19 [117, 110, 115, 111, 108, 100] := by
  intro w
  go_enter Tryd.func34, Tryd.ntmps34
  go_wp2
  go_ret
  exact ⟨rfl, (Fr.refl w).alloc _⟩
set_option maxRecDepth 100000 in
theorem rname_20 : RrnameIs 20 [109, 111, 118, 101, 100] := by
  intro w
  go_enter Tryd.func34, Tryd.ntmps34
  go_wp2
  go_ret
  exact ⟨rfl, (Fr.refl w).alloc _⟩
set_option maxRecDepth 100000 in
theorem rname_21 : RrnameIs 21 [116, 114, 97, 110, 115, 102, 101, 114, 114, 101, 100] := by
  intro w
  go_enter Tryd.func34, Tryd.ntmps34
  go_wp2
  go_ret
  exact ⟨rfl, (Fr.refl w).alloc _⟩
set_option maxRecDepth 100000 in
theorem rname_22 : RrnameIs 22 [114, 101, 110, 97, 109, 101, 100] := by
  intro w
  go_enter Tryd.func34, Tryd.ntmps34
  go_wp2
  go_ret
  exact ⟨rfl, (Fr.refl w).alloc _⟩
set_option maxRecDepth 100000 in
theorem rname_23 : RrnameIs 23 [116, 105, 99, 107, 101, 100] := by
  intro w
  go_enter Tryd.func34, Tryd.ntmps34
  go_wp2
  go_ret
  exact ⟨rfl, (Fr.refl w).alloc _⟩
set_option maxRecDepth 100000 in
theorem rname_0 : RrnameIs 0 [] := by
  intro w
  go_enter Tryd.func34, Tryd.ntmps34
  go_wp2
  go_ret
  exact ⟨rfl, (Fr.refl w).alloc _⟩
set_option maxRecDepth 100000 in
theorem rname_out (k : Nat) (_h8 : (k : Int) ≤ 255) (h : decide ((23 : Int) < (k : Int)) = true) (h1 : decide ((k : Int) < 1) = false) : RrnameIs k [] := by
  intro w
  go_enter Tryd.func34, Tryd.ntmps34
  go_wp2
  go_ret
  exact ⟨rfl, (Fr.refl w).alloc _⟩
theorem nameS_out (k : Nat) (h : k = 0 ∨ 23 < k) : nameS k = [] := by
  unfold nameS eventT
  rcases h with rfl | h
  · rfl
  · rw [if_neg (by omega), List.getElem?_eq_none (by simp [kindsT]; omega)]; rfl
theorem rname_any (k : Nat) (h8 : k ≤ 255) : RrnameIs k (nameS k) := by
  have hk : k = 1 ∨ k = 2 ∨ k = 3 ∨ k = 4 ∨ k = 5 ∨ k = 6 ∨ k = 7 ∨ k = 8 ∨ k = 9 ∨ k = 10 ∨ k = 11 ∨ k = 12 ∨ k = 13 ∨ k = 14 ∨ k = 15 ∨ k = 16 ∨ k = 17 ∨ k = 18 ∨ k = 19 ∨ k = 20 ∨ k = 21 ∨ k = 22 ∨ k = 23 ∨ (k = 0 ∨ 23 < k) := by omega
  rcases hk with rfl | rfl | rfl | rfl | rfl | rfl | rfl | rfl | rfl | rfl | rfl | rfl | rfl | rfl | rfl | rfl | rfl | rfl | rfl | rfl | rfl | rfl | rfl | hk
  · exact rname_1
  · exact rname_2
  · exact rname_3
  · exact rname_4
  · exact rname_5
  · exact rname_6
  · exact rname_7
  · exact rname_8
  · exact rname_9
  · exact rname_10
  · exact rname_11
  · exact rname_12
  · exact rname_13
  · exact rname_14
  · exact rname_15
  · exact rname_16
  · exact rname_17
  · exact rname_18
  · exact rname_19
  · exact rname_20
  · exact rname_21
  · exact rname_22
  · exact rname_23
  · rw [nameS_out k hk]
    rcases hk with rfl | hk
    · exact rname_0
    · exact rname_out k (by omega) (by simp; omega) (by simp; omega)
end Go.Proofs.YtbihbkjdngjgkaaDoor
