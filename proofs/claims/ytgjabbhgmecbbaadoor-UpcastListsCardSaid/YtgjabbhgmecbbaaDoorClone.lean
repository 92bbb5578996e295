/-
  slices.Clone at []int64 and []string. No statement of the seat is proved here.
-/
import Derived.Test.YtgjabbhgmecbbaaDoorBox
namespace Go.Proofs.YtgjabbhgmecbbaaDoor
open Go.RowKit

set_option maxHeartbeats 1000000 in
theorem cloneN (q : Option Addr) (l : List Int) (cap : Nat) (w : World) (h : SlAt w q (l.map numV)) (hl : l.length ≤ 1000) :
    Calls Tryd.prog 29 #[.slice q l.length cap] w fun e w' => ∃ q' c', e = .returned (.slice q' l.length c') ∧ Rs w.heap.size w' 2 (.slice q' l.length c') (l.map numV) ∧ Fr No w w' := by
  have q22 : ∀ (w : World) (a : Option Addr) (n c : Nat), (binOp .eql 22 (.slice a n c) (.slice none 0 0)).run Tryd.prog w = .ok (.bool a.isNone) w := fun w a n c => Lib.run_eql_slice_nil w _ _ a n c 0 0 Tryd.underlying22
  rcases q with _ | a
  · obtain rfl : l = [] := by
      rcases l with _ | ⟨x, l⟩
      · rfl
      · obtain ⟨b, o, h1, _⟩ := h 0 (numV x) rfl
        cases h1
    go_enter Tryd.func29, Tryd.ntmps29
    go_wp2_with fail
    go_ret
    exact ⟨none, 0, rfl, Rs.nil _ _ _ _, Fr.refl _⟩
  · obtain ⟨i0, hi, hz0, hz1, hz2⟩ := info_parts infoI64
    have hS := Src.ofSl (P := Tryd.prog) (c := cap) Tryd.underlying22 (h.fr ((Fr.refl w).alloc (.cells #[] 2))) (num_one l)
    simp only [List.length_map] at hS
    have hle : w.heap.size ≤ (w.alloc (.cells #[] 2)).heap.size := by simp
    clear h
    go_enter Tryd.func29, Tryd.ntmps29
    go_wp2_with (at_builtin; refine wpList_append_rt rfl _ _ 22 _ rfl w.heap.size 2 i0 (.int .i64 0) 8 Tryd.underlying22 hi hz0 hz1 hz2 rfl _ [] rfl (Rs.nil _ _ _ _) hle _ _ _ rfl hS ?c3 ?c4 ?_)
    case c3 => simp only [List.length_nil]; unfold maxLen; omega
    case c4 => simp only [List.length_nil]; omega
    intro v' wA hr' hfT
    obtain ⟨q', cp', rfl⟩ := hr'.shape
    simp only [List.length_map] at hr' ⊢
    have hFA := ((Fr.refl w).alloc (.cells #[] 2)).newT (Nat.le_refl _) hfT
    clear hS
    go_wp2_with fail
    go_ret
    exact ⟨_, _, rfl, hr', hFA⟩

set_option maxHeartbeats 1000000 in
theorem cloneT (q : Option Addr) (l : List (List UInt8)) (cap : Nat) (w : World) (h : SlAt w q (l.map strV)) (hl : l.length ≤ 1000) :
    Calls Tryd.prog 30 #[.slice q l.length cap] w fun e w' => ∃ q' c', e = .returned (.slice q' l.length c') ∧ Rs w.heap.size w' 9 (.slice q' l.length c') (l.map strV) ∧ Fr No w w' := by
  have q22 : ∀ (w : World) (a : Option Addr) (n c : Nat), (binOp .eql 23 (.slice a n c) (.slice none 0 0)).run Tryd.prog w = .ok (.bool a.isNone) w := fun w a n c => Lib.run_eql_slice_nil w _ _ a n c 0 0 Tryd.underlying23
  rcases q with _ | a
  · obtain rfl : l = [] := by
      rcases l with _ | ⟨x, l⟩
      · rfl
      · obtain ⟨b, o, h1, _⟩ := h 0 (strV x) rfl
        cases h1
    go_enter Tryd.func30, Tryd.ntmps30
    go_wp2_with fail
    go_ret
    exact ⟨none, 0, rfl, Rs.nil _ _ _ _, Fr.refl _⟩
  · obtain ⟨i0, hi, hz0, hz1, hz2⟩ := info_parts infoStr
    have hS := Src.ofSl (P := Tryd.prog) (c := cap) Tryd.underlying23 (h.fr ((Fr.refl w).alloc (.cells #[] 9))) (str_one l)
    simp only [List.length_map] at hS
    have hle : w.heap.size ≤ (w.alloc (.cells #[] 9)).heap.size := by simp
    clear h
    go_enter Tryd.func30, Tryd.ntmps30
    go_wp2_with (at_builtin; refine wpList_append_rt rfl _ _ 23 _ rfl w.heap.size 9 i0 (.string ⟨#[]⟩) 16 Tryd.underlying23 hi hz0 hz1 hz2 rfl _ [] rfl (Rs.nil _ _ _ _) hle _ _ _ rfl hS ?c3 ?c4 ?_)
    case c3 => simp only [List.length_nil]; unfold maxLen; omega
    case c4 => simp only [List.length_nil]; omega
    intro v' wA hr' hfT
    obtain ⟨q', cp', rfl⟩ := hr'.shape
    simp only [List.length_map] at hr' ⊢
    have hFA := ((Fr.refl w).alloc (.cells #[] 9)).newT (Nat.le_refl _) hfT
    clear hS
    go_wp2_with fail
    go_ret
    exact ⟨_, _, rfl, hr', hFA⟩

end Go.Proofs.YtgjabbhgmecbbaaDoor
