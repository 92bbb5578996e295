/-
  The bounds of the classes. Fits: whether a number lies within its class's bounds. MayName: whether a text is a name. The laid tables: a row's five cells. The laid tables as lists of rows. What the laid condition gives: the tables' cells. A kind's row. The events and what may be, in plain words: no statement of the seat is proved here. No conditions.
-/
import Derived.Test.YtnmfmedoocnofaaDoorBase
import Derived.Test.YtnmfmedoocnofaaDoorProg
import Derived.WalkKit
import Derived.OwnWalk
import Derived.Laws.IdiomStrings
import Derived.OpenShut
import Derived.FnData
import Derived.Test.YtnmfmedoocnofaaDoorRows
import Derived.MakeChecks
import Derived.Handed
import Derived.Laws.Rows
namespace Go.Proofs.YtnmfmedoocnofaaDoor
open Go.RowKit

/-- The least and the greatest number of a class in a version. -/
def boundS (v c : Nat) : Int × Int × Bool :=
  match v, c with
  | 1, 97 => (1, 64, true)
  | 1, 105 => (1, 16, true)
  | 1, 111 => (1, 1099511627776, true)
  | 1, 99 => (1, 1099511627776, true)
  | 1, 113 => (1, 1048576, true)
  | 1, 109 => (1, 11258999068426, true)
  | 1, 122 => (0, 11258999068426, true)
  | 1, 112 => (1, 10737418, true)
  | 1, 107 => (1, 10737418, true)
  | 1, 98 => (0, 10, true)
  | 1, 116 => (1, 109951162777, true)
  | 1, 115 => (0, 1, true)
  | 2, 97 => (1, 64, true)
  | 2, 105 => (1, 16, true)
  | 2, 111 => (1, 1099511627776, true)
  | 2, 99 => (1, 1099511627776, true)
  | 2, 113 => (1, 1048576, true)
  | 2, 109 => (1, 1125899906842624, true)
  | 2, 122 => (0, 1125899906842624, true)
  | 2, 112 => (1, 1073741824, true)
  | 2, 107 => (1, 1073741824, true)
  | 2, 98 => (0, 1000, true)
  | 2, 116 => (1, 109951162777, true)
  | 2, 115 => (0, 1, true)
  | 3, 97 => (1, 64, true)
  | 3, 105 => (1, 16, true)
  | 3, 111 => (1, 1099511627776, true)
  | 3, 99 => (1, 1099511627776, true)
  | 3, 113 => (1, 1048576, true)
  | 3, 109 => (1, 1125899906842624, true)
  | 3, 122 => (0, 1125899906842624, true)
  | 3, 112 => (1, 1073741824, true)
  | 3, 107 => (1, 1073741824, true)
  | 3, 98 => (0, 1000, true)
  | 3, 116 => (1, 1099511627776, true)
  | 3, 115 => (1, 2, true)
  | _, _ => (0, 0, false)

def BoundIs (v c : Int) (x : Int × Int × Bool) : Prop :=
  ∀ w : World, Calls Tryd.prog 105 #[.int .u8 v, .int .u8 c] w fun e w' => e = .returned (.tuple #[.int .i64 x.1, .int .i64 x.2.1, .bool x.2.2]) ∧ w = w'

theorem bound_1_97 : BoundIs 1 97 (1, 64, true) := by
  intro w
  go_enter Tryd.func105, Tryd.ntmps105
  go_wp2
  go_ret3
  exact ⟨rfl, rfl⟩
theorem bound_1_105 : BoundIs 1 105 (1, 16, true) := by
  intro w
  go_enter Tryd.func105, Tryd.ntmps105
  go_wp2
  go_ret3
  exact ⟨rfl, rfl⟩
theorem bound_1_111 : BoundIs 1 111 (1, 1099511627776, true) := by
  intro w
  go_enter Tryd.func105, Tryd.ntmps105
  go_wp2
  go_ret3
  exact ⟨rfl, rfl⟩
theorem bound_1_99 : BoundIs 1 99 (1, 1099511627776, true) := by
  intro w
  go_enter Tryd.func105, Tryd.ntmps105
  go_wp2
  go_ret3
  exact ⟨rfl, rfl⟩
theorem bound_1_113 : BoundIs 1 113 (1, 1048576, true) := by
  intro w
  go_enter Tryd.func105, Tryd.ntmps105
  go_wp2
  go_ret3
  exact ⟨rfl, rfl⟩
theorem bound_1_109 : BoundIs 1 109 (1, 11258999068426, true) := by
  intro w
  go_enter Tryd.func105, Tryd.ntmps105
  go_wp2
  go_ret3
  exact ⟨rfl, rfl⟩
theorem bound_1_122 : BoundIs 1 122 (0, 11258999068426, true) := by
  intro w
  go_enter Tryd.func105, Tryd.ntmps105
  go_wp2
  go_ret3
  exact ⟨rfl, rfl⟩
theorem bound_1_112 : BoundIs 1 112 (1, 10737418, true) := by
  intro w
  go_enter Tryd.func105, Tryd.ntmps105
  go_wp2
  go_ret3
  exact ⟨rfl, rfl⟩
theorem bound_1_107 : BoundIs 1 107 (1, 10737418, true) := by
  intro w
  go_enter Tryd.func105, Tryd.ntmps105
  go_wp2
  go_ret3
  exact ⟨rfl, rfl⟩
theorem bound_1_98 : BoundIs 1 98 (0, 10, true) := by
  intro w
  go_enter Tryd.func105, Tryd.ntmps105
  go_wp2
  go_ret3
  exact ⟨rfl, rfl⟩
theorem bound_1_116 : BoundIs 1 116 (1, 109951162777, true) := by
  intro w
  go_enter Tryd.func105, Tryd.ntmps105
  go_wp2
  go_ret3
  exact ⟨rfl, rfl⟩
theorem bound_1_115 : BoundIs 1 115 (0, 1, true) := by
  intro w
  go_enter Tryd.func105, Tryd.ntmps105
  go_wp2
  go_ret3
  exact ⟨rfl, rfl⟩
theorem bound_2_97 : BoundIs 2 97 (1, 64, true) := by
  intro w
  go_enter Tryd.func105, Tryd.ntmps105
  go_wp2
  go_ret3
  exact ⟨rfl, rfl⟩
theorem bound_2_105 : BoundIs 2 105 (1, 16, true) := by
  intro w
  go_enter Tryd.func105, Tryd.ntmps105
  go_wp2
  go_ret3
  exact ⟨rfl, rfl⟩
theorem bound_2_111 : BoundIs 2 111 (1, 1099511627776, true) := by
  intro w
  go_enter Tryd.func105, Tryd.ntmps105
  go_wp2
  go_ret3
  exact ⟨rfl, rfl⟩
theorem bound_2_99 : BoundIs 2 99 (1, 1099511627776, true) := by
  intro w
  go_enter Tryd.func105, Tryd.ntmps105
  go_wp2
  go_ret3
  exact ⟨rfl, rfl⟩
theorem bound_2_113 : BoundIs 2 113 (1, 1048576, true) := by
  intro w
  go_enter Tryd.func105, Tryd.ntmps105
  go_wp2
  go_ret3
  exact ⟨rfl, rfl⟩
theorem bound_2_109 : BoundIs 2 109 (1, 1125899906842624, true) := by
  intro w
  go_enter Tryd.func105, Tryd.ntmps105
  go_wp2
  go_ret3
  exact ⟨rfl, rfl⟩
theorem bound_2_122 : BoundIs 2 122 (0, 1125899906842624, true) := by
  intro w
  go_enter Tryd.func105, Tryd.ntmps105
  go_wp2
  go_ret3
  exact ⟨rfl, rfl⟩
theorem bound_2_112 : BoundIs 2 112 (1, 1073741824, true) := by
  intro w
  go_enter Tryd.func105, Tryd.ntmps105
  go_wp2
  go_ret3
  exact ⟨rfl, rfl⟩
theorem bound_2_107 : BoundIs 2 107 (1, 1073741824, true) := by
  intro w
  go_enter Tryd.func105, Tryd.ntmps105
  go_wp2
  go_ret3
  exact ⟨rfl, rfl⟩
theorem bound_2_98 : BoundIs 2 98 (0, 1000, true) := by
  intro w
  go_enter Tryd.func105, Tryd.ntmps105
  go_wp2
  go_ret3
  exact ⟨rfl, rfl⟩
theorem bound_2_116 : BoundIs 2 116 (1, 109951162777, true) := by
  intro w
  go_enter Tryd.func105, Tryd.ntmps105
  go_wp2
  go_ret3
  exact ⟨rfl, rfl⟩
theorem bound_2_115 : BoundIs 2 115 (0, 1, true) := by
  intro w
  go_enter Tryd.func105, Tryd.ntmps105
  go_wp2
  go_ret3
  exact ⟨rfl, rfl⟩
theorem bound_3_97 : BoundIs 3 97 (1, 64, true) := by
  intro w
  go_enter Tryd.func105, Tryd.ntmps105
  go_wp2
  go_ret3
  exact ⟨rfl, rfl⟩
theorem bound_3_105 : BoundIs 3 105 (1, 16, true) := by
  intro w
  go_enter Tryd.func105, Tryd.ntmps105
  go_wp2
  go_ret3
  exact ⟨rfl, rfl⟩
theorem bound_3_111 : BoundIs 3 111 (1, 1099511627776, true) := by
  intro w
  go_enter Tryd.func105, Tryd.ntmps105
  go_wp2
  go_ret3
  exact ⟨rfl, rfl⟩
theorem bound_3_99 : BoundIs 3 99 (1, 1099511627776, true) := by
  intro w
  go_enter Tryd.func105, Tryd.ntmps105
  go_wp2
  go_ret3
  exact ⟨rfl, rfl⟩
theorem bound_3_113 : BoundIs 3 113 (1, 1048576, true) := by
  intro w
  go_enter Tryd.func105, Tryd.ntmps105
  go_wp2
  go_ret3
  exact ⟨rfl, rfl⟩
theorem bound_3_109 : BoundIs 3 109 (1, 1125899906842624, true) := by
  intro w
  go_enter Tryd.func105, Tryd.ntmps105
  go_wp2
  go_ret3
  exact ⟨rfl, rfl⟩
theorem bound_3_122 : BoundIs 3 122 (0, 1125899906842624, true) := by
  intro w
  go_enter Tryd.func105, Tryd.ntmps105
  go_wp2
  go_ret3
  exact ⟨rfl, rfl⟩
theorem bound_3_112 : BoundIs 3 112 (1, 1073741824, true) := by
  intro w
  go_enter Tryd.func105, Tryd.ntmps105
  go_wp2
  go_ret3
  exact ⟨rfl, rfl⟩
theorem bound_3_107 : BoundIs 3 107 (1, 1073741824, true) := by
  intro w
  go_enter Tryd.func105, Tryd.ntmps105
  go_wp2
  go_ret3
  exact ⟨rfl, rfl⟩
theorem bound_3_98 : BoundIs 3 98 (0, 1000, true) := by
  intro w
  go_enter Tryd.func105, Tryd.ntmps105
  go_wp2
  go_ret3
  exact ⟨rfl, rfl⟩
theorem bound_3_116 : BoundIs 3 116 (1, 1099511627776, true) := by
  intro w
  go_enter Tryd.func105, Tryd.ntmps105
  go_wp2
  go_ret3
  exact ⟨rfl, rfl⟩
theorem bound_3_115 : BoundIs 3 115 (1, 2, true) := by
  intro w
  go_enter Tryd.func105, Tryd.ntmps105
  go_wp2
  go_ret3
  exact ⟨rfl, rfl⟩
theorem bound_1 (c : Nat) (h97 : ((c : Int) == 97) = false) (h105 : ((c : Int) == 105) = false) (h111 : ((c : Int) == 111) = false) (h99 : ((c : Int) == 99) = false) (h113 : ((c : Int) == 113) = false) (h109 : ((c : Int) == 109) = false) (h122 : ((c : Int) == 122) = false) (h112 : ((c : Int) == 112) = false) (h107 : ((c : Int) == 107) = false) (h98 : ((c : Int) == 98) = false) (h116 : ((c : Int) == 116) = false) (h115 : ((c : Int) == 115) = false) : BoundIs 1 c (0, 0, false) := by
  intro w
  go_enter Tryd.func105, Tryd.ntmps105
  go_wp2
  go_ret3
  exact ⟨rfl, rfl⟩
theorem bound_2 (c : Nat) (h97 : ((c : Int) == 97) = false) (h105 : ((c : Int) == 105) = false) (h111 : ((c : Int) == 111) = false) (h99 : ((c : Int) == 99) = false) (h113 : ((c : Int) == 113) = false) (h109 : ((c : Int) == 109) = false) (h122 : ((c : Int) == 122) = false) (h112 : ((c : Int) == 112) = false) (h107 : ((c : Int) == 107) = false) (h98 : ((c : Int) == 98) = false) (h116 : ((c : Int) == 116) = false) (h115 : ((c : Int) == 115) = false) : BoundIs 2 c (0, 0, false) := by
  intro w
  go_enter Tryd.func105, Tryd.ntmps105
  go_wp2
  go_ret3
  exact ⟨rfl, rfl⟩
theorem bound_3 (c : Nat) (h97 : ((c : Int) == 97) = false) (h105 : ((c : Int) == 105) = false) (h111 : ((c : Int) == 111) = false) (h99 : ((c : Int) == 99) = false) (h113 : ((c : Int) == 113) = false) (h109 : ((c : Int) == 109) = false) (h122 : ((c : Int) == 122) = false) (h112 : ((c : Int) == 112) = false) (h107 : ((c : Int) == 107) = false) (h98 : ((c : Int) == 98) = false) (h116 : ((c : Int) == 116) = false) (h115 : ((c : Int) == 115) = false) : BoundIs 3 c (0, 0, false) := by
  intro w
  go_enter Tryd.func105, Tryd.ntmps105
  go_wp2
  go_ret3
  exact ⟨rfl, rfl⟩
theorem bound_0 (c : Nat) : BoundIs 0 c (0, 0, false) := by
  intro w
  go_enter Tryd.func105, Tryd.ntmps105
  go_wp2
  go_ret3
  exact ⟨rfl, rfl⟩
theorem bound_4 (v c : Nat) (h : decide ((3 : Int) < (v : Int)) = true) (h1 : decide ((v : Int) < 1) = false) : BoundIs v c (0, 0, false) := by
  intro w
  go_enter Tryd.func105, Tryd.ntmps105
  go_wp2
  go_ret3
  exact ⟨rfl, rfl⟩
theorem bound_any (v c : Nat) : BoundIs v c (boundS v c) := by
  by_cases h3 : 3 < v
  · have e : boundS v c = (0, 0, false) := by
      unfold boundS; split <;> first | omega | rfl
    rw [e]
    exact bound_4 v c (by simp; omega) (by simp; omega)
  have hv : v = 0 ∨ v = 1 ∨ v = 2 ∨ v = 3 := by omega
  have hc : c = 97 ∨ c = 105 ∨ c = 111 ∨ c = 99 ∨ c = 113 ∨ c = 109 ∨ c = 122 ∨ c = 112 ∨ c = 107 ∨ c = 98 ∨ c = 116 ∨ c = 115 ∨ (c ≠ 97 ∧ c ≠ 105 ∧ c ≠ 111 ∧ c ≠ 99 ∧ c ≠ 113 ∧ c ≠ 109 ∧ c ≠ 122 ∧ c ≠ 112 ∧ c ≠ 107 ∧ c ≠ 98 ∧ c ≠ 116 ∧ c ≠ 115) := by omega
  rcases hv with rfl | rfl | rfl | rfl
  · have e : boundS 0 c = (0, 0, false) := by unfold boundS; split <;> first | omega | rfl
    rw [e]
    exact bound_0 c
  · rcases hc with rfl | rfl | rfl | rfl | rfl | rfl | rfl | rfl | rfl | rfl | rfl | rfl | hc
    · exact bound_1_97
    · exact bound_1_105
    · exact bound_1_111
    · exact bound_1_99
    · exact bound_1_113
    · exact bound_1_109
    · exact bound_1_122
    · exact bound_1_112
    · exact bound_1_107
    · exact bound_1_98
    · exact bound_1_116
    · exact bound_1_115
    · have e : boundS 1 c = (0, 0, false) := by unfold boundS; split <;> first | omega | rfl
      rw [e]
      exact bound_1 c (by simp; omega) (by simp; omega) (by simp; omega) (by simp; omega) (by simp; omega) (by simp; omega) (by simp; omega) (by simp; omega) (by simp; omega) (by simp; omega) (by simp; omega) (by simp; omega)
  · rcases hc with rfl | rfl | rfl | rfl | rfl | rfl | rfl | rfl | rfl | rfl | rfl | rfl | hc
    · exact bound_2_97
    · exact bound_2_105
    · exact bound_2_111
    · exact bound_2_99
    · exact bound_2_113
    · exact bound_2_109
    · exact bound_2_122
    · exact bound_2_112
    · exact bound_2_107
    · exact bound_2_98
    · exact bound_2_116
    · exact bound_2_115
    · have e : boundS 2 c = (0, 0, false) := by unfold boundS; split <;> first | omega | rfl
      rw [e]
      exact bound_2 c (by simp; omega) (by simp; omega) (by simp; omega) (by simp; omega) (by simp; omega) (by simp; omega) (by simp; omega) (by simp; omega) (by simp; omega) (by simp; omega) (by simp; omega) (by simp; omega)
  · rcases hc with rfl | rfl | rfl | rfl | rfl | rfl | rfl | rfl | rfl | rfl | rfl | rfl | hc
    · exact bound_3_97
    · exact bound_3_105
    · exact bound_3_111
    · exact bound_3_99
    · exact bound_3_113
    · exact bound_3_109
    · exact bound_3_122
    · exact bound_3_112
    · exact bound_3_107
    · exact bound_3_98
    · exact bound_3_116
    · exact bound_3_115
    · have e : boundS 3 c = (0, 0, false) := by unfold boundS; split <;> first | omega | rfl
      rw [e]
      exact bound_3 c (by simp; omega) (by simp; omega) (by simp; omega) (by simp; omega) (by simp; omega) (by simp; omega) (by simp; omega) (by simp; omega) (by simp; omega) (by simp; omega) (by simp; omega) (by simp; omega)

def fitsS (v c : Nat) (n : Int) : Bool := (boundS v c).2.2 && (decide ((boundS v c).1 ≤ n) && decide (n ≤ (boundS v c).2.1))

set_option maxHeartbeats 1000000 in
theorem fits_any (v c : Nat) (n : Int) (w : World) :
    Calls Tryd.prog 100 #[.int .u8 v, .int .u8 c, .int .i64 n] w fun e w' => e = .returned (.bool (fitsS v c n)) ∧ w = w' := by
  have H := hid (bound_any v c)
  unfold fitsS
  generalize boundS v c = B at H ⊢
  obtain ⟨lo, hi, is⟩ := B
  unfold BoundIs at H
  simp only at H ⊢
  cases is
  · go_enter Tryd.func100, Tryd.ntmps100
    go_wp2_with (first | (go_at_call 105; refine (H.out _).mono ?_; rintro e1 w1 ⟨rfl, rfl⟩))
    go_ret
    exact ⟨rfl, rfl⟩
  · by_cases h1 : lo ≤ n
    · have hd : decide (lo ≤ n) = true := by simpa using h1
      go_enter Tryd.func100, Tryd.ntmps100
      go_wp2_with (first | (go_at_call 105; refine (H.out _).mono ?_; rintro e1 w1 ⟨rfl, rfl⟩))
      go_ret
      exact ⟨by rw [hd]; rfl, rfl⟩
    · have hd : decide (lo ≤ n) = false := by simpa using h1
      go_enter Tryd.func100, Tryd.ntmps100
      go_wp2_with (first | (go_at_call 105; refine (H.out _).mono ?_; rintro e1 w1 ⟨rfl, rfl⟩))
      go_ret
      exact ⟨by rw [hd]; rfl, rfl⟩

theorem conv_bytes (w : World) (s : List UInt8) : ∃ (cap : Nat) (W1 : World), (convert 9 67 (.string ⟨s.toArray⟩)).run Tryd.prog w = .ok (.slice (some ⟨w.heap.size, 0, none⟩) s.length cap) W1 ∧ Fr No w W1 ∧
    ∀ i (h : i < s.length), W1.cell? ⟨w.heap.size, i, none⟩ = some (.int .u8 (s[i].toNat : Int)) := by
  refine ⟨_, _, run_bytes_of_string w 9 67 5 ⟨s.toArray⟩ Tryd.underlying9 Tryd.underlying67 Tryd.underlying5, ((Fr.refl w).drew).alloc _, fun i h => ?_⟩
  simp only [World.cell?]
  rw [show (w.drew.alloc _).heap[w.heap.size]? = _ from Go.heap_alloc_new w.drew _]
  simp only [bytesRow, Option.isSome_none, Bool.false_eq_true, if_false]
  rw [Array.getElem?_append_left (by simp; omega)]
  simp [h]

def nameB (c : Nat) : Bool := (decide (97 ≤ c) && decide (c ≤ 122)) || (decide (48 ≤ c) && decide (c ≤ 57)) || decide (c = 45) || decide (c = 95)
def mayNameS (s : List UInt8) : Bool := s.all (fun c => nameB c.toNat) && (decide (1 ≤ s.length) && decide (s.length ≤ 24))

theorem all_snoc (s : List UInt8) (i : Nat) (hi : i < s.length) (h : (s.take i).all (fun c => nameB c.toNat) = true) (hc : nameB s[i].toNat = true) : (s.take (i + 1)).all (fun c => nameB c.toNat) = true := by
  rw [List.take_succ_eq_append_getElem hi, List.all_append, h]
  simp [hc]
theorem all_not (s : List UInt8) (i : Nat) (hi : i < s.length) (hc : nameB s[i].toNat = false) : mayNameS s = false := by
  unfold mayNameS
  have : s.all (fun c => nameB c.toNat) = false := by
    rw [List.all_eq_false]
    exact ⟨s[i], List.getElem_mem hi, by simp [hc]⟩
  rw [this]; rfl
set_option maxHeartbeats 1000000 in
set_option maxRecDepth 100000 in
theorem mayName_any (s : List UInt8) (w : World) (hs : s.length ≤ 9223372036854775807) :
    Calls Tryd.prog 74 #[strV s] w fun e w' => e = .returned (.bool (mayNameS s)) ∧ Fr No w w' := by
  obtain ⟨cap, W1, hcv, hf, hcell⟩ := conv_bytes w s
  unfold strV
  generalize hg : w.heap.size = g at hcv hcell
  have HF := hid hf
  have HC := hid hcell
  have HS := hid hs
  clear hf hcell hs
  go_enter Tryd.func74, Tryd.ntmps74
  go_wp2
  go_loopw [8] (fun c wr => ∃ i : Nat, i ≤ s.length ∧ c = .int .i64 i ∧ W1 = wr ∧ (s.take i).all (fun c => nameB c.toNat) = true) (fun c _ => s.length - (intOf c).toNat)
  case atStart => exact ⟨0, Nat.zero_le _, rfl, rfl, by simp⟩
  case round =>
    obtain ⟨i, hi, rfl, rfl, hall⟩ := hrel
    have HA := hid hall
    clear hall
    by_cases hlt : i < s.length
    · have hd : decide ((i : Int) < (s.length : Int)) = true := by simp; omega
      have hc := HC.out i hlt
      obtain ⟨cb, hcb⟩ : ∃ cb, cb = s[i].toNat := ⟨_, rfl⟩
      rw [← hcb] at hc
      have HCB := hid hcb
      clear hcb
      have hcl : cb < 256 := by rw [HCB.out]; exact s[i].toNat_lt
      have HT := hid (fun (h : nameB cb = true) => all_snoc s i hlt HA.out (by rw [← HCB.out]; exact h))
      have HN := hid (fun (h : nameB cb = false) => all_not s i hlt (by rw [← HCB.out]; exact h))
      go_wp2
      all_goals first
        | (go_roundw
           case rel => exact ⟨i + 1, by omega, congrArg (Value.int .i64) (by first | rfl | exact IntWalk.wrap64_in _ (by have := HS.out; omega)), by trivial, HT.out (by (try simp only [bne_eq_false_iff_eq] at *); simp [nameB]; omega)⟩
           case measure =>
             have := HS.out
             first
               | (simp [intOf]; omega)
               | (rw [IntWalk.wrap64_in _ (by omega)]; simp [intOf]; omega))
        | (go_ret
           exact ⟨congrArg (fun z => Ending.returned (.bool z)) (HN.out (by (try simp only [bne_iff_ne, ne_eq] at *); simp [nameB]; omega)).symm, HF.out⟩)
    · have hd : decide ((i : Int) < (s.length : Int)) = false := by simp; omega
      have e : mayNameS s = (decide (1 ≤ s.length) && decide (s.length ≤ 24)) := by
        have h := HA.out
        rw [List.take_of_length_le (by omega)] at h
        unfold mayNameS
        rw [h]; rfl
      have HE := hid e
      clear e
      by_cases h1 : 1 ≤ s.length
      · have hd1 : decide ((1 : Int) ≤ (s.length : Int)) = true := by simp; omega
        go_wp2
        all_goals go_ret
        all_goals refine ⟨(congrArg (fun z => Ending.returned (.bool z)) ?_).trans (congrArg (fun z => Ending.returned (.bool z)) HE.out.symm), HF.out⟩
        all_goals first
          | (simp [h1]; done)
          | (simp [h1]; omega)
          | (rw [show decide (1 ≤ s.length) = true from by simpa using h1]; simp)
      · have hd1 : decide ((1 : Int) ≤ (s.length : Int)) = false := by simp; omega
        go_wp2
        all_goals go_ret
        all_goals refine ⟨?_, HF.out⟩
        all_goals rw [HE.out]
        all_goals (have e0 : s = [] := List.length_eq_zero_iff.1 (by omega))
        all_goals subst e0
        all_goals rfl

open Go.RowKit Go.ChangeShapes Go.WideShapes

/-- A row of a table: its name, its fields version by version, whether it has a text. -/
structure RowT where
  name : List UInt8
  f1 : List UInt8
  f2 : List UInt8
  f3 : List UInt8
  text : Bool
deriving DecidableEq
def rowV (x : RowT) : List Value := [strV x.name, strV x.f1, strV x.f2, strV x.f3, .bool x.text]
def rowD {H : Type} (x : RowT) : DataW H := .agg [.lit (.string x.name), .agg [.lit (.string x.f1), .lit (.string x.f2), .lit (.string x.f3)], .lit (.bool x.text)]

theorem str_cells {H : Type} {enc : TypeId × Value → H} {w : World} {base : Nat} {sp : Nat → Bool} {hd : Bool} {n : Nat} {cs : List Value} {x : DataW H × List MemPlace} {l : List UInt8}
    (h : DataW.trod enc Tryd.prog w base sp hd n 9 cs = some x) (hx : x.1 = .lit (.string l)) : cs = [strV l] := by
  obtain ⟨s, rfl, rfl, _⟩ := DataW.trod_string Tryd.underlying9 h
  simp at hx
  subst hx
  rfl
set_option maxRecDepth 100000 in
theorem three_cells {H : Type} {enc : TypeId × Value → H} {w : World} {base : Nat} {sp : Nat → Bool} {hd : Bool} {n : Nat} {cs : List Value} {x : DataW H × List MemPlace} {l1 l2 l3 : List UInt8}
    (h : DataW.trod enc Tryd.prog w base sp hd n 130 cs = some x) (hx : x.1 = .agg [.lit (.string l1), .lit (.string l2), .lit (.string l3)]) : cs = [strV l1, strV l2, strV l3] := by
  obtain ⟨xs, m, _, rfl, hlen, hn, hel⟩ := DataW.trod_array Tryd.underlying130 h
  have c9 : Tryd.prog.cellsOf 9 = 1 := by kernel_rfl
  have c3 : Tryd.prog.cellsOf 130 = 3 := by kernel_rfl
  rw [c3] at hlen
  have g0 := hel 0 (by decide)
  have g1 := hel 1 (by decide)
  have g2 := hel 2 (by decide)
  clear hel h
  match cs, hlen with
  | [v0, v1, v2], _ =>
   match xs, hn with
   | [x0, x1, x2], _ =>
    simp at hx
    simp [c9] at g0 g1 g2
    have e0 := str_cells g0 hx.1
    have e1 := str_cells g1 hx.2.1
    have e2 := str_cells g2 hx.2.2
    simp at e0 e1 e2
    rw [e0, e1, e2]
set_option maxRecDepth 100000 in
theorem row_cells {H : Type} {enc : TypeId × Value → H} {w : World} {base : Nat} {sp : Nat → Bool} {hd : Bool} {n : Nat} {cs : List Value} {x : DataW H × List MemPlace} {r : RowT}
    (h : DataW.trod enc Tryd.prog w base sp hd n 132 cs = some x) (hx : x.1 = rowD r) : cs = rowV r := by
  have c9 : Tryd.prog.cellsOf 9 = 1 := by kernel_rfl
  have c3 : Tryd.prog.cellsOf 130 = 3 := by kernel_rfl
  have c4 : Tryd.prog.cellsOf 4 = 1 := by kernel_rfl
  have c5 : Tryd.prog.cellsOf 132 = 5 := by kernel_rfl
  obtain ⟨xs, m, _, rfl, hlen, hn, hf⟩ := DataW.trod_struct Tryd.underlying132 h
  rw [c5] at hlen
  have g0 := hf 0 _ rfl
  have g1 := hf 1 _ rfl
  have g2 := hf 2 _ rfl
  clear hf h
  match cs, hlen with
  | [v0, v1, v2, v3, v4], _ =>
   match xs, hn with
   | [x0, x1, x2], _ =>
    simp [rowD] at hx
    simp [c9, c3, c4] at g0 g1 g2
    have e0 := str_cells g0 hx.1
    have e1 := three_cells g1 hx.2.1
    obtain ⟨b, e2, e3⟩ := DataW.trod_bool Tryd.underlying4 g2
    simp at e0 e1 e2
    have hb : b = r.text := by
      have := hx.2.2
      rw [e3] at this
      simpa using this
    rw [e0, e1.1, e1.2.1, e1.2.2, e2, hb]
    rfl

theorem table_cells {H : Type} {enc : TypeId × Value → H} {w : World} {base : Nat} {sp : Nat → Bool} {hd : Bool} {n k : Nat} {t : TypeId} {cs : List Value} {x : DataW H × List MemPlace} {rows : List RowT}
    (ht : Tryd.prog.underlying t = some (.array k 132)) (h : DataW.trod enc Tryd.prog w base sp hd n t cs = some x) (hx : x.1 = .agg (rows.map rowD)) :
    ∀ i r, rows[i]? = some r → ∀ j, j < 5 → cs[i * 5 + j]? = (rowV r)[j]? := by
  have c5 : Tryd.prog.cellsOf 132 = 5 := by kernel_rfl
  obtain ⟨xs, m, _, rfl, _, hn, hel⟩ := DataW.trod_array ht h
  simp only [DataW.agg.injEq] at hx
  intro i r hr j hj
  have hlen : xs.length = rows.length := by have := congrArg List.length hx; simpa using this
  have hi : i < rows.length := (List.getElem?_eq_some_iff.1 hr).1
  have hy : xs[i]? = some (xs[i]'(by omega)) := List.getElem?_eq_getElem (by omega)
  have hy1 : (xs[i]'(by omega)).1 = rowD r := by
    have := congrArg (fun l => l[i]?) hx
    simp only [List.getElem?_map, hy, hr, Option.map_some, Option.some.injEq] at this
    exact this
  have g := hel i (by omega)
  rw [hy, c5] at g
  have e := row_cells g hy1
  rw [← e, List.getElem?_take_of_lt hj, List.getElem?_drop]

def kindsT : List RowT := [⟨[111, 112, 101, 110, 101, 100], [97], [97], [97], true⟩,
  ⟨[99, 108, 111, 115, 101, 100], [97], [97], [97], false⟩,
  ⟨[108, 105, 115, 116, 101, 100], [105], [105, 107], [105, 107], true⟩,
  ⟨[104, 97, 108, 116, 101, 100], [105], [105], [105], false⟩,
  ⟨[114, 101, 115, 117, 109, 101, 100], [105], [105], [105], false⟩,
  ⟨[100, 101, 112, 111, 115, 105, 116, 101, 100], [97, 109], [97, 109], [97, 109], false⟩,
  ⟨[119, 105, 116, 104, 100, 114, 97, 119, 110], [97, 109], [97, 109], [97, 109], false⟩,
  ⟨[105, 115, 115, 117, 101, 100], [97, 105, 113], [97, 105, 113], [97, 105, 113], false⟩,
  ⟨[114, 101, 100, 101, 101, 109, 101, 100], [97, 105, 113], [97, 105, 113], [97, 105, 113], false⟩,
  ⟨[102, 101, 101, 32, 115, 101, 116], [98], [98], [98], false⟩,
  ⟨[112, 108, 97, 99, 101, 100], [111, 97, 105, 115, 112, 113], [111, 97, 105, 115, 112, 113], [111, 97, 105, 115, 112, 113], false⟩,
  ⟨[99, 97, 110, 99, 101, 108, 108, 101, 100], [111], [111], [111], false⟩,
  ⟨[116, 114, 97, 100, 101, 100], [111, 111, 112, 113], [111, 111, 112, 113, 122], [111, 111, 112, 113, 122], false⟩,
  ⟨[101, 110, 103, 108, 105, 115, 104], [99, 97, 105, 113, 109, 116], [99, 97, 105, 113, 109, 109, 116], [99, 97, 105, 113, 109, 109, 116], false⟩,
  ⟨[114, 97, 105, 115, 101, 100], [99, 97, 109], [99, 97, 109], [99, 97, 109], false⟩,
  ⟨[115, 101, 97, 108, 101, 100], [99, 97, 105, 113, 109, 116], [99, 97, 105, 113, 109, 116], [99, 97, 105, 113, 109, 116], false⟩,
  ⟨[98, 105, 100], [99, 97, 109], [99, 97, 109], [99, 97, 109], false⟩,
  ⟨[115, 111, 108, 100], [99, 97, 109], [99, 97, 109, 122], [99, 97, 109, 122], false⟩,
  ⟨[117, 110, 115, 111, 108, 100], [99], [99], [99], false⟩,
  ⟨[109, 111, 118, 101, 100], [116], [116], [116], false⟩,
  ⟨[116, 114, 97, 110, 115, 102, 101, 114, 114, 101, 100], [32], [97, 97, 109], [97, 97, 109], false⟩,
  ⟨[114, 101, 110, 97, 109, 101, 100], [32], [32], [97], true⟩,
  ⟨[116, 105, 99, 107, 101, 100], [32], [32], [105, 107], false⟩]
theorem kindsT_laid {H : Type} : (Rows.laid_souk_schema_kinds : DataW H) = .agg (kindsT.map rowD) := rfl

def commandsT : List RowT := [⟨[111, 112, 101, 110], [32], [32], [], true⟩,
  ⟨[99, 108, 111, 115, 101], [32], [32], [97], false⟩,
  ⟨[108, 105, 115, 116], [32], [32], [107], true⟩,
  ⟨[104, 97, 108, 116], [32], [32], [105], false⟩,
  ⟨[114, 101, 115, 117, 109, 101], [32], [32], [105], false⟩,
  ⟨[100, 101, 112, 111, 115, 105, 116], [32], [32], [97, 109], false⟩,
  ⟨[119, 105, 116, 104, 100, 114, 97, 119], [32], [32], [97, 109], false⟩,
  ⟨[105, 115, 115, 117, 101], [32], [32], [97, 105, 113], false⟩,
  ⟨[114, 101, 100, 101, 101, 109], [32], [32], [97, 105, 113], false⟩,
  ⟨[102, 101, 101], [32], [32], [98], false⟩,
  ⟨[112, 108, 97, 99, 101], [32], [32], [97, 105, 115, 112, 113], false⟩,
  ⟨[99, 97, 110, 99, 101, 108], [32], [32], [97, 111], false⟩,
  ⟨[101, 110, 103, 108, 105, 115, 104], [32], [32], [97, 105, 113, 109, 109, 116], false⟩,
  ⟨[114, 97, 105, 115, 101], [32], [32], [97, 99, 109], false⟩,
  ⟨[115, 101, 97, 108, 101, 100], [32], [32], [97, 105, 113, 109, 116], false⟩,
  ⟨[98, 105, 100], [32], [32], [97, 99, 109], false⟩,
  ⟨[109, 111, 118, 101], [32], [32], [116], false⟩,
  ⟨[116, 114, 97, 110, 115, 102, 101, 114], [32], [32], [97, 97, 109], false⟩,
  ⟨[114, 101, 110, 97, 109, 101], [32], [32], [97], true⟩,
  ⟨[116, 105, 99, 107], [32], [32], [105, 107], false⟩]

def RowsAt (W : World) (g : Nat) (rows : List RowT) : Prop := ∀ i r, rows[i]? = some r → ∀ j, j < 5 → W.cell? ⟨g, i * 5 + j, none⟩ = (rowV r)[j]?
theorem gKinds : Tryd.prog.globalNamed "souk/schema.kinds" = some 0 := by kernel_rfl
theorem tKinds : (Tryd.prog.globals[0]?).map (·.type) = some 141 := by kernel_rfl

theorem kinds_of_laid {W : World} (h : laidMetH Tryd.prog [("souk/schema.kinds", Rows.laid_souk_schema_kinds)] W) : RowsAt W 0 kindsT := by
  rw [MakeChecks.laidMetH_plain _ _ _ (by kernel_rfl)] at h
  obtain ⟨ps, ⟨g0, t0, cs0, f0, p0, q0, hg0, ht0, hv0, hd0, _, _⟩, _⟩ := h
  obtain rfl := Option.some.inj (gKinds.symm.trans hg0)
  obtain rfl := Option.some.inj (tKinds.symm.trans ht0)
  intro i r hr j hj
  rw [World.var?_cell hg0 hv0]
  have := table_cells (rows := kindsT) Tryd.underlying141 hd0 kindsT_laid i r hr j hj
  simpa using this

def noRow : RowT := ⟨[], [32], [32], [32], false⟩
def eventT (k : Nat) : RowT := if k = 0 then noRow else (kindsT[k - 1]?).getD noRow
def rowA (r : RowT) : Value := .agg #[strV r.name, strV r.f1, strV r.f2, strV r.f3, .bool r.text]

set_option maxHeartbeats 1000000 in
theorem event_in (k : Nat) (r : RowT) (w : World) (hr : kindsT[k]? = some r) (hk : k < 23) (h : RowsAt w 0 kindsT) :
    Calls Tryd.prog 98 #[.int .u8 ((k : Int) + 1)] w fun e w' => e = .returned (rowA r) ∧ Fr No w w' := by
  have c0 : w.cell? ⟨0, k * 5, none⟩ = some (strV r.name) := h k r hr 0 (by decide)
  have c1 : w.cell? ⟨0, k * 5 + 1, none⟩ = some (strV r.f1) := h k r hr 1 (by decide)
  have c2 : w.cell? ⟨0, k * 5 + 2, none⟩ = some (strV r.f2) := h k r hr 2 (by decide)
  have c3 : w.cell? ⟨0, k * 5 + 3, none⟩ = some (strV r.f3) := h k r hr 3 (by decide)
  have c4 : w.cell? ⟨0, k * 5 + 4, none⟩ = some (.bool r.text) := h k r hr 4 (by decide)
  have hlt : 0 < w.heap.size := World.block_lt_of_cell? w _ c0
  unfold rowA
  unfold strV at *
  clear hr h
  go_enter Tryd.func98, Tryd.ntmps98
  go_wp2
  refine bodyPost_ret (Go.results_cell_row rfl _ _ w.heap.size 132 _ (0, 0) _ rfl (Go.heap_alloc_new _ _) Tryd.underlying132 rfl (by kernel_rfl)) rfl ⟨rfl, (Fr.refl w).alloc _⟩

set_option maxHeartbeats 1000000 in
theorem event_out (k : Nat) (w : World) (h8 : k ≤ 255) (hk : k = 0 ∨ 23 < k) :
    Calls Tryd.prog 98 #[.int .u8 k] w fun e w' => e = .returned (rowA noRow) ∧ Fr No w w' := by
  unfold rowA noRow strV
  rcases hk with rfl | hk
  all_goals
    go_enter Tryd.func98, Tryd.ntmps98
    go_wp2
    refine bodyPost_ret (Go.results_cell_row rfl _ _ w.heap.size 132 _ (0, 0) _ rfl (Go.heap_alloc_new _ _) Tryd.underlying132 rfl (by kernel_rfl)) rfl ⟨rfl, (Fr.refl w).alloc _⟩

def fieldT (r : RowT) (v : Nat) : List UInt8 := if v = 1 then r.f1 else if v = 2 then r.f2 else r.f3
/-- What a row has in a version. -/
def toldS (r : RowT) (v : Nat) : List UInt8 × Bool × Bool :=
  if v = 0 ∨ 3 < v then ([], false, false) else if fieldT r v = [32] then ([], false, false) else (fieldT r v, r.text, true)
def fieldsS (v k : Nat) : List UInt8 × Bool × Bool := toldS (eventT k) v
def commandT (k : Nat) : RowT := if k = 0 then noRow else (commandsT[k - 1]?).getD noRow
def commandS (k : Nat) : List UInt8 × Bool × Bool := toldS (commandT k) 3
/-- A row whose fields are ASCII, blanks alone or none. -/
def RowOk (r : RowT) : Bool := [r.f1, r.f2, r.f3].all fun f => f == [32] || f.all fun c => decide (c.toNat < 128) && decide (c.toNat ≠ 32)
theorem rowOk_event (k : Nat) : RowOk (eventT k) = true := by
  unfold eventT
  split
  · decide
  · rcases h : kindsT[k - 1]? with _ | r
    · decide
    · have hall : kindsT.all RowOk = true := by decide
      exact List.all_eq_true.1 hall r (List.mem_of_getElem? h)
theorem rowOk_command (k : Nat) : RowOk (commandT k) = true := by
  unfold commandT
  split
  · decide
  · rcases h : commandsT[k - 1]? with _ | r
    · decide
    · have hall : commandsT.all RowOk = true := by decide
      exact List.all_eq_true.1 hall r (List.mem_of_getElem? h)
theorem RowOk.field {r : RowT} (h : RowOk r = true) (v : Nat) : fieldT r v = [32] ∨ ∀ i (hi : i < (fieldT r v).length), (fieldT r v)[i].toNat < 128 ∧ (fieldT r v)[i].toNat ≠ 32 := by
  simp only [RowOk, List.all_cons, List.all_nil, Bool.and_true, Bool.and_eq_true, Bool.or_eq_true, beq_iff_eq, List.all_eq_true, decide_eq_true_eq] at h
  have key : ∀ f : List UInt8, (f = [32] ∨ ∀ x, x ∈ f → x.toNat < 128 ∧ x.toNat ≠ 32) → (f = [32] ∨ ∀ i (hi : i < f.length), f[i].toNat < 128 ∧ f[i].toNat ≠ 32) := by
    intro f hf
    rcases hf with hf | hf
    · exact .inl hf
    · exact .inr fun i hi => hf _ (List.getElem_mem hi)
  unfold fieldT
  split
  · exact key _ h.1
  · split
    · exact key _ h.2.1
    · exact key _ h.2.2

structure Ev where
  v : Nat
  kind : Nat
  nums : List Int
  texts : List (List UInt8)
deriving DecidableEq

def allS (v : Nat) (l : List UInt8) (n : List Int) : Bool := decide (l.length = n.length) && (l.zip n).all fun p => fitsS v p.1.toNat p.2
def oneName : List (List UInt8) → Bool
  | [s] => mayNameS s
  | _ => false
def mayS (e : Ev) : Bool :=
  (fieldsS e.v e.kind).2.2 && (allS e.v (fieldsS e.v e.kind).1 e.nums && (if (fieldsS e.v e.kind).2.1 then oneName e.texts else e.texts.isEmpty))

/-! ### a slice's cells -/
/-- The cells of a slice, wherever it lies. -/
def SlAt (w : World) (q : Option Addr) (xs : List Value) : Prop := ∀ i x, xs[i]? = some x → ∃ b o, q = some ⟨b, o, none⟩ ∧ w.cell? ⟨b, o + i, none⟩ = some x
theorem SlAt.fr {w w' : World} {q : Option Addr} {xs : List Value} (h : SlAt w q xs) (hf : Fr No w w') : SlAt w' q xs := fun i x hx => by
  obtain ⟨b, o, hq, hc⟩ := h i x hx
  exact ⟨b, o, hq, hf.cell0 hc⟩
theorem SlAt.nil (w : World) (q : Option Addr) : SlAt w q [] := fun i x hx => by simp at hx

def clsV (c : UInt8) : Value := .int .u8 (c.toNat : Int)
def numV (n : Int) : Value := .int .i64 n

/-- An owned row that lies from block B on. -/
structure Res (B : Nat) (w : World) (t : TypeId) (v : Value) (xs : List Value) : Prop where
  own : Own w t 1 v xs.length xs
  new : ∀ k, v.ownBlock = some k → B ≤ k
theorem Res.nil (B : Nat) (w : World) (t : TypeId) : Res B w t (.slice none 0 0) [] := ⟨Own.nil _ _ _, fun _ h => by cases h⟩
theorem Res.fr {B : Nat} {w w' : World} {t : TypeId} {v : Value} {xs : List Value} (h : Res B w t v xs) (hf : Fr No w w') : Res B w' t v xs := ⟨h.own.fr hf (fun _ _ => id), h.new⟩
theorem Res.mono {B B' : Nat} {w : World} {t : TypeId} {v : Value} {xs : List Value} (h : Res B w t v xs) (hB : B' ≤ B) : Res B' w t v xs := ⟨h.own, fun k hk => Nat.le_trans hB (h.new k hk)⟩
theorem Res.shape {B : Nat} {w : World} {t : TypeId} {v : Value} {xs : List Value} (h : Res B w t v xs) : ∃ q cap, v = .slice q xs.length cap := h.own.shape
theorem Res.at_ {B : Nat} {w : World} {t : TypeId} {q : Option Addr} {n cap : Nat} {xs : List Value} (h : Res B w t (.slice q n cap) xs) : SlAt w q xs := by
  intro i x hx
  rcases h.own.2 with ⟨h1, h2⟩ | ⟨g, cap', cur, h1, hb, hg, h3, h4, h5, h6⟩
  · have := h.own.1
    rw [h2] at this
    have hlt := (List.getElem?_eq_some_iff.1 hx).1
    omega
  · have hq : q = some ⟨g, 0, none⟩ := by injection h1
    refine ⟨g, 0, hq, ?_⟩
    have := h.own.cells (g := g) (by rw [hq]; rfl)
    subst hq
    have hc := this i x hx
    have hadd : (⟨g, 0, none⟩ : Addr).add i = ⟨g, 0 + i, none⟩ := by unfold Addr.add; split <;> simp_all
    rwa [hadd] at hc
end Go.Proofs.YtnmfmedoocnofaaDoor
