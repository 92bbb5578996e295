/-
  MayName: whether a text is a name.
-/
import Derived.Test.YtgjabbhgmecbbaaDoorBase
import Derived.Test.YtgjabbhgmecbbaaDoorProg
import Derived.Test.YtgjabbhgmecbbaaDoorPure
import Derived.WalkKit
import Derived.Laws.IdiomStrings
namespace Go.Proofs.YtgjabbhgmecbbaaDoor
open Go.RowKit

theorem conv_bytes (w : World) (s : List UInt8) : ∃ (cap : Nat) (W1 : World), (convert 9 43 (.string ⟨s.toArray⟩)).run Tryd.prog w = .ok (.slice (some ⟨w.heap.size, 0, none⟩) s.length cap) W1 ∧ Fr No w W1 ∧
    ∀ i (h : i < s.length), W1.cell? ⟨w.heap.size, i, none⟩ = some (.int .u8 (s[i].toNat : Int)) := by
  refine ⟨_, _, run_bytes_of_string w 9 43 5 ⟨s.toArray⟩ Tryd.underlying9 Tryd.underlying43 Tryd.underlying5, ((Fr.refl w).drew).alloc _, fun i h => ?_⟩
  simp only [World.cell?]
  rw [show (w.drew.alloc _).heap[w.heap.size]? = _ from Go.heap_alloc_new w.drew _]
  simp only [bytesRow, Option.isSome_none, Bool.false_eq_true, if_false]
  rw [Array.getElem?_append_left (by simp; omega)]
  simp [h]

def nameB (c : Nat) : Bool := (decide (97 ≤ c) && decide (c ≤ 122)) || (decide (48 ≤ c) && decide (c ≤ 57)) || decide (c = 45) || decide (c = 95)
def mayNameS (s : List UInt8) : Bool := s.all (fun c => nameB c.toNat) && (decide (1 ≤ s.length) && decide (s.length ≤ 24))

theorem all_snoc (s : List UInt8) (i : Nat) (hi : i < s.length) (h : (s.take i).all (fun c => nameB c.toNat) = true) (hc : nameB s[i].toNat = true) : (s.take (i + 1)).all (fun c => nameB c.toNat) = true := by
  rw [List.take_succ_eq_append_getElem hi, List.all_append, h]
  simp [hc]
theorem all_not (s : List UInt8) (i : Nat) (hi : i < s.length) (hc : nameB s[i].toNat = false) : mayNameS s = false := by
  unfold mayNameS
  have : s.all (fun c => nameB c.toNat) = false := by
    rw [List.all_eq_false]
    exact ⟨s[i], List.getElem_mem hi, by simp [hc]⟩
  rw [this]; rfl
set_option maxHeartbeats 1000000 in
set_option maxRecDepth 100000 in
theorem mayName_any (s : List UInt8) (w : World) (hs : s.length ≤ 9223372036854775807) :
    Calls Tryd.prog 40 #[strV s] w fun e w' => e = .returned (.bool (mayNameS s)) ∧ Fr No w w' := by
  obtain ⟨cap, W1, hcv, hf, hcell⟩ := conv_bytes w s
  unfold strV
  generalize hg : w.heap.size = g at hcv hcell
  have HF := hid hf
  have HC := hid hcell
  have HS := hid hs
  clear hf hcell hs
  go_enter Tryd.func40, Tryd.ntmps40
  go_wp2
  go_loopw [8] (fun c wr => ∃ i : Nat, i ≤ s.length ∧ c = .int .i64 i ∧ W1 = wr ∧ (s.take i).all (fun c => nameB c.toNat) = true) (fun c _ => s.length - (intOf c).toNat)
  case atStart => exact ⟨0, Nat.zero_le _, rfl, rfl, by simp⟩
  case round =>
    obtain ⟨i, hi, rfl, rfl, hall⟩ := hrel
    have HA := hid hall
    clear hall
    by_cases hlt : i < s.length
    · have hd : decide ((i : Int) < (s.length : Int)) = true := by simp; omega
      have hc := HC.out i hlt
      obtain ⟨cb, hcb⟩ : ∃ cb, cb = s[i].toNat := ⟨_, rfl⟩
      rw [← hcb] at hc
      have HCB := hid hcb
      clear hcb
      have hcl : cb < 256 := by rw [HCB.out]; exact s[i].toNat_lt
      have HT := hid (fun (h : nameB cb = true) => all_snoc s i hlt HA.out (by rw [← HCB.out]; exact h))
      have HN := hid (fun (h : nameB cb = false) => all_not s i hlt (by rw [← HCB.out]; exact h))
      go_wp2
      all_goals first
        | (go_roundw
           case rel => exact ⟨i + 1, by omega, congrArg (Value.int .i64) (by first | rfl | exact IntWalk.wrap64_in _ (by have := HS.out; omega)), by trivial, HT.out (by (try simp only [bne_eq_false_iff_eq] at *); simp [nameB]; omega)⟩
           case measure =>
             have := HS.out
             first
               | (simp [intOf]; omega)
               | (rw [IntWalk.wrap64_in _ (by omega)]; simp [intOf]; omega))
        | (go_ret
           exact ⟨congrArg (fun z => Ending.returned (.bool z)) (HN.out (by (try simp only [bne_iff_ne, ne_eq] at *); simp [nameB]; omega)).symm, HF.out⟩)
    · have hd : decide ((i : Int) < (s.length : Int)) = false := by simp; omega
      have e : mayNameS s = (decide (1 ≤ s.length) && decide (s.length ≤ 24)) := by
        have h := HA.out
        rw [List.take_of_length_le (by omega)] at h
        unfold mayNameS
        rw [h]; rfl
      have HE := hid e
      clear e
      by_cases h1 : 1 ≤ s.length
      · have hd1 : decide ((1 : Int) ≤ (s.length : Int)) = true := by simp; omega
        go_wp2
        all_goals go_ret
        all_goals refine ⟨(congrArg (fun z => Ending.returned (.bool z)) ?_).trans (congrArg (fun z => Ending.returned (.bool z)) HE.out.symm), HF.out⟩
        all_goals first
          | (simp [h1]; done)
          | (simp [h1]; omega)
          | (rw [show decide (1 ≤ s.length) = true from by simpa using h1]; simp)
      · have hd1 : decide ((1 : Int) ≤ (s.length : Int)) = false := by simp; omega
        go_wp2
        all_goals go_ret
        all_goals refine ⟨?_, HF.out⟩
        all_goals rw [HE.out]
        all_goals (have e0 : s = [] := List.length_eq_zero_iff.1 (by omega))
        all_goals subst e0
        all_goals rfl
end Go.Proofs.YtgjabbhgmecbbaaDoor
