/-
  SchemaAsks: the walk.
-/
import Derived.Test.YtbihbkjdngjgkaaDoorAwake5
import Derived.Test.YtbihbkjdngjgkaaDoorMayCmd
import Derived.Test.YtbihbkjdngjgkaaDoorPlace
import Derived.Test.YtbihbkjdngjgkaaDoorClasses
import Derived.Test.YtbihbkjdngjgkaaDoorAft
namespace Go.Proofs.YtbihbkjdngjgkaaDoor
open Go.RowKit

theorem bool_self (b : Bool) : (b == b) = true := by cases b <;> rfl
theorem bool_ne_self (b : Bool) : (b != b) = false := by cases b <;> rfl

set_option maxHeartbeats 8000000 in
set_option maxRecDepth 100000 in
theorem schemaAsks_any (q : Option Addr) (cn : Nat) (c : Cm) (k : Nat) (word : List UInt8) (w : World) (hE : CmAt w q c) (hk8 : k ≤ 255) (hkt : KT w) (hct : CT w) :
    Calls Tryd.prog 7 #[cmV q cn c, .int .u8 k, strV word] w fun e w' => e = .returned (.bool true) ∧ Fr No w w' := by
  have AW := hid (fun w1 (h : Fr No w w1) => awake5_any w1 (hkt.fr h) (hct.fr h))
  have RC := hid (rcmd_any k hk8)
  have CF := hid (fun w1 (h : Fr No w w1) => command_fields k w1 hk8 (hct.fr h))
  have CL := hid (fun (B : Nat) (v : Value) (w1 : World) (h : Res B w1 35 v ((commandS k).1.map clsV)) => classes_any B v (commandS k).1 (commandS k).1 w1 (by have := commandS_length k; omega) h)
  have WD := hid (fun w1 (h : Fr No w w1) => worded_any word w1 (hct.fr h))
  have PL : Hid (∀ w1, Calls Tryd.prog 28 #[strV word, .bool true] w1 fun e w' => e = .returned (.int .u8 (placeOf commandsT word)) ∧ Fr No w1 w') := hid (fun w1 => place_any word true w1)
  have MC := hid (fun w1 (h : Fr No w w1) => mayCmd_any q cn c w1 (hE.fr h) (hct.fr h))
  have MR := hid (fun w1 (h : Fr No w w1) => rMayCmd_any q cn c w1 (hE.fr h))
  have W1 := hid (fun w1 (h : Fr No w w1) => word_any k w1 hk8 (hct.fr h))
  have W2 := hid (rword_any k hk8)
  unfold RCmdIs at RC
  unfold RrwordIs at W2
  simp only [decide_true] at CL
  have e0 : decide ((commandS k).1 = (commandS k).1) = true := by simp
  have p8 : placeOf commandsT word ≤ 255 := by
    unfold placeOf
    split
    · rename_i i hi
      rw [List.findIdx?_eq_some_iff_getElem] at hi
      obtain ⟨hl, _⟩ := hi
      have : commandsT.length = 20 := rfl
      omega
    · omega
  generalize commandS k = x at RC CF CL
  obtain ⟨l, t, i⟩ := x
  simp only at RC CL
  generalize placeOf commandsT word = N at WD PL p8
  generalize mayCmdS c = R at MC MR
  generalize wordS k = z at W1 W2
  have hl0 := hE.nl
  have hl1 := hE.tl
  have HF0 : Fr No w (w.alloc (.cells #[.int .u8 c.kind, .slice q c.nums.length cn, .string ⟨c.text.toArray⟩] 39)) := (Fr.refl w).alloc _
  have g0 := Go.heap_alloc_new w (.cells #[.int .u8 c.kind, .slice q c.nums.length cn, .string ⟨c.text.toArray⟩] 39)
  have HC := hid (fun w1 (h : Fr No _ w1) j => cell_of_row w1 _ j _ _ (0, 0) (h.heap0 g0))
  clear g0 hE hkt hct
  unfold cmV strV at *
  obtain ⟨ck, ns, tx⟩ := c
  simp only at *
  by_cases hA : 300 < ns.length ∨ 300 < tx.length ∨ 300 < word.length
  · rcases hA with hA | hA | hA
    · have d1 : decide ((300 : Int) < (ns.length : Int)) = true := by simp; omega
      go_enter Tryd.func7, Tryd.ntmps7
      go_wp2_with (first | (go_at_call 12; refine (AW.out _ HF0).mono ?_; rintro e1 w1 ⟨rfl, hf⟩))
      go_ret
      exact ⟨rfl, HF0.trans hf⟩
    · have d2 : decide ((300 : Int) < (tx.length : Int)) = true := by simp; omega
      by_cases hB : 300 < ns.length
      · have d1 : decide ((300 : Int) < (ns.length : Int)) = true := by simp; omega
        go_enter Tryd.func7, Tryd.ntmps7
        go_wp2_with (first | (go_at_call 12; refine (AW.out _ HF0).mono ?_; rintro e1 w1 ⟨rfl, hf⟩))
        go_ret
        exact ⟨rfl, HF0.trans hf⟩
      · have d1 : decide ((300 : Int) < (ns.length : Int)) = false := by simp; omega
        go_enter Tryd.func7, Tryd.ntmps7
        go_wp2_with (first | (go_at_call 12; refine (AW.out _ HF0).mono ?_; rintro e1 w1 ⟨rfl, hf⟩))
        go_ret
        exact ⟨rfl, HF0.trans hf⟩
    · have d3 : decide ((300 : Int) < (word.length : Int)) = true := by simp; omega
      by_cases hB : 300 < ns.length
      · have d1 : decide ((300 : Int) < (ns.length : Int)) = true := by simp; omega
        go_enter Tryd.func7, Tryd.ntmps7
        go_wp2_with (first | (go_at_call 12; refine (AW.out _ HF0).mono ?_; rintro e1 w1 ⟨rfl, hf⟩))
        go_ret
        exact ⟨rfl, HF0.trans hf⟩
      · have d1 : decide ((300 : Int) < (ns.length : Int)) = false := by simp; omega
        by_cases hB2 : 300 < tx.length
        · have d2 : decide ((300 : Int) < (tx.length : Int)) = true := by simp; omega
          go_enter Tryd.func7, Tryd.ntmps7
          go_wp2_with (first | (go_at_call 12; refine (AW.out _ HF0).mono ?_; rintro e1 w1 ⟨rfl, hf⟩))
          go_ret
          exact ⟨rfl, HF0.trans hf⟩
        · have d2 : decide ((300 : Int) < (tx.length : Int)) = false := by simp; omega
          go_enter Tryd.func7, Tryd.ntmps7
          go_wp2_with (first | (go_at_call 12; refine (AW.out _ HF0).mono ?_; rintro e1 w1 ⟨rfl, hf⟩))
          go_ret
          exact ⟨rfl, HF0.trans hf⟩
  have d1 : decide ((300 : Int) < (ns.length : Int)) = false := by simp; omega
  have d2 : decide ((300 : Int) < (tx.length : Int)) = false := by simp; omega
  have d3 : decide ((300 : Int) < (word.length : Int)) = false := by simp; omega
  have bt := bool_ne_self t
  have bi := bool_ne_self i
  clear hA e0
  go_enter Tryd.func7, Tryd.ntmps7
  go_wp2_with (first | (go_at_call 25; refine (RC.out _).mono ?_; rintro e1 w1 ⟨rfl, hf1⟩))
  go_loopw [10] (fun n wr => ∃ r : Nat, r ≤ 2 ∧ n = .int .i64 r ∧ Fr No (w.alloc (.cells #[.int .u8 ck, .slice q ns.length cn, .string ⟨tx.toArray⟩] 39)) wr) (fun n _ => 2 - (intOf n).toNat)
  case atStart => exact ⟨0, Nat.zero_le _, rfl, hf1⟩
  case round =>
    clear hf1
    obtain ⟨r, hr2, rfl, hF⟩ := hrel
    by_cases hlt : r < 2
    · have hd : decide ((r : Int) < 2) = true := by simp; omega
      go_wp2_with (first
        | (go_at_call 18; refine (CF.out _ (HF0.trans hF)).mono ?_; intro e2 w2 h2; obtain ⟨L, rfl, hr, hf⟩ := h2; obtain ⟨q1, cap1, rfl⟩ := hr.shape; simp only [List.length_map] at hr ⊢)
        | (go_at_call 26; (with_reducible refine (CL.out _ _ _ hr).mono ?_); rintro e3 w3 ⟨rfl, hf3⟩))
      go_roundw
      case rel => exact ⟨r + 1, by omega, by go_num, hF.trans (hf.trans' hf3 (fun i hi hx => by have hx : wr.heap.size ≤ i := hx; omega))⟩
      case measure => simp [intOf]; omega
    · have hd : decide ((r : Int) < 2) = false := by simp; omega
      go_wp2_with (first
        | (go_at_call 27; refine (WD.out _ (HF0.trans hF)).mono ?_; rintro e2 w2 ⟨rfl, hf2⟩)
        | (go_at_call 28; refine (PL.out _).mono ?_; rintro e3 w3 ⟨rfl, hf3⟩))
      have F3 := hF.trans (hf2.trans hf3)
      have m0 := fun (y : Aft w3) => HC.out y.val (F3.trans y.h) 0
      have m1 := fun (y : Aft w3) => HC.out y.val (F3.trans y.h) 1
      have m2 := fun (y : Aft w3) => HC.out y.val (F3.trans y.h) 2
      simp only [List.getElem?_toArray, List.getElem?_cons_zero, List.getElem?_cons_succ] at m0 m1 m2
      have X1 := hid (fun (y : Aft w3) => MC.out y.val (HF0.trans (F3.trans y.h)))
      have X2 := hid (fun (y : Aft w3) => MR.out y.val (HF0.trans (F3.trans y.h)))
      have X3 := hid (fun (y : Aft w3) => W1.out y.val (HF0.trans (F3.trans y.h)))
      have X4 := hid (fun (y : Aft w3) => W2.out y.val)
      have X5 := hid (fun (y : Aft w3) => AW.out y.val (HF0.trans (F3.trans y.h)))
      have bR := bool_self R
      have bz : (z == z) = true := by simp
      have hz1 : (⟨z.toArray⟩ : ByteArray).toList = z := by simp
      have bN : ((N : Int) == (N : Int)) = true := by simp
      have HFF := hid (HF0.trans F3)
      clear hF hf2 hf3 F3 HF0 MC MR W1 W2 AW WD PL CF CL RC
      by_cases hN : 0 < N
      · have n1 : decide (0 < N) = true := by simpa using hN
        have n2 : decide ((0 : Int) < (N : Int)) = true := by simp; omega
        rw [n1]
        refine wp_region_aft (by kernel_rfl) (by kernel_rfl) ?_
        repeat (go_big_quiet_step (first | (go_at_call 19; exact calls_aft (X1.out _)) | (go_at_call 29; exact calls_aft (X2.out _)) | (go_at_call 30; exact calls_aft (X3.out _)) | (go_at_call 31; exact calls_aft (X4.out _)) | (go_at_call 12; exact calls_aft (X5.out _))))
        refine wpQuiet_nil ?_
        rintro _ ⟨⟨w9, hf9⟩, rfl⟩
        clear m0 m1 m2
        go_wp2_with fail
        go_ret
        exact ⟨by first | rfl | simp, HFF.out.trans hf9⟩
      · have n1 : decide (0 < N) = false := by simpa using hN
        have n2 : decide ((0 : Int) < (N : Int)) = false := by simp; omega
        rw [n1]
        refine wp_region_aft (by kernel_rfl) (by kernel_rfl) ?_
        repeat (go_big_quiet_step (first | (go_at_call 19; exact calls_aft (X1.out _)) | (go_at_call 29; exact calls_aft (X2.out _)) | (go_at_call 30; exact calls_aft (X3.out _)) | (go_at_call 31; exact calls_aft (X4.out _)) | (go_at_call 12; exact calls_aft (X5.out _))))
        refine wpQuiet_nil ?_
        rintro _ ⟨⟨w9, hf9⟩, rfl⟩
        clear m0 m1 m2
        go_wp2_with fail
        go_ret
        exact ⟨by first | rfl | simp, HFF.out.trans hf9⟩
end Go.Proofs.YtbihbkjdngjgkaaDoor
