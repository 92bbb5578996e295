/-
  Whether a command has what it asks: schema's MayCommand, and the document's.
-/
import Derived.Test.YtbihbkjdngjgkaaDoorRMay
import Derived.Test.YtbihbkjdngjgkaaDoorRCmd
namespace Go.Proofs.YtbihbkjdngjgkaaDoor
open Go.RowKit

structure Cm where
  kind : Nat
  nums : List Int
  text : List UInt8
def cmV (q : Option Addr) (cn : Nat) (c : Cm) : Value := .agg #[.int .u8 c.kind, .slice q c.nums.length cn, strV c.text]
structure CmAt (w : World) (q : Option Addr) (c : Cm) : Prop where
  k8 : c.kind ≤ 255
  nums : SlAt w q (c.nums.map numV)
  nl : c.nums.length ≤ 9223372036854775807
  tl : c.text.length ≤ 9223372036854775807
theorem CmAt.fr {w w' : World} {q : Option Addr} {c : Cm} (h : CmAt w q c) (hf : Fr No w w') : CmAt w' q c := ⟨h.k8, h.nums.fr hf, h.nl, h.tl⟩
def mayCmdS (c : Cm) : Bool := (commandS c.kind).2.2 && (allS 3 (commandS c.kind).1 c.nums && (if (commandS c.kind).2.1 then mayNameS c.text else c.text.isEmpty))
theorem mayCmdS_cases (c : Cm) (l : List UInt8) (t i : Bool) (h : commandS c.kind = (l, t, i)) :
    mayCmdS c = (i && (allS 3 l c.nums && (if t then mayNameS c.text else c.text.isEmpty))) := by
  unfold mayCmdS; rw [h]

set_option maxHeartbeats 2000000 in
set_option maxRecDepth 100000 in
theorem mayCmd_any (q : Option Addr) (cn : Nat) (c : Cm) (w : World) (he : CmAt w q c) (hk : CT w) :
    Calls Tryd.prog 19 #[cmV q cn c] w fun en w' => en = .returned (.bool (mayCmdS c)) ∧ Fr No w w' := by
  obtain ⟨k, ns, tx⟩ := c
  obtain ⟨h1, h3, h5, h6⟩ := he
  simp only at h1 h3 h5 h6
  have HF0 : Fr No w (w.alloc (.cells #[.int .u8 k, .slice q ns.length cn, strV tx] 39)) := (Fr.refl w).alloc _
  have H1 := hid (command_fields k _ h1 (hk.fr HF0))
  have hm := mayCmdS_cases ⟨k, ns, tx⟩
  have hlen := commandS_length k
  simp only at hm
  generalize commandS k = x at H1 hm hlen
  obtain ⟨l, t, i⟩ := x
  rw [hm l t i rfl]
  clear hm
  simp only at hlen
  have H2 : Hid (∀ w1, Fr No w w1 → ∀ (q1 : Option Addr) (cap : Nat), SlAt w1 q1 (l.map clsV) → Calls Tryd.prog 41 #[.int .u8 3, .slice q1 l.length cap, .slice q ns.length cn] w1 fun e w' => e = .returned (.bool (allS 3 l ns)) ∧ w1 = w') :=
    hid (fun w1 hf q1 cap ha => all_any 3 l ns q1 cap q cn w1 (by omega) h5 ha (h3.fr hf))
  generalize allS 3 l ns = A at H2 ⊢
  have HN := hid (fun w1 => mayName_any tx w1 h6)
  have g0 := Go.heap_alloc_new w (.cells #[.int .u8 k, .slice q ns.length cn, strV tx] 39)
  have HC := hid (fun w1 (h : Fr No _ w1) j => cell_of_row w1 _ j _ _ (0, 0) (h.heap0 g0))
  unfold cmV
  unfold strV at *
  simp only
  clear h3 h1 h5 h6 hk g0
  cases i
  · rw [Bool.false_and]
    go_enter Tryd.func19, Tryd.ntmps19
    go_wp2_with (first
      | (go_at_call 18; refine H1.out.mono ?_; intro e2 w2 h2; obtain ⟨L, rfl, hr, hf⟩ := h2; obtain ⟨q1, cap, rfl, hs⟩ := hr.at'; simp only [List.length_map] at *))
    go_ret
    exact ⟨rfl, HF0.trans hf⟩
  · cases A
    · rw [Bool.true_and, Bool.false_and]
      go_enter Tryd.func19, Tryd.ntmps19
      go_wp2_with (first
        | (go_at_call 18; refine H1.out.mono ?_; intro e2 w2 h2; obtain ⟨L, rfl, hr, hf⟩ := h2; obtain ⟨q1, cap, rfl, hs⟩ := hr.at'; simp only [List.length_map] at *
           have d1 := HC.out _ hf 1
           simp only [List.getElem?_toArray, List.getElem?_cons_zero, List.getElem?_cons_succ] at d1)
        | (go_at_call 41; refine (H2.out _ (HF0.trans hf) q1 cap hs).mono ?_; rintro e3 w3 ⟨rfl, rfl⟩))
      go_ret
      exact ⟨rfl, HF0.trans hf⟩
    · rw [Bool.true_and, Bool.true_and]
      cases t
      · simp only [Bool.false_eq_true, if_false]
        rcases tx with _ | ⟨c0, tx⟩
        all_goals
          simp only [List.isEmpty_nil, List.isEmpty_cons]
          go_enter Tryd.func19, Tryd.ntmps19
          go_wp2_with (first
            | (go_at_call 18; refine H1.out.mono ?_; intro e2 w2 h2; obtain ⟨L, rfl, hr, hf⟩ := h2; obtain ⟨q1, cap, rfl, hs⟩ := hr.at'; simp only [List.length_map] at *
               have d1 := HC.out _ hf 1
               have d2 := HC.out _ hf 2
               simp only [List.getElem?_toArray, List.getElem?_cons_zero, List.getElem?_cons_succ] at d1 d2)
            | (go_at_call 41; refine (H2.out _ (HF0.trans hf) q1 cap hs).mono ?_; rintro e3 w3 ⟨rfl, rfl⟩))
          go_ret
          exact ⟨by first | rfl | simp, HF0.trans hf⟩
      · simp only [if_true]
        generalize mayNameS tx = R at HN ⊢
        cases R
        all_goals
          go_enter Tryd.func19, Tryd.ntmps19
          go_wp2_with (first
            | (go_at_call 18; refine H1.out.mono ?_; intro e2 w2 h2; obtain ⟨L, rfl, hr, hf⟩ := h2; obtain ⟨q1, cap, rfl, hs⟩ := hr.at'; simp only [List.length_map] at *
               have d1 := HC.out _ hf 1
               have d2 := HC.out _ hf 2
               simp only [List.getElem?_toArray, List.getElem?_cons_zero, List.getElem?_cons_succ] at d1 d2)
            | (go_at_call 41; refine (H2.out _ (HF0.trans hf) q1 cap hs).mono ?_; rintro e3 w3 ⟨rfl, rfl⟩)
            | (go_at_call 20; refine (HN.out _).mono ?_; rintro e4 w4 ⟨rfl, hf4⟩))
          go_ret
          exact ⟨rfl, (HF0.trans hf).trans hf4⟩

set_option maxHeartbeats 2000000 in
set_option maxRecDepth 100000 in
theorem rMayCmd_any (q : Option Addr) (cn : Nat) (c : Cm) (w : World) (he : CmAt w q c) :
    Calls Tryd.prog 29 #[cmV q cn c] w fun en w' => en = .returned (.bool (mayCmdS c)) ∧ Fr No w w' := by
  obtain ⟨k, ns, tx⟩ := c
  obtain ⟨h1, h3, h5, h6⟩ := he
  simp only at h1 h3 h5 h6
  have HF0 : Fr No w (w.alloc (.cells #[.int .u8 k, .slice q ns.length cn, strV tx] 39)) := (Fr.refl w).alloc _
  have H1 := hid (rcmd_any k h1)
  have hm := mayCmdS_cases ⟨k, ns, tx⟩
  have hlen := commandS_length k
  simp only at hm
  generalize commandS k = x at H1 hm hlen
  obtain ⟨l, t, i⟩ := x
  rw [hm l t i rfl]
  clear hm
  simp only at hlen
  have H2 : Hid (∀ w1, Fr No w w1 → Calls Tryd.prog 43 #[.int .u8 3, strV l, .slice q ns.length cn] w1 fun e w' => e = .returned (.bool (allS 3 l ns)) ∧ w1 = w') :=
    hid (fun w1 hf => rAll_any 3 l ns q cn w1 (by omega) (h3.fr hf))
  generalize allS 3 l ns = A at H2 ⊢
  have HN := hid (fun w1 => rMayName_any tx w1)
  have g0 := Go.heap_alloc_new w (.cells #[.int .u8 k, .slice q ns.length cn, strV tx] 39)
  have HC := hid (fun w1 (h : Fr No _ w1) j => cell_of_row w1 _ j _ _ (0, 0) (h.heap0 g0))
  unfold RCmdIs at H1
  unfold cmV
  unfold strV at *
  simp only at H1 ⊢
  clear h3 h1 h5 h6 g0
  cases i
  · rw [Bool.false_and]
    go_enter Tryd.func29, Tryd.ntmps29
    go_wp2_with (first
      | (go_at_call 25; refine (H1.out _).mono ?_; rintro e2 w2 ⟨rfl, hf⟩))
    go_ret
    exact ⟨rfl, HF0.trans hf⟩
  · cases A
    · rw [Bool.true_and, Bool.false_and]
      go_enter Tryd.func29, Tryd.ntmps29
      go_wp2_with (first
        | (go_at_call 25; refine (H1.out _).mono ?_; rintro e2 w2 ⟨rfl, hf⟩
           have d1 := HC.out _ hf 1
           simp only [List.getElem?_toArray, List.getElem?_cons_zero, List.getElem?_cons_succ] at d1)
        | (go_at_call 43; refine (H2.out _ (HF0.trans hf)).mono ?_; rintro e3 w3 ⟨rfl, rfl⟩))
      go_ret
      exact ⟨rfl, HF0.trans hf⟩
    · rw [Bool.true_and, Bool.true_and]
      cases t
      · simp only [Bool.false_eq_true, if_false]
        rcases tx with _ | ⟨c0, tx⟩
        all_goals
          simp only [List.isEmpty_nil, List.isEmpty_cons]
          go_enter Tryd.func29, Tryd.ntmps29
          go_wp2_with (first
            | (go_at_call 25; refine (H1.out _).mono ?_; rintro e2 w2 ⟨rfl, hf⟩
               have d1 := HC.out _ hf 1
               have d2 := HC.out _ hf 2
               simp only [List.getElem?_toArray, List.getElem?_cons_zero, List.getElem?_cons_succ] at d1 d2)
            | (go_at_call 43; refine (H2.out _ (HF0.trans hf)).mono ?_; rintro e3 w3 ⟨rfl, rfl⟩))
          go_ret
          exact ⟨by first | rfl | simp, HF0.trans hf⟩
      · simp only [if_true]
        generalize mayNameS tx = R at HN ⊢
        go_enter Tryd.func29, Tryd.ntmps29
        go_wp2_with (first
          | (go_at_call 25; refine (H1.out _).mono ?_; rintro e2 w2 ⟨rfl, hf⟩
             have d1 := HC.out _ hf 1
             have d2 := HC.out _ hf 2
             simp only [List.getElem?_toArray, List.getElem?_cons_zero, List.getElem?_cons_succ] at d1 d2)
          | (go_at_call 43; refine (H2.out _ (HF0.trans hf)).mono ?_; rintro e3 w3 ⟨rfl, rfl⟩)
          | (go_at_call 22; refine (HN.out _).mono ?_; rintro e4 w4 ⟨rfl, rfl⟩))
        go_ret
        exact ⟨rfl, HF0.trans hf⟩
end Go.Proofs.YtbihbkjdngjgkaaDoor
