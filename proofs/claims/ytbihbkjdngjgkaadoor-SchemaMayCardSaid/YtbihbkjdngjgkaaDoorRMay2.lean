/-
  Whether an event may be, by the document.
-/
import Derived.Test.YtbihbkjdngjgkaaDoorRMay
namespace Go.Proofs.YtbihbkjdngjgkaaDoor
open Go.RowKit

set_option maxHeartbeats 2000000 in
set_option maxRecDepth 100000 in
theorem rMay_any (s : EvP) (e : Ev) (w : World) (he : EvAt w s e) :
    Calls Tryd.prog 21 #[evV s e] w fun en w' => en = .returned (.bool (mayS e)) ∧ Fr No w w' := by
  obtain ⟨qn, cn, qt, ct⟩ := s
  obtain ⟨v, k, ns, ts⟩ := e
  obtain ⟨h1, h2, h3, h4, h5, h6, h7, h8⟩ := he
  simp only at h1 h2 h3 h4 h5 h6 h7
  have H1 := hid (rfields_any v k)
  have hm := mayS_cases ⟨v, k, ns, ts⟩
  have hlen := fieldsS_length v k
  simp only at hm
  generalize fieldsS v k = x at H1 hm hlen
  obtain ⟨l, t, i⟩ := x
  rw [hm l t i rfl]
  clear hm h8
  simp only at hlen
  have HF0 : Fr No w (w.alloc (.cells #[.int .u8 v, .int .u8 k, .slice qn ns.length cn, .slice qt ts.length ct] 25)) := (Fr.refl w).alloc _
  have H2 := hid (rAll_any v l ns qn cn _ (by omega) (h3.fr HF0))
  unfold RFieldsIs at H1
  unfold strV at H1 H2
  simp only at H1
  generalize allS v l ns = A at H2 ⊢
  unfold evV
  simp only
  have HT := hid (And.intro h4 (And.intro h6 h7))
  clear h3 h4 h6 h7 h1 h2
  cases i
  · rw [Bool.false_and]
    go_enter Tryd.func21, Tryd.ntmps21
    go_wp2_with (first
      | (go_at_call 37; refine (H1.out _).mono ?_; rintro e2 w2 ⟨rfl, rfl⟩))
    go_ret
    exact ⟨rfl, HF0⟩
  · cases A
    · rw [Bool.true_and, Bool.false_and]
      go_enter Tryd.func21, Tryd.ntmps21
      go_wp2_with (first
        | (go_at_call 37; refine (H1.out _).mono ?_; rintro e2 w2 ⟨rfl, rfl⟩)
        | (go_at_call 43; refine H2.out.mono ?_; rintro e3 w3 ⟨rfl, rfl⟩))
      go_ret
      exact ⟨rfl, HF0⟩
    · rw [Bool.true_and, Bool.true_and]
      cases t
      · have hd : ((ts.length : Int) == 0) = ts.isEmpty := by cases ts <;> simp; omega
        have HD := hid hd
        clear hd
        simp only [Bool.false_eq_true, if_false]
        generalize ts.isEmpty = R at HD ⊢
        go_enter Tryd.func21, Tryd.ntmps21
        go_wp2_with (first
          | (go_at_call 37; refine (H1.out _).mono ?_; rintro e2 w2 ⟨rfl, rfl⟩)
          | (go_at_call 43; refine H2.out.mono ?_; rintro e3 w3 ⟨rfl, rfl⟩))
        go_ret
        exact ⟨congrArg (fun z => Ending.returned (.bool z)) HD.out, HF0⟩
      · simp only [if_true]
        by_cases h1 : ts.length = 1
        · obtain ⟨s0, rfl⟩ : ∃ s0, ts = [s0] := List.length_eq_one_iff.1 h1
          obtain ⟨g1, _, g3⟩ := HT.out
          obtain ⟨b, o, rfl, hc⟩ := g1 0 (strV s0) rfl
          have hc : w.cell? ⟨b, o, none⟩ = some (strV s0) := hc
          simp only [List.length_cons, List.length_nil, Nat.zero_add, oneName] at HF0 H2 ⊢
          have HN := hid (fun w1 => rMayName_any s0 w1)
          generalize mayNameS s0 = R at HN ⊢
          unfold strV at HN hc
          have hc2 := HF0.cell0 hc
          clear hc g1 g3 HT h1
          go_enter Tryd.func21, Tryd.ntmps21
          go_wp2_with (first
            | (go_at_call 37; refine (H1.out _).mono ?_; rintro e2 w2 ⟨rfl, rfl⟩)
            | (go_at_call 43; refine H2.out.mono ?_; rintro e3 w3 ⟨rfl, rfl⟩)
            | (go_at_call 22; refine (HN.out _).mono ?_; rintro e4 w4 ⟨rfl, rfl⟩))
          go_ret
          exact ⟨rfl, HF0⟩
        · have hd : ((ts.length : Int) == 1) = false := by simp; omega
          have hR : oneName ts = false := by
            match ts, h1 with
            | [], _ => rfl
            | [_], h1 => exact absurd rfl h1
            | _ :: _ :: _, _ => rfl
          rw [hR]
          clear hR h1 HT
          go_enter Tryd.func21, Tryd.ntmps21
          go_wp2_with (first
            | (go_at_call 37; refine (H1.out _).mono ?_; rintro e2 w2 ⟨rfl, rfl⟩)
            | (go_at_call 43; refine H2.out.mono ?_; rintro e3 w3 ⟨rfl, rfl⟩))
          go_ret
          exact ⟨rfl, HF0⟩
end Go.Proofs.YtbihbkjdngjgkaaDoor
