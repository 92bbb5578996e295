/-
  Which kind, or command, is called so, by the document.
-/
import Derived.Test.YtbihbkjdngjgkaaDoorFind
import Derived.Test.YtbihbkjdngjgkaaDoorRNames
import Derived.Test.YtbihbkjdngjgkaaDoorRWords
namespace Go.Proofs.YtbihbkjdngjgkaaDoor
open Go.RowKit

/-- What is called so in Place's round k. -/
def placeNm (cmd : Bool) (k : Nat) : List UInt8 := if cmd then wordS k else nameS k
def placeRows (cmd : Bool) : List RowT := if cmd then commandsT else kindsT
theorem placeNm_row {cmd : Bool} {i : Nat} {r : RowT} (h : (placeRows cmd)[i]? = some r) : placeNm cmd (i + 1) = r.name := by
  unfold placeRows at h
  cases cmd
  · simp only [Bool.false_eq_true, if_false] at h
    show (eventT (i + 1)).name = _
    unfold eventT
    rw [if_neg (by omega), Nat.add_sub_cancel, h]; rfl
  · simp only [if_true] at h
    show (commandT (i + 1)).name = _
    unfold commandT
    rw [if_neg (by omega), Nat.add_sub_cancel, h]; rfl
theorem placeNm_out {cmd : Bool} {i : Nat} (h : (placeRows cmd)[i]? = none) : placeNm cmd (i + 1) = [] := by
  unfold placeRows at h
  cases cmd
  · simp only [Bool.false_eq_true, if_false] at h
    show (eventT (i + 1)).name = _
    unfold eventT
    rw [if_neg (by omega), Nat.add_sub_cancel, h]; rfl
  · simp only [if_true] at h
    show (commandT (i + 1)).name = _
    unfold commandT
    rw [if_neg (by omega), Nat.add_sub_cancel, h]; rfl
theorem place_hit {cmd : Bool} {s : List UInt8} {i : Nat} (h : placeNm cmd (i + 1) = s) (hs : s ≠ []) (hb : ∀ j, j < i → placeNm cmd (j + 1) ≠ s ∨ s = []) : placeOf (placeRows cmd) s = i + 1 := by
  rcases hr : (placeRows cmd)[i]? with _ | r
  · exact absurd ((placeNm_out hr).symm.trans h).symm hs
  · refine placeOf_hit hr ((placeNm_row hr).symm.trans h) (fun j r' hj hr' e => ?_)
    rcases hb j hj with h1 | h1
    · exact h1 ((placeNm_row hr').trans e)
    · exact hs h1
theorem names_some (cmd : Bool) : (placeRows cmd).all (fun r => !r.name.isEmpty) = true := by cases cmd <;> decide
theorem placeRows_len (cmd : Bool) : (placeRows cmd).length ≤ 23 := by cases cmd <;> decide
theorem place_miss {cmd : Bool} {s : List UInt8} (hb : ∀ j, j < 23 → placeNm cmd (j + 1) ≠ s ∨ s = []) : placeOf (placeRows cmd) s = 0 := by
  refine placeOf_miss (fun j r' hr' e => ?_)
  have hj : j < 23 := by have := (List.getElem?_eq_some_iff.1 hr').1; have := placeRows_len cmd; omega
  rcases hb j hj with h1 | h1
  · exact h1 ((placeNm_row hr').trans e)
  · have := List.all_eq_true.1 (names_some cmd) r' (List.mem_of_getElem? hr')
    rw [e, h1] at this
    cases this

set_option maxHeartbeats 2000000 in
set_option maxRecDepth 100000 in
theorem place_any (s : List UInt8) (cmd : Bool) (w : World) :
    Calls Tryd.prog 28 #[strV s, .bool cmd] w fun e w' => e = .returned (.int .u8 (placeOf (placeRows cmd) s)) ∧ Fr No w w' := by
  have HP := hid (fun (i : Nat) (a : placeNm cmd (i + 1) = s) (b : s ≠ []) (c : ∀ j, j < i → placeNm cmd (j + 1) ≠ s ∨ s = []) => place_hit a b c)
  have HM := hid (fun (c : ∀ j, j < 23 → placeNm cmd (j + 1) ≠ s ∨ s = []) => place_miss c)
  unfold strV
  generalize placeOf (placeRows cmd) s = N at HP HM ⊢
  go_enter Tryd.func28, Tryd.ntmps28
  go_wp2_with fail
  go_loopw [5] (fun c wr => ∃ i : Nat, i ≤ 23 ∧ c = .int .u8 ((i : Int) + 1) ∧ Fr No w wr ∧ Hid (∀ j, j < i → placeNm cmd (j + 1) ≠ s ∨ s = [])) (fun c _ => 24 - (intOf c).toNat)
  case atStart => exact ⟨0, Nat.zero_le _, rfl, Fr.refl _, hid (fun j h => absurd h (Nat.not_lt_zero _))⟩
  case round =>
    obtain ⟨i, hi, rfl, hF, HA⟩ := hrel
    by_cases hlt : i < 23
    · have hd : (i : Int) + 1 ≤ 23 := by omega
      have N1 : Hid (∀ w1, Calls Tryd.prog 34 #[.int .u8 ((i : Int) + 1)] w1 fun e w' => e = .returned (strV (nameS (i + 1))) ∧ Fr No w1 w') := hid (rname_any (i + 1) (by omega))
      have N2 : Hid (∀ w1, Calls Tryd.prog 31 #[.int .u8 ((i : Int) + 1)] w1 fun e w' => e = .returned (strV (wordS (i + 1))) ∧ Fr No w1 w') := hid (rword_any (i + 1) (by omega))
      unfold strV at N1 N2
      have hx2 : (⟨s.toArray⟩ : ByteArray).toList = s := by simp
      have HF := hid hF
      have w8 : ((i : Int) + 1) + 1 ≤ 255 := by omega
      cases cmd
      · have HZ : Hid (placeNm false (i + 1) = nameS (i + 1)) := hid rfl
        generalize nameS (i + 1) = z at HZ N1
        by_cases hz : z = s
        · have hbb : (z == s) = true := by simpa using hz
          rcases s with _ | ⟨c0, s0⟩
          · have HNO : Hid (placeNm false (i + 1) ≠ [] ∨ ([] : List UInt8) = []) := hid (.inr rfl)
            clear hz HZ hF
            go_wp2_with (first
              | (go_at_call 34; refine (N1.out _).mono ?_; rintro e1 w1 ⟨rfl, hf1⟩)
              | (go_at_call 31; refine (N2.out _).mono ?_; rintro e2 w2 ⟨rfl, hf2⟩))
            go_roundw
            case rel =>
              refine ⟨i + 1, by omega, by go_num, HF.out.trans hf1, hid ?_⟩
              intro j hj
              by_cases hji : j = i
              · subst hji; exact HNO.out
              · exact HA.out j (by omega)
            case measure => simp [intOf]; omega
          · have HN := hid (HP.out i (HZ.out.trans hz) (by simp) HA.out)
            clear hz HZ hF
            go_wp2_with (first
              | (go_at_call 34; refine (N1.out _).mono ?_; rintro e1 w1 ⟨rfl, hf1⟩)
              | (go_at_call 31; refine (N2.out _).mono ?_; rintro e2 w2 ⟨rfl, hf2⟩))
            go_ret
            rw [HN.out]
            exact ⟨by simp, HF.out.trans hf1⟩
        · have hbb : (z == s) = false := by simpa using hz
          have HNO : Hid (placeNm false (i + 1) ≠ s ∨ s = []) := hid (.inl (fun e => hz (HZ.out.symm.trans e)))
          clear hz HZ hF
          go_wp2_with (first
            | (go_at_call 34; refine (N1.out _).mono ?_; rintro e1 w1 ⟨rfl, hf1⟩)
            | (go_at_call 31; refine (N2.out _).mono ?_; rintro e2 w2 ⟨rfl, hf2⟩))
          go_roundw
          case rel =>
            refine ⟨i + 1, by omega, by go_num, HF.out.trans hf1, hid ?_⟩
            intro j hj
            by_cases hji : j = i
            · subst hji; exact HNO.out
            · exact HA.out j (by omega)
          case measure => simp [intOf]; omega
      · have HZ : Hid (placeNm true (i + 1) = wordS (i + 1)) := hid rfl
        generalize wordS (i + 1) = z at HZ N2
        by_cases hz : z = s
        · have hbb : (z == s) = true := by simpa using hz
          rcases s with _ | ⟨c0, s0⟩
          · have HNO : Hid (placeNm true (i + 1) ≠ [] ∨ ([] : List UInt8) = []) := hid (.inr rfl)
            clear hz HZ hF
            go_wp2_with (first
              | (go_at_call 34; refine (N1.out _).mono ?_; rintro e1 w1 ⟨rfl, hf1⟩)
              | (go_at_call 31; refine (N2.out _).mono ?_; rintro e2 w2 ⟨rfl, hf2⟩))
            go_roundw
            case rel =>
              refine ⟨i + 1, by omega, by go_num, (HF.out.trans hf1).trans hf2, hid ?_⟩
              intro j hj
              by_cases hji : j = i
              · subst hji; exact HNO.out
              · exact HA.out j (by omega)
            case measure => simp [intOf]; omega
          · have HN := hid (HP.out i (HZ.out.trans hz) (by simp) HA.out)
            clear hz HZ hF
            go_wp2_with (first
              | (go_at_call 34; refine (N1.out _).mono ?_; rintro e1 w1 ⟨rfl, hf1⟩)
              | (go_at_call 31; refine (N2.out _).mono ?_; rintro e2 w2 ⟨rfl, hf2⟩))
            go_ret
            rw [HN.out]
            exact ⟨by simp, (HF.out.trans hf1).trans hf2⟩
        · have hbb : (z == s) = false := by simpa using hz
          have HNO : Hid (placeNm true (i + 1) ≠ s ∨ s = []) := hid (.inl (fun e => hz (HZ.out.symm.trans e)))
          clear hz HZ hF
          go_wp2_with (first
            | (go_at_call 34; refine (N1.out _).mono ?_; rintro e1 w1 ⟨rfl, hf1⟩)
            | (go_at_call 31; refine (N2.out _).mono ?_; rintro e2 w2 ⟨rfl, hf2⟩))
          go_roundw
          case rel =>
            refine ⟨i + 1, by omega, by go_num, (HF.out.trans hf1).trans hf2, hid ?_⟩
            intro j hj
            by_cases hji : j = i
            · subst hji; exact HNO.out
            · exact HA.out j (by omega)
          case measure => simp [intOf]; omega
    · have hd : decide ((i : Int) + 1 ≤ 23) = false := by simp; omega
      obtain rfl : i = 23 := by omega
      have HN := hid (HM.out (fun j hj => HA.out j hj))
      go_wp2_with fail
      go_ret
      rw [HN.out]
      exact ⟨rfl, hF⟩
end Go.Proofs.YtbihbkjdngjgkaaDoor
