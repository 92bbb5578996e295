/-
  BatchLifted holds, under no conditions: what the seat's card says of it: where the two tables of schema lie as the program's text lays them, the law answers true and leaves its arguments as they were.
-/
import Derived.Test.YtnmfmedoocnofaaDoorDoorK
import Derived.Test.YtnmfmedoocnofaaDoorReach
import Derived.Test.YtnmfmedoocnofaaDoorHead
import Derived.Test.YtnmfmedoocnofaaDoorBLs
import Derived.Test.YtnmfmedoocnofaaDoorBLift
import Derived.WalkKit
import Derived.ProofKit
import Derived.ChangeMaps5
import Derived.SevenTiedAt
namespace Go.Proofs.YtnmfmedoocnofaaDoor.batchLifted
open Go.ChangeShapes Go.WideShapes Go.ChangeAt Go.RowKit
set_option linter.unusedVariables false

set_option maxRecDepth 100000 in
theorem lifted (os : Os) (started : os.Started) (H : Type) (enc : TypeId × Value → H) :
    ReturnsInHanded {} Tryd.checked os 5 .any (fun w args => (Rows.batchLiftedSpec.pre enc Tryd.prog Tryd.f5 [] false w args ∧ laidMetH Tryd.prog laidK w) ∧ sizedMet enc Tryd.prog Tryd.f5 (OpenSpec.ofChange Rows.batchLiftedSpec) false w args)
      (Rows.batchLiftedSpec.post enc Tryd.prog Tryd.f5 false true false false) := by
  refine returnsInHanded_of_change_and (C := Tryd.checked) (X := fun w _ => laidMetH Tryd.prog laidK w) (fun _ _ _ hh h => h.of_heap hh) own_none started (by kernel_rfl) Tryd.func5
    (ChangeSpec.witness_shaped (enc := enc) (C := Tryd.checked) (os := os) (X := fun w _ => laidMetH Tryd.prog laidK w) false (World.doorLaid Tryd.prog 105 os) #[.slice none 0 0, .int .u8 0] 8 rfl (door_shaped os _) (by kernel_rfl) (by kernel_rfl) (by kernel_rfl) (door_kinds os _)) ?_
  intro W base args ds gs before hval0 hW _ hsz hL _
  have hval : ∀ (j : Nat) t v, Tryd.f5.params[j]? = some t → args[j]? = some v → Value.okWide Tryd.prog W .any base t v := hval0
  have hW' := hW
  obtain ⟨p, q, hA0, hV, rfl, hfz, hnd⟩ := hW
  have hA : DataW.TrodAll enc Tryd.prog W 0 (fun _ => true) true Tryd.f5.params.toList args.toList ds p := hA0
  rw [Tryd.params5] at hA hval hsz
  obtain ⟨v0, vs0, d0, ds0, p0, q0, hargs, rfl, rfl, h0, r0⟩ := trodAll_cons hA
  obtain ⟨v1, vs1, d1, ds1, p1, q1, rfl, rfl, rfl, h1, r1⟩ := trodAll_cons r0
  obtain ⟨rfl, rfl, rfl⟩ := trodAll_nil r1
  obtain rfl : args = #[v0, v1] := by cases args; simp_all
  obtain ⟨rfl, rfl⟩ := trodVars_none hV
  have hkt := kinds_of_laid hL
  obtain ⟨q0, cp0, ls0, rfl, hE0, hP0, hz0⟩ := events_open (hval 0 26 v0 rfl rfl) h0
  obtain ⟨n1, rfl, _, _, w1⟩ := open_int Tryd.underlying5 (hval 1 5 v1 rfl rfl) h1
  obtain ⟨l1, u1⟩ := bounds_u8 w1
  obtain ⟨m1, rfl⟩ := Int.eq_ofNat_of_zero_le l1
  simp only [DataW.weightsEach, List.append_nil, List.cons_append, List.nil_append, List.all_append, Bool.and_eq_true] at hsz
  have hs0 := hz0 (hsz.1)
  refine (blifted_any ls0 q0 cp0 m1 W hE0 hkt hs0.1 (by omega)).mono fun e W' ⟨he, hg⟩ => ?_
  subst he
  exact ⟨_, rfl, law_post (tb := 4) (by kernel_rfl) (by kernel_rfl) (by kernel_rfl) Tryd.underlying4 rfl rfl rfl rfl hW' hg.below⟩

set_option maxHeartbeats 4000000 in
set_option maxRecDepth 100000 in
theorem facts : joinedFacts Tryd.prog 5 Tryd.f5 Rows.batchLiftedSpec Rows.batchLiftedRow = true := by
  unfold joinedFacts
  repeat' (with_reducible apply andI)
  all_goals first
    | ((with_reducible refine place_fact _ _ ?_ ?_) <;> (as_aux_lemma => kernel_rfl))
    | ((with_reducible refine unf_fact _ _ ?_) <;> (as_aux_lemma => kernel_rfl))
    | ((with_reducible refine rec_fact _ _ ?_) <;> (as_aux_lemma => kernel_rfl))
    | ((with_reducible refine vars_fact _ _ ?_) <;> (as_aux_lemma => kernel_rfl))
    | (with_reducible exact h_enter)
    | (rw [h_lift]; as_aux_lemma => kernel_rfl)
    | (rw [h_make]; as_aux_lemma => kernel_rfl)
    | (as_aux_lemma => kernel_rfl)
theorem over : Rows.BatchLiftedSaid :=
  OpenClaim.holds_of_wide 5 Tryd.f5 rfl rfl rfl rfl rfl rfl rfl ⟨rfl, rfl, rfl, rfl, rfl⟩ rfl rfl rfl rfl rfl (by kernel_rfl) Tryd.func5 facts
    (of_decide_eq_true (by kernel_rfl)) (by unfold Func.isWrapper; first | (rw [if_pos (by decide +kernel)]; kernel_rfl) | (rw [if_neg (by decide +kernel)]; exact ⟨rfl, rfl⟩))
    (fun os started H enc _ => lifted os started H enc)

/-- THE STATEMENT -/
theorem proved : Rows.BatchLiftedCardSaid :=
  Claim7.holds_tied_plain_at .later [] [.data] true Rows.batchLiftedCard.stood.harness Rows.batchLiftedCard.stood.looks
    over (fun _ h => by cases h) (by kernel_rfl) (fun _ h => by cases h) batchLifted_row_tie rfl ⟨rfl, rfl⟩ h_main rfl
    (fun f fn hf hfn => by
      obtain rfl : f = 5 := Option.some.inj ((show Tryd.prog.funcNamed "souk/souklaw08.BatchLifted" = some 5 by kernel_rfl).symm.trans hf) |>.symm
      obtain rfl : fn = Tryd.f5 := (Option.some.inj (Tryd.func5.symm.trans hfn)).symm
      exact ⟨h_looks.symm, fun j t ht => by
        rw [Tryd.params5] at ht
        have hm : t ∈ [26, 5] := by simpa using Array.mem_of_getElem? ht
        have hall : ([26, 5].all fun u => !Tryd.prog.wantsStandIn u) = true := by kernel_rfl
        exact (show Tryd.prog.wantsStandIn t = false by simpa using List.all_eq_true.1 hall t hm)⟩)
    (by kernel_rfl)
#print axioms proved
end Go.Proofs.YtnmfmedoocnofaaDoor.batchLifted
