/-
  BatchBack holds, under no conditions: what the seat's card says of it: where the two tables of schema lie as the program's text lays them, the law answers true and leaves its arguments as they were.
-/
import Derived.Test.YtnmfmedoocnofaaDoorDoorK
import Derived.Test.YtnmfmedoocnofaaDoorReach
import Derived.Test.YtnmfmedoocnofaaDoorHead
import Derived.Test.YtnmfmedoocnofaaDoorBLs
import Derived.Test.YtnmfmedoocnofaaDoorBBack
import Derived.WalkKit
import Derived.ProofKit
import Derived.ChangeMaps5
import Derived.SevenTiedAt
namespace Go.Proofs.YtnmfmedoocnofaaDoor.batchBack
open Go.ChangeShapes Go.WideShapes Go.ChangeAt Go.RowKit
set_option linter.unusedVariables false

set_option maxRecDepth 100000 in
theorem lifted (os : Os) (started : os.Started) (H : Type) (enc : TypeId × Value → H) :
    ReturnsInHanded {} Tryd.checked os 4 .any (fun w args => (Rows.batchBackSpec.pre enc Tryd.prog Tryd.f4 [] false w args ∧ laidMetH Tryd.prog laidK w) ∧ sizedMet enc Tryd.prog Tryd.f4 (OpenSpec.ofChange Rows.batchBackSpec) false w args)
      (Rows.batchBackSpec.post enc Tryd.prog Tryd.f4 false true false false) := by
  refine returnsInHanded_of_change_and (C := Tryd.checked) (X := fun w _ => laidMetH Tryd.prog laidK w) (fun _ _ _ hh h => h.of_heap hh) own_none started (by kernel_rfl) Tryd.func4
    (ChangeSpec.witness_shaped (enc := enc) (C := Tryd.checked) (os := os) (X := fun w _ => laidMetH Tryd.prog laidK w) false (World.doorLaid Tryd.prog 105 os) #[.slice none 0 0, .string ⟨#[]⟩] 8 rfl (door_shaped os _) (by kernel_rfl) (by kernel_rfl) (by kernel_rfl) (door_kinds os _)) ?_
  intro W base args ds gs before hval0 hW _ hsz hL _
  have hval : ∀ (j : Nat) t v, Tryd.f4.params[j]? = some t → args[j]? = some v → Value.okWide Tryd.prog W .any base t v := hval0
  have hW' := hW
  obtain ⟨p, q, hA0, hV, rfl, hfz, hnd⟩ := hW
  have hA : DataW.TrodAll enc Tryd.prog W 0 (fun _ => true) true Tryd.f4.params.toList args.toList ds p := hA0
  rw [Tryd.params4] at hA hval hsz
  obtain ⟨v0, vs0, d0, ds0, p0, q0, hargs, rfl, rfl, h0, r0⟩ := trodAll_cons hA
  obtain ⟨v1, vs1, d1, ds1, p1, q1, rfl, rfl, rfl, h1, r1⟩ := trodAll_cons r0
  obtain ⟨rfl, rfl, rfl⟩ := trodAll_nil r1
  obtain rfl : args = #[v0, v1] := by cases args; simp_all
  obtain ⟨rfl, rfl⟩ := trodVars_none hV
  have hkt := kinds_of_laid hL
  obtain ⟨q0, cp0, ls0, rfl, hE0, hP0, hz0⟩ := events_open (hval 0 26 v0 rfl rfl) h0
  obtain ⟨s1, rfl, _, _, hs1⟩ := Go.ChangeMaps.open_string Tryd.underlying9 (hval 1 9 v1 rfl rfl) h1
  simp only [DataW.weightsEach, List.append_nil, List.cons_append, List.nil_append, List.all_append, Bool.and_eq_true] at hsz
  have hs0 := hz0 (hsz.1)
  refine (bback_any ls0 q0 cp0 s1.data.toList W hE0 hkt hs0.1).mono fun e W' ⟨he, hg⟩ => ?_
  subst he
  exact ⟨_, rfl, law_post (tb := 4) (by kernel_rfl) (by kernel_rfl) (by kernel_rfl) Tryd.underlying4 rfl rfl rfl rfl hW' hg.below⟩

set_option maxHeartbeats 4000000 in
set_option maxRecDepth 100000 in
theorem facts : joinedFacts Tryd.prog 4 Tryd.f4 Rows.batchBackSpec Rows.batchBackRow = true := by
  unfold joinedFacts
  repeat' (with_reducible apply andI)
  all_goals first
    | ((with_reducible refine place_fact _ _ ?_ ?_) <;> (as_aux_lemma => kernel_rfl))
    | ((with_reducible refine unf_fact _ _ ?_) <;> (as_aux_lemma => kernel_rfl))
    | ((with_reducible refine rec_fact _ _ ?_) <;> (as_aux_lemma => kernel_rfl))
    | ((with_reducible refine vars_fact _ _ ?_) <;> (as_aux_lemma => kernel_rfl))
    | (with_reducible exact h_enter)
    | (rw [h_lift]; as_aux_lemma => kernel_rfl)
    | (rw [h_make]; as_aux_lemma => kernel_rfl)
    | (as_aux_lemma => kernel_rfl)
theorem over : Rows.BatchBackSaid :=
  OpenClaim.holds_of_wide 4 Tryd.f4 rfl rfl rfl rfl rfl rfl rfl ⟨rfl, rfl, rfl, rfl, rfl⟩ rfl rfl rfl rfl rfl (by kernel_rfl) Tryd.func4 facts
    (of_decide_eq_true (by kernel_rfl)) (by unfold Func.isWrapper; first | (rw [if_pos (by decide +kernel)]; kernel_rfl) | (rw [if_neg (by decide +kernel)]; exact ⟨rfl, rfl⟩))
    (fun os started H enc _ => lifted os started H enc)

/-- THE STATEMENT -/
theorem proved : Rows.BatchBackCardSaid :=
  Claim7.holds_tied_plain_at .later [] [.data] true Rows.batchBackCard.stood.harness Rows.batchBackCard.stood.looks
    over (fun _ h => by cases h) (by kernel_rfl) (fun _ h => by cases h) batchBack_row_tie rfl ⟨rfl, rfl⟩ h_main rfl
    (fun f fn hf hfn => by
      obtain rfl : f = 4 := Option.some.inj ((show Tryd.prog.funcNamed "souk/souklaw08.BatchBack" = some 4 by kernel_rfl).symm.trans hf) |>.symm
      obtain rfl : fn = Tryd.f4 := (Option.some.inj (Tryd.func4.symm.trans hfn)).symm
      exact ⟨h_looks.symm, fun j t ht => by
        rw [Tryd.params4] at ht
        have hm : t ∈ [26, 9] := by simpa using Array.mem_of_getElem? ht
        have hall : ([26, 9].all fun u => !Tryd.prog.wantsStandIn u) = true := by kernel_rfl
        exact (show Tryd.prog.wantsStandIn t = false by simpa using List.all_eq_true.1 hall t hm)⟩)
    (by kernel_rfl)
#print axioms proved
end Go.Proofs.YtnmfmedoocnofaaDoor.batchBack
