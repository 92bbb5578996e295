/-
  CodecGets holds, under no conditions: what the seat's card says of it: where the two tables of schema lie as the program's text lays them, the law answers true and leaves its arguments as they were.
-/
import Derived.Test.YtbnedlfejbfeoaaDoorDoorK
import Derived.Test.YtbnedlfejbfeoaaDoorReach
import Derived.Test.YtbnedlfejbfeoaaDoorHead
import Derived.Test.YtbnedlfejbfeoaaDoorCGets
import Derived.WalkKit
import Derived.ProofKit
import Derived.ChangeMaps5
import Derived.SevenTiedAt
namespace Go.Proofs.YtbnedlfejbfeoaaDoor.codecGets
open Go.ChangeShapes Go.WideShapes Go.ChangeAt Go.RowKit
set_option linter.unusedVariables false

set_option maxRecDepth 100000 in
theorem lifted (os : Os) (started : os.Started) (H : Type) (enc : TypeId × Value → H) :
    ReturnsInHanded {} Tryd.checked os 9 .any (fun w args => (Rows.codecGetsSpec.pre enc Tryd.prog Tryd.f9 [] false w args ∧ laidMetH Tryd.prog laidK w) ∧ sizedMet enc Tryd.prog Tryd.f9 (OpenSpec.ofChange Rows.codecGetsSpec) false w args)
      (Rows.codecGetsSpec.post enc Tryd.prog Tryd.f9 false true false false) := by
  refine returnsInHanded_of_change_and (C := Tryd.checked) (X := fun w _ => laidMetH Tryd.prog laidK w) (fun _ _ _ hh h => h.of_heap hh) own_none started (by kernel_rfl) Tryd.func9
    (ChangeSpec.witness_shaped (enc := enc) (C := Tryd.checked) (os := os) (X := fun w _ => laidMetH Tryd.prog laidK w) false (World.doorLaid Tryd.prog 105 os) #[.string ⟨#[]⟩, .int .u8 0] 8 rfl (door_shaped os _) (by kernel_rfl) (by kernel_rfl) (by kernel_rfl) (door_kinds os _)) ?_
  intro W base args ds gs before hval0 hW _ hsz hL _
  have hval : ∀ (j : Nat) t v, Tryd.f9.params[j]? = some t → args[j]? = some v → Value.okWide Tryd.prog W .any base t v := hval0
  have hW' := hW
  obtain ⟨p, q, hA0, hV, rfl, hfz, hnd⟩ := hW
  have hA : DataW.TrodAll enc Tryd.prog W 0 (fun _ => true) true Tryd.f9.params.toList args.toList ds p := hA0
  rw [Tryd.params9] at hA hval hsz
  obtain ⟨v0, vs0, d0, ds0, p0, q0, hargs, rfl, rfl, h0, r0⟩ := trodAll_cons hA
  obtain ⟨v1, vs1, d1, ds1, p1, q1, rfl, rfl, rfl, h1, r1⟩ := trodAll_cons r0
  obtain ⟨rfl, rfl, rfl⟩ := trodAll_nil r1
  obtain rfl : args = #[v0, v1] := by cases args; simp_all
  obtain ⟨rfl, rfl⟩ := trodVars_none hV
  have hkt := kinds_of_laid hL
  obtain ⟨s0, rfl, _, _, hs0⟩ := Go.ChangeMaps.open_string Tryd.underlying9 (hval 0 9 v0 rfl rfl) h0
  obtain ⟨n1, rfl, _, _, w1⟩ := open_int Tryd.underlying5 (hval 1 5 v1 rfl rfl) h1
  obtain ⟨l1, u1⟩ := bounds_u8 w1
  obtain ⟨m1, rfl⟩ := Int.eq_ofNat_of_zero_le l1
  refine (gets_any s0.data.toList m1 W hkt).mono fun e W' ⟨he, hg⟩ => ?_
  subst he
  exact ⟨_, rfl, law_post (tb := 4) (by kernel_rfl) (by kernel_rfl) (by kernel_rfl) Tryd.underlying4 rfl rfl rfl rfl hW' hg.below⟩

set_option maxHeartbeats 4000000 in
set_option maxRecDepth 100000 in
theorem facts : joinedFacts Tryd.prog 9 Tryd.f9 Rows.codecGetsSpec Rows.codecGetsRow = true := by
  unfold joinedFacts
  repeat' (with_reducible apply andI)
  all_goals first
    | ((with_reducible refine place_fact _ _ ?_ ?_) <;> (as_aux_lemma => kernel_rfl))
    | ((with_reducible refine unf_fact _ _ ?_) <;> (as_aux_lemma => kernel_rfl))
    | ((with_reducible refine rec_fact _ _ ?_) <;> (as_aux_lemma => kernel_rfl))
    | ((with_reducible refine vars_fact _ _ ?_) <;> (as_aux_lemma => kernel_rfl))
    | (with_reducible exact h_enter)
    | (rw [h_lift]; as_aux_lemma => kernel_rfl)
    | (rw [h_make]; as_aux_lemma => kernel_rfl)
    | (as_aux_lemma => kernel_rfl)
theorem over : Rows.CodecGetsSaid :=
  OpenClaim.holds_of_wide 9 Tryd.f9 rfl rfl rfl rfl rfl rfl rfl ⟨rfl, rfl, rfl, rfl, rfl⟩ rfl rfl rfl rfl rfl (by kernel_rfl) Tryd.func9 facts
    (of_decide_eq_true (by kernel_rfl)) (by unfold Func.isWrapper; first | (rw [if_pos (by decide +kernel)]; kernel_rfl) | (rw [if_neg (by decide +kernel)]; exact ⟨rfl, rfl⟩))
    (fun os started H enc _ => lifted os started H enc)

/-- THE STATEMENT -/
theorem proved : Rows.CodecGetsCardSaid :=
  Claim7.holds_tied_plain_at .later [] [.data] true Rows.codecGetsCard.stood.harness Rows.codecGetsCard.stood.looks
    over (fun _ h => by cases h) (by kernel_rfl) (fun _ h => by cases h) codecGets_row_tie rfl ⟨rfl, rfl⟩ h_main rfl
    (fun f fn hf hfn => by
      obtain rfl : f = 9 := Option.some.inj ((show Tryd.prog.funcNamed "souk/souklaw06.CodecGets" = some 9 by kernel_rfl).symm.trans hf) |>.symm
      obtain rfl : fn = Tryd.f9 := (Option.some.inj (Tryd.func9.symm.trans hfn)).symm
      exact ⟨h_looks.symm, fun j t ht => by
        rw [Tryd.params9] at ht
        have hm : t ∈ [9, 5] := by simpa using Array.mem_of_getElem? ht
        have hall : ([9, 5].all fun u => !Tryd.prog.wantsStandIn u) = true := by kernel_rfl
        exact (show Tryd.prog.wantsStandIn t = false by simpa using List.all_eq_true.1 hall t hm)⟩)
    (by kernel_rfl)
#print axioms proved
end Go.Proofs.YtbnedlfejbfeoaaDoor.codecGets
