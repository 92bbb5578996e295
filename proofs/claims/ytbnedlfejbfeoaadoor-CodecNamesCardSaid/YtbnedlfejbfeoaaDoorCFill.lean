/-
  A drawn region of operations that each leave a value in a slot of their own, turn no old block, and make new ones: whatever their order, each slot holds what it should. Literals of events. No statement of the seat is proved here.
-/
import Derived.Test.YtbnedlfejbfeoaaDoorCWorks
import Derived.Great.BuildSlice
import Derived.Great.Frames
namespace Go.Proofs.YtbnedlfejbfeoaaDoor
open Go.RowKit

section
variable {P : Program} {Q : Exit → Act → World → Prop}

/-- The values xs put into the slots ds, one behind the other. -/
def putsFrom (xs : Nat → Value) : Nat → List Nat → Act → Act
  | _, [], a => a
  | i, d :: ds, a => putsFrom xs (i + 1) ds (a.put (some d) (xs i))
theorem putsFrom_size (xs : Nat → Value) : ∀ (ds : List Nat) (i : Nat) (a : Act), (putsFrom xs i ds a).tmps.size = a.tmps.size
  | [], _, _ => rfl
  | d :: ds, i, a => by rw [putsFrom, putsFrom_size xs ds, Act.size_put]
theorem putsFrom_defers (xs : Nat → Value) : ∀ (ds : List Nat) (i : Nat) (a : Act), (putsFrom xs i ds a).defers = a.defers
  | [], _, _ => rfl
  | d :: ds, i, a => by rw [putsFrom, putsFrom_defers xs ds, Act.defers_put']
theorem putsFrom_out (xs : Nat → Value) : ∀ (ds : List Nat) (i : Nat) (a : Act) (t : Nat), t ∉ ds → (putsFrom xs i ds a).tmps[t]? = a.tmps[t]?
  | [], _, _, _, _ => rfl
  | d :: ds, i, a, t, h => by
    rw [putsFrom, putsFrom_out xs ds _ _ t (fun hh => h (List.mem_cons_of_mem _ hh))]
    simp only [Act.put]
    rw [Array.getElem?_setIfInBounds_ne (fun e => h (by rw [e]; exact List.mem_cons_self))]
theorem putsFrom_in (xs : Nat → Value) : ∀ (ds : List Nat) (i : Nat) (a : Act), ds.Nodup → ∀ k d, ds[k]? = some d → d < a.tmps.size → (putsFrom xs i ds a).tmps[d]? = some (xs (i + k))
  | [], _, _, _, k, d, h, _ => by simp at h
  | d0 :: ds, i, a, hn, 0, d, h, hlt => by
    obtain rfl : d0 = d := by simpa using h
    rw [putsFrom, putsFrom_out xs ds _ _ _ (List.nodup_cons.1 hn).1]
    simp [Act.put, hlt]
  | d0 :: ds, i, a, hn, k + 1, d, h, hlt => by
    rw [putsFrom, putsFrom_in xs ds (i + 1) _ (List.nodup_cons.1 hn).2 k d (by simpa using h) (by rw [Act.size_put]; exact hlt)]
    congr 2
    omega

theorem fill_eq {ds : List Nat} {a a' : Act} (hnd : ds.Nodup) (hlt : ∀ d, d ∈ ds → d < a.tmps.size) (hs : a'.tmps.size = a.tmps.size) (hdf : a'.defers = a.defers) (ho : ∀ t, t ∉ ds → a'.tmps[t]? = a.tmps[t]?) :
    a' = putsFrom (fun i => a'.eval (.tmp (ds.getD i 0))) 0 ds a := by
  obtain ⟨t', d'⟩ := a'
  simp only at hdf
  subst hdf
  have : t' = (putsFrom (fun i => (⟨t', a.defers⟩ : Act).eval (.tmp (ds.getD i 0))) 0 ds a).tmps := by
    refine Array.ext_getElem? fun t => ?_
    by_cases ht : t ∈ ds
    · obtain ⟨k, hk⟩ := List.mem_iff_getElem?.1 ht
      have hts : t < t'.size := by have := hlt t ht; simp only at hs; omega
      rw [putsFrom_in _ ds 0 a hnd k t hk (hlt t ht)]
      simp [Act.eval, List.getD, hk, hts, Array.getD]
    · rw [putsFrom_out _ ds 0 a t ht]
      exact ho t ht
  have h2 := putsFrom_defers (fun i => (⟨t', a.defers⟩ : Act).eval (.tmp (ds.getD i 0))) ds 0 a
  generalize putsFrom (fun i => (⟨t', a.defers⟩ : Act).eval (.tmp (ds.getD i 0))) 0 ds a = b at this h2
  obtain ⟨b1, b2⟩ := b
  simp only at this h2
  rw [this, h2]

/-- What holds behind some of the operations. -/
structure FillI (ds : List Nat) (a0 : Act) (W : World) (R : Nat → World → Value → Prop) (listed : Array Bool) (a : Act) (w : World) : Prop where
  n : listed.size = ds.length
  fr : Fr No W w
  size : a.tmps.size = a0.tmps.size
  defers : a.defers = a0.defers
  out : ∀ t, t ∉ ds → a.tmps[t]? = a0.tmps[t]?
  held : ∀ i d, ds[i]? = some d → listed.getD i true = true → R i w (a.eval (.tmp d))

/-- What each operation does, from number i on. -/
def FillSteps (P : Program) (Q : Exit → Act → World → Prop) (ds : List Nat) (W : World) (R : Nat → World → Value → Prop) : Nat → List Oper → Prop
  | _, [] => True
  | i, o :: l => (∀ (a : Act) (w : World) (K : Act → World → Prop), Fr No W w → (∀ k d, (o.after.any fun e => e.on == k && Region.binds .any e) = true → ds[k]? = some d → R k w (a.eval (.tmp d))) →
      (∀ v w', Fr No w w' → R i w' v → K (a.put o.dst v) w') → o.wp P a w K Q) ∧ FillSteps P Q ds W R (i + 1) l
theorem FillSteps.get {ds : List Nat} {W : World} {R : Nat → World → Value → Prop} : ∀ {l : List Oper} {i : Nat}, FillSteps P Q ds W R i l → ∀ k o, l[k]? = some o →
    ∀ (a : Act) (w : World) (K : Act → World → Prop), Fr No W w → (∀ k' d, (o.after.any fun e => e.on == k' && Region.binds .any e) = true → ds[k']? = some d → R k' w (a.eval (.tmp d))) →
      (∀ v w', Fr No w w' → R (i + k) w' v → K (a.put o.dst v) w') → o.wp P a w K Q
  | [], _, _, k, o, h => by simp at h
  | o0 :: l, i, hs, 0, o, h => by
    obtain rfl : o0 = o := by simpa using h
    exact hs.1
  | o0 :: l, i, hs, k + 1, o, h => by
    have h1 := FillSteps.get hs.2 k o (by simpa using h)
    rw [show i + 1 + k = i + (k + 1) by omega] at h1
    exact h1

theorem wp_region_fill {id : Nat} {a : Act} {w : World} {l : List Oper} (hm : P.follows .mixedOrders = true) (ds : List Nat) (R : Nat → World → Value → Prop)
    (hds : (l.map fun o => o.dst) = ds.map some) (hnd : ds.Nodup) (hlt0 : (ds.all fun d => decide (d < a.tmps.size)) = true) (hg : (l.all fun o => o.guard.isNone) = true)
    (hlow : ((List.range l.toArray.size).all fun i => (l.toArray[i]?).all fun o => o.after.all fun e => decide (e.on < i)) = true)
    (mono : ∀ i w w' v, R i w v → Fr No w w' → R i w' v)
    (steps : FillSteps P Q ds w R 0 l)
    (done : ∀ (xs : Nat → Value) w', Fr No w w' → (∀ i, i < ds.length → R i w' (xs i)) → Q .normal (putsFrom xs 0 ds a) w') : (Code.region id l.toArray true).wp P Q a w := by
  have hlt : ∀ d, d ∈ ds → d < a.tmps.size := fun d hd => of_decide_eq_true (List.all_eq_true.1 hlt0 d hd)
  have hlen : l.length = ds.length := by simpa using congrArg List.length hds
  refine wp_region_inv hm (FillI ds a w R) ⟨by simp [hlen], (Fr.refl _).drew, rfl, rfl, fun _ _ => rfl, fun i d hi h => ?_⟩ ?_ ?_
  · exfalso
    have hi' : i < l.length := by rw [hlen]; exact (List.getElem?_eq_some_iff.1 hi).1
    simp [Array.getD, hi'] at h
  · intro listed a' w' i hI hir
    have hi : i < l.length := by simpa using ready_lt hir
    have hfree := ready_free hir
    obtain ⟨o, ho⟩ : ∃ o, l[i]? = some o := ⟨_, List.getElem?_eq_getElem hi⟩
    have ho' : l.toArray[i]? = some o := by simpa using ho
    have hgo : o.guard = none := by
      have := List.all_eq_true.1 hg o (List.mem_of_getElem? ho)
      simpa using this
    have hd : o.dst = some ds[i] := by
      have h1 : (l.map fun o => o.dst)[i]? = (ds.map some)[i]? := by rw [hds]
      rw [List.getElem?_map, List.getElem?_map, ho, List.getElem?_eq_getElem (by omega)] at h1
      simpa using h1
    have hdi : ds[i]? = some ds[i] := List.getElem?_eq_getElem (by omega)
    have hl : ds[i] < a'.tmps.size := by rw [hI.size]; exact hlt _ (List.getElem_mem _)
    refine wpOp_go ho' hgo (steps.get i o ho a' w' _ hI.fr (fun k d hk hkd => ?_) (fun v w'' hf hR => ?_))
    · refine hI.held k d hkd ?_
      obtain ⟨e, he, h2⟩ : ∃ e ∈ o.after, (e.on == k && Region.binds .any e) = true := by
        obtain ⟨j, hj, h⟩ := Array.any_iff_exists.1 hk |>.imp fun j h => h
        exact ⟨_, Array.getElem_mem _, h.2.2⟩
      rw [Bool.and_eq_true] at h2
      have h3 := ready_of hir ho' e he h2.2
      obtain rfl : e.on = k := by simpa using h2.1
      have hk' : e.on < listed.size := by rw [hI.n]; exact (List.getElem?_eq_some_iff.1 hkd).1
      simp only [Array.getD, hk', dif_pos] at h3 ⊢
      exact h3
    · rw [Nat.zero_add] at hR
      refine ⟨by simpa using hI.n, hI.fr.trans hf, by rw [Act.size_put]; exact hI.size, by rw [Act.defers_put']; exact hI.defers, fun t ht => ?_, fun j d hj hjl => ?_⟩
      · rw [hd]
        simp only [Act.put]
        rw [Array.getElem?_setIfInBounds_ne (fun e => ht (by rw [← e]; exact List.getElem_mem _))]
        exact hI.out t ht
      · rw [hd]
        by_cases hji : j = i
        · subst hji
          obtain rfl : ds[j] = d := by rw [hdi] at hj; simpa using hj
          rw [Act.eval_put_same _ _ _ hl]
          exact hR
        · have hne : ds[i] ≠ d := fun e => hji (by
            have hj2 := List.getElem?_eq_some_iff.1 hj
            exact (List.getElem_inj hnd).1 (hj2.2.trans e.symm))
          rw [Act.eval_put_ne _ _ _ _ hne]
          refine mono j _ _ _ (hI.held j d hj ?_) hf
          rw [Array.getD_eq_getD_getElem?] at hjl ⊢
          rwa [Array.getElem?_setIfInBounds_ne (Ne.symm hji)] at hjl
  · intro listed a' w' hI hr
    have hall := listed_all hlow (by simp [hI.n, hlen]) hr
    have hx := fill_eq hnd hlt hI.size hI.defers hI.out
    rw [hx]
    refine done _ _ hI.fr fun i hi => ?_
    have h1 := hI.held i ds[i] (List.getElem?_eq_getElem hi) (hall i (by simp [hlen, hi]))
    simpa [List.getD, hi] using h1
/-- The same for a region whose order is the text's. -/
def FillSeq (P : Program) (Q : Exit → Act → World → Prop) (ds : List Nat) (W : World) (R : Nat → World → Value → Prop) : Nat → List Oper → Prop
  | _, [] => True
  | i, o :: l => (∀ (a : Act) (w : World) (K : Act → World → Prop), Fr No W w → (∀ k d, k < i → ds[k]? = some d → R k w (a.eval (.tmp d))) →
      (∀ v w', Fr No w w' → R i w' v → K (a.put o.dst v) w') → o.wp P a w K Q) ∧ FillSeq P Q ds W R (i + 1) l
theorem wpList_fill {ops : Array Oper} {a0 : Act} {W : World} (ds : List Nat) (R : Nat → World → Value → Prop) (hnd : ds.Nodup) (hlt : ∀ d, d ∈ ds → d < a0.tmps.size)
    (mono : ∀ i w w' v, R i w v → Fr No w w' → R i w' v)
    (done : ∀ (xs : Nat → Value) w', Fr No W w' → (∀ i, i < ds.length → R i w' (xs i)) → Q .normal (putsFrom xs 0 ds a0) w') :
    ∀ (l : List Oper) (i : Nat) (a : Act) (w : World), (l.map fun o => o.dst) = (ds.drop i).map some → (l.all fun o => o.guard.isNone) = true → FillSeq P Q ds W R i l →
      Fr No W w → a.tmps.size = a0.tmps.size → a.defers = a0.defers → (∀ t, t ∉ ds → a.tmps[t]? = a0.tmps[t]?) → (∀ k d, k < i → ds[k]? = some d → R k w (a.eval (.tmp d))) → wpList P ops Q l a w
  | [], i, a, w, hds, _, _, hf, hs, hdf, ho, hh => by
    refine wpList_nil ?_
    have hi : ds.length ≤ i := by have := congrArg List.length hds; simp at this; omega
    rw [fill_eq hnd hlt hs hdf ho]
    refine done _ _ hf fun k hk => ?_
    have h1 := hh k ds[k] (by omega) (List.getElem?_eq_getElem hk)
    simpa [List.getD, hk] using h1
  | o :: l, i, a, w, hds, hg, hst, hf, hs, hdf, ho, hh => by
    have hi : i < ds.length := by have := congrArg List.length hds; simp at this; omega
    rw [List.drop_eq_getElem_cons hi, List.map_cons, List.map_cons, List.cons.injEq] at hds
    rw [List.all_cons, Bool.and_eq_true] at hg
    obtain ⟨hst1, hst2⟩ := hst
    refine wpList_plain (by simpa using hg.1) fun K hK => hst1 a w K hf hh fun v w' hf' hR => hK _ _ ?_
    have hl : ds[i] < a.tmps.size := by rw [hs]; exact hlt _ (List.getElem_mem _)
    have hne : ∀ t, t ∉ ds → ds[i] ≠ t := fun t ht e => ht (e ▸ List.getElem_mem _)
    refine wpList_fill ds R hnd hlt mono done l (i + 1) _ _ hds.2 hg.2 hst2 (hf.trans hf') (by rw [Act.size_put]; exact hs) (by rw [Act.defers_put']; exact hdf) (fun t ht => ?_) (fun k d hk hkd => ?_)
    · rw [hds.1]
      simp only [Act.put]
      rw [Array.getElem?_setIfInBounds_ne (hne t ht)]
      exact ho t ht
    · rw [hds.1]
      by_cases hki : k = i
      · subst hki
        obtain rfl : ds[k] = d := by rw [List.getElem?_eq_getElem hi] at hkd; simpa using hkd
        rw [Act.eval_put_same _ _ _ hl]
        exact hR
      · have hn : ds[i] ≠ d := fun e => hki (by
          have h2 := List.getElem?_eq_some_iff.1 hkd
          exact (List.getElem_inj hnd).1 (h2.2.trans e.symm))
        rw [Act.eval_put_ne _ _ _ _ hn]
        exact mono k _ _ _ (hh k d (by omega) hkd) hf'
theorem wp_region_seq {id : Nat} {a : Act} {w : World} {l : List Oper} (ds : List Nat) (R : Nat → World → Value → Prop)
    (hds : (l.map fun o => o.dst) = ds.map some) (hnd : ds.Nodup) (hlt0 : (ds.all fun d => decide (d < a.tmps.size)) = true) (hg : (l.all fun o => o.guard.isNone) = true)
    (mono : ∀ i w w' v, R i w v → Fr No w w' → R i w' v) (steps : FillSeq P Q ds w R 0 l)
    (done : ∀ (xs : Nat → Value) w', Fr No w w' → (∀ i, i < ds.length → R i w' (xs i)) → Q .normal (putsFrom xs 0 ds a) w') : (Code.region id l.toArray false).wp P Q a w :=
  wp_region_lit (wpList_fill ds R hnd (fun d hd => of_decide_eq_true (List.all_eq_true.1 hlt0 d hd)) mono done l 0 a w (by simpa using hds) hg steps (Fr.refl _) rfl rfl (fun _ _ => rfl) (fun k _ hk => by omega))
end
end Go.Proofs.YtbnedlfejbfeoaaDoor
