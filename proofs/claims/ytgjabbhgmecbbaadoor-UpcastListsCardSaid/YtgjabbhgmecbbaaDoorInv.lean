/-
  A region that draws its order, by one relation that every operation keeps: no order is walked. No statement of the seat is proved here.
-/
import Derived.Test.YtgjabbhgmecbbaaDoorBase
import Derived.Orders
import Derived.BigQuiet
namespace Go.Proofs.YtgjabbhgmecbbaaDoor
open Go.RowKit

section
variable {P : Program} {ops : Array Oper} {md : Region.Mode} {Q : Exit → Act → World → Prop}

def freeN (l : Array Bool) : Nat := (l.toList.filter (fun b => !b)).length
theorem freeN_set {l : Array Bool} {i : Nat} (h : l.getD i true = false) : freeN (l.setIfInBounds i true) < freeN l := by
  obtain ⟨l⟩ := l
  unfold freeN
  simp only [List.setIfInBounds_toArray]
  have hi : i < l.length := by
    rcases Nat.lt_or_ge i l.length with hi | hi
    · exact hi
    · simp [Array.getD, Nat.not_lt.2 hi] at h
  have hf : l[i] = false := by simpa [Array.getD, hi] using h
  clear h
  induction l generalizing i with
  | nil => simp at hi
  | cons b l ih =>
    cases i with
    | zero =>
      simp only [List.getElem_cons_zero] at hf
      subst hf
      simp
    | succ i =>
      have := ih (i := i) (by simpa using hi) (by simpa using hf)
      simp only [List.set_cons_succ, List.filter_cons]
      split
      · simpa using this
      · exact this
theorem ready_free {l : Array Bool} {i : Nat} (h : i ∈ Region.ready md ops l) : l.getD i true = false := (mem_ready.1 h).1

theorem wpAny_inv (I : Array Bool → Act → World → Prop)
    (step : ∀ listed a w i, I listed a w → i ∈ Region.ready md ops listed → wpOp P ops Q i (fun a' w' => I (listed.setIfInBounds i true) a' w') a w)
    (done : ∀ listed a w, I listed a w → Region.ready md ops listed = [] → Q .normal a w) :
    ∀ (fuel : Nat) (listed : Array Bool) (a : Act) (w : World), freeN listed ≤ fuel → I listed a w → wpAny P md ops Q fuel listed a w
  | 0, listed, a, w, hf, h => by
    have hr : Region.ready md ops listed = [] := by
      rcases hx : Region.ready md ops listed with _ | ⟨i, r⟩
      · rfl
      · have h1 := freeN_set (ready_free (md := md) (ops := ops) (l := listed) (i := i) (by rw [hx]; simp))
        omega
    exact ⟨hr, done _ _ _ h hr⟩
  | fuel + 1, listed, a, w, hf, h => by
    refine ⟨fun hr => done _ _ _ h hr, fun i hi => ?_⟩
    refine wpOp_mono (fun a' w' h' => ?_) (step listed a w i h hi)
    have h1 := freeN_set (ready_free hi)
    exact wpAny_inv I step done fuel _ a' w' (by omega) h'

theorem wp_region_inv {id : Nat} {a : Act} {w : World} (hm : P.follows .mixedOrders = true) (I : Array Bool → Act → World → Prop)
    (h0 : I (Array.replicate ops.size false) a w.drew)
    (step : ∀ listed a w i, I listed a w → i ∈ Region.ready .any ops listed → wpOp P ops Q i (fun a' w' => I (listed.setIfInBounds i true) a' w') a w)
    (done : ∀ listed a w, I listed a w → Region.ready .any ops listed = [] → Q .normal a w) : (Code.region id ops true).wp P Q a w :=
  wp_region_any hm (wpAny_inv I step done _ _ _ _ (by simp [freeN]) h0)

/-- One operation of a region, which is wanted. -/
theorem wpOp_go {i : Nat} {o : Oper} {K : Act → World → Prop} {a : Act} {w : World} (hi : ops[i]? = some o) (hg : o.guard = none) (h : o.wp P a w K Q) : wpOp P ops Q i K a w := by
  unfold wpOp
  rw [hi]
  have hw : Region.wanted o (yielded ops a.tmps) = true := by simp [Region.wanted, hg]
  simp only [hw, if_true]
  exact .inl h

/-- .. with what follows behind a variable. -/
theorem wpOp_step {i : Nat} {o : Oper} {I : Act → World → Prop} {a : Act} {w : World} (hi : ops[i]? = some o) (hg : o.guard = none) (h : ∀ K : Act → World → Prop, (∀ a w, I a w → K a w) → o.wp P a w K Q) : wpOp P ops Q i I a w :=
  wpOp_go hi hg (h I (fun _ _ h => h))
/-- The relation may name the frame at the region's beginning. -/
theorem wp_region_inv' {id : Nat} {a : Act} {w : World} (hm : P.follows .mixedOrders = true) (J : Act → Array Bool → Act → World → Prop)
    (h0 : J a (Array.replicate ops.size false) a w.drew)
    (step : ∀ listed a' w' i, J a listed a' w' → i ∈ Region.ready .any ops listed → wpOp P ops Q i (fun a'' w'' => J a (listed.setIfInBounds i true) a'' w'') a' w')
    (done : ∀ listed a' w', J a listed a' w' → Region.ready .any ops listed = [] → Q .normal a' w') : (Code.region id ops true).wp P Q a w :=
  wp_region_inv hm (J a) h0 step done

/-- Operation i may come up: it has not yet, and what binds it has. -/
theorem ready_of {listed : Array Bool} {i : Nat} {o : Oper} (h : i ∈ Region.ready md ops listed) (hi : ops[i]? = some o) : ∀ e ∈ o.after, Region.binds md e = true → listed.getD e.on false = true := by
  obtain ⟨_, o', ho, ha⟩ := mem_ready.1 h
  rw [hi] at ho
  cases ho
  exact ha
theorem ready_lt {listed : Array Bool} {i : Nat} (h : i ∈ Region.ready md ops listed) : i < ops.size := by
  obtain ⟨_, o', ho, _⟩ := mem_ready.1 h
  exact (Array.getElem?_eq_some_iff.1 ho).1
/-- Where nothing may come up any more all has come up, if what an operation waits for stands before it. -/
theorem listed_all {listed : Array Bool} (hlow : ((List.range ops.size).all fun i => (ops[i]?).all fun o => o.after.all fun e => decide (e.on < i)) = true) (hs : listed.size = ops.size)
    (hr : Region.ready md ops listed = []) : ∀ i, i < ops.size → listed.getD i true = true := by
  intro i
  induction i using Nat.strongRecOn with
  | ind i ih =>
    intro hi
    rcases hx : listed.getD i true with _ | _
    · exfalso
      have hmem : i ∈ Region.ready md ops listed := by
        refine mem_ready.2 ⟨hx, ops[i], Array.getElem?_eq_getElem hi, fun e he _ => ?_⟩
        have h1 := List.all_eq_true.1 hlow i (List.mem_range.2 hi)
        rw [Array.getElem?_eq_getElem hi] at h1
        simp only [Option.all_some] at h1
        have h2 : e.on < i := by
          obtain ⟨k, hk, rfl⟩ := Array.mem_iff_getElem.1 he
          have := Array.all_eq_true.1 h1 k hk
          simpa using this
        have h3 := ih e.on h2 (by omega)
        have h4 : e.on < listed.size := by omega
        simp only [Array.getD, h4, dif_pos] at h3 ⊢
        exact h3
      rw [hr] at hmem
      cases hmem
    · rfl
end
end Go.Proofs.YtgjabbhgmecbbaaDoor
