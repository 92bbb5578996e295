/-
  Lifting events and letting them down, in plain words: no statement of the seat is proved here. No conditions.
-/
import Derived.Test.YtnmfmedoocnofaaDoorMay
import Derived.Test.YtnmfmedoocnofaaDoorRMay2
namespace Go.Proofs.YtnmfmedoocnofaaDoor
open Go.RowKit

/-- Where a field comes from. -/
structure RuleS where
  fr : Int
  times : Int
  plus : Int
deriving DecidableEq
/-- How a class's numbers go to the next version. -/
def ruleC (v : Nat) (c : UInt8) : Int × Int :=
  if v = 1 ∧ (c = 112 ∨ c = 107 ∨ c = 109 ∨ c = 98) then (100, 0) else if v = 2 ∧ c = 116 then (10, 0) else if v = 2 ∧ c = 115 then (1, 1) else (1, 0)
def freshC (c : UInt8) : Int := if c = 122 then 0 else 100
def ruleAt (v : Nat) (old : List UInt8) (c : UInt8) (a : Nat) : RuleS × Nat :=
  if old[a]? = some c then (⟨a, (ruleC v c).1, (ruleC v c).2⟩, a + 1) else (⟨-1, 0, freshC c⟩, a)
def rulesG (v : Nat) (old : List UInt8) : List UInt8 → Nat → List RuleS
  | [], _ => []
  | c :: l, a => (ruleAt v old c a).1 :: rulesG v old l (ruleAt v old c a).2
def rulesL (v k : Nat) : List RuleS := rulesG v (fieldsS v k).1 (fieldsS (v + 1) k).1 0
/-- The kind is there, and there is a next version. -/
def rulesIs (v k : Nat) : Bool := (fieldsS v k).2.2 && decide (v < 3)
def upNum (nums : List Int) (r : RuleS) : Int := if 0 ≤ r.fr then r.plus + r.times * (nums[r.fr.toNat]?).getD 0 else r.plus
def upN (rs : List RuleS) (nums : List Int) : List Int := rs.map (upNum nums)
def downNum (p : RuleS × Int) : Option Int := if 0 ≤ p.1.fr then some ((p.2 - p.1.plus).tdiv p.1.times) else none
def downN (rs : List RuleS) (nums : List Int) : List Int := (rs.zip nums).filterMap downNum
def upS (e : Ev) : Ev := ⟨e.v + 1, e.kind, upN (rulesL e.v e.kind) e.nums, e.texts⟩
def downE (e : Ev) : Ev := ⟨e.v - 1, e.kind, downN (rulesL (e.v - 1) e.kind) e.nums, e.texts⟩
/-- May an event be let down? -/
def downIs (e : Ev) : Bool := mayS e && (rulesIs (e.v - 1) e.kind && (mayS (downE e) && sameS' (upS (downE e)) e))
where sameS' (a b : Ev) : Bool := decide (a = b)

/-! ### what the rules are, by looking at all of them -/
def ruleOk (v : Nat) (old : List UInt8) (c : UInt8) (r : RuleS) : Bool :=
  if 0 ≤ r.fr then old[r.fr.toNat]? == some c && (decide (0 < r.times) && (decide ((boundS (v + 1) c.toNat).1 ≤ r.times * (boundS v c.toNat).1 + r.plus) &&
    (decide (r.times * (boundS v c.toNat).2.1 + r.plus ≤ (boundS (v + 1) c.toNat).2.1) && (boundS (v + 1) c.toNat).2.2)))
  else decide ((boundS (v + 1) c.toNat).1 ≤ r.plus) && (decide (r.plus ≤ (boundS (v + 1) c.toNat).2.1) && (boundS (v + 1) c.toNat).2.2)
def rulesOk (v k : Nat) : Bool :=
  !(fieldsS v k).2.2 || ((fieldsS (v + 1) k).2.2 && ((fieldsS (v + 1) k).2.1 == (fieldsS v k).2.1 && (((rulesL v k).filterMap (fun r => if 0 ≤ r.fr then some r.fr.toNat else none) == List.range (fieldsS v k).1.length) &&
    ((rulesL v k).length == (fieldsS (v + 1) k).1.length && ((fieldsS (v + 1) k).1.zip (rulesL v k)).all fun p => ruleOk v (fieldsS v k).1 p.1 p.2))))
theorem rules_all : ((List.range 24).all fun k => rulesOk 1 k && rulesOk 2 k) = true := by decide +kernel

theorem rulesIs_range {v k : Nat} (h : rulesIs v k = true) : (v = 1 ∨ v = 2) ∧ 1 ≤ k ∧ k ≤ 23 ∧ (fieldsS v k).2.2 = true := by
  unfold rulesIs at h
  rw [Bool.and_eq_true, decide_eq_true_eq] at h
  have h1 : ¬ (v = 0 ∨ 3 < v) := fun hc => by rw [fieldsS_out v k hc] at h; cases h.1
  have h2 : ¬ (k = 0 ∨ 23 < k) := fun hc => by rw [fieldsS_none v k hc] at h; cases h.1
  have := h.2
  exact ⟨by omega, by omega, by omega, h.1⟩
theorem rules_fact {v k : Nat} (h : rulesIs v k = true) : (fieldsS (v + 1) k).2.2 = true ∧ (fieldsS (v + 1) k).2.1 = (fieldsS v k).2.1 ∧
    (rulesL v k).filterMap (fun r => if 0 ≤ r.fr then some r.fr.toNat else none) = List.range (fieldsS v k).1.length ∧ (rulesL v k).length = (fieldsS (v + 1) k).1.length ∧
    ∀ (j : Nat) (c : UInt8) (r : RuleS), (fieldsS (v + 1) k).1[j]? = some c → (rulesL v k)[j]? = some r → ruleOk v (fieldsS v k).1 c r = true := by
  obtain ⟨hv, h1, h2, h3⟩ := rulesIs_range h
  have hg := List.all_eq_true.1 rules_all k (List.mem_range.2 (by omega))
  rw [Bool.and_eq_true] at hg
  have hk : rulesOk v k = true := by
    rcases hv with rfl | rfl
    · exact hg.1
    · exact hg.2
  unfold rulesOk at hk
  rw [h3] at hk
  simp only [Bool.not_true, Bool.false_or, Bool.and_eq_true, beq_iff_eq, List.all_eq_true] at hk
  obtain ⟨g1, g2, g3, g4, g5⟩ := hk
  exact ⟨g1, g2, g3, g4, fun j c r a b => g5 (c, r) (List.mem_of_getElem? (List.getElem?_zip_eq_some.2 ⟨a, b⟩))⟩
theorem ruleOk_times {v : Nat} {old : List UInt8} {c : UInt8} {r : RuleS} (h : ruleOk v old c r = true) (hf : 0 ≤ r.fr) : 0 < r.times := by
  unfold ruleOk at h
  rw [if_pos hf] at h
  simp only [Bool.and_eq_true, decide_eq_true_eq] at h
  exact h.2.1
theorem rules_times {v k : Nat} (h : rulesIs v k = true) {r : RuleS} (hr : r ∈ rulesL v k) (hf : 0 ≤ r.fr) : 0 < r.times := by
  obtain ⟨_, _, _, h4, h5⟩ := rules_fact h
  obtain ⟨j, hj⟩ := List.getElem?_of_mem hr
  have hl := (List.getElem?_eq_some_iff.1 hj).1
  exact ruleOk_times (h5 j _ r (List.getElem?_eq_getElem (by omega)) hj) hf
theorem downN_upN (rs : List RuleS) (nums : List Int) (hr : rs.filterMap (fun r => if 0 ≤ r.fr then some r.fr.toNat else none) = List.range nums.length) (ht : ∀ r, r ∈ rs → 0 ≤ r.fr → 0 < r.times) :
    downN rs (upN rs nums) = nums := by
  have h1 : ∀ l : List RuleS, (∀ r, r ∈ l → 0 ≤ r.fr → 0 < r.times) → (l.zip (l.map (upNum nums))).filterMap downNum = (l.filterMap (fun r => if 0 ≤ r.fr then some r.fr.toNat else none)).map fun j => (nums[j]?).getD 0 := by
    intro l hl
    induction l with
    | nil => rfl
    | cons r l ih =>
      have ih := ih (fun r h => hl r (List.mem_cons_of_mem _ h))
      simp only [List.map_cons, List.zip_cons_cons, List.filterMap_cons]
      by_cases hf : 0 ≤ r.fr
      · have ht := hl r (List.mem_cons_self ..) hf
        have e1 : downNum (r, upNum nums r) = some ((nums[r.fr.toNat]?).getD 0) := by
          unfold downNum upNum
          rw [if_pos hf, if_pos hf]
          congr 1
          rw [show r.plus + r.times * (nums[r.fr.toNat]?).getD 0 - r.plus = r.times * (nums[r.fr.toNat]?).getD 0 by omega]
          exact Int.mul_tdiv_cancel_left _ (by omega)
        rw [e1, if_pos hf]
        simp [ih]
      · have e1 : downNum (r, upNum nums r) = none := by unfold downNum; rw [if_neg hf]
        rw [e1, if_neg hf]
        exact ih
  unfold downN upN
  rw [h1 rs ht, hr]
  apply List.ext_getElem?
  intro i
  rw [List.getElem?_map]
  by_cases hi : i < nums.length
  · rw [List.getElem?_range hi, List.getElem?_eq_getElem hi]
    simp [hi]
  · rw [List.getElem?_eq_none (by simp; omega), List.getElem?_eq_none (by omega)]
    rfl
theorem down_up {e : Ev} (hm : mayS e = true) (hr : rulesIs e.v e.kind = true) : downE (upS e) = e := by
  obtain ⟨_, hl, _⟩ := mayS_parts (e := e) (l := (fieldsS e.v e.kind).1) (t := (fieldsS e.v e.kind).2.1) (i := (fieldsS e.v e.kind).2.2) rfl hm
  obtain ⟨_, _, h3, _, _⟩ := rules_fact hr
  obtain ⟨v, k, ns, ts⟩ := e
  show Ev.mk (v + 1 - 1) k (downN (rulesL (v + 1 - 1) k) (upN (rulesL v k) ns)) ts = _
  rw [Nat.add_sub_cancel, downN_upN _ _ (by rw [h3]; exact congrArg List.range hl) (fun r h1 h2 => rules_times hr h1 h2)]
theorem may_up {e : Ev} (hm : mayS e = true) (hr : rulesIs e.v e.kind = true) : mayS (upS e) = true := by
  obtain ⟨_, hl, hfit, ht1, ht2⟩ := mayS_parts (e := e) (l := (fieldsS e.v e.kind).1) (t := (fieldsS e.v e.kind).2.1) (i := (fieldsS e.v e.kind).2.2) rfl hm
  obtain ⟨g1, g2, g3, g4, g5⟩ := rules_fact hr
  have e0 : mayS (upS e) = ((fieldsS (e.v + 1) e.kind).2.2 && (allS (e.v + 1) (fieldsS (e.v + 1) e.kind).1 (upS e).nums && (if (fieldsS (e.v + 1) e.kind).2.1 then oneName e.texts else e.texts.isEmpty))) := by unfold mayS; rfl
  rw [e0, g1, g2, Bool.true_and, Bool.and_eq_true]
  refine ⟨allS_iff.2 ⟨?_, ?_⟩, ?_⟩
  · show _ = (upN (rulesL e.v e.kind) e.nums).length
    unfold upN
    rw [List.length_map, g4]
  · intro j c x h1 h2
    have h2 : (upN (rulesL e.v e.kind) e.nums)[j]? = some x := h2
    unfold upN at h2
    rw [List.getElem?_map] at h2
    rcases hj : (rulesL e.v e.kind)[j]? with _ | r
    · rw [hj] at h2; cases h2
    · rw [hj] at h2
      obtain rfl : upNum e.nums r = x := by simpa using h2
      have ho := g5 j c r h1 hj
      show fitsS (e.v + 1) c.toNat _ = true
      unfold ruleOk at ho
      unfold upNum fitsS
      by_cases hf : 0 ≤ r.fr
      · rw [if_pos hf] at ho ⊢
        simp only [Bool.and_eq_true, decide_eq_true_eq, beq_iff_eq] at ho ⊢
        obtain ⟨o1, o2, o3, o4, o5⟩ := ho
        have hlt := (List.getElem?_eq_some_iff.1 o1).1
        obtain ⟨y, hy⟩ : ∃ y, e.nums[r.fr.toNat]? = some y := ⟨_, List.getElem?_eq_getElem (by omega)⟩
        have hfy := hfit _ c y o1 hy
        unfold fitsS at hfy
        simp only [Bool.and_eq_true, decide_eq_true_eq] at hfy
        rw [hy]
        simp only [Option.getD_some]
        have m1 := Int.mul_le_mul_of_nonneg_left hfy.2.1 (Int.le_of_lt o2)
        have m2 := Int.mul_le_mul_of_nonneg_left hfy.2.2 (Int.le_of_lt o2)
        exact ⟨o5, by omega, by omega⟩
      · rw [if_neg hf] at ho ⊢
        simp only [Bool.and_eq_true, decide_eq_true_eq] at ho ⊢
        exact ⟨ho.2.2, ho.1, ho.2.1⟩
  · show (if (fieldsS e.v e.kind).2.1 then oneName e.texts else e.texts.isEmpty) = true
    rcases ht : (fieldsS e.v e.kind).2.1 with _ | _
    · rw [ht2 ht]; rfl
    · obtain ⟨s, h1, h2⟩ := ht1 ht
      rw [h1]; exact h2

/-! ### the chain of what an event is called in the versions -/
theorem may_is {e : Ev} (hm : mayS e = true) : (fieldsS e.v e.kind).2.2 = true ∧ 1 ≤ e.v ∧ e.v ≤ 3 := by
  obtain ⟨h, _⟩ := mayS_parts (e := e) (l := (fieldsS e.v e.kind).1) (t := (fieldsS e.v e.kind).2.1) (i := (fieldsS e.v e.kind).2.2) rfl hm
  have h1 : ¬ (e.v = 0 ∨ 3 < e.v) := fun hc => by rw [fieldsS_out _ _ hc] at h; cases h
  exact ⟨h, by omega, by omega⟩
theorem may_kind {e : Ev} (hm : mayS e = true) : e.kind ≤ 255 := by
  have h := (may_is hm).1
  rcases Nat.lt_or_ge 23 e.kind with h1 | h1
  · rw [fieldsS_none e.v e.kind (.inr h1)] at h; cases h
  · omega
theorem may_rules {e : Ev} (hm : mayS e = true) (h3 : e.v < 3) : rulesIs e.v e.kind = true := by
  unfold rulesIs
  rw [(may_is hm).1]
  simpa using h3
theorem up_inj {e f : Ev} (he : mayS e = true) (hf : mayS f = true) (h3 : e.v < 3) (h : upS e = upS f) : e = f := by
  have hv : e.v = f.v := by
    have := congrArg Ev.v h
    exact Nat.add_right_cancel this
  rw [← down_up he (may_rules he h3), h, down_up hf (may_rules hf (by omega))]
/-- An event can be let down just if it is another one, lifted: and then it is that one. -/
theorem downIs_iff {f : Ev} : downIs f = true ↔ ∃ d, mayS d = true ∧ d.v < 3 ∧ upS d = f := by
  unfold downIs
  simp only [Bool.and_eq_true, downIs.sameS', decide_eq_true_eq]
  constructor
  · rintro ⟨h1, h2, h3, h4⟩
    have := rulesIs_range h2
    exact ⟨downE f, h3, by show f.v - 1 < 3; omega, h4⟩
  · rintro ⟨d, h1, h2, rfl⟩
    have hr := may_rules h1 h2
    have e1 : (upS d).v - 1 = d.v := Nat.add_sub_cancel ..
    refine ⟨may_up h1 hr, ?_, ?_, ?_⟩
    · show rulesIs ((upS d).v - 1) d.kind = true
      rw [e1]; exact hr
    · rw [down_up h1 hr]; exact h1
    · rw [down_up h1 hr]
theorem down_of {d f : Ev} (h1 : mayS d = true) (h2 : d.v < 3) (h3 : upS d = f) : downE f = d := by rw [← h3, down_up h1 (may_rules h1 h2)]
def upTo : Nat → Ev → Ev
  | 0, e => e
  | n + 1, e => upTo n (upS e)
def downTo : Nat → Ev → Option Ev
  | 0, e => some e
  | n + 1, e => if downIs e then downTo n (downE e) else none
def toS (e : Ev) (v : Nat) : Option Ev := if e.v ≤ v then some (upTo (v - e.v) e) else downTo (e.v - v) e
def topS (e : Ev) : Ev := upTo (3 - e.v) e
theorem upTo_snoc : ∀ (n : Nat) (e : Ev), upTo (n + 1) e = upS (upTo n e)
  | 0, _ => rfl
  | n + 1, e => upTo_snoc n (upS e)
theorem upTo_v : ∀ (n : Nat) (e : Ev), (upTo n e).v = e.v + n
  | 0, _ => rfl
  | n + 1, e => by
    have := upTo_v n (upS e)
    rw [show upTo (n + 1) e = upTo n (upS e) from rfl, this]
    show e.v + 1 + n = _
    omega
theorem upTo_may : ∀ (n : Nat) (e : Ev), mayS e = true → e.v + n ≤ 3 → mayS (upTo n e) = true
  | 0, _, h, _ => h
  | n + 1, e, h, h3 => upTo_may n (upS e) (may_up h (may_rules h (by omega))) (by show e.v + 1 + n ≤ 3; omega)
theorem upTo_inj : ∀ (n : Nat) (e f : Ev), mayS e = true → mayS f = true → e.v + n ≤ 3 → upTo n e = upTo n f → e = f
  | 0, _, _, _, _, _, h => h
  | n + 1, e, f, he, hf, h3, h => by
    have hv : e.v = f.v := by
      have := congrArg Ev.v h
      rw [upTo_v, upTo_v] at this
      omega
    exact up_inj he hf (by omega) (upTo_inj n (upS e) (upS f) (may_up he (may_rules he (by omega))) (may_up hf (may_rules hf (by omega))) (by show e.v + 1 + n ≤ 3; omega) h)
theorem upTo_add : ∀ (n m : Nat) (e : Ev), upTo (n + m) e = upTo m (upTo n e)
  | 0, m, e => by rw [Nat.zero_add]; rfl
  | n + 1, m, e => by rw [Nat.add_right_comm]; exact upTo_add n m (upS e)
/-- What letting an event down n times comes to. -/
theorem downTo_iff : ∀ (n : Nat) (f d : Ev), mayS f = true → (downTo n f = some d ↔ mayS d = true ∧ d.v + n ≤ 3 ∧ upTo n d = f)
  | 0, f, d, hf => by
    have := may_is hf
    simp only [downTo, Option.some.injEq, upTo, Nat.add_zero]
    constructor
    · rintro rfl; exact ⟨hf, by omega, rfl⟩
    · rintro ⟨_, _, rfl⟩; rfl
  | n + 1, f, d, hf => by
    have h3 := may_is hf
    unfold downTo
    by_cases hd : downIs f = true
    · rw [if_pos hd]
      obtain ⟨g, g1, g2, g3⟩ := downIs_iff.1 hd
      rw [down_of g1 g2 g3, downTo_iff n g d g1]
      have hgv : g.v + 1 = f.v := by rw [← g3]; rfl
      constructor
      · rintro ⟨k1, k2, k3⟩
        have hv := congrArg Ev.v k3
        rw [upTo_v] at hv
        exact ⟨k1, by omega, by rw [upTo_snoc, k3, g3]⟩
      · rintro ⟨k1, k2, k3⟩
        refine ⟨k1, by omega, ?_⟩
        rw [upTo_snoc, ← g3] at k3
        have hm := upTo_may n d k1 (by omega)
        exact up_inj hm g1 (by rw [upTo_v]; omega) k3
    · rw [if_neg hd]
      constructor
      · intro h; cases h
      · rintro ⟨k1, k2, k3⟩
        exfalso
        apply hd
        rw [upTo_snoc] at k3
        exact downIs_iff.2 ⟨upTo n d, upTo_may n d k1 (by omega), by rw [upTo_v]; omega, k3⟩
/-- What an event is, said in a version: the one of that version that is the same, lifted to the newest one. -/
theorem toS_iff {e x : Ev} {v : Nat} (hm : mayS e = true) (hv : 1 ≤ v ∧ v ≤ 3) : toS e v = some x ↔ mayS x = true ∧ x.v = v ∧ topS x = topS e := by
  have h3 := may_is hm
  unfold toS topS
  by_cases h : e.v ≤ v
  · rw [if_pos h]
    have hmu := upTo_may (v - e.v) e hm (by omega)
    have hvu := upTo_v (v - e.v) e
    constructor
    · intro hx
      obtain rfl := Option.some.inj hx
      refine ⟨hmu, by omega, ?_⟩
      rw [hvu, ← upTo_add]
      congr 1
      omega
    · rintro ⟨k1, rfl, k3⟩
      congr 1
      refine upTo_inj (3 - x.v) _ _ hmu k1 (by omega) ?_
      rw [k3, ← upTo_add]
      congr 1
      omega
  · rw [if_neg h, downTo_iff _ _ _ hm]
    constructor
    · rintro ⟨k1, k2, k3⟩
      have hv3 := congrArg Ev.v k3
      rw [upTo_v] at hv3
      refine ⟨k1, by omega, ?_⟩
      rw [← k3, upTo_v, ← upTo_add]
      congr 1
      omega
    · rintro ⟨k1, rfl, k3⟩
      refine ⟨k1, by omega, ?_⟩
      have hmu := upTo_may (e.v - x.v) x k1 (by omega)
      have hvu := upTo_v (e.v - x.v) x
      refine upTo_inj (3 - e.v) _ _ hmu hm (by omega) ?_
      rw [← upTo_add, ← k3]
      congr 1
      omega
end Go.Proofs.YtnmfmedoocnofaaDoor
