/-
  upcast: the rule of a class, and of a fresh one. No statement of the seat is proved here. upcast.Rules: how a kind goes to the next version. No statement of the seat is proved here. upcast.Rules: the walk. No statement of the seat is proved here. slices.Clone at []int64 and []string. No statement of the seat is proved here. upcast.Up: the walk. No statement of the seat is proved here. upcast.Up: the walk where an event is lifted. No statement of the seat is proved here.
-/
import Derived.Test.YtnmfmedoocnofaaDoorUp
import Derived.Laws.Rows
import Derived.Test.YtnmfmedoocnofaaDoorOwn
import Derived.BigQuiet
import Derived.Test.YtnmfmedoocnofaaDoorRMay2
import Derived.Test.YtnmfmedoocnofaaDoorBox
import Derived.Laws.ResultCell
import Derived.Test.YtnmfmedoocnofaaDoorBase
import Derived.Deep.RegionHeld3
import Derived.Deep.Cut
import Derived.IntWalk
import Derived.Deep.QuietTactic
import Derived.Deep.CutRange
namespace Go.Proofs.YtnmfmedoocnofaaDoor
open Go.RowKit

def ruleV (r : RuleS) : Value := .agg #[.int .i64 r.fr, .int .i64 r.times, .int .i64 r.plus]

set_option maxHeartbeats 1000000 in
theorem fresh_any (c : UInt8) (w : World) :
    Calls Tryd.prog 101 #[.int .u8 (c.toNat : Int)] w fun e w' => e = .returned (ruleV ⟨-1, 0, freshC c⟩) ∧ Fr No w w' := by
  unfold ruleV freshC
  by_cases h : c = 122
  · subst h
    have e : ((122 : UInt8).toNat : Int) = 122 := rfl
    rw [e]
    go_enter Tryd.func101, Tryd.ntmps101
    go_wp2
    refine bodyPost_ret (Go.results_cell_row rfl _ _ w.heap.size 110 _ (0, 0) _ rfl (Go.heap_alloc_new _ _) Tryd.underlying110 rfl (by kernel_rfl)) rfl ⟨rfl, (Fr.refl w).alloc _⟩
  · have hb : ((c.toNat : Int) == 122) = false := by
      rw [beq_eq_false_iff_ne]
      intro e
      exact h (UInt8.toNat_inj.1 (by exact_mod_cast e))
    rw [if_neg h]
    clear h
    go_enter Tryd.func101, Tryd.ntmps101
    go_wp2
    refine bodyPost_ret (Go.results_cell_row rfl _ _ w.heap.size 110 _ (0, 0) _ rfl (Go.heap_alloc_new _ _) Tryd.underlying110 rfl (by kernel_rfl)) rfl ⟨rfl, (Fr.refl w).alloc _⟩

def RuleIs (v c t p : Int) : Prop := ∀ w : World, Calls Tryd.prog 102 #[.int .u8 v, .int .u8 c] w fun e w' => e = .returned (.agg #[.int .i64 0, .int .i64 t, .int .i64 p]) ∧ Fr No w w'
theorem rule_1_112 : RuleIs 1 112 100 0 := by
  intro w
  go_enter Tryd.func102, Tryd.ntmps102
  go_wp2
  refine bodyPost_ret (Go.results_cell_row rfl _ _ w.heap.size 110 _ (0, 0) _ rfl ((Below.heap_alloc _ _ _ (by simp)).trans (Go.heap_alloc_new _ _)) Tryd.underlying110 rfl (by kernel_rfl)) rfl ⟨rfl, ((Fr.refl w).alloc _).alloc _⟩

theorem rule_1_107 : RuleIs 1 107 100 0 := by
  intro w
  go_enter Tryd.func102, Tryd.ntmps102
  go_wp2
  refine bodyPost_ret (Go.results_cell_row rfl _ _ w.heap.size 110 _ (0, 0) _ rfl ((Below.heap_alloc _ _ _ (by simp)).trans (Go.heap_alloc_new _ _)) Tryd.underlying110 rfl (by kernel_rfl)) rfl ⟨rfl, ((Fr.refl w).alloc _).alloc _⟩

theorem rule_1_109 : RuleIs 1 109 100 0 := by
  intro w
  go_enter Tryd.func102, Tryd.ntmps102
  go_wp2
  refine bodyPost_ret (Go.results_cell_row rfl _ _ w.heap.size 110 _ (0, 0) _ rfl ((Below.heap_alloc _ _ _ (by simp)).trans (Go.heap_alloc_new _ _)) Tryd.underlying110 rfl (by kernel_rfl)) rfl ⟨rfl, ((Fr.refl w).alloc _).alloc _⟩

theorem rule_1_98 : RuleIs 1 98 100 0 := by
  intro w
  go_enter Tryd.func102, Tryd.ntmps102
  go_wp2
  refine bodyPost_ret (Go.results_cell_row rfl _ _ w.heap.size 110 _ (0, 0) _ rfl ((Below.heap_alloc _ _ _ (by simp)).trans (Go.heap_alloc_new _ _)) Tryd.underlying110 rfl (by kernel_rfl)) rfl ⟨rfl, ((Fr.refl w).alloc _).alloc _⟩

theorem rule_2_116 : RuleIs 2 116 10 0 := by
  intro w
  go_enter Tryd.func102, Tryd.ntmps102
  go_wp2
  refine bodyPost_ret (Go.results_cell_row rfl _ _ w.heap.size 110 _ (0, 0) _ rfl ((Below.heap_alloc _ _ _ (by simp)).trans (Go.heap_alloc_new _ _)) Tryd.underlying110 rfl (by kernel_rfl)) rfl ⟨rfl, ((Fr.refl w).alloc _).alloc _⟩

theorem rule_2_115 : RuleIs 2 115 1 1 := by
  intro w
  go_enter Tryd.func102, Tryd.ntmps102
  go_wp2
  refine bodyPost_ret (Go.results_cell_row rfl _ _ w.heap.size 110 _ (0, 0) _ rfl ((Below.heap_alloc _ _ _ (by simp)).trans (Go.heap_alloc_new _ _)) Tryd.underlying110 rfl (by kernel_rfl)) rfl ⟨rfl, ((Fr.refl w).alloc _).alloc _⟩

theorem rule_1 (c : Nat) (h1 : ((c : Int) == 112) = false) (h2 : ((c : Int) == 107) = false) (h3 : ((c : Int) == 109) = false) (h4 : ((c : Int) == 98) = false) : RuleIs 1 c 1 0 := by
  intro w
  go_enter Tryd.func102, Tryd.ntmps102
  go_wp2
  refine bodyPost_ret (Go.results_cell_row rfl _ _ w.heap.size 110 _ (0, 0) _ rfl ((Below.heap_alloc _ _ _ (by simp)).trans (Go.heap_alloc_new _ _)) Tryd.underlying110 rfl (by kernel_rfl)) rfl ⟨rfl, ((Fr.refl w).alloc _).alloc _⟩

theorem rule_2 (c : Nat) (h1 : ((c : Int) == 116) = false) (h2 : ((c : Int) == 115) = false) : RuleIs 2 c 1 0 := by
  intro w
  go_enter Tryd.func102, Tryd.ntmps102
  go_wp2
  refine bodyPost_ret (Go.results_cell_row rfl _ _ w.heap.size 110 _ (0, 0) _ rfl ((Below.heap_alloc _ _ _ (by simp)).trans (Go.heap_alloc_new _ _)) Tryd.underlying110 rfl (by kernel_rfl)) rfl ⟨rfl, ((Fr.refl w).alloc _).alloc _⟩

theorem rule_0 (v c : Nat) (h1 : ((v : Int) == 1) = false) (h2 : ((v : Int) == 2) = false) : RuleIs v c 1 0 := by
  intro w
  go_enter Tryd.func102, Tryd.ntmps102
  go_wp2
  refine bodyPost_ret (Go.results_cell_row rfl _ _ w.heap.size 110 _ (0, 0) _ rfl ((Below.heap_alloc _ _ _ (by simp)).trans (Go.heap_alloc_new _ _)) Tryd.underlying110 rfl (by kernel_rfl)) rfl ⟨rfl, ((Fr.refl w).alloc _).alloc _⟩

theorem cls_ne {c d : UInt8} (h : c ≠ d) : ((c.toNat : Int) == (d.toNat : Int)) = false := by
  rw [beq_eq_false_iff_ne]
  intro e
  exact h (UInt8.toNat_inj.1 (by exact_mod_cast e))
theorem rule_any (v : Nat) (c : UInt8) : RuleIs v c.toNat (ruleC v c).1 (ruleC v c).2 := by
  unfold ruleC
  by_cases h1 : v = 1
  · subst h1
    by_cases a1 : c = 112
    · subst a1; exact rule_1_112
    by_cases a2 : c = 107
    · subst a2; exact rule_1_107
    by_cases a3 : c = 109
    · subst a3; exact rule_1_109
    by_cases a4 : c = 98
    · subst a4; exact rule_1_98
    rw [if_neg (by simp [a1, a2, a3, a4]), if_neg (by simp), if_neg (by simp)]
    exact rule_1 c.toNat (cls_ne a1) (cls_ne a2) (cls_ne a3) (cls_ne a4)
  · by_cases h2 : v = 2
    · subst h2
      by_cases a1 : c = 116
      · subst a1; exact rule_2_116
      by_cases a2 : c = 115
      · subst a2; exact rule_2_115
      rw [if_neg (by simp), if_neg (by simp [a1]), if_neg (by simp [a2])]
      exact rule_2 c.toNat (cls_ne a1) (cls_ne a2)
    · rw [if_neg (by simp [h1]), if_neg (by simp [h2]), if_neg (by simp [h2])]
      exact rule_0 v c.toNat (by rw [beq_eq_false_iff_ne]; omega) (by rw [beq_eq_false_iff_ne]; omega)

def ruC (r : RuleS) : List Value := [.int .i64 r.fr, .int .i64 r.times, .int .i64 r.plus]
def atG (v : Nat) (old : List UInt8) : List UInt8 → Nat → Nat
  | [], a => a
  | c :: l, a => atG v old l (ruleAt v old c a).2
theorem rulesG_snoc (v : Nat) (old : List UInt8) (c : UInt8) : ∀ (l : List UInt8) (a : Nat), rulesG v old (l ++ [c]) a = rulesG v old l a ++ [(ruleAt v old c (atG v old l a)).1] ∧ atG v old (l ++ [c]) a = (ruleAt v old c (atG v old l a)).2
  | [], a => ⟨rfl, rfl⟩
  | d :: l, a => by
    obtain ⟨h1, h2⟩ := rulesG_snoc v old c l (ruleAt v old d a).2
    exact ⟨by simp only [List.cons_append, rulesG, h1, atG], by simp only [List.cons_append, atG, h2]⟩
theorem rulesG_length (v : Nat) (old : List UInt8) : ∀ (l : List UInt8) (a : Nat), (rulesG v old l a).length = l.length
  | [], _ => rfl
  | c :: l, a => by simp [rulesG, rulesG_length v old l]
theorem atG_le (v : Nat) (old : List UInt8) : ∀ (l : List UInt8) (a : Nat), a ≤ old.length → atG v old l a ≤ old.length
  | [], _, h => h
  | c :: l, a, h => atG_le v old l _ (by
    unfold ruleAt
    split
    · rename_i e
      have := (List.getElem?_eq_some_iff.1 e).1
      show a + 1 ≤ _
      omega
    · exact h)
/-- A row of rules that a call made. -/
structure RuRow (B : Nat) (w : World) (v : Value) (rs : List RuleS) : Prop where
  own : Own w 110 3 v rs.length (rs.flatMap ruC)
  new : ∀ k, v.ownBlock = some k → B ≤ k
theorem RuRow.nil (B : Nat) (w : World) : RuRow B w (.slice none 0 0) [] := ⟨Own.nil _ _ _, fun _ h => by cases h⟩
theorem RuRow.fr {B : Nat} {w w' : World} {v : Value} {rs : List RuleS} (h : RuRow B w v rs) (hf : Fr No w w') : RuRow B w' v rs := ⟨h.own.fr hf (fun _ _ => id), h.new⟩
theorem RuRow.mono {B B' : Nat} {w : World} {v : Value} {rs : List RuleS} (h : RuRow B w v rs) (hB : B' ≤ B) : RuRow B' w v rs := ⟨h.own, fun k hk => Nat.le_trans hB (h.new k hk)⟩
theorem RuRow.at_ {B : Nat} {w : World} {q : Option Addr} {n cap : Nat} {rs : List RuleS} (h : RuRow B w (.slice q n cap) rs) {i : Nat} {r : RuleS} (hr : rs[i]? = some r) :
    ∃ b, q = some ⟨b, 0, none⟩ ∧ w.cell? ⟨b, i * 3, none⟩ = some (.int .i64 r.fr) ∧ w.cell? ⟨b, i * 3 + 1, none⟩ = some (.int .i64 r.times) ∧ w.cell? ⟨b, i * 3 + 2, none⟩ = some (.int .i64 r.plus) := by
  have hi := (List.getElem?_eq_some_iff.1 hr).1
  rcases h.own.2 with ⟨h1, h2⟩ | ⟨g, cap', cur, h1, _, hg, h3, h4, h5, h6⟩
  · omega
  · have hq : q = some ⟨g, 0, none⟩ := by injection h1
    have hc := h.own.cells (g := g) (by rw [hq]; rfl)
    have key : ∀ (l : List RuleS) (i : Nat) (r : RuleS), l[i]? = some r → ∀ j, j < 3 → (l.flatMap ruC)[i * 3 + j]? = (ruC r)[j]? := by
      intro l
      induction l with
      | nil => intro i r h; simp at h
      | cons x l ih =>
        intro i r h j hj
        have hx : (ruC x).length = 3 := rfl
        rcases i with _ | i
        · simp only [List.getElem?_cons_zero, Option.some.injEq] at h
          subst h
          rw [List.flatMap_cons, List.getElem?_append_left (by omega)]
          simp
        · rw [List.flatMap_cons, List.getElem?_append_right (by omega), hx, show (i + 1) * 3 + j - 3 = i * 3 + j by omega]
          exact ih i r (by simpa using h) j hj
    have g0 := hc (i * 3 + 0) (.int .i64 r.fr) (by rw [key rs i r hr 0 (by decide)]; rfl)
    have g1 := hc (i * 3 + 1) (.int .i64 r.times) (by rw [key rs i r hr 1 (by decide)]; rfl)
    have g2 := hc (i * 3 + 2) (.int .i64 r.plus) (by rw [key rs i r hr 2 (by decide)]; rfl)
    rw [Go.WideShapes.add_plain] at g0 g1 g2
    simp only [Nat.zero_add, Nat.add_zero] at g0 g1 g2
    exact ⟨g, hq, g0, g1, g2⟩
theorem RuRow.shape {B : Nat} {w : World} {v : Value} {rs : List RuleS} (h : RuRow B w v rs) : ∃ q cap, v = .slice q rs.length cap := h.own.shape
theorem infoRu : (Tryd.prog.info? 110).map (fun i => (i.zero, i.size, i.bytes)) = some (some (.agg #[.int .i64 0, .int .i64 0, .int .i64 0]), 3, 24) := by kernel_rfl

theorem told_at {w w' : World} {x : List UInt8 × Bool × Bool} {en : Ending} (h : ToldPost w x en w') :
    ∃ q c, en = .returned (.tuple #[.slice q x.1.length c, .bool x.2.1, .bool x.2.2]) ∧ SlAt w' q (x.1.map clsV) ∧ Fr No w w' := by
  obtain ⟨L, h1, h2, h3⟩ := h
  obtain ⟨q, c, rfl⟩ := h2.shape
  simp only [List.length_map] at h1 h2 ⊢
  exact ⟨q, c, h1, h2.at_, h3⟩
/-- What Rules hands back. -/
def rulesR (v k : Nat) : List RuleS := if rulesIs v k then rulesL v k else []
def RulesPost (w : World) (v k : Nat) (en : Ending) (w' : World) : Prop :=
  ∃ q cap, en = .returned (.tuple #[.slice q (rulesR v k).length cap, .bool (rulesIs v k)]) ∧ RuRow w.heap.size w' (.slice q (rulesR v k).length cap) (rulesR v k) ∧ Fr No w w'
theorem RuRow.more {wr w4 w5 : World} {B : Nat} {o o' : Value} {rs : List RuleS} {r : RuleS} (h : RuRow B wr o rs) (hB : B ≤ w4.heap.size)
    (ho : Own w5 110 3 o' (rs.length + 1) (rs.flatMap ruC ++ ruC r)) (hn : o'.ownBlock = o.ownBlock ∨ o'.ownBlock = some w4.heap.size) : RuRow B w5 o' (rs ++ [r]) := by
  refine ⟨?_, fun k hk => ?_⟩
  · rw [List.length_append, List.flatMap_append]
    simpa using ho
  · rcases hn with hn | hn
    · exact h.new k (hn ▸ hk)
    · rw [hn] at hk
      have : w4.heap.size = k := by simpa using hk
      omega

set_option maxHeartbeats 4000000 in
set_option maxRecDepth 100000 in
theorem rules_any (v k : Nat) (w : World) (hv : v ≤ 255) (hk : k ≤ 255) (hkt : KT w) :
    Calls Tryd.prog 79 #[.int .u8 v, .int .u8 k] w (RulesPost w v k) := by
  have F1 := hid ((fields_any v k w hv hk hkt).mono fun _ _ h => told_at h)
  unfold RulesPost rulesR
  rcases his : (fieldsS v k).2.2 with _ | _
  · have e : rulesIs v k = false := by unfold rulesIs; rw [his]; rfl
    rw [e]
    rw [his] at F1
    clear e his hkt
    go_enter Tryd.func79, Tryd.ntmps79
    go_wp2_with (first | (go_at_call 72; (with_reducible refine F1.out.mono ?_); rintro e1 w1 ⟨q1, c1, rfl, S1, hf1⟩))
    go_ret2
    exact ⟨none, 0, rfl, RuRow.nil _ _, hf1⟩
  · by_cases h3 : v < 3
    · have e : rulesIs v k = true := by unfold rulesIs; rw [his]; simpa using h3
      have F2 : Hid (∀ w1, Fr No w w1 → Calls Tryd.prog 72 #[.int .u8 ((v : Int) + 1), .int .u8 k] w1 _) := hid (fun w1 h => (fields_any (v + 1) k w1 (by omega) hk (hkt.fr h)).mono fun _ _ h => told_at h)
      rw [e, if_pos rfl]
      unfold rulesL
      have hge : decide ((3 : Int) ≤ (v : Int)) = false := by simp; omega
      have hvb : (v : Int) + 1 ≤ 255 := by omega
      have l1 := fieldsS_length v k
      have l2 := fieldsS_length (v + 1) k
      rw [his] at F1
      generalize (fieldsS v k).1 = old at F1 l1 ⊢
      generalize (fieldsS (v + 1) k).1 = new at F2 l2 ⊢
      clear e his hkt
      have RU := hid (fun c => rule_any v c)
      obtain ⟨i0, hi, hz0, hz1, hz2⟩ := info_parts infoRu
      go_enter Tryd.func79, Tryd.ntmps79
      go_wp2_with (first
        | (go_at_call 72; (with_reducible refine F1.out.mono ?_); rintro e1 w1 ⟨q1, c1, rfl, S1, hf1⟩)
        | (go_at_call 72; (with_reducible refine (F2.out _ hf1).mono ?_); rintro e2 w2 ⟨q2, c2, rfl, S2, hf2⟩))
      replace S1 := S1.fr hf2
      have hF := hf1.trans hf2
      clear hf1 hf2
      have HS1 := hid S1
      have HS2 := hid S2
      clear S1 S2
      go_loopw [12, 13, 40] (fun o a i wr => ∃ m : Nat, m ≤ new.length ∧ i = .int .i64 m ∧ a = .int .i64 (atG v old (new.take m) 0) ∧ RuRow w2.heap.size wr o (rulesG v old (new.take m) 0) ∧ Fr No w2 wr) (fun _ _ i _ => new.length - (intOf i).toNat)
      case atStart => exact ⟨0, Nat.zero_le _, rfl, rfl, RuRow.nil _ _, Fr.refl _⟩
      case round =>
        obtain ⟨m, hm, rfl, rfl, hR, hf⟩ := hrel
        have hlr := rulesG_length v old (new.take m) 0
        rw [List.length_take, Nat.min_eq_left hm] at hlr
        by_cases hlt : m < new.length
        · obtain ⟨c, hc⟩ : ∃ c, new[m]? = some c := ⟨_, List.getElem?_eq_getElem hlt⟩
          obtain ⟨b2, o2, hq2, k2⟩ := (HS2.out.fr hf) m (clsV c) (by simp [hc])
          subst hq2
          have HT : new.take (m + 1) = new.take m ++ [c] := by rw [List.take_succ_eq_append_getElem hlt, (List.getElem?_eq_some_iff.1 hc).2]
          obtain ⟨hg1, hg2⟩ := rulesG_snoc v old c (new.take m) 0
          rw [← HT] at hg1 hg2
          have ha := atG_le v old (new.take m) 0 (Nat.zero_le _)
          generalize atG v old (new.take m) 0 = a at *
          generalize rulesG v old (new.take m) 0 = rs at *
          clear HT hc
          unfold ruleAt at hg1 hg2
          unfold clsV at k2
          have hd : decide ((m : Int) < (new.length : Int)) = true := by simp; omega
          have i1 : (m : Int) < (new.length : Int) := by omega
          have i2 : (0 : Int) ≤ (m : Int) := by omega
          have i4 : (m : Int) + 1 ≤ 100 := by omega
          have a3 : (0 : Int) ≤ (a : Int) := by omega
          have a4 : (a : Int) + 1 ≤ 100 := by omega
          by_cases hac : old[a]? = some c
          · rw [if_pos hac] at hg1 hg2
            simp only at hg1 hg2
            have HG1 := hid hg1
            have HG2 := hid hg2
            have hal2 : a < old.length := (List.getElem?_eq_some_iff.1 hac).1
            obtain ⟨b1, o1, hq1, k1⟩ := (HS1.out.fr hf) a (clsV c) (by simp [hac])
            subst hq1
            have hne : ((c.toNat : Int) != (c.toNat : Int)) = false := by simp
            have hEq : ((a : Int) == (old.length : Int)) = false := by rw [beq_eq_false_iff_ne]; omega
            have a2 : (a : Int) < (old.length : Int) := by omega
            unfold clsV at k1
            have RUc := hid (RU.out c)
            unfold RuleIs at RUc
            clear hg1 hg2 hac
            go_wp2_with (first
              | (go_at_call 102; (with_reducible refine (RUc.out _).mono ?_); rintro e4 w4 ⟨rfl, hf4⟩; have hown := (hR.fr ((hf4.alloc (.cells #[.int .i64 a, .int .i64 (ruleC v c).1, .int .i64 (ruleC v c).2] 110)).alloc (.cells #[.int .i64 a, .int .i64 (ruleC v c).1, .int .i64 (ruleC v c).2] 110))).own)
              | (at_builtin; refine wpList_append_fr _ rfl _ _ 106 rfl 110 i0 (.agg #[.int .i64 0, .int .i64 0, .int .i64 0]) 3 24 Tryd.underlying106 hi hz0 hz1 hz2 rfl (by decide) _ _ _ rfl hown ⟨w4.heap.size + 1, 0, none⟩ 1 1 (ruC ⟨a, (ruleC v c).1, (ruleC v c).2⟩) rfl rfl ?c1 ?c2 ?c3 ?c4 ?_))
            case c1 => intro j u hu; have h := cells_new (w4.alloc (.cells #[.int .i64 a, .int .i64 (ruleC v c).1, .int .i64 (ruleC v c).2] 110)) (ruC ⟨a, (ruleC v c).1, (ruleC v c).2⟩) 110 j u hu; simp only [World.size_alloc] at h; exact h
            case c2 => intro u hu; simp [ruC] at hu; rcases hu with rfl | rfl | rfl <;> rfl
            case c3 => unfold maxLen; omega
            case c4 => omega
            intro v' w5 ho hf5 hn5
            have hRR := hR.more (r := ⟨a, (ruleC v c).1, (ruleC v c).2⟩) (w4 := (w4.alloc (.cells #[.int .i64 a, .int .i64 (ruleC v c).1, .int .i64 (ruleC v c).2] 110)).alloc (.cells #[.int .i64 a, .int .i64 (ruleC v c).1, .int .i64 (ruleC v c).2] 110)) (by have := hf.size; have := hf4.size; simp; omega) (by rw [hlr]; exact ho) (by simpa using hn5)
            have hfE : Fr No w2 w5 := (hf.trans ((hf4.alloc (.cells #[.int .i64 a, .int .i64 (ruleC v c).1, .int .i64 (ruleC v c).2] 110)).alloc (.cells #[.int .i64 a, .int .i64 (ruleC v c).1, .int .i64 (ruleC v c).2] 110))).newOnlyS (fun g hg => hR.new g hg) hf5
            clear ho hn5 hown hf5
            go_wp2_with fail
            go_roundw
            case rel => exact ⟨m + 1, by omega, by go_num, by rw [HG2.out]; go_num, by rw [HG1.out]; exact hRR, hfE⟩
            case measure => simp [intOf]; omega
          · rw [if_neg hac] at hg1 hg2
            simp only at hg1 hg2
            have HG1 := hid hg1
            have HG2 := hid hg2
            clear hg1 hg2
            by_cases hal : a = old.length
            · have hEq : ((a : Int) == (old.length : Int)) = true := by rw [hal]; simp
              clear hac hal
              go_wp2_with (first
                | (go_at_call 101; (with_reducible refine (fresh_any c _).mono ?_); rintro e4 w4 ⟨rfl, hf4⟩; unfold ruleV; have hown := (hR.fr (hf4.trans ((Fr.refl w4).alloc (.cells #[.int .i64 (-1), .int .i64 0, .int .i64 (freshC c)] 110)))).own)
                | (at_builtin; refine wpList_append_fr _ rfl _ _ 106 rfl 110 i0 (.agg #[.int .i64 0, .int .i64 0, .int .i64 0]) 3 24 Tryd.underlying106 hi hz0 hz1 hz2 rfl (by decide) _ _ _ rfl hown ⟨w4.heap.size, 0, none⟩ 1 1 (ruC ⟨-1, 0, freshC c⟩) rfl rfl ?c1 ?c2 ?c3 ?c4 ?_))
              case c1 => exact cells_new _ (ruC ⟨-1, 0, freshC c⟩) _
              case c2 => intro u hu; simp [ruC] at hu; rcases hu with rfl | rfl | rfl <;> rfl
              case c3 => unfold maxLen; omega
              case c4 => omega
              intro v' w5 ho hf5 hn5
              have hRR := hR.more (r := ⟨-1, 0, freshC c⟩) (w4 := w4.alloc (.cells #[.int .i64 (-1), .int .i64 0, .int .i64 (freshC c)] 110)) (by have := hf.size; have := hf4.size; simp; omega) (by rw [hlr]; exact ho) (by simpa using hn5)
              have hfE : Fr No w2 w5 := (hf.trans (hf4.alloc (.cells #[.int .i64 (-1), .int .i64 0, .int .i64 (freshC c)] 110))).newOnlyS (fun g hg => hR.new g hg) hf5
              clear ho hn5 hown hf5
              go_wp2_with fail
              go_roundw
              case rel => exact ⟨m + 1, by omega, by go_num, by rw [HG2.out], by rw [HG1.out]; exact hRR, hfE⟩
              case measure => simp [intOf]; omega
            · have hal2 : a < old.length := by omega
              obtain ⟨d, hd1⟩ : ∃ d, old[a]? = some d := ⟨_, List.getElem?_eq_getElem hal2⟩
              obtain ⟨b1, o1, hq1, k1⟩ := (HS1.out.fr hf) a (clsV d) (by simp [hd1])
              subst hq1
              have hdc : d ≠ c := fun e => hac (by rw [hd1, e])
              have hne : ((d.toNat : Int) != (c.toNat : Int)) = true := by rw [bne, cls_ne hdc]; rfl
              have hEq : ((a : Int) == (old.length : Int)) = false := by rw [beq_eq_false_iff_ne]; omega
              have a2 : (a : Int) < (old.length : Int) := by omega
              unfold clsV at k1
              clear hac hal hd1 hdc
              go_wp2_with (first
                | (go_at_call 101; (with_reducible refine (fresh_any c _).mono ?_); rintro e4 w4 ⟨rfl, hf4⟩; unfold ruleV; have hown := (hR.fr (hf4.trans ((Fr.refl w4).alloc (.cells #[.int .i64 (-1), .int .i64 0, .int .i64 (freshC c)] 110)))).own)
                | (at_builtin; refine wpList_append_fr _ rfl _ _ 106 rfl 110 i0 (.agg #[.int .i64 0, .int .i64 0, .int .i64 0]) 3 24 Tryd.underlying106 hi hz0 hz1 hz2 rfl (by decide) _ _ _ rfl hown ⟨w4.heap.size, 0, none⟩ 1 1 (ruC ⟨-1, 0, freshC c⟩) rfl rfl ?c1 ?c2 ?c3 ?c4 ?_))
              case c1 => exact cells_new _ (ruC ⟨-1, 0, freshC c⟩) _
              case c2 => intro u hu; simp [ruC] at hu; rcases hu with rfl | rfl | rfl <;> rfl
              case c3 => unfold maxLen; omega
              case c4 => omega
              intro v' w5 ho hf5 hn5
              have hRR := hR.more (r := ⟨-1, 0, freshC c⟩) (w4 := w4.alloc (.cells #[.int .i64 (-1), .int .i64 0, .int .i64 (freshC c)] 110)) (by have := hf.size; have := hf4.size; simp; omega) (by rw [hlr]; exact ho) (by simpa using hn5)
              have hfE : Fr No w2 w5 := (hf.trans (hf4.alloc (.cells #[.int .i64 (-1), .int .i64 0, .int .i64 (freshC c)] 110))).newOnlyS (fun g hg => hR.new g hg) hf5
              clear ho hn5 hown hf5
              go_wp2_with fail
              go_roundw
              case rel => exact ⟨m + 1, by omega, by go_num, by rw [HG2.out], by rw [HG1.out]; exact hRR, hfE⟩
              case measure => simp [intOf]; omega
        · have hd : decide ((m : Int) < (new.length : Int)) = false := by simp; omega
          obtain rfl : m = new.length := by omega
          rw [List.take_length] at hR hlr
          have hRW := hR.mono (hF.size)
          obtain ⟨qz, cz, rfl⟩ := hR.shape
          clear hR
          have hFE := hF.trans hf
          clear hm hlr
          go_wp2_with fail
          go_ret2
          exact ⟨qz, cz, rfl, hRW, hFE⟩
    · have e : rulesIs v k = false := by unfold rulesIs; rw [his]; simpa using h3
      have hge : decide ((3 : Int) ≤ (v : Int)) = true := by simp; omega
      rw [e]
      rw [his] at F1
      clear e his hkt
      go_enter Tryd.func79, Tryd.ntmps79
      go_wp2_with (first | (go_at_call 72; (with_reducible refine F1.out.mono ?_); rintro e1 w1 ⟨q1, c1, rfl, S1, hf1⟩))
      go_ret2
      exact ⟨none, 0, rfl, RuRow.nil _ _, hf1⟩

set_option maxHeartbeats 1000000 in
theorem cloneN (q : Option Addr) (l : List Int) (cap : Nat) (w : World) (h : SlAt w q (l.map numV)) (hl : l.length ≤ 1000) :
    Calls Tryd.prog 47 #[.slice q l.length cap] w fun e w' => ∃ q' c', e = .returned (.slice q' l.length c') ∧ Rs w.heap.size w' 2 (.slice q' l.length c') (l.map numV) ∧ Fr No w w' := by
  have q22 : ∀ (w : World) (a : Option Addr) (n c : Nat), (binOp .eql 31 (.slice a n c) (.slice none 0 0)).run Tryd.prog w = .ok (.bool a.isNone) w := fun w a n c => Lib.run_eql_slice_nil w _ _ a n c 0 0 Tryd.underlying31
  rcases q with _ | a
  · obtain rfl : l = [] := by
      rcases l with _ | ⟨x, l⟩
      · rfl
      · obtain ⟨b, o, h1, _⟩ := h 0 (numV x) rfl
        cases h1
    go_enter Tryd.func47, Tryd.ntmps47
    go_wp2_with fail
    go_ret
    exact ⟨none, 0, rfl, Rs.nil _ _ _ _, Fr.refl _⟩
  · obtain ⟨i0, hi, hz0, hz1, hz2⟩ := info_parts infoI64
    have hS := Src.ofSl (P := Tryd.prog) (c := cap) Tryd.underlying31 (h.fr ((Fr.refl w).alloc (.cells #[] 2))) (num_one l)
    simp only [List.length_map] at hS
    have hle : w.heap.size ≤ (w.alloc (.cells #[] 2)).heap.size := by simp
    clear h
    go_enter Tryd.func47, Tryd.ntmps47
    go_wp2_with (at_builtin; refine wpList_append_rt rfl _ _ 31 _ rfl w.heap.size 2 i0 (.int .i64 0) 8 Tryd.underlying31 hi hz0 hz1 hz2 rfl _ [] rfl (Rs.nil _ _ _ _) hle _ _ _ rfl hS ?c3 ?c4 ?_)
    case c3 => simp only [List.length_nil]; unfold maxLen; omega
    case c4 => simp only [List.length_nil]; omega
    intro v' wA hr' hfT
    obtain ⟨q', cp', rfl⟩ := hr'.shape
    simp only [List.length_map] at hr' ⊢
    have hFA := ((Fr.refl w).alloc (.cells #[] 2)).newT (Nat.le_refl _) hfT
    clear hS
    go_wp2_with fail
    go_ret
    exact ⟨_, _, rfl, hr', hFA⟩

set_option maxHeartbeats 1000000 in
theorem cloneT (q : Option Addr) (l : List (List UInt8)) (cap : Nat) (w : World) (h : SlAt w q (l.map strV)) (hl : l.length ≤ 1000) :
    Calls Tryd.prog 48 #[.slice q l.length cap] w fun e w' => ∃ q' c', e = .returned (.slice q' l.length c') ∧ Rs w.heap.size w' 9 (.slice q' l.length c') (l.map strV) ∧ Fr No w w' := by
  have q22 : ∀ (w : World) (a : Option Addr) (n c : Nat), (binOp .eql 32 (.slice a n c) (.slice none 0 0)).run Tryd.prog w = .ok (.bool a.isNone) w := fun w a n c => Lib.run_eql_slice_nil w _ _ a n c 0 0 Tryd.underlying32
  rcases q with _ | a
  · obtain rfl : l = [] := by
      rcases l with _ | ⟨x, l⟩
      · rfl
      · obtain ⟨b, o, h1, _⟩ := h 0 (strV x) rfl
        cases h1
    go_enter Tryd.func48, Tryd.ntmps48
    go_wp2_with fail
    go_ret
    exact ⟨none, 0, rfl, Rs.nil _ _ _ _, Fr.refl _⟩
  · obtain ⟨i0, hi, hz0, hz1, hz2⟩ := info_parts infoStr
    have hS := Src.ofSl (P := Tryd.prog) (c := cap) Tryd.underlying32 (h.fr ((Fr.refl w).alloc (.cells #[] 9))) (str_one l)
    simp only [List.length_map] at hS
    have hle : w.heap.size ≤ (w.alloc (.cells #[] 9)).heap.size := by simp
    clear h
    go_enter Tryd.func48, Tryd.ntmps48
    go_wp2_with (at_builtin; refine wpList_append_rt rfl _ _ 32 _ rfl w.heap.size 9 i0 (.string ⟨#[]⟩) 16 Tryd.underlying32 hi hz0 hz1 hz2 rfl _ [] rfl (Rs.nil _ _ _ _) hle _ _ _ rfl hS ?c3 ?c4 ?_)
    case c3 => simp only [List.length_nil]; unfold maxLen; omega
    case c4 => simp only [List.length_nil]; omega
    intro v' wA hr' hfT
    obtain ⟨q', cp', rfl⟩ := hr'.shape
    simp only [List.length_map] at hr' ⊢
    have hFA := ((Fr.refl w).alloc (.cells #[] 9)).newT (Nat.le_refl _) hfT
    clear hS
    go_wp2_with fail
    go_ret
    exact ⟨_, _, rfl, hr', hFA⟩

theorem results_row_tmp {P : Program} {fn : Func} {p u : Tmp} {ty : TypeId} (h : fn.results = #[.cell p ty, .tmp u]) (tmps : Array Value) (w : World) (g : Nat) (t : TypeId) (cs : Array Value) (fr : Nat × Nat) (d : TypeDesc) (v : Value)
    (hp : tmps.getD p undef = .pointer (some ⟨g, 0, none⟩)) (hg : w.heap[g]? = some (.cells cs t fr)) (hv : tmps.getD u undef = v)
    (hu : P.underlying ty = some d) (hd : (match d with | .struct _ | .array _ _ => true | _ => false) = true) (hi : (P.info? ty).map (·.size) = some cs.size) :
    (results fn tmps).run P w = .ok (.tuple #[.agg cs, v]) w := by
  rw [results_cell_tmp h, hp, hv]
  simp [asAddr, run_loadVar_row w g t ty cs fr d hg hu hd hi, Result.andThen]
def zeroE : Ev := ⟨0, 0, [], []⟩
/-- What Up tells. -/
def upR (e : Ev) : Ev × Int := if mayS e then (if rulesIs e.v e.kind then (upS e, 0) else (zeroE, 43)) else (zeroE, 4)
def UpPost (w : World) (R : Ev × Int) (en : Ending) (w' : World) : Prop :=
  ∃ s, en = .returned (.tuple #[evV s R.1, .int .i64 R.2]) ∧ EvNew w.heap.size w' s R.1 ∧ Fr No w w'
theorem EvNew.zero (B : Nat) (w : World) : EvNew B w ⟨none, 0, none, 0⟩ zeroE := ⟨Rs.nil _ _ _ _, Rs.nil _ _ _ _⟩

set_option maxHeartbeats 4000000 in
set_option maxRecDepth 100000 in
theorem up_form (s : EvP) (e : Ev) (w : World) (he : EvAt w s e) (hkt : KT w) (hm : mayS e = false) :
    Calls Tryd.prog 49 #[evV s e] w (UpPost w (zeroE, 4)) := by
  have ME := hid (fun w1 (h : Fr No w w1) => may_any s e w1 (he.fr h) (hkt.fr h))
  rw [hm] at ME
  unfold UpPost
  have HF0 : Fr No w ((w.alloc (.cells #[.int .u8 e.v, .int .u8 e.kind, .slice s.qn e.nums.length s.cn, .slice s.qt e.texts.length s.ct] 34)).alloc (.cells #[.int .u8 0, .int .u8 0, .slice none 0 0, .slice none 0 0] 34)) := ((Fr.refl w).alloc _).alloc _
  have g1 := Go.heap_alloc_new (w.alloc (.cells #[.int .u8 e.v, .int .u8 e.kind, .slice s.qn e.nums.length s.cn, .slice s.qt e.texts.length s.ct] 34)) (.cells #[.int .u8 0, .int .u8 0, .slice none 0 0, .slice none 0 0] 34)
  simp only [World.size_alloc] at g1
  have HG := hid g1
  clear g1
  unfold evV at *
  go_enter Tryd.func49, Tryd.ntmps49
  go_wp2_with (first
    | (go_at_call 44; (with_reducible refine (ME.out _ HF0).mono ?_); rintro e1 w1 ⟨rfl, hf1⟩; obtain ⟨k0, k1, k2, k3, z0, z1, z2, z3⟩ := Go.Proofs.YtnmfmedoocnofaaDoor.cells4 (hf1.heap0 HG.out)))
  obtain ⟨hst, hfr⟩ := store4 (hf1.heap0 HG.out) (.int .u8 0) (.int .u8 0) (.slice none 0 0) (.slice none 0 0)
  refine bodyPost_ret (results_row_tmp rfl _ _ (w.heap.size + 1) 34 _ (0, 0) _ (.int .i64 4) rfl hst rfl Tryd.underlying34 rfl (by kernel_rfl)) rfl ⟨⟨none, 0, none, 0⟩, rfl, EvNew.zero _ _, (HF0.trans hf1).newOnly (Nat.le_succ _) hfr⟩
set_option maxHeartbeats 4000000 in
set_option maxRecDepth 100000 in
theorem up_version (s : EvP) (e : Ev) (w : World) (he : EvAt w s e) (hkt : KT w) (hm : mayS e = true) (hr : rulesIs e.v e.kind = false) :
    Calls Tryd.prog 49 #[evV s e] w (UpPost w (zeroE, 43)) := by
  have ME := hid (fun w1 (h : Fr No w w1) => may_any s e w1 (he.fr h) (hkt.fr h))
  rw [hm] at ME
  have RE := hid (fun w1 (h : Fr No w w1) => rules_any e.v e.kind w1 he.v8 he.k8 (hkt.fr h))
  unfold RulesPost at RE
  rw [hr] at RE
  unfold UpPost
  have HF0 : Fr No w ((w.alloc (.cells #[.int .u8 e.v, .int .u8 e.kind, .slice s.qn e.nums.length s.cn, .slice s.qt e.texts.length s.ct] 34)).alloc (.cells #[.int .u8 0, .int .u8 0, .slice none 0 0, .slice none 0 0] 34)) := ((Fr.refl w).alloc _).alloc _
  have g1 := Go.heap_alloc_new (w.alloc (.cells #[.int .u8 e.v, .int .u8 e.kind, .slice s.qn e.nums.length s.cn, .slice s.qt e.texts.length s.ct] 34)) (.cells #[.int .u8 0, .int .u8 0, .slice none 0 0, .slice none 0 0] 34)
  simp only [World.size_alloc] at g1
  have HG := hid g1
  clear g1
  have g0 : ((w.alloc (.cells #[.int .u8 e.v, .int .u8 e.kind, .slice s.qn e.nums.length s.cn, .slice s.qt e.texts.length s.ct] 34)).alloc (.cells #[.int .u8 0, .int .u8 0, .slice none 0 0, .slice none 0 0] 34)).heap[w.heap.size]? = some (.cells #[.int .u8 e.v, .int .u8 e.kind, .slice s.qn e.nums.length s.cn, .slice s.qt e.texts.length s.ct] 34 (0, 0)) := by
    rw [Below.heap_alloc _ _ _ (by simp)]; exact Go.heap_alloc_new _ _
  have HG0 := hid g0
  clear g0
  unfold evV at *
  go_enter Tryd.func49, Tryd.ntmps49
  go_wp2_with (first
    | (go_at_call 44; (with_reducible refine (ME.out _ HF0).mono ?_); rintro e1 w1 ⟨rfl, hf1⟩; obtain ⟨c0, c1, c2, c3, _, _, _, _⟩ := Go.Proofs.YtnmfmedoocnofaaDoor.cells4 (hf1.heap0 HG0.out))
    | (go_at_call 79; (with_reducible refine (RE.out _ (HF0.trans hf1)).mono ?_); rintro e2 w2 ⟨q2, p2, rfl, _, hf2⟩; replace hf1 := hf1.trans hf2; clear c0 c1 c2 c3; obtain ⟨k0, k1, k2, k3, z0, z1, z2, z3⟩ := Go.Proofs.YtnmfmedoocnofaaDoor.cells4 (hf1.heap0 HG.out)))
  obtain ⟨hst, hfr⟩ := store4 (hf1.heap0 HG.out) (.int .u8 0) (.int .u8 0) (.slice none 0 0) (.slice none 0 0)
  refine bodyPost_ret (results_row_tmp rfl _ _ (w.heap.size + 1) 34 _ (0, 0) _ (.int .i64 43) rfl hst rfl Tryd.underlying34 rfl (by kernel_rfl)) rfl ⟨⟨none, 0, none, 0⟩, rfl, EvNew.zero _ _, (HF0.trans hf1).newOnly (Nat.le_succ _) hfr⟩

/-! ### plain: the rules' numbers are small -/
def ruleSmall (n : Nat) (r : RuleS) : Bool := decide (-1 ≤ r.fr) && (decide (r.fr < n) && (decide (0 ≤ r.times) && (decide (r.times ≤ 100) && (decide (0 ≤ r.plus) && decide (r.plus ≤ 100)))))
theorem rules_small_all : ((List.range 24).all fun k => ((rulesL 1 k).all (ruleSmall (fieldsS 1 k).1.length)) && ((rulesL 2 k).all (ruleSmall (fieldsS 2 k).1.length))) = true := by decide +kernel
theorem rules_small {v k : Nat} (h : rulesIs v k = true) {r : RuleS} (hr : r ∈ rulesL v k) : -1 ≤ r.fr ∧ r.fr < (fieldsS v k).1.length ∧ 0 ≤ r.times ∧ r.times ≤ 100 ∧ 0 ≤ r.plus ∧ r.plus ≤ 100 := by
  obtain ⟨hv, _, h2, _⟩ := rulesIs_range h
  have hg := List.all_eq_true.1 rules_small_all k (List.mem_range.2 (by omega))
  rw [Bool.and_eq_true] at hg
  have hk : ruleSmall (fieldsS v k).1.length r = true := by
    rcases hv with rfl | rfl
    · exact List.all_eq_true.1 hg.1 r hr
    · exact List.all_eq_true.1 hg.2 r hr
  simpa [ruleSmall] using hk
theorem bound_small (v c : Nat) : 0 ≤ (boundS v c).1 ∧ (boundS v c).2.1 ≤ 1125899906842624 := by
  unfold boundS
  split <;> decide
theorem fits_small {v c : Nat} {n : Int} (h : fitsS v c n = true) : 0 ≤ n ∧ n ≤ 1125899906842624 := by
  have := bound_small v c
  unfold fitsS at h
  simp only [Bool.and_eq_true, decide_eq_true_eq] at h
  omega
theorem may_small {e : Ev} (hm : mayS e = true) : e.nums.length = (fieldsS e.v e.kind).1.length ∧ e.nums.length ≤ 7 ∧ e.texts.length ≤ 1 ∧ (∀ n, n ∈ e.nums → 0 ≤ n ∧ n ≤ 1125899906842624) ∧ ∀ s, s ∈ e.texts → s.length ≤ 24 := by
  obtain ⟨_, hl, hfit, ht1, ht2⟩ := mayS_parts (e := e) (l := (fieldsS e.v e.kind).1) (t := (fieldsS e.v e.kind).2.1) (i := (fieldsS e.v e.kind).2.2) rfl hm
  have h7 := fieldsS_length e.v e.kind
  refine ⟨hl.symm, by omega, ?_, fun n hn => ?_, fun s hs => ?_⟩
  · rcases ht : (fieldsS e.v e.kind).2.1 with _ | _
    · rw [ht2 ht]; exact Nat.zero_le _
    · obtain ⟨s, h1, _⟩ := ht1 ht
      rw [h1]; exact Nat.le_refl _
  · obtain ⟨j, hj⟩ := List.getElem?_of_mem hn
    have hlt := (List.getElem?_eq_some_iff.1 hj).1
    exact fits_small (hfit j _ n (List.getElem?_eq_getElem (by omega)) hj)
  · rcases ht : (fieldsS e.v e.kind).2.1 with _ | _
    · rw [ht2 ht] at hs; cases hs
    · obtain ⟨s', h1, h2⟩ := ht1 ht
      rw [h1] at hs
      obtain rfl : s = s' := by simpa using hs
      simp only [mayNameS, Bool.and_eq_true, decide_eq_true_eq] at h2
      omega
/-- An event of a box of its own that may be. -/
theorem BoxAt.may {B : Nat} {w : World} {b : Nat} {s : EvP} {e : Ev} (h : BoxAt B w b s e) (hm : mayS e = true) (hk : e.kind ≤ 255) : EvAt w s e := by
  obtain ⟨_, h1, h2, h3, h4⟩ := may_small hm
  obtain ⟨_, h5, h6⟩ := may_is hm
  exact h.at_ (by omega) hk (by omega) (by omega) (fun s hs => by have := h4 s hs; omega) (fun n hn => by have := h3 n hn; omega)
theorem EvNew.may {B : Nat} {w : World} {s : EvP} {e : Ev} (h : EvNew B w s e) (hm : mayS e = true) (hk : e.kind ≤ 255) : EvAt w s e := by
  obtain ⟨_, h1, h2, h3, h4⟩ := may_small hm
  obtain ⟨_, h5, h6⟩ := may_is hm
  exact ⟨by omega, hk, h.nums.at_, h.texts.at_, by omega, by omega, fun s hs => by have := h4 s hs; omega, fun n hn => by have := h3 n hn; omega⟩

theorem box_cells {w w' : World} {v0 v1 v2 v3 : Value} (h : Fr No (w.drew.alloc (.cells #[v0, v1, v2, v3] 34)) w') :
    w'.cell? ⟨w.heap.size, 0, none⟩ = some v0 ∧ w'.cell? ⟨w.heap.size, 1, none⟩ = some v1 ∧ w'.cell? ⟨w.heap.size, 2, none⟩ = some v2 ∧ w'.cell? ⟨w.heap.size, 3, none⟩ = some v3 ∧
    w'.frozen? ⟨w.heap.size, 0, none⟩ = false ∧ w'.frozen? ⟨w.heap.size, 1, none⟩ = false ∧ w'.frozen? ⟨w.heap.size, 2, none⟩ = false ∧ w'.frozen? ⟨w.heap.size, 3, none⟩ = false :=
  Go.Proofs.YtnmfmedoocnofaaDoor.cells4 (b := w.heap.size) (h.heap0 (Go.heap_alloc_new w.drew _))
/-- An event of its own is put into a new box. -/
theorem BoxAt.fill {B : Nat} {w1 : World} {b : Nat} {c0 c1 c2 c3 : Value} {s : EvP} {e : Ev} (hb : w1.heap[b]? = some (.cells #[c0, c1, c2, c3] 34 (0, 0))) (hB : B ≤ b) (hn : EvNew B w1 s e) :
    BoxAt B ((((w1.setCell ⟨b, 0, none⟩ (.int .u8 e.v)).setCell ⟨b, 1, none⟩ (.int .u8 e.kind)).setCell ⟨b, 2, none⟩ (.slice s.qn e.nums.length s.cn)).setCell ⟨b, 3, none⟩ (.slice s.qt e.texts.length s.ct)) b s e ∧
    Fr (Only b) w1 ((((w1.setCell ⟨b, 0, none⟩ (.int .u8 e.v)).setCell ⟨b, 1, none⟩ (.int .u8 e.kind)).setCell ⟨b, 2, none⟩ (.slice s.qn e.nums.length s.cn)).setCell ⟨b, 3, none⟩ (.slice s.qt e.texts.length s.ct)) := by
  obtain ⟨h1, h2⟩ := store4 hb (.int .u8 e.v) (.int .u8 e.kind) (.slice s.qn e.nums.length s.cn) (.slice s.qt e.texts.length s.ct)
  exact ⟨⟨hB, h1, hn.only hb h2⟩, h2⟩
theorem Fr.setNew {w w' : World} (h : Fr No w w') {p : Addr} (hp : w.heap.size ≤ p.block) (u : Value) : Fr No w (w'.setCell p u) := h.setCell (.inr hp) u
theorem two_keep {W w' : World} {b : Nat} {v0 v1 v2 v3 : Value} (c0 : W.cell? ⟨b, 0, none⟩ = some v0) (c1 : W.cell? ⟨b, 1, none⟩ = some v1) (c2 : W.cell? ⟨b, 2, none⟩ = some v2) (c3 : W.cell? ⟨b, 3, none⟩ = some v3) (hF : Fr No W w') :
    Fr No W w' ∧ w'.cell? ⟨b, 0, none⟩ = some v0 ∧ w'.cell? ⟨b, 1, none⟩ = some v1 ∧ w'.cell? ⟨b, 2, none⟩ = some v2 ∧ w'.cell? ⟨b, 3, none⟩ = some v3 := ⟨hF, hF.cell0 c0, hF.cell0 c1, hF.cell0 c2, hF.cell0 c3⟩
set_option maxHeartbeats 4000000 in
set_option maxRecDepth 100000 in
theorem up_ok (s : EvP) (e : Ev) (w : World) (he : EvAt w s e) (hkt : KT w) (hm : mayS e = true) (hr : rulesIs e.v e.kind = true) :
    Calls Tryd.prog 49 #[evV s e] w (UpPost w (upS e, 0)) := by
  have ME := hid (fun w1 (h : Fr No w w1) => may_any s e w1 (he.fr h) (hkt.fr h))
  rw [hm] at ME
  have RE := hid (fun w1 (h : Fr No w w1) => rules_any e.v e.kind w1 he.v8 he.k8 (hkt.fr h))
  unfold RulesPost rulesR at RE
  rw [hr, if_pos rfl] at RE
  obtain ⟨hl7, hn7, ht1, hnr, htr⟩ := may_small hm
  have CT := hid (fun w1 (h : Fr No w w1) => cloneT s.qt e.texts s.ct w1 (he.texts.fr h) (by omega))
  have hrs := fun r (h : r ∈ rulesL e.v e.kind) => rules_small hr h
  rw [← hl7] at hrs
  have HRS := hid hrs
  have hup : (upS e) = ⟨e.v + 1, e.kind, upN (rulesL e.v e.kind) e.nums, e.texts⟩ := rfl
  rw [hup]
  have hrl : (rulesL e.v e.kind).length ≤ 7 := by rw [(rules_fact hr).2.2.2.1]; exact fieldsS_length _ _
  generalize rulesL e.v e.kind = rs at RE HRS hrl ⊢
  clear hrs hup
  unfold UpPost
  have HF0 : Fr No w ((w.alloc (.cells #[.int .u8 e.v, .int .u8 e.kind, .slice s.qn e.nums.length s.cn, .slice s.qt e.texts.length s.ct] 34)).alloc (.cells #[.int .u8 0, .int .u8 0, .slice none 0 0, .slice none 0 0] 34)) := ((Fr.refl w).alloc _).alloc _
  have g1 := Go.heap_alloc_new (w.alloc (.cells #[.int .u8 e.v, .int .u8 e.kind, .slice s.qn e.nums.length s.cn, .slice s.qt e.texts.length s.ct] 34)) (.cells #[.int .u8 0, .int .u8 0, .slice none 0 0, .slice none 0 0] 34)
  simp only [World.size_alloc] at g1
  have HG := hid g1
  clear g1
  have g0 : ((w.alloc (.cells #[.int .u8 e.v, .int .u8 e.kind, .slice s.qn e.nums.length s.cn, .slice s.qt e.texts.length s.ct] 34)).alloc (.cells #[.int .u8 0, .int .u8 0, .slice none 0 0, .slice none 0 0] 34)).heap[w.heap.size]? = some (.cells #[.int .u8 e.v, .int .u8 e.kind, .slice s.qn e.nums.length s.cn, .slice s.qt e.texts.length s.ct] 34 (0, 0)) := by
    rw [Below.heap_alloc _ _ _ (by simp)]; exact Go.heap_alloc_new _ _
  have HG0 := hid g0
  clear g0
  have hv2 := (rulesIs_range hr).1
  have hv : (e.v : Int) + 1 ≤ 255 := by omega
  have HM := hid hm
  have HR := hid hr
  have HL7 := hid hl7
  have HNR := hid hnr
  have HE := hid he
  clear hm hr hl7 hnr htr he hv2 hkt
  unfold evV at *
  go_enter Tryd.func49, Tryd.ntmps49
  go_upto_region 6 with (first
    | (go_at_call 44; (with_reducible refine (ME.out _ HF0).mono ?_); rintro e1 w1 ⟨rfl, hf1⟩; obtain ⟨c0, c1, c2, c3, _, _, _, _⟩ := Go.Proofs.YtnmfmedoocnofaaDoor.cells4 (hf1.heap0 HG0.out))
    | (go_at_call 79; (with_reducible refine (RE.out _ (HF0.trans hf1)).mono ?_); rintro e2 w2 ⟨q2, p2, rfl, hR2, hf2⟩; replace hf1 := hf1.trans hf2; clear c0 c1 c2 c3; obtain ⟨c0, c1, c2, c3, _, _, _, _⟩ := Go.Proofs.YtnmfmedoocnofaaDoor.cells4 (hf1.heap0 HG0.out)))
  have HW : Fr No w w2 := HF0.trans hf1
  have hRR := hR2
  have hwr : IntKind.u8.wrap ((e.v : Int) + 1) = ((e.v + 1 : Nat) : Int) := by rw [IntWalk.u8_in _ (by omega)]; omega
  go_cut [6] from 25 (fun x w' => Fr No w2 w' ∧ ∃ b s', x = .pointer (some ⟨b, 0, none⟩) ∧ BoxAt w2.heap.size w' b s' ⟨e.v + 1, e.kind, [], e.texts⟩)
  case first =>
    go_region_held3 (fun w' => Fr No w2 w' ∧ w'.cell? ⟨w.heap.size, 0, none⟩ = some (.int .u8 e.v) ∧ w'.cell? ⟨w.heap.size, 1, none⟩ = some (.int .u8 e.kind) ∧ w'.cell? ⟨w.heap.size, 2, none⟩ = some (.slice s.qn e.nums.length s.cn) ∧ w'.cell? ⟨w.heap.size, 3, none⟩ = some (.slice s.qt e.texts.length s.ct))
      ((go_split_ands; refine two_keep c0 c1 c2 c3 ?_; repeat (first | exact Fr.refl _ | assumption | refine Fr.drew ?_ | refine Fr.alloc ?_ _ | refine Fr.setNew ?_ (by first | exact Nat.le_refl _ | exact hF3.size) _)))
      (first | (go_at_call 48; (with_reducible refine (CT.out _ (HW.trans (by repeat (first | exact Fr.refl _ | assumption | refine Fr.drew ?_ | refine Fr.alloc ?_ _)))).mono ?_); rintro e3 w3 ⟨q3, p3, rfl, hr3, hf3⟩; have hF3 : Fr No w2 w3 := Fr.trans (by repeat (first | exact Fr.refl _ | assumption | refine Fr.drew ?_ | refine Fr.alloc ?_ _)) hf3; (first | (have hg3 := box_cells hf3; obtain ⟨k0, k1, k2, k3, f0, f1, f2, f3⟩ := hg3) | skip)))
    · have hB := BoxAt.made (w := w2) (s := ⟨none, 0, q3, p3⟩) (e := ⟨e.v + 1, e.kind, [], e.texts⟩) hF3 ⟨Rs.nil _ _ _ _, hr3.mono (Nat.le_refl _)⟩
      have HB := hid hB
      clear hB hr3
      go_wp2_with fail
      go_meet
      case rel => exact ⟨HB.out.2, _, _, rfl, HB.out.1⟩
    · have hB := BoxAt.fill (w1 := w3) (b := w2.heap.size) (B := w2.heap.size) (s := ⟨none, 0, q3, p3⟩) (e := ⟨e.v + 1, e.kind, [], e.texts⟩) (hf3.heap0 (Go.heap_alloc_new w2.drew _)) (Nat.le_refl _) ⟨Rs.nil _ _ _ _, hr3.mono (by simp)⟩
      have HB := hid hB
      clear hB hr3
      go_wp2_with fail
      go_meet
      case rel => exact ⟨hF3.newOnly (Nat.le_refl _) HB.out.2, _, _, rfl, HB.out.1⟩
  obtain ⟨h23, b, s', rfl, hB⟩ := hcut
  rename World => w4
  have HW4 : Fr No w w4 := HW.trans h23
  have C4 := hid (fun w5 (h : Fr No w2 w5) => (⟨h.cell0 c0, h.cell0 c1, h.cell0 c2, h.cell0 c3⟩ : _ ∧ _ ∧ _ ∧ _))
  have NU := hid (fun w5 (h : Fr No w2 w5) => HE.out.nums.fr (HW.trans h))
  have RR := hid (fun w5 (h : Fr No w2 w5) i r (hr : rs[i]? = some r) => (hRR.fr h).at_ hr)
  clear c0 c1 c2 c3 hRR hR2
  go_wp2_with fail
  go_loopw [36] (fun i wr => ∃ (m : Nat) (s2 : EvP), m ≤ rs.length ∧ i = .int .i64 m ∧ BoxAt w2.heap.size wr b s2 ⟨e.v + 1, e.kind, (upN rs e.nums).take m, e.texts⟩ ∧ Fr No w2 wr) (fun i _ => rs.length - (intOf i).toNat)
  case atStart => exact ⟨0, _, Nat.zero_le _, rfl, hB, h23⟩
  case round =>
    obtain ⟨m, s2, hm, rfl, hbx, hf⟩ := hrel
    by_cases hlt : m < rs.length
    · obtain ⟨r, hr⟩ : ∃ r, rs[m]? = some r := ⟨_, List.getElem?_eq_getElem hlt⟩
      obtain ⟨br, hq, r0, r1, r2⟩ := RR.out _ hf m r hr
      subst hq
      obtain ⟨b1, b2, b3, b4, b5, b6⟩ := HRS.out r (List.mem_of_getElem? hr)
      have hT : (upN rs e.nums).take (m + 1) = (upN rs e.nums).take m ++ [upNum e.nums r] := by
        have h1 : (upN rs e.nums)[m]? = some (upNum e.nums r) := by unfold upN; rw [List.getElem?_map, hr]; rfl
        have h2 := (List.getElem?_eq_some_iff.1 h1)
        rw [List.take_succ_eq_append_getElem h2.1, h2.2]
      have htl : ((upN rs e.nums).take m).length = m := by unfold upN; simp; omega
      generalize (upN rs e.nums).take m = L at hT hbx htl
      have HT := hid hT
      subst htl
      clear hT hr
      obtain ⟨k0, k1, k2, k3, f0, f1, f2, f3⟩ := hbx.cells4
      obtain ⟨d0, d1, d2, d3⟩ := C4.out _ hf
      obtain ⟨i0, hi, hz0, hz1, hz2⟩ := info_parts infoI64
      have blt := hbx.lt
      have blo := hbx.lo
      have i1 : (L.length : Int) < (rs.length : Int) := by omega
      have i2 : (0 : Int) ≤ (L.length : Int) := by omega
      have i4 : (L.length : Int) + 1 ≤ 100 := by omega
      have HBX := hid hbx
      clear hbx
      by_cases hfr : 0 ≤ r.fr
      · obtain ⟨j, hj⟩ := Int.eq_ofNat_of_zero_le hfr
        have hjl : j < e.nums.length := by omega
        obtain ⟨x, hx⟩ : ∃ x, e.nums[j]? = some x := ⟨_, List.getElem?_eq_getElem hjl⟩
        have hN : upNum e.nums r = r.plus + r.times * x := by unfold upNum; rw [if_pos hfr, hj]; simp [hx]
        obtain ⟨bn, on, hqn, kn⟩ := NU.out wr hf j (numV x) (by simp [hx])
        have hxr := HNR.out x (List.mem_of_getElem? hx)
        have m1 : 0 ≤ r.times * x := Int.mul_nonneg b3 hxr.1
        have m2 : r.times * x ≤ 100 * 1125899906842624 := Int.mul_le_mul b4 hxr.2 hxr.1 (by omega)
        have w1q : IntKind.i64.wrap (r.times * x) = r.times * x := IntWalk.i64_in _ (by omega)
        have w2q : IntKind.i64.wrap (r.plus + r.times * x) = r.plus + r.times * x := IntWalk.i64_in _ (by omega)
        have j1 : (j : Int) < (e.nums.length : Int) := by omega
        have j2 : (0 : Int) ≤ (j : Int) := by omega
        rw [hqn] at d2
        rw [hj] at r0
        rw [hN] at HT
        unfold numV at kn
        have wl : w.heap.size < wr.heap.size := World.block_lt_of_cell? wr _ d0
        have nl : bn < wr.heap.size := World.block_lt_of_cell? wr _ kn
        clear hN hfr hx hxr hj hqn b1 b2 b3 b4 b5 b6 m1 m2
        go_upto_region 12 with fail
        go_quiet (fail)

        go_wp2_with (first
          | (at_builtin; refine wpList_append_rt rfl _ _ 31 _ rfl w2.heap.size 2 i0 (.int .i64 0) 8 Tryd.underlying31 hi hz0 hz1 hz2 rfl _ (L.map numV) rfl ?c1 ?c2 _ 1 [numV (r.plus + r.times * x)] rfl ?c5 ?c3 ?c4 ?_))
        case c1 => exact HBX.out.new.nums.fr0 (w' := (((wr.alloc (.cells #[.int .i64 j, .int .i64 r.times, .int .i64 r.plus] 110)).drewN nq).alloc (.cells #[.int .i64 (r.plus + r.times * x)] 2))) (by repeat (first | exact Fr.refl _ | refine Fr.drew ?_ | refine Fr.drewN ?_ _ | refine Fr.alloc ?_ _))
        case c5 =>
          refine Src.ofSlice _ Tryd.underlying31 ⟨_, 0, none⟩ 1 1 [numV (r.plus + r.times * x)] rfl (fun jj u hu => ?_) (by intro u hu; simp at hu; subst hu; rfl)
          have h := cells_new ((wr.alloc (.cells #[.int .i64 j, .int .i64 r.times, .int .i64 r.plus] 110)).drewN nq) [numV (r.plus + r.times * x)] 2 jj u hu
          simp only [heap_drewN, World.size_alloc] at h
          exact h
        case c2 => have := hf.size; simp; omega
        case c3 => unfold maxLen; omega
        case c4 => omega
        intro v' wA hr' hfT
        have e9 : L.map numV ++ [numV (r.plus + r.times * x)] = (L ++ [r.plus + r.times * x]).map numV := by simp
        rw [e9] at hr'
        obtain ⟨q', cp', rfl⟩ := hr'.shape
        have hA : BoxAt w2.heap.size (((wr.alloc (.cells #[.int .i64 j, .int .i64 r.times, .int .i64 r.plus] 110)).drewN nq).alloc (.cells #[.int .i64 (r.plus + r.times * x)] 2)) b s2 _ := HBX.out.fr (by repeat (first | exact Fr.refl _ | refine Fr.drew ?_ | refine Fr.drewN ?_ _ | refine Fr.alloc ?_ _))
        have hS := hA.setN hfT (by simp) hr'
        obtain ⟨y0, y1, y2, y3, g0, g1, g2, g3⟩ := Go.Proofs.YtnmfmedoocnofaaDoor.cells4 (hfT.heapT (by decide) hA.cells)
        have HS := hid hS
        have hFE : Fr No w2 wA := (hf.trans (b := wr) (c := (((wr.alloc (.cells #[.int .i64 j, .int .i64 r.times, .int .i64 r.plus] 110)).drewN nq).alloc (.cells #[.int .i64 (r.plus + r.times * x)] 2))) (by repeat (first | exact Fr.refl _ | refine Fr.drew ?_ | refine Fr.drewN ?_ _ | refine Fr.alloc ?_ _))).newT (Nat.le_refl _) hfT
        simp only [List.length_map, List.length_append, List.length_cons, List.length_nil, Nat.zero_add] at HS ⊢
        clear e9 hr' hfT hA hS k0 k1 k2 k3 f0 f1 f2 f3
        go_wp2_with fail
        go_roundw
        case rel => exact ⟨L.length + 1, _, by omega, by go_num, by rw [HT.out]; exact HS.out, hFE.newOnly blo ((Fr.refl _).set_only _ _)⟩
        case measure => simp [intOf]; omega
      · have hfd : decide ((0 : Int) ≤ r.fr) = false := by simpa using hfr
        have hN : upNum e.nums r = r.plus := by unfold upNum; rw [if_neg hfr]
        rw [hN] at HT
        clear hN hfr
        go_wp2_with (first
          | (at_builtin; refine wpList_append_rt rfl _ _ 31 _ rfl w2.heap.size 2 i0 (.int .i64 0) 8 Tryd.underlying31 hi hz0 hz1 hz2 rfl _ (L.map numV) rfl ?c1 ?c2 _ 1 [numV r.plus] rfl ?c5 ?c3 ?c4 ?_))
        case c1 => exact HBX.out.new.nums.fr0 (w' := ((wr.alloc (.cells #[.int .i64 r.fr, .int .i64 r.times, .int .i64 r.plus] 110)).alloc (.cells #[.int .i64 (r.plus)] 2))) (by repeat (first | exact Fr.refl _ | refine Fr.drew ?_ | refine Fr.drewN ?_ _ | refine Fr.alloc ?_ _))
        case c5 =>
          refine Src.ofSlice _ Tryd.underlying31 ⟨_, 0, none⟩ 1 1 [numV (r.plus)] rfl (fun jj u hu => ?_) (by intro u hu; simp at hu; subst hu; rfl)
          have h := cells_new (wr.alloc (.cells #[.int .i64 r.fr, .int .i64 r.times, .int .i64 r.plus] 110)) [numV (r.plus)] 2 jj u hu
          simp only [World.size_alloc] at h
          exact h
        case c2 => have := hf.size; simp; omega
        case c3 => unfold maxLen; omega
        case c4 => omega
        intro v' wA hr' hfT
        have e9 : L.map numV ++ [numV (r.plus)] = (L ++ [r.plus]).map numV := by simp
        rw [e9] at hr'
        obtain ⟨q', cp', rfl⟩ := hr'.shape
        have hA : BoxAt w2.heap.size ((wr.alloc (.cells #[.int .i64 r.fr, .int .i64 r.times, .int .i64 r.plus] 110)).alloc (.cells #[.int .i64 (r.plus)] 2)) b s2 _ := HBX.out.fr (by repeat (first | exact Fr.refl _ | refine Fr.drew ?_ | refine Fr.drewN ?_ _ | refine Fr.alloc ?_ _))
        have hS := hA.setN hfT (by simp) hr'
        obtain ⟨y0, y1, y2, y3, g0, g1, g2, g3⟩ := Go.Proofs.YtnmfmedoocnofaaDoor.cells4 (hfT.heapT (by decide) hA.cells)
        have HS := hid hS
        have hFE : Fr No w2 wA := (hf.trans (b := wr) (c := ((wr.alloc (.cells #[.int .i64 r.fr, .int .i64 r.times, .int .i64 r.plus] 110)).alloc (.cells #[.int .i64 (r.plus)] 2))) (by repeat (first | exact Fr.refl _ | refine Fr.drew ?_ | refine Fr.drewN ?_ _ | refine Fr.alloc ?_ _))).newT (Nat.le_refl _) hfT
        simp only [List.length_map, List.length_append, List.length_cons, List.length_nil, Nat.zero_add] at HS ⊢
        clear e9 hr' hfT hA hS k0 k1 k2 k3 f0 f1 f2 f3
        go_wp2_with fail
        go_roundw
        case rel => exact ⟨L.length + 1, _, by omega, by go_num, by rw [HT.out]; exact HS.out, hFE.newOnly blo ((Fr.refl _).set_only _ _)⟩
        case measure => simp [intOf]; omega
    · have hd : decide (m < rs.length) = false := by simp; omega
      have hl : (upN rs e.nums).length ≤ m := by unfold upN; simp; omega
      have hl2 : (upN rs e.nums).take m = upN rs e.nums := List.take_of_length_le hl
      rw [hl2] at hbx
      obtain ⟨k0, k1, k2, k3, f0, f1, f2, f3⟩ := hbx.cells4
      have HBX := hid hbx
      have HGr := hid (hf.heap0 ((hf1.heap0 HG.out)))
      clear hl hl2 hlt hbx
      obtain ⟨z0, z1, z2, z3, y0, y1, y2, y3⟩ := Go.Proofs.YtnmfmedoocnofaaDoor.cells4 HGr.out
      go_wp2_with fail
      have hst := BoxAt.fill (w1 := wr) (b := w.heap.size + 1) (B := w.heap.size) (s := s2) (e := ⟨e.v + 1, e.kind, upN rs e.nums, e.texts⟩) HGr.out (Nat.le_succ _) (HBX.out.new.mono HW.size)
      refine bodyPost_ret (results_row_tmp rfl _ _ (w.heap.size + 1) 34 _ (0, 0) _ (.int .i64 0) rfl hst.1.cells rfl Tryd.underlying34 rfl (by kernel_rfl)) rfl ⟨s2, rfl, hst.1.new, (HW.trans hf).newOnly (Nat.le_succ _) hst.2⟩
/-- Up, whatever event it is given. -/
theorem up_any (s : EvP) (e : Ev) (w : World) (he : EvAt w s e) (hkt : KT w) : Calls Tryd.prog 49 #[evV s e] w (UpPost w (upR e)) := by
  unfold upR
  rcases hm : mayS e with _ | _
  · rw [if_neg (by simp)]
    exact up_form s e w he hkt hm
  · rw [if_pos rfl]
    rcases hr : rulesIs e.v e.kind with _ | _
    · rw [if_neg (by simp)]
      exact up_version s e w he hkt hm hr
    · rw [if_pos rfl]
      exact up_ok s e w he hkt hm hr
end Go.Proofs.YtnmfmedoocnofaaDoor
