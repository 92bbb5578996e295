/-
  upcast: the rule of a class, and of a fresh one. No statement of the seat is proved here. upcast.Rules: how a kind goes to the next version. No statement of the seat is proved here. upcast.Rules: the walk. No statement of the seat is proved here.
-/
import Derived.Test.YtgjabbhgmecbbaaDoorUp
import Derived.Laws.Rows
import Derived.Test.YtgjabbhgmecbbaaDoorRs
import Derived.BigQuiet
import Derived.Test.YtgjabbhgmecbbaaDoorRFields
namespace Go.Proofs.YtgjabbhgmecbbaaDoor
open Go.RowKit

def ruleV (r : RuleS) : Value := .agg #[.int .i64 r.fr, .int .i64 r.times, .int .i64 r.plus]

set_option maxHeartbeats 1000000 in
theorem fresh_any (c : UInt8) (w : World) :
    Calls Tryd.prog 46 #[.int .u8 (c.toNat : Int)] w fun e w' => e = .returned (ruleV ⟨-1, 0, freshC c⟩) ∧ Fr No w w' := by
  unfold ruleV freshC
  by_cases h : c = 122
  · subst h
    have e : ((122 : UInt8).toNat : Int) = 122 := rfl
    rw [e]
    go_enter Tryd.func46, Tryd.ntmps46
    go_wp2
    refine bodyPost_ret (Go.results_cell_row rfl _ _ w.heap.size 57 _ (0, 0) _ rfl (Go.heap_alloc_new _ _) Tryd.underlying57 rfl (by kernel_rfl)) rfl ⟨rfl, (Fr.refl w).alloc _⟩
  · have hb : ((c.toNat : Int) == 122) = false := by
      rw [beq_eq_false_iff_ne]
      intro e
      exact h (UInt8.toNat_inj.1 (by exact_mod_cast e))
    rw [if_neg h]
    clear h
    go_enter Tryd.func46, Tryd.ntmps46
    go_wp2
    refine bodyPost_ret (Go.results_cell_row rfl _ _ w.heap.size 57 _ (0, 0) _ rfl (Go.heap_alloc_new _ _) Tryd.underlying57 rfl (by kernel_rfl)) rfl ⟨rfl, (Fr.refl w).alloc _⟩

def RuleIs (v c t p : Int) : Prop := ∀ w : World, Calls Tryd.prog 47 #[.int .u8 v, .int .u8 c] w fun e w' => e = .returned (.agg #[.int .i64 0, .int .i64 t, .int .i64 p]) ∧ Fr No w w'
theorem rule_1_112 : RuleIs 1 112 100 0 := by
  intro w
  go_enter Tryd.func47, Tryd.ntmps47
  go_wp2
  refine bodyPost_ret (Go.results_cell_row rfl _ _ w.heap.size 57 _ (0, 0) _ rfl ((Below.heap_alloc _ _ _ (by simp)).trans (Go.heap_alloc_new _ _)) Tryd.underlying57 rfl (by kernel_rfl)) rfl ⟨rfl, ((Fr.refl w).alloc _).alloc _⟩

theorem rule_1_107 : RuleIs 1 107 100 0 := by
  intro w
  go_enter Tryd.func47, Tryd.ntmps47
  go_wp2
  refine bodyPost_ret (Go.results_cell_row rfl _ _ w.heap.size 57 _ (0, 0) _ rfl ((Below.heap_alloc _ _ _ (by simp)).trans (Go.heap_alloc_new _ _)) Tryd.underlying57 rfl (by kernel_rfl)) rfl ⟨rfl, ((Fr.refl w).alloc _).alloc _⟩

theorem rule_1_109 : RuleIs 1 109 100 0 := by
  intro w
  go_enter Tryd.func47, Tryd.ntmps47
  go_wp2
  refine bodyPost_ret (Go.results_cell_row rfl _ _ w.heap.size 57 _ (0, 0) _ rfl ((Below.heap_alloc _ _ _ (by simp)).trans (Go.heap_alloc_new _ _)) Tryd.underlying57 rfl (by kernel_rfl)) rfl ⟨rfl, ((Fr.refl w).alloc _).alloc _⟩

theorem rule_1_98 : RuleIs 1 98 100 0 := by
  intro w
  go_enter Tryd.func47, Tryd.ntmps47
  go_wp2
  refine bodyPost_ret (Go.results_cell_row rfl _ _ w.heap.size 57 _ (0, 0) _ rfl ((Below.heap_alloc _ _ _ (by simp)).trans (Go.heap_alloc_new _ _)) Tryd.underlying57 rfl (by kernel_rfl)) rfl ⟨rfl, ((Fr.refl w).alloc _).alloc _⟩

theorem rule_2_116 : RuleIs 2 116 10 0 := by
  intro w
  go_enter Tryd.func47, Tryd.ntmps47
  go_wp2
  refine bodyPost_ret (Go.results_cell_row rfl _ _ w.heap.size 57 _ (0, 0) _ rfl ((Below.heap_alloc _ _ _ (by simp)).trans (Go.heap_alloc_new _ _)) Tryd.underlying57 rfl (by kernel_rfl)) rfl ⟨rfl, ((Fr.refl w).alloc _).alloc _⟩

theorem rule_2_115 : RuleIs 2 115 1 1 := by
  intro w
  go_enter Tryd.func47, Tryd.ntmps47
  go_wp2
  refine bodyPost_ret (Go.results_cell_row rfl _ _ w.heap.size 57 _ (0, 0) _ rfl ((Below.heap_alloc _ _ _ (by simp)).trans (Go.heap_alloc_new _ _)) Tryd.underlying57 rfl (by kernel_rfl)) rfl ⟨rfl, ((Fr.refl w).alloc _).alloc _⟩

theorem rule_1 (c : Nat) (h1 : ((c : Int) == 112) = false) (h2 : ((c : Int) == 107) = false) (h3 : ((c : Int) == 109) = false) (h4 : ((c : Int) == 98) = false) : RuleIs 1 c 1 0 := by
  intro w
  go_enter Tryd.func47, Tryd.ntmps47
  go_wp2
  refine bodyPost_ret (Go.results_cell_row rfl _ _ w.heap.size 57 _ (0, 0) _ rfl ((Below.heap_alloc _ _ _ (by simp)).trans (Go.heap_alloc_new _ _)) Tryd.underlying57 rfl (by kernel_rfl)) rfl ⟨rfl, ((Fr.refl w).alloc _).alloc _⟩

theorem rule_2 (c : Nat) (h1 : ((c : Int) == 116) = false) (h2 : ((c : Int) == 115) = false) : RuleIs 2 c 1 0 := by
  intro w
  go_enter Tryd.func47, Tryd.ntmps47
  go_wp2
  refine bodyPost_ret (Go.results_cell_row rfl _ _ w.heap.size 57 _ (0, 0) _ rfl ((Below.heap_alloc _ _ _ (by simp)).trans (Go.heap_alloc_new _ _)) Tryd.underlying57 rfl (by kernel_rfl)) rfl ⟨rfl, ((Fr.refl w).alloc _).alloc _⟩

theorem rule_0 (v c : Nat) (h1 : ((v : Int) == 1) = false) (h2 : ((v : Int) == 2) = false) : RuleIs v c 1 0 := by
  intro w
  go_enter Tryd.func47, Tryd.ntmps47
  go_wp2
  refine bodyPost_ret (Go.results_cell_row rfl _ _ w.heap.size 57 _ (0, 0) _ rfl ((Below.heap_alloc _ _ _ (by simp)).trans (Go.heap_alloc_new _ _)) Tryd.underlying57 rfl (by kernel_rfl)) rfl ⟨rfl, ((Fr.refl w).alloc _).alloc _⟩

theorem cls_ne {c d : UInt8} (h : c ≠ d) : ((c.toNat : Int) == (d.toNat : Int)) = false := by
  rw [beq_eq_false_iff_ne]
  intro e
  exact h (UInt8.toNat_inj.1 (by exact_mod_cast e))
theorem rule_any (v : Nat) (c : UInt8) : RuleIs v c.toNat (ruleC v c).1 (ruleC v c).2 := by
  unfold ruleC
  by_cases h1 : v = 1
  · subst h1
    by_cases a1 : c = 112
    · subst a1; exact rule_1_112
    by_cases a2 : c = 107
    · subst a2; exact rule_1_107
    by_cases a3 : c = 109
    · subst a3; exact rule_1_109
    by_cases a4 : c = 98
    · subst a4; exact rule_1_98
    rw [if_neg (by simp [a1, a2, a3, a4]), if_neg (by simp), if_neg (by simp)]
    exact rule_1 c.toNat (cls_ne a1) (cls_ne a2) (cls_ne a3) (cls_ne a4)
  · by_cases h2 : v = 2
    · subst h2
      by_cases a1 : c = 116
      · subst a1; exact rule_2_116
      by_cases a2 : c = 115
      · subst a2; exact rule_2_115
      rw [if_neg (by simp), if_neg (by simp [a1]), if_neg (by simp [a2])]
      exact rule_2 c.toNat (cls_ne a1) (cls_ne a2)
    · rw [if_neg (by simp [h1]), if_neg (by simp [h2]), if_neg (by simp [h2])]
      exact rule_0 v c.toNat (by rw [beq_eq_false_iff_ne]; omega) (by rw [beq_eq_false_iff_ne]; omega)

def ruC (r : RuleS) : List Value := [.int .i64 r.fr, .int .i64 r.times, .int .i64 r.plus]
def atG (v : Nat) (old : List UInt8) : List UInt8 → Nat → Nat
  | [], a => a
  | c :: l, a => atG v old l (ruleAt v old c a).2
theorem rulesG_snoc (v : Nat) (old : List UInt8) (c : UInt8) : ∀ (l : List UInt8) (a : Nat), rulesG v old (l ++ [c]) a = rulesG v old l a ++ [(ruleAt v old c (atG v old l a)).1] ∧ atG v old (l ++ [c]) a = (ruleAt v old c (atG v old l a)).2
  | [], a => ⟨rfl, rfl⟩
  | d :: l, a => by
    obtain ⟨h1, h2⟩ := rulesG_snoc v old c l (ruleAt v old d a).2
    exact ⟨by simp only [List.cons_append, rulesG, h1, atG], by simp only [List.cons_append, atG, h2]⟩
theorem rulesG_length (v : Nat) (old : List UInt8) : ∀ (l : List UInt8) (a : Nat), (rulesG v old l a).length = l.length
  | [], _ => rfl
  | c :: l, a => by simp [rulesG, rulesG_length v old l]
theorem atG_le (v : Nat) (old : List UInt8) : ∀ (l : List UInt8) (a : Nat), a ≤ old.length → atG v old l a ≤ old.length
  | [], _, h => h
  | c :: l, a, h => atG_le v old l _ (by
    unfold ruleAt
    split
    · rename_i e
      have := (List.getElem?_eq_some_iff.1 e).1
      show a + 1 ≤ _
      omega
    · exact h)
/-- A row of rules that a call made. -/
structure RuRow (B : Nat) (w : World) (v : Value) (rs : List RuleS) : Prop where
  own : Own w 57 3 v rs.length (rs.flatMap ruC)
  new : ∀ k, v.ownBlock = some k → B ≤ k
theorem RuRow.nil (B : Nat) (w : World) : RuRow B w (.slice none 0 0) [] := ⟨Own.nil _ _ _, fun _ h => by cases h⟩
theorem RuRow.fr {B : Nat} {w w' : World} {v : Value} {rs : List RuleS} (h : RuRow B w v rs) (hf : Fr No w w') : RuRow B w' v rs := ⟨h.own.fr hf (fun _ _ => id), h.new⟩
theorem RuRow.mono {B B' : Nat} {w : World} {v : Value} {rs : List RuleS} (h : RuRow B w v rs) (hB : B' ≤ B) : RuRow B' w v rs := ⟨h.own, fun k hk => Nat.le_trans hB (h.new k hk)⟩
theorem RuRow.at_ {B : Nat} {w : World} {q : Option Addr} {n cap : Nat} {rs : List RuleS} (h : RuRow B w (.slice q n cap) rs) {i : Nat} {r : RuleS} (hr : rs[i]? = some r) :
    ∃ b, q = some ⟨b, 0, none⟩ ∧ w.cell? ⟨b, i * 3, none⟩ = some (.int .i64 r.fr) ∧ w.cell? ⟨b, i * 3 + 1, none⟩ = some (.int .i64 r.times) ∧ w.cell? ⟨b, i * 3 + 2, none⟩ = some (.int .i64 r.plus) := by
  have hi := (List.getElem?_eq_some_iff.1 hr).1
  rcases h.own.2 with ⟨h1, h2⟩ | ⟨g, cap', cur, h1, _, hg, h3, h4, h5, h6⟩
  · omega
  · have hq : q = some ⟨g, 0, none⟩ := by injection h1
    have hc := h.own.cells (g := g) (by rw [hq]; rfl)
    have key : ∀ (l : List RuleS) (i : Nat) (r : RuleS), l[i]? = some r → ∀ j, j < 3 → (l.flatMap ruC)[i * 3 + j]? = (ruC r)[j]? := by
      intro l
      induction l with
      | nil => intro i r h; simp at h
      | cons x l ih =>
        intro i r h j hj
        have hx : (ruC x).length = 3 := rfl
        rcases i with _ | i
        · simp only [List.getElem?_cons_zero, Option.some.injEq] at h
          subst h
          rw [List.flatMap_cons, List.getElem?_append_left (by omega)]
          simp
        · rw [List.flatMap_cons, List.getElem?_append_right (by omega), hx, show (i + 1) * 3 + j - 3 = i * 3 + j by omega]
          exact ih i r (by simpa using h) j hj
    have g0 := hc (i * 3 + 0) (.int .i64 r.fr) (by rw [key rs i r hr 0 (by decide)]; rfl)
    have g1 := hc (i * 3 + 1) (.int .i64 r.times) (by rw [key rs i r hr 1 (by decide)]; rfl)
    have g2 := hc (i * 3 + 2) (.int .i64 r.plus) (by rw [key rs i r hr 2 (by decide)]; rfl)
    rw [Go.WideShapes.add_plain] at g0 g1 g2
    simp only [Nat.zero_add, Nat.add_zero] at g0 g1 g2
    exact ⟨g, hq, g0, g1, g2⟩
theorem RuRow.shape {B : Nat} {w : World} {v : Value} {rs : List RuleS} (h : RuRow B w v rs) : ∃ q cap, v = .slice q rs.length cap := h.own.shape
theorem infoRu : (Tryd.prog.info? 57).map (fun i => (i.zero, i.size, i.bytes)) = some (some (.agg #[.int .i64 0, .int .i64 0, .int .i64 0]), 3, 24) := by kernel_rfl

theorem told_at {w w' : World} {x : List UInt8 × Bool × Bool} {en : Ending} (h : ToldPost w x en w') :
    ∃ q c, en = .returned (.tuple #[.slice q x.1.length c, .bool x.2.1, .bool x.2.2]) ∧ SlAt w' q (x.1.map clsV) ∧ Fr No w w' := by
  obtain ⟨L, h1, h2, h3⟩ := h
  obtain ⟨q, c, rfl⟩ := h2.shape
  simp only [List.length_map] at h1 h2 ⊢
  exact ⟨q, c, h1, h2.at_, h3⟩
/-- What Rules hands back. -/
def rulesR (v k : Nat) : List RuleS := if rulesIs v k then rulesL v k else []
def RulesPost (w : World) (v k : Nat) (en : Ending) (w' : World) : Prop :=
  ∃ q cap, en = .returned (.tuple #[.slice q (rulesR v k).length cap, .bool (rulesIs v k)]) ∧ RuRow w.heap.size w' (.slice q (rulesR v k).length cap) (rulesR v k) ∧ Fr No w w'
theorem RuRow.more {wr w4 w5 : World} {B : Nat} {o o' : Value} {rs : List RuleS} {r : RuleS} (h : RuRow B wr o rs) (hB : B ≤ w4.heap.size)
    (ho : Own w5 57 3 o' (rs.length + 1) (rs.flatMap ruC ++ ruC r)) (hn : o'.ownBlock = o.ownBlock ∨ o'.ownBlock = some w4.heap.size) : RuRow B w5 o' (rs ++ [r]) := by
  refine ⟨?_, fun k hk => ?_⟩
  · rw [List.length_append, List.flatMap_append]
    simpa using ho
  · rcases hn with hn | hn
    · exact h.new k (hn ▸ hk)
    · rw [hn] at hk
      have : w4.heap.size = k := by simpa using hk
      omega

set_option maxHeartbeats 4000000 in
set_option maxRecDepth 100000 in
theorem rules_any (v k : Nat) (w : World) (hv : v ≤ 255) (hk : k ≤ 255) (hkt : KT w) :
    Calls Tryd.prog 35 #[.int .u8 v, .int .u8 k] w (RulesPost w v k) := by
  have F1 := hid ((fields_any v k w hv hk hkt).mono fun _ _ h => told_at h)
  unfold RulesPost rulesR
  rcases his : (fieldsS v k).2.2 with _ | _
  · have e : rulesIs v k = false := by unfold rulesIs; rw [his]; rfl
    rw [e]
    rw [his] at F1
    clear e his hkt
    go_enter Tryd.func35, Tryd.ntmps35
    go_wp2_with (first | (go_at_call 38; (with_reducible refine F1.out.mono ?_); rintro e1 w1 ⟨q1, c1, rfl, S1, hf1⟩))
    go_ret2
    exact ⟨none, 0, rfl, RuRow.nil _ _, hf1⟩
  · by_cases h3 : v < 3
    · have e : rulesIs v k = true := by unfold rulesIs; rw [his]; simpa using h3
      have F2 : Hid (∀ w1, Fr No w w1 → Calls Tryd.prog 38 #[.int .u8 ((v : Int) + 1), .int .u8 k] w1 _) := hid (fun w1 h => (fields_any (v + 1) k w1 (by omega) hk (hkt.fr h)).mono fun _ _ h => told_at h)
      rw [e, if_pos rfl]
      unfold rulesL
      have hge : decide ((3 : Int) ≤ (v : Int)) = false := by simp; omega
      have hvb : (v : Int) + 1 ≤ 255 := by omega
      have l1 := fieldsS_length v k
      have l2 := fieldsS_length (v + 1) k
      rw [his] at F1
      generalize (fieldsS v k).1 = old at F1 l1 ⊢
      generalize (fieldsS (v + 1) k).1 = new at F2 l2 ⊢
      clear e his hkt
      have RU := hid (fun c => rule_any v c)
      obtain ⟨i0, hi, hz0, hz1, hz2⟩ := info_parts infoRu
      go_enter Tryd.func35, Tryd.ntmps35
      go_wp2_with (first
        | (go_at_call 38; (with_reducible refine F1.out.mono ?_); rintro e1 w1 ⟨q1, c1, rfl, S1, hf1⟩)
        | (go_at_call 38; (with_reducible refine (F2.out _ hf1).mono ?_); rintro e2 w2 ⟨q2, c2, rfl, S2, hf2⟩))
      replace S1 := S1.fr hf2
      have hF := hf1.trans hf2
      clear hf1 hf2
      have HS1 := hid S1
      have HS2 := hid S2
      clear S1 S2
      go_loopw [12, 13, 40] (fun o a i wr => ∃ m : Nat, m ≤ new.length ∧ i = .int .i64 m ∧ a = .int .i64 (atG v old (new.take m) 0) ∧ RuRow w2.heap.size wr o (rulesG v old (new.take m) 0) ∧ Fr No w2 wr) (fun _ _ i _ => new.length - (intOf i).toNat)
      case atStart => exact ⟨0, Nat.zero_le _, rfl, rfl, RuRow.nil _ _, Fr.refl _⟩
      case round =>
        obtain ⟨m, hm, rfl, rfl, hR, hf⟩ := hrel
        have hlr := rulesG_length v old (new.take m) 0
        rw [List.length_take, Nat.min_eq_left hm] at hlr
        by_cases hlt : m < new.length
        · obtain ⟨c, hc⟩ : ∃ c, new[m]? = some c := ⟨_, List.getElem?_eq_getElem hlt⟩
          obtain ⟨b2, o2, hq2, k2⟩ := (HS2.out.fr hf) m (clsV c) (by simp [hc])
          subst hq2
          have HT : new.take (m + 1) = new.take m ++ [c] := by rw [List.take_succ_eq_append_getElem hlt, (List.getElem?_eq_some_iff.1 hc).2]
          obtain ⟨hg1, hg2⟩ := rulesG_snoc v old c (new.take m) 0
          rw [← HT] at hg1 hg2
          have ha := atG_le v old (new.take m) 0 (Nat.zero_le _)
          generalize atG v old (new.take m) 0 = a at *
          generalize rulesG v old (new.take m) 0 = rs at *
          clear HT hc
          unfold ruleAt at hg1 hg2
          unfold clsV at k2
          have hd : decide ((m : Int) < (new.length : Int)) = true := by simp; omega
          have i1 : (m : Int) < (new.length : Int) := by omega
          have i2 : (0 : Int) ≤ (m : Int) := by omega
          have i4 : (m : Int) + 1 ≤ 100 := by omega
          have a3 : (0 : Int) ≤ (a : Int) := by omega
          have a4 : (a : Int) + 1 ≤ 100 := by omega
          by_cases hac : old[a]? = some c
          · rw [if_pos hac] at hg1 hg2
            simp only at hg1 hg2
            have HG1 := hid hg1
            have HG2 := hid hg2
            have hal2 : a < old.length := (List.getElem?_eq_some_iff.1 hac).1
            obtain ⟨b1, o1, hq1, k1⟩ := (HS1.out.fr hf) a (clsV c) (by simp [hac])
            subst hq1
            have hne : ((c.toNat : Int) != (c.toNat : Int)) = false := by simp
            have hEq : ((a : Int) == (old.length : Int)) = false := by rw [beq_eq_false_iff_ne]; omega
            have a2 : (a : Int) < (old.length : Int) := by omega
            unfold clsV at k1
            have RUc := hid (RU.out c)
            unfold RuleIs at RUc
            clear hg1 hg2 hac
            go_wp2_with (first
              | (go_at_call 47; (with_reducible refine (RUc.out _).mono ?_); rintro e4 w4 ⟨rfl, hf4⟩; have hown := (hR.fr ((hf4.alloc (.cells #[.int .i64 a, .int .i64 (ruleC v c).1, .int .i64 (ruleC v c).2] 57)).alloc (.cells #[.int .i64 a, .int .i64 (ruleC v c).1, .int .i64 (ruleC v c).2] 57))).own)
              | (at_builtin; refine wpList_append_fr _ rfl _ _ 53 rfl 57 i0 (.agg #[.int .i64 0, .int .i64 0, .int .i64 0]) 3 24 Tryd.underlying53 hi hz0 hz1 hz2 rfl (by decide) _ _ _ rfl hown ⟨w4.heap.size + 1, 0, none⟩ 1 1 (ruC ⟨a, (ruleC v c).1, (ruleC v c).2⟩) rfl rfl ?c1 ?c2 ?c3 ?c4 ?_))
            case c1 => intro j u hu; have h := cells_new (w4.alloc (.cells #[.int .i64 a, .int .i64 (ruleC v c).1, .int .i64 (ruleC v c).2] 57)) (ruC ⟨a, (ruleC v c).1, (ruleC v c).2⟩) 57 j u hu; simp only [World.size_alloc] at h; exact h
            case c2 => intro u hu; simp [ruC] at hu; rcases hu with rfl | rfl | rfl <;> rfl
            case c3 => unfold maxLen; omega
            case c4 => omega
            intro v' w5 ho hf5 hn5
            have hRR := hR.more (r := ⟨a, (ruleC v c).1, (ruleC v c).2⟩) (w4 := (w4.alloc (.cells #[.int .i64 a, .int .i64 (ruleC v c).1, .int .i64 (ruleC v c).2] 57)).alloc (.cells #[.int .i64 a, .int .i64 (ruleC v c).1, .int .i64 (ruleC v c).2] 57)) (by have := hf.size; have := hf4.size; simp; omega) (by rw [hlr]; exact ho) (by simpa using hn5)
            have hfE : Fr No w2 w5 := (hf.trans ((hf4.alloc (.cells #[.int .i64 a, .int .i64 (ruleC v c).1, .int .i64 (ruleC v c).2] 57)).alloc (.cells #[.int .i64 a, .int .i64 (ruleC v c).1, .int .i64 (ruleC v c).2] 57))).newOnlyS (fun g hg => hR.new g hg) hf5
            clear ho hn5 hown hf5
            go_wp2_with fail
            go_roundw
            case rel => exact ⟨m + 1, by omega, by go_num, by rw [HG2.out]; go_num, by rw [HG1.out]; exact hRR, hfE⟩
            case measure => simp [intOf]; omega
          · rw [if_neg hac] at hg1 hg2
            simp only at hg1 hg2
            have HG1 := hid hg1
            have HG2 := hid hg2
            clear hg1 hg2
            by_cases hal : a = old.length
            · have hEq : ((a : Int) == (old.length : Int)) = true := by rw [hal]; simp
              clear hac hal
              go_wp2_with (first
                | (go_at_call 46; (with_reducible refine (fresh_any c _).mono ?_); rintro e4 w4 ⟨rfl, hf4⟩; unfold ruleV; have hown := (hR.fr (hf4.trans ((Fr.refl w4).alloc (.cells #[.int .i64 (-1), .int .i64 0, .int .i64 (freshC c)] 57)))).own)
                | (at_builtin; refine wpList_append_fr _ rfl _ _ 53 rfl 57 i0 (.agg #[.int .i64 0, .int .i64 0, .int .i64 0]) 3 24 Tryd.underlying53 hi hz0 hz1 hz2 rfl (by decide) _ _ _ rfl hown ⟨w4.heap.size, 0, none⟩ 1 1 (ruC ⟨-1, 0, freshC c⟩) rfl rfl ?c1 ?c2 ?c3 ?c4 ?_))
              case c1 => exact cells_new _ (ruC ⟨-1, 0, freshC c⟩) _
              case c2 => intro u hu; simp [ruC] at hu; rcases hu with rfl | rfl | rfl <;> rfl
              case c3 => unfold maxLen; omega
              case c4 => omega
              intro v' w5 ho hf5 hn5
              have hRR := hR.more (r := ⟨-1, 0, freshC c⟩) (w4 := w4.alloc (.cells #[.int .i64 (-1), .int .i64 0, .int .i64 (freshC c)] 57)) (by have := hf.size; have := hf4.size; simp; omega) (by rw [hlr]; exact ho) (by simpa using hn5)
              have hfE : Fr No w2 w5 := (hf.trans (hf4.alloc (.cells #[.int .i64 (-1), .int .i64 0, .int .i64 (freshC c)] 57))).newOnlyS (fun g hg => hR.new g hg) hf5
              clear ho hn5 hown hf5
              go_wp2_with fail
              go_roundw
              case rel => exact ⟨m + 1, by omega, by go_num, by rw [HG2.out], by rw [HG1.out]; exact hRR, hfE⟩
              case measure => simp [intOf]; omega
            · have hal2 : a < old.length := by omega
              obtain ⟨d, hd1⟩ : ∃ d, old[a]? = some d := ⟨_, List.getElem?_eq_getElem hal2⟩
              obtain ⟨b1, o1, hq1, k1⟩ := (HS1.out.fr hf) a (clsV d) (by simp [hd1])
              subst hq1
              have hdc : d ≠ c := fun e => hac (by rw [hd1, e])
              have hne : ((d.toNat : Int) != (c.toNat : Int)) = true := by rw [bne, cls_ne hdc]; rfl
              have hEq : ((a : Int) == (old.length : Int)) = false := by rw [beq_eq_false_iff_ne]; omega
              have a2 : (a : Int) < (old.length : Int) := by omega
              unfold clsV at k1
              clear hac hal hd1 hdc
              go_wp2_with (first
                | (go_at_call 46; (with_reducible refine (fresh_any c _).mono ?_); rintro e4 w4 ⟨rfl, hf4⟩; unfold ruleV; have hown := (hR.fr (hf4.trans ((Fr.refl w4).alloc (.cells #[.int .i64 (-1), .int .i64 0, .int .i64 (freshC c)] 57)))).own)
                | (at_builtin; refine wpList_append_fr _ rfl _ _ 53 rfl 57 i0 (.agg #[.int .i64 0, .int .i64 0, .int .i64 0]) 3 24 Tryd.underlying53 hi hz0 hz1 hz2 rfl (by decide) _ _ _ rfl hown ⟨w4.heap.size, 0, none⟩ 1 1 (ruC ⟨-1, 0, freshC c⟩) rfl rfl ?c1 ?c2 ?c3 ?c4 ?_))
              case c1 => exact cells_new _ (ruC ⟨-1, 0, freshC c⟩) _
              case c2 => intro u hu; simp [ruC] at hu; rcases hu with rfl | rfl | rfl <;> rfl
              case c3 => unfold maxLen; omega
              case c4 => omega
              intro v' w5 ho hf5 hn5
              have hRR := hR.more (r := ⟨-1, 0, freshC c⟩) (w4 := w4.alloc (.cells #[.int .i64 (-1), .int .i64 0, .int .i64 (freshC c)] 57)) (by have := hf.size; have := hf4.size; simp; omega) (by rw [hlr]; exact ho) (by simpa using hn5)
              have hfE : Fr No w2 w5 := (hf.trans (hf4.alloc (.cells #[.int .i64 (-1), .int .i64 0, .int .i64 (freshC c)] 57))).newOnlyS (fun g hg => hR.new g hg) hf5
              clear ho hn5 hown hf5
              go_wp2_with fail
              go_roundw
              case rel => exact ⟨m + 1, by omega, by go_num, by rw [HG2.out], by rw [HG1.out]; exact hRR, hfE⟩
              case measure => simp [intOf]; omega
        · have hd : decide ((m : Int) < (new.length : Int)) = false := by simp; omega
          obtain rfl : m = new.length := by omega
          rw [List.take_length] at hR hlr
          have hRW := hR.mono (hF.size)
          obtain ⟨qz, cz, rfl⟩ := hR.shape
          clear hR
          have hFE := hF.trans hf
          clear hm hlr
          go_wp2_with fail
          go_ret2
          exact ⟨qz, cz, rfl, hRW, hFE⟩
    · have e : rulesIs v k = false := by unfold rulesIs; rw [his]; simpa using h3
      have hge : decide ((3 : Int) ≤ (v : Int)) = true := by simp; omega
      rw [e]
      rw [his] at F1
      clear e his hkt
      go_enter Tryd.func35, Tryd.ntmps35
      go_wp2_with (first | (go_at_call 38; (with_reducible refine F1.out.mono ?_); rintro e1 w1 ⟨q1, c1, rfl, S1, hf1⟩))
      go_ret2
      exact ⟨none, 0, rfl, RuRow.nil _ _, hf1⟩
end Go.Proofs.YtgjabbhgmecbbaaDoor
