/-
  upcast.Rules: how a kind goes to the next version. No statement of the seat is proved here.
-/
import Derived.Test.YtgjabbhgmecbbaaDoorUpRule
import Derived.Test.YtgjabbhgmecbbaaDoorRs
import Derived.BigQuiet
namespace Go.Proofs.YtgjabbhgmecbbaaDoor
open Go.RowKit

def ruC (r : RuleS) : List Value := [.int .i64 r.fr, .int .i64 r.times, .int .i64 r.plus]
def atG (v : Nat) (old : List UInt8) : List UInt8 → Nat → Nat
  | [], a => a
  | c :: l, a => atG v old l (ruleAt v old c a).2
theorem rulesG_snoc (v : Nat) (old : List UInt8) (c : UInt8) : ∀ (l : List UInt8) (a : Nat), rulesG v old (l ++ [c]) a = rulesG v old l a ++ [(ruleAt v old c (atG v old l a)).1] ∧ atG v old (l ++ [c]) a = (ruleAt v old c (atG v old l a)).2
  | [], a => ⟨rfl, rfl⟩
  | d :: l, a => by
    obtain ⟨h1, h2⟩ := rulesG_snoc v old c l (ruleAt v old d a).2
    exact ⟨by simp only [List.cons_append, rulesG, h1, atG], by simp only [List.cons_append, atG, h2]⟩
theorem rulesG_length (v : Nat) (old : List UInt8) : ∀ (l : List UInt8) (a : Nat), (rulesG v old l a).length = l.length
  | [], _ => rfl
  | c :: l, a => by simp [rulesG, rulesG_length v old l]
theorem atG_le (v : Nat) (old : List UInt8) : ∀ (l : List UInt8) (a : Nat), a ≤ old.length → atG v old l a ≤ old.length
  | [], _, h => h
  | c :: l, a, h => atG_le v old l _ (by
    unfold ruleAt
    split
    · rename_i e
      have := (List.getElem?_eq_some_iff.1 e).1
      show a + 1 ≤ _
      omega
    · exact h)
/-- A row of rules that a call made. -/
structure RuRow (B : Nat) (w : World) (v : Value) (rs : List RuleS) : Prop where
  own : Own w 57 3 v rs.length (rs.flatMap ruC)
  new : ∀ k, v.ownBlock = some k → B ≤ k
theorem RuRow.nil (B : Nat) (w : World) : RuRow B w (.slice none 0 0) [] := ⟨Own.nil _ _ _, fun _ h => by cases h⟩
theorem RuRow.fr {B : Nat} {w w' : World} {v : Value} {rs : List RuleS} (h : RuRow B w v rs) (hf : Fr No w w') : RuRow B w' v rs := ⟨h.own.fr hf (fun _ _ => id), h.new⟩
theorem RuRow.mono {B B' : Nat} {w : World} {v : Value} {rs : List RuleS} (h : RuRow B w v rs) (hB : B' ≤ B) : RuRow B' w v rs := ⟨h.own, fun k hk => Nat.le_trans hB (h.new k hk)⟩
theorem RuRow.at_ {B : Nat} {w : World} {q : Option Addr} {n cap : Nat} {rs : List RuleS} (h : RuRow B w (.slice q n cap) rs) {i : Nat} {r : RuleS} (hr : rs[i]? = some r) :
    ∃ b, q = some ⟨b, 0, none⟩ ∧ w.cell? ⟨b, i * 3, none⟩ = some (.int .i64 r.fr) ∧ w.cell? ⟨b, i * 3 + 1, none⟩ = some (.int .i64 r.times) ∧ w.cell? ⟨b, i * 3 + 2, none⟩ = some (.int .i64 r.plus) := by
  have hi := (List.getElem?_eq_some_iff.1 hr).1
  rcases h.own.2 with ⟨h1, h2⟩ | ⟨g, cap', cur, h1, _, hg, h3, h4, h5, h6⟩
  · omega
  · have hq : q = some ⟨g, 0, none⟩ := by injection h1
    have hc := h.own.cells (g := g) (by rw [hq]; rfl)
    have key : ∀ (l : List RuleS) (i : Nat) (r : RuleS), l[i]? = some r → ∀ j, j < 3 → (l.flatMap ruC)[i * 3 + j]? = (ruC r)[j]? := by
      intro l
      induction l with
      | nil => intro i r h; simp at h
      | cons x l ih =>
        intro i r h j hj
        have hx : (ruC x).length = 3 := rfl
        rcases i with _ | i
        · simp only [List.getElem?_cons_zero, Option.some.injEq] at h
          subst h
          rw [List.flatMap_cons, List.getElem?_append_left (by omega)]
          simp
        · rw [List.flatMap_cons, List.getElem?_append_right (by omega), hx, show (i + 1) * 3 + j - 3 = i * 3 + j by omega]
          exact ih i r (by simpa using h) j hj
    have g0 := hc (i * 3 + 0) (.int .i64 r.fr) (by rw [key rs i r hr 0 (by decide)]; rfl)
    have g1 := hc (i * 3 + 1) (.int .i64 r.times) (by rw [key rs i r hr 1 (by decide)]; rfl)
    have g2 := hc (i * 3 + 2) (.int .i64 r.plus) (by rw [key rs i r hr 2 (by decide)]; rfl)
    rw [Go.WideShapes.add_plain] at g0 g1 g2
    simp only [Nat.zero_add, Nat.add_zero] at g0 g1 g2
    exact ⟨g, hq, g0, g1, g2⟩
theorem RuRow.shape {B : Nat} {w : World} {v : Value} {rs : List RuleS} (h : RuRow B w v rs) : ∃ q cap, v = .slice q rs.length cap := h.own.shape
theorem infoRu : (Tryd.prog.info? 57).map (fun i => (i.zero, i.size, i.bytes)) = some (some (.agg #[.int .i64 0, .int .i64 0, .int .i64 0]), 3, 24) := by kernel_rfl
end Go.Proofs.YtgjabbhgmecbbaaDoor
