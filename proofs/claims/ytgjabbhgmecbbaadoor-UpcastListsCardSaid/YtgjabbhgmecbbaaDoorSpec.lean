/-
  The events and what may be, in plain words: no statement of the seat is proved here. No conditions.
-/
import Derived.Test.YtgjabbhgmecbbaaDoorFits
import Derived.Test.YtgjabbhgmecbbaaDoorEvent
import Derived.Test.YtgjabbhgmecbbaaDoorMayName
namespace Go.Proofs.YtgjabbhgmecbbaaDoor
open Go.RowKit

def fieldT (r : RowT) (v : Nat) : List UInt8 := if v = 1 then r.f1 else if v = 2 then r.f2 else r.f3
/-- What a row has in a version. -/
def toldS (r : RowT) (v : Nat) : List UInt8 × Bool × Bool :=
  if v = 0 ∨ 3 < v then ([], false, false) else if fieldT r v = [32] then ([], false, false) else (fieldT r v, r.text, true)
def fieldsS (v k : Nat) : List UInt8 × Bool × Bool := toldS (eventT k) v
def commandT (k : Nat) : RowT := if k = 0 then noRow else (commandsT[k - 1]?).getD noRow
def commandS (k : Nat) : List UInt8 × Bool × Bool := toldS (commandT k) 3
/-- A row whose fields are ASCII, blanks alone or none. -/
def RowOk (r : RowT) : Bool := [r.f1, r.f2, r.f3].all fun f => f == [32] || f.all fun c => decide (c.toNat < 128) && decide (c.toNat ≠ 32)
theorem rowOk_event (k : Nat) : RowOk (eventT k) = true := by
  unfold eventT
  split
  · decide
  · rcases h : kindsT[k - 1]? with _ | r
    · decide
    · have hall : kindsT.all RowOk = true := by decide
      exact List.all_eq_true.1 hall r (List.mem_of_getElem? h)
theorem rowOk_command (k : Nat) : RowOk (commandT k) = true := by
  unfold commandT
  split
  · decide
  · rcases h : commandsT[k - 1]? with _ | r
    · decide
    · have hall : commandsT.all RowOk = true := by decide
      exact List.all_eq_true.1 hall r (List.mem_of_getElem? h)
theorem RowOk.field {r : RowT} (h : RowOk r = true) (v : Nat) : fieldT r v = [32] ∨ ∀ i (hi : i < (fieldT r v).length), (fieldT r v)[i].toNat < 128 ∧ (fieldT r v)[i].toNat ≠ 32 := by
  simp only [RowOk, List.all_cons, List.all_nil, Bool.and_true, Bool.and_eq_true, Bool.or_eq_true, beq_iff_eq, List.all_eq_true, decide_eq_true_eq] at h
  have key : ∀ f : List UInt8, (f = [32] ∨ ∀ x, x ∈ f → x.toNat < 128 ∧ x.toNat ≠ 32) → (f = [32] ∨ ∀ i (hi : i < f.length), f[i].toNat < 128 ∧ f[i].toNat ≠ 32) := by
    intro f hf
    rcases hf with hf | hf
    · exact .inl hf
    · exact .inr fun i hi => hf _ (List.getElem_mem hi)
  unfold fieldT
  split
  · exact key _ h.1
  · split
    · exact key _ h.2.1
    · exact key _ h.2.2

structure Ev where
  v : Nat
  kind : Nat
  nums : List Int
  texts : List (List UInt8)
deriving DecidableEq

def allS (v : Nat) (l : List UInt8) (n : List Int) : Bool := decide (l.length = n.length) && (l.zip n).all fun p => fitsS v p.1.toNat p.2
def oneName : List (List UInt8) → Bool
  | [s] => mayNameS s
  | _ => false
def mayS (e : Ev) : Bool :=
  (fieldsS e.v e.kind).2.2 && (allS e.v (fieldsS e.v e.kind).1 e.nums && (if (fieldsS e.v e.kind).2.1 then oneName e.texts else e.texts.isEmpty))

/-! ### a slice's cells -/
/-- The cells of a slice, wherever it lies. -/
def SlAt (w : World) (q : Option Addr) (xs : List Value) : Prop := ∀ i x, xs[i]? = some x → ∃ b o, q = some ⟨b, o, none⟩ ∧ w.cell? ⟨b, o + i, none⟩ = some x
theorem SlAt.fr {w w' : World} {q : Option Addr} {xs : List Value} (h : SlAt w q xs) (hf : Fr No w w') : SlAt w' q xs := fun i x hx => by
  obtain ⟨b, o, hq, hc⟩ := h i x hx
  exact ⟨b, o, hq, hf.cell0 hc⟩
theorem SlAt.nil (w : World) (q : Option Addr) : SlAt w q [] := fun i x hx => by simp at hx

def clsV (c : UInt8) : Value := .int .u8 (c.toNat : Int)
def numV (n : Int) : Value := .int .i64 n

/-- An owned row that lies from block B on. -/
structure Res (B : Nat) (w : World) (t : TypeId) (v : Value) (xs : List Value) : Prop where
  own : Own w t 1 v xs.length xs
  new : ∀ k, v.ownBlock = some k → B ≤ k
theorem Res.nil (B : Nat) (w : World) (t : TypeId) : Res B w t (.slice none 0 0) [] := ⟨Own.nil _ _ _, fun _ h => by cases h⟩
theorem Res.fr {B : Nat} {w w' : World} {t : TypeId} {v : Value} {xs : List Value} (h : Res B w t v xs) (hf : Fr No w w') : Res B w' t v xs := ⟨h.own.fr hf (fun _ _ => id), h.new⟩
theorem Res.mono {B B' : Nat} {w : World} {t : TypeId} {v : Value} {xs : List Value} (h : Res B w t v xs) (hB : B' ≤ B) : Res B' w t v xs := ⟨h.own, fun k hk => Nat.le_trans hB (h.new k hk)⟩
theorem Res.shape {B : Nat} {w : World} {t : TypeId} {v : Value} {xs : List Value} (h : Res B w t v xs) : ∃ q cap, v = .slice q xs.length cap := h.own.shape
theorem Res.at_ {B : Nat} {w : World} {t : TypeId} {q : Option Addr} {n cap : Nat} {xs : List Value} (h : Res B w t (.slice q n cap) xs) : SlAt w q xs := by
  intro i x hx
  rcases h.own.2 with ⟨h1, h2⟩ | ⟨g, cap', cur, h1, hb, hg, h3, h4, h5, h6⟩
  · have := h.own.1
    rw [h2] at this
    have hlt := (List.getElem?_eq_some_iff.1 hx).1
    omega
  · have hq : q = some ⟨g, 0, none⟩ := by injection h1
    refine ⟨g, 0, hq, ?_⟩
    have := h.own.cells (g := g) (by rw [hq]; rfl)
    subst hq
    have hc := this i x hx
    have hadd : (⟨g, 0, none⟩ : Addr).add i = ⟨g, 0 + i, none⟩ := by unfold Addr.add; split <;> simp_all
    rwa [hadd] at hc

end Go.Proofs.YtgjabbhgmecbbaaDoor
