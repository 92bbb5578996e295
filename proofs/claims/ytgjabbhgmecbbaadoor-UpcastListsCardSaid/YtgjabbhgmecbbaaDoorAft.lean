/-
  A region that draws its order, whose operations read and whose calls write to no old block: one walk serves every order.
-/
import Derived.Test.YtgjabbhgmecbbaaDoorBase
import Derived.BigQuiet
import Derived.Deep.Cut
namespace Go.Proofs.YtgjabbhgmecbbaaDoor
open Go.RowKit

/-- A world behind w: no old block was turned. -/
structure Aft (w : World) where
  val : World
  h : Fr No w val
instance (w : World) : Inhabited (Aft w) := ⟨⟨w, Fr.refl w⟩⟩

theorem wp_region_aft {P : Program} {id : Nat} {Q : Exit → Act → World → Prop} {a : Act} {w : World} {l : List Oper} (hm : P.follows .mixedOrders = true) (hB : Region.lexB .any l.toArray = true)
    (h : wpQuiet P l.toArray (fun w' => ∃ x : Aft w, w' = x.val) (fun a' => ∀ w', (∃ x : Aft w, w' = x.val) → Q .normal a' w') l a) : (Code.region id l.toArray true).wp P Q a w :=
  wp_region_quiet (C := fun w' => ∃ x : Aft w, w' = x.val) hm hB ⟨⟨_, (Fr.refl w).drew⟩, rfl⟩ (by simpa using h)

theorem calls_aft {P : Program} {f : FuncId} {args : Array Value} {w : World} {x : Aft w} {v : Value}
    (h : Calls P f args x.val fun e w' => e = .returned v ∧ Fr No x.val w') : Calls P f args x.val fun e w'' => e = .returned v ∧ ∃ y : Aft w, w'' = y.val :=
  h.mono fun _ w' ⟨he, hf⟩ => ⟨he, ⟨w', x.h.trans hf⟩, rfl⟩

end Go.Proofs.YtgjabbhgmecbbaaDoor
