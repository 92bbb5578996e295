/-
  Which functions each function names, as a table; the closures, reckoned out of it. No statement of the seat is proved here.
-/
import Derived.Test.YtnmfmedoocnofaaDoorRows
import Derived.JoinedOf
namespace Go.Proofs.YtnmfmedoocnofaaDoor
open Go
set_option maxRecDepth 100000

def leadsL : List (List Nat) := [[], [], [1], [9, 10, 11, 12, 13, 14, 15, 9], [9, 16, 9, 17, 18, 12, 14, 12, 17], [9, 16, 9, 17, 10, 10, 12, 19, 20, 12, 19, 21], [9, 16, 9, 17, 22, 22], [9, 23, 17, 12, 17, 23, 23, 24, 17, 23, 24, 17, 20, 20, 20, 20, 25, 23, 23, 23, 24, 23, 23, 24, 10, 23, 23, 24, 17, 26, 26, 22, 22, 22, 22, 22, 22, 22, 22, 22, 18, 18, 25, 25], [16, 16, 9, 27, 17, 28, 20, 29, 18, 30, 25, 14, 25, 14, 9], [23, 24, 17, 17, 26, 23, 24, 26, 22, 22], [12, 31, 17], [13, 32, 28], [33], [34, 35, 36], [37], [], [38], [18, 39, 40, 41, 42], [43, 45], [31, 37], [17, 46, 17], [44, 47, 48, 49, 50], [12, 10], [], [], [51, 52], [20], [53], [30, 54, 55], [28, 32, 28], [56], [21, 49, 49], [57], [58], [65], [65, 65, 65], [34, 66, 67, 35, 68, 69], [], [], [70], [39, 39], [44, 39, 40, 71], [], [44], [72, 73, 74], [75], [45, 76, 78, 77], [], [], [44, 79, 48], [44, 79, 48, 49, 52], [], [80, 81], [], [54], [54, 82], [66, 83, 69], [56, 84, 57, 85, 57], [59, 60, 61, 62, 61, 63, 64], [], [86], [], [87, 88, 89, 89, 90], [61, 91, 60, 72, 92, 93], [61, 94], [], [95], [], [35, 65, 96], [], [], [40, 97], [98, 99], [100], [], [], [44], [], [21], [72, 72, 101, 102], [], [], [54], [67], [56, 66, 103], [56, 66, 103, 56], [88], [], [87, 89], [], [89], [104], [105, 62, 100], [106, 74], [], [], [65], [], [], [], [105], [], [], [], [61], [], [87, 62, 89, 107], [88], [], [], [], [], [], [], [], [], [], [], [], [], [], [], [], [], [], [], [], [], [], [], []]
def unfL : List Bool := [false, false, false, false, false, false, false, false, false, false, false, false, true, false, false, false, false, false, false, false, false, false, false, false, false, false, false, false, false, false, false, false, false, false, false, false, false, false, false, false, false, false, false, false, false, false, false, false, false, false, false, true, false, false, false, false, false, false, true, false, false, false, false, true, false, false, false, false, false, false, false, false, false, false, false, true, false, true, false, false, false, false, false, false, false, false, false, false, false, false, false, false, true, true, false, false, false, false, false, false, false, false, false, false, false, false, false, false, false, false, false, false, false, false, false, false, false, false, false, false, false, false, false, false, false, false, false, false, false, false, false]
def globL : List (List Nat) := [[], [], [], [], [], [], [], [], [], [], [], [], [], [], [], [], [], [], [], [], [], [], [], [], [], [], [], [], [], [], [], [], [], [], [], [], [], [], [], [], [], [], [], [], [], [], [], [], [], [], [], [], [], [], [], [], [], [], [], [], [], [], [], [], [], [], [], [], [], [], [], [], [], [], [], [], [], [], [], [], [], [], [], [], [], [], [], [], [], [], [], [], [], [], [], [], [], [], [0], [], [], [], [], [], [], [], [], [], [], [], [], [], [], [], [], [], [], [], [], [], [], [], [], [], [], [], [], [], [], [], [0]]
def nameL : List Bool := [true, true, false, false, false, false, false, false, false, false, false, false, false, false, false, false, false, false, false, false, false, false, false, false, false, false, false, false, false, false, false, false, false, false, false, false, false, false, false, false, false, false, false, false, false, false, false, false, false, false, false, false, false, false, false, false, false, false, false, false, false, false, false, false, false, false, false, false, false, false, false, false, false, false, false, false, false, false, false, false, false, false, false, false, false, false, false, false, false, false, false, false, false, false, false, false, false, false, false, false, false, false, false, false, false, false, false, false, true, true, true, true, true, true, true, true, true, true, true, true, true, true, true, true, true, true, true, true, true, true, false]
def unfOf (fn : Func) : Bool := match fn.body with | some c => c.unfollowed | none => entryCalls fn
def nameOf (fn : Func) : Option String := if fn.ours || fn.body.isNone || fn.name == "runtime.NumGoroutine" then some fn.name else none
def entOf (fn : Func) : Option String := if fn.body.isNone then entryReads.lookup fn.name else none
theorem leads_eq : Tryd.prog.funcs.toList.map Tryd.prog.leadsTo = leadsL := by kernel_rfl
theorem unf_eq : Tryd.prog.funcs.toList.map unfOf = unfL := by kernel_rfl
theorem glob_eq : (Tryd.prog.funcs.toList.map fun fn => fn.body.elim [] Code.globalsNamed) = globL := by kernel_rfl
theorem name_eq : (Tryd.prog.funcs.toList.map fun fn => (nameOf fn).isSome) = nameL := by kernel_rfl
theorem ent_eq : (Tryd.prog.funcs.toList.map fun fn => (entOf fn).isSome) = Tryd.prog.funcs.toList.map fun _ => false := by kernel_rfl

theorem at_map {α : Type} (F : Func → α) {l : List α} (h : Tryd.prog.funcs.toList.map F = l) (g : Nat) : (Tryd.prog.funcs[g]?).map F = l[g]? := by
  rw [← h, List.getElem?_map]
  congr 1
  simp
theorem leads_at (g : Nat) : (Tryd.prog.funcs[g]?).elim [] Tryd.prog.leadsTo = (leadsL[g]?).getD [] := by
  rw [← at_map Tryd.prog.leadsTo leads_eq g]
  cases Tryd.prog.funcs[g]? <;> rfl
def cloL : Nat → List Nat → List Nat → List Nat
  | 0, _, seen => seen.reverse
  | _, [], seen => seen.reverse
  | n + 1, f :: todo, seen => if seen.contains f then cloL n todo seen else cloL n ((leadsL[f]?).getD [] ++ todo) (f :: seen)
theorem cloL_eq : ∀ (n : Nat) (todo seen : List Nat), Tryd.prog.closureVia n todo seen = cloL n todo seen
  | 0, _, _ => by simp [Program.closureVia, cloL]
  | n + 1, [], _ => by simp [Program.closureVia, cloL]
  | n + 1, f :: todo, seen => by
    rw [Program.closureVia, cloL, leads_at]
    split
    · exact cloL_eq n _ _
    · exact cloL_eq n _ _
def fuelL : Nat := 1 + (leadsL.map fun l => l.length + 1).sum
theorem closure_eq (f : Nat) : Tryd.prog.closure f = cloL fuelL [f] [] := by
  unfold Program.closure fuelL
  rw [cloL_eq]
  rw [← leads_eq, List.map_map]
  rfl
def cloOf (f : Nat) : List Nat := cloL fuelL [f] []
theorem unf_of (f : Nat) : Tryd.prog.unfollowed f = (cloOf f).any fun g => (unfL[g]?).getD false := by
  unfold Program.unfollowed
  rw [closure_eq]
  apply congrArg
  funext g
  rw [← at_map unfOf unf_eq g]
  cases Tryd.prog.funcs[g]? <;> rfl
theorem rec_of (f : Nat) : Tryd.prog.recurses f = (((cloOf f).any fun g => (unfL[g]?).getD false) || (cloOf f).any fun g => ((leadsL[g]?).getD []).any fun h => (cloOf h).contains g) := by
  unfold Program.recurses
  rw [unf_of, closure_eq]
  congr 1
  apply congrArg
  funext g
  rw [leads_at]
  apply congrArg
  funext h
  rw [closure_eq]
  rfl
theorem place_of (f : Nat) (h : ((cloOf f).all fun g => !(nameL[g]?).getD false) = true) : Tryd.prog.inPlace f = [] := by
  unfold Program.inPlace
  rw [closure_eq, List.filterMap_eq_nil_iff]
  intro g hg
  have h1 := List.all_eq_true.1 h g hg
  rw [← at_map (fun fn => (nameOf fn).isSome) name_eq g] at h1
  cases hx : Tryd.prog.funcs[g]? with
  | none => rfl
  | some fn =>
    rw [hx] at h1
    simp at h1
    exact h1
theorem ent_at (g : Nat) : ((Tryd.prog.funcs[g]?).bind entOf) = none := by
  have h := at_map (fun fn => (entOf fn).isSome) ent_eq g
  cases hx : Tryd.prog.funcs[g]? with
  | none => rfl
  | some fn =>
    rw [hx] at h
    rw [List.getElem?_map] at h
    have h2 : Tryd.prog.funcs.toList[g]? = some fn := by simpa using hx
    rw [h2] at h
    simpa using h
theorem vars_of (f : Nat) : Tryd.prog.varsNamed f = ((((cloOf f).flatMap fun g => (globL[g]?).getD []).eraseDups).filterMap (fun g => (Tryd.prog.globals[g]?).map (·.name))).eraseDups := by
  unfold Program.varsNamed
  rw [closure_eq]
  have e1 : ((cloL fuelL [f] []).filterMap fun g => (Tryd.prog.funcs[g]?).bind fun fn => if fn.body.isNone then entryReads.lookup fn.name else none) = [] := by
    rw [List.filterMap_eq_nil_iff]
    intro g _
    exact ent_at g
  rw [e1, List.append_nil]
  have e2 : (fun g => ((Tryd.prog.funcs[g]?).bind fun fn : Func => fn.body).elim [] Code.globalsNamed) = fun (g : Nat) => (globL[g]?).getD [] := by
    funext g
    rw [← at_map (fun fn => fn.body.elim [] Code.globalsNamed) glob_eq g]
    cases Tryd.prog.funcs[g]? <;> rfl
  rw [e2]
  rfl
theorem andI {a b : Bool} (h : a = true) (k : b = true) : (a && b) = true := by rw [h, k]; rfl
theorem place_fact (f : Nat) (c : List String) (hc : c = []) (h : ((cloOf f).all fun g => !(nameL[g]?).getD false) = true) : (c == Tryd.prog.inPlace f) = true := by rw [place_of f h, hc]; rfl
theorem unf_fact (f : Nat) (c : Bool) (h : (c == (cloOf f).any fun g => (unfL[g]?).getD false) = true) : (c == Tryd.prog.unfollowed f) = true := by rw [unf_of]; exact h
theorem rec_fact (f : Nat) (c : Bool) (h : (c == (((cloOf f).any fun g => (unfL[g]?).getD false) || (cloOf f).any fun g => ((leadsL[g]?).getD []).any fun h => (cloOf h).contains g)) = true) : (c == Tryd.prog.recurses f) = true := by rw [rec_of]; exact h
theorem vars_fact (f : Nat) (c : List String) (h : (c == ((((cloOf f).flatMap fun g => (globL[g]?).getD []).eraseDups).filterMap (fun g => (Tryd.prog.globals[g]?).map (·.name))).eraseDups) = true) : (c == Tryd.prog.varsNamed f) = true := by rw [vars_of]; exact h
end Go.Proofs.YtnmfmedoocnofaaDoor
