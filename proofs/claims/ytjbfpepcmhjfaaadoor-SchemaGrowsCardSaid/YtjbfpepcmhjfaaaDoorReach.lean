/-
  Which functions each function names, as a table; the closures, reckoned out of it. No statement of the seat is proved here.
-/
import Derived.Test.YtjbfpepcmhjfaaaDoorRows
import Derived.JoinedOf
namespace Go.Proofs.YtjbfpepcmhjfaaaDoor
open Go
set_option maxRecDepth 100000

def leadsL : List (List Nat) := [[], [], [1], [29, 30, 30], [31, 29, 29, 30, 32, 33, 33, 32, 32, 33, 33, 32, 32, 33, 33, 34, 32, 35, 32, 35], [29, 29, 36, 37, 38, 37, 37, 37, 35, 37], [31, 31, 29, 33, 33, 32, 39, 32, 39, 38, 40, 41, 42, 42, 29], [31, 31, 29, 29, 33, 41, 41, 41, 41, 32, 32, 33, 33, 33, 41, 41, 41, 41, 33, 41], [29, 43, 36, 44, 45, 46, 37, 47, 48, 49, 29], [29, 38, 38, 40, 38, 40, 50, 34, 35, 35, 35, 35, 51, 52, 48, 49, 53, 53, 53, 53, 53, 32, 37], [29, 29, 51, 51, 48, 48, 54, 45, 54, 45, 51, 48], [29, 55, 50, 30, 44, 53, 55, 34, 54, 46, 35, 51, 52, 29], [56, 57, 58, 59, 60, 61, 62, 63, 64, 65, 64, 42, 66, 58], [56, 56, 58, 58, 67, 68, 69, 68, 67, 69, 41], [56, 56, 58, 58, 70, 70, 32, 32, 41, 63, 63, 41, 63, 63, 63, 41], [57, 58, 58, 65, 70, 70, 41, 63, 65, 65, 66], [71, 72, 72, 72, 72, 72, 72, 73, 73, 72, 73, 72, 72, 72, 72, 72, 74, 75, 72, 72, 72, 72, 72, 72, 72, 72, 72, 72, 72, 72, 72, 72, 72, 73, 73, 73, 73, 72, 74, 76, 77, 78, 79, 80, 79, 80, 79], [81, 71, 82, 74, 83, 76, 84, 85, 86, 84, 87, 71], [71, 81, 71, 74, 85, 84, 85, 84, 74], [71, 81, 71, 74, 78, 78], [71, 81, 81, 71, 74, 74, 84], [81, 71, 71, 88, 89, 77, 89, 89, 76, 88, 90, 80, 91, 79, 84, 92, 91], [71, 80, 79, 93, 84, 71, 94, 71], [95, 96, 97, 98, 99, 100, 101, 95], [95, 102, 95, 103, 104, 98, 100, 98, 103], [95, 102, 95, 103, 96, 96, 98, 105, 106, 98, 105, 63], [95, 102, 95, 103, 107, 107], [95, 108, 103, 98, 103, 108, 108, 109, 103, 108, 109, 103, 106, 106, 106, 106, 110, 108, 108, 108, 109, 108, 108, 109, 96, 108, 108, 109, 103, 111, 111, 107, 107, 107, 107, 107, 107, 107, 107, 107, 104, 104, 110, 110], [102, 102, 95, 112, 103, 113, 106, 114, 104, 115, 110, 100, 110, 100, 95], [30, 30, 30, 34, 36, 51, 116, 32, 116, 32, 116, 32, 38, 38, 38, 48], [117, 118], [], [30, 119, 38], [], [], [34], [120, 118], [36, 119, 38], [], [55, 121, 40], [], [122, 123], [], [], [], [], [52, 49], [43, 121, 40], [120], [], [], [117], [], [30], [], [124], [], [56], [125, 67, 125, 70, 67, 125, 68, 125, 68, 125, 68, 125, 68, 125, 65, 125, 69, 125, 69, 69, 125, 69, 125, 69], [], [59], [39, 126, 61, 127, 61], [39, 61], [32, 128, 129, 67, 68], [42], [130, 131, 133, 132], [42], [32, 134, 129], [32, 134, 129, 67, 41], [41], [63, 67, 67], [72, 75, 73, 75, 78, 78, 78], [], [], [135, 77, 90], [74, 85, 84, 76], [74], [32, 135, 136, 137], [85, 84], [138, 139, 140, 30, 141, 142], [], [], [], [39, 143], [], [80, 140, 138, 79, 92], [93], [], [], [90], [], [144], [], [145, 55, 50, 146, 147, 40], [], [108, 109, 103, 103, 111, 108, 109, 111, 107, 107], [98, 70, 103], [99, 148, 113], [149], [145, 146, 93], [150], [], [151], [104, 135, 136, 77, 90], [152, 130], [70, 150], [103, 65, 103], [98, 96], [], [], [153, 41], [106], [154], [115, 155, 143], [113, 148, 113], [39], [], [], [], [35], [], [50], [], [], [], [], [39, 55, 156], [39, 55, 156, 39], [], [], [157], [32], [], [63], [30, 30, 158, 159], [160], [135, 135], [136, 88], [], [161], [162], [34, 163, 35], [164, 38], [155, 165], [166, 167], [168], [168, 168, 168], [146, 168, 169], [61], [170], [], [], [32], [], [], [155], [], [], [], [], [], [138], [144], [166, 144, 167, 167, 172], [166, 163, 167, 91], [155], [], [], [], [168], [80, 140, 138, 163, 138, 79, 171], [138, 92], [167], [], [], [], [], [], [], [], [], [], [], [], [], [], [], [], [], [], [], [], [], [], [], []]
def unfL : List Bool := [false, false, false, false, false, false, false, false, false, false, false, false, false, false, false, false, false, false, false, false, false, false, false, false, false, false, false, false, false, false, false, false, false, false, false, false, false, false, false, false, false, false, false, false, false, false, false, false, false, false, false, false, false, false, false, false, false, false, false, false, false, false, false, false, false, false, false, false, false, false, false, false, false, false, false, false, false, false, false, true, false, false, false, false, false, false, false, false, false, false, false, false, false, false, false, false, false, false, true, false, false, false, false, false, false, false, false, false, false, false, false, false, false, false, false, false, false, false, false, false, false, false, false, false, false, false, false, false, false, false, false, false, true, false, false, false, false, false, false, false, false, true, true, false, false, false, false, false, false, false, false, false, false, true, false, false, false, true, false, false, false, false, false, false, false, false, false, false, false, false, true, false, false, false, false, false, false, false, false, false, false, false, false, false, false, false, false, false, false, false, false, false, false, false, false, false]
def globL : List (List Nat) := [[], [], [], [], [], [], [], [], [], [], [], [], [], [], [], [], [], [], [], [], [], [], [], [], [], [], [], [], [], [], [], [], [], [], [], [], [], [], [], [], [], [], [], [], [], [0], [], [], [], [], [], [], [], [], [1], [], [], [], [], [], [], [], [], [], [], [], [], [], [], [], [], [], [], [], [], [], [], [], [], [], [], [], [], [], [], [], [], [], [], [], [], [], [], [], [], [], [], [], [], [], [], [], [], [], [], [], [], [], [], [], [], [], [], [], [], [], [], [1], [], [], [0], [], [], [], [], [], [], [], [], [], [], [], [], [], [], [], [], [], [], [], [], [], [], [], [], [], [], [], [], [], [], [], [], [], [], [], [], [], [], [], [], [], [], [], [], [], [], [], [], [], [], [], [], [], [], [], [], [], [], [], [], [], [], [], [], [], [], [], [], [], [], [], [], [], [], [1, 0]]
def nameL : List Bool := [true, true, false, false, false, false, false, false, false, false, false, false, false, false, false, false, false, false, false, false, false, false, false, false, false, false, false, false, false, false, false, false, false, false, false, false, false, false, false, false, false, false, false, false, false, false, false, false, false, false, false, false, false, false, false, false, false, false, false, false, false, false, false, false, false, false, false, false, false, false, false, false, false, false, false, false, false, false, false, false, false, false, false, false, false, false, false, false, false, false, false, false, false, false, false, false, false, false, false, false, false, false, false, false, false, false, false, false, false, false, false, false, false, false, false, false, false, false, false, false, false, false, false, false, false, false, false, false, false, false, false, false, false, false, false, false, false, false, false, false, false, false, false, false, false, false, false, false, false, false, false, false, false, false, false, false, false, false, false, false, false, false, false, false, false, false, false, false, false, false, false, false, false, true, true, true, true, true, true, true, true, true, true, true, true, true, true, true, true, true, true, true, true, true, true, false]
def unfOf (fn : Func) : Bool := match fn.body with | some c => c.unfollowed | none => entryCalls fn
def nameOf (fn : Func) : Option String := if fn.ours || fn.body.isNone || fn.name == "runtime.NumGoroutine" then some fn.name else none
def entOf (fn : Func) : Option String := if fn.body.isNone then entryReads.lookup fn.name else none
theorem leads_eq : Tryd.prog.funcs.toList.map Tryd.prog.leadsTo = leadsL := by kernel_rfl
theorem unf_eq : Tryd.prog.funcs.toList.map unfOf = unfL := by kernel_rfl
theorem glob_eq : (Tryd.prog.funcs.toList.map fun fn => fn.body.elim [] Code.globalsNamed) = globL := by kernel_rfl
theorem name_eq : (Tryd.prog.funcs.toList.map fun fn => (nameOf fn).isSome) = nameL := by kernel_rfl
theorem ent_eq : (Tryd.prog.funcs.toList.map fun fn => (entOf fn).isSome) = Tryd.prog.funcs.toList.map fun _ => false := by kernel_rfl

theorem at_map {α : Type} (F : Func → α) {l : List α} (h : Tryd.prog.funcs.toList.map F = l) (g : Nat) : (Tryd.prog.funcs[g]?).map F = l[g]? := by
  rw [← h, List.getElem?_map]
  congr 1
  simp
theorem leads_at (g : Nat) : (Tryd.prog.funcs[g]?).elim [] Tryd.prog.leadsTo = (leadsL[g]?).getD [] := by
  rw [← at_map Tryd.prog.leadsTo leads_eq g]
  cases Tryd.prog.funcs[g]? <;> rfl
def cloL : Nat → List Nat → List Nat → List Nat
  | 0, _, seen => seen.reverse
  | _, [], seen => seen.reverse
  | n + 1, f :: todo, seen => if seen.contains f then cloL n todo seen else cloL n ((leadsL[f]?).getD [] ++ todo) (f :: seen)
theorem cloL_eq : ∀ (n : Nat) (todo seen : List Nat), Tryd.prog.closureVia n todo seen = cloL n todo seen
  | 0, _, _ => by simp [Program.closureVia, cloL]
  | n + 1, [], _ => by simp [Program.closureVia, cloL]
  | n + 1, f :: todo, seen => by
    rw [Program.closureVia, cloL, leads_at]
    split
    · exact cloL_eq n _ _
    · exact cloL_eq n _ _
def fuelL : Nat := 1 + (leadsL.map fun l => l.length + 1).sum
theorem closure_eq (f : Nat) : Tryd.prog.closure f = cloL fuelL [f] [] := by
  unfold Program.closure fuelL
  rw [cloL_eq]
  rw [← leads_eq, List.map_map]
  rfl
def cloOf (f : Nat) : List Nat := cloL fuelL [f] []
theorem unf_of (f : Nat) : Tryd.prog.unfollowed f = (cloOf f).any fun g => (unfL[g]?).getD false := by
  unfold Program.unfollowed
  rw [closure_eq]
  apply congrArg
  funext g
  rw [← at_map unfOf unf_eq g]
  cases Tryd.prog.funcs[g]? <;> rfl
theorem rec_of (f : Nat) : Tryd.prog.recurses f = (((cloOf f).any fun g => (unfL[g]?).getD false) || (cloOf f).any fun g => ((leadsL[g]?).getD []).any fun h => (cloOf h).contains g) := by
  unfold Program.recurses
  rw [unf_of, closure_eq]
  congr 1
  apply congrArg
  funext g
  rw [leads_at]
  apply congrArg
  funext h
  rw [closure_eq]
  rfl
theorem place_of (f : Nat) (h : ((cloOf f).all fun g => !(nameL[g]?).getD false) = true) : Tryd.prog.inPlace f = [] := by
  unfold Program.inPlace
  rw [closure_eq, List.filterMap_eq_nil_iff]
  intro g hg
  have h1 := List.all_eq_true.1 h g hg
  rw [← at_map (fun fn => (nameOf fn).isSome) name_eq g] at h1
  cases hx : Tryd.prog.funcs[g]? with
  | none => rfl
  | some fn =>
    rw [hx] at h1
    simp at h1
    exact h1
theorem ent_at (g : Nat) : ((Tryd.prog.funcs[g]?).bind entOf) = none := by
  have h := at_map (fun fn => (entOf fn).isSome) ent_eq g
  cases hx : Tryd.prog.funcs[g]? with
  | none => rfl
  | some fn =>
    rw [hx] at h
    rw [List.getElem?_map] at h
    have h2 : Tryd.prog.funcs.toList[g]? = some fn := by simpa using hx
    rw [h2] at h
    simpa using h
theorem vars_of (f : Nat) : Tryd.prog.varsNamed f = ((((cloOf f).flatMap fun g => (globL[g]?).getD []).eraseDups).filterMap (fun g => (Tryd.prog.globals[g]?).map (·.name))).eraseDups := by
  unfold Program.varsNamed
  rw [closure_eq]
  have e1 : ((cloL fuelL [f] []).filterMap fun g => (Tryd.prog.funcs[g]?).bind fun fn => if fn.body.isNone then entryReads.lookup fn.name else none) = [] := by
    rw [List.filterMap_eq_nil_iff]
    intro g _
    exact ent_at g
  rw [e1, List.append_nil]
  have e2 : (fun g => ((Tryd.prog.funcs[g]?).bind fun fn : Func => fn.body).elim [] Code.globalsNamed) = fun (g : Nat) => (globL[g]?).getD [] := by
    funext g
    rw [← at_map (fun fn => fn.body.elim [] Code.globalsNamed) glob_eq g]
    cases Tryd.prog.funcs[g]? <;> rfl
  rw [e2]
  rfl
theorem andI {a b : Bool} (h : a = true) (k : b = true) : (a && b) = true := by rw [h, k]; rfl
theorem place_fact (f : Nat) (c : List String) (hc : c = []) (h : ((cloOf f).all fun g => !(nameL[g]?).getD false) = true) : (c == Tryd.prog.inPlace f) = true := by rw [place_of f h, hc]; rfl
theorem unf_fact (f : Nat) (c : Bool) (h : (c == (cloOf f).any fun g => (unfL[g]?).getD false) = true) : (c == Tryd.prog.unfollowed f) = true := by rw [unf_of]; exact h
theorem rec_fact (f : Nat) (c : Bool) (h : (c == (((cloOf f).any fun g => (unfL[g]?).getD false) || (cloOf f).any fun g => ((leadsL[g]?).getD []).any fun h => (cloOf h).contains g)) = true) : (c == Tryd.prog.recurses f) = true := by rw [rec_of]; exact h
theorem vars_fact (f : Nat) (c : List String) (h : (c == ((((cloOf f).flatMap fun g => (globL[g]?).getD []).eraseDups).filterMap (fun g => (Tryd.prog.globals[g]?).map (·.name))).eraseDups) = true) : (c == Tryd.prog.varsNamed f) = true := by rw [vars_of]; exact h
end Go.Proofs.YtjbfpepcmhjfaaaDoor
