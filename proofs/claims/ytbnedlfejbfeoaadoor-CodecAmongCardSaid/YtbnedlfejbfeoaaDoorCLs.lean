/-
  Lists of events; a parameter that is one, opened. No statement of the seat is proved here.
-/
import Derived.Test.YtbnedlfejbfeoaaDoorOpenE
import Derived.Test.YtbnedlfejbfeoaaDoorCUnlike
namespace Go.Proofs.YtbnedlfejbfeoaaDoor
open Go.RowKit Go.ChangeShapes Go.WideShapes
set_option maxRecDepth 100000

/-- A slice of events, wherever it lies. -/
def LsAt (w : World) (q : Option Addr) (l : List (EvP × Ev)) : Prop :=
  ∀ i s e, l[i]? = some (s, e) → EvAt w s e ∧ ∃ b o, q = some ⟨b, o, none⟩ ∧ w.cell? ⟨b, o + i * 4, none⟩ = some (.int .u8 e.v) ∧ w.cell? ⟨b, o + i * 4 + 1, none⟩ = some (.int .u8 e.kind) ∧
    w.cell? ⟨b, o + i * 4 + 2, none⟩ = some (.slice s.qn e.nums.length s.cn) ∧ w.cell? ⟨b, o + i * 4 + 3, none⟩ = some (.slice s.qt e.texts.length s.ct)
theorem LsAt.fr {w w' : World} {q : Option Addr} {l : List (EvP × Ev)} (h : LsAt w q l) (hf : Fr No w w') : LsAt w' q l := fun i s e hi => by
  obtain ⟨h0, b, o, hq, h1, h2, h3, h4⟩ := h i s e hi
  exact ⟨h0.fr hf, b, o, hq, hf.cell0 h1, hf.cell0 h2, hf.cell0 h3, hf.cell0 h4⟩
def evC (p : EvP × Ev) : List Value := [.int .u8 p.2.v, .int .u8 p.2.kind, .slice p.1.qn p.2.nums.length p.1.cn, .slice p.1.qt p.2.texts.length p.1.ct]
theorem infoEv : (Tryd.prog.info? 26).map (fun i => (i.zero, i.size, i.bytes)) = some (some (.agg #[.int .u8 0, .int .u8 0, .slice none 0 0, .slice none 0 0]), 4, 56) := by kernel_rfl
theorem grow_cells {w : World} {q : Option Addr} {n cap : Nat} {l : List (EvP × Ev)} (h : Own w 26 4 (.slice q n cap) l.length (l.flatMap evC)) {i : Nat} {s : EvP} {e : Ev} (hr : l[i]? = some (s, e)) :
    ∃ b, q = some ⟨b, 0, none⟩ ∧ w.cell? ⟨b, 0 + i * 4, none⟩ = some (.int .u8 e.v) ∧ w.cell? ⟨b, 0 + i * 4 + 1, none⟩ = some (.int .u8 e.kind) ∧
    w.cell? ⟨b, 0 + i * 4 + 2, none⟩ = some (.slice s.qn e.nums.length s.cn) ∧ w.cell? ⟨b, 0 + i * 4 + 3, none⟩ = some (.slice s.qt e.texts.length s.ct) := by
  have hi := (List.getElem?_eq_some_iff.1 hr).1
  rcases h.2 with ⟨h1, h2⟩ | ⟨g, cap', cur, h1, _, hg, h3, h4, h5, h6⟩
  · omega
  · have hq : q = some ⟨g, 0, none⟩ := by injection h1
    have hc := h.cells (g := g) (by rw [hq]; rfl)
    have key : ∀ (l : List (EvP × Ev)) (i : Nat) (r : EvP × Ev), l[i]? = some r → ∀ j, j < 4 → (l.flatMap evC)[i * 4 + j]? = (evC r)[j]? := by
      intro l
      induction l with
      | nil => intro i r h; simp at h
      | cons x l ih =>
        intro i r h j hj
        have hx : (evC x).length = 4 := rfl
        rcases i with _ | i
        · simp only [List.getElem?_cons_zero, Option.some.injEq] at h
          subst h
          rw [List.flatMap_cons, List.getElem?_append_left (by omega)]
          simp
        · rw [List.flatMap_cons, List.getElem?_append_right (by omega), hx, show (i + 1) * 4 + j - 4 = i * 4 + j by omega]
          exact ih i r (by simpa using h) j hj
    have g0 := hc (i * 4 + 0) (.int .u8 e.v) (by rw [key l i _ hr 0 (by decide)]; rfl)
    have g1 := hc (i * 4 + 1) (.int .u8 e.kind) (by rw [key l i _ hr 1 (by decide)]; rfl)
    have g2 := hc (i * 4 + 2) (.slice s.qn e.nums.length s.cn) (by rw [key l i _ hr 2 (by decide)]; rfl)
    have g3 := hc (i * 4 + 3) (.slice s.qt e.texts.length s.ct) (by rw [key l i _ hr 3 (by decide)]; rfl)
    rw [Go.WideShapes.add_plain] at g0 g1 g2 g3
    exact ⟨g, hq, g0, g1, g2, g3⟩
instance : Inhabited (EvP × Ev) := ⟨(⟨none, 0, none, 0⟩, ⟨0, 0, [], []⟩)⟩
theorem weightsAll_each {H : Type} {P : Program} {e : TypeId} {D : Nat → DataW H} : ∀ (l : List Nat), (DataW.weightsAll P e (l.map D)).all (· ≤ reachBytes) = true → ∀ i, i ∈ l → ((D i).weights P e).all (· ≤ reachBytes) = true
  | [], _, _, h => by cases h
  | a :: l, h, i, hi => by
    rw [List.map_cons, DataW.weightsAll, List.all_append, Bool.and_eq_true] at h
    rcases List.mem_cons.1 hi with rfl | hi
    · exact h.1
    · exact weightsAll_each l h.2 i hi
theorem events_open {H : Type} {enc : TypeId × Value → H} {W : World} {r : Reach} {base b0 : Nat} {sp : Nat → Bool} {hd : Bool} {v : Value} {d : DataW H} {p : List MemPlace}
    (hv : Value.okWide Tryd.prog W r b0 35 v) (h : DataW.Trod enc Tryd.prog W base sp hd 35 v d p) :
    ∃ (q : Option Addr) (cap : Nat) (l : List (EvP × Ev)), v = .slice q l.length cap ∧ LsAt W q l ∧ l.length ≤ cap ∧
      ((d.weights Tryd.prog 35).all (· ≤ reachBytes) = true → l.length ≤ 17592186044416 ∧ ∀ p, p ∈ l → p.2.nums.length ≤ 17592186044416 ∧ p.2.texts.length ≤ 8796093022208) := by
  have hC : Tryd.prog.cellsOf 26 = 4 := by kernel_rfl
  obtain ⟨a, len, cap, rfl⟩ := okWide_slice Tryd.underlying35 hv
  obtain ⟨fuel, hf⟩ := h
  rcases Go.Deep.open_slice Tryd.underlying35 hf with ⟨hcs, _⟩ | ⟨a1, len1, cap1, m, n, D, Pl, hcs, _, hl, hm, hmm, hx0, hx⟩
  · simp [Value.cells] at hcs
    obtain ⟨rfl, rfl, rfl⟩ := hcs
    exact ⟨none, 0, [], rfl, fun i s e h => (by simp at h), Nat.le_refl _, fun _ => ⟨Nat.zero_le _, fun _ h => (by cases h)⟩⟩
  · simp [Value.cells] at hcs
    obtain ⟨rfl, rfl, rfl⟩ := hcs
    have hlm : len ≤ m := by rw [hmm]; split <;> omega
    have each : ∀ i, i < len → ∃ y : EvP × Ev, W.cells? base (a1.add (i * 4)) 4 = some [.int .u8 y.2.v, .int .u8 y.2.kind, .slice y.1.qn y.2.nums.length y.1.cn, .slice y.1.qt y.2.texts.length y.1.ct] ∧ EvAt W y.1 y.2 ∧
        (((D i).weights Tryd.prog 26).all (· ≤ reachBytes) = true → y.2.nums.length ≤ 17592186044416 ∧ y.2.texts.length ≤ 8796093022208) := by
      intro i hi
      obtain ⟨cs', h1, h2⟩ := hx i (by omega)
      rw [hC] at h1
      obtain ⟨s, e, rfl, h4, h5, _⟩ := event_cells h2
      exact ⟨(s, e), h1, h4, h5⟩
    obtain ⟨f, hfy⟩ := Go.Deep.choose_lt each
    refine ⟨some a1, cap, (List.range len).map f, by simp, ?_, by simpa using hl, ?_⟩
    · intro i s e hy
      have hi : i < len := by
        have := (List.getElem?_eq_some_iff.1 hy).1
        simpa using this
      have e1 : f i = (s, e) := by
        simp [hi] at hy
        exact hy
      obtain ⟨_, _, hcell0⟩ := World.cells?_some (hfy 0 (by omega)).1
      have hc0 := hcell0 0 (by omega)
      have hspot : a1.spot = none := by
        obtain ⟨b, o, s⟩ := a1
        have h1 : (⟨b, o, s⟩ : Addr).add (0 * 4) = ⟨b, o, s⟩ := by simp [Addr.add]
        rw [h1] at hc0
        have h2 : (⟨b, o, s⟩ : Addr).add 0 = ⟨b, o, s⟩ := by simp [Addr.add]
        rw [h2] at hc0
        exact cell_spot hc0
      obtain ⟨b, o, sp1⟩ := a1
      simp only at hspot
      subst hspot
      obtain ⟨_, _, hcell⟩ := World.cells?_some (hfy i hi).1
      have hE := (hfy i hi).2.1
      rw [e1] at hcell hE
      refine ⟨hE, b, o, rfl, ?_, ?_, ?_, ?_⟩
      · have := hcell 0 (by omega); simpa [add_plain, Nat.add_assoc] using this
      · have := hcell 1 (by omega); simpa [add_plain, Nat.add_assoc] using this
      · have := hcell 2 (by omega); simpa [add_plain, Nat.add_assoc] using this
      · have := hcell 3 (by omega); simpa [add_plain, Nat.add_assoc] using this
    · intro ha
      have hd0 : d = .slice ((List.range len).map D) ((List.range (m - len)).map fun j => D (len + j)) := congrArg Prod.fst hx0
      rw [hd0] at ha
      simp only [DataW.weights, Tryd.underlying35, List.all_cons, List.all_append, Bool.and_eq_true, decide_eq_true_eq] at ha
      have hb : Tryd.prog.bytesOf 26 = 56 := by kernel_rfl
      refine ⟨?_, fun p hp => ?_⟩
      · have h1 := ha.1
        rw [hb] at h1
        simp only [List.length_map, List.length_range, reachBytes] at h1
        simp
        omega
      · obtain ⟨i, hi, rfl⟩ := List.mem_map.1 hp
        exact (hfy i (List.mem_range.1 hi)).2.2 (weightsAll_each _ ha.2.1 i hi)

end Go.Proofs.YtbnedlfejbfeoaaDoor
