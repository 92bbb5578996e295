/-
  soukref06.Get in plain words, and the walk's parts. No statement of the seat is proved here.
-/
import Derived.Test.YtnmfmedoocnofaaDoorBDec
import Derived.Test.YtnmfmedoocnofaaDoorCDoc
import Derived.Test.YtnmfmedoocnofaaDoorRMay2
namespace Go.Proofs.YtnmfmedoocnofaaDoor
open Go.RowKit

/-! ### a kind's classes have bounds -/
theorem known_all : ((List.range 24).all fun k => (List.range 4).all fun v => (fieldsS v k).1.all fun c => (boundS v c.toNat).2.2) = true := by decide +kernel
theorem known {v k : Nat} {c : UInt8} (h : c ∈ (fieldsS v k).1) : (boundS v c.toNat).2.2 = true := by
  by_cases hv : v = 0 ∨ 3 < v
  · rw [fieldsS_out v k hv] at h; simp at h
  · by_cases hk : k = 0 ∨ 23 < k
    · rw [fieldsS_none v k hk] at h; simp at h
    · have h1 := List.all_eq_true.1 known_all k (List.mem_range.2 (by omega))
      have h2 := List.all_eq_true.1 h1 v (List.mem_range.2 (by omega))
      exact List.all_eq_true.1 h2 c h
/-! ### behind an error nothing is taken -/
theorem numT_err {v : Nat} {c : UInt8} {st : Nat × Rd} (h : st.1 ≠ 0) : (numT v c st).2 = st := by unfold numT; rw [if_neg h]
theorem numsT_err (v : Nat) : ∀ (l : List UInt8) (st : Nat × Rd), st.1 ≠ 0 → (numsT v l st).2 = st
  | [], _, _ => rfl
  | c :: l, st, h => by
    show (numsT v l (numT v c st).2).2 = _
    rw [numT_err h]
    exact numsT_err v l st h
theorem numsT_split (v : Nat) : ∀ (l l' : List UInt8) (st : Nat × Rd), (numsT v (l ++ l') st).2 = (numsT v l' (numsT v l st).2).2
  | [], _, _ => rfl
  | c :: l, l', st => numsT_split v l l' (numT v c st).2
theorem tsT_err {t : Bool} {st : Nat × Rd} (h : st.1 ≠ 0) : (tsT t st).2 = st := by
  rcases t with _ | _
  · rfl
  · show (nameT st).2 = st
    unfold nameT
    rw [if_neg h]
theorem endT_err {v k : Nat} {ns : List Int} {ts : List (List UInt8) × (Nat × Rd)} (h : ts.2.1 ≠ 0) : endT v k ns ts = ((zeroE, ts.2.1), ts.2.2) := by unfold endT; rw [if_neg h]
/-- Where a number is refused, that is the end. -/
theorem body_num {v k m : Nat} {l : List UInt8} {t : Bool} {st0 st' : Nat × Rd} (h : (numsT v (l.take (m + 1)) st0).2 = st') (he : st'.1 ≠ 0) : endT v k (numsT v l st0).1 (tsT t (numsT v l st0).2) = ((zeroE, st'.1), st'.2) := by
  have h1 : (numsT v l st0).2 = st' := by
    have := numsT_split v (l.take (m + 1)) (l.drop (m + 1)) st0
    rw [List.take_append_drop, h, numsT_err v _ st' he] at this
    exact this
  rw [h1]
  have h2 := tsT_err (t := t) he
  rw [endT_err (by rw [h2]; exact he), h2]
theorem body_start {v k : Nat} {l : List UInt8} {t : Bool} {st0 : Nat × Rd} (he : st0.1 ≠ 0) : endT v k (numsT v l st0).1 (tsT t (numsT v l st0).2) = ((zeroE, st0.1), st0.2) := by
  rw [numsT_err v l st0 he]
  have h2 := tsT_err (t := t) he
  rw [endT_err (by rw [h2]; exact he), h2]

def DGetPost (w : World) (b : Nat) (R : (Ev × Nat) × Rd) (en : Ending) (w' : World) : Prop :=
  ∃ s, en = .returned (.tuple #[evV s R.1.1, .int .i64 R.1.2]) ∧ EvNew w.heap.size w' s R.1.1 ∧ DRd w' b R.2 ∧ Fr (Only b) w w'
/-- Where the document's Get stands. -/
structure DRel (w4 wr : World) (B b b9 : Nat) (s : EvP) (e : Ev) (r : Rd) : Prop where
  fr : Fr (GetX w4 b b b9 B) w4 wr
  rd : DRd wr b r
  box : BoxAt B wr b9 s e
theorem only_ty {w : World} {b : Nat} {r : Rd} (hr : DRd w b r) : ∀ (k : Nat) (cur : Array Value) (t : TypeId), w.heap[k]? = some (.cells cur t (0, 0)) → (t = 2 ∨ t = 9 ∨ t = 34) → ¬ Only b k := by
  intro k cur t hk hty hx
  obtain rfl : k = b := hx
  have h1 := hr.1
  rw [hk] at h1
  simp at h1
  obtain ⟨_, rfl⟩ := h1
  rcases hty with h | h | h <;> exact absurd h (by decide)
theorem DRel.read {w4 wr w6 : World} {B b b9 : Nat} {s : EvP} {e : Ev} {r r' : Rd} (h : DRel w4 wr B b b9 s e r) (h6 : DTo wr w6 b r') : DRel w4 w6 B b b9 s e r' :=
  ⟨GetX.trans h.fr (h6.2.mono (fun _ _ hk => .inl hk)), h6.1, h.box.frTy h6.2 (only_ty h.rd)⟩
theorem DRel.quiet {w4 wr w6 : World} {B b b9 : Nat} {s : EvP} {e : Ev} {r : Rd} (h : DRel w4 wr B b b9 s e r) (h6 : Fr No wr w6) : DRel w4 w6 B b b9 s e r :=
  ⟨h.fr.trans h6.of0, h.rd.fr h6 id, h.box.fr h6⟩
theorem DRel.num {w4 w6 wA : World} {B b b9 : Nat} {s : EvP} {e : Ev} {r : Rd} {n : Int} {q : Option Addr} {c : Nat} {v : Value} (h : DRel w4 w6 B b b9 s e r)
    (hA : Fr (RsT (w6.alloc (.cells #[v] 2)) B 2) (w6.alloc (.cells #[v] 2)) wA) (hrow : Rs B wA 2 (.slice q (e.nums.length + 1) c) ((e.nums ++ [n]).map numV)) :
    DRel w4 (wA.setCell ⟨b9, 2, none⟩ (.slice q (e.nums.length + 1) c)) B b b9 ⟨q, c, s.qt, s.ct⟩ { e with nums := e.nums ++ [n] } r := by
  have h1 := h.quiet ((Fr.refl w6).alloc (.cells #[v] 2))
  have hbx := h1.box.setN hA (n := e.nums.length + 1) (by simp) hrow
  have hr2 : DRd wA b r := h1.rd.fr hA (RsT.ofT h1.rd.1 (by decide))
  have hbA := hA.heapT (by decide) h1.box.cells
  have hs : Fr (Only b9) wA (wA.setCell ⟨b9, 2, none⟩ (.slice q (e.nums.length + 1) c)) := (Fr.refl _).set_only _ _
  refine ⟨?_, hr2.fr hs (fun hx => ne_of_cells hr2.1 hbA (by decide) hx), hbx⟩
  have f3 : Fr (GetX (w6.alloc (.cells #[v] 2)) b b b9 B) (w6.alloc (.cells #[v] 2)) wA := hA.mono (fun k _ hk => .inr (.inr (.inr (.inl hk))))
  have f4 : Fr (GetX wA b b b9 B) wA (wA.setCell ⟨b9, 2, none⟩ (.slice q (e.nums.length + 1) c)) := hs.mono (fun k _ hk => .inr (.inr (.inl hk)))
  exact GetX.trans (GetX.trans h1.fr f3) f4
/-- The name's row is a new one. -/
theorem DRel.txt {w4 w6 : World} {B b b9 : Nat} {s : EvP} {e : Ev} {r : Rd} {x : List UInt8} (h : DRel w4 w6 B b b9 s e r) (hB : B ≤ w6.heap.size) :
    DRel w4 ((w6.alloc (.cells #[strV x] 9)).setCell ⟨b9, 3, none⟩ (.slice (some ⟨w6.heap.size, 0, none⟩) 1 1)) B b b9 ⟨s.qn, s.cn, some ⟨w6.heap.size, 0, none⟩, 1⟩ { e with texts := [x] } r := by
  have h1 := h.quiet ((Fr.refl w6).alloc (.cells #[strV x] 9))
  have hown : Own (w6.alloc (.cells #[strV x] 9)) 9 1 (.slice (some ⟨w6.heap.size, 0, none⟩) 1 1) 1 [strV x] := ⟨rfl, .inr ⟨w6.heap.size, 1, _, rfl, Nat.zero_le _, Go.heap_alloc_new _ _, by decide, by decide, rfl, rfl⟩⟩
  have hrs : Rs B (w6.alloc (.cells #[strV x] 9)) 9 (.slice (some ⟨w6.heap.size, 0, none⟩) 1 1) ([x].map strV) := .inr ⟨hown, fun k hk => by
    have : w6.heap.size = k := by simpa [Value.ownBlock] using hk
    omega⟩
  have hbx := h1.box.setT (Fr.refl _) (n := 1) (l := [x]) rfl hrs
  have hs : Fr (Only b9) (w6.alloc (.cells #[strV x] 9)) ((w6.alloc (.cells #[strV x] 9)).setCell ⟨b9, 3, none⟩ (.slice (some ⟨w6.heap.size, 0, none⟩) 1 1)) := (Fr.refl _).set_only _ _
  refine ⟨GetX.trans h1.fr (hs.mono (fun k _ hk => .inr (.inr (.inl hk)))), h1.rd.fr hs (fun hx => ne_of_cells h1.rd.1 h1.box.cells (by decide) hx), hbx⟩
theorem setCell_alloc (w : World) (O : Obj) (b i : Nat) (v : Value) (hb : b < w.heap.size) : (w.alloc O).setCell ⟨b, i, none⟩ v = (w.setCell ⟨b, i, none⟩ v).alloc O := by
  unfold World.setCell World.alloc
  simp only
  congr 1
  apply Array.ext_getElem?
  intro k
  simp [Array.getElem?_modify, Array.getElem?_push]
  split <;> split <;> simp_all
  all_goals omega
end Go.Proofs.YtnmfmedoocnofaaDoor
