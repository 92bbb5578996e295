/-
  classes of souklaw05: are classes these letters? They are written over.
-/
import Derived.Test.YtbihbkjdngjgkaaDoorSpec
import Derived.Test.YtbihbkjdngjgkaaDoorSame
import Derived.BigQuiet
namespace Go.Proofs.YtbihbkjdngjgkaaDoor
open Go.RowKit

/-- Blocks from B on. -/
def RsX' (B : Nat) : Nat → Prop := fun k => B ≤ k
/-- What of the row is still as it was, from place i on. -/
structure ClsRel (W : World) (g : Nat) (xs : List UInt8) (want : List UInt8) (i : Nat) (wr : World) : Prop where
  le : i ≤ xs.length
  fr : Fr (Only g) W wr
  row : ∃ cur, wr.heap[g]? = some (.cells cur 35 (0, 0)) ∧ ∀ j c, i ≤ j → xs[j]? = some c → cur[j]? = some (clsV c)
  same : ∀ (j : Nat) (x y : UInt8), j < i → xs[j]? = some x → want[j]? = some y → x = y
theorem ClsRel.drewN {W : World} {g : Nat} {xs want : List UInt8} {i : Nat} {wr : World} (h : ClsRel W g xs want i wr) (n : Nat) : ClsRel W g xs want i (wr.drewN n) := ⟨h.le, h.fr.drewN n, h.row, h.same⟩
theorem ClsRel.next {W : World} {g : Nat} {xs want : List UInt8} {i : Nat} {wr : World} (h : ClsRel W g xs want i wr) {x y : UInt8} (hx : xs[i]? = some x) (hy : want[i]? = some y) (he : x = y) (v : Value) :
    ClsRel W g xs want (i + 1) (wr.setCell ⟨g, i, none⟩ v) := by
  obtain ⟨cur, hg, hc⟩ := h.row
  refine ⟨(List.getElem?_eq_some_iff.1 hx).1, h.fr.set_only i v, ⟨_, heap_setCell_at (i := i) v hg, fun j c hj hcj => ?_⟩, fun j x' y' hj a b => ?_⟩
  · rw [Array.getElem?_setIfInBounds]
    rw [if_neg (by omega)]
    exact hc j c (by omega) hcj
  · by_cases hji : j = i
    · subst hji
      rw [hx] at a
      rw [hy] at b
      cases a; cases b
      exact he
    · exact h.same j x' y' (by omega) a b
theorem ClsRel.cell {W : World} {g : Nat} {xs want : List UInt8} {i : Nat} {wr : World} (h : ClsRel W g xs want i wr) {x : UInt8} (hx : xs[i]? = some x) : wr.cell? ⟨g, i, none⟩ = some (clsV x) ∧ wr.frozen? ⟨g, i, none⟩ = false := by
  obtain ⟨cur, hg, hc⟩ := h.row
  exact ⟨(cell_of_row wr g i cur _ (0, 0) hg).trans (hc i x (Nat.le_refl _) hx), frozen_of_row wr g i cur _ hg⟩

set_option maxHeartbeats 2000000 in
set_option maxRecDepth 100000 in
theorem classes_some (g cap : Nat) (xs want : List UInt8) (w : World) (hl : xs.length ≤ 1000) (cur : Array Value) (hg : w.heap[g]? = some (.cells cur 35 (0, 0)))
    (hc : ∀ (j : Nat) (c : UInt8), xs[j]? = some c → cur[j]? = some (clsV c)) :
    Calls Tryd.prog 26 #[.slice (some ⟨g, 0, none⟩) xs.length cap, strV want] w fun e w' => e = .returned (.bool (decide (xs = want))) ∧ Fr (Only g) w w' := by
  unfold strV
  by_cases hne : xs.length = want.length
  · have HG := hid (fun (h : ∀ (i : Nat) (x y : UInt8), xs[i]? = some x → want[i]? = some y → x = y) => (decide_eq_true (list_eq_of hne h) : decide (xs = want) = true))
    have HB := hid (fun (i : Nat) (x y : UInt8) (c : xs[i]? = some x) (d : want[i]? = some y) (hf : x ≠ y) => (decide_eq_false (list_ne_at c d hf) : decide (xs = want) = false))
    have HR : ClsRel w g xs want 0 w := ⟨Nat.zero_le _, Fr.refl _, ⟨cur, hg, fun j c _ h => hc j c h⟩, fun j _ _ h => absurd h (Nat.not_lt_zero _)⟩
    have hd0 : ((xs.length : Int) != (want.length : Int)) = false := by simp [hne]
    have HN := hid hne
    generalize decide (xs = want) = A at HG HB ⊢
    clear hg hc hne
    go_enter Tryd.func26, Tryd.ntmps26
    go_wp2_with fail
    go_loopw [5] (fun c wr => ∃ i : Nat, c = .int .i64 i ∧ ClsRel w g xs want i wr) (fun c _ => xs.length - (intOf c).toNat)
    case atStart => exact ⟨0, rfl, HR⟩
    case round =>
      clear HR
      obtain ⟨i, rfl, hR⟩ := hrel
      have hi := hR.le
      by_cases hlt : i < xs.length
      · have hd : decide ((i : Int) < (xs.length : Int)) = true := by simp; omega
        obtain ⟨x, hx⟩ : ∃ x, xs[i]? = some x := ⟨_, List.getElem?_eq_getElem hlt⟩
        have hlt2 : i < want.length := by have := HN.out; omega
        obtain ⟨y, hy⟩ : ∃ y, want[i]? = some y := ⟨_, List.getElem?_eq_getElem hlt2⟩
        obtain ⟨k1, k2⟩ := hR.cell hx
        unfold clsV at k1
        have hsz : i < ({ data := want.toArray } : ByteArray).size := hlt2
        have hix : (({ data := want.toArray } : ByteArray)[i]'hsz).toNat = y.toNat := by
          have := (List.getElem?_eq_some_iff.1 hy).2
          rw [← this]; rfl
        have i1 : (i : Int) < (xs.length : Int) := by omega
        have i2 : (i : Int) < (want.length : Int) := by omega
        have i3 : (0 : Int) ≤ (i : Int) := by omega
        have i4 : (i : Int) + 1 ≤ 10000 := by omega
        have HH := hid hR
        have HC := hid (And.intro hx hy)
        clear hR hx hy
        by_cases hb : x = y
        · have hbb : ((x.toNat : Int) != (y.toNat : Int)) = false := by simp [hb]
          have HBB := hid hb
          clear hb
          go_wp2_with fail
          go_quiet (fail)
          go_wp2_with fail
          go_roundw
          case rel => exact ⟨i + 1, by go_num, (HH.out.drewN _).next HC.out.1 HC.out.2 HBB.out _⟩
          case measure => simp [intOf]; omega
        · have hbb : ((x.toNat : Int) != (y.toNat : Int)) = true := by
            rw [bne_iff_ne]
            intro e
            exact hb (UInt8.toNat_inj.1 (by exact_mod_cast e))
          have HBB := hid hb
          clear hb
          go_wp2_with fail
          go_quiet (fail)
          go_wp2_with fail
          go_ret
          exact ⟨congrArg (fun z => Ending.returned (.bool z)) (HB.out i x y HC.out.1 HC.out.2 HBB.out).symm, HH.out.fr.drewN _⟩
      · have hd : decide ((i : Int) < (xs.length : Int)) = false := by simp; omega
        go_wp2_with fail
        go_ret
        exact ⟨congrArg (fun z => Ending.returned (.bool z)) (HG.out (fun j x y c d => hR.same j x y (by have := (List.getElem?_eq_some_iff.1 c).1; omega) c d)).symm, hR.fr⟩
  · have e : decide (xs = want) = false := decide_eq_false (fun h => hne (congrArg List.length h))
    have hd0 : ((xs.length : Int) != (want.length : Int)) = true := by simp; omega
    rw [e]
    clear e hne hg hc
    go_enter Tryd.func26, Tryd.ntmps26
    go_wp2_with fail
    go_ret
    exact ⟨rfl, Fr.refl _⟩
set_option maxHeartbeats 1000000 in
theorem classes_none (want : List UInt8) (w : World) :
    Calls Tryd.prog 26 #[.slice none 0 0, strV want] w fun e w' => e = .returned (.bool (decide (([] : List UInt8) = want))) ∧ w = w' := by
  unfold strV
  rcases want with _ | ⟨c, want⟩
  · go_enter Tryd.func26, Tryd.ntmps26
    go_wp2_with fail
    go_loop [5] (fun c => c = .int .i64 0) (fun _ => 0)
    case atStart => rfl
    case round =>
      subst hrel
      go_wp2_with fail
      go_ret
      exact ⟨rfl, rfl⟩
  · have hd0 : ((0 : Int) != (((c :: want).length : Nat) : Int)) = true := by simp; omega
    go_enter Tryd.func26, Tryd.ntmps26
    go_wp2_with fail
    go_ret
    exact ⟨by simp, rfl⟩
/-- The row of a call, held against letters: a new block alone is turned. -/
theorem classes_any (B : Nat) (v : Value) (xs want : List UInt8) (w : World) (hl : xs.length ≤ 1000) (h : Res B w 35 v (xs.map clsV)) :
    Calls Tryd.prog 26 #[v, strV want] w fun e w' => e = .returned (.bool (decide (xs = want))) ∧ Fr (RsX' B) w w' := by
  rcases h.own.2 with ⟨h1, h2⟩ | ⟨g, cap', cur, h1, hb, hg, h3, h4, h5, h6⟩
  · have e : xs = [] := by simpa using h2
    subst e h1
    exact (classes_none want w).mono fun e w' ⟨he, hw⟩ => ⟨he, hw ▸ Fr.refl _⟩
  · subst h1
    simp only [List.length_map]
    refine (classes_some g cap' xs want w hl cur hg (fun j c hj => ?_)).mono fun e w' ⟨he, hf⟩ => ⟨he, hf.mono (fun k _ hk => ?_)⟩
    · have hjl := (List.getElem?_eq_some_iff.1 hj).1
      simp only [List.length_map, Nat.mul_one] at h6
      have : (cur.toList.take xs.length)[j]? = some (clsV c) := by rw [h6]; simp [hj]
      rw [List.getElem?_take_of_lt hjl] at this
      simpa using this
    · have hk : k = g := hk
      subst hk
      exact h.new k rfl
end Go.Proofs.YtbihbkjdngjgkaaDoor
