/-
  awake of souklaw05: the examples are as they are told.
-/
import Derived.Test.YtbihbkjdngjgkaaDoorMay
import Derived.Test.YtbihbkjdngjgkaaDoorMayName
import Derived.Laws.Rows
namespace Go.Proofs.YtbihbkjdngjgkaaDoor
open Go.RowKit

theorem event5_any (k : Int) (v : Value) (q : Option Addr) (n cap : Nat) (hv : v = .slice q n cap) (w : World) :
    Calls Tryd.prog 38 #[.int .u8 k, v] w fun en w' => en = .returned (.agg #[.int .u8 3, .int .u8 k, .slice q n cap, .slice none 0 0]) ∧ Fr No w w' := by
  subst hv
  go_enter Tryd.func38, Tryd.ntmps38
  go_wp2
  refine bodyPost_ret (Go.results_cell_row rfl _ _ w.heap.size 25 _ (0, 0) _ rfl (Go.heap_alloc_new _ _) Tryd.underlying25 rfl (by kernel_rfl)) rfl ⟨rfl, (Fr.refl w).alloc _⟩
theorem two_new (W : World) (a b : Value) (t : TypeId) : (W.alloc (.cells #[a, b] t)).cell? ⟨W.heap.size, 0, none⟩ = some a ∧ (W.alloc (.cells #[a, b] t)).cell? ⟨W.heap.size, 1, none⟩ = some b := by
  have g := Go.heap_alloc_new W (.cells #[a, b] t)
  exact ⟨cell_of_row _ _ 0 _ _ (0, 0) g, cell_of_row _ _ 1 _ _ (0, 0) g⟩
theorem evAt_two {w : World} {b : Nat} {k : Nat} {x y : Int} {c : Nat} (hk : k ≤ 255) (h0 : w.cell? ⟨b, 0, none⟩ = some (.int .i64 x)) (h1 : w.cell? ⟨b, 1, none⟩ = some (.int .i64 y))
    (hx : -9223372036854775808 ≤ x ∧ x ≤ 9223372036854775807) (hy : -9223372036854775808 ≤ y ∧ y ≤ 9223372036854775807) : EvAt w ⟨some ⟨b, 0, none⟩, c, none, 0⟩ ⟨3, k, [x, y], []⟩ := by
  refine ⟨by show (3 : Nat) ≤ 255; decide, hk, ?_, SlAt.nil _ _, by simp, by simp, by simp, ?_⟩
  · intro i z hz
    match i, hz with
    | 0, hz => refine ⟨b, 0, rfl, ?_⟩; simp at hz; subst hz; exact h0
    | 1, hz => refine ⟨b, 0, rfl, ?_⟩; simp at hz; subst hz; exact h1
    | i + 2, hz => simp at hz
  · intro n hn
    simp at hn
    rcases hn with rfl | rfl
    · exact hx
    · exact hy
theorem may_two (x y : Int) (b c : Nat) (r : Bool) (w : World) (hr : mayS ⟨3, 6, [x, y], []⟩ = r) (hx : -9223372036854775808 ≤ x ∧ x ≤ 9223372036854775807) (hy : -9223372036854775808 ≤ y ∧ y ≤ 9223372036854775807) (hk : KT w)
    (h0 : w.cell? ⟨b, 0, none⟩ = some (.int .i64 x)) (h1 : w.cell? ⟨b, 1, none⟩ = some (.int .i64 y)) :
    Calls Tryd.prog 14 #[.agg #[.int .u8 3, .int .u8 6, .slice (some ⟨b, 0, none⟩) 2 c, .slice none 0 0]] w fun en w' => en = .returned (.bool r) ∧ Fr No w w' := by
  subst hr
  exact may_any ⟨some ⟨b, 0, none⟩, c, none, 0⟩ ⟨3, 6, [x, y], []⟩ w (evAt_two (by decide) h0 h1 hx hy) hk
theorem res_cell {B : Nat} {w : World} {t : TypeId} {v : Value} {xs : List Value} (h : Res B w t v xs) (i : Nat) (x : Value) (hx : xs[i]? = some x) :
    ∃ b cap, v = .slice (some ⟨b, 0, none⟩) xs.length cap ∧ w.cell? ⟨b, i, none⟩ = some x := by
  rcases h.own.2 with ⟨h1, h2⟩ | ⟨g, cap', cur, h1, hb, hg, h3, h4, h5, h6⟩
  · have := h.own.1
    rw [h2] at this
    have hlt := (List.getElem?_eq_some_iff.1 hx).1
    omega
  · refine ⟨g, cap', h1, ?_⟩
    obtain ⟨q, cap, hq, hs⟩ := h.at'
    rw [h1] at hq
    injection hq with hq
    subst hq
    obtain ⟨b, o, he, hc⟩ := hs i x hx
    simp only [Option.some.injEq, Addr.mk.injEq, and_true] at he
    obtain ⟨rfl, rfl⟩ := he
    simpa using hc

set_option maxHeartbeats 8000000 in
set_option maxRecDepth 100000 in
theorem awake5_any (w : World) (hk : KT w) (hc : CT w) :
    Calls Tryd.prog 12 #[] w fun en w' => en = .returned (.bool true) ∧ Fr No w w' := by
  have F1 : Hid (∀ w1, Fr No w w1 → Calls Tryd.prog 13 #[.int .u8 1, .int .u8 13] w1 (ToldPost w1 ([111, 111, 112, 113], false, true))) := hid (fun w1 h => fields_any 1 13 w1 (by decide) (by decide) (hk.fr h))
  have F2 : Hid (∀ w1, Fr No w w1 → Calls Tryd.prog 13 #[.int .u8 2, .int .u8 13] w1 (ToldPost w1 ([111, 111, 112, 113, 122], false, true))) := hid (fun w1 h => fields_any 2 13 w1 (by decide) (by decide) (hk.fr h))
  have F3 : Hid (∀ w1, Fr No w w1 → Calls Tryd.prog 13 #[.int .u8 1, .int .u8 23] w1 (ToldPost w1 ([], false, false))) := hid (fun w1 h => fields_any 1 23 w1 (by decide) (by decide) (hk.fr h))
  have B1 := hid bound_1_109
  have C1 : Hid (∀ w1, Fr No w w1 → Calls Tryd.prog 18 #[.int .u8 11] w1 (ToldPost w1 ([97, 105, 115, 112, 113], false, true))) := hid (fun w1 h => command_fields 11 w1 (by decide) (hc.fr h))
  have N1 : Hid (∀ w1, Fr No w w1 → Calls Tryd.prog 33 #[.int .u8 10] w1 fun e w' => e = .returned (.string ⟨#[102, 101, 101, 32, 115, 101, 116]⟩) ∧ Fr No w1 w') := hid (fun w1 h => name_any 10 w1 (by decide) (hk.fr h))
  have N2 : Hid (∀ w1, Fr No w w1 → Calls Tryd.prog 30 #[.int .u8 11] w1 fun e w' => e = .returned (.string ⟨#[112, 108, 97, 99, 101]⟩) ∧ Fr No w1 w') := hid (fun w1 h => word_any 11 w1 (by decide) (hc.fr h))
  have M1 : Hid (∀ w1, Calls Tryd.prog 20 #[.string ⟨#[97, 45, 98, 95, 57]⟩] w1 fun e w' => e = .returned (.bool true) ∧ Fr No w1 w') := hid (fun w1 => mayName_any [97, 45, 98, 95, 57] w1 (by decide))
  have M2 : Hid (∀ w1, Calls Tryd.prog 20 #[.string ⟨#[65]⟩] w1 fun e w' => e = .returned (.bool false) ∧ Fr No w1 w') := hid (fun w1 => mayName_any [65] w1 (by decide))
  have M3 : Hid (∀ w1, Calls Tryd.prog 20 #[.string ⟨#[97, 32, 98]⟩] w1 fun e w' => e = .returned (.bool false) ∧ Fr No w1 w') := hid (fun w1 => mayName_any [97, 32, 98] w1 (by decide))
  have E1 := hid (fun w1 b c (h : Fr No w w1) => may_two 64 1 b c true w1 (by decide) (by decide) (by decide) (hk.fr h))
  have E2 := hid (fun w1 b c (h : Fr No w w1) => may_two 65 1 b c false w1 (by decide) (by decide) (by decide) (hk.fr h))
  have E3 := hid (fun w1 b c (h : Fr No w w1) => may_two 64 0 b c false w1 (by decide) (by decide) (by decide) (hk.fr h))
  unfold BoundIs at B1
  have hF : Fr No w w := Fr.refl w
  clear hk hc
  go_enter Tryd.func12, Tryd.ntmps12
  go_wp2_with (first
    | (go_at_call 13; (with_reducible refine (F1.out _ hF).mono ?_); intro e1 w1 h1; obtain ⟨L1, rfl, hr1, hf⟩ := h1; replace hF := hF.trans hf
       obtain ⟨b1, p1, rfl, d1⟩ := res_cell hr1 3 _ rfl; clear hr1)
    | (go_at_call 13; (with_reducible refine (F2.out _ hF).mono ?_); intro e1 w2 h1; obtain ⟨L2, rfl, hr2, hf⟩ := h1; replace hF := hF.trans hf; replace d1 := hf.cell0 d1
       obtain ⟨b2, p2, rfl, d2⟩ := res_cell hr2 4 _ rfl; clear hr2)
    | (go_at_call 13; (with_reducible refine (F3.out _ hF).mono ?_); intro e1 w3 h1; obtain ⟨L3, rfl, hr3, hf⟩ := h1; replace hF := hF.trans hf; replace d1 := hf.cell0 d1; replace d2 := hf.cell0 d2
       obtain ⟨q3, p3, rfl, _⟩ := hr3.at'; clear hr3)
    | (go_at_call 16; refine (B1.out _).mono ?_; rintro e1 w4 ⟨rfl, rfl⟩)
    | (go_at_call 18; refine (C1.out _ hF).mono ?_; intro e1 w5 h1; obtain ⟨L5, rfl, hr5, hf⟩ := h1; replace hF := hF.trans hf; replace d1 := hf.cell0 d1; replace d2 := hf.cell0 d2
       obtain ⟨b5, p5, rfl, d5⟩ := res_cell hr5 2 _ rfl; clear hr5; unfold clsV at d1 d2 d5
       simp only [List.length_map, List.length_cons, List.length_nil, Nat.zero_add, Nat.reduceAdd])
    | (go_at_call 33; refine (N1.out _ hF).mono ?_; rintro e1 w6 ⟨rfl, hf⟩; replace hF := hF.trans hf; replace d5 := hf.cell0 d5)
    | (go_at_call 38; refine (event5_any _ _ _ _ _ rfl _).mono ?_; rintro e1 w7 ⟨rfl, hf⟩
       have z0 := Fr.cell0 hf (two_new _ _ _ _).1
       have z1 := Fr.cell0 hf (two_new _ _ _ _).2
       replace d5 := Fr.cell0 hf (Fr.cell0 ((Fr.refl _).alloc _) d5)
       replace hF := (hF.alloc _).trans hf)
    | (go_at_call 14; refine (E1.out _ _ _ hF z0 z1).mono ?_; rintro e1 w8 ⟨rfl, hf⟩; replace hF := hF.trans hf; replace d5 := hf.cell0 d5; clear z0 z1)
    | (go_at_call 14; refine (E2.out _ _ _ hF z0 z1).mono ?_; rintro e1 w8 ⟨rfl, hf⟩; replace hF := hF.trans hf; replace d5 := hf.cell0 d5; clear z0 z1)
    | (go_at_call 14; refine (E3.out _ _ _ hF z0 z1).mono ?_; rintro e1 w8 ⟨rfl, hf⟩; replace hF := hF.trans hf; replace d5 := hf.cell0 d5; clear z0 z1)
    | (go_at_call 20; (with_reducible refine (M1.out _).mono ?_); rintro e1 w9 ⟨rfl, hf⟩; replace hF := hF.trans hf; replace d5 := hf.cell0 d5)
    | (go_at_call 20; (with_reducible refine (M2.out _).mono ?_); rintro e1 w9 ⟨rfl, hf⟩; replace hF := hF.trans hf; replace d5 := hf.cell0 d5)
    | (go_at_call 20; (with_reducible refine (M3.out _).mono ?_); rintro e1 w9 ⟨rfl, hf⟩; replace hF := hF.trans hf; replace d5 := hf.cell0 d5)
    | (go_at_call 30; refine (N2.out _ hF).mono ?_; rintro e1 w6 ⟨rfl, hf⟩; replace hF := hF.trans hf))
  go_ret
  exact ⟨by first | rfl | simp, hF⟩
end Go.Proofs.YtbihbkjdngjgkaaDoor
