/-
  awake of souklaw07: the examples are as they are told.
-/
import Derived.Test.YtgjabbhgmecbbaaDoorTold7
import Derived.Deep.RegionHeld3
import Derived.Deep.Cut
namespace Go.Proofs.YtgjabbhgmecbbaaDoor
open Go.RowKit

theorem aw_1 (b : Nat) (w : World) (hk : KT w) (h1 : w.heap[b]? = some (.cells #[.int .i64 1, .int .i64 5] 2 (0, 0))) :
    Calls Tryd.prog 19 #[.agg #[.int .u8 1, .int .u8 6, .slice (some ⟨b, 0, none⟩) 2 2, .slice none 0 0]] w (UpPost w (⟨2, 6, [1, 500], []⟩, 0)) := by
  have h := up_any (⟨some ⟨b, 0, none⟩, 2, none, 0⟩ : EvP) (⟨1, 6, [1, 5], []⟩ : Ev) w (evAt_lit (by decide) (by decide) (slat_lit h1 rfl) (SlAt.nil _ _) (by decide)) hk
  have e : upR (⟨1, 6, [1, 5], []⟩ : Ev) = (⟨2, 6, [1, 500], []⟩, 0) := by decide +kernel
  rw [e] at h
  exact h
theorem aw_2 (b : Nat) (w : World) (hk : KT w) (h1 : w.heap[b]? = some (.cells #[.int .i64 1, .int .i64 2, .int .i64 3, .int .i64 0, .int .i64 7, .int .i64 9] 2 (0, 0))) :
    Calls Tryd.prog 23 #[.agg #[.int .u8 1, .int .u8 11, .slice (some ⟨b, 0, none⟩) 6 6, .slice none 0 0]] w (UpPost w (⟨3, 11, [1, 2, 3, 1, 700, 9], []⟩, 0)) := by
  have h := newest_any (⟨some ⟨b, 0, none⟩, 6, none, 0⟩ : EvP) (⟨1, 11, [1, 2, 3, 0, 7, 9], []⟩ : Ev) w (evAt_lit (by decide) (by decide) (slat_lit h1 rfl) (SlAt.nil _ _) (by decide)) hk
  have e : newestR (⟨1, 11, [1, 2, 3, 0, 7, 9], []⟩ : Ev) = (⟨3, 11, [1, 2, 3, 1, 700, 9], []⟩, 0) := by decide +kernel
  rw [e] at h
  exact h
theorem aw_3 (b b2 : Nat) (w : World) (hk : KT w) (h1 : w.heap[b]? = some (.cells #[.int .i64 1] 2 (0, 0))) (h2 : w.heap[b2]? = some (.cells #[.string ⟨#[120]⟩] 9 (0, 0))) :
    Calls Tryd.prog 19 #[.agg #[.int .u8 1, .int .u8 3, .slice (some ⟨b, 0, none⟩) 1 1, .slice (some ⟨b2, 0, none⟩) 1 1]] w (UpPost w (⟨2, 3, [1, 100], [[120]]⟩, 0)) := by
  have h := up_any (⟨some ⟨b, 0, none⟩, 1, some ⟨b2, 0, none⟩, 1⟩ : EvP) (⟨1, 3, [1], [[120]]⟩ : Ev) w (evAt_lit (by decide) (by decide) (slat_lit h1 rfl) (slat_lit h2 rfl) (by decide)) hk
  have e : upR (⟨1, 3, [1], [[120]]⟩ : Ev) = (⟨2, 3, [1, 100], [[120]]⟩, 0) := by decide +kernel
  rw [e] at h
  exact h
theorem aw_4 (b : Nat) (w : World) (hk : KT w) (h1 : w.heap[b]? = some (.cells #[.int .i64 1, .int .i64 550] 2 (0, 0))) :
    Calls Tryd.prog 20 #[.agg #[.int .u8 2, .int .u8 6, .slice (some ⟨b, 0, none⟩) 2 2, .slice none 0 0]] w (UpPost w (zeroE, 43)) := by
  have h := down_any (⟨some ⟨b, 0, none⟩, 2, none, 0⟩ : EvP) (⟨2, 6, [1, 550], []⟩ : Ev) w (evAt_lit (by decide) (by decide) (slat_lit h1 rfl) (SlAt.nil _ _) (by decide)) hk
  have e : downR (⟨2, 6, [1, 550], []⟩ : Ev) = (zeroE, 43) := by decide +kernel
  rw [e] at h
  exact h
theorem aw_5 (b : Nat) (w : World) (hk : KT w) (h1 : w.heap[b]? = some (.cells #[.int .i64 15] 2 (0, 0))) :
    Calls Tryd.prog 20 #[.agg #[.int .u8 3, .int .u8 20, .slice (some ⟨b, 0, none⟩) 1 1, .slice none 0 0]] w (UpPost w (zeroE, 43)) := by
  have h := down_any (⟨some ⟨b, 0, none⟩, 1, none, 0⟩ : EvP) (⟨3, 20, [15], []⟩ : Ev) w (evAt_lit (by decide) (by decide) (slat_lit h1 rfl) (SlAt.nil _ _) (by decide)) hk
  have e : downR (⟨3, 20, [15], []⟩ : Ev) = (zeroE, 43) := by decide +kernel
  rw [e] at h
  exact h
theorem aw_6 (b : Nat) (w : World) (hk : KT w) (h1 : w.heap[b]? = some (.cells #[.int .i64 2, .int .i64 1, .int .i64 700, .int .i64 9, .int .i64 1] 2 (0, 0))) :
    Calls Tryd.prog 20 #[.agg #[.int .u8 2, .int .u8 13, .slice (some ⟨b, 0, none⟩) 5 5, .slice none 0 0]] w (UpPost w (zeroE, 43)) := by
  have h := down_any (⟨some ⟨b, 0, none⟩, 5, none, 0⟩ : EvP) (⟨2, 13, [2, 1, 700, 9, 1], []⟩ : Ev) w (evAt_lit (by decide) (by decide) (slat_lit h1 rfl) (SlAt.nil _ _) (by decide)) hk
  have e : downR (⟨2, 13, [2, 1, 700, 9, 1], []⟩ : Ev) = (zeroE, 43) := by decide +kernel
  rw [e] at h
  exact h
theorem aw_7 (b : Nat) (w : World) (hk : KT w) (h1 : w.heap[b]? = some (.cells #[.int .i64 2, .int .i64 1, .int .i64 700, .int .i64 9, .int .i64 0] 2 (0, 0))) :
    Calls Tryd.prog 20 #[.agg #[.int .u8 2, .int .u8 13, .slice (some ⟨b, 0, none⟩) 5 5, .slice none 0 0]] w (UpPost w (⟨1, 13, [2, 1, 7, 9], []⟩, 0)) := by
  have h := down_any (⟨some ⟨b, 0, none⟩, 5, none, 0⟩ : EvP) (⟨2, 13, [2, 1, 700, 9, 0], []⟩ : Ev) w (evAt_lit (by decide) (by decide) (slat_lit h1 rfl) (SlAt.nil _ _) (by decide)) hk
  have e : downR (⟨2, 13, [2, 1, 700, 9, 0], []⟩ : Ev) = (⟨1, 13, [2, 1, 7, 9], []⟩, 0) := by decide +kernel
  rw [e] at h
  exact h
theorem aw_t1 (b : Nat) (s : EvP) (w : World) (hs : EvAt w s ⟨2, 6, [1, 500], []⟩) (h1 : w.heap[b]? = some (.cells #[.int .i64 1, .int .i64 500] 2 (0, 0))) :
    Calls Tryd.prog 21 #[.agg #[.int .u8 2, .int .u8 6, .slice s.qn 2 s.cn, .slice s.qt 0 s.ct], .int .i64 0, .agg #[.int .u8 2, .int .u8 6, .slice (some ⟨b, 0, none⟩) 2 2, .slice none 0 0]] w fun en w' => en = .returned (.bool true) ∧ Fr No w w' := by
  have h := told7_any s (⟨some ⟨b, 0, none⟩, 2, none, 0⟩ : EvP) (⟨2, 6, [1, 500], []⟩ : Ev) (⟨2, 6, [1, 500], []⟩ : Ev) 0 w (fun _ => ⟨hs, evAt_lit (by decide) (by decide) (slat_lit h1 rfl) (SlAt.nil _ _) (by decide)⟩)
  have e : (decide ((0 : Int) = 0) && sameS (⟨2, 6, [1, 500], []⟩ : Ev) ⟨2, 6, [1, 500], []⟩) = true := by decide +kernel
  rw [e] at h
  exact h
theorem aw_t2 (b : Nat) (s : EvP) (w : World) (hs : EvAt w s ⟨3, 11, [1, 2, 3, 1, 700, 9], []⟩) (h1 : w.heap[b]? = some (.cells #[.int .i64 1, .int .i64 2, .int .i64 3, .int .i64 1, .int .i64 700, .int .i64 9] 2 (0, 0))) :
    Calls Tryd.prog 21 #[.agg #[.int .u8 3, .int .u8 11, .slice s.qn 6 s.cn, .slice s.qt 0 s.ct], .int .i64 0, .agg #[.int .u8 3, .int .u8 11, .slice (some ⟨b, 0, none⟩) 6 6, .slice none 0 0]] w fun en w' => en = .returned (.bool true) ∧ Fr No w w' := by
  have h := told7_any s (⟨some ⟨b, 0, none⟩, 6, none, 0⟩ : EvP) (⟨3, 11, [1, 2, 3, 1, 700, 9], []⟩ : Ev) (⟨3, 11, [1, 2, 3, 1, 700, 9], []⟩ : Ev) 0 w (fun _ => ⟨hs, evAt_lit (by decide) (by decide) (slat_lit h1 rfl) (SlAt.nil _ _) (by decide)⟩)
  have e : (decide ((0 : Int) = 0) && sameS (⟨3, 11, [1, 2, 3, 1, 700, 9], []⟩ : Ev) ⟨3, 11, [1, 2, 3, 1, 700, 9], []⟩) = true := by decide +kernel
  rw [e] at h
  exact h
theorem aw_t3 (b b2 : Nat) (s : EvP) (w : World) (hs : EvAt w s ⟨2, 3, [1, 100], [[120]]⟩) (h1 : w.heap[b]? = some (.cells #[.int .i64 1, .int .i64 100] 2 (0, 0))) (h2 : w.heap[b2]? = some (.cells #[.string ⟨#[120]⟩] 9 (0, 0))) :
    Calls Tryd.prog 21 #[.agg #[.int .u8 2, .int .u8 3, .slice s.qn 2 s.cn, .slice s.qt 1 s.ct], .int .i64 0, .agg #[.int .u8 2, .int .u8 3, .slice (some ⟨b, 0, none⟩) 2 2, .slice (some ⟨b2, 0, none⟩) 1 1]] w fun en w' => en = .returned (.bool true) ∧ Fr No w w' := by
  have h := told7_any s (⟨some ⟨b, 0, none⟩, 2, some ⟨b2, 0, none⟩, 1⟩ : EvP) (⟨2, 3, [1, 100], [[120]]⟩ : Ev) (⟨2, 3, [1, 100], [[120]]⟩ : Ev) 0 w (fun _ => ⟨hs, evAt_lit (by decide) (by decide) (slat_lit h1 rfl) (slat_lit h2 rfl) (by decide)⟩)
  have e : (decide ((0 : Int) = 0) && sameS (⟨2, 3, [1, 100], [[120]]⟩ : Ev) ⟨2, 3, [1, 100], [[120]]⟩) = true := by decide +kernel
  rw [e] at h
  exact h
theorem aw_t4 (b : Nat) (s : EvP) (w : World) (hs : EvAt w s ⟨1, 13, [2, 1, 7, 9], []⟩) (h1 : w.heap[b]? = some (.cells #[.int .i64 2, .int .i64 1, .int .i64 7, .int .i64 9] 2 (0, 0))) :
    Calls Tryd.prog 21 #[.agg #[.int .u8 1, .int .u8 13, .slice s.qn 4 s.cn, .slice s.qt 0 s.ct], .int .i64 0, .agg #[.int .u8 1, .int .u8 13, .slice (some ⟨b, 0, none⟩) 4 4, .slice none 0 0]] w fun en w' => en = .returned (.bool true) ∧ Fr No w w' := by
  have h := told7_any s (⟨some ⟨b, 0, none⟩, 4, none, 0⟩ : EvP) (⟨1, 13, [2, 1, 7, 9], []⟩ : Ev) (⟨1, 13, [2, 1, 7, 9], []⟩ : Ev) 0 w (fun _ => ⟨hs, evAt_lit (by decide) (by decide) (slat_lit h1 rfl) (SlAt.nil _ _) (by decide)⟩)
  have e : (decide ((0 : Int) = 0) && sameS (⟨1, 13, [2, 1, 7, 9], []⟩ : Ev) ⟨1, 13, [2, 1, 7, 9], []⟩) = true := by decide +kernel
  rw [e] at h
  exact h
theorem aw_t5 (b : Nat) (s : EvP) (w : World) (hs : EvAt w s ⟨2, 21, [1, 2, 3], []⟩) (h1 : w.heap[b]? = some (.cells #[.int .i64 1, .int .i64 2, .int .i64 3] 2 (0, 0))) :
    Calls Tryd.prog 21 #[.agg #[.int .u8 2, .int .u8 21, .slice s.qn 3 s.cn, .slice s.qt 0 s.ct], .int .i64 0, .agg #[.int .u8 2, .int .u8 21, .slice (some ⟨b, 0, none⟩) 3 3, .slice none 0 0]] w fun en w' => en = .returned (.bool true) ∧ Fr No w w' := by
  have h := told7_any s (⟨some ⟨b, 0, none⟩, 3, none, 0⟩ : EvP) (⟨2, 21, [1, 2, 3], []⟩ : Ev) (⟨2, 21, [1, 2, 3], []⟩ : Ev) 0 w (fun _ => ⟨hs, evAt_lit (by decide) (by decide) (slat_lit h1 rfl) (SlAt.nil _ _) (by decide)⟩)
  have e : (decide ((0 : Int) = 0) && sameS (⟨2, 21, [1, 2, 3], []⟩ : Ev) ⟨2, 21, [1, 2, 3], []⟩) = true := by decide +kernel
  rw [e] at h
  exact h
theorem aw_8 (b g : Nat) (w : World) (hk : KT w) (h1 : w.heap[b]? = some (.cells #[.int .i64 1, .int .i64 2, .int .i64 3] 2 (0, 0)))
    (hg : w.heap[g]? = some (.cells #[.int .u8 3, .int .u8 21, .slice (some ⟨b, 0, none⟩) 3 3, .slice none 0 0] 25 (0, 0))) :
    Calls Tryd.prog 16 #[.slice (some ⟨g, 0, none⟩) 1 1, .int .u8 1] w fun en w' => ∃ (gl : Nat) (cap : Nat) (s : EvP), en = .returned (.tuple #[.int .u8 2, .slice (some ⟨gl, 0, none⟩) 1 cap, .int .i64 0]) ∧
      w'.cell? ⟨gl, 0, none⟩ = some (.int .u8 2) ∧ w'.cell? ⟨gl, 1, none⟩ = some (.int .u8 21) ∧ w'.cell? ⟨gl, 2, none⟩ = some (.slice s.qn 3 s.cn) ∧ w'.cell? ⟨gl, 3, none⟩ = some (.slice s.qt 0 s.ct) ∧ EvAt w' s ⟨2, 21, [1, 2, 3], []⟩ ∧ Fr No w w' := by
  have hE : EvAt w ⟨some ⟨b, 0, none⟩, 3, none, 0⟩ ⟨3, 21, [1, 2, 3], []⟩ := evAt_lit (by decide) (by decide) (slat_lit h1 rfl) (SlAt.nil _ _) (by decide)
  have hl : LsAt w (some ⟨g, 0, none⟩) [(⟨some ⟨b, 0, none⟩, 3, none, 0⟩, ⟨3, 21, [1, 2, 3], []⟩)] := by
    intro i s e hi
    match i, hi with
    | 0, hi =>
      simp only [List.getElem?_cons_zero, Option.some.injEq, Prod.mk.injEq] at hi
      obtain ⟨rfl, rfl⟩ := hi
      exact ⟨hE, g, 0, rfl, cell_of_row w g 0 _ _ (0, 0) hg, cell_of_row w g 1 _ _ (0, 0) hg, cell_of_row w g 2 _ _ (0, 0) hg, cell_of_row w g 3 _ _ (0, 0) hg⟩
    | i + 1, hi => simp at hi
  have h := lowest_any _ _ 1 1 w hl hk (by simp) (by decide)
  refine Calls.mono h fun en w' hp => ?_
  obtain ⟨hf, hp⟩ := hp
  have e1 : anyBad [((⟨some ⟨b, 0, none⟩, 3, none, 0⟩ : EvP), (⟨3, 21, [1, 2, 3], []⟩ : Ev))] = false := by
    show (!mayS ⟨3, 21, [1, 2, 3], []⟩ || false) = false
    decide +kernel
  have e2 : lowO [((⟨some ⟨b, 0, none⟩, 3, none, 0⟩ : EvP), (⟨3, 21, [1, 2, 3], []⟩ : Ev))] 1 = some 2 := by
    have a1 : allOK [((⟨some ⟨b, 0, none⟩, 3, none, 0⟩ : EvP), (⟨3, 21, [1, 2, 3], []⟩ : Ev))] 1 = false := by
      show (decide ((toR ⟨3, 21, [1, 2, 3], []⟩ 1).2 = 0) && true) = false
      decide +kernel
    have a2 : allOK [((⟨some ⟨b, 0, none⟩, 3, none, 0⟩ : EvP), (⟨3, 21, [1, 2, 3], []⟩ : Ev))] 2 = true := by
      show (decide ((toR ⟨3, 21, [1, 2, 3], []⟩ 2).2 = 0) && true) = true
      decide +kernel
    rw [lowO_step (by decide) (by decide), a1, if_neg (by simp), lowO_step (by decide) (by decide), a2, if_pos rfl]
  rcases hp with ⟨h1, _⟩ | ⟨_, h2, _⟩ | ⟨_, u, L, q, cap, h3, h4, h5, h6⟩
  · rw [e1] at h1; cases h1
  · rw [e2] at h2; cases h2
  · rw [e2] at h3
    obtain rfl : 2 = u := Option.some.inj h3
    have e3 : (toR ⟨3, 21, [1, 2, 3], []⟩ 2).1 = ⟨2, 21, [1, 2, 3], []⟩ := by decide +kernel
    rcases L with _ | ⟨⟨s, x⟩, L⟩
    · simp at h5
    · rcases L with _ | ⟨y, L⟩
      · simp only [List.map_cons, List.map_nil, List.cons.injEq, and_true] at h5
        rw [e3] at h5
        subst h5
        obtain ⟨gl, rfl, k0, k1, k2, k3⟩ := h6.cells (i := 0) rfl
        exact ⟨gl, cap, s, h4, k0, k1, k2, k3, (h6.evs _ (List.mem_cons_self ..)).may (show mayS ⟨2, 21, [1, 2, 3], []⟩ = true from by decide +kernel) (show 21 ≤ 255 from by decide), hf⟩
      · simp at h5
theorem aw_two (X : World) (c1 c2 : Array Value) (t1 t2 : TypeId) : ((X.alloc (.cells c1 t1)).alloc (.cells c2 t2)).heap[X.heap.size]? = some (.cells c1 t1 (0, 0)) ∧ ((X.alloc (.cells c1 t1)).alloc (.cells c2 t2)).heap[X.heap.size + 1]? = some (.cells c2 t2 (0, 0)) := by
  refine ⟨((Fr.refl _).alloc _).heap0 (Go.heap_alloc_new _ _), ?_⟩
  have h := Go.heap_alloc_new (X.alloc (.cells c1 t1)) (.cells c2 t2)
  simp only [World.size_alloc] at h
  exact h
theorem aw_box {W w : World} {b : Nat} {cs : Array Value} (h : W.heap[b]? = some (.cells cs 25 (0, 0))) (hf : Fr No W w) (j : Nat) (v : Value) (hv : cs[j]? = some v) : w.cell? ⟨b, j, none⟩ = some v := by
  rw [cell_of_row w b j cs _ (0, 0) (hf.heap0 h), hv]

set_option maxHeartbeats 8000000 in
set_option maxRecDepth 100000 in
theorem awake7_any (w : World) (hk : KT w) :
    Calls Tryd.prog 9 #[] w fun en w' => en = .returned (.bool true) ∧ Fr No w w' := by
  have HK := hid (fun w1 (h : Fr No w w1) => hk.fr h)
  have F0 : Fr No w w := Fr.refl w
  clear hk
  go_enter Tryd.func9, Tryd.ntmps9
  go_upto_region 1 with fail
  go_cut [1, 2] from 18 (fun x f w' => f = .int .i64 0 ∧ Fr No w w' ∧ ∃ b', ∃ s', x = .pointer (some ⟨b', 0, none⟩) ∧ w'.heap[b']? = some (.cells #[.int .u8 2, .int .u8 6, .slice s'.qn 2 s'.cn, .slice s'.qt 0 s'.ct] 25 (0, 0)) ∧ EvAt w' s' ⟨2, 6, [1, 500], []⟩)
  case first =>
    go_wp2_with (first
      | (go_at_call 25; refine (event7_any _ _ _ _ _ _ rfl _).mono ?_; rintro e1 w1 ⟨rfl, hf1⟩; have hr1 := hf1.heap0 (Go.heap_alloc_new _ _); replace hf1 := ((Fr.refl _).alloc _).trans hf1)
      | (go_at_call 19; refine (aw_1 _ _ (HK.out _ (F0.trans hf1)) hr1).mono ?_; rintro e2 w2 ⟨s2, rfl, hn2, hf2⟩; unfold evV; clear hr1))
    go_meet
    case rel => exact ⟨rfl, (hf1.trans hf2).alloc _, _, s2, rfl, Go.heap_alloc_new _ _, (hn2.may (by decide +kernel) (by decide)).fr ((Fr.refl _).alloc _)⟩
  obtain ⟨rfl, hF, b1, s1, rfl, hb, hE⟩ := hcut
  rename World => v1
  have F1 := F0.trans hF
  have D1 := hF
  have B1 := hid (And.intro hb hE)
  clear hb hE hF
  go_upto_region 2 with fail
  go_cut [3, 4] from 18 (fun x f w' => f = .int .i64 0 ∧ Fr No v1 w' ∧ ∃ b', ∃ s', x = .pointer (some ⟨b', 0, none⟩) ∧ w'.heap[b']? = some (.cells #[.int .u8 3, .int .u8 11, .slice s'.qn 6 s'.cn, .slice s'.qt 0 s'.ct] 25 (0, 0)) ∧ EvAt w' s' ⟨3, 11, [1, 2, 3, 1, 700, 9], []⟩)
  case first =>
    go_wp2_with (first
      | (go_at_call 25; refine (event7_any _ _ _ _ _ _ rfl _).mono ?_; rintro e1 w1 ⟨rfl, hf1⟩; have hr1 := hf1.heap0 (Go.heap_alloc_new _ _); replace hf1 := ((Fr.refl _).alloc _).trans hf1)
      | (go_at_call 23; refine (aw_2 _ _ (HK.out _ (F1.trans hf1)) hr1).mono ?_; rintro e2 w2 ⟨s2, rfl, hn2, hf2⟩; unfold evV; clear hr1))
    go_meet
    case rel => exact ⟨rfl, (hf1.trans hf2).alloc _, _, s2, rfl, Go.heap_alloc_new _ _, (hn2.may (by decide +kernel) (by decide)).fr ((Fr.refl _).alloc _)⟩
  obtain ⟨rfl, hF, b2, s2, rfl, hb, hE⟩ := hcut
  rename World => v2
  have F2 := F1.trans hF
  have D2 := hF
  have B2 := hid (And.intro hb hE)
  clear hb hE hF
  go_upto_region 3 with fail
  go_cut [5, 6] from 18 (fun x f w' => f = .int .i64 0 ∧ Fr No v2 w' ∧ ∃ b', ∃ s', x = .pointer (some ⟨b', 0, none⟩) ∧ w'.heap[b']? = some (.cells #[.int .u8 2, .int .u8 3, .slice s'.qn 2 s'.cn, .slice s'.qt 1 s'.ct] 25 (0, 0)) ∧ EvAt w' s' ⟨2, 3, [1, 100], [[120]]⟩)
  case first =>
    have hf1 : Fr No v2 ((v2.alloc (.cells #[.int .i64 1] 2)).alloc (.cells #[.string ⟨#[120]⟩] 9)) := ((Fr.refl _).alloc _).alloc _
    have hr2 := Go.heap_alloc_new (v2.alloc (.cells #[.int .i64 1] 2)) (.cells #[.string ⟨#[120]⟩] 9)
    have hr1 := ((Fr.refl (v2.alloc (.cells #[.int .i64 1] 2))).alloc (.cells #[.string ⟨#[120]⟩] 9)).heap0 (Go.heap_alloc_new v2 (.cells #[.int .i64 1] 2))
    simp only [World.size_alloc] at hr2
    have H1 := hid hr1
    have H2 := hid hr2
    clear hr1 hr2
    go_wp2_with (go_at_call 19; refine (aw_3 _ _ _ (HK.out _ (F2.trans hf1)) H1.out H2.out).mono ?_; rintro e2 w2 ⟨s2, rfl, hn2, hf2⟩; unfold evV)
    go_meet
    case rel => exact ⟨rfl, (hf1.trans hf2).alloc _, _, s2, rfl, Go.heap_alloc_new _ _, (hn2.may (by decide +kernel) (by decide)).fr ((Fr.refl _).alloc _)⟩
  obtain ⟨rfl, hF, b3, s3, rfl, hb, hE⟩ := hcut
  rename World => v3
  have F3 := F2.trans hF
  have D3 := hF
  have B3 := hid (And.intro hb hE)
  clear hb hE hF
  go_upto_region 4 with fail
  go_cut [7, 8] from 18 (fun x f w' => f = .int .i64 43 ∧ Fr No v3 w')
  case first =>
    go_wp2_with (first
      | (go_at_call 25; refine (event7_any _ _ _ _ _ _ rfl _).mono ?_; rintro e1 w1 ⟨rfl, hf1⟩; have hr1 := hf1.heap0 (Go.heap_alloc_new _ _); replace hf1 := ((Fr.refl _).alloc _).trans hf1)
      | (go_at_call 20; refine (aw_4 _ _ (HK.out _ (F3.trans hf1)) hr1).mono ?_; rintro e2 w2 ⟨s2, rfl, hn2, hf2⟩; unfold evV; clear hr1))
    go_meet
    case rel => exact ⟨rfl, (hf1.trans hf2).alloc _⟩
  obtain ⟨rfl, hF⟩ := hcut
  rename World => v4
  have F4 := F3.trans hF
  have D4 := hF
  clear hF
  go_upto_region 5 with fail
  go_cut [9, 10] from 18 (fun x f w' => f = .int .i64 43 ∧ Fr No v4 w')
  case first =>
    go_wp2_with (first
      | (go_at_call 25; refine (event7_any _ _ _ _ _ _ rfl _).mono ?_; rintro e1 w1 ⟨rfl, hf1⟩; have hr1 := hf1.heap0 (Go.heap_alloc_new _ _); replace hf1 := ((Fr.refl _).alloc _).trans hf1)
      | (go_at_call 20; refine (aw_5 _ _ (HK.out _ (F4.trans hf1)) hr1).mono ?_; rintro e2 w2 ⟨s2, rfl, hn2, hf2⟩; unfold evV; clear hr1))
    go_meet
    case rel => exact ⟨rfl, (hf1.trans hf2).alloc _⟩
  obtain ⟨rfl, hF⟩ := hcut
  rename World => v5
  have F5 := F4.trans hF
  have D5 := hF
  clear hF
  go_upto_region 6 with fail
  go_cut [11, 12] from 18 (fun x f w' => f = .int .i64 43 ∧ Fr No v5 w')
  case first =>
    go_wp2_with (first
      | (go_at_call 25; refine (event7_any _ _ _ _ _ _ rfl _).mono ?_; rintro e1 w1 ⟨rfl, hf1⟩; have hr1 := hf1.heap0 (Go.heap_alloc_new _ _); replace hf1 := ((Fr.refl _).alloc _).trans hf1)
      | (go_at_call 20; refine (aw_6 _ _ (HK.out _ (F5.trans hf1)) hr1).mono ?_; rintro e2 w2 ⟨s2, rfl, hn2, hf2⟩; unfold evV; clear hr1))
    go_meet
    case rel => exact ⟨rfl, (hf1.trans hf2).alloc _⟩
  obtain ⟨rfl, hF⟩ := hcut
  rename World => v6
  have F6 := F5.trans hF
  have D6 := hF
  clear hF
  go_upto_region 7 with fail
  go_cut [13, 14] from 18 (fun x f w' => f = .int .i64 0 ∧ Fr No v6 w' ∧ ∃ b', ∃ s', x = .pointer (some ⟨b', 0, none⟩) ∧ w'.heap[b']? = some (.cells #[.int .u8 1, .int .u8 13, .slice s'.qn 4 s'.cn, .slice s'.qt 0 s'.ct] 25 (0, 0)) ∧ EvAt w' s' ⟨1, 13, [2, 1, 7, 9], []⟩)
  case first =>
    go_wp2_with (first
      | (go_at_call 25; refine (event7_any _ _ _ _ _ _ rfl _).mono ?_; rintro e1 w1 ⟨rfl, hf1⟩; have hr1 := hf1.heap0 (Go.heap_alloc_new _ _); replace hf1 := ((Fr.refl _).alloc _).trans hf1)
      | (go_at_call 20; refine (aw_7 _ _ (HK.out _ (F6.trans hf1)) hr1).mono ?_; rintro e2 w2 ⟨s2, rfl, hn2, hf2⟩; unfold evV; clear hr1))
    go_meet
    case rel => exact ⟨rfl, (hf1.trans hf2).alloc _, _, s2, rfl, Go.heap_alloc_new _ _, (hn2.may (by decide +kernel) (by decide)).fr ((Fr.refl _).alloc _)⟩
  obtain ⟨rfl, hF, b7, s7, rfl, hb, hE⟩ := hcut
  rename World => v7
  have F7 := F6.trans hF
  have D7 := hF
  have B7 := hid (And.intro hb hE)
  clear hb hE hF
  go_upto_region 8 with fail
  go_cut [15, 16, 17] from 18 (fun u x f w' => u = .int .u8 2 ∧ f = .int .i64 0 ∧ Fr No v7 w' ∧ ∃ (gl cap : Nat) (s : EvP), x = .slice (some ⟨gl, 0, none⟩) 1 cap ∧
    Hid (w'.cell? ⟨gl, 0, none⟩ = some (.int .u8 2) ∧ w'.cell? ⟨gl, 1, none⟩ = some (.int .u8 21) ∧ w'.cell? ⟨gl, 2, none⟩ = some (.slice s.qn 3 s.cn) ∧ w'.cell? ⟨gl, 3, none⟩ = some (.slice s.qt 0 s.ct) ∧ EvAt w' s ⟨2, 21, [1, 2, 3], []⟩))
  case first =>
    go_wp2_with (first
      | (go_at_call 25; refine (event7_any _ _ _ _ _ _ rfl _).mono ?_; rintro e1 w1 ⟨rfl, hf1⟩; have hr1 := hf1.heap0 (Go.heap_alloc_new _ _); replace hf1 := ((Fr.refl _).alloc _).trans hf1)
      | (go_at_call 16; refine (aw_8 _ _ _ (HK.out _ (F7.trans (hf1.alloc _))) (((Fr.refl _).alloc _).heap0 hr1) (Go.heap_alloc_new _ _)).mono ?_; rintro e2 w2 ⟨gl, cap, s2, rfl, k0, k1, k2, k3, hE2, hf2⟩; have HX := hid (And.intro k0 (And.intro k1 (And.intro k2 (And.intro k3 hE2)))); clear hr1 k0 k1 k2 k3 hE2))
    go_meet
    case rel => exact ⟨rfl, rfl, (hf1.alloc _).trans hf2, gl, cap, s2, rfl, HX⟩
  obtain ⟨rfl, rfl, D8, b8, cap8, s8, rfl, B8⟩ := hcut
  rename World => v8
  have F8 := F7.trans D8
  have E1 : Fr No v1 v8 := ((((((D2.trans D3).trans D4).trans D5).trans D6).trans D7).trans D8)
  have c10 : v8.cell? ⟨b1, 0, none⟩ = some (.int .u8 2) := aw_box B1.out.1 E1 0 _ rfl
  have c11 : v8.cell? ⟨b1, 1, none⟩ = some (.int .u8 6) := aw_box B1.out.1 E1 1 _ rfl
  have c12 : v8.cell? ⟨b1, 2, none⟩ = some (.slice s1.qn 2 s1.cn) := aw_box B1.out.1 E1 2 _ rfl
  have c13 : v8.cell? ⟨b1, 3, none⟩ = some (.slice s1.qt 0 s1.ct) := aw_box B1.out.1 E1 3 _ rfl
  have E2 : Fr No v2 v8 := (((((D3.trans D4).trans D5).trans D6).trans D7).trans D8)
  have c20 : v8.cell? ⟨b2, 0, none⟩ = some (.int .u8 3) := aw_box B2.out.1 E2 0 _ rfl
  have c21 : v8.cell? ⟨b2, 1, none⟩ = some (.int .u8 11) := aw_box B2.out.1 E2 1 _ rfl
  have c22 : v8.cell? ⟨b2, 2, none⟩ = some (.slice s2.qn 6 s2.cn) := aw_box B2.out.1 E2 2 _ rfl
  have c23 : v8.cell? ⟨b2, 3, none⟩ = some (.slice s2.qt 0 s2.ct) := aw_box B2.out.1 E2 3 _ rfl
  have E3 : Fr No v3 v8 := ((((D4.trans D5).trans D6).trans D7).trans D8)
  have c30 : v8.cell? ⟨b3, 0, none⟩ = some (.int .u8 2) := aw_box B3.out.1 E3 0 _ rfl
  have c31 : v8.cell? ⟨b3, 1, none⟩ = some (.int .u8 3) := aw_box B3.out.1 E3 1 _ rfl
  have c32 : v8.cell? ⟨b3, 2, none⟩ = some (.slice s3.qn 2 s3.cn) := aw_box B3.out.1 E3 2 _ rfl
  have c33 : v8.cell? ⟨b3, 3, none⟩ = some (.slice s3.qt 1 s3.ct) := aw_box B3.out.1 E3 3 _ rfl
  have E7 : Fr No v7 v8 := D8
  have c70 : v8.cell? ⟨b7, 0, none⟩ = some (.int .u8 1) := aw_box B7.out.1 E7 0 _ rfl
  have c71 : v8.cell? ⟨b7, 1, none⟩ = some (.int .u8 13) := aw_box B7.out.1 E7 1 _ rfl
  have c72 : v8.cell? ⟨b7, 2, none⟩ = some (.slice s7.qn 4 s7.cn) := aw_box B7.out.1 E7 2 _ rfl
  have c73 : v8.cell? ⟨b7, 3, none⟩ = some (.slice s7.qt 0 s7.ct) := aw_box B7.out.1 E7 3 _ rfl
  obtain ⟨c80, c81, c82, c83, E8v⟩ := B8.out
  have KEEP := hid (fun w' (hF : Fr No v8 w') => (⟨hF, hF.cell0 c10, hF.cell0 c11, hF.cell0 c12, hF.cell0 c13, hF.cell0 c20, hF.cell0 c21, hF.cell0 c22, hF.cell0 c23, hF.cell0 c30, hF.cell0 c31, hF.cell0 c32, hF.cell0 c33, hF.cell0 c70, hF.cell0 c71, hF.cell0 c72, hF.cell0 c73, hF.cell0 c80, hF.cell0 c81, hF.cell0 c82, hF.cell0 c83⟩ : Fr No v8 w' ∧ w'.cell? ⟨b1, 0, none⟩ = some (.int .u8 2) ∧ w'.cell? ⟨b1, 1, none⟩ = some (.int .u8 6) ∧ w'.cell? ⟨b1, 2, none⟩ = some (.slice s1.qn 2 s1.cn) ∧ w'.cell? ⟨b1, 3, none⟩ = some (.slice s1.qt 0 s1.ct) ∧ w'.cell? ⟨b2, 0, none⟩ = some (.int .u8 3) ∧ w'.cell? ⟨b2, 1, none⟩ = some (.int .u8 11) ∧ w'.cell? ⟨b2, 2, none⟩ = some (.slice s2.qn 6 s2.cn) ∧ w'.cell? ⟨b2, 3, none⟩ = some (.slice s2.qt 0 s2.ct) ∧ w'.cell? ⟨b3, 0, none⟩ = some (.int .u8 2) ∧ w'.cell? ⟨b3, 1, none⟩ = some (.int .u8 3) ∧ w'.cell? ⟨b3, 2, none⟩ = some (.slice s3.qn 2 s3.cn) ∧ w'.cell? ⟨b3, 3, none⟩ = some (.slice s3.qt 1 s3.ct) ∧ w'.cell? ⟨b7, 0, none⟩ = some (.int .u8 1) ∧ w'.cell? ⟨b7, 1, none⟩ = some (.int .u8 13) ∧ w'.cell? ⟨b7, 2, none⟩ = some (.slice s7.qn 4 s7.cn) ∧ w'.cell? ⟨b7, 3, none⟩ = some (.slice s7.qt 0 s7.ct) ∧ w'.cell? ⟨b8, 0, none⟩ = some (.int .u8 2) ∧ w'.cell? ⟨b8, 1, none⟩ = some (.int .u8 21) ∧ w'.cell? ⟨b8, 2, none⟩ = some (.slice s8.qn 3 s8.cn) ∧ w'.cell? ⟨b8, 3, none⟩ = some (.slice s8.qt 0 s8.ct)))
  go_upto_region 9 with fail
  go_region_held3 (fun w' => Fr No v8 w' ∧ w'.cell? ⟨b1, 0, none⟩ = some (.int .u8 2) ∧ w'.cell? ⟨b1, 1, none⟩ = some (.int .u8 6) ∧ w'.cell? ⟨b1, 2, none⟩ = some (.slice s1.qn 2 s1.cn) ∧ w'.cell? ⟨b1, 3, none⟩ = some (.slice s1.qt 0 s1.ct) ∧ w'.cell? ⟨b2, 0, none⟩ = some (.int .u8 3) ∧ w'.cell? ⟨b2, 1, none⟩ = some (.int .u8 11) ∧ w'.cell? ⟨b2, 2, none⟩ = some (.slice s2.qn 6 s2.cn) ∧ w'.cell? ⟨b2, 3, none⟩ = some (.slice s2.qt 0 s2.ct) ∧ w'.cell? ⟨b3, 0, none⟩ = some (.int .u8 2) ∧ w'.cell? ⟨b3, 1, none⟩ = some (.int .u8 3) ∧ w'.cell? ⟨b3, 2, none⟩ = some (.slice s3.qn 2 s3.cn) ∧ w'.cell? ⟨b3, 3, none⟩ = some (.slice s3.qt 1 s3.ct) ∧ w'.cell? ⟨b7, 0, none⟩ = some (.int .u8 1) ∧ w'.cell? ⟨b7, 1, none⟩ = some (.int .u8 13) ∧ w'.cell? ⟨b7, 2, none⟩ = some (.slice s7.qn 4 s7.cn) ∧ w'.cell? ⟨b7, 3, none⟩ = some (.slice s7.qt 0 s7.ct) ∧ w'.cell? ⟨b8, 0, none⟩ = some (.int .u8 2) ∧ w'.cell? ⟨b8, 1, none⟩ = some (.int .u8 21) ∧ w'.cell? ⟨b8, 2, none⟩ = some (.slice s8.qn 3 s8.cn) ∧ w'.cell? ⟨b8, 3, none⟩ = some (.slice s8.qt 0 s8.ct))
    ((go_split_ands; refine KEEP.out _ ?_; repeat (first | exact Fr.refl _ | assumption | refine Fr.drew ?_ | refine Fr.alloc ?_ _)))
    (first
      | (go_at_call 25; refine (event7_any _ _ _ _ _ _ rfl _).mono ?_; rintro e1 w1 ⟨rfl, hf1⟩; have hF1 : Fr No v8 w1 := Fr.trans (by repeat (first | exact Fr.refl _ | assumption | refine Fr.drew ?_ | refine Fr.alloc ?_ _)) hf1; have hr1 := hf1.heap0 (Go.heap_alloc_new _ _))
      | (go_at_call 21; (with_reducible refine (aw_t1 _ s1 _ ((B1.out.2.fr E1).fr (by repeat (first | exact Fr.refl _ | assumption | refine Fr.drew ?_ | refine Fr.alloc ?_ _))) hr1).mono ?_); rintro e2 w2 ⟨rfl, hf2⟩; have hF2 : Fr No v8 w2 := Fr.trans (by repeat (first | exact Fr.refl _ | assumption | refine Fr.drew ?_ | refine Fr.alloc ?_ _)) hf2; clear hr1)
      | (go_at_call 21; (with_reducible refine (aw_t2 _ s2 _ ((B2.out.2.fr E2).fr (by repeat (first | exact Fr.refl _ | assumption | refine Fr.drew ?_ | refine Fr.alloc ?_ _))) hr1).mono ?_); rintro e2 w2 ⟨rfl, hf2⟩; have hF2 : Fr No v8 w2 := Fr.trans (by repeat (first | exact Fr.refl _ | assumption | refine Fr.drew ?_ | refine Fr.alloc ?_ _)) hf2; clear hr1)
      | (go_at_call 21; (with_reducible refine (aw_t3 _ _ s3 _ ((B3.out.2.fr E3).fr (by repeat (first | exact Fr.refl _ | assumption | refine Fr.drew ?_ | refine Fr.alloc ?_ _))) (by first | exact (aw_two _ _ _ _ _).1 | exact (aw_two _ _ _ _ _).2) (by first | exact (aw_two _ _ _ _ _).1 | exact (aw_two _ _ _ _ _).2)).mono ?_); rintro e2 w2 ⟨rfl, hf2⟩; have hF2 : Fr No v8 w2 := Fr.trans (by repeat (first | exact Fr.refl _ | assumption | refine Fr.drew ?_ | refine Fr.alloc ?_ _)) hf2)
      | (go_at_call 21; (with_reducible refine (aw_t4 _ s7 _ ((B7.out.2.fr E7).fr (by repeat (first | exact Fr.refl _ | assumption | refine Fr.drew ?_ | refine Fr.alloc ?_ _))) hr1).mono ?_); rintro e2 w2 ⟨rfl, hf2⟩; have hF2 : Fr No v8 w2 := Fr.trans (by repeat (first | exact Fr.refl _ | assumption | refine Fr.drew ?_ | refine Fr.alloc ?_ _)) hf2; clear hr1)
      | (go_at_call 21; (with_reducible refine (aw_t5 _ s8 _ (E8v.fr (by repeat (first | exact Fr.refl _ | assumption | refine Fr.drew ?_ | refine Fr.alloc ?_ _))) hr1).mono ?_); rintro e2 w2 ⟨rfl, hf2⟩; have hF2 : Fr No v8 w2 := Fr.trans (by repeat (first | exact Fr.refl _ | assumption | refine Fr.drew ?_ | refine Fr.alloc ?_ _)) hf2; clear hr1))
  all_goals
    go_wp2_with fail
    go_ret
    exact ⟨rfl, F8.trans hF2⟩
end Go.Proofs.YtgjabbhgmecbbaaDoor
