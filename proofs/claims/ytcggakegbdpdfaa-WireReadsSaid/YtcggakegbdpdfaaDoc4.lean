/-
  The document's reader: Short at an error; Text.
-/
import Derived.Test.YtcggakegbdpdfaaDoc3
namespace Go.Proofs.Ytcggakegbdpdfaa
open Go.RowKit

set_option maxHeartbeats 400000 in
theorem dShort_bad (b : Nat) (r : Rd) (most : Nat) (w : World) (h : DRd w b r) (he : r.e ≠ 0) :
    Calls Try.prog 50 #[.pointer (some ⟨b, 0, none⟩), .int .u64 most] w fun en w' => en = .returned (.int .u64 0) ∧ w = w' := by
  obtain ⟨h0, h1, h2, h3, f0, f1, f2, f3⟩ := four_cells h.1
  have c1 : ((r.e : Int) != 0) = true := by simpa using he
  clear h he
  go_enter Try.func50, Try.ntmps50
  go_wp2_with fail
  go_ret
  exact ⟨rfl, rfl⟩
theorem dShort (b : Nat) (r : Rd) (most : Nat) (w : World) (h : DRd w b r) (hsm : r.s.length ≤ 9000000000000000000) :
    Calls Try.prog 50 #[.pointer (some ⟨b, 0, none⟩), .int .u64 most] w fun en w' => en = .returned (.int .u64 (rSh most r).1) ∧ DTo w w' b (rSh most r).2 := by
  obtain ⟨s, a, e, to⟩ := r
  by_cases he : e = 0
  · subst he
    exact dShort_ok b s a to most w h hsm
  · have e2 : rSh most ⟨s, a, e, to⟩ = (0, ⟨s, a, e, to⟩) := by unfold rSh; rw [if_neg he]
    rw [e2]
    exact (dShort_bad b _ most w h he).mono fun _ _ ⟨h1, h2⟩ => ⟨h1, by subst h2; exact ⟨h, Fr.refl _⟩⟩
theorem ddrd_cells {w : World} {b : Nat} {r : Rd} (h : DRd w b r) :
    w.cell? ⟨b, 0, none⟩ = some (.string ⟨r.s.toArray⟩) ∧ w.cell? ⟨b, 1, none⟩ = some (.int .i64 r.at_) ∧ w.cell? ⟨b, 2, none⟩ = some (.int .i64 r.e) ∧ w.frozen? ⟨b, 1, none⟩ = false := by
  obtain ⟨h0, h1, h2, h3, f0, f1, f2, f3⟩ := four_cells h.1
  exact ⟨h0, h1, h2, f1⟩

set_option maxRecDepth 100000 in
set_option maxHeartbeats 1000000 in
theorem dText_nat (b : Nat) (r : Rd) (m : Nat) (hm : m ≤ 9223372036854775807) (w : World) (h : DRd w b r) (hsm : r.s.length ≤ 9000000000000000000) (he : r.e = 0) :
    Calls Try.prog 51 #[.pointer (some ⟨b, 0, none⟩), .int .i64 (m : Int)] w fun en w' => en = .returned (strV (rTx ((m : Nat) : Int) r).1) ∧ DTo w w' b (rTx ((m : Nat) : Int) r).2 := by
  have H1 := hid (dShort b r m w h hsm)
  have hs := rSh_s m r
  obtain ⟨hb1, hb2, hb3⟩ := rSh_ok m r h.2.1 he
  have hmax := h.2.2
  have hat := h.2.1
  obtain ⟨h0, h1, h2, h3, _⟩ := four_cells h.1
  unfold rTx
  rw [if_pos he, Int.toNat_natCast]
  generalize (rSh m r).1 = n at *
  generalize (rSh m r).2 = r1 at *
  obtain ⟨s1, a1, e1, t1⟩ := r1
  simp only at hs hb2 hb3 ⊢
  subst hs
  obtain ⟨s, a, e0, t0⟩ := r
  simp only at *
  subst he
  unfold strV at *
  have HN := hid hb1
  clear h hb1
  by_cases hx : e1 = 0
  · subst hx
    by_cases hsh : s.length - a1 < n
    · have hd : decide ((s.length : Int) - a1 < n) = true := by simp; omega
      rw [if_pos rfl, if_pos hsh]
      go_enter Try.func51, Try.ntmps51
      go_wp2_with (first | (go_at_call 50; refine H1.out.mono ?_; rintro e w1 ⟨rfl, hr⟩; obtain ⟨j0, j1, j2, j3⟩ := ddrd_cells hr.1; simp only at j0 j1 j2))
      go_quiet (fail)
      have hb := hr.1.1
      have hset := heap_setCell_at (w := w1.drewN nq) (i := 1) (.int .i64 (a : Int)) hb
      have HW : Hid (Calls Try.prog 64 #[.pointer (some ⟨b, 0, none⟩), .int .i64 8, .int .i64 a] ((w1.drewN nq).setCell ⟨b, 1, none⟩ (.int .i64 (a : Int))) fun en w' => en = .returned (.tuple #[]) ∧ DTo ((w1.drewN nq).setCell ⟨b, 1, none⟩ (.int .i64 (a : Int))) w' b ⟨s, a, 8, a⟩) := hid (dwrong b ⟨s, a, 0, t1⟩ 8 _ ⟨by rw [hset]; simp [strV], hat, hmax⟩ a)
      go_wp2_with (first | (go_at_call 64; refine HW.out.mono ?_; rintro e w2 ⟨rfl, hr2⟩))
      go_ret
      exact ⟨rfl, hr2.1, (hr.2.trans (((Fr.refl _).drewN _).set_only 1 _)).trans hr2.2⟩
    · have hd : decide ((s.length : Int) - a1 < n) = false := by simp; omega
      have hn2 : n ≤ 9223372036854775807 := by omega
      rw [if_pos rfl, if_neg hsh]
      have HX := hid (fun w (h : DRd w b ⟨s, a1, 0, t1⟩) => dRaw b ⟨s, a1, 0, t1⟩ n w h)
      generalize (rRaw (n : Int) ⟨s, a1, 0, t1⟩).1 = l at HX ⊢
      unfold strV at *
      go_enter Try.func51, Try.ntmps51
      go_wp2_with (first | (go_at_call 50; refine H1.out.mono ?_; rintro e w1 ⟨rfl, hr⟩; obtain ⟨j0, j1, j2, j3⟩ := ddrd_cells hr.1; simp only at j0 j1 j2))
      go_quiet (fail)
      go_wp2_with (first | (go_at_call 53; refine (HX.out (w1.drewN nq) hr.1).mono ?_; rintro e w2 ⟨rfl, hr2⟩))
      go_ret
      exact ⟨rfl, hr2.1, hr.2.trans (((Fr.refl _).drewN _).trans hr2.2)⟩
  · have hd : ((e1 : Int) != 0) = true := by simpa using hx
    rw [if_neg hx]
    go_enter Try.func51, Try.ntmps51
    go_wp2_with (first | (go_at_call 50; refine H1.out.mono ?_; rintro e w1 ⟨rfl, hr⟩; obtain ⟨j0, j1, j2, j3⟩ := ddrd_cells hr.1; simp only at j0 j1 j2))
    go_ret
    exact ⟨rfl, hr⟩

set_option maxRecDepth 100000 in
set_option maxHeartbeats 1000000 in
theorem dText_neg (b : Nat) (r : Rd) (n0 : Int) (hneg : n0 < 0) (w : World) (h : DRd w b r) (hsm : r.s.length ≤ 9000000000000000000) (he : r.e = 0) :
    Calls Try.prog 51 #[.pointer (some ⟨b, 0, none⟩), .int .i64 n0] w fun en w' => en = .returned (strV (rTx ((0 : Nat) : Int) r).1) ∧ DTo w w' b (rTx ((0 : Nat) : Int) r).2 := by
  have H1 : Hid (Calls Try.prog 50 #[.pointer (some ⟨b, 0, none⟩), .int .u64 0] w fun en w' => en = .returned (.int .u64 (rSh 0 r).1) ∧ DTo w w' b (rSh 0 r).2) := hid (dShort b r 0 w h hsm)
  have hs := rSh_s 0 r
  obtain ⟨hb1, hb2, hb3⟩ := rSh_ok 0 r h.2.1 he
  have hmax := h.2.2
  have hat := h.2.1
  obtain ⟨h0, h1, h2, h3, _⟩ := four_cells h.1
  unfold rTx
  rw [if_pos he, Int.toNat_natCast]
  generalize (rSh 0 r).1 = n at *
  generalize (rSh 0 r).2 = r1 at *
  obtain ⟨s1, a1, e1, t1⟩ := r1
  simp only at hs hb2 hb3 ⊢
  subst hs
  obtain ⟨s, a, e0, t0⟩ := r
  simp only at *
  subst he
  unfold strV at *
  have HN := hid hb1
  clear h hb1
  by_cases hx : e1 = 0
  · subst hx
    by_cases hsh : s.length - a1 < n
    · have hd : decide ((s.length : Int) - a1 < n) = true := by simp; omega
      rw [if_pos rfl, if_pos hsh]
      go_enter Try.func51, Try.ntmps51
      go_wp2_with (first | (go_at_call 50; refine H1.out.mono ?_; rintro e w1 ⟨rfl, hr⟩; obtain ⟨j0, j1, j2, j3⟩ := ddrd_cells hr.1; simp only at j0 j1 j2))
      go_quiet (fail)
      have hb := hr.1.1
      have hset := heap_setCell_at (w := w1.drewN nq) (i := 1) (.int .i64 (a : Int)) hb
      have HW : Hid (Calls Try.prog 64 #[.pointer (some ⟨b, 0, none⟩), .int .i64 8, .int .i64 a] ((w1.drewN nq).setCell ⟨b, 1, none⟩ (.int .i64 (a : Int))) fun en w' => en = .returned (.tuple #[]) ∧ DTo ((w1.drewN nq).setCell ⟨b, 1, none⟩ (.int .i64 (a : Int))) w' b ⟨s, a, 8, a⟩) := hid (dwrong b ⟨s, a, 0, t1⟩ 8 _ ⟨by rw [hset]; simp [strV], hat, hmax⟩ a)
      go_wp2_with (first | (go_at_call 64; refine HW.out.mono ?_; rintro e w2 ⟨rfl, hr2⟩))
      go_ret
      exact ⟨rfl, hr2.1, (hr.2.trans (((Fr.refl _).drewN _).set_only 1 _)).trans hr2.2⟩
    · have hd : decide ((s.length : Int) - a1 < n) = false := by simp; omega
      have hn2 : n ≤ 9223372036854775807 := by omega
      rw [if_pos rfl, if_neg hsh]
      have HX := hid (fun w (h : DRd w b ⟨s, a1, 0, t1⟩) => dRaw b ⟨s, a1, 0, t1⟩ n w h)
      generalize (rRaw (n : Int) ⟨s, a1, 0, t1⟩).1 = l at HX ⊢
      unfold strV at *
      go_enter Try.func51, Try.ntmps51
      go_wp2_with (first | (go_at_call 50; refine H1.out.mono ?_; rintro e w1 ⟨rfl, hr⟩; obtain ⟨j0, j1, j2, j3⟩ := ddrd_cells hr.1; simp only at j0 j1 j2))
      go_quiet (fail)
      go_wp2_with (first | (go_at_call 53; refine (HX.out (w1.drewN nq) hr.1).mono ?_; rintro e w2 ⟨rfl, hr2⟩))
      go_ret
      exact ⟨rfl, hr2.1, hr.2.trans (((Fr.refl _).drewN _).trans hr2.2)⟩
  · have hd : ((e1 : Int) != 0) = true := by simpa using hx
    rw [if_neg hx]
    go_enter Try.func51, Try.ntmps51
    go_wp2_with (first | (go_at_call 50; refine H1.out.mono ?_; rintro e w1 ⟨rfl, hr⟩; obtain ⟨j0, j1, j2, j3⟩ := ddrd_cells hr.1; simp only at j0 j1 j2))
    go_ret
    exact ⟨rfl, hr⟩

set_option maxHeartbeats 1000000 in
theorem dText_bad (b : Nat) (r : Rd) (most : Int) (w : World) (h : DRd w b r) (hm : most ≤ 9223372036854775807) (he : r.e ≠ 0) :
    Calls Try.prog 51 #[.pointer (some ⟨b, 0, none⟩), .int .i64 most] w fun en w' => en = .returned (strV []) ∧ w = w' := by
  obtain ⟨h0, h1, h2, h3, f0, f1, f2, f3⟩ := four_cells h.1
  have c1 : ((r.e : Int) != 0) = true := by simpa using he
  have H := hid (fun n => dShort_bad b r n w h he)
  unfold strV
  clear h he
  by_cases hneg : most < 0
  · go_enter Try.func51, Try.ntmps51
    go_wp2_with (first | (go_at_call 50; refine (H.out 0).mono ?_; rintro e w1 ⟨rfl, rfl⟩))
    go_ret
    exact ⟨rfl, rfl⟩
  · obtain ⟨k, rfl⟩ := Int.eq_ofNat_of_zero_le (by omega : 0 ≤ most)
    go_enter Try.func51, Try.ntmps51
    go_wp2_with (first | (go_at_call 50; refine (H.out k).mono ?_; rintro e w1 ⟨rfl, rfl⟩))
    go_ret
    exact ⟨rfl, rfl⟩
theorem rTx_neg (n : Int) (r : Rd) (h : n < 0) : rTx n r = rTx ((0 : Nat) : Int) r := by
  unfold rTx; rw [show n.toNat = 0 from by omega]; rfl
theorem dText (b : Nat) (r : Rd) (most : Int) (w : World) (h : DRd w b r) (hsm : r.s.length ≤ 9000000000000000000) (hm : most ≤ 9223372036854775807) :
    Calls Try.prog 51 #[.pointer (some ⟨b, 0, none⟩), .int .i64 most] w fun en w' => en = .returned (strV (rTx most r).1) ∧ DTo w w' b (rTx most r).2 := by
  by_cases he : r.e = 0
  · by_cases hneg : most < 0
    · rw [rTx_neg most r hneg]; exact dText_neg b r most hneg w h hsm he
    · obtain ⟨k, rfl⟩ := Int.eq_ofNat_of_zero_le (by omega : 0 ≤ most)
      exact dText_nat b r k (by omega) w h hsm he
  · have e2 : rTx most r = ([], r) := by unfold rTx; rw [if_neg he]
    rw [e2]
    exact (dText_bad b r most w h hm he).mono fun _ _ ⟨h1, h2⟩ => ⟨h1, by subst h2; exact ⟨h, Fr.refl _⟩⟩
end Go.Proofs.Ytcggakegbdpdfaa
