/-
  The document's reader: Short.
-/
import Derived.Test.YtcggakegbdpdfaaDoc2
import Derived.Test.YtcggakegbdpdfaaPlain
namespace Go.Proofs.Ytcggakegbdpdfaa
open Go.RowKit

theorem dsh_sum (nn m i : Nat) (hnn : nn < 128 ^ i) (hi : i ≤ 9) (h9 : i = 9 → m ≤ 1) : nn + m % 128 * 128 ^ i < 18446744073709551616 := by
  by_cases h : i = 9
  · have := h9 h
    subst h
    rw [sh9] at *
    have : m % 128 ≤ 1 := by omega
    have : m % 128 * 9223372036854775808 ≤ 1 * 9223372036854775808 := Nat.mul_le_mul_right _ this
    omega
  · have h1 := sh_lt nn m i hnn
    have h2 : 128 ^ (i + 1) ≤ 128 ^ 9 := Nat.pow_le_pow_right (by decide) (by omega)
    rw [sh9] at h2
    omega

/-- What Short leaves. -/
def DShort (s : List UInt8) (a to most : Nat) (w : World) (b : Nat) (en : Ending) (w' : World) : Prop :=
  en = .returned (.int .u64 (rSh most ⟨s, a, 0, to⟩).1) ∧ DTo w w' b (rSh most ⟨s, a, 0, to⟩).2
theorem dshort_inl (s : List UInt8) (a to most k : Nat) (w w' : World) (b m : Nat) (hs : shGo (s.drop a) 0 0 = .inl k) (h : DTo (w.drewN m) w' b ⟨s, a, k, a⟩) : DShort s a to most w b (.returned (.int .u64 0)) w' := by
  unfold DShort rSh rShort
  simp only [if_true, hs]
  exact ⟨by first | rfl | trivial, h.drewN⟩
theorem dshort_big (s : List UInt8) (a to most n k : Nat) (w w' : World) (b m : Nat) (hs : shGo (s.drop a) 0 0 = .inr (n, k)) (hm : most < n) (h : DTo (w.drewN m) w' b ⟨s, a, 40, a⟩) : DShort s a to most w b (.returned (.int .u64 0)) w' := by
  unfold DShort rSh rShort
  simp only [if_true, hs, if_pos hm]
  exact ⟨by first | rfl | trivial, h.drewN⟩
theorem dshort_ok (s : List UInt8) (a to most n k : Nat) (w w' : World) (b m : Nat) (z : Int) (hz : z = (n : Int)) (hs : shGo (s.drop a) 0 0 = .inr (n, k)) (hm : ¬ most < n) (h : DTo (w.drewN m) w' b ⟨s, a + k, 0, to⟩) : DShort s a to most w b (.returned (.int .u64 z)) w' := by
  subst hz
  unfold DShort rSh rShort
  simp only [if_true, hs, if_neg hm]
  exact ⟨by first | rfl | trivial, h.drewN⟩

set_option maxHeartbeats 4000000 in
set_option maxRecDepth 100000 in
theorem dShort_ok (b : Nat) (s : List UInt8) (a to most : Nat) (w : World) (h : DRd w b ⟨s, a, 0, to⟩) (hsm : s.length ≤ 9000000000000000000) :
    Calls Try.prog 50 #[.pointer (some ⟨b, 0, none⟩), .int .u64 most] w fun en w' => DShort s a to most w b en w' := by
  obtain ⟨h0, h1, h2, h3, f0, f1, f2, f3⟩ := four_cells h.1
  have hle := h.2.1
  have hmx := h.2.2
  simp only at hle hmx h0 h1 h2
  have HH := hid h
  have W8 : Hid (∀ n, Calls Try.prog 64 #[.pointer (some ⟨b, 0, none⟩), .int .i64 8, .int .i64 a] (w.drewN n) fun en w' => en = .returned (.tuple #[]) ∧ DTo (w.drewN n) w' b ⟨s, a, 8, a⟩) := hid (fun n => dwrong b _ 8 (w.drewN n) (h.drewN n) a)
  have W4 : Hid (∀ n, Calls Try.prog 64 #[.pointer (some ⟨b, 0, none⟩), .int .i64 4, .int .i64 a] (w.drewN n) fun en w' => en = .returned (.tuple #[]) ∧ DTo (w.drewN n) w' b ⟨s, a, 4, a⟩) := hid (fun n => dwrong b _ 4 (w.drewN n) (h.drewN n) a)
  have W40 : Hid (∀ n, Calls Try.prog 64 #[.pointer (some ⟨b, 0, none⟩), .int .i64 40, .int .i64 a] (w.drewN n) fun en w' => en = .returned (.tuple #[]) ∧ DTo (w.drewN n) w' b ⟨s, a, 40, a⟩) := hid (fun n => dwrong b _ 40 (w.drewN n) (h.drewN n) a)
  unfold strV at h0
  clear h
  go_enter Try.func50, Try.ntmps50
  go_wp2_with fail
  go_loopw [5, 6, 7] (fun n tm c wr => ∃ i nn T m : Nat, c = .int .i64 i ∧ n = .int .u64 nn ∧ tm = .int .u64 T ∧ wr = w.drewN m ∧ T = 128 ^ i ∧ i ≤ 9 ∧ nn < 128 ^ i ∧ shGo (s.drop (a + i)) i nn = shGo (s.drop a) 0 0) (fun _ _ c _ => 10 - (intOf c).toNat)
  case atStart => exact ⟨0, 0, 1, 0, rfl, rfl, rfl, rfl, rfl, by omega, by simp, rfl⟩
  case round =>
    obtain ⟨i, nn, T, m0, rfl, rfl, rfl, rfl, hT, hi, hnn, hgo⟩ := hrel
    have HNN := hid hnn
    have HTT := hid hT
    have hov : (a : Int) + (i : Int) ≤ 9000000000000000009 := by omega
    clear hnn hT
    by_cases hend : s.length ≤ a + i
    · have hsh : shGo (s.drop a) 0 0 = .inl 8 := by rw [← hgo, List.drop_of_length_le hend]; rfl
      have HSH := hid hsh
      have hd : decide ((s.length : Int) ≤ (a : Int) + (i : Int)) = true := by simp; omega
      clear hgo hsh
      go_wp2_with fail
      go_quiet (fail)
      go_wp2_with (first | (go_at_call 64; (with_reducible refine (W8.out _).mono ?_); rintro e1 w1 ⟨rfl, hr⟩))
      go_ret
      exact dshort_inl s a to most 8 w w1 b _ HSH.out hr
    · have hlt : a + i < s.length := by omega
      have hd : decide ((s.length : Int) ≤ (a : Int) + (i : Int)) = false := by simp; omega
      rw [drop_cons s (a + i) hlt] at hgo
      obtain ⟨c, hc⟩ : ∃ c, c = s[a + i] := ⟨_, rfl⟩
      rw [← hc] at hgo
      obtain ⟨m, hm⟩ : ∃ m, m = c.toNat := ⟨_, rfl⟩
      have hmb : m < 256 := by rw [hm]; exact c.toNat_lt
      have hsz : a + i < ({ data := s.toArray } : ByteArray).size := hlt
      have hx : (({ data := s.toArray } : ByteArray)[a + i]'hsz).toNat = m := by rw [hm, hc]; rfl
      have hb1 : (0 : Int) ≤ (a : Int) + (i : Int) := by omega
      have hb2 : (a : Int) + (i : Int) < (s.length : Int) := by omega
      rw [shGo, ← hm] at hgo
      have HGO := hid hgo
      clear hgo hc hm hend
      by_cases hbad : (i = 9 ∧ 1 < m) ∨ (0 < i ∧ m = 0)
      · have hsh : shGo (s.drop a) 0 0 = .inl 4 := by rw [← HGO.out, if_pos hbad]
        have HSH := hid hsh
        clear hsh
        have hfacts : (((i : Int) == 9) = true ∧ decide ((1 : Int) < (m : Int)) = true ∧ 0 < i ∧ ((m : Int) == 0) = false) ∨
            (((i : Int) == 9) = true ∧ decide ((1 : Int) < (m : Int)) = false ∧ 0 < i ∧ ((m : Int) == 0) = true) ∨
            (((i : Int) == 9) = false ∧ 0 < i ∧ ((m : Int) == 0) = true) := by
          simp; omega
        clear hbad
        rcases hfacts with ⟨g1, g2, g3, g4⟩ | ⟨g1, g2, g3, g4⟩ | ⟨g1, g3, g4⟩
        all_goals
          go_wp2_with fail
          go_quiet (fail)
          go_wp2_with fail
          revert nq; intro n1
          go_quiet (fail)
          go_wp2_with (first | (go_at_call 64; (with_reducible refine (W4.out _).mono ?_); rintro e1 w1 ⟨rfl, hr⟩))
          go_ret
          exact dshort_inl s a to most 4 w w1 b _ HSH.out hr
      · have hgo2 := HGO.out
        rw [if_neg hbad] at hgo2
        have h9 : i = 9 → m ≤ 1 := by omega
        have hsum := dsh_sum nn m i HNN.out hi h9
        obtain ⟨y, hy⟩ : ∃ y, y = m % 128 * 128 ^ i := ⟨_, rfl⟩
        rw [← hy] at hsum hgo2
        have hyI : (T : Int) * ((m : Int) % 128) = (y : Int) := by rw [hy, HTT.out, Nat.mul_comm]; push_cast; rfl
        have HY := hid hy
        have hg : (((i : Int) == 9) = true ∧ decide ((1 : Int) < (m : Int)) = false ∧ 0 < i ∧ ((m : Int) == 0) = false) ∨
            (((i : Int) == 9) = false ∧ 0 < i ∧ ((m : Int) == 0) = false) ∨
            (((i : Int) == 9) = false ∧ ¬ 0 < i) := by
          simp; omega
        clear hy hbad
        by_cases hlast : m < 128
        · rw [if_pos hlast] at hgo2
          have HSH := hid hgo2.symm
          have g5 : decide ((m : Int) < 128) = true := by simp; omega
          clear hgo2
          by_cases hbig : most < nn + y
          · have g6 : decide ((most : Int) < (nn : Int) + (y : Int)) = true := by simp; omega
            rcases hg with ⟨g1, g2, g3, g4⟩ | ⟨g1, g3, g4⟩ | ⟨g1, g3⟩
            all_goals
              go_wp2_with fail
              go_quiet (fail)
              go_wp2_with fail
              revert nq; intro n1
              go_quiet (fail)
              go_wp2_with (first | (go_at_call 64; (with_reducible refine (W40.out _).mono ?_); rintro e1 w1 ⟨rfl, hr⟩))
              go_ret
              exact dshort_big s a to most (nn + y) (i + 1) w w1 b _ HSH.out hbig hr
          · have g6 : decide ((most : Int) < (nn : Int) + (y : Int)) = false := by simp; omega
            rcases hg with ⟨g1, g2, g3, g4⟩ | ⟨g1, g3, g4⟩ | ⟨g1, g3⟩
            all_goals
              go_wp2_with fail
              go_quiet (fail)
              go_wp2_with fail
              revert nq; intro n1
              go_quiet (fail)
              go_wp2_with fail
              go_ret
              have hb := HH.out.1
              have e1 := fun N => heap_setCell_at (w := w.drewN N) (i := 1) (.int .i64 ((a : Int) + (i : Int) + 1)) hb
              refine dshort_ok s a to most (nn + y) (i + 1) w _ b (m0 + n1 + nq) ((nn : Int) + (y : Int)) (by push_cast; rfl) HSH.out hbig ⟨⟨?_, by show a + (i + 1) ≤ s.length; omega, hmx⟩, (Fr.refl _).set_only 1 _⟩
              rw [e1]
              simp [strV]
              omega
        · rw [if_neg hlast] at hgo2
          have HSH := hid hgo2
          have g5 : decide ((m : Int) < 128) = false := by simp; omega
          have hi8 : i ≤ 8 := by omega
          have hTb : (T : Int) * 128 ≤ 9223372036854775808 := by
            have h2 : 128 ^ (i + 1) ≤ 128 ^ 9 := Nat.pow_le_pow_right (by decide) (by omega)
            rw [sh9, Nat.pow_succ, ← HTT.out] at h2
            omega
          have hlt2 : nn + y < 128 ^ (i + 1) := by rw [HY.out]; exact sh_lt nn m i HNN.out
          have HLT := hid hlt2
          clear hgo2 hlt2 h9
          rcases hg with ⟨g1, g2, g3, g4⟩ | ⟨g1, g3, g4⟩ | ⟨g1, g3⟩
          · simp at g1; omega
          all_goals
            go_wp2_with fail
            go_quiet (fail)
            go_wp2_with fail
            revert nq; intro n1
            go_quiet (fail)
            go_wp2_with fail
            go_roundw
            case rel => exact ⟨i + 1, nn + y, T * 128, m0 + n1 + nq, by go_num, by go_num, by go_num, rfl, by rw [Nat.pow_succ, HTT.out], by omega, HLT.out, HSH.out⟩
            case measure => simp [intOf]; omega
end Go.Proofs.Ytcggakegbdpdfaa
