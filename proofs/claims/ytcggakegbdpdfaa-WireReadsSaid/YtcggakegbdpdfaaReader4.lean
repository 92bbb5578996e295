/-
  The contracts of wire.Reader's methods, over a reader's state as plain data. Conditions: what is read is no longer than an int.
-/
import Derived.Test.YtcggakegbdpdfaaReader3
namespace Go.Proofs.Ytcggakegbdpdfaa
open Go.RowKit

/-- A reader: what it reads, how much was taken, the error, its place. -/
structure Rd where
  s : List UInt8
  at_ : Nat
  e : Nat
  to : Nat
deriving DecidableEq
def RdIs (w : World) (b : Nat) (r : Rd) : Prop := RdAt w b r.s r.at_ r.e r.to
def ReadTo (w w' : World) (b : Nat) (r : Rd) : Prop := RdIs w' b r ∧ Fr (Only b) w w'
theorem RdIs.fr {X : Nat → Prop} {w w' : World} {b : Nat} {r : Rd} (h : RdIs w b r) (hf : Fr X w w') (hb : ¬ X b) : RdIs w' b r := RdAt.fr h hf hb
theorem RdIs.lt {w : World} {b : Nat} {r : Rd} (h : RdIs w b r) : b < w.heap.size := RdAt.lt h

def rFix (k : Nat) (r : Rd) : Nat × Rd :=
  if r.e = 0 then
    if r.s.length - r.at_ < k then (0, { r with e := 8, to := r.at_ })
    else (beN ((r.s.drop r.at_).take k), { r with at_ := r.at_ + k })
  else (0, r)
def rRaw (n : Int) (r : Rd) : List UInt8 × Rd :=
  if r.e = 0 then
    if r.s.length - r.at_ < n.toNat then ([], { r with e := 8, to := r.at_ })
    else ((r.s.drop r.at_).take n.toNat, { r with at_ := r.at_ + n.toNat })
  else ([], r)
def rSh (most : Nat) (r : Rd) : Nat × Rd :=
  if r.e = 0 then ((rShort r.s r.at_ r.to most).1, { r with at_ := (rShort r.s r.at_ r.to most).2.1, e := (rShort r.s r.at_ r.to most).2.2.1, to := (rShort r.s r.at_ r.to most).2.2.2 })
  else (0, r)
def rTx (most : Int) (r : Rd) : List UInt8 × Rd :=
  if r.e = 0 then
    if (rSh most.toNat r).2.e = 0 then
      if r.s.length - (rSh most.toNat r).2.at_ < (rSh most.toNat r).1 then ([], { r with e := 8, to := r.at_ })
      else rRaw (rSh most.toNat r).1 (rSh most.toNat r).2
    else ([], (rSh most.toNat r).2)
  else ([], r)

theorem good_is (b : Nat) (r : Rd) (w : World) (h : RdIs w b r) (he : r.e ≠ 0) :
    Calls Try.prog 54 #[.pointer (some ⟨b, 0, none⟩)] w fun en w' => en = .returned (.bool false) ∧ w = w' := by
  have hg := good_any b r.s r.at_ r.e r.to w h
  rwa [show (((r.e : Int)) == 0) = false from by simpa using he] at hg

theorem fixedIs1 (b : Nat) (r : Rd) (w : World) (h : RdIs w b r) :
    Calls Try.prog 59 #[.pointer (some ⟨b, 0, none⟩), .int .i64 1] w fun en w' => en = .returned (.int .u8 (rFix 1 r).1) ∧ ReadTo w w' b (rFix 1 r).2 := by
  unfold rFix
  by_cases he : r.e = 0
  · rw [if_pos he]
    have h' : RdAt w b r.s r.at_ 0 r.to := he ▸ h
    by_cases hs : r.s.length - r.at_ < 1
    · rw [if_pos hs]
      exact (fixedR1_no _ w _ (take_short b r.s r.at_ r.to 1 w h' hs)).mono fun _ _ ⟨h1, h2⟩ => ⟨h1, h2⟩
    · rw [if_neg hs]
      refine (fixedR1 b r.s r.at_ r.to w h' (by omega)).mono fun _ _ ⟨h1, h2⟩ => ⟨h1, ?_⟩
      have e1 : (r.e : Nat) = 0 := he
      refine ⟨?_, h2.2⟩
      show RdAt _ b r.s (r.at_ + 1) r.e r.to
      rw [e1]
      exact h2.1
  · rw [if_neg he]
    exact (fixedR1_no _ w _ (take_bad b r.s r.at_ r.e r.to 1 w h he)).mono fun _ _ ⟨h1, h2⟩ => ⟨h1, by subst h2; exact ⟨h, Fr.refl _⟩⟩
set_option maxHeartbeats 400000 in
theorem u8R (b : Nat) (r : Rd) (w : World) (h : RdIs w b r) :
    Calls Try.prog 35 #[.pointer (some ⟨b, 0, none⟩)] w fun en w' => en = .returned (.int .u8 (rFix 1 r).1) ∧ ReadTo w w' b (rFix 1 r).2 := by
  have H := hid (fixedIs1 b r w h)
  clear h
  generalize (rFix 1 r).1 = n at H ⊢
  go_enter Try.func35, Try.ntmps35
  go_wp2_with (go_at_call 59; refine H.out.mono ?_; rintro e w1 ⟨rfl, hr⟩)
  go_ret
  exact ⟨rfl, hr⟩
set_option maxHeartbeats 400000 in
theorem u8R_nil (w : World) :
    Calls Try.prog 35 #[.pointer none] w fun en w' => en = .returned (.int .u8 0) ∧ w = w' := by
  have H := hid (fixedR1_no none w (fun w' => w = w') (take_nil 1 w))
  go_enter Try.func35, Try.ntmps35
  go_wp2_with (go_at_call 59; refine H.out.mono ?_; rintro e w1 ⟨rfl, hr⟩)
  go_ret
  exact ⟨rfl, hr⟩

theorem fixedIs2 (b : Nat) (r : Rd) (w : World) (h : RdIs w b r) :
    Calls Try.prog 63 #[.pointer (some ⟨b, 0, none⟩), .int .i64 2] w fun en w' => en = .returned (.int .u16 (rFix 2 r).1) ∧ ReadTo w w' b (rFix 2 r).2 := by
  unfold rFix
  by_cases he : r.e = 0
  · rw [if_pos he]
    have h' : RdAt w b r.s r.at_ 0 r.to := he ▸ h
    by_cases hs : r.s.length - r.at_ < 2
    · rw [if_pos hs]
      exact (fixedR2_no _ w _ (take_short b r.s r.at_ r.to 2 w h' hs)).mono fun _ _ ⟨h1, h2⟩ => ⟨h1, h2⟩
    · rw [if_neg hs]
      refine (fixedR2 b r.s r.at_ r.to w h' (by omega)).mono fun _ _ ⟨h1, h2⟩ => ⟨h1, ?_⟩
      have e1 : (r.e : Nat) = 0 := he
      refine ⟨?_, h2.2⟩
      show RdAt _ b r.s (r.at_ + 2) r.e r.to
      rw [e1]
      exact h2.1
  · rw [if_neg he]
    exact (fixedR2_no _ w _ (take_bad b r.s r.at_ r.e r.to 2 w h he)).mono fun _ _ ⟨h1, h2⟩ => ⟨h1, by subst h2; exact ⟨h, Fr.refl _⟩⟩
set_option maxHeartbeats 400000 in
theorem u16R (b : Nat) (r : Rd) (w : World) (h : RdIs w b r) :
    Calls Try.prog 42 #[.pointer (some ⟨b, 0, none⟩)] w fun en w' => en = .returned (.int .u16 (rFix 2 r).1) ∧ ReadTo w w' b (rFix 2 r).2 := by
  have H := hid (fixedIs2 b r w h)
  clear h
  generalize (rFix 2 r).1 = n at H ⊢
  go_enter Try.func42, Try.ntmps42
  go_wp2_with (go_at_call 63; refine H.out.mono ?_; rintro e w1 ⟨rfl, hr⟩)
  go_ret
  exact ⟨rfl, hr⟩
set_option maxHeartbeats 400000 in
theorem u16R_nil (w : World) :
    Calls Try.prog 42 #[.pointer none] w fun en w' => en = .returned (.int .u16 0) ∧ w = w' := by
  have H := hid (fixedR2_no none w (fun w' => w = w') (take_nil 2 w))
  go_enter Try.func42, Try.ntmps42
  go_wp2_with (go_at_call 63; refine H.out.mono ?_; rintro e w1 ⟨rfl, hr⟩)
  go_ret
  exact ⟨rfl, hr⟩

theorem fixedIs4 (b : Nat) (r : Rd) (w : World) (h : RdIs w b r) :
    Calls Try.prog 60 #[.pointer (some ⟨b, 0, none⟩), .int .i64 4] w fun en w' => en = .returned (.int .u32 (rFix 4 r).1) ∧ ReadTo w w' b (rFix 4 r).2 := by
  unfold rFix
  by_cases he : r.e = 0
  · rw [if_pos he]
    have h' : RdAt w b r.s r.at_ 0 r.to := he ▸ h
    by_cases hs : r.s.length - r.at_ < 4
    · rw [if_pos hs]
      exact (fixedR4_no _ w _ (take_short b r.s r.at_ r.to 4 w h' hs)).mono fun _ _ ⟨h1, h2⟩ => ⟨h1, h2⟩
    · rw [if_neg hs]
      refine (fixedR4 b r.s r.at_ r.to w h' (by omega)).mono fun _ _ ⟨h1, h2⟩ => ⟨h1, ?_⟩
      have e1 : (r.e : Nat) = 0 := he
      refine ⟨?_, h2.2⟩
      show RdAt _ b r.s (r.at_ + 4) r.e r.to
      rw [e1]
      exact h2.1
  · rw [if_neg he]
    exact (fixedR4_no _ w _ (take_bad b r.s r.at_ r.e r.to 4 w h he)).mono fun _ _ ⟨h1, h2⟩ => ⟨h1, by subst h2; exact ⟨h, Fr.refl _⟩⟩
set_option maxHeartbeats 400000 in
theorem u32R (b : Nat) (r : Rd) (w : World) (h : RdIs w b r) :
    Calls Try.prog 36 #[.pointer (some ⟨b, 0, none⟩)] w fun en w' => en = .returned (.int .u32 (rFix 4 r).1) ∧ ReadTo w w' b (rFix 4 r).2 := by
  have H := hid (fixedIs4 b r w h)
  clear h
  generalize (rFix 4 r).1 = n at H ⊢
  go_enter Try.func36, Try.ntmps36
  go_wp2_with (go_at_call 60; refine H.out.mono ?_; rintro e w1 ⟨rfl, hr⟩)
  go_ret
  exact ⟨rfl, hr⟩
set_option maxHeartbeats 400000 in
theorem u32R_nil (w : World) :
    Calls Try.prog 36 #[.pointer none] w fun en w' => en = .returned (.int .u32 0) ∧ w = w' := by
  have H := hid (fixedR4_no none w (fun w' => w = w') (take_nil 4 w))
  go_enter Try.func36, Try.ntmps36
  go_wp2_with (go_at_call 60; refine H.out.mono ?_; rintro e w1 ⟨rfl, hr⟩)
  go_ret
  exact ⟨rfl, hr⟩

theorem fixedIs8 (b : Nat) (r : Rd) (w : World) (h : RdIs w b r) :
    Calls Try.prog 61 #[.pointer (some ⟨b, 0, none⟩), .int .i64 8] w fun en w' => en = .returned (.int .u64 (rFix 8 r).1) ∧ ReadTo w w' b (rFix 8 r).2 := by
  unfold rFix
  by_cases he : r.e = 0
  · rw [if_pos he]
    have h' : RdAt w b r.s r.at_ 0 r.to := he ▸ h
    by_cases hs : r.s.length - r.at_ < 8
    · rw [if_pos hs]
      exact (fixedR8_no _ w _ (take_short b r.s r.at_ r.to 8 w h' hs)).mono fun _ _ ⟨h1, h2⟩ => ⟨h1, h2⟩
    · rw [if_neg hs]
      refine (fixedR8 b r.s r.at_ r.to w h' (by omega)).mono fun _ _ ⟨h1, h2⟩ => ⟨h1, ?_⟩
      have e1 : (r.e : Nat) = 0 := he
      refine ⟨?_, h2.2⟩
      show RdAt _ b r.s (r.at_ + 8) r.e r.to
      rw [e1]
      exact h2.1
  · rw [if_neg he]
    exact (fixedR8_no _ w _ (take_bad b r.s r.at_ r.e r.to 8 w h he)).mono fun _ _ ⟨h1, h2⟩ => ⟨h1, by subst h2; exact ⟨h, Fr.refl _⟩⟩
set_option maxHeartbeats 400000 in
theorem u64R (b : Nat) (r : Rd) (w : World) (h : RdIs w b r) :
    Calls Try.prog 37 #[.pointer (some ⟨b, 0, none⟩)] w fun en w' => en = .returned (.int .u64 (rFix 8 r).1) ∧ ReadTo w w' b (rFix 8 r).2 := by
  have H := hid (fixedIs8 b r w h)
  clear h
  generalize (rFix 8 r).1 = n at H ⊢
  go_enter Try.func37, Try.ntmps37
  go_wp2_with (go_at_call 61; refine H.out.mono ?_; rintro e w1 ⟨rfl, hr⟩)
  go_ret
  exact ⟨rfl, hr⟩
set_option maxHeartbeats 400000 in
theorem u64R_nil (w : World) :
    Calls Try.prog 37 #[.pointer none] w fun en w' => en = .returned (.int .u64 0) ∧ w = w' := by
  have H := hid (fixedR8_no none w (fun w' => w = w') (take_nil 8 w))
  go_enter Try.func37, Try.ntmps37
  go_wp2_with (go_at_call 61; refine H.out.mono ?_; rintro e w1 ⟨rfl, hr⟩)
  go_ret
  exact ⟨rfl, hr⟩

set_option maxHeartbeats 400000 in
theorem lowR (b : Nat) (r : Rd) (w : World) (h : RdIs w b r) :
    Calls Try.prog 43 #[.pointer (some ⟨b, 0, none⟩)] w fun en w' => en = .returned (.int .u32 (revN (rFix 4 r).1)) ∧ ReadTo w w' b (rFix 4 r).2 := by
  have H := hid (u32R b r w h)
  have hb : (rFix 4 r).1 ≤ 4294967295 := by
    unfold rFix
    split
    · split
      · simp
      · have h1 := beN_lt ((r.s.drop r.at_).take 4)
        have h2 : ((r.s.drop r.at_).take 4).length ≤ 4 := List.length_take_le _ _
        have h3 : 256 ^ ((r.s.drop r.at_).take 4).length ≤ 256 ^ 4 := Nat.pow_le_pow_right (by decide) h2
        simp only
        omega
    · simp
  generalize (rFix 4 r).1 = n at H hb ⊢
  have HR := hid (fun w => rev_any n w hb)
  clear h hb
  go_enter Try.func43, Try.ntmps43
  go_wp2_with (first | (go_at_call 36; refine H.out.mono ?_; rintro e w1 ⟨rfl, hr⟩) | (go_at_call 62; refine (HR.out _).mono ?_; rintro e w2 ⟨rfl, rfl⟩))
  go_ret
  exact ⟨rfl, hr⟩
set_option maxHeartbeats 400000 in
theorem lowR_nil (w : World) :
    Calls Try.prog 43 #[.pointer none] w fun en w' => en = .returned (.int .u32 0) ∧ w = w' := by
  have H := hid (u32R_nil w)
  have HR := hid (fun w => rev_any 0 w (by decide))
  go_enter Try.func43, Try.ntmps43
  go_wp2_with (first | (go_at_call 36; refine H.out.mono ?_; rintro e w1 ⟨rfl, rfl⟩) | (go_at_call 62; refine (HR.out _).mono ?_; rintro e w2 ⟨rfl, rfl⟩))
  go_ret
  exact ⟨rfl, rfl⟩

/-! ### bytes -/
theorem takeIs (b : Nat) (r : Rd) (n : Nat) (w : World) (h : RdIs w b r) :
    Calls Try.prog 55 #[.pointer (some ⟨b, 0, none⟩), .int .i64 n] w fun en w' => (∃ ok, en = .returned (.tuple #[strV (rRaw n r).1, .bool ok])) ∧ ReadTo w w' b (rRaw n r).2 := by
  unfold rRaw
  rw [Int.toNat_natCast]
  by_cases he : r.e = 0
  · rw [if_pos he]
    have h' : RdAt w b r.s r.at_ 0 r.to := he ▸ h
    by_cases hs : r.s.length - r.at_ < n
    · rw [if_pos hs]
      exact (take_short b r.s r.at_ r.to n w h' hs).mono fun _ _ ⟨h1, h2⟩ => ⟨⟨_, h1⟩, h2⟩
    · rw [if_neg hs]
      refine (take_ok b r.s r.at_ r.to n w h' (by omega)).mono fun _ _ ⟨h1, h2⟩ => ⟨⟨_, h1⟩, ?_, h2.2⟩
      have e1 : (r.e : Nat) = 0 := he
      show RdAt _ b r.s (r.at_ + n) r.e r.to
      rw [e1]
      exact h2.1
  · rw [if_neg he]
    exact (take_bad b r.s r.at_ r.e r.to n w h he).mono fun _ _ ⟨h1, h2⟩ => ⟨⟨_, h1⟩, by subst h2; exact ⟨h, Fr.refl _⟩⟩
theorem max_zero (n : Int) : (if n < 0 then (0 : Int) else n) = (n.toNat : Int) := by split <;> omega
theorem rRaw_neg (n : Int) (r : Rd) (h : n < 0) : rRaw n r = rRaw ((0 : Nat) : Int) r := by
  unfold rRaw; rw [show n.toNat = 0 from by omega]; rfl
set_option maxHeartbeats 400000 in
theorem rawR (b : Nat) (r : Rd) (n : Int) (w : World) (h : RdIs w b r) :
    Calls Try.prog 29 #[.pointer (some ⟨b, 0, none⟩), .int .i64 n] w fun en w' => en = .returned (strV (rRaw n r).1) ∧ ReadTo w w' b (rRaw n r).2 := by
  by_cases hneg : n < 0
  · rw [rRaw_neg n r hneg]
    have H := hid (takeIs b r 0 w h)
    generalize (rRaw ((0 : Nat) : Int) r).1 = l at H ⊢
    unfold strV at H ⊢
    clear h
    go_enter Try.func29, Try.ntmps29
    go_wp2_with (go_at_call 55; refine H.out.mono ?_; rintro e w1 ⟨⟨ok, rfl⟩, hr⟩)
    go_ret
    exact ⟨rfl, hr⟩
  · obtain ⟨k, rfl⟩ := Int.eq_ofNat_of_zero_le (by omega : 0 ≤ n)
    have H := hid (takeIs b r k w h)
    generalize (rRaw (k : Int) r).1 = l at H ⊢
    unfold strV at H ⊢
    clear h hneg
    go_enter Try.func29, Try.ntmps29
    go_wp2_with (go_at_call 55; refine H.out.mono ?_; rintro e w1 ⟨⟨ok, rfl⟩, hr⟩)
    go_ret
    exact ⟨rfl, hr⟩
set_option maxHeartbeats 400000 in
theorem rawR_nil (n : Int) (w : World) :
    Calls Try.prog 29 #[.pointer none, .int .i64 n] w fun en w' => en = .returned (strV []) ∧ w = w' := by
  have H := hid (fun n => take_nil n w)
  unfold strV at H ⊢
  by_cases hneg : n < 0
  all_goals
    go_enter Try.func29, Try.ntmps29
    go_wp2_with (go_at_call 55; refine (H.out _).mono ?_; rintro e w1 ⟨rfl, rfl⟩)
    go_ret
    exact ⟨rfl, rfl⟩

/-! ### short numbers, texts -/
set_option maxHeartbeats 400000 in
theorem shortR_bad (p : Option Addr) (most : Nat) (w : World) (hg : Calls Try.prog 54 #[.pointer p] w fun en w' => en = .returned (.bool false) ∧ w = w') :
    Calls Try.prog 28 #[.pointer p, .int .u64 most] w fun en w' => en = .returned (.int .u64 0) ∧ w = w' := by
  have H := hid hg
  clear hg
  go_enter Try.func28, Try.ntmps28
  go_wp2_with (go_at_call 54; refine H.out.mono ?_; rintro e w1 ⟨rfl, rfl⟩)
  go_ret
  exact ⟨rfl, rfl⟩
theorem shortR (b : Nat) (r : Rd) (most : Nat) (w : World) (h : RdIs w b r) :
    Calls Try.prog 28 #[.pointer (some ⟨b, 0, none⟩), .int .u64 most] w fun en w' => en = .returned (.int .u64 (rSh most r).1) ∧ ReadTo w w' b (rSh most r).2 := by
  unfold rSh
  by_cases he : r.e = 0
  · rw [if_pos he]
    exact (shortR_any b r.s r.at_ r.to most w (he ▸ h)).mono fun _ _ ⟨h1, h2⟩ => ⟨h1, h2⟩
  · rw [if_neg he]
    exact (shortR_bad _ most w (good_is b r w h he)).mono fun _ _ ⟨h1, h2⟩ => ⟨h1, by subst h2; exact ⟨h, Fr.refl _⟩⟩
theorem shGo_bound (l : List UInt8) : ∀ i n, n < 128 ^ i → i ≤ 9 → match shGo l i n with | .inl e => e = 8 ∨ e = 4 | .inr (m, k) => m < 18446744073709551616 ∧ i + 1 ≤ k ∧ k ≤ 10 ∧ k ≤ i + l.length := by
  induction l with
  | nil => intro i n _ _; simp [shGo]
  | cons c l ih =>
    intro i n hn hi
    rw [shGo]
    split
    · rename_i h
      split at h
      · injection h with h; exact .inr h.symm
      · split at h
        · cases h
        · rename_i h1 h2
          have := ih (i + 1) _ (sh_lt n c.toNat i hn) (by have := c.toNat_lt; omega)
          rw [h] at this
          exact this
    · rename_i m k h
      split at h
      · cases h
      · rename_i hb
        split at h
        · injection h with h
          injection h with h1 h2
          subst h1 h2
          have h9 : i = 9 → c.toNat ≤ 1 := by omega
          obtain ⟨g1, g2⟩ := sh_bound n c.toNat i hn hi h9
          have g3 : n + c.toNat % 128 * 128 ^ i < 18446744073709551616 := by
            have h64 := sh_or n c.toNat i hn c.toNat_lt hi h9
            rw [andNot128 _ c.toNat_lt] at h64
            have e : (((c.toNat % 128 : Nat) : Int) * 2 ^ (7 * i)) = ((c.toNat % 128 * 2 ^ (7 * i) : Nat) : Int) := by simp
            rw [e, IntWalk.u64_in _ (by omega), u64_or_nat _ _ g2 g1] at h64
            have := Nat.or_lt_two_pow (n := 64) g2 g1
            omega
          simp
          omega
        · have := ih (i + 1) _ (sh_lt n c.toNat i hn) (by have := c.toNat_lt; omega)
          rw [h] at this
          simp only at this ⊢
          simp
          omega
theorem rShort_bound (s : List UInt8) (at_ to most : Nat) (h : at_ ≤ s.length) : (rShort s at_ to most).1 < 18446744073709551616 ∧ (rShort s at_ to most).1 ≤ most ∧ (rShort s at_ to most).2.1 ≤ s.length ∧ at_ ≤ (rShort s at_ to most).2.1 := by
  have hb := shGo_bound (s.drop at_) 0 0 (by simp) (by omega)
  unfold rShort
  split
  · simp; omega
  · rename_i n k hk
    rw [hk] at hb
    simp at hb
    split
    · simp; omega
    · simp; omega

set_option maxHeartbeats 400000 in
theorem textR_bad (p : Option Addr) (most : Int) (w : World) (hg : Calls Try.prog 54 #[.pointer p] w fun en w' => en = .returned (.bool false) ∧ w = w') :
    Calls Try.prog 38 #[.pointer p, .int .i64 most] w fun en w' => en = .returned (strV []) ∧ w = w' := by
  have H := hid hg
  clear hg
  unfold strV
  go_enter Try.func38, Try.ntmps38
  go_wp2_with (go_at_call 54; refine H.out.mono ?_; rintro e w1 ⟨rfl, rfl⟩)
  go_ret
  exact ⟨rfl, rfl⟩
theorem rSh_s (m : Nat) (r : Rd) : (rSh m r).2.s = r.s := by unfold rSh; split <;> rfl
theorem rSh_ok (m : Nat) (r : Rd) (h : r.at_ ≤ r.s.length) (he : r.e = 0) : (rSh m r).1 < 18446744073709551616 ∧ (rSh m r).2.at_ ≤ r.s.length ∧ r.at_ ≤ (rSh m r).2.at_ := by
  have := rShort_bound r.s r.at_ r.to m h
  unfold rSh
  rw [if_pos he]
  exact ⟨this.1, this.2.2.1, this.2.2.2⟩
set_option maxRecDepth 100000 in
set_option maxHeartbeats 1000000 in
theorem textR_nat (b : Nat) (r : Rd) (m : Nat) (w : World) (h : RdIs w b r) (he : r.e = 0) (hm : m ≤ 9223372036854775807) :
    Calls Try.prog 38 #[.pointer (some ⟨b, 0, none⟩), .int .i64 m] w fun en w' => en = .returned (strV (rTx m r).1) ∧ ReadTo w w' b (rTx m r).2 := by
  have hg := good_any b r.s r.at_ r.e r.to w h
  rw [he] at hg
  have HG := hid hg
  have H1 := hid (shortR b r m w h)
  have hs := rSh_s m r
  obtain ⟨hb1, hb2, hb3⟩ := rSh_ok m r h.2.1 he
  have hmax := h.2.2
  have hat := h.2.1
  obtain ⟨h0, h1, h2, h3, _⟩ := four_cells h.1
  unfold rTx
  rw [if_pos he, Int.toNat_natCast]
  generalize (rSh m r).1 = n at *
  generalize (rSh m r).2 = r1 at *
  obtain ⟨s1, a1, e1, t1⟩ := r1
  simp only at hs hb2 hb3 ⊢
  subst hs
  obtain ⟨s, a, e0, t0⟩ := r
  simp only at *
  subst he
  unfold strV at *
  have HN := hid hb1
  clear hg h hb1
  by_cases hx : e1 = 0
  · subst hx
    by_cases hsh : s.length - a1 < n
    · have hd : decide ((s.length : Int) - a1 < n) = true := by simp; omega
      rw [if_pos rfl, if_pos hsh]
      go_enter Try.func38, Try.ntmps38
      go_wp2_with (first | (go_at_call 54; refine HG.out.mono ?_; rintro e w1 ⟨rfl, rfl⟩) | (go_at_call 28; refine H1.out.mono ?_; rintro e w1 ⟨rfl, hr⟩; obtain ⟨j0, j1, j2, j3⟩ := rd_cells hr.1))
      go_quiet (fail)
      have HW := hid (fun m => wrong_any b s a1 0 t1 8 a (w1.drewN m) hr.1 hat)
      go_wp2_with (go_at_call 56; refine (HW.out _).mono ?_; rintro e w2 ⟨rfl, hr2⟩)
      go_ret
      exact ⟨rfl, hr2.1, hr.2.trans (((Fr.refl _).drewN _).trans hr2.2)⟩
    · have hd : decide ((s.length : Int) - a1 < n) = false := by simp; omega
      have hn2 : n ≤ 9223372036854775807 := by omega
      rw [if_pos rfl, if_neg hsh]
      have HX := hid (fun w (h : RdIs w b ⟨s, a1, 0, t1⟩) => rawR b ⟨s, a1, 0, t1⟩ n w h)
      generalize (rRaw (n : Int) ⟨s, a1, 0, t1⟩).1 = l at HX ⊢
      unfold strV at *
      go_enter Try.func38, Try.ntmps38
      go_wp2_with (first | (go_at_call 54; refine HG.out.mono ?_; rintro e w1 ⟨rfl, rfl⟩) | (go_at_call 28; refine H1.out.mono ?_; rintro e w1 ⟨rfl, hr⟩; obtain ⟨j0, j1, j2, j3⟩ := rd_cells hr.1))
      go_quiet (fail)
      go_wp2_with (go_at_call 29; refine (HX.out (w1.drewN nq) hr.1).mono ?_; rintro e w2 ⟨rfl, hr2⟩)
      go_ret
      exact ⟨rfl, hr2.1, hr.2.trans (((Fr.refl _).drewN _).trans hr2.2)⟩
  · have hd : ((e1 : Int) != 0) = true := by simpa using hx
    rw [if_neg hx]
    go_enter Try.func38, Try.ntmps38
    go_wp2_with (first | (go_at_call 54; refine HG.out.mono ?_; rintro e w1 ⟨rfl, rfl⟩) | (go_at_call 28; refine H1.out.mono ?_; rintro e w1 ⟨rfl, hr⟩; obtain ⟨j0, j1, j2, j3⟩ := rd_cells hr.1))
    go_ret
    exact ⟨rfl, hr⟩
set_option maxRecDepth 100000 in
set_option maxHeartbeats 1000000 in
theorem textR_neg (b : Nat) (r : Rd) (n0 : Int) (hneg : n0 < 0) (w : World) (h : RdIs w b r) (he : r.e = 0) :
    Calls Try.prog 38 #[.pointer (some ⟨b, 0, none⟩), .int .i64 n0] w fun en w' => en = .returned (strV (rTx ((0 : Nat) : Int) r).1) ∧ ReadTo w w' b (rTx ((0 : Nat) : Int) r).2 := by
  have hg := good_any b r.s r.at_ r.e r.to w h
  rw [he] at hg
  have HG := hid hg
  have H1 := hid (shortR b r 0 w h)
  have hs := rSh_s 0 r
  obtain ⟨hb1, hb2, hb3⟩ := rSh_ok 0 r h.2.1 he
  have hmax := h.2.2
  have hat := h.2.1
  obtain ⟨h0, h1, h2, h3, _⟩ := four_cells h.1
  unfold rTx
  rw [if_pos he, Int.toNat_natCast]
  generalize (rSh 0 r).1 = n at *
  generalize (rSh 0 r).2 = r1 at *
  obtain ⟨s1, a1, e1, t1⟩ := r1
  simp only at hs hb2 hb3 ⊢
  subst hs
  obtain ⟨s, a, e0, t0⟩ := r
  simp only at *
  subst he
  unfold strV at *
  have HN := hid hb1
  clear hg h hb1
  by_cases hx : e1 = 0
  · subst hx
    by_cases hsh : s.length - a1 < n
    · have hd : decide ((s.length : Int) - a1 < n) = true := by simp; omega
      rw [if_pos rfl, if_pos hsh]
      go_enter Try.func38, Try.ntmps38
      go_wp2_with (first | (go_at_call 54; refine HG.out.mono ?_; rintro e w1 ⟨rfl, rfl⟩) | (go_at_call 28; refine H1.out.mono ?_; rintro e w1 ⟨rfl, hr⟩; obtain ⟨j0, j1, j2, j3⟩ := rd_cells hr.1))
      go_quiet (fail)
      have HW := hid (fun m => wrong_any b s a1 0 t1 8 a (w1.drewN m) hr.1 hat)
      go_wp2_with (go_at_call 56; refine (HW.out _).mono ?_; rintro e w2 ⟨rfl, hr2⟩)
      go_ret
      exact ⟨rfl, hr2.1, hr.2.trans (((Fr.refl _).drewN _).trans hr2.2)⟩
    · have hd : decide ((s.length : Int) - a1 < n) = false := by simp; omega
      have hn2 : n ≤ 9223372036854775807 := by omega
      rw [if_pos rfl, if_neg hsh]
      have HX := hid (fun w (h : RdIs w b ⟨s, a1, 0, t1⟩) => rawR b ⟨s, a1, 0, t1⟩ n w h)
      generalize (rRaw (n : Int) ⟨s, a1, 0, t1⟩).1 = l at HX ⊢
      unfold strV at *
      go_enter Try.func38, Try.ntmps38
      go_wp2_with (first | (go_at_call 54; refine HG.out.mono ?_; rintro e w1 ⟨rfl, rfl⟩) | (go_at_call 28; refine H1.out.mono ?_; rintro e w1 ⟨rfl, hr⟩; obtain ⟨j0, j1, j2, j3⟩ := rd_cells hr.1))
      go_quiet (fail)
      go_wp2_with (go_at_call 29; refine (HX.out (w1.drewN nq) hr.1).mono ?_; rintro e w2 ⟨rfl, hr2⟩)
      go_ret
      exact ⟨rfl, hr2.1, hr.2.trans (((Fr.refl _).drewN _).trans hr2.2)⟩
  · have hd : ((e1 : Int) != 0) = true := by simpa using hx
    rw [if_neg hx]
    go_enter Try.func38, Try.ntmps38
    go_wp2_with (first | (go_at_call 54; refine HG.out.mono ?_; rintro e w1 ⟨rfl, rfl⟩) | (go_at_call 28; refine H1.out.mono ?_; rintro e w1 ⟨rfl, hr⟩; obtain ⟨j0, j1, j2, j3⟩ := rd_cells hr.1))
    go_ret
    exact ⟨rfl, hr⟩
theorem textR (b : Nat) (r : Rd) (most : Int) (w : World) (h : RdIs w b r) (hm : most ≤ 9223372036854775807) :
    Calls Try.prog 38 #[.pointer (some ⟨b, 0, none⟩), .int .i64 most] w fun en w' => en = .returned (strV (rTx most r).1) ∧ ReadTo w w' b (rTx most r).2 := by
  by_cases he : r.e = 0
  · by_cases hneg : most < 0
    · have e : rTx most r = rTx ((0 : Nat) : Int) r := by unfold rTx; rw [show most.toNat = 0 from by omega]; rfl
      rw [e]
      exact textR_neg b r most hneg w h he
    · obtain ⟨m, rfl⟩ := Int.eq_ofNat_of_zero_le (by omega : 0 ≤ most)
      exact textR_nat b r m w h he (by omega)
  · unfold rTx
    rw [if_neg he]
    exact (textR_bad _ most w (good_is b r w h he)).mono fun _ _ ⟨h1, h2⟩ => ⟨h1, by subst h2; exact ⟨h, Fr.refl _⟩⟩

/-- What End says of a reader. -/
theorem endR (b : Nat) (r : Rd) (w : World) (h : RdIs w b r) :
    Calls Try.prog 24 #[.pointer (some ⟨b, 0, none⟩)] w fun en w' => en = .returned (.int .i64 (endE r.s.length r.at_ r.e)) ∧ Fr No w w' := end_any b r.s r.at_ r.e r.to w h

end Go.Proofs.Ytcggakegbdpdfaa
