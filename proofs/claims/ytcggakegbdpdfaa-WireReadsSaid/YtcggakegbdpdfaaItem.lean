/-
  The items of the statements of layer 2: put, get, fits, is, heavy.
-/
import Derived.Test.YtcggakegbdpdfaaWorks
namespace Go.Proofs.Ytcggakegbdpdfaa
open Go.RowKit

structure It where
  kind : Nat
  n : Nat
  s : List UInt8
  most : Int
structure It.Ok (x : It) : Prop where
  kind : x.kind ≤ 255
  n : x.n ≤ 18446744073709551615
  s : x.s.length ≤ 9223372036854775807
  lo : -9223372036854775808 ≤ x.most
  hi : x.most ≤ 9223372036854775807
def itV (x : It) : Value := .agg #[.int .u8 x.kind, .int .u64 x.n, strV x.s, .int .i64 x.most]

/-- What an item becomes. -/
def itB (x : It) : List UInt8 :=
  if x.kind % 8 = 0 then [byteN (x.n % 256)]
  else if x.kind % 8 = 1 then fixedB 2 (x.n % 65536)
  else if x.kind % 8 = 2 then fixedB 4 (x.n % 4294967296)
  else if x.kind % 8 = 3 then fixedB 8 x.n
  else if x.kind % 8 = 4 then shortB x.n
  else if x.kind % 8 = 5 then textB x.s
  else if x.kind % 8 = 6 then lowB (x.n % 4294967296)
  else x.s

theorem itB_cases (k n : Nat) (s : List UInt8) (most : Int) (B : List UInt8) (h : itB ⟨k, n, s, most⟩ = B) :
    (((k : Int) % 8 == 0) = true → [byteN (n % 256)] = B) ∧ (((k : Int) % 8 == 1) = true → fixedB 2 (n % 65536) = B) ∧ (((k : Int) % 8 == 2) = true → fixedB 4 (n % 4294967296) = B) ∧
    (((k : Int) % 8 == 3) = true → fixedB 8 n = B) ∧ (((k : Int) % 8 == 4) = true → shortB n = B) ∧ (((k : Int) % 8 == 5) = true → textB s = B) ∧ (((k : Int) % 8 == 6) = true → lowB (n % 4294967296) = B) ∧
    (((k : Int) % 8 == 0) = false → ((k : Int) % 8 == 1) = false → ((k : Int) % 8 == 2) = false → ((k : Int) % 8 == 3) = false → ((k : Int) % 8 == 4) = false → ((k : Int) % 8 == 5) = false → ((k : Int) % 8 == 6) = false → s = B) := by
  subst h
  unfold itB
  simp only [beq_iff_eq, beq_eq_false_iff_ne, ne_eq]
  refine ⟨?_, ?_, ?_, ?_, ?_, ?_, ?_, ?_⟩
  · intro h; rw [if_pos (by omega)]
  · intro h; rw [if_neg (by omega), if_pos (by omega)]
  · intro h; rw [if_neg (by omega), if_neg (by omega), if_pos (by omega)]
  · intro h; rw [if_neg (by omega), if_neg (by omega), if_neg (by omega), if_pos (by omega)]
  · intro h; rw [if_neg (by omega), if_neg (by omega), if_neg (by omega), if_neg (by omega), if_pos (by omega)]
  · intro h; rw [if_neg (by omega), if_neg (by omega), if_neg (by omega), if_neg (by omega), if_neg (by omega), if_pos (by omega)]
  · intro h; rw [if_neg (by omega), if_neg (by omega), if_neg (by omega), if_neg (by omega), if_neg (by omega), if_neg (by omega), if_pos (by omega)]
  · intro h0 h1 h2 h3 h4 h5 h6; rw [if_neg (by omega), if_neg (by omega), if_neg (by omega), if_neg (by omega), if_neg (by omega), if_neg (by omega), if_neg (by omega)]
theorem wrap16 (n : Nat) : IntKind.u16.wrap (n : Int) = ((n % 65536 : Nat) : Int) := by simp [IntKind.wrap, IntKind.bits, IntKind.signed]

set_option maxHeartbeats 1000000 in
theorem put_any (b : Nat) (o : Option Nat) (x : It) (l : List UInt8) (w : World) (hx : x.Ok) (hw : WrAt w b o l) (hl : l.length + x.s.length + 20 ≤ 140737488355328) :
    Calls Try.prog 13 #[.pointer (some ⟨b, 0, none⟩), itV x] w fun e w' => e = .returned (.tuple #[]) ∧ Wrote w w' b o (l ++ itB x) := by
  obtain ⟨k, n, s, most⟩ := x
  obtain ⟨hk, hn, hs, h1, h2⟩ := hx
  simp only at hk hn hs h1 h2 hl
  generalize hB : itB ⟨k, n, s, most⟩ = B
  have BB := hid (itB_cases k n s most B hB)
  clear hB
  unfold itV strV
  simp only
  have A1 : Wrote w (w.alloc (.cells #[.int .u8 k, .int .u64 n, .string ⟨s.toArray⟩, .int .i64 most] 35)) b o l := ⟨o, hw.fr ((Fr.refl w).alloc _) id (fun _ _ => id), ((Fr.refl w).alloc _).of0, .inl rfl⟩
  obtain ⟨o', A2, A3, A4⟩ := A1
  have hlt := hw.lt
  generalize hW1 : w.alloc (.cells #[.int .u8 k, .int .u64 n, .string ⟨s.toArray⟩, .int .i64 most] 35) = W1 at A2 A3
  have P0 := hid (u8_any b o' (n % 256) l W1 A2 (by omega) (by omega))
  have P1 := hid (u16_any b o' (n % 65536) l W1 A2 (by omega) (by omega))
  have P2 := hid (u32_any b o' (n % 4294967296) l W1 A2 (by omega) (by omega))
  have P3 := hid (u64_any b o' n l W1 A2 (by omega) hn)
  have P4 := hid (short_any b o' n l W1 A2 (by omega) hn)
  have P5 := hid (text_any b o' ⟨s.toArray⟩ l W1 A2 (by show s.length ≤ _; omega) (by show l.length + s.length + 20 ≤ _; omega))
  have P6 := hid (low_any b o' (n % 4294967296) l W1 A2 (by omega) (by omega))
  have P7 := hid (raw_any b o' ⟨s.toArray⟩ l W1 A2 (by show l.length + s.length ≤ _; omega))
  rw [← wrap16] at P1
  rw [Int.natCast_emod] at P0 P2 P6
  subst hW1
  have A5 : ∀ l2 w2, Wrote (w.alloc (.cells #[.int .u8 k, .int .u64 n, .string ⟨s.toArray⟩, .int .i64 most] 35)) w2 b o' l2 → Wrote w w2 b o l2 := fun _ _ h => Wrote.trans A3 A4 h
  replace A5 := hid A5
  clear A2 A3 A4 hl hn h1 h2 hs hw
  go_enter Try.func13, Try.ntmps13
  go_wp2_with (first
    | (go_at_call 31; refine (P0.out).mono ?_; rintro e1 w1 ⟨rfl, R⟩)
    | (go_at_call 44; refine (P1.out).mono ?_; rintro e1 w1 ⟨rfl, R⟩)
    | (go_at_call 32; refine (P2.out).mono ?_; rintro e1 w1 ⟨rfl, R⟩)
    | (go_at_call 33; refine (P3.out).mono ?_; rintro e1 w1 ⟨rfl, R⟩)
    | (go_at_call 40; refine (P4.out).mono ?_; rintro e1 w1 ⟨rfl, R⟩)
    | (go_at_call 41; refine (P5.out).mono ?_; rintro e1 w1 ⟨rfl, R⟩)
    | (go_at_call 39; refine (P6.out).mono ?_; rintro e1 w1 ⟨rfl, R⟩)
    | (go_at_call 34; refine (P7.out).mono ?_; rintro e1 w1 ⟨rfl, R⟩))
  all_goals refine bodyPost_end (results_none rfl _ _ _) rfl ⟨rfl, ?_⟩
  all_goals have R2 := A5.out _ _ R
  all_goals obtain ⟨B0, B1, B2, B3, B4, B5, B6, B7⟩ := BB.out
  all_goals first
    | rwa [B0 (by assumption)] at R2
    | rwa [B1 (by assumption)] at R2
    | rwa [B2 (by assumption)] at R2
    | rwa [B3 (by assumption)] at R2
    | rwa [B4 (by assumption)] at R2
    | rwa [B5 (by assumption)] at R2
    | rwa [B6 (by assumption)] at R2
    | rwa [← B7 (by assumption) (by assumption) (by assumption) (by assumption) (by assumption) (by assumption) (by assumption)]

theorem rFix_lt (k : Nat) (r : Rd) : (rFix k r).1 < 256 ^ k := by
  unfold rFix
  have hp : 0 < 256 ^ k := Nat.pow_pos (by decide)
  split
  · split
    · exact hp
    · refine Nat.lt_of_lt_of_le (beN_lt _) (Nat.pow_le_pow_right (by decide) (by simp; omega))
  · exact hp
theorem wrapU64 (n : Nat) (h : n < 18446744073709551616) : IntKind.u64.wrap (n : Int) = (n : Int) := IntWalk.u64_in _ (by omega)

theorem revN_lt (n : Nat) : revN n < 4294967296 := by unfold revN; omega
def numEnd (z : Int) : Ending := .returned (.tuple #[.int .u64 z, .string ⟨#[]⟩])

/-- What an item asks for, read. -/
def itG (x : It) (r : Rd) : (Nat × List UInt8) × Rd :=
  if x.kind % 8 = 0 then (((rFix 1 r).1, []), (rFix 1 r).2)
  else if x.kind % 8 = 1 then (((rFix 2 r).1, []), (rFix 2 r).2)
  else if x.kind % 8 = 2 then (((rFix 4 r).1, []), (rFix 4 r).2)
  else if x.kind % 8 = 3 then (((rFix 8 r).1, []), (rFix 8 r).2)
  else if x.kind % 8 = 4 then (((rSh x.n r).1, []), (rSh x.n r).2)
  else if x.kind % 8 = 5 then ((0, (rTx x.most r).1), (rTx x.most r).2)
  else if x.kind % 8 = 6 then ((revN (rFix 4 r).1, []), (rFix 4 r).2)
  else ((0, (rRaw x.most r).1), (rRaw x.most r).2)
theorem itG_cases (k n : Nat) (s : List UInt8) (most : Int) (r : Rd) (B : (Nat × List UInt8) × Rd) (h : itG ⟨k, n, s, most⟩ r = B) :
    (((k : Int) % 8 == 0) = true → (((rFix 1 r).1, []), (rFix 1 r).2) = B) ∧ (((k : Int) % 8 == 1) = true → (((rFix 2 r).1, []), (rFix 2 r).2) = B) ∧ (((k : Int) % 8 == 2) = true → (((rFix 4 r).1, []), (rFix 4 r).2) = B) ∧
    (((k : Int) % 8 == 3) = true → (((rFix 8 r).1, []), (rFix 8 r).2) = B) ∧ (((k : Int) % 8 == 4) = true → (((rSh n r).1, []), (rSh n r).2) = B) ∧ (((k : Int) % 8 == 5) = true → ((0, (rTx most r).1), (rTx most r).2) = B) ∧ (((k : Int) % 8 == 6) = true → ((revN (rFix 4 r).1, []), (rFix 4 r).2) = B) ∧
    (((k : Int) % 8 == 0) = false → ((k : Int) % 8 == 1) = false → ((k : Int) % 8 == 2) = false → ((k : Int) % 8 == 3) = false → ((k : Int) % 8 == 4) = false → ((k : Int) % 8 == 5) = false → ((k : Int) % 8 == 6) = false → ((0, (rRaw most r).1), (rRaw most r).2) = B) := by
  subst h
  unfold itG
  simp only [beq_iff_eq, beq_eq_false_iff_ne, ne_eq]
  refine ⟨?_, ?_, ?_, ?_, ?_, ?_, ?_, ?_⟩
  · intro h; rw [if_pos (by omega)]
  · intro h; rw [if_neg (by omega), if_pos (by omega)]
  · intro h; rw [if_neg (by omega), if_neg (by omega), if_pos (by omega)]
  · intro h; rw [if_neg (by omega), if_neg (by omega), if_neg (by omega), if_pos (by omega)]
  · intro h; rw [if_neg (by omega), if_neg (by omega), if_neg (by omega), if_neg (by omega), if_pos (by omega)]
  · intro h; rw [if_neg (by omega), if_neg (by omega), if_neg (by omega), if_neg (by omega), if_neg (by omega), if_pos (by omega)]
  · intro h; rw [if_neg (by omega), if_neg (by omega), if_neg (by omega), if_neg (by omega), if_neg (by omega), if_neg (by omega), if_pos (by omega)]
  · intro h0 h1 h2 h3 h4 h5 h6; rw [if_neg (by omega), if_neg (by omega), if_neg (by omega), if_neg (by omega), if_neg (by omega), if_neg (by omega), if_neg (by omega)]

set_option maxHeartbeats 1000000 in
theorem get_any (b : Nat) (r : Rd) (x : It) (w : World) (hx : x.Ok) (hr : RdIs w b r) :
    Calls Try.prog 21 #[.pointer (some ⟨b, 0, none⟩), itV x] w fun e w' => e = .returned (.tuple #[.int .u64 (itG x r).1.1, strV (itG x r).1.2]) ∧ ReadTo w w' b (itG x r).2 := by
  obtain ⟨k, n, s, most⟩ := x
  obtain ⟨hk, hn, hs, h1, h2⟩ := hx
  simp only at hk hn hs h1 h2
  generalize hB : itG ⟨k, n, s, most⟩ r = B
  have BB := hid (itG_cases k n s most r B hB)
  clear hB
  unfold itV
  simp only
  have A2 : RdIs (w.alloc (.cells #[.int .u8 k, .int .u64 n, strV s, .int .i64 most] 35)) b r := hr.fr (X := No) ((Fr.refl w).alloc _) id
  have A3 : ∀ r2 w2, ReadTo (w.alloc (.cells #[.int .u8 k, .int .u64 n, strV s, .int .i64 most] 35)) w2 b r2 → ReadTo w w2 b r2 := fun _ _ h => ⟨h.1, ((Fr.refl w).alloc _).of0.trans h.2⟩
  replace A3 := hid A3
  have hlt := RdIs.lt hr
  have P0 := hid (u8R b r _ A2)
  have P1 := hid (u16R b r _ A2)
  have P2 := hid (u32R b r _ A2)
  have P3 := hid (u64R b r _ A2)
  have P4 := hid (shortR b r n _ A2)
  have P5 := hid (textR b r most _ A2 (by omega))
  have P6 := hid (lowR b r _ A2)
  have P7 := hid (rawR b r most _ A2)
  unfold strV at *
  clear A2 hn h1 h2 hs hr
  go_enter Try.func21, Try.ntmps21
  go_wp2_with (first
    | (go_at_call 35; refine (P0.out).mono ?_; rintro e1 w1 ⟨rfl, R⟩)
    | (go_at_call 42; refine (P1.out).mono ?_; rintro e1 w1 ⟨rfl, R⟩)
    | (go_at_call 36; refine (P2.out).mono ?_; rintro e1 w1 ⟨rfl, R⟩)
    | (go_at_call 37; refine (P3.out).mono ?_; rintro e1 w1 ⟨rfl, R⟩)
    | (go_at_call 28; refine (P4.out).mono ?_; rintro e1 w1 ⟨rfl, R⟩)
    | (go_at_call 38; refine (P5.out).mono ?_; rintro e1 w1 ⟨rfl, R⟩)
    | (go_at_call 43; refine (P6.out).mono ?_; rintro e1 w1 ⟨rfl, R⟩)
    | (go_at_call 29; refine (P7.out).mono ?_; rintro e1 w1 ⟨rfl, R⟩))
  all_goals go_ret2
  all_goals have R2 := A3.out _ _ R
  all_goals obtain ⟨B0, B1, B2, B3, B4, B5, B6, B7⟩ := BB.out
  all_goals clear P0 P1 P2 P3 P4 P5 P6 P7 R BB A3
  all_goals first
    | (have e := B0 (by assumption); subst e; exact ⟨congrArg numEnd (wrapU64 _ (Nat.lt_of_lt_of_le (rFix_lt 1 r) (by decide))), R2⟩)
    | (have e := B1 (by assumption); subst e; exact ⟨congrArg numEnd (wrapU64 _ (Nat.lt_of_lt_of_le (rFix_lt 2 r) (by decide))), R2⟩)
    | (have e := B2 (by assumption); subst e; exact ⟨congrArg numEnd (wrapU64 _ (Nat.lt_of_lt_of_le (rFix_lt 4 r) (by decide))), R2⟩)
    | (have e := B3 (by assumption); subst e; exact ⟨rfl, R2⟩)
    | (have e := B4 (by assumption); subst e; exact ⟨rfl, R2⟩)
    | (have e := B5 (by assumption); subst e; exact ⟨rfl, R2⟩)
    | (have e := B6 (by assumption); subst e; exact ⟨congrArg numEnd (wrapU64 _ (Nat.lt_of_lt_of_le (revN_lt _) (by decide))), R2⟩)
    | (have e := B7 (by assumption) (by assumption) (by assumption) (by assumption) (by assumption) (by assumption) (by assumption); subst e; exact ⟨rfl, R2⟩)
end Go.Proofs.Ytcggakegbdpdfaa
