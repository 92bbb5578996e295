/-
  WireNames: writers and readers that are nil; one number; the walk.
-/
import Derived.Test.YtcggakegbdpdfaaPlain
import Derived.Test.YtcggakegbdpdfaaAft
namespace Go.Proofs.Ytcggakegbdpdfaa
open Go.RowKit

theorem u8_nil (n : Int) (w : World) : Calls Try.prog 31 #[.pointer none, .int .u8 n] w fun e w' => e = .returned (.tuple #[]) ∧ w = w' := by
  go_enter Try.func31, Try.ntmps31
  go_wp2_with (first | (go_at_call 58; refine (fixed_nil _ _ _).mono ?_; rintro e w1 ⟨rfl, rfl⟩))
  exact bodyPost_end (results_none rfl _ _ _) rfl ⟨rfl, rfl⟩
theorem u64_nil (n : Int) (w : World) : Calls Try.prog 33 #[.pointer none, .int .u64 n] w fun e w' => e = .returned (.tuple #[]) ∧ w = w' := by
  go_enter Try.func33, Try.ntmps33
  go_wp2_with (first | (go_at_call 58; refine (fixed_nil _ _ _).mono ?_; rintro e w1 ⟨rfl, rfl⟩))
  exact bodyPost_end (results_none rfl _ _ _) rfl ⟨rfl, rfl⟩
theorem u32_nil (n : Int) (w : World) : Calls Try.prog 32 #[.pointer none, .int .u32 n] w fun e w' => e = .returned (.tuple #[]) ∧ w = w' := by
  go_enter Try.func32, Try.ntmps32
  go_wp2_with (first | (go_at_call 58; refine (fixed_nil _ _ _).mono ?_; rintro e w1 ⟨rfl, rfl⟩))
  exact bodyPost_end (results_none rfl _ _ _) rfl ⟨rfl, rfl⟩
theorem low_nil (n : Nat) (w : World) (hn : n ≤ 4294967295) : Calls Try.prog 39 #[.pointer none, .int .u32 n] w fun e w' => e = .returned (.tuple #[]) ∧ w = w' := by
  have H := hid (fun w1 => rev_any n w1 hn)
  clear hn
  go_enter Try.func39, Try.ntmps39
  go_wp2_with (first
    | (go_at_call 62; refine (H.out _).mono ?_; rintro e w1 ⟨rfl, rfl⟩)
    | (go_at_call 32; refine (u32_nil _ _).mono ?_; rintro e w1 ⟨rfl, rfl⟩))
  exact bodyPost_end (results_none rfl _ _ _) rfl ⟨rfl, rfl⟩
theorem short_nil (n : Nat) (w : World) : Calls Try.prog 40 #[.pointer none, .int .u64 n] w fun e w' => e = .returned (.tuple #[]) ∧ w = w' := by
  go_enter Try.func40, Try.ntmps40
  go_wp2_with fail
  go_loopw [1] (fun v wr => ∃ m : Nat, v = .int .u64 m ∧ w = wr) (fun v _ => (intOf v).toNat)
  case atStart => exact ⟨n, rfl, rfl⟩
  case round =>
    obtain ⟨m, rfl, rfl⟩ := hrel
    by_cases hlt : 128 ≤ m
    · have hd : decide ((128 : Int) ≤ (m : Int)) = true := by simp; omega
      go_wp2_with (first | (go_at_call 31; refine (u8_nil _ _).mono ?_; rintro e w1 ⟨rfl, rfl⟩))
      go_roundw
      case rel => exact ⟨m / 128, by go_num, by trivial⟩
      case measure => simp [intOf]; omega
    · have hd : decide ((128 : Int) ≤ (m : Int)) = false := by simp; omega
      go_wp2_with (first | (go_at_call 31; refine (u8_nil _ _).mono ?_; rintro e w1 ⟨rfl, rfl⟩))
      exact bodyPost_end (results_none rfl _ _ _) rfl ⟨rfl, rfl⟩
theorem raw_nil (s : ByteArray) (w : World) : Calls Try.prog 34 #[.pointer none, .string s] w fun e w' => e = .returned (.tuple #[]) ∧ w = w' := by
  go_enter Try.func34, Try.ntmps34
  go_wp2_with fail
  exact bodyPost_end (results_none rfl _ _ _) rfl ⟨rfl, rfl⟩
theorem text_nil (w : World) : Calls Try.prog 41 #[.pointer none, .string ⟨#[120]⟩] w fun e w' => e = .returned (.tuple #[]) ∧ w = w' := by
  go_enter Try.func41, Try.ntmps41
  go_wp2_with (first
    | (go_at_call 40; refine (short_nil 1 _).mono ?_; rintro e w1 ⟨rfl, rfl⟩)
    | (go_at_call 34; refine (raw_nil _ _).mono ?_; rintro e w1 ⟨rfl, rfl⟩))
  exact bodyPost_end (results_none rfl _ _ _) rfl ⟨rfl, rfl⟩
theorem bytes_nil (w : World) : Calls Try.prog 17 #[.pointer none] w fun e w' => e = .returned (.string ⟨#[]⟩) ∧ w = w' := by
  go_enter Try.func17, Try.ntmps17
  go_wp2_with fail
  go_ret
  exact ⟨rfl, rfl⟩
theorem len_nil (w : World) : Calls Try.prog 15 #[.pointer none] w fun e w' => e = .returned (.int .i64 0) ∧ w = w' := by
  go_enter Try.func15, Try.ntmps15
  go_wp2_with (first | (go_at_call 17; refine (bytes_nil _).mono ?_; rintro e w1 ⟨rfl, rfl⟩))
  go_ret
  exact ⟨rfl, rfl⟩

/-- The numbers of the loop. -/
def nums : List Nat := [0, 127, 128, 16383, 16384, 2097151, 2097152, 268435455, 268435456, 34359738367, 34359738368, 4398046511103, 4398046511104, 562949953421311, 562949953421312, 72057594037927935, 72057594037927936, 9223372036854775807, 9223372036854775808, 18446744073709551615]
theorem nums_le : ∀ n ∈ nums, n ≤ 18446744073709551615 := by decide +kernel

theorem rSh_more (n : Nat) (hn : n ≤ 18446744073709551615) (h0 : 0 < n) : rSh (n - 1) ⟨shortB n, 0, 0, 0⟩ = (0, ⟨shortB n, 0, 40, 0⟩) := by
  have h := shGo_shortB n hn []
  rw [List.append_nil] at h
  unfold rSh rShort
  simp only [List.drop_zero, h, if_pos (show n - 1 < n by omega)]
  rfl

end Go.Proofs.Ytcggakegbdpdfaa
