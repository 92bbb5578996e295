/-
  The contracts of math/bits.Len64 and wire.Size. No conditions beyond the type's own range.
-/
import Derived.Test.YtcggakegbdpdfaaProg
import Derived.Test.YtcggakegbdpdfaaPure
namespace Go.Proofs.Ytcggakegbdpdfaa
open Go.RowKit

/-- r is the number of bits of n. -/
def IsLen (n r : Nat) : Prop := n < 2 ^ r ∧ (r = 0 ∨ 2 ^ (r - 1) ≤ n)
theorem IsLen.shift {n r k : Nat} (h : IsLen (n / 2 ^ k) r) (hn : 2 ^ k ≤ n) : IsLen n (k + r) := by
  obtain ⟨h1, h2⟩ := h
  have hpos : 0 < n / 2 ^ k := Nat.div_pos hn (Nat.two_pow_pos k)
  have hr : r ≠ 0 := by rintro rfl; simp at h1; omega
  refine ⟨?_, .inr ?_⟩
  · rw [Nat.pow_add, Nat.mul_comm]
    exact (Nat.div_lt_iff_lt_mul (Nat.two_pow_pos k)).1 h1
  · have h3 := h2.resolve_left hr
    rw [show k + r - 1 = k + (r - 1) from by omega, Nat.pow_add, Nat.mul_comm]
    exact (Nat.le_div_iff_mul_le (Nat.two_pow_pos k)).1 h3
def len8 : ByteArray := ⟨#[0, 1, 2, 2, 3, 3, 3, 3, 4, 4, 4, 4, 4, 4, 4, 4, 5, 5, 5, 5, 5, 5, 5, 5, 5, 5, 5, 5, 5, 5, 5, 5, 6, 6, 6, 6, 6, 6, 6, 6, 6, 6, 6, 6, 6, 6, 6, 6, 6, 6, 6, 6, 6, 6, 6, 6, 6, 6, 6, 6, 6, 6, 6, 6, 7, 7, 7, 7, 7, 7, 7, 7, 7, 7, 7, 7, 7, 7, 7, 7, 7, 7, 7, 7, 7, 7, 7, 7, 7, 7, 7, 7, 7, 7, 7, 7, 7, 7, 7, 7, 7, 7, 7, 7, 7, 7, 7, 7, 7, 7, 7, 7, 7, 7, 7, 7, 7, 7, 7, 7, 7, 7, 7, 7, 7, 7, 7, 7, 8, 8, 8, 8, 8, 8, 8, 8, 8, 8, 8, 8, 8, 8, 8, 8, 8, 8, 8, 8, 8, 8, 8, 8, 8, 8, 8, 8, 8, 8, 8, 8, 8, 8, 8, 8, 8, 8, 8, 8, 8, 8, 8, 8, 8, 8, 8, 8, 8, 8, 8, 8, 8, 8, 8, 8, 8, 8, 8, 8, 8, 8, 8, 8, 8, 8, 8, 8, 8, 8, 8, 8, 8, 8, 8, 8, 8, 8, 8, 8, 8, 8, 8, 8, 8, 8, 8, 8, 8, 8, 8, 8, 8, 8, 8, 8, 8, 8, 8, 8, 8, 8, 8, 8, 8, 8, 8, 8, 8, 8, 8, 8, 8, 8, 8, 8, 8, 8, 8, 8, 8, 8, 8, 8, 8, 8, 8, 8]⟩
theorem len8_size : len8.size = 256 := by decide +kernel
theorem len8_all : ∀ k : Nat, k < 256 → (k < 2 ^ (len8.data.getD k 0).toNat ∧ ((len8.data.getD k 0).toNat = 0 ∨ 2 ^ ((len8.data.getD k 0).toNat - 1) ≤ k)) := by decide +kernel
theorem len8_isLen : ∀ k : Nat, k < 256 → ∀ h : k < len8.size, IsLen k (len8[k]'h).toNat := by
  intro k hk h
  have e : (len8[k]'h) = len8.data.getD k 0 := by
    have h2 : k < len8.data.size := h
    rw [ByteArray.getElem_eq_getElem_data, Array.getD_eq_getD_getElem?, Array.getElem?_eq_getElem h2]
    rfl
  rw [e]
  exact len8_all k hk
theorem len8_le (k : Nat) (h : k < len8.size) : (len8[k]'h).toNat ≤ 255 := by have := (len8[k]'h).toNat_lt; omega

/-- A short number has as many bytes. -/
theorem shortF_len (k : Nat) : ∀ n r, IsLen n r → n < 128 ^ (k + 1) → (shortF (k + 1) n).length = max 1 ((r + 6) / 7) := by
  induction k with
  | zero =>
    intro n r h hn
    have hn' : n < 128 := by simpa using hn
    rw [shortF, if_pos hn']
    have : r ≤ 7 := by
      rcases h.2 with h2 | h2
      · omega
      · have h3 : 2 ^ (r - 1) < 2 ^ 7 := by omega
        have := (Nat.pow_lt_pow_iff_right (by decide : 1 < 2)).1 h3
        omega
    simp
    omega
  | succ k ih =>
    intro n r h hn
    rw [shortF]
    split
    · rename_i hlt
      have : r ≤ 7 := by
        rcases h.2 with h2 | h2
        · omega
        · have h3 : 2 ^ (r - 1) < 2 ^ 7 := by omega
          have := (Nat.pow_lt_pow_iff_right (by decide : 1 < 2)).1 h3
          omega
      simp
      omega
    · rename_i hge
      have h8 : 8 ≤ r := by
        have h3 : 2 ^ 7 < 2 ^ r := by have := h.1; omega
        have := (Nat.pow_lt_pow_iff_right (by decide : 1 < 2)).1 h3
        omega
      have hr2 : IsLen (n / 128) (r - 7) := by
        refine ⟨?_, .inr ?_⟩
        · have h1 := h.1
          rw [show r = (r - 7) + 7 from by omega, Nat.pow_add] at h1
          exact Nat.div_lt_of_lt_mul (by rw [Nat.mul_comm]; exact h1)
        · have h2 := h.2.resolve_left (by omega)
          rw [show r - 1 = (r - 7 - 1) + 7 from by omega, Nat.pow_add] at h2
          exact (Nat.le_div_iff_mul_le (by decide)).2 h2
      have hlt : n / 128 < 128 ^ (k + 1) := by
        rw [Nat.pow_succ] at hn
        exact Nat.div_lt_of_lt_mul (by rw [Nat.mul_comm]; exact hn)
      rw [List.length_cons, ih _ _ hr2 hlt]
      omega
theorem shortB_len (n r : Nat) (h : IsLen n r) (hn : n ≤ 18446744073709551615) : (shortB n).length = max 1 ((r + 6) / 7) :=
  shortF_len 9 n r h (by have : (128 : Nat) ^ (9 + 1) = 1180591620717411303424 := by decide
                         omega)

set_option maxRecDepth 100000 in
set_option maxHeartbeats 1000000 in
theorem len64_000 (n : Nat) (w : World) (hn : n ≤ 18446744073709551615) (c32 : n < 4294967296) (c16 : n < 65536) (c8 : n < 256) :
    Calls Try.prog 45 #[.int .u64 n] w fun en w' => (∃ r : Nat, en = .returned (.int .i64 r) ∧ IsLen n r ∧ r ≤ 1000) ∧ w = w' := by
  have d1 : decide ((4294967296 : Int) ≤ (n : Int)) = false := by simp; omega
  have d2 : decide ((65536 : Int) ≤ (n : Int)) = false := by simp; omega
  have d3 : decide ((256 : Int) ≤ (n : Int)) = false := by simp; omega
  have hk : n < 256 := by omega
  have hsz : n < len8.size := hk
  have hL := len8_isLen _ hk hsz
  have hle := len8_le _ hsz
  obtain ⟨q, hq⟩ : ∃ q, (len8[n]'hsz).toNat = q := ⟨_, rfl⟩
  rw [hq] at hL hle
  have HL := hid hL
  unfold len8 at hq
  clear hL hn
  go_enter Try.func45, Try.ntmps45
  go_wp2_with fail
  go_ret
  refine ⟨⟨0 + q, ?_, ?_, by omega⟩, rfl⟩
  · refine congrArg (fun y => Ending.returned (Value.int .i64 y)) ?_
    simp
    exact congrArg (fun x : Nat => (x : Int)) hq
  · have h0 := HL.out
    simpa using h0

set_option maxRecDepth 100000 in
set_option maxHeartbeats 1000000 in
theorem len64_001 (n : Nat) (w : World) (hn : n ≤ 18446744073709551615) (c32 : n < 4294967296) (c16 : n < 65536) (c8 : 256 ≤ n) :
    Calls Try.prog 45 #[.int .u64 n] w fun en w' => (∃ r : Nat, en = .returned (.int .i64 r) ∧ IsLen n r ∧ r ≤ 1000) ∧ w = w' := by
  have d1 : decide ((4294967296 : Int) ≤ (n : Int)) = false := by simp; omega
  have d2 : decide ((65536 : Int) ≤ (n : Int)) = false := by simp; omega
  have d3 : decide ((256 : Int) ≤ (n : Int)) = true := by simp; omega
  have hk : n / 256 < 256 := by omega
  have hsz : n / 256 < len8.size := hk
  have hL := len8_isLen _ hk hsz
  have hle := len8_le _ hsz
  obtain ⟨q, hq⟩ : ∃ q, (len8[n / 256]'hsz).toNat = q := ⟨_, rfl⟩
  rw [hq] at hL hle
  have HL := hid hL
  unfold len8 at hq
  clear hL hn
  go_enter Try.func45, Try.ntmps45
  go_wp2_with fail
  go_ret
  refine ⟨⟨8 + q, ?_, ?_, by omega⟩, rfl⟩
  · refine congrArg (fun y => Ending.returned (Value.int .i64 y)) ?_
    simp
    exact congrArg (fun x : Nat => (x : Int)) hq
  · have h0 := HL.out
    have h0 := IsLen.shift (n := n) (k := 8) h0 (by omega)
    simpa only [← Nat.add_assoc, Nat.zero_add] using h0

set_option maxRecDepth 100000 in
set_option maxHeartbeats 1000000 in
theorem len64_010 (n : Nat) (w : World) (hn : n ≤ 18446744073709551615) (c32 : n < 4294967296) (c16 : 65536 ≤ n) (c8 : n / 65536 < 256) :
    Calls Try.prog 45 #[.int .u64 n] w fun en w' => (∃ r : Nat, en = .returned (.int .i64 r) ∧ IsLen n r ∧ r ≤ 1000) ∧ w = w' := by
  have d1 : decide ((4294967296 : Int) ≤ (n : Int)) = false := by simp; omega
  have d2 : decide ((65536 : Int) ≤ (n : Int)) = true := by simp; omega
  have d3 : decide ((256 : Int) ≤ ((n : Int) / 65536)) = false := by simp; omega
  have hk : n / 65536 < 256 := by omega
  have hsz : n / 65536 < len8.size := hk
  have hL := len8_isLen _ hk hsz
  have hle := len8_le _ hsz
  obtain ⟨q, hq⟩ : ∃ q, (len8[n / 65536]'hsz).toNat = q := ⟨_, rfl⟩
  rw [hq] at hL hle
  have HL := hid hL
  unfold len8 at hq
  clear hL hn
  go_enter Try.func45, Try.ntmps45
  go_wp2_with fail
  go_ret
  refine ⟨⟨16 + q, ?_, ?_, by omega⟩, rfl⟩
  · refine congrArg (fun y => Ending.returned (Value.int .i64 y)) ?_
    simp
    exact congrArg (fun x : Nat => (x : Int)) hq
  · have h0 := HL.out
    have h0 := IsLen.shift (n := n) (k := 16) h0 (by omega)
    simpa only [← Nat.add_assoc, Nat.zero_add] using h0

set_option maxRecDepth 100000 in
set_option maxHeartbeats 1000000 in
theorem len64_011 (n : Nat) (w : World) (hn : n ≤ 18446744073709551615) (c32 : n < 4294967296) (c16 : 65536 ≤ n) (c8 : 256 ≤ n / 65536) :
    Calls Try.prog 45 #[.int .u64 n] w fun en w' => (∃ r : Nat, en = .returned (.int .i64 r) ∧ IsLen n r ∧ r ≤ 1000) ∧ w = w' := by
  have d1 : decide ((4294967296 : Int) ≤ (n : Int)) = false := by simp; omega
  have d2 : decide ((65536 : Int) ≤ (n : Int)) = true := by simp; omega
  have d3 : decide ((256 : Int) ≤ ((n : Int) / 65536)) = true := by simp; omega
  have hk : n / 65536 / 256 < 256 := by omega
  have hsz : n / 65536 / 256 < len8.size := hk
  have hL := len8_isLen _ hk hsz
  have hle := len8_le _ hsz
  obtain ⟨q, hq⟩ : ∃ q, (len8[n / 65536 / 256]'hsz).toNat = q := ⟨_, rfl⟩
  rw [hq] at hL hle
  have HL := hid hL
  unfold len8 at hq
  clear hL hn
  go_enter Try.func45, Try.ntmps45
  go_wp2_with fail
  go_ret
  refine ⟨⟨24 + q, ?_, ?_, by omega⟩, rfl⟩
  · refine congrArg (fun y => Ending.returned (Value.int .i64 y)) ?_
    simp
    exact congrArg (fun x : Nat => (x : Int)) hq
  · have h0 := HL.out
    have h0 := IsLen.shift (n := n / 65536) (k := 8) h0 (by omega)
    have h0 := IsLen.shift (n := n) (k := 16) h0 (by omega)
    simpa only [← Nat.add_assoc, Nat.zero_add] using h0

set_option maxRecDepth 100000 in
set_option maxHeartbeats 1000000 in
theorem len64_100 (n : Nat) (w : World) (hn : n ≤ 18446744073709551615) (c32 : 4294967296 ≤ n) (c16 : n / 4294967296 < 65536) (c8 : n / 4294967296 < 256) :
    Calls Try.prog 45 #[.int .u64 n] w fun en w' => (∃ r : Nat, en = .returned (.int .i64 r) ∧ IsLen n r ∧ r ≤ 1000) ∧ w = w' := by
  have d1 : decide ((4294967296 : Int) ≤ (n : Int)) = true := by simp; omega
  have d2 : decide ((65536 : Int) ≤ ((n : Int) / 4294967296)) = false := by simp; omega
  have d3 : decide ((256 : Int) ≤ ((n : Int) / 4294967296)) = false := by simp; omega
  have hk : n / 4294967296 < 256 := by omega
  have hsz : n / 4294967296 < len8.size := hk
  have hL := len8_isLen _ hk hsz
  have hle := len8_le _ hsz
  obtain ⟨q, hq⟩ : ∃ q, (len8[n / 4294967296]'hsz).toNat = q := ⟨_, rfl⟩
  rw [hq] at hL hle
  have HL := hid hL
  unfold len8 at hq
  clear hL hn
  go_enter Try.func45, Try.ntmps45
  go_wp2_with fail
  go_ret
  refine ⟨⟨32 + q, ?_, ?_, by omega⟩, rfl⟩
  · refine congrArg (fun y => Ending.returned (Value.int .i64 y)) ?_
    simp
    exact congrArg (fun x : Nat => (x : Int)) hq
  · have h0 := HL.out
    have h0 := IsLen.shift (n := n) (k := 32) h0 (by omega)
    simpa only [← Nat.add_assoc, Nat.zero_add] using h0

set_option maxRecDepth 100000 in
set_option maxHeartbeats 1000000 in
theorem len64_101 (n : Nat) (w : World) (hn : n ≤ 18446744073709551615) (c32 : 4294967296 ≤ n) (c16 : n / 4294967296 < 65536) (c8 : 256 ≤ n / 4294967296) :
    Calls Try.prog 45 #[.int .u64 n] w fun en w' => (∃ r : Nat, en = .returned (.int .i64 r) ∧ IsLen n r ∧ r ≤ 1000) ∧ w = w' := by
  have d1 : decide ((4294967296 : Int) ≤ (n : Int)) = true := by simp; omega
  have d2 : decide ((65536 : Int) ≤ ((n : Int) / 4294967296)) = false := by simp; omega
  have d3 : decide ((256 : Int) ≤ ((n : Int) / 4294967296)) = true := by simp; omega
  have hk : n / 4294967296 / 256 < 256 := by omega
  have hsz : n / 4294967296 / 256 < len8.size := hk
  have hL := len8_isLen _ hk hsz
  have hle := len8_le _ hsz
  obtain ⟨q, hq⟩ : ∃ q, (len8[n / 4294967296 / 256]'hsz).toNat = q := ⟨_, rfl⟩
  rw [hq] at hL hle
  have HL := hid hL
  unfold len8 at hq
  clear hL hn
  go_enter Try.func45, Try.ntmps45
  go_wp2_with fail
  go_ret
  refine ⟨⟨40 + q, ?_, ?_, by omega⟩, rfl⟩
  · refine congrArg (fun y => Ending.returned (Value.int .i64 y)) ?_
    simp
    exact congrArg (fun x : Nat => (x : Int)) hq
  · have h0 := HL.out
    have h0 := IsLen.shift (n := n / 4294967296) (k := 8) h0 (by omega)
    have h0 := IsLen.shift (n := n) (k := 32) h0 (by omega)
    simpa only [← Nat.add_assoc, Nat.zero_add] using h0

set_option maxRecDepth 100000 in
set_option maxHeartbeats 1000000 in
theorem len64_110 (n : Nat) (w : World) (hn : n ≤ 18446744073709551615) (c32 : 4294967296 ≤ n) (c16 : 65536 ≤ n / 4294967296) (c8 : n / 4294967296 / 65536 < 256) :
    Calls Try.prog 45 #[.int .u64 n] w fun en w' => (∃ r : Nat, en = .returned (.int .i64 r) ∧ IsLen n r ∧ r ≤ 1000) ∧ w = w' := by
  have d1 : decide ((4294967296 : Int) ≤ (n : Int)) = true := by simp; omega
  have d2 : decide ((65536 : Int) ≤ ((n : Int) / 4294967296)) = true := by simp; omega
  have d3 : decide ((256 : Int) ≤ (((n : Int) / 4294967296) / 65536)) = false := by simp; omega
  have hk : n / 4294967296 / 65536 < 256 := by omega
  have hsz : n / 4294967296 / 65536 < len8.size := hk
  have hL := len8_isLen _ hk hsz
  have hle := len8_le _ hsz
  obtain ⟨q, hq⟩ : ∃ q, (len8[n / 4294967296 / 65536]'hsz).toNat = q := ⟨_, rfl⟩
  rw [hq] at hL hle
  have HL := hid hL
  unfold len8 at hq
  clear hL hn
  go_enter Try.func45, Try.ntmps45
  go_wp2_with fail
  go_ret
  refine ⟨⟨48 + q, ?_, ?_, by omega⟩, rfl⟩
  · refine congrArg (fun y => Ending.returned (Value.int .i64 y)) ?_
    simp
    exact congrArg (fun x : Nat => (x : Int)) hq
  · have h0 := HL.out
    have h0 := IsLen.shift (n := n / 4294967296) (k := 16) h0 (by omega)
    have h0 := IsLen.shift (n := n) (k := 32) h0 (by omega)
    simpa only [← Nat.add_assoc, Nat.zero_add] using h0

set_option maxRecDepth 100000 in
set_option maxHeartbeats 1000000 in
theorem len64_111 (n : Nat) (w : World) (hn : n ≤ 18446744073709551615) (c32 : 4294967296 ≤ n) (c16 : 65536 ≤ n / 4294967296) (c8 : 256 ≤ n / 4294967296 / 65536) :
    Calls Try.prog 45 #[.int .u64 n] w fun en w' => (∃ r : Nat, en = .returned (.int .i64 r) ∧ IsLen n r ∧ r ≤ 1000) ∧ w = w' := by
  have d1 : decide ((4294967296 : Int) ≤ (n : Int)) = true := by simp; omega
  have d2 : decide ((65536 : Int) ≤ ((n : Int) / 4294967296)) = true := by simp; omega
  have d3 : decide ((256 : Int) ≤ (((n : Int) / 4294967296) / 65536)) = true := by simp; omega
  have hk : n / 4294967296 / 65536 / 256 < 256 := by omega
  have hsz : n / 4294967296 / 65536 / 256 < len8.size := hk
  have hL := len8_isLen _ hk hsz
  have hle := len8_le _ hsz
  obtain ⟨q, hq⟩ : ∃ q, (len8[n / 4294967296 / 65536 / 256]'hsz).toNat = q := ⟨_, rfl⟩
  rw [hq] at hL hle
  have HL := hid hL
  unfold len8 at hq
  clear hL hn
  go_enter Try.func45, Try.ntmps45
  go_wp2_with fail
  go_ret
  refine ⟨⟨56 + q, ?_, ?_, by omega⟩, rfl⟩
  · refine congrArg (fun y => Ending.returned (Value.int .i64 y)) ?_
    simp
    exact congrArg (fun x : Nat => (x : Int)) hq
  · have h0 := HL.out
    have h0 := IsLen.shift (n := n / 4294967296 / 65536) (k := 8) h0 (by omega)
    have h0 := IsLen.shift (n := n / 4294967296) (k := 16) h0 (by omega)
    have h0 := IsLen.shift (n := n) (k := 32) h0 (by omega)
    simpa only [← Nat.add_assoc, Nat.zero_add] using h0

theorem len64_any (n : Nat) (w : World) (hn : n ≤ 18446744073709551615) :
    Calls Try.prog 45 #[.int .u64 n] w fun en w' => (∃ r : Nat, en = .returned (.int .i64 r) ∧ IsLen n r ∧ r ≤ 1000) ∧ w = w' := by
  by_cases c32 : n < 4294967296
  · by_cases c16 : n < 65536
    · by_cases c8 : n < 256
      · exact len64_000 n w hn c32 c16 c8
      · exact len64_001 n w hn c32 c16 (by omega)
    · by_cases c8 : n / 65536 < 256
      · exact len64_010 n w hn c32 (by omega) c8
      · exact len64_011 n w hn c32 (by omega) (by omega)
  · by_cases c16 : n / 4294967296 < 65536
    · by_cases c8 : n / 4294967296 < 256
      · exact len64_100 n w hn (by omega) c16 c8
      · exact len64_101 n w hn (by omega) c16 (by omega)
    · by_cases c8 : n / 4294967296 / 65536 < 256
      · exact len64_110 n w hn (by omega) (by omega) c8
      · exact len64_111 n w hn (by omega) (by omega) (by omega)

set_option maxHeartbeats 400000 in
theorem size_any (n : Nat) (w : World) (hn : n ≤ 18446744073709551615) :
    Calls Try.prog 11 #[.int .u64 n] w fun en w' => en = .returned (.int .i64 (shortB n).length) ∧ w = w' := by
  have H := hid (len64_any n w hn)
  have HS := hid (fun r h => shortB_len n r h hn)
  clear hn
  go_enter Try.func11, Try.ntmps11
  go_wp2_with (go_at_call 45; refine H.out.mono ?_; rintro e w1 ⟨⟨r, rfl, hr, hb⟩, rfl⟩; have HR := hid hr; clear hr)
  all_goals
    have e := HS.out r HR.out
    go_ret
    refine ⟨?_, rfl⟩
    rw [e]
    refine congrArg (fun y => Ending.returned (Value.int .i64 y)) ?_
    omega

end Go.Proofs.Ytcggakegbdpdfaa
