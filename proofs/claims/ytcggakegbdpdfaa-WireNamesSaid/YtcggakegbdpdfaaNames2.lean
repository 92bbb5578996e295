/-
  WireNames: the walk.
-/
import Derived.Test.YtcggakegbdpdfaaNames
namespace Go.Proofs.Ytcggakegbdpdfaa
open Go.RowKit

def nameB : List UInt8 := [255, 128, 0, 0, 0, 128, 0, 0, 0, 0, 0, 0, 1]
def numsC : Array Value := (nums.map fun (n : Nat) => Value.int .u64 (n : Int)).toArray
theorem nums_cells (i : Nat) (hi : i < 20) : ∃ n : Nat, n ≤ 18446744073709551615 ∧ (numsC)[i]? = some (.int .u64 (n : Int)) := by
  have hl : i < nums.length := by simpa [nums] using hi
  refine ⟨nums[i], nums_le _ (List.getElem_mem hl), ?_⟩
  unfold numsC
  simp [hl]

theorem cat_bytes (a b : List UInt8) : ((⟨a.toArray⟩ : ByteArray) ++ (⟨b.toArray⟩ : ByteArray)) = ⟨(a ++ b).toArray⟩ := by
  apply ByteArray.ext
  simp
theorem end0 (w : World) (b : Nat) (r : Rd) (e : Nat) (h : RdIs w b r) (he : endE r.s.length r.at_ r.e = e) :
    Calls Try.prog 24 #[.pointer (some ⟨b, 0, none⟩)] w fun en w' => en = .returned (.int .i64 (e : Int)) ∧ Fr No w w' := by
  have := endR b r w h
  rwa [he] at this

set_option maxHeartbeats 2000000 in
set_option maxRecDepth 100000 in
theorem wireNames_any (w : World) :
    Calls Try.prog 8 #[] w fun e w' => e = .returned (.bool true) ∧ Fr No w w' := by
  have K := hid (fun w1 => works_any w1)
  go_enter Try.func8, Try.ntmps8
  go_wp2_with (first
    | (go_at_call 9; refine (K.out _).mono ?_; rintro e1 w1 ⟨rfl, hf1⟩))
  have hg : (w1.alloc (.cells numsC 22)).heap[w1.heap.size]? = some (.cells numsC 22 (0, 0)) := Go.heap_alloc_new _ _
  have hcells : ∀ i, i < 20 → ∃ n : Nat, n ≤ 18446744073709551615 ∧ (w1.alloc (.cells numsC 22)).cell? ⟨w1.heap.size, i, none⟩ = some (.int .u64 (n : Int)) := by
    intro i hi
    obtain ⟨n, h1, h2⟩ := nums_cells i hi
    exact ⟨n, h1, by simp only [World.cell?, hg]; simpa using h2⟩
  have hf0 : Fr No w (w1.alloc (.cells numsC 22)) := hf1.alloc _
  have hsz : w1.heap.size < (w1.alloc (.cells numsC 22)).heap.size := lt_of_block hg
  generalize hW : (w1.alloc (.cells numsC 22)) = W0 at hcells hf0 hsz
  have hW2 : (w1.alloc (.cells #[.int .u64 0, .int .u64 127, .int .u64 128, .int .u64 16383, .int .u64 16384, .int .u64 2097151, .int .u64 2097152, .int .u64 268435455, .int .u64 268435456, .int .u64 34359738367, .int .u64 34359738368, .int .u64 4398046511103, .int .u64 4398046511104, .int .u64 562949953421311, .int .u64 562949953421312, .int .u64 72057594037927935, .int .u64 72057594037927936, .int .u64 9223372036854775807, .int .u64 9223372036854775808, .int .u64 18446744073709551615] 22)) = W0 := hW
  rw [hW2]
  clear hW hW2 hg
  go_loopw [19] (fun c wr => ∃ i : Nat, i ≤ 20 ∧ c = .int .i64 i ∧ Fr No W0 wr) (fun c _ => 20 - (intOf c).toNat)
  case atStart => exact ⟨0, by omega, rfl, Fr.refl _⟩
  case round =>
    obtain ⟨i, hi, rfl, hfr⟩ := hrel
    by_cases hlt : i < 20
    · have hd : decide ((i : Int) < 20) = true := by simp; omega
      obtain ⟨n, hn, hc⟩ := hcells i hlt
      have hc2 := hfr.cell0 hc
      have SX := hid (fun w1 => short02_any n w1 hn)
      have ZX := hid (fun w1 => size_any n w1 hn)
      have hs10 := shortB_length_le n
      have NX := hid (fun w1 => new_any (shortB n ++ [120]) w1 (by simp; omega))
      have hx := cat_bytes (shortB n) [120]
      have LX := hid (fun b w1 (h : RdIs w1 b ⟨shortB n ++ [120], (shortB n).length, 0, 0⟩) => left_any b _ _ _ _ w1 h)
      have E1 := hid (fun b w1 (h : RdIs w1 b ⟨shortB n ++ [120], (shortB n).length, 0, 0⟩) => end0 w1 b _ 4 h (by simp [endE]))
      have E2 := hid (fun b w1 (h : RdIs w1 b ⟨shortB n ++ [120], (shortB n).length + 1, 0, 0⟩) => end0 w1 b _ 0 h (by simp [endE]))
      have WX := hid (fun b w1 (h : RdIs w1 b ⟨shortB n ++ [120], (shortB n).length, 0, 0⟩) => rawR b _ 1 w1 h)
      rw [show (1 : Int) = (([120] : List UInt8).length : Int) from rfl, rRaw_at ⟨shortB n ++ [120], (shortB n).length, 0, 0⟩ [120] [] rfl (by simp)] at WX
      simp only [List.length_append, List.length_cons, List.length_nil, Nat.zero_add, Nat.add_sub_cancel_left] at LX WX
      have RX := hid (fun b w1 (h : RdIs w1 b ⟨shortB n ++ [120], 0, 0, 0⟩) => shortR b _ n w1 h)
      rw [rSh_at n n ⟨shortB n ++ [120], 0, 0, 0⟩ [120] rfl hn (Nat.le_refl _) (by simp)] at RX
      simp only [Nat.zero_add] at RX
      have HN := hid hn
      unfold strV at SX NX WX
      rw [← hx] at NX
      replace hx := hid hx
      clear hn hc
      by_cases h0 : 0 < n
      · have hd2 : decide ((0 : Int) < (n : Int)) = true := by simp; omega
        have QX := hid (fun w1 => wrong02_any (shortB n) (n - 1) 40 w1 (by omega) (rSh_more n HN.out h0))
        unfold strV at QX
        have hq : IntKind.u64.wrap ((n : Int) - 1) = ((n - 1 : Nat) : Int) := by rw [IntWalk.u64_in _ (by have := HN.out; omega)]; omega
        rw [← hq] at QX
        replace hq := hid hq
        go_wp2_with (first
          | (go_at_call 10; refine (SX.out _).mono ?_; rintro e2 w2 ⟨rfl, hf2⟩)
          | (go_at_call 18; refine (NX.out _).mono ?_; rintro e3 w3 ⟨b, rfl, hb, hlt3, hf3⟩)
          | (go_at_call 11; refine (ZX.out _).mono ?_; rintro e4 w4 ⟨rfl, rfl⟩)
          | (go_at_call 28; refine (RX.out b _ hb).mono ?_; rintro e5 w5 ⟨rfl, hr5, hf5⟩)
          | (go_at_call 22; refine (LX.out b _ hr5).mono ?_; rintro e6 w6 ⟨rfl, hf6⟩; have hr6 := hr5.fr hf6 id)
          | (go_at_call 24; refine (E2.out b _ hr8).mono ?_; rintro e9 w9 ⟨rfl, hf9⟩)
          | (go_at_call 24; refine (E1.out b _ hr6).mono ?_; rintro e7 w7 ⟨rfl, hf7⟩; have hr7 := hr6.fr hf7 id)
          | (go_at_call 29; refine (WX.out b _ hr7).mono ?_; rintro e8 w8 ⟨rfl, hr8, hf8⟩)
          | (go_at_call 30; refine (QX.out _).mono ?_; rintro e10 w10 ⟨rfl, hf10⟩))
        have hbW := Nat.le_trans (hfr.trans hf2).size hlt3
        have F9 := ((((((hfr.trans hf2).trans hf3).newOnly hbW hf5).trans hf6).trans hf7).newOnly hbW hf8).trans hf9
        go_roundw
        case rel => exact ⟨i + 1, by omega, by go_num, F9.trans hf10⟩
        case measure => simp [intOf]; omega
      · have hd2 : decide ((0 : Int) < (n : Int)) = false := by simp; omega
        go_wp2_with (first
          | (go_at_call 10; refine (SX.out _).mono ?_; rintro e2 w2 ⟨rfl, hf2⟩)
          | (go_at_call 18; refine (NX.out _).mono ?_; rintro e3 w3 ⟨b, rfl, hb, hlt3, hf3⟩)
          | (go_at_call 11; refine (ZX.out _).mono ?_; rintro e4 w4 ⟨rfl, rfl⟩)
          | (go_at_call 28; refine (RX.out b _ hb).mono ?_; rintro e5 w5 ⟨rfl, hr5, hf5⟩)
          | (go_at_call 22; refine (LX.out b _ hr5).mono ?_; rintro e6 w6 ⟨rfl, hf6⟩; have hr6 := hr5.fr hf6 id)
          | (go_at_call 24; refine (E2.out b _ hr8).mono ?_; rintro e9 w9 ⟨rfl, hf9⟩)
          | (go_at_call 24; refine (E1.out b _ hr6).mono ?_; rintro e7 w7 ⟨rfl, hf7⟩; have hr7 := hr6.fr hf7 id)
          | (go_at_call 29; refine (WX.out b _ hr7).mono ?_; rintro e8 w8 ⟨rfl, hr8, hf8⟩))
        have hbW := Nat.le_trans (hfr.trans hf2).size hlt3
        have F9 := ((((((hfr.trans hf2).trans hf3).newOnly hbW hf5).trans hf6).trans hf7).newOnly hbW hf8).trans hf9
        go_roundw
        case rel => exact ⟨i + 1, by omega, by go_num, F9⟩
        case measure => simp [intOf]; omega
    · have hd : decide ((i : Int) < 20) = false := by simp; omega
      have F0 := hf0.trans hfr
      clear hcells hf0 hfr hf1 hsz
      generalize wr = wq at F0 ⊢
      have G1 : Hid (∀ w1, Calls Try.prog 30 #[.string ⟨#[]⟩, .int .u64 9, .int .i64 8] w1 fun e w' => e = .returned (.bool true) ∧ Fr No w1 w') := hid (fun w1 => wrong02_any [] 9 8 w1 (by decide) (by decide +kernel))
      have G2 : Hid (∀ w1, Calls Try.prog 30 #[.string ⟨#[128]⟩, .int .u64 9, .int .i64 8] w1 fun e w' => e = .returned (.bool true) ∧ Fr No w1 w') := hid (fun w1 => wrong02_any [128] 9 8 w1 (by decide) (by decide +kernel))
      have G3 : Hid (∀ w1, Calls Try.prog 30 #[.string ⟨#[128, 128, 0]⟩, .int .u64 9, .int .i64 4] w1 fun e w' => e = .returned (.bool true) ∧ Fr No w1 w') := hid (fun w1 => wrong02_any [128, 128, 0] 9 4 w1 (by decide) (by decide +kernel))
      have G4 : Hid (∀ w1, Calls Try.prog 30 #[.string ⟨#[255, 255, 255, 255, 255, 255, 255, 255, 255, 255, 1]⟩, .int .u64 18446744073709551615, .int .i64 4] w1 fun e w' => e = .returned (.bool true) ∧ Fr No w1 w') := hid (fun w1 => wrong02_any [255, 255, 255, 255, 255, 255, 255, 255, 255, 255, 1] 18446744073709551615 4 w1 (by decide) (by decide +kernel))
      have Z0 : Hid (∀ w1, Calls Try.prog 11 #[.int .u64 0] w1 fun e w' => e = .returned (.int .i64 1) ∧ w1 = w') := hid (fun w1 => by
        have h := size_any 0 w1 (by decide)
        rw [sh0] at h
        exact h)
      have Z1 : Hid (∀ w1, Calls Try.prog 11 #[.int .u64 128] w1 fun e w' => e = .returned (.int .i64 2) ∧ w1 = w') := hid (fun w1 => by
        have h := size_any 128 w1 (by decide)
        rw [sh128] at h
        exact h)
      have Z2 : Hid (∀ w1, Calls Try.prog 11 #[.int .u64 18446744073709551615] w1 fun e w' => e = .returned (.int .i64 10) ∧ w1 = w') := hid (fun w1 => by
        have h := size_any 18446744073709551615 w1 (by decide)
        rw [shMax] at h
        exact h)
      have W1 : Hid (∀ B o w1, WrAt w1 B o [] → Calls Try.prog 31 #[.pointer (some ⟨B, 0, none⟩), .int .u8 255] w1 fun e w' => e = .returned (.tuple #[]) ∧ Wrote w1 w' B o [255]) := hid (fun B o w1 h => u8_any B o 255 [] w1 h (by decide) (by decide))
      have W2 : Hid (∀ B o w1, WrAt w1 B o [255] → Calls Try.prog 32 #[.pointer (some ⟨B, 0, none⟩), .int .u32 2147483648] w1 fun e w' => e = .returned (.tuple #[]) ∧ Wrote w1 w' B o ([255] ++ fixedB 4 2147483648)) := hid (fun B o w1 h => u32_any B o 2147483648 [255] w1 h (by decide) (by decide))
      have W3 : Hid (∀ B o w1, WrAt w1 B o ([255] ++ fixedB 4 2147483648) → Calls Try.prog 33 #[.pointer (some ⟨B, 0, none⟩), .int .u64 9223372036854775809] w1 fun e w' => e = .returned (.tuple #[]) ∧ Wrote w1 w' B o ([255] ++ fixedB 4 2147483648 ++ fixedB 8 9223372036854775809)) := hid (fun B o w1 h => u64_any B o 9223372036854775809 _ w1 h (by decide) (by decide))
      have W4 : Hid (∀ B o w1, WrAt w1 B o ([255] ++ fixedB 4 2147483648 ++ fixedB 8 9223372036854775809) → Calls Try.prog 34 #[.pointer (some ⟨B, 0, none⟩), .string ⟨#[]⟩] w1 fun e w' => e = .returned (.tuple #[]) ∧ Wrote w1 w' B o nameB) := hid (fun B o w1 h => by
        have h2 := raw_any B o ⟨#[]⟩ _ w1 h (by decide)
        rw [show [255] ++ fixedB 4 2147483648 ++ fixedB 8 9223372036854775809 ++ (⟨#[]⟩ : ByteArray).data.toList = nameB from by decide +kernel] at h2
        exact h2)
      have W5 : Hid (∀ B o w1, WrAt w1 B o nameB → Calls Try.prog 17 #[.pointer (some ⟨B, 0, none⟩)] w1 fun e w' => e = .returned (.string ⟨#[255, 128, 0, 0, 0, 128, 0, 0, 0, 0, 0, 0, 1]⟩) ∧ w1 = w') := hid (fun B o w1 h => bytes_any B o _ w1 h)
      have W6 : Hid (∀ B o w1, WrAt w1 B o nameB → Calls Try.prog 15 #[.pointer (some ⟨B, 0, none⟩)] w1 fun e w' => e = .returned (.int .i64 13) ∧ w1 = w') := hid (fun B o w1 h => len_any B o _ w1 h)
      have NB : Hid (∀ w1, Calls Try.prog 18 #[.string ⟨#[255, 128, 0, 0, 0, 128, 0, 0, 0, 0, 0, 0, 1]⟩] w1 fun e w' => ∃ b, e = .returned (.pointer (some ⟨b, 0, none⟩)) ∧ RdIs w' b ⟨[255, 128, 0, 0, 0, 128, 0, 0, 0, 0, 0, 0, 1], 0, 0, 0⟩ ∧ w1.heap.size ≤ b ∧ Fr No w1 w') := hid (fun w1 => new_any [255, 128, 0, 0, 0, 128, 0, 0, 0, 0, 0, 0, 1] w1 (by decide))
      have NY : Hid (∀ w1, Calls Try.prog 18 #[.string ⟨#[3, 97, 98]⟩] w1 fun e w' => ∃ b, e = .returned (.pointer (some ⟨b, 0, none⟩)) ∧ RdIs w' b ⟨[3, 97, 98], 0, 0, 0⟩ ∧ w1.heap.size ≤ b ∧ Fr No w1 w') := hid (fun w1 => new_any [3, 97, 98] w1 (by decide))
      have NZ : Hid (∀ w1, Calls Try.prog 18 #[.string ⟨#[0, 1]⟩] w1 fun e w' => ∃ b, e = .returned (.pointer (some ⟨b, 0, none⟩)) ∧ RdIs w' b ⟨[0, 1], 0, 0, 0⟩ ∧ w1.heap.size ≤ b ∧ Fr No w1 w') := hid (fun w1 => new_any [0, 1] w1 (by decide))
      have R1 : Hid (∀ b w1, RdIs w1 b ⟨[255, 128, 0, 0, 0, 128, 0, 0, 0, 0, 0, 0, 1], 0, 0, 0⟩ → Calls Try.prog 35 #[.pointer (some ⟨b, 0, none⟩)] w1 fun e w' => e = .returned (.int .u8 255) ∧ ReadTo w1 w' b ⟨[255, 128, 0, 0, 0, 128, 0, 0, 0, 0, 0, 0, 1], 1, 0, 0⟩) := hid (fun b w1 h => by
        have h2 := u8R b _ w1 h
        rw [show rFix 1 ⟨[255, 128, 0, 0, 0, 128, 0, 0, 0, 0, 0, 0, 1], 0, 0, 0⟩ = (255, ⟨[255, 128, 0, 0, 0, 128, 0, 0, 0, 0, 0, 0, 1], 1, 0, 0⟩) from by decide +kernel] at h2
        exact h2)
      have R2 : Hid (∀ b w1, RdIs w1 b ⟨[255, 128, 0, 0, 0, 128, 0, 0, 0, 0, 0, 0, 1], 1, 0, 0⟩ → Calls Try.prog 36 #[.pointer (some ⟨b, 0, none⟩)] w1 fun e w' => e = .returned (.int .u32 2147483648) ∧ ReadTo w1 w' b ⟨[255, 128, 0, 0, 0, 128, 0, 0, 0, 0, 0, 0, 1], 5, 0, 0⟩) := hid (fun b w1 h => by
        have h2 := u32R b _ w1 h
        rw [show rFix 4 ⟨[255, 128, 0, 0, 0, 128, 0, 0, 0, 0, 0, 0, 1], 1, 0, 0⟩ = (2147483648, ⟨[255, 128, 0, 0, 0, 128, 0, 0, 0, 0, 0, 0, 1], 5, 0, 0⟩) from by decide +kernel] at h2
        exact h2)
      have R3 : Hid (∀ b w1, RdIs w1 b ⟨[255, 128, 0, 0, 0, 128, 0, 0, 0, 0, 0, 0, 1], 5, 0, 0⟩ → Calls Try.prog 37 #[.pointer (some ⟨b, 0, none⟩)] w1 fun e w' => e = .returned (.int .u64 9223372036854775809) ∧ ReadTo w1 w' b ⟨[255, 128, 0, 0, 0, 128, 0, 0, 0, 0, 0, 0, 1], 13, 0, 0⟩) := hid (fun b w1 h => by
        have h2 := u64R b _ w1 h
        rw [show rFix 8 ⟨[255, 128, 0, 0, 0, 128, 0, 0, 0, 0, 0, 0, 1], 5, 0, 0⟩ = (9223372036854775809, ⟨[255, 128, 0, 0, 0, 128, 0, 0, 0, 0, 0, 0, 1], 13, 0, 0⟩) from by decide +kernel] at h2
        exact h2)
      have R4 : Hid (∀ b w1, RdIs w1 b ⟨[255, 128, 0, 0, 0, 128, 0, 0, 0, 0, 0, 0, 1], 13, 0, 0⟩ → Calls Try.prog 24 #[.pointer (some ⟨b, 0, none⟩)] w1 fun e w' => e = .returned (.int .i64 0) ∧ Fr No w1 w') := hid (fun b w1 h => end0 w1 b _ 0 h (by decide))
      have R5 : Hid (∀ b w1, RdIs w1 b ⟨[255, 128, 0, 0, 0, 128, 0, 0, 0, 0, 0, 0, 1], 13, 0, 0⟩ → Calls Try.prog 29 #[.pointer (some ⟨b, 0, none⟩), .int .i64 (-5)] w1 fun e w' => e = .returned (.string ⟨#[]⟩) ∧ ReadTo w1 w' b ⟨[255, 128, 0, 0, 0, 128, 0, 0, 0, 0, 0, 0, 1], 13, 0, 0⟩) := hid (fun b w1 h => by
        have h2 := rawR b _ (-5) w1 h
        rw [show rRaw (-5) ⟨[255, 128, 0, 0, 0, 128, 0, 0, 0, 0, 0, 0, 1], 13, 0, 0⟩ = ([], ⟨[255, 128, 0, 0, 0, 128, 0, 0, 0, 0, 0, 0, 1], 13, 0, 0⟩) from by decide +kernel] at h2
        exact h2)
      have R6 : Hid (∀ b w1, RdIs w1 b ⟨[255, 128, 0, 0, 0, 128, 0, 0, 0, 0, 0, 0, 1], 13, 0, 0⟩ → Calls Try.prog 38 #[.pointer (some ⟨b, 0, none⟩), .int .i64 5] w1 fun e w' => e = .returned (.string ⟨#[]⟩) ∧ ReadTo w1 w' b ⟨[255, 128, 0, 0, 0, 128, 0, 0, 0, 0, 0, 0, 1], 13, 8, 13⟩) := hid (fun b w1 h => by
        have h2 := textR b _ 5 w1 h (by decide)
        rw [show rTx 5 ⟨[255, 128, 0, 0, 0, 128, 0, 0, 0, 0, 0, 0, 1], 13, 0, 0⟩ = ([], ⟨[255, 128, 0, 0, 0, 128, 0, 0, 0, 0, 0, 0, 1], 13, 8, 13⟩) from by decide +kernel] at h2
        exact h2)
      have R7 : Hid (∀ b w1, RdIs w1 b ⟨[255, 128, 0, 0, 0, 128, 0, 0, 0, 0, 0, 0, 1], 13, 8, 13⟩ → Calls Try.prog 19 #[.pointer (some ⟨b, 0, none⟩)] w1 fun e w' => e = .returned (.tuple #[.int .i64 8, .int .i64 13]) ∧ Fr No w1 w') := hid (fun b w1 h => err_any b _ _ _ _ w1 h)
      have Y1 : Hid (∀ b w1, RdIs w1 b ⟨[3, 97, 98], 0, 0, 0⟩ → Calls Try.prog 38 #[.pointer (some ⟨b, 0, none⟩), .int .i64 2] w1 fun e w' => e = .returned (.string ⟨#[]⟩) ∧ ReadTo w1 w' b ⟨[3, 97, 98], 0, 40, 0⟩) := hid (fun b w1 h => by
        have h2 := textR b _ 2 w1 h (by decide)
        rw [show rTx 2 ⟨[3, 97, 98], 0, 0, 0⟩ = ([], ⟨[3, 97, 98], 0, 40, 0⟩) from by decide +kernel] at h2
        exact h2)
      have Y2 : Hid (∀ b w1, RdIs w1 b ⟨[3, 97, 98], 0, 40, 0⟩ → Calls Try.prog 24 #[.pointer (some ⟨b, 0, none⟩)] w1 fun e w' => e = .returned (.int .i64 40) ∧ Fr No w1 w') := hid (fun b w1 h => end0 w1 b _ 40 h (by decide))
      have Z4 : Hid (∀ b w1, RdIs w1 b ⟨[0, 1], 0, 0, 0⟩ → Calls Try.prog 38 #[.pointer (some ⟨b, 0, none⟩), .int .i64 (-1)] w1 fun e w' => e = .returned (.string ⟨#[]⟩) ∧ ReadTo w1 w' b ⟨[0, 1], 1, 0, 0⟩) := hid (fun b w1 h => by
        have h2 := textR b _ (-1) w1 h (by decide)
        rw [show rTx (-1) ⟨[0, 1], 0, 0, 0⟩ = ([], ⟨[0, 1], 1, 0, 0⟩) from by decide +kernel] at h2
        exact h2)
      have Z5 : Hid (∀ b w1, RdIs w1 b ⟨[0, 1], 1, 0, 0⟩ → Calls Try.prog 38 #[.pointer (some ⟨b, 0, none⟩), .int .i64 (-1)] w1 fun e w' => e = .returned (.string ⟨#[]⟩) ∧ ReadTo w1 w' b ⟨[0, 1], 1, 40, 1⟩) := hid (fun b w1 h => by
        have h2 := textR b _ (-1) w1 h (by decide)
        rw [show rTx (-1) ⟨[0, 1], 1, 0, 0⟩ = ([], ⟨[0, 1], 1, 40, 1⟩) from by decide +kernel] at h2
        exact h2)
      have Z6 : Hid (∀ b w1, RdIs w1 b ⟨[0, 1], 1, 40, 1⟩ → Calls Try.prog 24 #[.pointer (some ⟨b, 0, none⟩)] w1 fun e w' => e = .returned (.int .i64 40) ∧ Fr No w1 w') := hid (fun b w1 h => end0 w1 b _ 40 h (by decide))
      have Z7 : Hid (∀ b w1, RdIs w1 b ⟨[0, 1], 1, 40, 1⟩ → Calls Try.prog 20 #[.pointer (some ⟨b, 0, none⟩)] w1 fun e w' => e = .returned (.int .i64 1) ∧ Fr No w1 w') := hid (fun b w1 h => at_any b _ _ _ _ w1 h)
      go_upto_region 30 with (first
          | (go_at_call 30; (with_reducible refine (G1.out _).mono ?_); rintro e1 g1 ⟨rfl, hg1⟩)
          | (go_at_call 30; (with_reducible refine (G2.out _).mono ?_); rintro e1 g2 ⟨rfl, hg2⟩)
          | (go_at_call 30; (with_reducible refine (G3.out _).mono ?_); rintro e1 g3 ⟨rfl, hg3⟩)
          | (go_at_call 30; (with_reducible refine (G4.out _).mono ?_); rintro e1 g4 ⟨rfl, hg4⟩)
          | (go_at_call 11; (with_reducible refine (Z0.out _).mono ?_); rintro e1 z0 ⟨rfl, rfl⟩)
          | (go_at_call 11; (with_reducible refine (Z1.out _).mono ?_); rintro e1 z1 ⟨rfl, rfl⟩)
          | (go_at_call 11; (with_reducible refine (Z2.out _).mono ?_); rintro e1 z2 ⟨rfl, rfl⟩)
          | (go_at_call 31; refine (W1.out _ _ _ (wr_new g4)).mono ?_; rintro e1 w2 ⟨rfl, o1, ha1, hf1, hn1⟩)
          | (go_at_call 32; refine (W2.out _ _ _ ha1).mono ?_; rintro e1 w3 ⟨rfl, o2, ha2, hf2, hn2⟩)
          | (go_at_call 33; refine (W3.out _ _ _ ha2).mono ?_; rintro e1 w4 ⟨rfl, o3, ha3, hf3, hn3⟩)
          | (go_at_call 34; refine (W4.out _ _ _ ha3).mono ?_; rintro e1 w5 ⟨rfl, o4, ha4, hf4, hn4⟩
             obtain ⟨o, ha, hf, hn⟩ := Wrote.trans hf1 hn1 (Wrote.trans hf2 hn2 (Wrote.trans hf3 hn3 ⟨o4, ha4, hf4, hn4⟩))
             have F5 := ((Fr.refl g4).alloc _).newOnlyO (Nat.le_refl _) (fun _ hg => by cases hg) hf)
          | (go_at_call 17; refine (W5.out _ _ _ ha).mono ?_; rintro e1 w6 ⟨rfl, rfl⟩)
          | (go_at_call 15; refine (W6.out _ _ _ ha).mono ?_; rintro e1 w6 ⟨rfl, rfl⟩)
          | (go_at_call 18; (with_reducible refine (NB.out _).mono ?_); rintro e1 w7 ⟨b, rfl, hb, hlt, hf7⟩)
          | (go_at_call 18; (with_reducible refine (NY.out _).mono ?_); rintro e1 y1 ⟨by_, rfl, hby, hlty, hfy⟩)
          | (go_at_call 18; (with_reducible refine (NZ.out _).mono ?_); rintro e1 z1 ⟨bz, rfl, hbz, hltz, hfz⟩
             have hby2 := hby.fr hfz id)
          | (go_at_call 35; refine (R1.out b _ hb).mono ?_; rintro e1 r1 ⟨rfl, hr1, fr1⟩)
          | (go_at_call 36; refine (R2.out b _ hr1).mono ?_; rintro e1 r2 ⟨rfl, hr2, fr2⟩)
          | (go_at_call 37; refine (R3.out b _ hr2).mono ?_; rintro e1 r3 ⟨rfl, hr3, fr3⟩)
          | (go_at_call 24; (with_reducible refine (Z6.out bz _ hz3).mono ?_); rintro e1 z4 ⟨rfl, fz4⟩; have hz4 := hz3.fr fz4 id)
          | (go_at_call 24; (with_reducible refine (Y2.out by_ _ hy2).mono ?_); rintro e1 y3 ⟨rfl, fy3⟩
             have hbz2 : RdIs y3 bz ⟨[0, 1], 0, 0, 0⟩ := (hbz.fr fy2 (fun e => absurd (show bz = by_ from e) (by have := hby.lt; omega))).fr fy3 id)
          | (go_at_call 24; (with_reducible refine (R4.out b _ hr3).mono ?_); rintro e1 r4 ⟨rfl, fr4⟩; have hr4 := hr3.fr fr4 id)
          | (go_at_call 29; refine (R5.out b _ hr4).mono ?_; rintro e1 r5 ⟨rfl, hr5, fr5⟩)
          | (go_at_call 38; (with_reducible refine (Z5.out bz _ hz2).mono ?_); rintro e1 z3 ⟨rfl, hz3, fz3⟩)
          | (go_at_call 38; (with_reducible refine (Z4.out bz _ hbz2).mono ?_); rintro e1 z2 ⟨rfl, hz2, fz2⟩)
          | (go_at_call 38; (with_reducible refine (Y1.out by_ _ hby2).mono ?_); rintro e1 y2 ⟨rfl, hy2, fy2⟩)
          | (go_at_call 38; (with_reducible refine (R6.out b _ hr5).mono ?_); rintro e1 r6 ⟨rfl, hr6, fr6⟩)
          | (go_at_call 19; refine (R7.out b _ hr6).mono ?_; rintro e1 r7 ⟨rfl, fr7⟩)
          | (go_at_call 20; refine (Z7.out bz _ hz4).mono ?_; rintro e1 z5 ⟨rfl, fz5⟩))
      have A1 := F0.trans (hg1.trans (hg2.trans (hg3.trans hg4)))
      have A2 := (A1.trans F5).trans hf7
      have hbw : w.heap.size ≤ b := Nat.le_trans (A1.trans F5).size hlt
      have A3 := (((((((A2.newOnly hbw fr1).newOnly hbw fr2).newOnly hbw fr3).trans fr4).newOnly hbw fr5).newOnly hbw fr6).trans fr7)
      have hyw : w.heap.size ≤ by_ := Nat.le_trans A3.size hlty
      have A4 := (A3.trans hfy)
      have hzw : w.heap.size ≤ bz := Nat.le_trans A4.size hltz
      have A5 := ((((((A4.trans hfz).newOnly hyw fy2).trans fy3).newOnly hzw fz2).newOnly hzw fz3).trans fz4).trans fz5
      clear A1 A2 A3 A4 hbw hyw hzw hb hlt hf7 F5 ha hf hn ha1 ha2 ha3 ha4 hf1 hf2 hf3 hf4 hn1 hn2 hn3 hn4 hg1 hg2 hg3 hg4 hr1 hr2 hr3 hr4 hr5 hr6 fr1 fr2 fr3 fr4 fr5 fr6 fr7 hby hbz hlty hltz hfy hfz hby2 hbz2 hy2 hz2 hz3 hz4 fy2 fy3 fz2 fz3 fz4 fz5
      clear G1 G2 G3 G4 Z0 Z1 Z2 W1 W2 W3 W4 W5 W6 NB NY NZ R1 R2 R3 R4 R5 R6 R7 Y1 Y2 Z4 Z5 Z6 Z7
      have LN : Hid (∀ w1, Calls Try.prog 39 #[.pointer none, .int .u32 1] w1 fun e w' => e = .returned (.tuple #[]) ∧ w1 = w') := hid (fun w1 => low_nil 1 w1 (by decide))
      have SN : Hid (∀ w1, Calls Try.prog 40 #[.pointer none, .int .u64 300] w1 fun e w' => e = .returned (.tuple #[]) ∧ w1 = w') := hid (fun w1 => short_nil 300 w1)
      have SB : Hid (∀ w1, Calls Try.prog 28 #[.pointer none, .int .u64 9] w1 fun e w' => e = .returned (.int .u64 0) ∧ w1 = w') := hid (fun w1 => shortR_bad none 9 w1 (good_nil w1))
      have TB : Hid (∀ w1, Calls Try.prog 38 #[.pointer none, .int .i64 9] w1 fun e w' => e = .returned (.string ⟨#[]⟩) ∧ w1 = w') := hid (fun w1 => textR_bad none 9 w1 (good_nil w1))
      have RB : Hid (∀ w1, Calls Try.prog 29 #[.pointer none, .int .i64 9] w1 fun e w' => e = .returned (.string ⟨#[]⟩) ∧ w1 = w') := hid (fun w1 => rawR_nil 9 w1)
      go_wp2_with (first
          | (go_at_call 31; refine (u8_nil 1 _).mono ?_; rintro e1 w2 ⟨rfl, rfl⟩)
          | (go_at_call 33; refine (u64_nil 1 _).mono ?_; rintro e1 w2 ⟨rfl, rfl⟩)
          | (go_at_call 39; refine (LN.out _).mono ?_; rintro e1 w2 ⟨rfl, rfl⟩)
          | (go_at_call 40; refine (SN.out _).mono ?_; rintro e1 w2 ⟨rfl, rfl⟩)
          | (go_at_call 41; refine (text_nil _).mono ?_; rintro e1 w2 ⟨rfl, rfl⟩)
          | (go_at_call 34; refine (raw_nil _ _).mono ?_; rintro e1 w2 ⟨rfl, rfl⟩)
          | (go_at_call 15; refine (len_nil _).mono ?_; rintro e1 w2 ⟨rfl, rfl⟩)
          | (go_at_call 17; refine (bytes_nil _).mono ?_; rintro e1 w2 ⟨rfl, rfl⟩)
          | (go_at_call 35; refine (u8R_nil _).mono ?_; rintro e1 w2 ⟨rfl, rfl⟩)
          | (go_at_call 42; refine (u16R_nil _).mono ?_; rintro e1 w2 ⟨rfl, rfl⟩)
          | (go_at_call 36; refine (u32R_nil _).mono ?_; rintro e1 w2 ⟨rfl, rfl⟩)
          | (go_at_call 37; refine (u64R_nil _).mono ?_; rintro e1 w2 ⟨rfl, rfl⟩)
          | (go_at_call 43; refine (lowR_nil _).mono ?_; rintro e1 w2 ⟨rfl, rfl⟩)
          | (go_at_call 28; refine (SB.out _).mono ?_; rintro e1 w2 ⟨rfl, rfl⟩)
          | (go_at_call 38; refine (TB.out _).mono ?_; rintro e1 w2 ⟨rfl, rfl⟩)
          | (go_at_call 29; refine (RB.out _).mono ?_; rintro e1 w2 ⟨rfl, rfl⟩)
          | (go_at_call 19; refine (err_nil _).mono ?_; rintro e1 n1 ⟨rfl, fn1⟩)
          | (go_at_call 24; refine (end_nil _).mono ?_; rintro e1 n2 ⟨rfl, fn2⟩)
          | (go_at_call 22; refine (left_nil _).mono ?_; rintro e1 n3 ⟨rfl, fn3⟩)
          | (go_at_call 20; refine (at_nil _).mono ?_; rintro e1 n4 ⟨rfl, fn4⟩))
      go_ret
      exact ⟨rfl, (((A5.trans fn1).trans fn2).trans fn3).trans fn4⟩
end Go.Proofs.Ytcggakegbdpdfaa
