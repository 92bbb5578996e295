/-
  works: the examples are as they are told.
-/
import Derived.Test.YtcggakegbdpdfaaLawW
import Derived.Deep.Cut
namespace Go.Proofs.Ytcggakegbdpdfaa
open Go.RowKit

theorem WrAt.only {w w' : World} {b c : Nat} {o : Option Nat} {l : List UInt8} (h : WrAt w b o l) (hf : Fr (Only c) w w') (hb : b ≠ c) (ho : ∀ g, o = some g → g ≠ c) : WrAt w' b o l :=
  h.fr hf hb ho

theorem sh0 : shortB 0 = [0] := by decide +kernel
theorem sh127 : shortB 127 = [127] := by decide +kernel
theorem sh128 : shortB 128 = [128, 1] := by decide +kernel
theorem sh300 : shortB 300 = [172, 2] := by decide +kernel
theorem shMax : shortB 18446744073709551615 = [255, 255, 255, 255, 255, 255, 255, 255, 255, 1] := by decide +kernel
def exB : List UInt8 := [1, 2, 2, 97, 98, 2, 1, 0, 0]
theorem exB_eq : [] ++ fixedB 2 258 ++ textB [97, 98] ++ lowB 258 = exB := by decide +kernel

set_option maxHeartbeats 1000000 in
set_option maxRecDepth 10000 in
theorem works_any (w : World) :
    Calls Try.prog 9 #[] w fun e w' => e = .returned (.bool true) ∧ Fr No w w' := by
  have W1 : Hid (∀ w1, WrAt w1 w.heap.size none [] → Calls Try.prog 44 #[.pointer (some ⟨w.heap.size, 0, none⟩), .int .u16 258] w1 fun e w' => e = .returned (.tuple #[]) ∧ Wrote w1 w' w.heap.size none ([] ++ fixedB 2 258)) := hid (fun w1 h => u16_any w.heap.size none 258 [] w1 h (by decide) (by decide))
  have W2 := hid (fun o w1 (h : WrAt w1 w.heap.size o ([] ++ fixedB 2 258)) => text_any w.heap.size o ⟨#[97, 98]⟩ _ w1 h (by decide) (by decide))
  have W3 : Hid (∀ o w1, WrAt w1 w.heap.size o ([] ++ fixedB 2 258 ++ textB [97, 98]) → Calls Try.prog 39 #[.pointer (some ⟨w.heap.size, 0, none⟩), .int .u32 258] w1 fun e w' => e = .returned (.tuple #[]) ∧ Wrote w1 w' w.heap.size o ([] ++ fixedB 2 258 ++ textB [97, 98] ++ lowB 258)) := hid (fun o w1 h => low_any w.heap.size o 258 _ w1 h (by decide) (by decide))
  have W4 := hid (fun o w1 (h : WrAt w1 w.heap.size o ([] ++ fixedB 2 258 ++ textB [97, 98] ++ lowB 258)) => bytes_any w.heap.size o _ w1 h)
  rw [exB_eq] at W4
  have N1 := hid (fun w1 => new_any [2, 97, 98] w1 (by decide))
  have N2 := hid (fun w1 => new_any [2, 97] w1 (by decide))
  have T1 := hid (fun b w1 (h : RdIs w1 b ⟨[2, 97, 98], 0, 0, 0⟩) => textR b _ 1 w1 h (by decide))
  have T2 := hid (fun b w1 (h : RdIs w1 b ⟨[2, 97], 0, 0, 0⟩) => textR b _ 9 w1 h (by decide))
  rw [show rTx 1 ⟨[2, 97, 98], 0, 0, 0⟩ = ([], ⟨[2, 97, 98], 0, 40, 0⟩) from by decide +kernel] at T1
  rw [show rTx 9 ⟨[2, 97], 0, 0, 0⟩ = ([], ⟨[2, 97], 0, 8, 0⟩) from by decide +kernel] at T2
  have E1 : Hid (∀ b w1, RdIs w1 b ⟨[2, 97, 98], 0, 40, 0⟩ → Calls Try.prog 19 #[.pointer (some ⟨b, 0, none⟩)] w1 fun en w' => en = .returned (.tuple #[.int .i64 40, .int .i64 0]) ∧ Fr No w1 w') := hid (fun b w1 h => err_any b _ _ _ _ w1 h)
  have E2 : Hid (∀ b w1, RdIs w1 b ⟨[2, 97], 0, 8, 0⟩ → Calls Try.prog 19 #[.pointer (some ⟨b, 0, none⟩)] w1 fun en w' => en = .returned (.tuple #[.int .i64 8, .int .i64 0]) ∧ Fr No w1 w') := hid (fun b w1 h => err_any b _ _ _ _ w1 h)
  have S1 : Hid (∀ w1, Calls Try.prog 10 #[.int .u64 0] w1 fun e w' => e = .returned (.string ⟨#[0]⟩) ∧ Fr No w1 w') := hid (fun w1 => by
    have h := short02_any 0 w1 (by decide)
    rw [sh0] at h
    exact h)
  have S2 : Hid (∀ w1, Calls Try.prog 10 #[.int .u64 127] w1 fun e w' => e = .returned (.string ⟨#[127]⟩) ∧ Fr No w1 w') := hid (fun w1 => by
    have h := short02_any 127 w1 (by decide)
    rw [sh127] at h
    exact h)
  have S3 : Hid (∀ w1, Calls Try.prog 10 #[.int .u64 128] w1 fun e w' => e = .returned (.string ⟨#[128, 1]⟩) ∧ Fr No w1 w') := hid (fun w1 => by
    have h := short02_any 128 w1 (by decide)
    rw [sh128] at h
    exact h)
  have S4 : Hid (∀ w1, Calls Try.prog 10 #[.int .u64 300] w1 fun e w' => e = .returned (.string ⟨#[172, 2]⟩) ∧ Fr No w1 w') := hid (fun w1 => by
    have h := short02_any 300 w1 (by decide)
    rw [sh300] at h
    exact h)
  have S5 : Hid (∀ w1, Calls Try.prog 10 #[.int .u64 18446744073709551615] w1 fun e w' => e = .returned (.string ⟨#[255, 255, 255, 255, 255, 255, 255, 255, 255, 1]⟩) ∧ Fr No w1 w') := hid (fun w1 => by
    have h := short02_any 18446744073709551615 w1 (by decide)
    rw [shMax] at h
    exact h)
  have G1 : Hid (∀ w1, Calls Try.prog 30 #[.string ⟨#[128, 0]⟩, .int .u64 9, .int .i64 4] w1 fun e w' => e = .returned (.bool true) ∧ Fr No w1 w') := hid (fun w1 => wrong02_any [128, 0] 9 4 w1 (by decide) (by decide +kernel))
  have G2 : Hid (∀ w1, Calls Try.prog 30 #[.string ⟨#[255, 255, 255, 255, 255, 255, 255, 255, 255, 2]⟩, .int .u64 18446744073709551615, .int .i64 4] w1 fun e w' => e = .returned (.bool true) ∧ Fr No w1 w') := hid (fun w1 => wrong02_any [255, 255, 255, 255, 255, 255, 255, 255, 255, 2] 18446744073709551615 4 w1 (by decide) (by decide +kernel))
  have hw0 := wr_new w
  unfold strV at *
  unfold exB at W4
  go_enter Try.func9, Try.ntmps9
  go_wp2_with (first
    | (go_at_call 44; refine (W1.out _ hw0).mono ?_; rintro e1 w1 ⟨rfl, o1, ha1, hf1, hn1⟩)
    | (go_at_call 41; refine (W2.out _ _ ha1).mono ?_; rintro e2 w2 ⟨rfl, o2, ha2, hf2, hn2⟩)
    | (go_at_call 39; refine (W3.out _ _ ha2).mono ?_; rintro e3 w3 ⟨rfl, o3, ha3, hf3, hn3⟩
       obtain ⟨o, ha, hf, hn⟩ := Wrote.trans hf1 hn1 (Wrote.trans hf2 hn2 ⟨o3, ha3, hf3, hn3⟩)
       have F3 := ((Fr.refl w).alloc _).newOnlyO (Nat.le_refl _) (fun g hg => by cases hg) hf)
    | (go_at_call 18; (with_reducible refine (N1.out _).mono ?_); rintro e4 w4 ⟨b1, rfl, hb1', hlt1, hf4⟩
       have hb1 : RdIs w4 b1 ⟨[2, 97, 98], 0, 0, 0⟩ := hb1'
       have ha4 := ha.fr hf4 id (fun _ _ => id))
    | (go_at_call 18; (with_reducible refine (N2.out _).mono ?_); rintro e7 w7 ⟨b2, rfl, hb2', hlt2, hf7⟩
       have hb2 : RdIs w7 b2 ⟨[2, 97], 0, 0, 0⟩ := hb2'
       have ha7 := ha5.fr (hf6.trans hf7) id (fun _ _ => id))
    | (go_at_call 38; (with_reducible refine (T1.out b1 _ hb1).mono ?_); rintro e5 w5 ⟨rfl, hr5, hf5⟩
       have ha5 := ha4.only hf5 (Nat.ne_of_lt (Nat.lt_of_lt_of_le ha.lt hlt1)) (fun g hg => Nat.ne_of_lt (Nat.lt_of_lt_of_le (ha.lto g hg) hlt1)))
    | (go_at_call 38; (with_reducible refine (T2.out b2 _ hb2).mono ?_); rintro e8 w8 ⟨rfl, hr8, hf8⟩
       have ha8 := ha7.only hf8 (Nat.ne_of_lt (Nat.lt_of_lt_of_le (ha5.fr hf6 id (fun _ _ => id)).lt hlt2)) (fun g hg => Nat.ne_of_lt (Nat.lt_of_lt_of_le ((ha5.fr hf6 id (fun _ _ => id)).lto g hg) hlt2)))
    | (go_at_call 19; (with_reducible refine (E1.out b1 _ hr5).mono ?_); rintro e6 w6 ⟨rfl, hf6⟩)
    | (go_at_call 19; (with_reducible refine (E2.out b2 _ hr8).mono ?_); rintro e9 w9 ⟨rfl, hf9⟩)
    | (go_at_call 10; (with_reducible refine (S1.out _).mono ?_); rintro e10 w10 ⟨rfl, hf10⟩)
    | (go_at_call 10; (with_reducible refine (S2.out _).mono ?_); rintro e11 w11 ⟨rfl, hf11⟩)
    | (go_at_call 10; (with_reducible refine (S3.out _).mono ?_); rintro e12 w12 ⟨rfl, hf12⟩)
    | (go_at_call 10; (with_reducible refine (S4.out _).mono ?_); rintro e13 w13 ⟨rfl, hf13⟩)
    | (go_at_call 10; (with_reducible refine (S5.out _).mono ?_); rintro e14 w14 ⟨rfl, hf14⟩)
    | (go_at_call 30; (with_reducible refine (G1.out _).mono ?_); rintro e15 w15 ⟨rfl, hf15⟩)
    | (go_at_call 30; (with_reducible refine (G2.out _).mono ?_); rintro e16 w16 ⟨rfl, hf16⟩
       have F := ((((((hf9.trans hf10).trans hf11).trans hf12).trans hf13).trans hf14).trans hf15).trans hf16
       have ha16 := ha8.fr F id (fun _ _ => id))
    | (go_at_call 17; refine (W4.out _ _ ha16).mono ?_; rintro e17 w17 ⟨rfl, rfl⟩))
  go_ret
  exact ⟨by simp, ((((F3.trans hf4).newOnly (Nat.le_trans F3.size hlt1) hf5).trans (hf6.trans hf7)).newOnly (Nat.le_trans (((F3.trans hf4).newOnly (Nat.le_trans F3.size hlt1) hf5).trans hf6).size hlt2) hf8).trans F⟩

end Go.Proofs.Ytcggakegbdpdfaa
