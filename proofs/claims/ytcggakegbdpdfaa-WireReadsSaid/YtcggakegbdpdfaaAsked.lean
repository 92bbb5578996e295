/-
  What the document's reader reads for an item.
-/
import Derived.Test.YtcggakegbdpdfaaDoc4
namespace Go.Proofs.Ytcggakegbdpdfaa
open Go.RowKit

set_option maxHeartbeats 1000000 in
theorem asked_any (b : Nat) (r : Rd) (x : It) (w : World) (hx : x.Ok) (hr : DRd w b r) (hsm : r.s.length ≤ 9000000000000000000) :
    Calls Try.prog 23 #[.pointer (some ⟨b, 0, none⟩), itV x] w fun e w' => e = .returned (.tuple #[.int .u64 (itG x r).1.1, strV (itG x r).1.2]) ∧ DTo w w' b (itG x r).2 := by
  obtain ⟨k, n, s, most⟩ := x
  obtain ⟨hk, hn, hs, h1, h2⟩ := hx
  simp only at hk hn hs h1 h2
  generalize hB : itG ⟨k, n, s, most⟩ r = B
  have BB := hid (itG_cases k n s most r B hB)
  clear hB
  unfold itV
  simp only
  have A2 : DRd (w.alloc (.cells #[.int .u8 k, .int .u64 n, strV s, .int .i64 most] 35)) b r := hr.fr (X := No) ((Fr.refl w).alloc _) id
  have A3 : ∀ r2 w2, DTo (w.alloc (.cells #[.int .u8 k, .int .u64 n, strV s, .int .i64 most] 35)) w2 b r2 → DTo w w2 b r2 := fun _ _ h => ⟨h.1, ((Fr.refl w).alloc _).of0.trans h.2⟩
  replace A3 := hid A3
  have hlt := DRd.lt hr
  have P0 : Hid (Calls Try.prog 49 #[.pointer (some ⟨b, 0, none⟩), .int .i64 1] _ fun en w' => en = .returned (.int .u64 (rFix 1 r).1) ∧ DTo _ w' b (rFix 1 r).2) := hid (dFixed b r 1 _ A2 (by decide))
  have P1 : Hid (Calls Try.prog 49 #[.pointer (some ⟨b, 0, none⟩), .int .i64 2] _ fun en w' => en = .returned (.int .u64 (rFix 2 r).1) ∧ DTo _ w' b (rFix 2 r).2) := hid (dFixed b r 2 _ A2 (by decide))
  have P2 : Hid (Calls Try.prog 49 #[.pointer (some ⟨b, 0, none⟩), .int .i64 4] _ fun en w' => en = .returned (.int .u64 (rFix 4 r).1) ∧ DTo _ w' b (rFix 4 r).2) := hid (dFixed b r 4 _ A2 (by decide))
  have P3 : Hid (Calls Try.prog 49 #[.pointer (some ⟨b, 0, none⟩), .int .i64 8] _ fun en w' => en = .returned (.int .u64 (rFix 8 r).1) ∧ DTo _ w' b (rFix 8 r).2) := hid (dFixed b r 8 _ A2 (by decide))
  have P4 := hid (dShort b r n _ A2 hsm)
  have P5 := hid (dText b r most _ A2 hsm (by omega))
  have P6 := hid (dLow b r _ A2)
  have P7 := hid (dRaw b r most _ A2)
  unfold strV at *
  clear A2 hn h1 h2 hs hr hsm
  go_enter Try.func23, Try.ntmps23
  go_wp2_with (first
    | (go_at_call 49; (with_reducible refine (P0.out).mono ?_); rintro e1 w1 ⟨rfl, R⟩)
    | (go_at_call 49; (with_reducible refine (P1.out).mono ?_); rintro e1 w1 ⟨rfl, R⟩)
    | (go_at_call 49; (with_reducible refine (P2.out).mono ?_); rintro e1 w1 ⟨rfl, R⟩)
    | (go_at_call 49; (with_reducible refine (P3.out).mono ?_); rintro e1 w1 ⟨rfl, R⟩)
    | (go_at_call 50; refine (P4.out).mono ?_; rintro e1 w1 ⟨rfl, R⟩)
    | (go_at_call 51; refine (P5.out).mono ?_; rintro e1 w1 ⟨rfl, R⟩)
    | (go_at_call 52; refine (P6.out).mono ?_; rintro e1 w1 ⟨rfl, R⟩)
    | (go_at_call 53; refine (P7.out).mono ?_; rintro e1 w1 ⟨rfl, R⟩))
  all_goals go_ret2
  all_goals have R2 := A3.out _ _ R
  all_goals obtain ⟨B0, B1, B2, B3, B4, B5, B6, B7⟩ := BB.out
  all_goals clear P0 P1 P2 P3 P4 P5 P6 P7 R BB A3
  all_goals first
    | (have e := B0 (by assumption); subst e; exact ⟨rfl, R2⟩)
    | (have e := B1 (by assumption); subst e; exact ⟨rfl, R2⟩)
    | (have e := B2 (by assumption); subst e; exact ⟨rfl, R2⟩)
    | (have e := B3 (by assumption); subst e; exact ⟨rfl, R2⟩)
    | (have e := B4 (by assumption); subst e; exact ⟨rfl, R2⟩)
    | (have e := B5 (by assumption); subst e; exact ⟨rfl, R2⟩)
    | (have e := B6 (by assumption); subst e; exact ⟨congrArg numEnd (wrapU64 _ (Nat.lt_of_lt_of_le (revN_lt _) (by decide))), R2⟩)
    | (have e := B7 (by assumption) (by assumption) (by assumption) (by assumption) (by assumption) (by assumption) (by assumption); subst e; exact ⟨rfl, R2⟩)
end Go.Proofs.Ytcggakegbdpdfaa
