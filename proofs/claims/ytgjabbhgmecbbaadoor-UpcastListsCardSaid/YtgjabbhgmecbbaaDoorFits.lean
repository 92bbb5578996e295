/-
  Fits: whether a number lies within its class's bounds.
-/
import Derived.Test.YtgjabbhgmecbbaaDoorBound
namespace Go.Proofs.YtgjabbhgmecbbaaDoor
open Go.RowKit

def fitsS (v c : Nat) (n : Int) : Bool := (boundS v c).2.2 && (decide ((boundS v c).1 ≤ n) && decide (n ≤ (boundS v c).2.1))

set_option maxHeartbeats 1000000 in
theorem fits_any (v c : Nat) (n : Int) (w : World) :
    Calls Tryd.prog 50 #[.int .u8 v, .int .u8 c, .int .i64 n] w fun e w' => e = .returned (.bool (fitsS v c n)) ∧ w = w' := by
  have H := hid (bound_any v c)
  unfold fitsS
  generalize boundS v c = B at H ⊢
  obtain ⟨lo, hi, is⟩ := B
  unfold BoundIs at H
  simp only at H ⊢
  cases is
  · go_enter Tryd.func50, Tryd.ntmps50
    go_wp2_with (first | (go_at_call 53; refine (H.out _).mono ?_; rintro e1 w1 ⟨rfl, rfl⟩))
    go_ret
    exact ⟨rfl, rfl⟩
  · by_cases h1 : lo ≤ n
    · have hd : decide (lo ≤ n) = true := by simpa using h1
      go_enter Tryd.func50, Tryd.ntmps50
      go_wp2_with (first | (go_at_call 53; refine (H.out _).mono ?_; rintro e1 w1 ⟨rfl, rfl⟩))
      go_ret
      exact ⟨by rw [hd]; rfl, rfl⟩
    · have hd : decide (lo ≤ n) = false := by simpa using h1
      go_enter Tryd.func50, Tryd.ntmps50
      go_wp2_with (first | (go_at_call 53; refine (H.out _).mono ?_; rintro e1 w1 ⟨rfl, rfl⟩))
      go_ret
      exact ⟨by rw [hd]; rfl, rfl⟩
end Go.Proofs.YtgjabbhgmecbbaaDoor
