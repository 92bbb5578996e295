/-
  The small functions of the statements of layer 2: short, wrong, works. No conditions beyond the types' own ranges.
-/
import Derived.Test.YtcggakegbdpdfaaReader4
import Derived.Test.YtcggakegbdpdfaaLen64
namespace Go.Proofs.Ytcggakegbdpdfaa
open Go.RowKit

/-- A new writer. -/
theorem wr_new (w : World) : WrAt (w.alloc (.cells #[.slice none 0 0] 32)) w.heap.size none [] :=
  ⟨.slice none 0 0, Go.heap_alloc_new _ _, rfl, Own.nil _ _ _⟩
set_option maxHeartbeats 400000 in
theorem short02_any (n : Nat) (w : World) (hn : n ≤ 18446744073709551615) :
    Calls Try.prog 10 #[.int .u64 n] w fun e w' => e = .returned (strV (shortB n)) ∧ Fr No w w' := by
  have H1 := hid (short_any w.heap.size none n [] _ (wr_new w) (by decide) hn)
  have H2 := hid (fun o w1 h => bytes_any w.heap.size o (shortB n) w1 h)
  generalize shortB n = l at H1 H2 ⊢
  unfold strV at *
  clear hn
  go_enter Try.func10, Try.ntmps10
  go_wp2_with (first | (go_at_call 40; refine H1.out.mono ?_; rintro e w1 ⟨rfl, o, ha, hf, hn⟩) | (go_at_call 17; refine (H2.out o _ ha).mono ?_; rintro e w2 ⟨rfl, rfl⟩))
  go_ret
  exact ⟨rfl, ((Fr.refl w).alloc _).newOnlyO (Nat.le_refl _) (fun g hg => by cases hg) hf⟩

set_option maxHeartbeats 400000 in
theorem wrong02_any (s : List UInt8) (most e : Nat) (w : World) (hs : s.length ≤ 1000000) (hr : rSh most ⟨s, 0, 0, 0⟩ = (0, ⟨s, 0, e, 0⟩)) :
    Calls Try.prog 30 #[strV s, .int .u64 most, .int .i64 e] w fun en w' => en = .returned (.bool true) ∧ Fr No w w' := by
  have H0 := hid (new_any s w (by omega))
  have H1 := hid (fun b w1 (h : RdIs w1 b ⟨s, 0, 0, 0⟩) => shortR b ⟨s, 0, 0, 0⟩ most w1 h)
  rw [hr] at H1
  unfold strV at *
  clear hs hr
  go_enter Try.func30, Try.ntmps30
  go_wp2_with (first | (go_at_call 18; refine H0.out.mono ?_; rintro e1 w1 ⟨b, rfl, hb, hlt, hf⟩) | (go_at_call 28; refine (H1.out b _ hb).mono ?_; rintro e2 w2 ⟨rfl, hb2, hf2⟩) | (go_at_call 19; refine (err_any b s 0 e 0 _ hb2).mono ?_; rintro e3 w3 ⟨rfl, hf3⟩; have hb3 := hb2.fr hf3 id) | (go_at_call 20; refine (at_any b s 0 e 0 _ hb3).mono ?_; rintro e4 w4 ⟨rfl, hf4⟩))
  go_ret
  exact ⟨by simp, ((hf.newOnly hlt hf2).trans hf3).trans hf4⟩

end Go.Proofs.Ytcggakegbdpdfaa
