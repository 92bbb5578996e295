/-
  What things become by the document: Text, Low, an item's bytes.
-/
import Derived.Test.YtcggakegbdpdfaaRefW
import Derived.Test.YtcggakegbdpdfaaBack
namespace Go.Proofs.Ytcggakegbdpdfaa
open Go.RowKit

theorem refText_any (s : List UInt8) (w : World) (hs : s.length ≤ 9000000000000000000) :
    Calls Try.prog 47 #[strV s] w fun e w' => e = .returned (strV (textB s)) ∧ Fr No w w' := by
  have H := hid (fun w1 => refShort_any s.length w1 (by omega))
  have hl := shortB_length_le s.length
  unfold textB
  have hcat := cat_two (shortB s.length) s
  generalize shortB s.length = t at H hl hcat ⊢
  unfold strV at *
  have hq : IntKind.u64.wrap (s.length : Int) = (s.length : Int) := wrapU64 _ (by omega)
  go_enter Try.func47, Try.ntmps47
  go_wp2_with (first
    | (go_at_call 16; refine (H.out _).mono ?_; rintro e1 w1 ⟨rfl, hf1⟩))
  go_ret
  exact ⟨congrArg (fun z => Ending.returned (.string z)) hcat, hf1⟩

theorem refLow_any (n : Nat) (w : World) (hn : n ≤ 4294967295) :
    Calls Try.prog 48 #[.int .u32 n] w fun e w' => e = .returned (strV (lowB n)) ∧ Fr No w w' := by
  have e4 : (n : Int) / 16777216 = ((n / 16777216 % 256 : Nat) : Int) := by omega
  have hx : #[Value.int .u8 ((n : Int) % 256), .int .u8 ((n : Int) / 256 % 256), .int .u8 ((n : Int) / 65536 % 256), .int .u8 ((n : Int) / 16777216)] = ((lowB n).map byteV).toArray := by
    rw [byteV_eq ((n : Int) % 256) n (by omega), byteV_eq ((n : Int) / 256 % 256) (n / 256) (by omega), byteV_eq ((n : Int) / 65536 % 256) (n / 65536) (by omega), byteV_eq ((n : Int) / 16777216) (n / 16777216) (by omega)]
    rfl
  have hcv : (convert 30 9 (.slice (some ⟨w.heap.size, 0, none⟩) 4 4)).run Try.prog (w.alloc (.cells #[Value.int .u8 ((n : Int) % 256), .int .u8 ((n : Int) / 256 % 256), .int .u8 ((n : Int) / 65536 % 256), .int .u8 ((n : Int) / 16777216)] 5)) =
      .ok (strV (lowB n)) (w.alloc (.cells #[Value.int .u8 ((n : Int) % 256), .int .u8 ((n : Int) / 256 % 256), .int .u8 ((n : Int) / 65536 % 256), .int .u8 ((n : Int) / 16777216)] 5)) := by
    refine run_text_of_own _ _ _ 5 Try.underlying30 Try.underlying5 Try.underlying9 _ 4 (lowB n) ⟨by simp [lowB], .inr ⟨w.heap.size, 4, _, rfl, Nat.zero_le _, Go.heap_alloc_new _ _, by decide, by decide, rfl, ?_⟩⟩
    rw [hx]
    simp [lowB]
  have e4' := hid e4
  clear e4 hx
  go_enter Try.func48, Try.ntmps48
  go_wp2_with fail
  go_ret
  exact ⟨rfl, (Fr.refl w).alloc _⟩

set_option maxHeartbeats 1000000 in
theorem bytesDoc_any (x : It) (w : World) (hx : x.Ok) (hs : x.s.length ≤ 9000000000000000000) :
    Calls Try.prog 14 #[itV x] w fun e w' => e = .returned (strV (itB x)) ∧ Fr No w w' := by
  obtain ⟨k, n, s, most⟩ := x
  obtain ⟨hk, hn, _, h1, h2⟩ := hx
  simp only at hk hn hs h1 h2
  generalize hB : itB ⟨k, n, s, most⟩ = B
  have BB := hid (itB_cases k n s most B hB)
  clear hB
  have P1 : Hid (∀ w1, Calls Try.prog 46 #[.int .u64 ((n : Int) % 256), .int .i64 1] w1 fun e w' => e = .returned (strV [byteN (n % 256)]) ∧ Fr No w1 w') := hid (fun w1 => refFixed_any 1 (n % 256) w1 (by omega) (by decide))
  have P2 : Hid (∀ w1, Calls Try.prog 46 #[.int .u64 ((n : Int) % 65536), .int .i64 2] w1 fun e w' => e = .returned (strV (fixedB 2 (n % 65536))) ∧ Fr No w1 w') := hid (fun w1 => refFixed_any 2 (n % 65536) w1 (by omega) (by decide))
  have P3 : Hid (∀ w1, Calls Try.prog 46 #[.int .u64 ((n : Int) % 4294967296), .int .i64 4] w1 fun e w' => e = .returned (strV (fixedB 4 (n % 4294967296))) ∧ Fr No w1 w') := hid (fun w1 => refFixed_any 4 (n % 4294967296) w1 (by omega) (by decide))
  have P4 : Hid (∀ w1, Calls Try.prog 46 #[.int .u64 (n : Int), .int .i64 8] w1 fun e w' => e = .returned (strV (fixedB 8 n)) ∧ Fr No w1 w') := hid (fun w1 => refFixed_any 8 n w1 hn (by decide))
  have P5 := hid (fun w1 => refShort_any n w1 hn)
  have P6 := hid (fun w1 => refText_any s w1 hs)
  have P7 : Hid (∀ w1, Calls Try.prog 48 #[.int .u32 ((n : Int) % 4294967296)] w1 fun e w' => e = .returned (strV (lowB (n % 4294967296))) ∧ Fr No w1 w') := hid (fun w1 => refLow_any (n % 4294967296) w1 (by omega))
  unfold itV strV at *
  simp only
  clear h1 h2 hs hn
  go_enter Try.func14, Try.ntmps14
  go_wp2_with (first
    | (go_at_call 46; (with_reducible refine (P1.out _).mono ?_); rintro e1 w1 ⟨rfl, hf1⟩)
    | (go_at_call 46; (with_reducible refine (P2.out _).mono ?_); rintro e1 w1 ⟨rfl, hf1⟩)
    | (go_at_call 46; (with_reducible refine (P3.out _).mono ?_); rintro e1 w1 ⟨rfl, hf1⟩)
    | (go_at_call 46; (with_reducible refine (P4.out _).mono ?_); rintro e1 w1 ⟨rfl, hf1⟩)
    | (go_at_call 16; refine (P5.out _).mono ?_; rintro e1 w1 ⟨rfl, hf1⟩)
    | (go_at_call 47; refine (P6.out _).mono ?_; rintro e1 w1 ⟨rfl, hf1⟩)
    | (go_at_call 48; refine (P7.out _).mono ?_; rintro e1 w1 ⟨rfl, hf1⟩))
  all_goals go_ret
  all_goals obtain ⟨B0, B1, B2, B3, B4, B5, B6, B7⟩ := BB.out
  all_goals first
    | (have e := B0 (by assumption); subst e; exact ⟨rfl, ((Fr.refl w).alloc _).trans hf1⟩)
    | (have e := B1 (by assumption); subst e; exact ⟨rfl, ((Fr.refl w).alloc _).trans hf1⟩)
    | (have e := B2 (by assumption); subst e; exact ⟨rfl, ((Fr.refl w).alloc _).trans hf1⟩)
    | (have e := B3 (by assumption); subst e; exact ⟨rfl, ((Fr.refl w).alloc _).trans hf1⟩)
    | (have e := B4 (by assumption); subst e; exact ⟨rfl, ((Fr.refl w).alloc _).trans hf1⟩)
    | (have e := B5 (by assumption); subst e; exact ⟨rfl, ((Fr.refl w).alloc _).trans hf1⟩)
    | (have e := B6 (by assumption); subst e; exact ⟨rfl, ((Fr.refl w).alloc _).trans hf1⟩)
    | (have e := B7 (by assumption) (by assumption) (by assumption) (by assumption) (by assumption) (by assumption) (by assumption); subst e; exact ⟨rfl, (Fr.refl w).alloc _⟩)
end Go.Proofs.Ytcggakegbdpdfaa
