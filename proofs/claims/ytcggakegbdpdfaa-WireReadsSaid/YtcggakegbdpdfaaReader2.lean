/-
  The contracts of wire.Reader's methods that read numbers and bytes. Conditions: what is read is no longer than an int.
-/
import Derived.Test.YtcggakegbdpdfaaReader
import Derived.Test.YtcggakegbdpdfaaWriter2
namespace Go.Proofs.Ytcggakegbdpdfaa
open Go.RowKit

/-- A fixed number's value: the highest byte first. -/
def beN (l : List UInt8) : Nat := l.foldl (fun n c => n * 256 + c.toNat) 0
theorem beN_snoc (l : List UInt8) (c : UInt8) : beN (l ++ [c]) = beN l * 256 + c.toNat := by simp [beN]
theorem beN_acc (l : List UInt8) : ∀ n : Nat, l.foldl (fun n c => n * 256 + c.toNat) n < (n + 1) * 256 ^ l.length := by
  induction l with
  | nil => intro n; simp
  | cons c l ih =>
    intro n
    refine Nat.lt_of_lt_of_le (ih _) ?_
    rw [List.length_cons, Nat.pow_succ, Nat.mul_comm (256 ^ l.length) 256, ← Nat.mul_assoc]
    refine Nat.mul_le_mul_right _ ?_
    have := c.toNat_lt
    show n * 256 + c.toNat + 1 ≤ _
    omega
theorem beN_lt (l : List UInt8) : beN l < 256 ^ l.length := by have := beN_acc l 0; simpa [beN] using this
theorem take_snoc (l : List UInt8) (k : Nat) (h : k < l.length) : l.take (k + 1) = l.take k ++ [l[k]] := List.take_succ_eq_append_getElem h
theorem beN_take_lt (l : List UInt8) (k : Nat) (h : k < l.length) (h8 : l.length ≤ 8) : beN (l.take k) < 72057594037927936 := by
  refine Nat.lt_of_lt_of_le (beN_lt _) ?_
  rw [show (72057594037927936 : Nat) = 256 ^ 7 from rfl]
  exact Nat.pow_le_pow_right (by decide) (by simp; omega)
theorem be_step (x c : Nat) (hx : x < 72057594037927936) (hc : c < 256) :
    bits .or .u64 (IntKind.u64.wrap ((x : Int) * 256)) (IntKind.u64.wrap (c : Int)) = ((x * 256 + c : Nat) : Int) := by
  rw [IntWalk.u64_in _ (by omega), IntWalk.u64_in _ (by omega)]
  have e : ((x : Int) * 256) = ((x * 256 : Nat) : Int) := by simp
  rw [e, u64_or_nat _ _ (by omega) (by omega), Nat.or_comm, Nat.mul_comm x 256, or_add x c 8 hc]

set_option maxHeartbeats 400000 in
theorem fixedR1 (b : Nat) (s : List UInt8) (at_ to : Nat) (w : World) (h : RdAt w b s at_ 0 to) (hn : 1 ≤ s.length - at_) :
    Calls Try.prog 59 #[.pointer (some ⟨b, 0, none⟩), .int .i64 1] w fun en w' => en = .returned (.int .u8 (beN ((s.drop at_).take 1))) ∧ Red w w' b s (at_ + 1) 0 to := by
  have ht := take_ok b s at_ to 1 w h hn
  obtain ⟨l, hl⟩ : ∃ l, l = (s.drop at_).take 1 := ⟨_, rfl⟩
  have hlen : l.length = 1 := by rw [hl]; simp; omega
  rw [← hl] at ht ⊢
  have h8 : l.length ≤ 8 := by omega
  have hlt : beN l < 256 ^ 1 := by have := beN_lt l; rwa [hlen] at this
  have HB := hid hlt
  unfold strV at ht
  have HT := hid ht
  clear h ht hl hlen hlt hn
  go_enter Try.func59, Try.ntmps59
  go_wp2_with (go_at_call 55; refine HT.out.mono ?_; rintro e w1 ⟨rfl, hr⟩)
  have HR := hid hr
  clear hr
  go_loopw [7, 8, 17] (fun n i c wr => ∃ k : Nat, k ≤ l.length ∧ c = .int .i64 k ∧ n = .int .u64 (beN (l.take k)) ∧ w1 = wr) (fun _ _ c _ => l.length - (intOf c).toNat)
  case atStart => exact ⟨0, Nat.zero_le _, rfl, rfl, rfl⟩
  case round =>
    obtain ⟨k, hk, rfl, rfl, rfl⟩ := hrel
    by_cases hlt : k < l.length
    · have hd : decide ((k : Int) < (l.length : Int)) = true := by simp; omega
      go_wp2_with fail
      go_roundw
      case rel =>
        refine ⟨k + 1, by omega, by go_num, ?_, by trivial⟩
        have hc := (l[k]).toNat_lt
        have h1 := be_step (beN (l.take k)) (l[k]).toNat (beN_take_lt l k hlt h8) hc
        rw [take_snoc l k hlt, beN_snoc, ← h1]
        rfl
      case measure => simp [intOf]; omega
    · have hd : decide ((k : Int) < (l.length : Int)) = false := by simp; omega
      have e : l.take k = l := List.take_of_length_le (by omega)
      have HE := hid e
      clear e h8
      go_wp2_with fail
      go_ret
      refine ⟨?_, HR.out⟩
      have hB := HB.out
      rw [HE.out]
      generalize beN l = x at hB ⊢
      first
        | rfl
        | exact congrArg (fun y => Ending.returned (Value.int .u8 y)) (by first | omega | exact IntWalk.u16_in _ (by omega))
set_option maxHeartbeats 400000 in
theorem fixedR1_no (p : Option Addr) (w : World) (R : World → Prop)
    (ht : Calls Try.prog 55 #[.pointer p, .int .i64 1] w fun en w' => en = .returned (.tuple #[strV [], .bool false]) ∧ R w') :
    Calls Try.prog 59 #[.pointer p, .int .i64 1] w fun en w' => en = .returned (.int .u8 0) ∧ R w' := by
  unfold strV at ht
  have HT := hid ht
  clear ht
  go_enter Try.func59, Try.ntmps59
  go_wp2_with (go_at_call 55; refine HT.out.mono ?_; rintro e w1 ⟨rfl, hr⟩)
  refine wp_loop_rounds 1 ?_
  rw [rounds_succ]
  go_wp2_with fail
  go_ret
  exact ⟨rfl, hr⟩

set_option maxHeartbeats 400000 in
theorem fixedR2 (b : Nat) (s : List UInt8) (at_ to : Nat) (w : World) (h : RdAt w b s at_ 0 to) (hn : 2 ≤ s.length - at_) :
    Calls Try.prog 63 #[.pointer (some ⟨b, 0, none⟩), .int .i64 2] w fun en w' => en = .returned (.int .u16 (beN ((s.drop at_).take 2))) ∧ Red w w' b s (at_ + 2) 0 to := by
  have ht := take_ok b s at_ to 2 w h hn
  obtain ⟨l, hl⟩ : ∃ l, l = (s.drop at_).take 2 := ⟨_, rfl⟩
  have hlen : l.length = 2 := by rw [hl]; simp; omega
  rw [← hl] at ht ⊢
  have h8 : l.length ≤ 8 := by omega
  have hlt : beN l < 256 ^ 2 := by have := beN_lt l; rwa [hlen] at this
  have HB := hid hlt
  unfold strV at ht
  have HT := hid ht
  clear h ht hl hlen hlt hn
  go_enter Try.func63, Try.ntmps63
  go_wp2_with (go_at_call 55; refine HT.out.mono ?_; rintro e w1 ⟨rfl, hr⟩)
  have HR := hid hr
  clear hr
  go_loopw [7, 8, 17] (fun n i c wr => ∃ k : Nat, k ≤ l.length ∧ c = .int .i64 k ∧ n = .int .u64 (beN (l.take k)) ∧ w1 = wr) (fun _ _ c _ => l.length - (intOf c).toNat)
  case atStart => exact ⟨0, Nat.zero_le _, rfl, rfl, rfl⟩
  case round =>
    obtain ⟨k, hk, rfl, rfl, rfl⟩ := hrel
    by_cases hlt : k < l.length
    · have hd : decide ((k : Int) < (l.length : Int)) = true := by simp; omega
      go_wp2_with fail
      go_roundw
      case rel =>
        refine ⟨k + 1, by omega, by go_num, ?_, by trivial⟩
        have hc := (l[k]).toNat_lt
        have h1 := be_step (beN (l.take k)) (l[k]).toNat (beN_take_lt l k hlt h8) hc
        rw [take_snoc l k hlt, beN_snoc, ← h1]
        rfl
      case measure => simp [intOf]; omega
    · have hd : decide ((k : Int) < (l.length : Int)) = false := by simp; omega
      have e : l.take k = l := List.take_of_length_le (by omega)
      have HE := hid e
      clear e h8
      go_wp2_with fail
      go_ret
      refine ⟨?_, HR.out⟩
      have hB := HB.out
      rw [HE.out]
      generalize beN l = x at hB ⊢
      first
        | rfl
        | exact congrArg (fun y => Ending.returned (Value.int .u16 y)) (by first | omega | exact IntWalk.u16_in _ (by omega))
set_option maxHeartbeats 400000 in
theorem fixedR2_no (p : Option Addr) (w : World) (R : World → Prop)
    (ht : Calls Try.prog 55 #[.pointer p, .int .i64 2] w fun en w' => en = .returned (.tuple #[strV [], .bool false]) ∧ R w') :
    Calls Try.prog 63 #[.pointer p, .int .i64 2] w fun en w' => en = .returned (.int .u16 0) ∧ R w' := by
  unfold strV at ht
  have HT := hid ht
  clear ht
  go_enter Try.func63, Try.ntmps63
  go_wp2_with (go_at_call 55; refine HT.out.mono ?_; rintro e w1 ⟨rfl, hr⟩)
  refine wp_loop_rounds 1 ?_
  rw [rounds_succ]
  go_wp2_with fail
  go_ret
  exact ⟨rfl, hr⟩

set_option maxHeartbeats 400000 in
theorem fixedR4 (b : Nat) (s : List UInt8) (at_ to : Nat) (w : World) (h : RdAt w b s at_ 0 to) (hn : 4 ≤ s.length - at_) :
    Calls Try.prog 60 #[.pointer (some ⟨b, 0, none⟩), .int .i64 4] w fun en w' => en = .returned (.int .u32 (beN ((s.drop at_).take 4))) ∧ Red w w' b s (at_ + 4) 0 to := by
  have ht := take_ok b s at_ to 4 w h hn
  obtain ⟨l, hl⟩ : ∃ l, l = (s.drop at_).take 4 := ⟨_, rfl⟩
  have hlen : l.length = 4 := by rw [hl]; simp; omega
  rw [← hl] at ht ⊢
  have h8 : l.length ≤ 8 := by omega
  have hlt : beN l < 256 ^ 4 := by have := beN_lt l; rwa [hlen] at this
  have HB := hid hlt
  unfold strV at ht
  have HT := hid ht
  clear h ht hl hlen hlt hn
  go_enter Try.func60, Try.ntmps60
  go_wp2_with (go_at_call 55; refine HT.out.mono ?_; rintro e w1 ⟨rfl, hr⟩)
  have HR := hid hr
  clear hr
  go_loopw [7, 8, 17] (fun n i c wr => ∃ k : Nat, k ≤ l.length ∧ c = .int .i64 k ∧ n = .int .u64 (beN (l.take k)) ∧ w1 = wr) (fun _ _ c _ => l.length - (intOf c).toNat)
  case atStart => exact ⟨0, Nat.zero_le _, rfl, rfl, rfl⟩
  case round =>
    obtain ⟨k, hk, rfl, rfl, rfl⟩ := hrel
    by_cases hlt : k < l.length
    · have hd : decide ((k : Int) < (l.length : Int)) = true := by simp; omega
      go_wp2_with fail
      go_roundw
      case rel =>
        refine ⟨k + 1, by omega, by go_num, ?_, by trivial⟩
        have hc := (l[k]).toNat_lt
        have h1 := be_step (beN (l.take k)) (l[k]).toNat (beN_take_lt l k hlt h8) hc
        rw [take_snoc l k hlt, beN_snoc, ← h1]
        rfl
      case measure => simp [intOf]; omega
    · have hd : decide ((k : Int) < (l.length : Int)) = false := by simp; omega
      have e : l.take k = l := List.take_of_length_le (by omega)
      have HE := hid e
      clear e h8
      go_wp2_with fail
      go_ret
      refine ⟨?_, HR.out⟩
      have hB := HB.out
      rw [HE.out]
      generalize beN l = x at hB ⊢
      first
        | rfl
        | exact congrArg (fun y => Ending.returned (Value.int .u32 y)) (by first | omega | exact IntWalk.u16_in _ (by omega))
set_option maxHeartbeats 400000 in
theorem fixedR4_no (p : Option Addr) (w : World) (R : World → Prop)
    (ht : Calls Try.prog 55 #[.pointer p, .int .i64 4] w fun en w' => en = .returned (.tuple #[strV [], .bool false]) ∧ R w') :
    Calls Try.prog 60 #[.pointer p, .int .i64 4] w fun en w' => en = .returned (.int .u32 0) ∧ R w' := by
  unfold strV at ht
  have HT := hid ht
  clear ht
  go_enter Try.func60, Try.ntmps60
  go_wp2_with (go_at_call 55; refine HT.out.mono ?_; rintro e w1 ⟨rfl, hr⟩)
  refine wp_loop_rounds 1 ?_
  rw [rounds_succ]
  go_wp2_with fail
  go_ret
  exact ⟨rfl, hr⟩

set_option maxHeartbeats 400000 in
theorem fixedR8 (b : Nat) (s : List UInt8) (at_ to : Nat) (w : World) (h : RdAt w b s at_ 0 to) (hn : 8 ≤ s.length - at_) :
    Calls Try.prog 61 #[.pointer (some ⟨b, 0, none⟩), .int .i64 8] w fun en w' => en = .returned (.int .u64 (beN ((s.drop at_).take 8))) ∧ Red w w' b s (at_ + 8) 0 to := by
  have ht := take_ok b s at_ to 8 w h hn
  obtain ⟨l, hl⟩ : ∃ l, l = (s.drop at_).take 8 := ⟨_, rfl⟩
  have hlen : l.length = 8 := by rw [hl]; simp; omega
  rw [← hl] at ht ⊢
  have h8 : l.length ≤ 8 := by omega
  have hlt : beN l < 256 ^ 8 := by have := beN_lt l; rwa [hlen] at this
  have HB := hid hlt
  unfold strV at ht
  have HT := hid ht
  clear h ht hl hlen hlt hn
  go_enter Try.func61, Try.ntmps61
  go_wp2_with (go_at_call 55; refine HT.out.mono ?_; rintro e w1 ⟨rfl, hr⟩)
  have HR := hid hr
  clear hr
  go_loopw [7, 8, 17] (fun n i c wr => ∃ k : Nat, k ≤ l.length ∧ c = .int .i64 k ∧ n = .int .u64 (beN (l.take k)) ∧ w1 = wr) (fun _ _ c _ => l.length - (intOf c).toNat)
  case atStart => exact ⟨0, Nat.zero_le _, rfl, rfl, rfl⟩
  case round =>
    obtain ⟨k, hk, rfl, rfl, rfl⟩ := hrel
    by_cases hlt : k < l.length
    · have hd : decide ((k : Int) < (l.length : Int)) = true := by simp; omega
      go_wp2_with fail
      go_roundw
      case rel =>
        refine ⟨k + 1, by omega, by go_num, ?_, by trivial⟩
        have hc := (l[k]).toNat_lt
        have h1 := be_step (beN (l.take k)) (l[k]).toNat (beN_take_lt l k hlt h8) hc
        rw [take_snoc l k hlt, beN_snoc, ← h1]
        rfl
      case measure => simp [intOf]; omega
    · have hd : decide ((k : Int) < (l.length : Int)) = false := by simp; omega
      have e : l.take k = l := List.take_of_length_le (by omega)
      have HE := hid e
      clear e h8
      go_wp2_with fail
      go_ret
      refine ⟨?_, HR.out⟩
      have hB := HB.out
      rw [HE.out]
      generalize beN l = x at hB ⊢
      first
        | rfl
        | exact congrArg (fun y => Ending.returned (Value.int .u64 y)) (by first | omega | exact IntWalk.u16_in _ (by omega))
set_option maxHeartbeats 400000 in
theorem fixedR8_no (p : Option Addr) (w : World) (R : World → Prop)
    (ht : Calls Try.prog 55 #[.pointer p, .int .i64 8] w fun en w' => en = .returned (.tuple #[strV [], .bool false]) ∧ R w') :
    Calls Try.prog 61 #[.pointer p, .int .i64 8] w fun en w' => en = .returned (.int .u64 0) ∧ R w' := by
  unfold strV at ht
  have HT := hid ht
  clear ht
  go_enter Try.func61, Try.ntmps61
  go_wp2_with (go_at_call 55; refine HT.out.mono ?_; rintro e w1 ⟨rfl, hr⟩)
  refine wp_loop_rounds 1 ?_
  rw [rounds_succ]
  go_wp2_with fail
  go_ret
  exact ⟨rfl, hr⟩

end Go.Proofs.Ytcggakegbdpdfaa
