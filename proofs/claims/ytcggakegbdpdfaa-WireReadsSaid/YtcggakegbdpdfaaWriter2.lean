/-
  The contracts of wire.Writer's other methods. Conditions: the bytes that a writer holds stay below 2^47.
-/
import Derived.Test.YtcggakegbdpdfaaWriter
namespace Go.Proofs.Ytcggakegbdpdfaa
open Go.RowKit

/-! ### of nil -/
set_option maxHeartbeats 400000 in
theorem fixed_nil (n k : Int) (w : World) :
    Calls Try.prog 58 #[.pointer none, .int .u64 n, .int .i64 k] w fun e w' => e = .returned (.tuple #[]) ∧ w = w' := by
  go_enter Try.func58, Try.ntmps58
  go_wp2_with fail
  exact bodyPost_ret (results_none rfl _ _ _) rfl ⟨rfl, rfl⟩

set_option maxHeartbeats 400000 in
theorem u8_any (b : Nat) (o : Option Nat) (n : Nat) (l : List UInt8) (w : World) (hw : WrAt w b o l) (hl : l.length + 8 ≤ 140737488355328) (hn : n ≤ 255) :
    Calls Try.prog 31 #[.pointer (some ⟨b, 0, none⟩), .int .u8 n] w fun e w' => e = .returned (.tuple #[]) ∧ Wrote w w' b o (l ++ [byteN n]) := by
  go_enter Try.func31, Try.ntmps31
  go_wp2_with (go_at_call 58; refine (fixed1 b o n l _ hw hl (by omega)).mono ?_; rintro e w' ⟨rfl, hq⟩)
  refine bodyPost_end (results_none rfl _ _ _) rfl ⟨rfl, ?_⟩
  exact hq

/-- Behind some rounds of Short: what is written and what is still to be written make the whole. -/
def ShortRel (w0 : World) (b : Nat) (o : Option Nat) (l : List UInt8) (n m j : Nat) (wr : World) : Prop :=
  ∃ o' l', WrAt wr b o' l' ∧ l' ++ shortF j m = l ++ shortB n ∧ Fr (OnlyO b o) w0 wr ∧ NewO w0 o o' ∧ m < 128 ^ j ∧ l'.length + j ≤ l.length + 10 ∧ 1 ≤ j

set_option maxHeartbeats 400000 in
theorem short_any (b : Nat) (o : Option Nat) (n : Nat) (l : List UInt8) (w : World) (hw : WrAt w b o l) (hl : l.length + 20 ≤ 140737488355328) (hn : n ≤ 18446744073709551615) :
    Calls Try.prog 40 #[.pointer (some ⟨b, 0, none⟩), .int .u64 n] w fun e w' => e = .returned (.tuple #[]) ∧ Wrote w w' b o (l ++ shortB n) := by
  have h0 : ShortRel w b o l n n 10 w := ⟨o, l, hw, rfl, Fr.refl _, .inl rfl, by omega, by omega, by omega⟩
  have HL := hid hl
  clear hl hn hw
  go_enter Try.func40, Try.ntmps40
  go_wp2_with fail
  go_loopw [1] (fun v wr => ∃ m j : Nat, v = .int .u64 m ∧ ShortRel w b o l n m j wr) (fun v _ => (intOf v).toNat)
  case atStart => exact ⟨n, 10, rfl, h0⟩
  case round =>
    clear h0
    obtain ⟨m, j, rfl, o', l', ha, he, hf, hno, hm, hlen, hj1⟩ := hrel
    have HE := hid he
    have HM := hid hm
    clear he hm
    by_cases hlt : 128 ≤ m
    · have hd : decide ((128 : Int) ≤ (m : Int)) = true := by simp; omega
      go_wp2_with (go_at_call 31; rw [or128]; refine (u8_any b o' (m % 128 + 128) l' _ ha (by have := HL.out; omega) (by omega)).mono ?_; rintro e w' ⟨rfl, hq⟩)
      obtain ⟨o2, ha2, hf2, hno2⟩ := Wrote.trans hf hno hq
      have hj : ∃ k, j = k + 1 := by
        cases j with
        | zero => omega
        | succ k => exact ⟨k, rfl⟩
      obtain ⟨k, rfl⟩ := hj
      go_roundw
      case rel =>
        refine ⟨m / 128, k, by go_num, o2, _, ha2, ?_, hf2, hno2, ?_, ?_, ?_⟩
        · rw [← HE.out, shortF_step k m hlt]; simp
        · have := HM.out
          rw [Nat.pow_succ] at this
          exact Nat.div_lt_of_lt_mul (by omega)
        · simp; omega
        · cases k with
          | zero => have := HM.out; simp at this; omega
          | succ k => omega
      case measure => simp [intOf]; omega
    · have hd : decide ((128 : Int) ≤ (m : Int)) = false := by simp; omega
      go_wp2_with (go_at_call 31; refine (u8_any b o' m l' _ ha (by have := HL.out; omega) (by omega)).mono ?_; rintro e w' ⟨rfl, hq⟩)
      have hj : ∃ k, j = k + 1 := by
        cases j with
        | zero => omega
        | succ k => exact ⟨k, rfl⟩
      obtain ⟨k, rfl⟩ := hj
      have R := Wrote.trans hf hno hq
      rw [show l' ++ [byteN m] = l ++ shortB n from by rw [← HE.out, shortF_last k m hlt]] at R
      have HR := hid R
      clear R
      go_wp2_with fail
      exact bodyPost_end (results_none rfl _ _ _) rfl ⟨rfl, HR.out⟩

set_option maxHeartbeats 400000 in
theorem u16_any (b : Nat) (o : Option Nat) (n : Nat) (l : List UInt8) (w : World) (hw : WrAt w b o l) (hl : l.length + 8 ≤ 140737488355328) (hn : n ≤ 65535) :
    Calls Try.prog 44 #[.pointer (some ⟨b, 0, none⟩), .int .u16 n] w fun e w' => e = .returned (.tuple #[]) ∧ Wrote w w' b o (l ++ fixedB 2 n) := by
  have hf := fixed2 b o n l w hw hl (by omega)
  have HF := hid hf
  clear hf hl
  go_enter Try.func44, Try.ntmps44
  go_wp2_with (go_at_call 58; refine HF.out.mono ?_; rintro e w' ⟨rfl, hq⟩)
  exact bodyPost_end (results_none rfl _ _ _) rfl ⟨rfl, hq⟩

set_option maxHeartbeats 400000 in
theorem u32_any (b : Nat) (o : Option Nat) (n : Nat) (l : List UInt8) (w : World) (hw : WrAt w b o l) (hl : l.length + 8 ≤ 140737488355328) (hn : n ≤ 4294967295) :
    Calls Try.prog 32 #[.pointer (some ⟨b, 0, none⟩), .int .u32 n] w fun e w' => e = .returned (.tuple #[]) ∧ Wrote w w' b o (l ++ fixedB 4 n) := by
  have hf := fixed4 b o n l w hw hl (by omega)
  have HF := hid hf
  clear hf hl
  go_enter Try.func32, Try.ntmps32
  go_wp2_with (go_at_call 58; refine HF.out.mono ?_; rintro e w' ⟨rfl, hq⟩)
  exact bodyPost_end (results_none rfl _ _ _) rfl ⟨rfl, hq⟩

set_option maxHeartbeats 400000 in
theorem u64_any (b : Nat) (o : Option Nat) (n : Nat) (l : List UInt8) (w : World) (hw : WrAt w b o l) (hl : l.length + 8 ≤ 140737488355328) (hn : n ≤ 18446744073709551615) :
    Calls Try.prog 33 #[.pointer (some ⟨b, 0, none⟩), .int .u64 n] w fun e w' => e = .returned (.tuple #[]) ∧ Wrote w w' b o (l ++ fixedB 8 n) := by
  have hf := fixed8 b o n l w hw hl (by omega)
  have HF := hid hf
  clear hf hl
  go_enter Try.func33, Try.ntmps33
  go_wp2_with (go_at_call 58; refine HF.out.mono ?_; rintro e w' ⟨rfl, hq⟩)
  exact bodyPost_end (results_none rfl _ _ _) rfl ⟨rfl, hq⟩

set_option maxHeartbeats 400000 in
theorem rev_any (n : Nat) (w : World) (hn : n ≤ 4294967295) :
    Calls Try.prog 62 #[.int .u32 n] w fun e w' => e = .returned (.int .u32 (revN n)) ∧ w = w' := by
  have hr := rev_bits n hn
  have HR := hid hr
  clear hr
  go_enter Try.func62, Try.ntmps62
  go_wp2_with fail
  go_ret
  refine ⟨?_, rfl⟩
  rw [← HR.out]
  rfl

set_option maxHeartbeats 400000 in
theorem low_any (b : Nat) (o : Option Nat) (n : Nat) (l : List UInt8) (w : World) (hw : WrAt w b o l) (hl : l.length + 8 ≤ 140737488355328) (hn : n ≤ 4294967295) :
    Calls Try.prog 39 #[.pointer (some ⟨b, 0, none⟩), .int .u32 n] w fun e w' => e = .returned (.tuple #[]) ∧ Wrote w w' b o (l ++ lowB n) := by
  have hr := rev_any n w hn
  have hu := u32_any b o (revN n) l w hw hl (revN_le n)
  rw [fixedB_rev] at hu
  have HR := hid hr
  have HU := hid hu
  clear hr hu hn hl
  go_enter Try.func39, Try.ntmps39
  go_wp2_with (first | (go_at_call 62; refine HR.out.mono ?_; rintro e w' ⟨rfl, rfl⟩) | (go_at_call 32; refine HU.out.mono ?_; rintro e w' ⟨rfl, hq⟩))
  exact bodyPost_end (results_none rfl _ _ _) rfl ⟨rfl, hq⟩

set_option maxHeartbeats 400000 in
theorem raw_any (b : Nat) (o : Option Nat) (s : ByteArray) (l : List UInt8) (w : World) (hw : WrAt w b o l) (hl : l.length + s.size ≤ 140737488355328) :
    Calls Try.prog 34 #[.pointer (some ⟨b, 0, none⟩), .string s] w fun e w' => e = .returned (.tuple #[]) ∧ Wrote w w' b o (l ++ s.data.toList) := by
  obtain ⟨i0, hi, hz0, hz1, hz2⟩ := info_parts infoU8
  obtain ⟨v0, hb, rfl, hown0⟩ := hw
  have hc0 : w.cell? ⟨b, 0, none⟩ = some v0 := cell_of_one hb
  have HB0 := hid hb
  have HL := hid hl
  clear hb hl
  go_enter Try.func34, Try.ntmps34
  go_wp2_with (at_builtin; refine wpList_append_src _ rfl _ _ 30 9 rfl 5 i0 (.int .u8 0) 1 1 Try.underlying30 hi hz0 hz1 hz2 rfl _ _ _ rfl hown0 (.string s) s.size _ rfl (Src.ofString _ Try.underlying9 s) ?c3 ?c4 ?_)
  case c3 => have := HL.out; unfold maxLen; omega
  case c4 => have := HL.out; omega
  intro v1 y1 ho hf hm
  obtain ⟨HB, hfz, R⟩ := wr_pushS (news := s.data.toList) HB0.out hown0 ho (by simp [byteCells_map]) hf hm
  obtain ⟨a1, c1, rfl⟩ := Own.shape ho
  have hy : y1.cell? ⟨b, 0, none⟩ = some v0 := cell_of_one HB
  have HR := hid R
  clear R hf hm ho hown0 hc0 HB
  go_wp2_with fail
  generalize y1.setCell ⟨b, 0, none⟩ (Value.slice a1 (l.length + s.size) c1) = W at HR ⊢
  exact bodyPost_end (results_none rfl _ _ _) rfl ⟨rfl, HR.out⟩

set_option maxHeartbeats 400000 in
theorem text_any (b : Nat) (o : Option Nat) (s : ByteArray) (l : List UInt8) (w : World) (hw : WrAt w b o l) (hs : s.size ≤ 9223372036854775807) (hl : l.length + s.size + 20 ≤ 140737488355328) :
    Calls Try.prog 41 #[.pointer (some ⟨b, 0, none⟩), .string s] w fun e w' => e = .returned (.tuple #[]) ∧ Wrote w w' b o (l ++ textB s.data.toList) := by
  have h1 := short_any b o s.size l w hw (by omega) (by omega)
  have hlen : (l ++ shortB s.size).length + s.size ≤ 140737488355328 := by have := shortB_length_le s.size; simp; omega
  have e1 : (l ++ textB s.data.toList) = (l ++ shortB s.size) ++ s.data.toList := by unfold textB; simp
  rw [e1]
  have H1 := hid h1
  have HL := hid hlen
  clear h1 hlen hl e1
  go_enter Try.func41, Try.ntmps41
  go_wp2_with (go_at_call 40; refine H1.out.mono ?_; rintro e w1 ⟨rfl, o1, ha1, hf1, hn1⟩)
  have h2 := raw_any b o1 s (l ++ shortB s.size) w1 ha1 HL.out
  have H2 := hid h2
  clear h2
  go_wp2_with (go_at_call 34; refine H2.out.mono ?_; rintro e w2 ⟨rfl, hq⟩)
  exact bodyPost_end (results_none rfl _ _ _) rfl ⟨rfl, Wrote.trans hf1 hn1 hq⟩

set_option maxHeartbeats 400000 in
theorem bytes_any (b : Nat) (o : Option Nat) (l : List UInt8) (w : World) (hw : WrAt w b o l) :
    Calls Try.prog 17 #[.pointer (some ⟨b, 0, none⟩)] w fun e w' => e = .returned (strV l) ∧ w = w' := by
  obtain ⟨v, hb, rfl, hown⟩ := hw
  have hc : w.cell? ⟨b, 0, none⟩ = some v := cell_of_one hb
  have hcv := run_text_of_own (P := Try.prog) w 30 9 5 Try.underlying30 Try.underlying5 Try.underlying9 v _ l hown
  clear hb hown
  unfold strV at *
  go_enter Try.func17, Try.ntmps17
  go_wp2_with fail
  go_ret
  exact ⟨rfl, rfl⟩

set_option maxHeartbeats 400000 in
theorem len_any (b : Nat) (o : Option Nat) (l : List UInt8) (w : World) (hw : WrAt w b o l) :
    Calls Try.prog 15 #[.pointer (some ⟨b, 0, none⟩)] w fun e w' => e = .returned (.int .i64 l.length) ∧ w = w' := by
  have h1 := bytes_any b o l w hw
  unfold strV at h1
  have H1 := hid h1
  clear h1
  go_enter Try.func15, Try.ntmps15
  go_wp2_with (go_at_call 17; refine H1.out.mono ?_; rintro e w1 ⟨rfl, rfl⟩)
  go_ret
  exact ⟨rfl, rfl⟩

end Go.Proofs.Ytcggakegbdpdfaa
