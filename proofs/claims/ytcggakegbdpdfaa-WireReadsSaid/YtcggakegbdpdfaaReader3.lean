/-
  The contracts of wire.Reader's Short and Text. Conditions: what is read is no longer than an int.
-/
import Derived.Test.YtcggakegbdpdfaaReader2
namespace Go.Proofs.Ytcggakegbdpdfaa
open Go.RowKit

/-- A short number, byte by byte: i bytes were taken, which made n. Left: the error; right: the number, how many bytes. -/
def shGo : List UInt8 → Nat → Nat → Nat ⊕ (Nat × Nat)
  | [], _, _ => .inl 8
  | c :: l, i, n =>
    if (i = 9 ∧ 1 < c.toNat) ∨ (0 < i ∧ c.toNat = 0) then .inl 4
    else if c.toNat < 128 then .inr (n + c.toNat % 128 * 128 ^ i, i + 1)
    else shGo l (i + 1) (n + c.toNat % 128 * 128 ^ i)
/-- What Short of a reader without an error reads, and how the reader stands then: the number, the place, the error, its place. -/
def rShort (s : List UInt8) (at_ to most : Nat) : Nat × Nat × Nat × Nat :=
  match shGo (s.drop at_) 0 0 with
  | .inl e => (0, at_, e, at_)
  | .inr (n, k) => if most < n then (0, at_, 40, at_) else (n, at_ + k, 0, to)
def ShortPost (s : List UInt8) (at_ to most : Nat) (w : World) (b : Nat) (en : Ending) (w' : World) : Prop :=
  en = .returned (.int .u64 (rShort s at_ to most).1) ∧ Red w w' b s (rShort s at_ to most).2.1 (rShort s at_ to most).2.2.1 (rShort s at_ to most).2.2.2

theorem andNot128 (m : Nat) (h : m < 256) : bits .andNot .u64 (m : Int) 128 = ((m % 128 : Nat) : Int) := by
  have : ∀ m : Nat, m < 256 → bits .andNot .u64 (m : Int) 128 = ((m % 128 : Nat) : Int) := by decide +kernel
  exact this m h
theorem pow128 (i : Nat) : 128 ^ i = 2 ^ (7 * i) := by rw [show (128 : Nat) = 2 ^ 7 from rfl, ← Nat.pow_mul]
theorem sh_bound (nn m i : Nat) (hn : nn < 128 ^ i) (hi : i ≤ 9) (h9 : i = 9 → m ≤ 1) : m % 128 * 2 ^ (7 * i) < 18446744073709551616 ∧ nn < 18446744073709551616 := by
  have h9' : (2 : Nat) ^ (7 * 9) = 9223372036854775808 := by decide
  have hp : (2 : Nat) ^ (7 * i) ≤ 2 ^ (7 * 9) := Nat.pow_le_pow_right (by decide) (by omega)
  rw [pow128] at hn
  refine ⟨?_, by omega⟩
  by_cases h : i = 9
  · subst h
    have := h9 rfl
    rw [h9']
    omega
  · have hp8 : (2 : Nat) ^ (7 * i) ≤ 2 ^ (7 * 8) := Nat.pow_le_pow_right (by decide) (by omega)
    have h8' : (2 : Nat) ^ (7 * 8) = 72057594037927936 := by decide
    have hm : m % 128 < 128 := Nat.mod_lt _ (by decide)
    calc m % 128 * 2 ^ (7 * i) ≤ 127 * 2 ^ (7 * 8) := Nat.mul_le_mul (by omega) hp8
      _ < _ := by rw [h8']; decide
theorem sh_or (nn m i : Nat) (hn : nn < 128 ^ i) (hm : m < 256) (hi : i ≤ 9) (h9 : i = 9 → m ≤ 1) :
    bits .or .u64 (nn : Int) (IntKind.u64.wrap (bits .andNot .u64 (m : Int) 128 * 2 ^ (7 * i))) = ((nn + m % 128 * 128 ^ i : Nat) : Int) := by
  obtain ⟨h1, h2⟩ := sh_bound nn m i hn hi h9
  rw [andNot128 m hm]
  have e : (((m % 128 : Nat) : Int) * 2 ^ (7 * i)) = ((m % 128 * 2 ^ (7 * i) : Nat) : Int) := by simp
  rw [e, IntWalk.u64_in _ (by omega), u64_or_nat _ _ h2 h1, pow128]
  rw [pow128] at hn
  rw [Nat.mul_comm (m % 128), or_add (m % 128) nn (7 * i) hn, Nat.add_comm]
theorem sh_lt (nn m i : Nat) (hn : nn < 128 ^ i) : nn + m % 128 * 128 ^ i < 128 ^ (i + 1) := by
  have hm : m % 128 < 128 := Nat.mod_lt _ (by decide)
  have h2 : m % 128 * 128 ^ i ≤ 127 * 128 ^ i := Nat.mul_le_mul_right _ (by omega)
  rw [Nat.pow_succ]
  omega

set_option maxHeartbeats 400000 in
theorem upTo_ok (p : Option Addr) (n most from_ : Nat) (w : World) (h : n ≤ most) :
    Calls Try.prog 57 #[.pointer p, .int .u64 n, .int .u64 most, .int .i64 from_] w fun en w' => en = .returned (.int .u64 n) ∧ w = w' := by
  have hd : decide ((most : Int) < (n : Int)) = false := by simp; omega
  go_enter Try.func57, Try.ntmps57
  go_wp2_with fail
  go_ret
  exact ⟨rfl, rfl⟩
set_option maxHeartbeats 400000 in
theorem upTo_no (b : Nat) (s : List UInt8) (at_ e to n most from_ : Nat) (w : World) (hr : RdAt w b s at_ e to) (hf : from_ ≤ s.length) (h : most < n) :
    Calls Try.prog 57 #[.pointer (some ⟨b, 0, none⟩), .int .u64 n, .int .u64 most, .int .i64 from_] w fun en w' => en = .returned (.int .u64 0) ∧ Red w w' b s from_ 40 from_ := by
  have HW := hid (wrong_any b s at_ e to 40 from_ w hr hf)
  have hd : decide ((most : Int) < (n : Int)) = true := by simp; omega
  clear hr hf
  go_enter Try.func57, Try.ntmps57
  go_wp2_with (go_at_call 56; refine HW.out.mono ?_; rintro e w1 ⟨rfl, hr⟩)
  go_ret
  exact ⟨rfl, hr⟩
/-- upTo, as Short ends by it. -/
theorem upTo_end (b : Nat) (s : List UInt8) (at_ to k n most : Nat) (w0 w : World) (hs : shGo (s.drop at_) 0 0 = .inr (n, k)) (hr : RdAt w b s (at_ + k) 0 to) (hf : at_ ≤ s.length) (hfr : Fr (Only b) w0 w) :
    Calls Try.prog 57 #[.pointer (some ⟨b, 0, none⟩), .int .u64 n, .int .u64 most, .int .i64 at_] w fun en w' => ∃ r : Nat, en = .returned (.int .u64 r) ∧ ShortPost s at_ to most w0 b (.returned (.int .u64 r)) w' := by
  by_cases h : most < n
  · refine (upTo_no b s (at_ + k) 0 to n most at_ w hr hf h).mono ?_
    rintro e w' ⟨rfl, h2⟩
    refine ⟨0, rfl, ?_⟩
    unfold ShortPost rShort
    rw [hs]
    simp only [if_pos h]
    exact ⟨by trivial, h2.1, hfr.trans h2.2⟩
  · refine (upTo_ok (some ⟨b, 0, none⟩) n most at_ w (by omega)).mono ?_
    rintro e w' ⟨rfl, rfl⟩
    refine ⟨n, rfl, ?_⟩
    unfold ShortPost rShort
    rw [hs]
    simp only [if_neg h]
    exact ⟨by trivial, hr, hfr⟩
/-- wrong, as Short ends by it. -/
theorem wrong_end (b : Nat) (s : List UInt8) (at_ to p e t k most : Nat) (w0 w : World) (hs : shGo (s.drop at_) 0 0 = .inl k) (hr : RdAt w b s p e t) (hf : at_ ≤ s.length) (hfr : Fr (Only b) w0 w) :
    Calls Try.prog 56 #[.pointer (some ⟨b, 0, none⟩), .int .i64 k, .int .i64 at_] w fun en w' => en = .returned (.tuple #[]) ∧ ShortPost s at_ to most w0 b (.returned (.int .u64 0)) w' := by
  refine (wrong_any b s p e t k at_ w hr hf).mono ?_
  rintro e w' ⟨rfl, h2⟩
  refine ⟨rfl, ?_⟩
  unfold ShortPost rShort
  rw [hs]
  exact ⟨rfl, h2.1, hfr.trans h2.2⟩
theorem drop_cons (s : List UInt8) (k : Nat) (h : k < s.length) : s.drop k = s[k] :: s.drop (k + 1) := List.drop_eq_getElem_cons h

set_option maxRecDepth 100000 in
set_option maxHeartbeats 2000000 in
theorem shortR_any (b : Nat) (s : List UInt8) (at_ to most : Nat) (w : World) (h : RdAt w b s at_ 0 to) :
    Calls Try.prog 28 #[.pointer (some ⟨b, 0, none⟩), .int .u64 most] w fun en w' => ShortPost s at_ to most w b en w' := by
  have hg := good_any b s at_ 0 to w h
  have HG := hid hg
  obtain ⟨h0, h1, h2, h3, _⟩ := four_cells h.1
  have HH := hid h
  clear hg h
  go_enter Try.func28, Try.ntmps28
  go_wp2_with (go_at_call 54; refine HG.out.mono ?_; rintro e w1 ⟨rfl, rfl⟩)
  clear h0 h1 h2 h3
  go_loopw [6, 7] (fun n sh wr => ∃ i nn : Nat, sh = .int .i64 ((7 * i : Nat) : Int) ∧ n = .int .u64 nn ∧ RdAt wr b s (at_ + i) 0 to ∧ i ≤ 9 ∧ nn < 128 ^ i ∧ shGo (s.drop (at_ + i)) i nn = shGo (s.drop at_) 0 0 ∧ Fr (Only b) w wr) (fun _ sh _ => 70 - (intOf sh).toNat)
  case atStart => exact ⟨0, 0, rfl, rfl, HH.out, by omega, by simp, rfl, Fr.refl _⟩
  case round =>
    obtain ⟨i, nn, rfl, rfl, hr, hi, hnn, hgo, hfr⟩ := hrel
    have hle := HH.out.2.1
    have HFR := hid hfr
    have HNN := hid hnn
    clear hnn hfr HG
    by_cases hend : s.length ≤ at_ + i
    · have hsh : shGo (s.drop at_) 0 0 = .inl 8 := by rw [← hgo, List.drop_of_length_le hend]; rfl
      have HSH := hid hsh
      have ht := take_short b s (at_ + i) to 1 wr hr (by omega)
      unfold strV at ht
      have HT := hid ht
      clear hgo hsh ht hr hend
      go_wp2_with (first | (go_at_call 55; refine HT.out.mono ?_; rintro e w1 ⟨rfl, hr⟩) | (go_at_call 56; refine (wrong_end b s at_ to _ _ _ 8 most w _ HSH.out hr.1 hle (HFR.out.trans hr.2)).mono ?_; rintro e w2 ⟨rfl, hp⟩))
      go_ret
      exact hp
    · have hlt : at_ + i < s.length := by omega
      have ht := take_ok b s (at_ + i) to 1 wr hr (by omega)
      rw [drop_cons s (at_ + i) hlt] at hgo ht
      obtain ⟨c, hc⟩ : ∃ c, c = s[at_ + i] := ⟨_, rfl⟩
      rw [← hc] at hgo ht
      simp only [List.take_succ_cons, List.take_zero] at ht
      unfold strV at ht
      have HT := hid ht
      obtain ⟨m, hm⟩ : ∃ m, m = c.toNat := ⟨_, rfl⟩
      have hmb : m < 256 := by rw [hm]; exact c.toNat_lt
      have hsz : 0 < ({ data := #[c] } : ByteArray).size := by show 0 < 1; decide
      have hx : (({ data := #[c] } : ByteArray)[0]'hsz).toNat = m := by rw [hm]; rfl
      rw [shGo, ← hm] at hgo
      have HGO := hid hgo
      clear hgo ht hr hc hm hend
      by_cases hbad : (i = 9 ∧ 1 < m) ∨ (0 < i ∧ m = 0)
      · have hsh : shGo (s.drop at_) 0 0 = .inl 4 := by rw [← HGO.out, if_pos hbad]
        have HSH := hid hsh
        clear hsh
        by_cases h9 : i = 9 ∧ 1 < m
        · have g1 : ((7 * (i : Int)) == 63) = true := by simp; omega
          have g2 : decide ((1 : Int) < (m : Int)) = true := by simp; omega
          clear hbad
          go_wp2_with (first | (go_at_call 55; refine HT.out.mono ?_; rintro e w1 ⟨rfl, hr⟩) | (go_at_call 56; refine (wrong_end b s at_ to _ _ _ 4 most w _ HSH.out hr.1 hle (HFR.out.trans hr.2)).mono ?_; rintro e w2 ⟨rfl, hp⟩))
          go_ret
          exact hp
        · have hz : 0 < i ∧ m = 0 := by omega
          have g2 : decide ((1 : Int) < (m : Int)) = false := by simp; omega
          have g3 : decide ((0 : Int) < 7 * (i : Int)) = true := by simp; omega
          have g4 : ((m : Int) == 0) = true := by simp; omega
          clear hbad
          by_cases h63 : i = 9
          · have g1 : ((7 * (i : Int)) == 63) = true := by simp; omega
            clear h9 hz h63
            go_wp2_with (first | (go_at_call 55; refine HT.out.mono ?_; rintro e w1 ⟨rfl, hr⟩) | (go_at_call 56; refine (wrong_end b s at_ to _ _ _ 4 most w _ HSH.out hr.1 hle (HFR.out.trans hr.2)).mono ?_; rintro e w2 ⟨rfl, hp⟩))
            go_ret
            exact hp
          · have g1 : ((7 * (i : Int)) == 63) = false := by simp; omega
            clear h9 hz h63
            go_wp2_with (first | (go_at_call 55; refine HT.out.mono ?_; rintro e w1 ⟨rfl, hr⟩) | (go_at_call 56; refine (wrong_end b s at_ to _ _ _ 4 most w _ HSH.out hr.1 hle (HFR.out.trans hr.2)).mono ?_; rintro e w2 ⟨rfl, hp⟩))
            go_ret
            exact hp
      · have hgo2 := HGO.out
        rw [if_neg hbad] at hgo2
        have h9 : i = 9 → m ≤ 1 := by omega
        have hor := sh_or nn m i HNN.out hmb hi h9
        by_cases hlast : m < 128
        · have hsh : shGo (s.drop at_) 0 0 = .inr (nn + m % 128 * 128 ^ i, i + 1) := by rw [← hgo2, if_pos hlast]
          have HSH := hid hsh
          have g5 : decide ((m : Int) < 128) = true := by simp; omega
          obtain ⟨x, hxx⟩ : ∃ x, x = nn + m % 128 * 128 ^ i := ⟨_, rfl⟩
          rw [← hxx] at hor HSH
          clear hsh hgo2 hxx
          by_cases h63 : i = 9
          · have g1 : ((7 * (i : Int)) == 63) = true := by simp; omega
            have g2 : decide ((1 : Int) < (m : Int)) = false := by simp; omega
            have g3 : decide ((0 : Int) < 7 * (i : Int)) = true := by simp; omega
            have g4 : ((m : Int) == 0) = false := by simp; omega
            clear h9 hbad h63
            go_wp2_with (first | (go_at_call 55; refine HT.out.mono ?_; rintro e w1 ⟨rfl, hr⟩) | (go_at_call 57; refine (upTo_end b s at_ to (i + 1) x most w _ HSH.out hr.1 hle (HFR.out.trans hr.2)).mono ?_; rintro e w2 ⟨r, rfl, hp⟩))
            go_ret
            exact hp
          · have g1 : ((7 * (i : Int)) == 63) = false := by simp; omega
            by_cases h00 : 0 < i
            · have g3 : decide ((0 : Int) < 7 * (i : Int)) = true := by simp; omega
              have g4 : ((m : Int) == 0) = false := by simp; omega
              clear h9 hbad h63
              go_wp2_with (first | (go_at_call 55; refine HT.out.mono ?_; rintro e w1 ⟨rfl, hr⟩) | (go_at_call 57; refine (upTo_end b s at_ to (i + 1) x most w _ HSH.out hr.1 hle (HFR.out.trans hr.2)).mono ?_; rintro e w2 ⟨r, rfl, hp⟩))
              go_ret
              exact hp
            · have g3 : decide ((0 : Int) < 7 * (i : Int)) = false := by simp; omega
              clear h9 hbad h63
              go_wp2_with (first | (go_at_call 55; refine HT.out.mono ?_; rintro e w1 ⟨rfl, hr⟩) | (go_at_call 57; refine (upTo_end b s at_ to (i + 1) x most w _ HSH.out hr.1 hle (HFR.out.trans hr.2)).mono ?_; rintro e w2 ⟨r, rfl, hp⟩))
              go_ret
              exact hp
        · rw [if_neg hlast] at hgo2
          have hi9 : i ≠ 9 := by omega
          have g1 : ((7 * (i : Int)) == 63) = false := by simp; omega
          have g4 : ((m : Int) == 0) = false := by simp; omega
          have g5 : decide ((m : Int) < 128) = false := by simp; omega
          have hxlt := sh_lt nn m i HNN.out
          obtain ⟨x, hxx⟩ : ∃ x, x = nn + m % 128 * 128 ^ i := ⟨_, rfl⟩
          rw [← hxx] at hor hgo2 hxlt
          have HG2 := hid hgo2
          have HXL := hid hxlt
          clear hgo2 hxx hxlt
          by_cases h00 : 0 < i
          · have g3 : decide ((0 : Int) < 7 * (i : Int)) = true := by simp; omega
            clear h9 hbad
            go_wp2_with (first | (go_at_call 55; refine HT.out.mono ?_; rintro e w1 ⟨rfl, hr⟩))
            go_roundw
            case rel => exact ⟨i + 1, x, by go_num, rfl, hr.1, by omega, HXL.out, HG2.out, HFR.out.trans hr.2⟩
            case measure => simp [intOf]; omega
          · have g3 : decide ((0 : Int) < 7 * (i : Int)) = false := by simp; omega
            clear h9 hbad
            go_wp2_with (first | (go_at_call 55; refine HT.out.mono ?_; rintro e w1 ⟨rfl, hr⟩))
            go_roundw
            case rel => exact ⟨i + 1, x, by go_num, rfl, hr.1, by omega, HXL.out, HG2.out, HFR.out.trans hr.2⟩
            case measure => simp [intOf]; omega

end Go.Proofs.Ytcggakegbdpdfaa
