/-
  The document's reader: wrong, Fixed, Raw, End.
-/
import Derived.Test.YtcggakegbdpdfaaItem2
import Derived.Test.YtcggakegbdpdfaaAft
namespace Go.Proofs.Ytcggakegbdpdfaa
open Go.RowKit

def DRd (w : World) (b : Nat) (r : Rd) : Prop :=
  w.heap[b]? = some (.cells #[strV r.s, .int .i64 r.at_, .int .i64 r.e, .int .i64 r.to] 49 (0, 0)) ∧ r.at_ ≤ r.s.length ∧ r.s.length ≤ 9223372036854775807
def DTo (w w' : World) (b : Nat) (r : Rd) : Prop := DRd w' b r ∧ Fr (Only b) w w'
theorem DRd.fr {X : Nat → Prop} {w w' : World} {b : Nat} {r : Rd} (h : DRd w b r) (hf : Fr X w w') (hb : ¬ X b) : DRd w' b r := ⟨hf.heap h.1 hb, h.2⟩
theorem DRd.lt {w : World} {b : Nat} {r : Rd} (h : DRd w b r) : b < w.heap.size := lt_of_block h.1
theorem DRd.drewN {w : World} {b : Nat} {r : Rd} (h : DRd w b r) (n : Nat) : DRd (w.drewN n) b r := h
theorem DTo.drewN {w w' : World} {b n : Nat} {r : Rd} (h : DTo (w.drewN n) w' b r) : DTo w w' b r := ⟨h.1, ((Fr.refl (X := Only b) w).drewN n).trans h.2⟩
theorem DTo.trans {w w1 w2 : World} {b : Nat} {r1 r2 : Rd} (h : DTo w w1 b r1) (k : DTo w1 w2 b r2) : DTo w w2 b r2 := ⟨k.1, h.2.trans k.2⟩

set_option maxHeartbeats 400000 in
theorem dwrong (b : Nat) (r : Rd) (k : Nat) (w : World) (h : DRd w b r) (p : Nat) :
    Calls Try.prog 64 #[.pointer (some ⟨b, 0, none⟩), .int .i64 k, .int .i64 p] w fun en w' => en = .returned (.tuple #[]) ∧ DTo w w' b { r with e := k, to := p } := by
  obtain ⟨h0, h1, h2, h3, f0, f1, f2, f3⟩ := four_cells h.1
  have H := hid h
  clear h
  go_enter Try.func64, Try.ntmps64
  go_wp2_with fail
  refine bodyPost_end (results_none rfl _ _ _) rfl ⟨rfl, ?_⟩
  have hb := H.out.1
  have e1 := heap_setCell_at (i := 2) (.int .i64 k) hb
  have e2 := heap_setCell_at (i := 3) (.int .i64 p) e1
  exact ⟨⟨e2, H.out.2.1, H.out.2.2⟩, ((Fr.refl w).set_only 2 _).set_only 3 _⟩

set_option maxHeartbeats 400000 in
theorem dFixed_bad (b : Nat) (r : Rd) (k : Int) (w : World) (h : DRd w b r) (he : r.e ≠ 0) :
    Calls Try.prog 49 #[.pointer (some ⟨b, 0, none⟩), .int .i64 k] w fun en w' => en = .returned (.int .u64 0) ∧ w = w' := by
  obtain ⟨h0, h1, h2, h3, f0, f1, f2, f3⟩ := four_cells h.1
  have c1 : ((r.e : Int) != 0) = true := by simpa using he
  clear h he
  go_enter Try.func49, Try.ntmps49
  go_wp2_with fail
  go_ret
  exact ⟨rfl, rfl⟩
set_option maxHeartbeats 400000 in
theorem dFixed_short (b : Nat) (r : Rd) (k : Nat) (w : World) (h : DRd w b r) (he : r.e = 0) (hs : r.s.length - r.at_ < k) :
    Calls Try.prog 49 #[.pointer (some ⟨b, 0, none⟩), .int .i64 k] w fun en w' => en = .returned (.int .u64 0) ∧ DTo w w' b { r with e := 8, to := r.at_ } := by
  obtain ⟨s, a, e, to⟩ := r
  simp only at he hs
  subst he
  obtain ⟨h0, h1, h2, h3, f0, f1, f2, f3⟩ := four_cells h.1
  have hle := h.2.1
  have hmx := h.2.2
  simp only at hle hmx h0 h1 h2
  have H := hid (fun n => dwrong b _ 8 (w.drewN n) (h.drewN n) a)
  have hd : decide ((s.length : Int) - (a : Int) < (k : Int)) = true := by simp; omega
  unfold strV at h0
  clear h
  go_enter Try.func49, Try.ntmps49
  go_wp2_with fail
  go_quiet (fail)
  go_wp2_with (first | (go_at_call 64; refine (H.out _).mono ?_; rintro e1 w1 ⟨rfl, hr⟩))
  go_ret
  exact ⟨rfl, hr.drewN⟩
set_option maxHeartbeats 1000000 in
theorem dFixed_ok (b : Nat) (r : Rd) (k : Nat) (w : World) (h : DRd w b r) (he : r.e = 0) (hs : ¬ r.s.length - r.at_ < k) (hk : k ≤ 8) :
    Calls Try.prog 49 #[.pointer (some ⟨b, 0, none⟩), .int .i64 k] w fun en w' => en = .returned (.int .u64 (beN ((r.s.drop r.at_).take k))) ∧ DTo w w' b { r with at_ := r.at_ + k } := by
  obtain ⟨s, a, e, to⟩ := r
  simp only at he hs ⊢
  subst he
  obtain ⟨h0, h1, h2, h3, f0, f1, f2, f3⟩ := four_cells h.1
  have hle := h.2.1
  have hmx := h.2.2
  simp only at hle hmx h0 h1 h2
  have hd : decide ((s.length : Int) - (a : Int) < (k : Int)) = false := by simp; omega
  have hlen : (s.drop a).length = s.length - a := by simp
  obtain ⟨t, ht⟩ : ∃ t, t = s.drop a := ⟨_, rfl⟩
  rw [← ht] at hlen ⊢
  have HT := hid ht
  clear ht
  have HH := hid h
  unfold strV at h0
  clear h
  go_enter Try.func49, Try.ntmps49
  go_wp2_with fail
  go_quiet (fail)
  revert nq; intro n0
  go_wp2_with fail
  go_loopw [5, 6] (fun n c wr => ∃ i m : Nat, i ≤ k ∧ c = .int .i64 i ∧ n = .int .u64 (beN (t.take i)) ∧ wr = w.drewN m) (fun _ c _ => k - (intOf c).toNat)
  case atStart => exact ⟨0, n0, Nat.zero_le _, rfl, rfl, rfl⟩
  case round =>
    obtain ⟨i, m, hi, rfl, rfl, rfl⟩ := hrel
    by_cases hlt : i < k
    · have hd2 : decide ((i : Int) < (k : Int)) = true := by simp; omega
      have hix : a + i < s.length := by omega
      have hit : i < t.length := by omega
      have hb1 : (0 : Int) ≤ (a : Int) + (i : Int) := by omega
      have hb2 : (a : Int) + (i : Int) < (s.length : Int) := by omega
      have hsz : a + i < ({ data := s.toArray } : ByteArray).size := hix
      obtain ⟨cb, hcb⟩ : ∃ cb, cb = t[i].toNat := ⟨_, rfl⟩
      have hx : (({ data := s.toArray } : ByteArray)[a + i]'hsz).toNat = cb := by
        rw [hcb]
        have e := HT.out
        subst e
        simp
        rfl
      have hcl : cb < 256 := by rw [hcb]; exact t[i].toNat_lt
      have hbe : beN (t.take i) < 72057594037927936 := by
        refine Nat.lt_of_lt_of_le (beN_lt _) ?_
        rw [show (72057594037927936 : Nat) = 256 ^ 7 from rfl]
        exact Nat.pow_le_pow_right (by decide) (by simp; omega)
      have hnx : beN (t.take (i + 1)) = beN (t.take i) * 256 + cb := by rw [take_snoc t i hit, beN_snoc, hcb]
      have hw1 : IntKind.u64.wrap ((beN (t.take i) : Int) * 256) = (beN (t.take i) : Int) * 256 := IntWalk.u64_in _ (by omega)
      generalize hv0 : beN (t.take i) = v0 at hnx hbe hw1
      have HN := hid hnx
      clear hnx hcb hv0
      go_wp2_with fail
      go_quiet (fail)
      revert nq; intro n1
      go_wp2_with fail
      go_roundw
      case rel => exact ⟨i + 1, m + n1, by omega, by go_num, by rw [HN.out]; go_num, rfl⟩
      case measure => simp [intOf]; omega
    · have hd2 : decide ((i : Int) < (k : Int)) = false := by simp; omega
      have hik : i = k := by omega
      subst hik
      generalize hv0 : beN (t.take i) = v0
      have hov : (a : Int) + (i : Int) ≤ 9223372036854775807 := by omega
      have HV := hid hv0
      clear hv0
      go_wp2_with fail
      go_ret
      have hb := HH.out.1
      have e1 := heap_setCell_at (w := w.drewN m) (i := 1) (.int .i64 ((a : Int) + (i : Int))) hb
      refine ⟨congrArg (fun (z : Nat) => Ending.returned (.int .u64 (z : Int))) HV.out.symm, ⟨?_, by show a + i ≤ s.length; omega, hmx⟩, ((Fr.refl w).drewN _).set_only 1 _⟩
      rw [e1]
      simp [strV]

/-- A fixed number, in the document's reader. -/
theorem dFixed (b : Nat) (r : Rd) (k : Nat) (w : World) (h : DRd w b r) (hk : k ≤ 8) :
    Calls Try.prog 49 #[.pointer (some ⟨b, 0, none⟩), .int .i64 k] w fun en w' => en = .returned (.int .u64 (rFix k r).1) ∧ DTo w w' b (rFix k r).2 := by
  unfold rFix
  by_cases he : r.e = 0
  · rw [if_pos he]
    by_cases hs : r.s.length - r.at_ < k
    · rw [if_pos hs]; exact dFixed_short b r k w h he hs
    · rw [if_neg hs]; exact dFixed_ok b r k w h he hs hk
  · rw [if_neg he]
    exact (dFixed_bad b r k w h he).mono fun e w' ⟨h1, h2⟩ => ⟨h1, by subst h2; exact ⟨h, Fr.refl _⟩⟩

set_option maxHeartbeats 1000000 in
theorem dLow (b : Nat) (r : Rd) (w : World) (h : DRd w b r) :
    Calls Try.prog 52 #[.pointer (some ⟨b, 0, none⟩)] w fun en w' => en = .returned (.int .u32 (revN (rFix 4 r).1)) ∧ DTo w w' b (rFix 4 r).2 := by
  have H : Hid (Calls Try.prog 49 #[.pointer (some ⟨b, 0, none⟩), .int .i64 4] w fun en w' => en = .returned (.int .u64 (rFix 4 r).1) ∧ DTo w w' b (rFix 4 r).2) := hid (dFixed b r 4 w h (by decide))
  have hlt := rFix_lt 4 r
  generalize (rFix 4 r).1 = n at H hlt ⊢
  have hn : n < 4294967296 := by simpa using hlt
  clear h hlt
  go_enter Try.func52, Try.ntmps52
  go_wp2_with (first | (go_at_call 49; refine H.out.mono ?_; rintro e w1 ⟨rfl, hr⟩))
  go_ret
  exact ⟨congrArg (fun z => Ending.returned (.int .u32 z)) (show (n : Int) % 256 * 16777216 + (n : Int) / 256 % 256 * 65536 + (n : Int) / 65536 % 256 * 256 + (n : Int) / 16777216 = ((revN n : Nat) : Int) from by unfold revN; omega), hr⟩

set_option maxHeartbeats 400000 in
theorem dEnd (b : Nat) (r : Rd) (w : World) (h : DRd w b r) :
    Calls Try.prog 25 #[.pointer (some ⟨b, 0, none⟩)] w fun en w' => en = .returned (.int .i64 (endE r.s.length r.at_ r.e)) ∧ Fr No w w' := by
  obtain ⟨s, a, e, to⟩ := r
  obtain ⟨h0, h1, h2, h3, f0, f1, f2, f3⟩ := four_cells h.1
  simp only at h0 h1 h2 ⊢
  unfold strV at h0
  clear h
  unfold endE
  by_cases he : e = 0
  · subst he
    by_cases hs : a < s.length
    · rw [if_pos ⟨rfl, hs⟩]
      have hd : decide ((a : Int) < (s.length : Int)) = true := by simp; omega
      go_enter Try.func25, Try.ntmps25
      go_wp2_with fail
      go_quiet (fail)
      go_wp2_with fail
      go_ret
      exact ⟨rfl, (Fr.refl w).drewN _⟩
    · rw [if_neg (by omega)]
      have hd : decide ((a : Int) < (s.length : Int)) = false := by simp; omega
      go_enter Try.func25, Try.ntmps25
      go_wp2_with fail
      go_quiet (fail)
      go_wp2_with fail
      go_ret
      exact ⟨rfl, (Fr.refl w).drewN _⟩
  · rw [if_neg (by omega)]
    have hd : ((e : Int) == 0) = false := by simp; omega
    go_enter Try.func25, Try.ntmps25
    go_wp2_with fail
    go_quiet (fail)
    go_wp2_with fail
    go_ret
    exact ⟨rfl, (Fr.refl w).drewN _⟩
end Go.Proofs.Ytcggakegbdpdfaa
