/-
  The contracts of wire's and the document's readers and writers, for this seat (out of the wire seat's texts): no statement of the seat is proved here.
-/
import Derived.Test.YtnmfmedoocnofaaDoorCPlain
import Derived.Test.YtnmfmedoocnofaaDoorBase
namespace Go.Proofs.YtnmfmedoocnofaaDoor
open Go.RowKit

def DRd (w : World) (b : Nat) (r : Rd) : Prop :=
  w.heap[b]? = some (.cells #[strV r.s, .int .i64 r.at_, .int .i64 r.e, .int .i64 r.to] 59 (0, 0)) ∧ r.at_ ≤ r.s.length ∧ r.s.length ≤ 9223372036854775807
def DTo (w w' : World) (b : Nat) (r : Rd) : Prop := DRd w' b r ∧ Fr (Only b) w w'
theorem DRd.fr {X : Nat → Prop} {w w' : World} {b : Nat} {r : Rd} (h : DRd w b r) (hf : Fr X w w') (hb : ¬ X b) : DRd w' b r := ⟨hf.heap h.1 hb, h.2⟩
theorem DRd.lt {w : World} {b : Nat} {r : Rd} (h : DRd w b r) : b < w.heap.size := lt_of_block h.1
theorem DRd.drewN {w : World} {b : Nat} {r : Rd} (h : DRd w b r) (n : Nat) : DRd (w.drewN n) b r := h
theorem DTo.drewN {w w' : World} {b n : Nat} {r : Rd} (h : DTo (w.drewN n) w' b r) : DTo w w' b r := ⟨h.1, ((Fr.refl (X := Only b) w).drewN n).trans h.2⟩
theorem DTo.trans {w w1 w2 : World} {b : Nat} {r1 r2 : Rd} (h : DTo w w1 b r1) (k : DTo w1 w2 b r2) : DTo w w2 b r2 := ⟨k.1, h.2.trans k.2⟩

set_option maxHeartbeats 400000 in
theorem dwrong (b : Nat) (r : Rd) (k : Nat) (w : World) (h : DRd w b r) (p : Nat) :
    Calls Tryd.prog 65 #[.pointer (some ⟨b, 0, none⟩), .int .i64 k, .int .i64 p] w fun en w' => en = .returned (.tuple #[]) ∧ DTo w w' b { r with e := k, to := p } := by
  obtain ⟨h0, h1, h2, h3, f0, f1, f2, f3⟩ := four_cells h.1
  have H := hid h
  clear h
  go_enter Tryd.func65, Tryd.ntmps65
  go_wp2_with fail
  refine bodyPost_end (results_none rfl _ _ _) rfl ⟨rfl, ?_⟩
  have hb := H.out.1
  have e1 := heap_setCell_at (i := 2) (.int .i64 k) hb
  have e2 := heap_setCell_at (i := 3) (.int .i64 p) e1
  exact ⟨⟨e2, H.out.2.1, H.out.2.2⟩, ((Fr.refl w).set_only 2 _).set_only 3 _⟩

set_option maxHeartbeats 400000 in
theorem dFixed_bad (b : Nat) (r : Rd) (k : Int) (w : World) (h : DRd w b r) (he : r.e ≠ 0) :
    Calls Tryd.prog 34 #[.pointer (some ⟨b, 0, none⟩), .int .i64 k] w fun en w' => en = .returned (.int .u64 0) ∧ w = w' := by
  obtain ⟨h0, h1, h2, h3, f0, f1, f2, f3⟩ := four_cells h.1
  have c1 : ((r.e : Int) != 0) = true := by simpa using he
  clear h he
  go_enter Tryd.func34, Tryd.ntmps34
  go_wp2_with fail
  go_ret
  exact ⟨rfl, rfl⟩
set_option maxHeartbeats 400000 in
theorem dFixed_short (b : Nat) (r : Rd) (k : Nat) (w : World) (h : DRd w b r) (he : r.e = 0) (hs : r.s.length - r.at_ < k) :
    Calls Tryd.prog 34 #[.pointer (some ⟨b, 0, none⟩), .int .i64 k] w fun en w' => en = .returned (.int .u64 0) ∧ DTo w w' b { r with e := 8, to := r.at_ } := by
  obtain ⟨s, a, e, to⟩ := r
  simp only at he hs
  subst he
  obtain ⟨h0, h1, h2, h3, f0, f1, f2, f3⟩ := four_cells h.1
  have hle := h.2.1
  have hmx := h.2.2
  simp only at hle hmx h0 h1 h2
  have H := hid (fun n => dwrong b _ 8 (w.drewN n) (h.drewN n) a)
  have hd : decide ((s.length : Int) - (a : Int) < (k : Int)) = true := by simp; omega
  unfold strV at h0
  clear h
  go_enter Tryd.func34, Tryd.ntmps34
  go_wp2_with fail
  go_quiet (fail)
  go_wp2_with (first | (go_at_call 65; refine (H.out _).mono ?_; rintro e1 w1 ⟨rfl, hr⟩))
  go_ret
  exact ⟨rfl, hr.drewN⟩
set_option maxHeartbeats 1000000 in
theorem dFixed_ok (b : Nat) (r : Rd) (k : Nat) (w : World) (h : DRd w b r) (he : r.e = 0) (hs : ¬ r.s.length - r.at_ < k) (hk : k ≤ 8) :
    Calls Tryd.prog 34 #[.pointer (some ⟨b, 0, none⟩), .int .i64 k] w fun en w' => en = .returned (.int .u64 (beN ((r.s.drop r.at_).take k))) ∧ DTo w w' b { r with at_ := r.at_ + k } := by
  obtain ⟨s, a, e, to⟩ := r
  simp only at he hs ⊢
  subst he
  obtain ⟨h0, h1, h2, h3, f0, f1, f2, f3⟩ := four_cells h.1
  have hle := h.2.1
  have hmx := h.2.2
  simp only at hle hmx h0 h1 h2
  have hd : decide ((s.length : Int) - (a : Int) < (k : Int)) = false := by simp; omega
  have hlen : (s.drop a).length = s.length - a := by simp
  obtain ⟨t, ht⟩ : ∃ t, t = s.drop a := ⟨_, rfl⟩
  rw [← ht] at hlen ⊢
  have HT := hid ht
  clear ht
  have HH := hid h
  unfold strV at h0
  clear h
  go_enter Tryd.func34, Tryd.ntmps34
  go_wp2_with fail
  go_quiet (fail)
  revert nq; intro n0
  go_wp2_with fail
  go_loopw [5, 6] (fun n c wr => ∃ i m : Nat, i ≤ k ∧ c = .int .i64 i ∧ n = .int .u64 (beN (t.take i)) ∧ wr = w.drewN m) (fun _ c _ => k - (intOf c).toNat)
  case atStart => exact ⟨0, n0, Nat.zero_le _, rfl, rfl, rfl⟩
  case round =>
    obtain ⟨i, m, hi, rfl, rfl, rfl⟩ := hrel
    by_cases hlt : i < k
    · have hd2 : decide ((i : Int) < (k : Int)) = true := by simp; omega
      have hix : a + i < s.length := by omega
      have hit : i < t.length := by omega
      have hb1 : (0 : Int) ≤ (a : Int) + (i : Int) := by omega
      have hb2 : (a : Int) + (i : Int) < (s.length : Int) := by omega
      have hsz : a + i < ({ data := s.toArray } : ByteArray).size := hix
      obtain ⟨cb, hcb⟩ : ∃ cb, cb = t[i].toNat := ⟨_, rfl⟩
      have hx : (({ data := s.toArray } : ByteArray)[a + i]'hsz).toNat = cb := by
        rw [hcb]
        have e := HT.out
        subst e
        simp
        rfl
      have hcl : cb < 256 := by rw [hcb]; exact t[i].toNat_lt
      have hbe : beN (t.take i) < 72057594037927936 := by
        refine Nat.lt_of_lt_of_le (beN_lt _) ?_
        rw [show (72057594037927936 : Nat) = 256 ^ 7 from rfl]
        exact Nat.pow_le_pow_right (by decide) (by simp; omega)
      have hnx : beN (t.take (i + 1)) = beN (t.take i) * 256 + cb := by rw [take_snoc t i hit, beN_snoc, hcb]
      have hw1 : IntKind.u64.wrap ((beN (t.take i) : Int) * 256) = (beN (t.take i) : Int) * 256 := IntWalk.u64_in _ (by omega)
      generalize hv0 : beN (t.take i) = v0 at hnx hbe hw1
      have HN := hid hnx
      clear hnx hcb hv0
      go_wp2_with fail
      go_quiet (fail)
      revert nq; intro n1
      go_wp2_with fail
      go_roundw
      case rel => exact ⟨i + 1, m + n1, by omega, by go_num, by rw [HN.out]; go_num, rfl⟩
      case measure => simp [intOf]; omega
    · have hd2 : decide ((i : Int) < (k : Int)) = false := by simp; omega
      have hik : i = k := by omega
      subst hik
      generalize hv0 : beN (t.take i) = v0
      have hov : (a : Int) + (i : Int) ≤ 9223372036854775807 := by omega
      have HV := hid hv0
      clear hv0
      go_wp2_with fail
      go_ret
      have hb := HH.out.1
      have e1 := heap_setCell_at (w := w.drewN m) (i := 1) (.int .i64 ((a : Int) + (i : Int))) hb
      refine ⟨congrArg (fun (z : Nat) => Ending.returned (.int .u64 (z : Int))) HV.out.symm, ⟨?_, by show a + i ≤ s.length; omega, hmx⟩, ((Fr.refl w).drewN _).set_only 1 _⟩
      rw [e1]
      simp [strV]

/-- A fixed number, in the document's reader. -/
theorem dFixed (b : Nat) (r : Rd) (k : Nat) (w : World) (h : DRd w b r) (hk : k ≤ 8) :
    Calls Tryd.prog 34 #[.pointer (some ⟨b, 0, none⟩), .int .i64 k] w fun en w' => en = .returned (.int .u64 (rFix k r).1) ∧ DTo w w' b (rFix k r).2 := by
  unfold rFix
  by_cases he : r.e = 0
  · rw [if_pos he]
    by_cases hs : r.s.length - r.at_ < k
    · rw [if_pos hs]; exact dFixed_short b r k w h he hs
    · rw [if_neg hs]; exact dFixed_ok b r k w h he hs hk
  · rw [if_neg he]
    exact (dFixed_bad b r k w h he).mono fun e w' ⟨h1, h2⟩ => ⟨h1, by subst h2; exact ⟨h, Fr.refl _⟩⟩


theorem ext_bytes (s : List UInt8) (a k : Nat) : (⟨s.toArray⟩ : ByteArray).extract a (a + k) = ⟨((s.drop a).take k).toArray⟩ := by
  simp only [ByteArray.extract_mk]
  rw [show a + k - a = k from by omega]

set_option maxHeartbeats 1000000 in
theorem dRaw_nat (b : Nat) (r : Rd) (k : Nat) (w : World) (h : DRd w b r) :
    Calls Tryd.prog 96 #[.pointer (some ⟨b, 0, none⟩), .int .i64 (k : Int)] w fun en w' => en = .returned (strV (rRaw ((k : Nat) : Int) r).1) ∧ DTo w w' b (rRaw ((k : Nat) : Int) r).2 := by
  obtain ⟨s, a, e, to⟩ := r
  obtain ⟨h0, h1, h2, h3, f0, f1, f2, f3⟩ := four_cells h.1
  have hle := h.2.1
  have hmx := h.2.2
  simp only at hle hmx h0 h1 h2
  have HH := hid h
  have HW := hid (fun n => dwrong b _ 8 (w.drewN n) (h.drewN n) a)
  unfold rRaw
  simp only
  rw [Int.toNat_natCast]
  unfold strV at h0 ⊢
  clear h
  by_cases he : e = 0
  · subst he
    rw [if_pos rfl]
    by_cases hs : s.length - a < k
    · rw [if_pos hs]
      have hd : decide ((s.length : Int) - (a : Int) < (k : Int)) = true := by simp; omega
      go_enter Tryd.func96, Tryd.ntmps96
      go_wp2_with fail
      go_quiet (fail)
      go_wp2_with (first | (go_at_call 65; refine (HW.out _).mono ?_; rintro e1 w1 ⟨rfl, hr⟩))
      go_ret
      exact ⟨rfl, hr.drewN⟩
    · rw [if_neg hs]
      have hd : decide ((s.length : Int) - (a : Int) < (k : Int)) = false := by simp; omega
      have hb1 : (a : Int) + (k : Int) ≤ (s.length : Int) := by omega
      have hov : (a : Int) + (k : Int) ≤ 9223372036854775807 := by omega
      go_enter Tryd.func96, Tryd.ntmps96
      go_wp2_with fail
      go_quiet (fail)
      go_wp2_with fail
      revert nq; intro nqa
      go_quiet (fail)
      go_wp2_with fail
      go_ret
      have hb := HH.out.1
      have e1 := heap_setCell_at (w := w.drewN (nqa + nq)) (i := 1) (.int .i64 ((a : Int) + (k : Int))) hb
      refine ⟨?_, ⟨?_, by show a + k ≤ s.length; omega, hmx⟩, ?_⟩
      · first
          | exact congrArg (fun z => Ending.returned (.string z)) (ext_bytes s a k)
          | rfl
      · rw [e1]
        simp [strV]
      · exact ((Fr.refl w).drewN _).set_only 1 _
  · rw [if_neg he]
    have hd : ((e : Int) != 0) = true := by simp; omega
    go_enter Tryd.func96, Tryd.ntmps96
    go_wp2_with fail
    go_ret
    exact ⟨rfl, HH.out, Fr.refl _⟩

set_option maxHeartbeats 1000000 in
theorem dRaw_neg (b : Nat) (r : Rd) (n0 : Int) (hneg : n0 < 0) (w : World) (h : DRd w b r) :
    Calls Tryd.prog 96 #[.pointer (some ⟨b, 0, none⟩), .int .i64 n0] w fun en w' => en = .returned (strV (rRaw ((0 : Nat) : Int) r).1) ∧ DTo w w' b (rRaw ((0 : Nat) : Int) r).2 := by
  obtain ⟨s, a, e, to⟩ := r
  obtain ⟨h0, h1, h2, h3, f0, f1, f2, f3⟩ := four_cells h.1
  have hle := h.2.1
  have hmx := h.2.2
  simp only at hle hmx h0 h1 h2
  have HH := hid h
  have HW := hid (fun n => dwrong b _ 8 (w.drewN n) (h.drewN n) a)
  unfold rRaw
  simp only
  rw [Int.toNat_natCast]
  unfold strV at h0 ⊢
  clear h
  by_cases he : e = 0
  · subst he
    rw [if_pos rfl]
    by_cases hs : s.length - a < 0
    · rw [if_pos hs]
      exact absurd hs (by omega)
    · rw [if_neg hs]
      have hd : decide ((s.length : Int) - (a : Int) < (0 : Int)) = false := by simp; omega
      have hb1 : (a : Int) + (0 : Int) ≤ (s.length : Int) := by omega
      have hov : (a : Int) + (0 : Int) ≤ 9223372036854775807 := by omega
      go_enter Tryd.func96, Tryd.ntmps96
      go_wp2_with fail
      go_quiet (fail)
      go_wp2_with fail
      revert nq; intro nqa
      go_quiet (fail)
      go_wp2_with fail
      go_ret
      have hb := HH.out.1
      have e1 := heap_setCell_at (w := w.drewN (nqa + nq)) (i := 1) (.int .i64 (a : Int)) hb
      refine ⟨?_, ⟨?_, by show a + 0 ≤ s.length; omega, hmx⟩, ?_⟩
      · first
          | exact congrArg (fun z => Ending.returned (.string z)) (ext_bytes s a 0)
          | rfl
      · rw [e1]
        simp [strV]
      · exact ((Fr.refl w).drewN _).set_only 1 _
  · rw [if_neg he]
    have hd : ((e : Int) != 0) = true := by simp; omega
    go_enter Tryd.func96, Tryd.ntmps96
    go_wp2_with fail
    go_ret
    exact ⟨rfl, HH.out, Fr.refl _⟩

theorem dRaw (b : Nat) (r : Rd) (n : Int) (w : World) (h : DRd w b r) :
    Calls Tryd.prog 96 #[.pointer (some ⟨b, 0, none⟩), .int .i64 n] w fun en w' => en = .returned (strV (rRaw n r).1) ∧ DTo w w' b (rRaw n r).2 := by
  by_cases hneg : n < 0
  · rw [rRaw_neg n r hneg]; exact dRaw_neg b r n hneg w h
  · obtain ⟨k, rfl⟩ := Int.eq_ofNat_of_zero_le (by omega : 0 ≤ n)
    exact dRaw_nat b r k w h



theorem dsh_sum (nn m i : Nat) (hnn : nn < 128 ^ i) (hi : i ≤ 9) (h9 : i = 9 → m ≤ 1) : nn + m % 128 * 128 ^ i < 18446744073709551616 := by
  by_cases h : i = 9
  · have := h9 h
    subst h
    rw [sh9] at *
    have : m % 128 ≤ 1 := by omega
    have : m % 128 * 9223372036854775808 ≤ 1 * 9223372036854775808 := Nat.mul_le_mul_right _ this
    omega
  · have h1 := sh_lt nn m i hnn
    have h2 : 128 ^ (i + 1) ≤ 128 ^ 9 := Nat.pow_le_pow_right (by decide) (by omega)
    rw [sh9] at h2
    omega

/-- What Short leaves. -/
def DShort (s : List UInt8) (a to most : Nat) (w : World) (b : Nat) (en : Ending) (w' : World) : Prop :=
  en = .returned (.int .u64 (rSh most ⟨s, a, 0, to⟩).1) ∧ DTo w w' b (rSh most ⟨s, a, 0, to⟩).2
theorem dshort_inl (s : List UInt8) (a to most k : Nat) (w w' : World) (b m : Nat) (hs : shGo (s.drop a) 0 0 = .inl k) (h : DTo (w.drewN m) w' b ⟨s, a, k, a⟩) : DShort s a to most w b (.returned (.int .u64 0)) w' := by
  unfold DShort rSh rShort
  simp only [if_true, hs]
  exact ⟨by first | rfl | trivial, h.drewN⟩
theorem dshort_big (s : List UInt8) (a to most n k : Nat) (w w' : World) (b m : Nat) (hs : shGo (s.drop a) 0 0 = .inr (n, k)) (hm : most < n) (h : DTo (w.drewN m) w' b ⟨s, a, 40, a⟩) : DShort s a to most w b (.returned (.int .u64 0)) w' := by
  unfold DShort rSh rShort
  simp only [if_true, hs, if_pos hm]
  exact ⟨by first | rfl | trivial, h.drewN⟩
theorem dshort_ok (s : List UInt8) (a to most n k : Nat) (w w' : World) (b m : Nat) (z : Int) (hz : z = (n : Int)) (hs : shGo (s.drop a) 0 0 = .inr (n, k)) (hm : ¬ most < n) (h : DTo (w.drewN m) w' b ⟨s, a + k, 0, to⟩) : DShort s a to most w b (.returned (.int .u64 z)) w' := by
  subst hz
  unfold DShort rSh rShort
  simp only [if_true, hs, if_neg hm]
  exact ⟨by first | rfl | trivial, h.drewN⟩

set_option maxHeartbeats 4000000 in
set_option maxRecDepth 100000 in
theorem dShort_ok (b : Nat) (s : List UInt8) (a to most : Nat) (w : World) (h : DRd w b ⟨s, a, 0, to⟩) (hsm : s.length ≤ 9000000000000000000) :
    Calls Tryd.prog 35 #[.pointer (some ⟨b, 0, none⟩), .int .u64 most] w fun en w' => DShort s a to most w b en w' := by
  obtain ⟨h0, h1, h2, h3, f0, f1, f2, f3⟩ := four_cells h.1
  have hle := h.2.1
  have hmx := h.2.2
  simp only at hle hmx h0 h1 h2
  have HH := hid h
  have W8 : Hid (∀ n, Calls Tryd.prog 65 #[.pointer (some ⟨b, 0, none⟩), .int .i64 8, .int .i64 a] (w.drewN n) fun en w' => en = .returned (.tuple #[]) ∧ DTo (w.drewN n) w' b ⟨s, a, 8, a⟩) := hid (fun n => dwrong b _ 8 (w.drewN n) (h.drewN n) a)
  have W4 : Hid (∀ n, Calls Tryd.prog 65 #[.pointer (some ⟨b, 0, none⟩), .int .i64 4, .int .i64 a] (w.drewN n) fun en w' => en = .returned (.tuple #[]) ∧ DTo (w.drewN n) w' b ⟨s, a, 4, a⟩) := hid (fun n => dwrong b _ 4 (w.drewN n) (h.drewN n) a)
  have W40 : Hid (∀ n, Calls Tryd.prog 65 #[.pointer (some ⟨b, 0, none⟩), .int .i64 40, .int .i64 a] (w.drewN n) fun en w' => en = .returned (.tuple #[]) ∧ DTo (w.drewN n) w' b ⟨s, a, 40, a⟩) := hid (fun n => dwrong b _ 40 (w.drewN n) (h.drewN n) a)
  unfold strV at h0
  clear h
  go_enter Tryd.func35, Tryd.ntmps35
  go_wp2_with fail
  go_loopw [5, 6, 7] (fun n tm c wr => ∃ i nn T m : Nat, c = .int .i64 i ∧ n = .int .u64 nn ∧ tm = .int .u64 T ∧ wr = w.drewN m ∧ T = 128 ^ i ∧ i ≤ 9 ∧ nn < 128 ^ i ∧ shGo (s.drop (a + i)) i nn = shGo (s.drop a) 0 0) (fun _ _ c _ => 10 - (intOf c).toNat)
  case atStart => exact ⟨0, 0, 1, 0, rfl, rfl, rfl, rfl, rfl, by omega, by simp, rfl⟩
  case round =>
    obtain ⟨i, nn, T, m0, rfl, rfl, rfl, rfl, hT, hi, hnn, hgo⟩ := hrel
    have HNN := hid hnn
    have HTT := hid hT
    have hov : (a : Int) + (i : Int) ≤ 9000000000000000009 := by omega
    clear hnn hT
    by_cases hend : s.length ≤ a + i
    · have hsh : shGo (s.drop a) 0 0 = .inl 8 := by rw [← hgo, List.drop_of_length_le hend]; rfl
      have HSH := hid hsh
      have hd : decide ((s.length : Int) ≤ (a : Int) + (i : Int)) = true := by simp; omega
      clear hgo hsh
      go_wp2_with fail
      go_quiet (fail)
      go_wp2_with (first | (go_at_call 65; (with_reducible refine (W8.out _).mono ?_); rintro e1 w1 ⟨rfl, hr⟩))
      go_ret
      exact dshort_inl s a to most 8 w w1 b _ HSH.out hr
    · have hlt : a + i < s.length := by omega
      have hd : decide ((s.length : Int) ≤ (a : Int) + (i : Int)) = false := by simp; omega
      rw [drop_cons s (a + i) hlt] at hgo
      obtain ⟨c, hc⟩ : ∃ c, c = s[a + i] := ⟨_, rfl⟩
      rw [← hc] at hgo
      obtain ⟨m, hm⟩ : ∃ m, m = c.toNat := ⟨_, rfl⟩
      have hmb : m < 256 := by rw [hm]; exact c.toNat_lt
      have hsz : a + i < ({ data := s.toArray } : ByteArray).size := hlt
      have hx : (({ data := s.toArray } : ByteArray)[a + i]'hsz).toNat = m := by rw [hm, hc]; rfl
      have hb1 : (0 : Int) ≤ (a : Int) + (i : Int) := by omega
      have hb2 : (a : Int) + (i : Int) < (s.length : Int) := by omega
      rw [shGo, ← hm] at hgo
      have HGO := hid hgo
      clear hgo hc hm hend
      by_cases hbad : (i = 9 ∧ 1 < m) ∨ (0 < i ∧ m = 0)
      · have hsh : shGo (s.drop a) 0 0 = .inl 4 := by rw [← HGO.out, if_pos hbad]
        have HSH := hid hsh
        clear hsh
        have hfacts : (((i : Int) == 9) = true ∧ decide ((1 : Int) < (m : Int)) = true ∧ 0 < i ∧ ((m : Int) == 0) = false) ∨
            (((i : Int) == 9) = true ∧ decide ((1 : Int) < (m : Int)) = false ∧ 0 < i ∧ ((m : Int) == 0) = true) ∨
            (((i : Int) == 9) = false ∧ 0 < i ∧ ((m : Int) == 0) = true) := by
          simp; omega
        clear hbad
        rcases hfacts with ⟨g1, g2, g3, g4⟩ | ⟨g1, g2, g3, g4⟩ | ⟨g1, g3, g4⟩
        all_goals
          go_wp2_with fail
          go_quiet (fail)
          go_wp2_with fail
          revert nq; intro n1
          go_quiet (fail)
          go_wp2_with (first | (go_at_call 65; (with_reducible refine (W4.out _).mono ?_); rintro e1 w1 ⟨rfl, hr⟩))
          go_ret
          exact dshort_inl s a to most 4 w w1 b _ HSH.out hr
      · have hgo2 := HGO.out
        rw [if_neg hbad] at hgo2
        have h9 : i = 9 → m ≤ 1 := by omega
        have hsum := dsh_sum nn m i HNN.out hi h9
        obtain ⟨y, hy⟩ : ∃ y, y = m % 128 * 128 ^ i := ⟨_, rfl⟩
        rw [← hy] at hsum hgo2
        have hyI : (T : Int) * ((m : Int) % 128) = (y : Int) := by rw [hy, HTT.out, Nat.mul_comm]; push_cast; rfl
        have HY := hid hy
        have hg : (((i : Int) == 9) = true ∧ decide ((1 : Int) < (m : Int)) = false ∧ 0 < i ∧ ((m : Int) == 0) = false) ∨
            (((i : Int) == 9) = false ∧ 0 < i ∧ ((m : Int) == 0) = false) ∨
            (((i : Int) == 9) = false ∧ ¬ 0 < i) := by
          simp; omega
        clear hy hbad
        by_cases hlast : m < 128
        · rw [if_pos hlast] at hgo2
          have HSH := hid hgo2.symm
          have g5 : decide ((m : Int) < 128) = true := by simp; omega
          clear hgo2
          by_cases hbig : most < nn + y
          · have g6 : decide ((most : Int) < (nn : Int) + (y : Int)) = true := by simp; omega
            rcases hg with ⟨g1, g2, g3, g4⟩ | ⟨g1, g3, g4⟩ | ⟨g1, g3⟩
            all_goals
              go_wp2_with fail
              go_quiet (fail)
              go_wp2_with fail
              revert nq; intro n1
              go_quiet (fail)
              go_wp2_with (first | (go_at_call 65; (with_reducible refine (W40.out _).mono ?_); rintro e1 w1 ⟨rfl, hr⟩))
              go_ret
              exact dshort_big s a to most (nn + y) (i + 1) w w1 b _ HSH.out hbig hr
          · have g6 : decide ((most : Int) < (nn : Int) + (y : Int)) = false := by simp; omega
            rcases hg with ⟨g1, g2, g3, g4⟩ | ⟨g1, g3, g4⟩ | ⟨g1, g3⟩
            all_goals
              go_wp2_with fail
              go_quiet (fail)
              go_wp2_with fail
              revert nq; intro n1
              go_quiet (fail)
              go_wp2_with fail
              go_ret
              have hb := HH.out.1
              have e1 := fun N => heap_setCell_at (w := w.drewN N) (i := 1) (.int .i64 ((a : Int) + (i : Int) + 1)) hb
              refine dshort_ok s a to most (nn + y) (i + 1) w _ b (m0 + n1 + nq) ((nn : Int) + (y : Int)) (by push_cast; rfl) HSH.out hbig ⟨⟨?_, by show a + (i + 1) ≤ s.length; omega, hmx⟩, (Fr.refl _).set_only 1 _⟩
              rw [e1]
              simp [strV]
              omega
        · rw [if_neg hlast] at hgo2
          have HSH := hid hgo2
          have g5 : decide ((m : Int) < 128) = false := by simp; omega
          have hi8 : i ≤ 8 := by omega
          have hTb : (T : Int) * 128 ≤ 9223372036854775808 := by
            have h2 : 128 ^ (i + 1) ≤ 128 ^ 9 := Nat.pow_le_pow_right (by decide) (by omega)
            rw [sh9, Nat.pow_succ, ← HTT.out] at h2
            omega
          have hlt2 : nn + y < 128 ^ (i + 1) := by rw [HY.out]; exact sh_lt nn m i HNN.out
          have HLT := hid hlt2
          clear hgo2 hlt2 h9
          rcases hg with ⟨g1, g2, g3, g4⟩ | ⟨g1, g3, g4⟩ | ⟨g1, g3⟩
          · simp at g1; omega
          all_goals
            go_wp2_with fail
            go_quiet (fail)
            go_wp2_with fail
            revert nq; intro n1
            go_quiet (fail)
            go_wp2_with fail
            go_roundw
            case rel => exact ⟨i + 1, nn + y, T * 128, m0 + n1 + nq, by go_num, by go_num, by go_num, rfl, by rw [Nat.pow_succ, HTT.out], by omega, HLT.out, HSH.out⟩
            case measure => simp [intOf]; omega


set_option maxHeartbeats 400000 in
theorem dShort_bad (b : Nat) (r : Rd) (most : Nat) (w : World) (h : DRd w b r) (he : r.e ≠ 0) :
    Calls Tryd.prog 35 #[.pointer (some ⟨b, 0, none⟩), .int .u64 most] w fun en w' => en = .returned (.int .u64 0) ∧ w = w' := by
  obtain ⟨h0, h1, h2, h3, f0, f1, f2, f3⟩ := four_cells h.1
  have c1 : ((r.e : Int) != 0) = true := by simpa using he
  clear h he
  go_enter Tryd.func35, Tryd.ntmps35
  go_wp2_with fail
  go_ret
  exact ⟨rfl, rfl⟩
theorem dShort (b : Nat) (r : Rd) (most : Nat) (w : World) (h : DRd w b r) (hsm : r.s.length ≤ 9000000000000000000) :
    Calls Tryd.prog 35 #[.pointer (some ⟨b, 0, none⟩), .int .u64 most] w fun en w' => en = .returned (.int .u64 (rSh most r).1) ∧ DTo w w' b (rSh most r).2 := by
  obtain ⟨s, a, e, to⟩ := r
  by_cases he : e = 0
  · subst he
    exact dShort_ok b s a to most w h hsm
  · have e2 : rSh most ⟨s, a, e, to⟩ = (0, ⟨s, a, e, to⟩) := by unfold rSh; rw [if_neg he]
    rw [e2]
    exact (dShort_bad b _ most w h he).mono fun _ _ ⟨h1, h2⟩ => ⟨h1, by subst h2; exact ⟨h, Fr.refl _⟩⟩
theorem ddrd_cells {w : World} {b : Nat} {r : Rd} (h : DRd w b r) :
    w.cell? ⟨b, 0, none⟩ = some (.string ⟨r.s.toArray⟩) ∧ w.cell? ⟨b, 1, none⟩ = some (.int .i64 r.at_) ∧ w.cell? ⟨b, 2, none⟩ = some (.int .i64 r.e) ∧ w.frozen? ⟨b, 1, none⟩ = false := by
  obtain ⟨h0, h1, h2, h3, f0, f1, f2, f3⟩ := four_cells h.1
  exact ⟨h0, h1, h2, f1⟩

set_option maxRecDepth 100000 in
set_option maxHeartbeats 1000000 in
theorem dText_nat (b : Nat) (r : Rd) (m : Nat) (hm : m ≤ 9223372036854775807) (w : World) (h : DRd w b r) (hsm : r.s.length ≤ 9000000000000000000) (he : r.e = 0) :
    Calls Tryd.prog 68 #[.pointer (some ⟨b, 0, none⟩), .int .i64 (m : Int)] w fun en w' => en = .returned (strV (rTx ((m : Nat) : Int) r).1) ∧ DTo w w' b (rTx ((m : Nat) : Int) r).2 := by
  have H1 := hid (dShort b r m w h hsm)
  have hs := rSh_s m r
  obtain ⟨hb1, hb2, hb3⟩ := rSh_ok m r h.2.1 he
  have hmax := h.2.2
  have hat := h.2.1
  obtain ⟨h0, h1, h2, h3, _⟩ := four_cells h.1
  unfold rTx
  rw [if_pos he, Int.toNat_natCast]
  generalize (rSh m r).1 = n at *
  generalize (rSh m r).2 = r1 at *
  obtain ⟨s1, a1, e1, t1⟩ := r1
  simp only at hs hb2 hb3 ⊢
  subst hs
  obtain ⟨s, a, e0, t0⟩ := r
  simp only at *
  subst he
  unfold strV at *
  have HN := hid hb1
  clear h hb1
  by_cases hx : e1 = 0
  · subst hx
    by_cases hsh : s.length - a1 < n
    · have hd : decide ((s.length : Int) - a1 < n) = true := by simp; omega
      rw [if_pos rfl, if_pos hsh]
      go_enter Tryd.func68, Tryd.ntmps68
      go_wp2_with (first | (go_at_call 35; refine H1.out.mono ?_; rintro e w1 ⟨rfl, hr⟩; obtain ⟨j0, j1, j2, j3⟩ := ddrd_cells hr.1; simp only at j0 j1 j2))
      go_quiet (fail)
      have hb := hr.1.1
      have hset := heap_setCell_at (w := w1.drewN nq) (i := 1) (.int .i64 (a : Int)) hb
      have HW : Hid (Calls Tryd.prog 65 #[.pointer (some ⟨b, 0, none⟩), .int .i64 8, .int .i64 a] ((w1.drewN nq).setCell ⟨b, 1, none⟩ (.int .i64 (a : Int))) fun en w' => en = .returned (.tuple #[]) ∧ DTo ((w1.drewN nq).setCell ⟨b, 1, none⟩ (.int .i64 (a : Int))) w' b ⟨s, a, 8, a⟩) := hid (dwrong b ⟨s, a, 0, t1⟩ 8 _ ⟨by rw [hset]; simp [strV], hat, hmax⟩ a)
      go_wp2_with (first | (go_at_call 65; refine HW.out.mono ?_; rintro e w2 ⟨rfl, hr2⟩))
      go_ret
      exact ⟨rfl, hr2.1, (hr.2.trans (((Fr.refl _).drewN _).set_only 1 _)).trans hr2.2⟩
    · have hd : decide ((s.length : Int) - a1 < n) = false := by simp; omega
      have hn2 : n ≤ 9223372036854775807 := by omega
      rw [if_pos rfl, if_neg hsh]
      have HX := hid (fun w (h : DRd w b ⟨s, a1, 0, t1⟩) => dRaw b ⟨s, a1, 0, t1⟩ n w h)
      generalize (rRaw (n : Int) ⟨s, a1, 0, t1⟩).1 = l at HX ⊢
      unfold strV at *
      go_enter Tryd.func68, Tryd.ntmps68
      go_wp2_with (first | (go_at_call 35; refine H1.out.mono ?_; rintro e w1 ⟨rfl, hr⟩; obtain ⟨j0, j1, j2, j3⟩ := ddrd_cells hr.1; simp only at j0 j1 j2))
      go_quiet (fail)
      go_wp2_with (first | (go_at_call 96; refine (HX.out (w1.drewN nq) hr.1).mono ?_; rintro e w2 ⟨rfl, hr2⟩))
      go_ret
      exact ⟨rfl, hr2.1, hr.2.trans (((Fr.refl _).drewN _).trans hr2.2)⟩
  · have hd : ((e1 : Int) != 0) = true := by simpa using hx
    rw [if_neg hx]
    go_enter Tryd.func68, Tryd.ntmps68
    go_wp2_with (first | (go_at_call 35; refine H1.out.mono ?_; rintro e w1 ⟨rfl, hr⟩; obtain ⟨j0, j1, j2, j3⟩ := ddrd_cells hr.1; simp only at j0 j1 j2))
    go_ret
    exact ⟨rfl, hr⟩

set_option maxRecDepth 100000 in
set_option maxHeartbeats 1000000 in
theorem dText_neg (b : Nat) (r : Rd) (n0 : Int) (hneg : n0 < 0) (w : World) (h : DRd w b r) (hsm : r.s.length ≤ 9000000000000000000) (he : r.e = 0) :
    Calls Tryd.prog 68 #[.pointer (some ⟨b, 0, none⟩), .int .i64 n0] w fun en w' => en = .returned (strV (rTx ((0 : Nat) : Int) r).1) ∧ DTo w w' b (rTx ((0 : Nat) : Int) r).2 := by
  have H1 : Hid (Calls Tryd.prog 35 #[.pointer (some ⟨b, 0, none⟩), .int .u64 0] w fun en w' => en = .returned (.int .u64 (rSh 0 r).1) ∧ DTo w w' b (rSh 0 r).2) := hid (dShort b r 0 w h hsm)
  have hs := rSh_s 0 r
  obtain ⟨hb1, hb2, hb3⟩ := rSh_ok 0 r h.2.1 he
  have hmax := h.2.2
  have hat := h.2.1
  obtain ⟨h0, h1, h2, h3, _⟩ := four_cells h.1
  unfold rTx
  rw [if_pos he, Int.toNat_natCast]
  generalize (rSh 0 r).1 = n at *
  generalize (rSh 0 r).2 = r1 at *
  obtain ⟨s1, a1, e1, t1⟩ := r1
  simp only at hs hb2 hb3 ⊢
  subst hs
  obtain ⟨s, a, e0, t0⟩ := r
  simp only at *
  subst he
  unfold strV at *
  have HN := hid hb1
  clear h hb1
  by_cases hx : e1 = 0
  · subst hx
    by_cases hsh : s.length - a1 < n
    · have hd : decide ((s.length : Int) - a1 < n) = true := by simp; omega
      rw [if_pos rfl, if_pos hsh]
      go_enter Tryd.func68, Tryd.ntmps68
      go_wp2_with (first | (go_at_call 35; refine H1.out.mono ?_; rintro e w1 ⟨rfl, hr⟩; obtain ⟨j0, j1, j2, j3⟩ := ddrd_cells hr.1; simp only at j0 j1 j2))
      go_quiet (fail)
      have hb := hr.1.1
      have hset := heap_setCell_at (w := w1.drewN nq) (i := 1) (.int .i64 (a : Int)) hb
      have HW : Hid (Calls Tryd.prog 65 #[.pointer (some ⟨b, 0, none⟩), .int .i64 8, .int .i64 a] ((w1.drewN nq).setCell ⟨b, 1, none⟩ (.int .i64 (a : Int))) fun en w' => en = .returned (.tuple #[]) ∧ DTo ((w1.drewN nq).setCell ⟨b, 1, none⟩ (.int .i64 (a : Int))) w' b ⟨s, a, 8, a⟩) := hid (dwrong b ⟨s, a, 0, t1⟩ 8 _ ⟨by rw [hset]; simp [strV], hat, hmax⟩ a)
      go_wp2_with (first | (go_at_call 65; refine HW.out.mono ?_; rintro e w2 ⟨rfl, hr2⟩))
      go_ret
      exact ⟨rfl, hr2.1, (hr.2.trans (((Fr.refl _).drewN _).set_only 1 _)).trans hr2.2⟩
    · have hd : decide ((s.length : Int) - a1 < n) = false := by simp; omega
      have hn2 : n ≤ 9223372036854775807 := by omega
      rw [if_pos rfl, if_neg hsh]
      have HX := hid (fun w (h : DRd w b ⟨s, a1, 0, t1⟩) => dRaw b ⟨s, a1, 0, t1⟩ n w h)
      generalize (rRaw (n : Int) ⟨s, a1, 0, t1⟩).1 = l at HX ⊢
      unfold strV at *
      go_enter Tryd.func68, Tryd.ntmps68
      go_wp2_with (first | (go_at_call 35; refine H1.out.mono ?_; rintro e w1 ⟨rfl, hr⟩; obtain ⟨j0, j1, j2, j3⟩ := ddrd_cells hr.1; simp only at j0 j1 j2))
      go_quiet (fail)
      go_wp2_with (first | (go_at_call 96; refine (HX.out (w1.drewN nq) hr.1).mono ?_; rintro e w2 ⟨rfl, hr2⟩))
      go_ret
      exact ⟨rfl, hr2.1, hr.2.trans (((Fr.refl _).drewN _).trans hr2.2)⟩
  · have hd : ((e1 : Int) != 0) = true := by simpa using hx
    rw [if_neg hx]
    go_enter Tryd.func68, Tryd.ntmps68
    go_wp2_with (first | (go_at_call 35; refine H1.out.mono ?_; rintro e w1 ⟨rfl, hr⟩; obtain ⟨j0, j1, j2, j3⟩ := ddrd_cells hr.1; simp only at j0 j1 j2))
    go_ret
    exact ⟨rfl, hr⟩

set_option maxHeartbeats 1000000 in
theorem dText_bad (b : Nat) (r : Rd) (most : Int) (w : World) (h : DRd w b r) (hm : most ≤ 9223372036854775807) (he : r.e ≠ 0) :
    Calls Tryd.prog 68 #[.pointer (some ⟨b, 0, none⟩), .int .i64 most] w fun en w' => en = .returned (strV []) ∧ w = w' := by
  obtain ⟨h0, h1, h2, h3, f0, f1, f2, f3⟩ := four_cells h.1
  have c1 : ((r.e : Int) != 0) = true := by simpa using he
  have H := hid (fun n => dShort_bad b r n w h he)
  unfold strV
  clear h he
  by_cases hneg : most < 0
  · go_enter Tryd.func68, Tryd.ntmps68
    go_wp2_with (first | (go_at_call 35; refine (H.out 0).mono ?_; rintro e w1 ⟨rfl, rfl⟩))
    go_ret
    exact ⟨rfl, rfl⟩
  · obtain ⟨k, rfl⟩ := Int.eq_ofNat_of_zero_le (by omega : 0 ≤ most)
    go_enter Tryd.func68, Tryd.ntmps68
    go_wp2_with (first | (go_at_call 35; refine (H.out k).mono ?_; rintro e w1 ⟨rfl, rfl⟩))
    go_ret
    exact ⟨rfl, rfl⟩
theorem rTx_neg (n : Int) (r : Rd) (h : n < 0) : rTx n r = rTx ((0 : Nat) : Int) r := by
  unfold rTx; rw [show n.toNat = 0 from by omega]; rfl
theorem dText (b : Nat) (r : Rd) (most : Int) (w : World) (h : DRd w b r) (hsm : r.s.length ≤ 9000000000000000000) (hm : most ≤ 9223372036854775807) :
    Calls Tryd.prog 68 #[.pointer (some ⟨b, 0, none⟩), .int .i64 most] w fun en w' => en = .returned (strV (rTx most r).1) ∧ DTo w w' b (rTx most r).2 := by
  by_cases he : r.e = 0
  · by_cases hneg : most < 0
    · rw [rTx_neg most r hneg]; exact dText_neg b r most hneg w h hsm he
    · obtain ⟨k, rfl⟩ := Int.eq_ofNat_of_zero_le (by omega : 0 ≤ most)
      exact dText_nat b r k (by omega) w h hsm he
  · have e2 : rTx most r = ([], r) := by unfold rTx; rw [if_neg he]
    rw [e2]
    exact (dText_bad b r most w h hm he).mono fun _ _ ⟨h1, h2⟩ => ⟨h1, by subst h2; exact ⟨h, Fr.refl _⟩⟩

end Go.Proofs.YtnmfmedoocnofaaDoor
