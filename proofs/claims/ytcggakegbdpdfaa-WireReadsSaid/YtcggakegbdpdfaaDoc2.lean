/-
  The document's reader: Raw, Short.
-/
import Derived.Test.YtcggakegbdpdfaaDoc
namespace Go.Proofs.Ytcggakegbdpdfaa
open Go.RowKit

theorem ext_bytes (s : List UInt8) (a k : Nat) : (⟨s.toArray⟩ : ByteArray).extract a (a + k) = ⟨((s.drop a).take k).toArray⟩ := by
  simp only [ByteArray.extract_mk]
  rw [show a + k - a = k from by omega]

set_option maxHeartbeats 1000000 in
theorem dRaw_nat (b : Nat) (r : Rd) (k : Nat) (w : World) (h : DRd w b r) :
    Calls Try.prog 53 #[.pointer (some ⟨b, 0, none⟩), .int .i64 (k : Int)] w fun en w' => en = .returned (strV (rRaw ((k : Nat) : Int) r).1) ∧ DTo w w' b (rRaw ((k : Nat) : Int) r).2 := by
  obtain ⟨s, a, e, to⟩ := r
  obtain ⟨h0, h1, h2, h3, f0, f1, f2, f3⟩ := four_cells h.1
  have hle := h.2.1
  have hmx := h.2.2
  simp only at hle hmx h0 h1 h2
  have HH := hid h
  have HW := hid (fun n => dwrong b _ 8 (w.drewN n) (h.drewN n) a)
  unfold rRaw
  simp only
  rw [Int.toNat_natCast]
  unfold strV at h0 ⊢
  clear h
  by_cases he : e = 0
  · subst he
    rw [if_pos rfl]
    by_cases hs : s.length - a < k
    · rw [if_pos hs]
      have hd : decide ((s.length : Int) - (a : Int) < (k : Int)) = true := by simp; omega
      go_enter Try.func53, Try.ntmps53
      go_wp2_with fail
      go_quiet (fail)
      go_wp2_with (first | (go_at_call 64; refine (HW.out _).mono ?_; rintro e1 w1 ⟨rfl, hr⟩))
      go_ret
      exact ⟨rfl, hr.drewN⟩
    · rw [if_neg hs]
      have hd : decide ((s.length : Int) - (a : Int) < (k : Int)) = false := by simp; omega
      have hb1 : (a : Int) + (k : Int) ≤ (s.length : Int) := by omega
      have hov : (a : Int) + (k : Int) ≤ 9223372036854775807 := by omega
      go_enter Try.func53, Try.ntmps53
      go_wp2_with fail
      go_quiet (fail)
      go_wp2_with fail
      revert nq; intro nqa
      go_quiet (fail)
      go_wp2_with fail
      go_ret
      have hb := HH.out.1
      have e1 := heap_setCell_at (w := w.drewN (nqa + nq)) (i := 1) (.int .i64 ((a : Int) + (k : Int))) hb
      refine ⟨?_, ⟨?_, by show a + k ≤ s.length; omega, hmx⟩, ?_⟩
      · first
          | exact congrArg (fun z => Ending.returned (.string z)) (ext_bytes s a k)
          | rfl
      · rw [e1]
        simp [strV]
      · exact ((Fr.refl w).drewN _).set_only 1 _
  · rw [if_neg he]
    have hd : ((e : Int) != 0) = true := by simp; omega
    go_enter Try.func53, Try.ntmps53
    go_wp2_with fail
    go_ret
    exact ⟨rfl, HH.out, Fr.refl _⟩

set_option maxHeartbeats 1000000 in
theorem dRaw_neg (b : Nat) (r : Rd) (n0 : Int) (hneg : n0 < 0) (w : World) (h : DRd w b r) :
    Calls Try.prog 53 #[.pointer (some ⟨b, 0, none⟩), .int .i64 n0] w fun en w' => en = .returned (strV (rRaw ((0 : Nat) : Int) r).1) ∧ DTo w w' b (rRaw ((0 : Nat) : Int) r).2 := by
  obtain ⟨s, a, e, to⟩ := r
  obtain ⟨h0, h1, h2, h3, f0, f1, f2, f3⟩ := four_cells h.1
  have hle := h.2.1
  have hmx := h.2.2
  simp only at hle hmx h0 h1 h2
  have HH := hid h
  have HW := hid (fun n => dwrong b _ 8 (w.drewN n) (h.drewN n) a)
  unfold rRaw
  simp only
  rw [Int.toNat_natCast]
  unfold strV at h0 ⊢
  clear h
  by_cases he : e = 0
  · subst he
    rw [if_pos rfl]
    by_cases hs : s.length - a < 0
    · rw [if_pos hs]
      exact absurd hs (by omega)
    · rw [if_neg hs]
      have hd : decide ((s.length : Int) - (a : Int) < (0 : Int)) = false := by simp; omega
      have hb1 : (a : Int) + (0 : Int) ≤ (s.length : Int) := by omega
      have hov : (a : Int) + (0 : Int) ≤ 9223372036854775807 := by omega
      go_enter Try.func53, Try.ntmps53
      go_wp2_with fail
      go_quiet (fail)
      go_wp2_with fail
      revert nq; intro nqa
      go_quiet (fail)
      go_wp2_with fail
      go_ret
      have hb := HH.out.1
      have e1 := heap_setCell_at (w := w.drewN (nqa + nq)) (i := 1) (.int .i64 (a : Int)) hb
      refine ⟨?_, ⟨?_, by show a + 0 ≤ s.length; omega, hmx⟩, ?_⟩
      · first
          | exact congrArg (fun z => Ending.returned (.string z)) (ext_bytes s a 0)
          | rfl
      · rw [e1]
        simp [strV]
      · exact ((Fr.refl w).drewN _).set_only 1 _
  · rw [if_neg he]
    have hd : ((e : Int) != 0) = true := by simp; omega
    go_enter Try.func53, Try.ntmps53
    go_wp2_with fail
    go_ret
    exact ⟨rfl, HH.out, Fr.refl _⟩

theorem dRaw (b : Nat) (r : Rd) (n : Int) (w : World) (h : DRd w b r) :
    Calls Try.prog 53 #[.pointer (some ⟨b, 0, none⟩), .int .i64 n] w fun en w' => en = .returned (strV (rRaw n r).1) ∧ DTo w w' b (rRaw n r).2 := by
  by_cases hneg : n < 0
  · rw [rRaw_neg n r hneg]; exact dRaw_neg b r n hneg w h
  · obtain ⟨k, rfl⟩ := Int.eq_ofNat_of_zero_le (by omega : 0 ≤ n)
    exact dRaw_nat b r k w h

end Go.Proofs.Ytcggakegbdpdfaa
