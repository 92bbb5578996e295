/-
  WireShort: the plain law and the walk.
-/
import Derived.Test.YtcggakegbdpdfaaWorks
namespace Go.Proofs.Ytcggakegbdpdfaa
open Go.RowKit

theorem byteN_inj {a b : Nat} (ha : a < 256) (hb : b < 256) (h : byteN a = byteN b) : a = b := by
  have := congrArg UInt8.toNat h
  rw [byteN_toNat, byteN_toNat] at this
  omega
theorem shortF_mono (k : Nat) : ∀ a b, a ≤ b → (shortF k a).length ≤ (shortF k b).length := by
  induction k with
  | zero => intro a b _; simp [shortF]
  | succ k ih =>
    intro a b h
    by_cases ha : a < 128
    · rw [shortF, if_pos ha]; exact shortF_pos k b
    · rw [shortF, if_neg ha, shortF, if_neg (by omega)]
      have := ih (a / 128) (b / 128) (Nat.div_le_div_right h)
      simpa using this
theorem shortF_prefix (k : Nat) : ∀ a b, a < 128 ^ k → b < 128 ^ k → shortF k a <+: shortF k b → a = b := by
  induction k with
  | zero => intro a b ha hb _; simp at ha hb; omega
  | succ k ih =>
    intro a b ha hb h
    rw [Nat.pow_succ] at ha hb
    by_cases h1 : a < 128 <;> by_cases h2 : b < 128
    · rw [shortF, if_pos h1, shortF, if_pos h2] at h
      simp only [List.cons_prefix_cons] at h
      exact byteN_inj (by omega) (by omega) h.1
    · rw [shortF, if_pos h1, shortF, if_neg h2] at h
      simp only [List.cons_prefix_cons] at h
      have := byteN_inj (by omega) (by omega) h.1
      omega
    · rw [shortF, if_neg h1, shortF, if_pos h2] at h
      simp only [List.cons_prefix_cons] at h
      have := byteN_inj (by omega) (by omega) h.1
      omega
    · rw [shortF, if_neg h1, shortF, if_neg h2] at h
      simp only [List.cons_prefix_cons] at h
      have e1 := byteN_inj (by omega) (by omega) h.1
      have e2 := ih (a / 128) (b / 128) (by omega) (by omega) h.2
      omega
theorem shortB_prefix {a b : Nat} (ha : a ≤ 18446744073709551615) (hb : b ≤ 18446744073709551615) (h : shortB a <+: shortB b) : a = b :=
  shortF_prefix 10 a b (Nat.lt_of_le_of_lt ha (by decide)) (Nat.lt_of_le_of_lt hb (by decide)) h

theorem cut_text (l : List UInt8) (n : Nat) : ((⟨l.toArray⟩ : ByteArray).extract 0 n).toList = l.take n := by
  simp only [ByteArray.extract_mk]; simp

set_option maxHeartbeats 1000000 in
set_option maxRecDepth 10000 in
theorem wireShort_any (a b : Nat) (ha : a ≤ 18446744073709551615) (hb : b ≤ 18446744073709551615) (w : World) :
    Calls Try.prog 3 #[.int .u64 a, .int .u64 b] w fun e w' => e = .returned (.bool true) ∧ Fr No w w' := by
  have K := hid (fun w1 => works_any w1)
  have S1 := hid (fun w1 => short02_any a w1 ha)
  have S2 := hid (fun w1 => short02_any b w1 hb)
  have Z := hid (fun w1 => size_any a w1 ha)
  have p1 := shortB_pos a
  have p2 := shortB_length_le a
  have p3 := shortB_length_le b
  have p4 : (shortB a).length ≤ (shortB b).length ∨ ¬ ((a : Int) ≤ b) := by
    by_cases h : a ≤ b
    · exact .inl (shortF_mono 10 a b h)
    · exact .inr (by omega)
  have p5 : (shortB a).length ≤ (shortB b).length → ((shortB b).take (shortB a).length = shortB a ↔ (a : Int) = b) := by
    intro _
    constructor
    · intro h
      exact congrArg Nat.cast (shortB_prefix ha hb (List.prefix_iff_eq_take.2 h.symm))
    · intro h
      have : a = b := by exact_mod_cast h
      subst this; simp
  have p6 : ¬ (shortB a).length ≤ (shortB b).length → ¬ ((a : Int) = b) := by
    intro h e
    have : a = b := by exact_mod_cast e
    subst this; exact h (Nat.le_refl _)
  generalize shortB a = s at *
  generalize shortB b = t at *
  unfold strV at *
  have q1 : decide ((s.length : Int) < 1) = false := by simp; omega
  have q2 : decide ((10 : Int) < (s.length : Int)) = false := by simp; omega
  have q3 : ((s.length : Int) != (s.length : Int)) = false := by simp
  clear ha hb p1 p2
  go_enter Try.func3, Try.ntmps3
  go_wp2_with (first
    | (go_at_call 9; refine (K.out _).mono ?_; rintro e1 w1 ⟨rfl, hf1⟩)
    | (go_at_call 10; (with_reducible refine (S1.out _).mono ?_); rintro e2 w2 ⟨rfl, hf2⟩)
    | (go_at_call 10; (with_reducible refine (S2.out _).mono ?_); rintro e3 w3 ⟨rfl, hf3⟩)
    | (go_at_call 11; refine (Z.out _).mono ?_; rintro e4 w4 ⟨rfl, rfl⟩))
  all_goals rename_i hl
  all_goals go_ret
  all_goals refine ⟨?_, hf1.trans (hf2.trans hf3)⟩
  all_goals first
    | (have := p6 (by assumption); simp [this]; done)
    | (have h5 := p5 (by assumption)
       rw [cut_text]
       by_cases e : (a : Int) = b
       · rw [h5.2 e, e]; simp
       · have := mt h5.1 e
         rw [beq_eq_false_iff_ne.2 this, beq_eq_false_iff_ne.2 e]; rfl)

end Go.Proofs.Ytcggakegbdpdfaa
