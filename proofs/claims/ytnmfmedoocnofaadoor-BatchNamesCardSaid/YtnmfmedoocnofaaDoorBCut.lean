/-
  BatchCut: the walk. No statement of the seat is proved here.
-/
import Derived.Test.YtnmfmedoocnofaaDoorBWorks
namespace Go.Proofs.YtnmfmedoocnofaaDoor
open Go.RowKit

theorem cwrap_u64 (n : Int) : ∃ A : Nat, IntKind.u64.wrap n = (A : Int) ∧ A ≤ 18446744073709551615 := by
  have h : IntKind.u64.wrap n = n % 18446744073709551616 := by simp [IntKind.wrap, IntKind.signed, IntKind.bits]
  refine ⟨(n % 18446744073709551616).toNat, ?_, by omega⟩
  rw [h]; omega
theorem ccut_bytes (l : List UInt8) (n : Nat) : ((⟨l.toArray⟩ : ByteArray).extract 0 n) = ⟨(l.take n).toArray⟩ := by
  apply ByteArray.ext
  simp
theorem encL_ok {l : List Ev} (h : mayL l = true) : encL l = (payB l, 0) := by
  unfold encL
  rw [if_neg (by have := (mayL_parts h).2.1; omega), if_pos h]
theorem encL_no {l : List Ev} (h : mayL l = false) : (encL l).2 ≠ 0 := by
  unfold encL
  split
  · decide
  · rw [h]; simp

set_option maxHeartbeats 16000000 in
set_option maxRecDepth 100000 in
theorem bcut_any (l : List (EvP × Ev)) (q : Option Addr) (cap : Nat) (cut : Int) (t : List UInt8) (w : World) (hl : LsAt w q l) (hkt : KT w) (hn : l.length ≤ 17592186044416) :
    Calls Tryd.prog 6 #[.slice q l.length cap, .int .i64 cut, strV t] w fun en w' => en = .returned (.bool true) ∧ Fr No w w' := by
  have WK := hid (fun w1 (h : Fr No w w1) => works8_any w1 (hkt.fr h))
  have HE := hid (fun w1 (h : Fr No w w1) => heavy_any l q cap w1 (hl.fr h) (by omega))
  have EN := hid (fun w1 (h : Fr No w w1) (hs : l.length ≤ 4000) => bencode_any l q cap w1 (hl.fr h) (hkt.fr h) (by omega))
  unfold HeavyPost at HE
  by_cases htl : t.length ≤ 2000
  · have dl : decide ((2000 : Int) < (t.length : Int)) = false := by simp; omega
    have RFA := hid (fun (hm : mayL (l.map Prod.snd) = true) (k : Nat) w1 (hk : k < (payB (l.map Prod.snd)).length) (h : Fr No w w1) => (by
      have hl := payB_short hm
      have := refused8_any ((payB (l.map Prod.snd)).take k) 8 w1 (hkt.fr h) (by rw [List.length_take]; omega) (dec_pay_cut hm k hk) (by decide)
      unfold strV at this
      rw [← ccut_bytes] at this
      exact this : Calls Tryd.prog 22 #[.string ((⟨(payB (l.map Prod.snd)).toArray⟩ : ByteArray).extract 0 k), .int .i64 8] w1 fun en w' => en = .returned (.bool true) ∧ Fr No w1 w'))
    have RFB := hid (fun (hm : mayL (l.map Prod.snd) = true) (hne : t ≠ []) w1 (h : Fr No w w1) => (by
      have hl := payB_short hm
      have hd := dec_pay hm t
      rw [if_neg hne] at hd
      have := refused8_any (payB (l.map Prod.snd) ++ t) 4 w1 (hkt.fr h) (by simp; omega) hd (by decide)
      unfold strV at this
      rw [← cat_two] at this
      exact this : Calls Tryd.prog 22 #[.string ((⟨(payB (l.map Prod.snd)).toArray⟩ : ByteArray) ++ ⟨t.toArray⟩), .int .i64 4] w1 fun en w' => en = .returned (.bool true) ∧ Fr No w1 w'))
    have HTL := hid htl
    clear htl hl hkt
    unfold strV at *
    go_enter Tryd.func6, Tryd.ntmps6
    go_upto_region 3 with (first
      | (go_at_call 9; (with_reducible refine (WK.out _ (Fr.refl w)).mono ?_); rintro e0 w0 ⟨rfl, hf0⟩)
      | (go_at_call 16; (with_reducible refine (HE.out _ hf0).mono ?_); intro e1 w1 h1; obtain ⟨hb, rfl, hlt, hf1⟩ := h1; rcases hb with _ | _)
      | (go_at_call 9; (with_reducible refine (WK.out _ (hf0.trans hf1)).mono ?_); rintro e2 w2 ⟨rfl, hf2⟩)
      | fail)
    all_goals first | (go_ret; exact ⟨rfl, (hf0.trans hf1).trans hf2⟩) | skip
    have F1 := hf0.trans hf1
    have hl4 : l.length ≤ 4000 := by simpa using hlt
    have E1 := hid (EN.out _ F1 hl4)
    clear hlt hl4 HE hf0 hf1 WK EN
    rcases hm : mayL (l.map Prod.snd) with _ | _
    · have hz := encL_no hm
      have t2 : (((encL (l.map Prod.snd)).2 : Int) != 0) = true := by simpa using hz
      clear hm RFA RFB hz
      generalize encL (l.map Prod.snd) = R at E1 t2
      go_wp2_with (first
        | (go_at_call 17; (with_reducible refine E1.out.mono ?_); rintro e4 w4 ⟨rfl, hf4⟩)
        | fail)
      go_ret
      exact ⟨rfl, F1.trans hf4⟩
    · rw [encL_ok hm] at E1
      have E2 : Hid (Calls Tryd.prog 17 #[.slice q l.length cap] w1 fun en w' => en = .returned (.tuple #[.string ⟨(payB (l.map Prod.snd)).toArray⟩, .int .i64 0]) ∧ Fr No w1 w') := E1
      have RA := hid (RFA.out hm)
      have RB := hid (RFB.out hm)
      have hl := payB_short hm
      have hN : 1 ≤ (payB (l.map Prod.snd)).length ∧ (payB (l.map Prod.snd)).length ≤ 3660 := ⟨by unfold payB; simp, hl⟩
      clear hm hl RFA RFB E1
      generalize payB (l.map Prod.snd) = T at E2 RA RB hN
      obtain ⟨A, hA, hA2⟩ := cwrap_u64 cut
      have hL : IntKind.u64.wrap (T.length : Int) = (T.length : Int) := wrapU64 _ (by omega)
      have hR : (A : Int).tmod (T.length : Int) = ((A % T.length : Nat) : Int) := rfl
      have hR2 : (A : Int) % (T.length : Int) = ((A % T.length : Nat) : Int) := by omega
      have hkl : A % T.length < T.length := Nat.mod_lt _ (by omega)
      have hK : IntKind.i64.wrap ((A % T.length : Nat) : Int) = ((A % T.length : Nat) : Int) := IntWalk.i64_in _ (by omega)
      have hne0 : (T.length : Int) ≠ 0 := by omega
      have hz0 : ((T.length : Int) == 0) = false := by rw [beq_eq_false_iff_ne]; exact hne0
      have RA1 := hid (fun w1 h => RA.out (A % T.length) w1 hkl h)
      generalize A % T.length = k at hR hR2 hkl hK RA1
      have s1 : (0 : Int) ≤ (k : Int) := by omega
      have s2 : (k : Int) ≤ (T.length : Int) := by omega
      have hT3 : T.length ≤ 3660 := hN.2
      have hT4 := HTL.out
      clear hkl RA hN hA2
      by_cases hte : t = []
      · subst hte
        go_wp2_with (first
          | (go_at_call 17; (with_reducible refine E2.out.mono ?_); rintro e4 w4 ⟨rfl, hf4⟩)
          | (go_at_call 22; (with_reducible refine (RA1.out _ (F1.trans hf4)).mono ?_); rintro e5 w5 ⟨rfl, hf5⟩)
          | fail)
        go_ret
        exact ⟨rfl, (F1.trans hf4).trans hf5⟩
      · have z1 : (t == []) = false := by rw [beq_eq_false_iff_ne]; exact hte
        have z2 : (t != []) = true := by rw [bne, z1]; rfl
        have RB1 := hid (RB.out hte)
        clear RB
        go_wp2_with (first
          | (go_at_call 17; (with_reducible refine E2.out.mono ?_); rintro e4 w4 ⟨rfl, hf4⟩)
          | (go_at_call 22; (with_reducible refine (RA1.out _ (F1.trans hf4)).mono ?_); rintro e5 w5 ⟨rfl, hf5⟩)
          | (go_at_call 22; (with_reducible refine (RB1.out _ ((F1.trans hf4).trans hf5)).mono ?_); rintro e6 w6 ⟨rfl, hf6⟩)
          | fail)
        go_ret
        exact ⟨rfl, ((F1.trans hf4).trans hf5).trans hf6⟩
  · have dl : decide ((2000 : Int) < (t.length : Int)) = true := by simp; omega
    clear htl hl hkt EN
    unfold strV at *
    go_enter Tryd.func6, Tryd.ntmps6
    go_wp2_with (first
      | (go_at_call 9; (with_reducible refine (WK.out _ (Fr.refl w)).mono ?_); rintro e0 w0 ⟨rfl, hf0⟩)
      | (go_at_call 16; (with_reducible refine (HE.out _ hf0).mono ?_); intro e1 w1 h1; obtain ⟨hb, rfl, hlt, hf1⟩ := h1; rcases hb with _ | _)
      | (go_at_call 9; (with_reducible refine (WK.out _ (hf0.trans hf1)).mono ?_); rintro e2 w2 ⟨rfl, hf2⟩)
      | fail)
    all_goals (go_ret; exact ⟨rfl, (hf0.trans hf1).trans hf2⟩)
end Go.Proofs.YtnmfmedoocnofaaDoor
