/-
  BatchBack: the walk. No statement of the seat is proved here.
-/
import Derived.Test.YtnmfmedoocnofaaDoorBCut
namespace Go.Proofs.YtnmfmedoocnofaaDoor
open Go.RowKit

theorem enc_dec {s : List UInt8} (h : (decL s).2 = 0) : encL (decL s).1 = (s, 0) := by
  obtain ⟨h1, h2⟩ := dec_back h
  rw [encL_ok h1, h2]

set_option maxHeartbeats 16000000 in
set_option maxRecDepth 100000 in
theorem bback_any (l : List (EvP × Ev)) (q : Option Addr) (cap : Nat) (t : List UInt8) (w : World) (hl : LsAt w q l) (hkt : KT w) (hn : l.length ≤ 17592186044416) :
    Calls Tryd.prog 4 #[.slice q l.length cap, strV t] w fun en w' => en = .returned (.bool true) ∧ Fr No w w' := by
  have WK := hid (fun w1 (h : Fr No w w1) => works8_any w1 (hkt.fr h))
  have HE := hid (fun w1 (h : Fr No w w1) => heavy_any l q cap w1 (hl.fr h) (by omega))
  unfold HeavyPost at HE
  by_cases htl : t.length ≤ 5000
  · have dl : decide ((5000 : Int) < (t.length : Int)) = false := by simp; omega
    have EN := hid (fun w1 (h : Fr No w w1) (hs : l.length ≤ 4000) => bencode_any l q cap w1 (hl.fr h) (hkt.fr h) (by omega))
    have MA := hid (fun w1 (h : Fr No w w1) (hs : l.length ≤ 4000) => bmay_any l q cap w1 (hl.fr h) (hkt.fr h) (by omega))
    have DP := hid (fun (hm : mayL (l.map Prod.snd) = true) w1 (h : Fr No w w1) => (by
      have hsh := payB_short hm
      have hd := dec_pay hm []
      rw [if_pos rfl, List.append_nil] at hd
      have h0 := bdecode_any (payB (l.map Prod.snd)) w1 (hkt.fr h) (by omega)
      rw [hd] at h0
      exact h0 : Calls Tryd.prog 12 #[strV (payB (l.map Prod.snd))] w1 fun en w' => ∃ (L : List (EvP × Ev)) (q2 : Option Addr) (c2 : Nat), en = .returned (.tuple #[.slice q2 L.length c2, .int .i64 0]) ∧ L.map Prod.snd = l.map Prod.snd ∧ LsRow w1.heap.size w' (.slice q2 L.length c2) L ∧ Fr No w1 w'))
    have SM := hid (fun (L : List (EvP × Ev)) (q2 : Option Addr) (c2 : Nat) w1 (h : Fr No w w1) (hs : l.length ≤ 4000) (hA : LsAt w1 q2 L) (he : L.map Prod.snd = l.map Prod.snd) => (by
      have hlen : L.length = l.length := by have := congrArg List.length he; simpa using this
      have := same8_any L l q2 q c2 cap w1 hA (hl.fr h) (by omega)
      rw [decide_eq_true he] at this
      exact this : Calls Tryd.prog 14 #[.slice q2 L.length c2, .slice q l.length cap] w1 fun en w' => en = .returned (.bool true) ∧ Fr No w1 w'))
    have DT := hid (fun w1 (h : Fr No w w1) => bdecode_any t w1 (hkt.fr h) (by omega))
    have ET := hid (fun (h0 : (decL t).2 = 0) (L : List (EvP × Ev)) (q2 : Option Addr) (c2 : Nat) (B : Nat) w1 (h : Fr No w w1) (hm : L.map Prod.snd = (decL t).1) (hr : LsRow B w1 (.slice q2 L.length c2) L) => (by
      have hk := dec_ok h0
      have hlen : L.length ≤ 40 := by have := hk.1; rw [← hm, List.length_map] at this; exact this
      have := bencode_any L q2 c2 w1 (ls_may hr (fun e he => hk.2 e (by rw [← hm]; exact he))) (hkt.fr h) (by omega)
      rw [hm, enc_dec h0] at this
      exact this : Calls Tryd.prog 17 #[.slice q2 L.length c2] w1 fun en w' => en = .returned (.tuple #[strV t, .int .i64 0]) ∧ Fr No w1 w'))
    clear htl hl hkt
    unfold strV at *
    go_enter Tryd.func4, Tryd.ntmps4
    go_upto_region 3 with (first
      | (go_at_call 9; (with_reducible refine (WK.out _ (Fr.refl w)).mono ?_); rintro e0 w0 ⟨rfl, hf0⟩)
      | (go_at_call 16; (with_reducible refine (HE.out _ hf0).mono ?_); intro e1 w1 h1; obtain ⟨hb, rfl, hlt, hf1⟩ := h1; rcases hb with _ | _)
      | (go_at_call 9; (with_reducible refine (WK.out _ (hf0.trans hf1)).mono ?_); rintro e2 w2 ⟨rfl, hf2⟩)
      | fail)
    all_goals first | (go_ret; exact ⟨rfl, (hf0.trans hf1).trans hf2⟩) | skip
    have F1 := hf0.trans hf1
    have hl4 : l.length ≤ 4000 := by simpa using hlt
    have E1 := hid (EN.out _ F1 hl4)
    have M1 := hid (fun w2 (h : Fr No w1 w2) => MA.out _ (F1.trans h) hl4)
    have SM1 := hid (fun L q2 c2 w2 (h : Fr No w w2) => SM.out L q2 c2 w2 h hl4)
    have HL4 := hid hl4
    clear hlt hl4 HE hf0 hf1 WK EN MA SM
    obtain ⟨k, hk⟩ : ∃ k, k = (encL (l.map Prod.snd)).2 := ⟨_, rfl⟩
    obtain ⟨T, hT⟩ : ∃ T, T = (encL (l.map Prod.snd)).1 := ⟨_, rfl⟩
    have HK := hid hk
    have HT := hid hT
    rw [← hk, ← hT] at E1
    clear hk hT
    have HKM : Hid (((k : Int) == 0) = mayL (l.map Prod.snd)) := hid (by
      rw [HK.out]
      rcases hm : mayL (l.map Prod.snd) with _ | _
      · have := encL_no hm
        simpa using this
      · rw [encL_ok hm]; rfl)
    obtain ⟨MB, hMB⟩ : ∃ b, b = mayL (l.map Prod.snd) := ⟨_, rfl⟩
    rw [← hMB] at HKM M1
    have HMB := hid hMB
    have tk := HKM.out
    have tb : (MB != MB) = false := by cases MB <;> rfl
    clear hMB
    go_upto_if 36 with (first
      | (go_at_call 17; (with_reducible refine E1.out.mono ?_); rintro e3 w3 ⟨rfl, hf3⟩)
      | (go_at_call 18; (with_reducible refine (M1.out _ hf3).mono ?_); rintro e4 w4 ⟨rfl, hf4⟩)
      | fail)
    have F4 := F1.trans (hf3.trans hf4)
    clear hf3 hf4 M1 E1
    go_cut [7, 8] from 37 (fun a b w' => Fr No w w')
    case first =>
      rcases hm : mayL (l.map Prod.snd) with _ | _
      · obtain rfl : MB = false := by rw [HMB.out, hm]
        go_wp2_with fail
        go_meet
        exact F4
      · obtain rfl : MB = true := by rw [HMB.out, hm]
        have hTe : T = payB (l.map Prod.snd) := by rw [HT.out, encL_ok hm]
        have hsh := payB_short hm
        have D1 := hid (DP.out hm _ F4)
        have hmay : ∀ e, e ∈ l.map Prod.snd → mayS e = true := fun e he => ((mayL_parts hm).2.2 e he).2
        have HMAY := hid hmay
        rw [← hTe] at D1 hsh
        have hTs : decide ((4096 : Int) < (T.length : Int)) = false := by simp; omega
        clear hm hTe hmay
        go_wp2_with (first
          | (go_at_call 12; (with_reducible refine D1.out.mono ?_); rintro e5 w5 ⟨L, q2, c2, rfl, hm5, hrow5, hf5⟩; have S5 := hid (SM1.out L q2 c2 w5 (F4.trans hf5) (ls_may hrow5 (fun e he => HMAY.out e (by rw [← hm5]; exact he))) hm5); clear hm5 hrow5)
          | (go_at_call 14; (with_reducible refine S5.out.mono ?_); rintro e6 w6 ⟨rfl, hf6⟩)
          | fail)
        go_meet
        exact (F4.trans hf5).trans hf6
    case rest =>
      rename World => w7
      have F7 : Fr No w w7 := hcut
      have D7 := hid (DT.out _ F7)
      clear hcut F4 DT DP SM1 HKM tk HMB HT HK
      by_cases h0 : (decL t).2 = 0
      · have D0 : Hid (Calls Tryd.prog 12 #[.string ⟨t.toArray⟩] w7 fun en w' => ∃ (L : List (EvP × Ev)) (q2 : Option Addr) (c2 : Nat), en = .returned (.tuple #[.slice q2 L.length c2, .int .i64 0]) ∧ L.map Prod.snd = (decL t).1 ∧ LsRow w7.heap.size w' (.slice q2 L.length c2) L ∧ Fr No w7 w') := hid (by have := D7.out; rw [h0] at this; exact this)
        have E7 := hid (ET.out h0)
        clear D7 h0 ET
        go_wp2_with (first
          | (go_at_call 12; (with_reducible refine D0.out.mono ?_); rintro e8 w8 ⟨L, q2, c2, rfl, hm8, hrow8, hf8⟩; have E8 := hid (E7.out L q2 c2 _ w8 (F7.trans hf8) hm8 hrow8); clear hm8 hrow8)
          | (go_at_call 17; (with_reducible refine E8.out.mono ?_); rintro e9 w9 ⟨rfl, hf9⟩)
          | fail)
        go_ret
        exact ⟨rfl, (F7.trans hf8).trans hf9⟩
      · have hk0 : (((decL t).2 : Int) != 0) = true := by simpa using h0
        have D0 : Hid (Calls Tryd.prog 12 #[.string ⟨t.toArray⟩] w7 fun en w' => ∃ (q2 : Option Addr) (c2 : Nat), en = .returned (.tuple #[.slice q2 0 c2, .int .i64 (decL t).2]) ∧ Fr No w7 w') := hid (D7.out.mono fun en w' ⟨L, q2, c2, h1, h2, _, h4⟩ => by
          rw [dec_err h0] at h2
          obtain rfl : L = [] := List.map_eq_nil_iff.1 h2
          exact ⟨q2, c2, h1, h4⟩)
        generalize (decL t).2 = kt at D0 hk0
        clear D7 h0 ET
        go_wp2_with (first
          | (go_at_call 12; (with_reducible refine D0.out.mono ?_); rintro e8 w8 ⟨q2, c2, rfl, hf8⟩)
          | fail)
        go_ret
        exact ⟨rfl, F7.trans hf8⟩
  · have dl : decide ((5000 : Int) < (t.length : Int)) = true := by simp; omega
    clear htl hl hkt
    unfold strV at *
    go_enter Tryd.func4, Tryd.ntmps4
    go_wp2_with (first
      | (go_at_call 9; (with_reducible refine (WK.out _ (Fr.refl w)).mono ?_); rintro e0 w0 ⟨rfl, hf0⟩)
      | (go_at_call 16; (with_reducible refine (HE.out _ hf0).mono ?_); intro e1 w1 h1; obtain ⟨hb, rfl, hlt, hf1⟩ := h1; rcases hb with _ | _)
      | (go_at_call 9; (with_reducible refine (WK.out _ (hf0.trans hf1)).mono ?_); rintro e2 w2 ⟨rfl, hf2⟩)
      | fail)
    all_goals (go_ret; exact ⟨rfl, (hf0.trans hf1).trans hf2⟩)
end Go.Proofs.YtnmfmedoocnofaaDoor
