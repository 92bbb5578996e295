/-
  CodecTells: the walk; what Decode tells may be read. No statement of the seat is proved here.
-/
import Derived.Test.YtbnedlfejbfeoaaDoorCWorks
import Derived.Test.YtbnedlfejbfeoaaDoorCodecBackP
import Derived.Test.YtbnedlfejbfeoaaDoorCRef
import Derived.Test.YtbnedlfejbfeoaaDoorCHelp
import Derived.Test.YtbnedlfejbfeoaaDoorOwn
namespace Go.Proofs.YtbnedlfejbfeoaaDoor
open Go.RowKit

theorem decT_err {s : List UInt8} (h : (decT s).2 ≠ 0) : (decT s).1 = zeroE := by
  unfold decT at h ⊢
  split
  · rename_i he
    rw [if_pos he] at h
    unfold decG at h ⊢
    split
    · rename_i hg
      rw [if_pos hg] at h
      split
      · rfl
      · rename_i hl
        rw [if_neg hl] at h
        exact absurd hg h
    · rfl
  · rfl
theorem decT_ok {s : List UInt8} (h : (decT s).2 = 0) : mayS (decT s).1 = true ∧ encB (decT s).1 = s := by
  rcases s with _ | ⟨c, l⟩
  · have : (decT []).2 = 8 := rfl
    omega
  · unfold decT at h ⊢
    rw [rFix1_cons] at h ⊢
    simp only [if_true] at h ⊢
    unfold decG at h ⊢
    by_cases hg : (getT c.toNat ⟨c :: l, 1, 0, 0⟩).1.2 = 0
    · rw [if_pos hg] at h ⊢
      by_cases hl : (getT c.toNat ⟨c :: l, 1, 0, 0⟩).2.at_ < (c :: l).length
      · rw [if_pos hl] at h; simp at h
      · rw [if_neg hl]
        obtain ⟨k1, k2, k3, _, k5⟩ := getT_back (v := c.toNat) (r := ⟨c :: l, 1, 0, 0⟩) rfl (by simp) hg
        refine ⟨k1, ?_⟩
        simp only at k3 k5
        rw [List.drop_of_length_le (by omega : (c :: l).length ≤ (getT c.toNat ⟨c :: l, 1, 0, 0⟩).2.at_), List.append_nil] at k3
        unfold encB
        rw [k2, ← k3, byteN_self]
        rfl
    · rw [if_neg hg] at h
      simp only at h
      exact absurd h hg
theorem dec_at {B : Nat} {w : World} {s : EvP} {t : List UInt8} (h : EvNew B w s (decT t).1) : EvAt w s (decT t).1 := by
  by_cases hz : (decT t).2 = 0
  · have hm := (decT_ok hz).1
    exact h.may hm (may_kind hm)
  · rw [decT_err hz] at h ⊢
    exact zeroAt w s

set_option maxHeartbeats 16000000 in
set_option maxRecDepth 100000 in
theorem tells_any (s : EvP) (e : Ev) (t : List UInt8) (w : World) (he : EvAt w s e) (hkt : KT w) :
    Calls Tryd.prog 4 #[evV s e, strV t] w fun en w' => en = .returned (.bool true) ∧ Fr No w w' := by
  have WK := hid (fun w1 (h : Fr No w w1) => works_any w1 (hkt.fr h))
  have WE := hid (fun w1 (h : Fr No w w1) => weight_any s e w1 (he.fr h))
  have OE := hid (fun (hL : Light e) w1 (h : Fr No w w1) => own5_any s e w1 (he.fr h) (by have := hL.1; omega) (by have := hL.2.1; omega))
  have EN := hid (fun (B : Nat) (p : EvP) w1 (hn : EvNew B w1 p e) (h : Fr No w w1) => encode_any p e w1 (hn.at_ he) (hkt.fr h))
  have SZ := hid (fun (B : Nat) (p : EvP) w1 (hn : EvNew B w1 p e) (h : Fr No w w1) => size_any p e w1 (hn.at_ he) (hkt.fr h))
  have RE := hid (fun w1 (h : Fr No w w1) => refEncode_any s e w1 (he.fr h))
  have SM := hid (fun (B : Nat) (p : EvP) w1 (hn : EvNew B w1 p e) (h : Fr No w w1) => (by
    have := sameEvent6_any p s e e w1 (hn.at_ he) (he.fr h)
    rwa [sameS_self6] at this : Calls Tryd.prog 23 #[evV p e, evV s e] w1 fun en w' => en = .returned (.bool true) ∧ Fr No w1 w'))
  generalize (if mayS e then encB e else []) = RB at EN SZ RE
  generalize (if mayS e then (0 : Int) else 4) = RK at EN RE
  have HF0 : Fr No w (w.alloc (.cells #[.int .u8 e.v, .int .u8 e.kind, .slice s.qn e.nums.length s.cn, .slice s.qt e.texts.length s.ct] 26)) := (Fr.refl w).alloc _
  have g0 := Go.heap_alloc_new w (.cells #[.int .u8 e.v, .int .u8 e.kind, .slice s.qn e.nums.length s.cn, .slice s.qt e.texts.length s.ct] 26)
  have HG0 := hid g0
  by_cases htl : t.length ≤ 2000
  · have DE := hid (fun w1 (h : Fr No w w1) => decode_any t w1 (by omega) (hkt.fr h))
    have RD := hid (fun w1 => rdecode_any t w1 (by omega))
    have AT := hid (fun (B : Nat) (w1 : World) (p : EvP) (h : EvNew B w1 p (decT t).1) => dec_at h)
    generalize decT t = D at DE RD AT
    have SM2 := hid (fun (B : Nat) (p q : EvP) w1 (hn : EvNew B w1 p D.1) (hm : EvNew B w1 q D.1) => (by
      have := sameEvent6_any p q D.1 D.1 w1 (AT.out B w1 p hn) (AT.out B w1 q hm)
      rwa [sameS_self6] at this : Calls Tryd.prog 23 #[evV p D.1, evV q D.1] w1 fun en w' => en = .returned (.bool true) ∧ Fr No w1 w'))
    have SP := hid (fun (B : Nat) (p : EvP) w1 (hn : EvNew B w1 p D.1) => spoil_any p D.1 w1 hn.has (AT.out B w1 p hn))
    have dl : decide ((2000 : Int) < (t.length : Int)) = false := by simp; omega
    clear htl he hkt g0
    unfold DecPost OwnPost at *
    unfold evV strV at *
    go_enter Tryd.func4, Tryd.ntmps4
    go_upto_region 3 with (first
      | (go_at_call 20; (with_reducible refine (WE.out _ HF0).mono ?_); intro e1 w1 h1; obtain ⟨n, rfl, hn1, hn2, hlt, hf1⟩ := h1; rcases Nat.lt_or_ge n 2000 with hn | hn; (have dn : decide ((2000 : Int) ≤ (n : Int)) = false := (by simp; omega)); rotate_left; (have dn : decide ((2000 : Int) ≤ (n : Int)) = true := (by simp; omega)); rotate_left)
      | (go_at_call 10; (with_reducible refine (WK.out _ (HF0.trans hf1)).mono ?_); rintro e2 w2 ⟨rfl, hf2⟩)
      | fail)
    all_goals first | (go_ret; exact ⟨rfl, (HF0.trans hf1).trans hf2⟩) | skip
    have HLI := hid (hlt hn)
    have F1 := HF0.trans hf1
    obtain ⟨c0, c1, c2, c3, _, _, _, _⟩ := Go.Proofs.YtbnedlfejbfeoaaDoor.cells4 (hf1.heap0 HG0.out)
    have C1 := hid (fun w5 (h : Fr No w1 w5) => (⟨h.cell0 c0, h.cell0 c1, h.cell0 c2, h.cell0 c3⟩ : _ ∧ _ ∧ _ ∧ _))
    clear hlt hn hn1 hn2 WE hf1
    go_upto_region 4 with (first
      | (go_at_call 21; (with_reducible refine (OE.out HLI.out _ F1).mono ?_); rintro e3 w3 ⟨s3, rfl, hn3, hf3⟩)
      | fail)
    have F3 := F1.trans hf3
    have F3a : Fr No w3 (w3.alloc (.cells #[.int .u8 e.v, .int .u8 e.kind, .slice s3.qn e.nums.length s3.cn, .slice s3.qt e.texts.length s3.ct] 26)) := (Fr.refl w3).alloc _
    have HN3 := hid (fun w5 (h : Fr No w3 w5) => hn3.fr h)
    have g3 := Go.heap_alloc_new w3 (.cells #[.int .u8 e.v, .int .u8 e.kind, .slice s3.qn e.nums.length s3.cn, .slice s3.qt e.texts.length s3.ct] 26)
    have HG3 := hid g3
    obtain ⟨d0, d1, d2, d3⟩ := C1.out _ hf3
    have z3 : w.heap.size < w3.heap.size := World.block_lt_of_cell? w3 _ d0
    have E3 := hid (EN.out _ s3 _ (hn3.fr F3a) (F3.trans F3a))
    clear c0 c1 c2 c3 OE EN hn3 g3
    go_upto_region 5 with (first
      | (go_at_call 13; (with_reducible refine E3.out.mono ?_); rintro e4 w4 ⟨rfl, hf4⟩)
      | fail)
    have h34 := F3a.trans hf4
    have F4 := F3.trans h34
    clear d0 d1 d2 d3
    obtain ⟨d0, d1, d2, d3⟩ := C1.out _ (hf3.trans h34)
    go_upto_region 6 with (first
      | (go_at_call 22; (with_reducible refine (RE.out _ F4).mono ?_); rintro e5 w5 ⟨rfl, hf5⟩)
      | fail)
    have h35 := h34.trans hf5
    have F5 := F4.trans hf5
    clear d0 d1 d2 d3
    obtain ⟨d0, d1, d2, d3⟩ := C1.out _ (hf3.trans h35)
    obtain ⟨k0, k1, k2, k3, _, _, _, _⟩ := Go.Proofs.YtbnedlfejbfeoaaDoor.cells4 ((hf4.trans hf5).heap0 HG3.out)
    have SZ5 := hid (SZ.out _ s3 w5 (HN3.out _ h35) F5)
    go_upto_region 8 with (first
      | (go_at_call 15; (with_reducible refine SZ5.out.mono ?_); rintro e6 w6 ⟨rfl, hf6⟩; replace d0 := hf6.cell0 d0; replace d1 := hf6.cell0 d1; replace d2 := hf6.cell0 d2; replace d3 := hf6.cell0 d3; replace k0 := hf6.cell0 k0; replace k1 := hf6.cell0 k1; replace k2 := hf6.cell0 k2; replace k3 := hf6.cell0 k3)
      | (go_at_call 23; (with_reducible refine (SM.out _ s3 _ (HN3.out _ (h35.trans hf6)) (F5.trans hf6)).mono ?_); rintro e7 w7 ⟨rfl, hf7⟩)
      | fail)
    have F7 := (F5.trans hf6).trans hf7
    clear d0 d1 d2 d3 k0 k1 k2 k3 SZ5 SZ SM RE F5 F4 F3 F3a F1 h34 h35 hf3 hf4 hf5 hf6 hf7 HG3 HN3 C1 HG0 HF0 HLI E3
    go_wp2_with fail
    go_loopg [10] 2 (fun k i wr => ∃ m : Nat, m ≤ 2 ∧ 2 ≤ m + k ∧ i = .int .i64 m ∧ Fr No w wr)
    case atStart => exact ⟨0, by omega, by omega, rfl, F7⟩
    case round =>
      clear F7
      obtain ⟨m, hm, hk, rfl, hf⟩ := hrel
      by_cases hm2 : m < 2
      · have d2 : decide ((m : Int) < 2) = true := by simp; omega
        have D1 := hid (DE.out _ hf)
        have i4 : (m : Int) + 1 ≤ 100 := by omega
        go_upto_region 13 with (first
          | (go_at_call 24; (with_reducible refine D1.out.mono ?_); rintro e8 w8 ⟨p, rfl, hn8, hf8⟩)
          | (go_at_call 25; (with_reducible refine (RD.out _).mono ?_); rintro e9 w9 ⟨q, rfl, hn9, hf9⟩)
          | fail)
        have A8 : Fr No w8 (w8.alloc (.cells #[.int .u8 D.1.v, .int .u8 D.1.kind, .slice p.qn D.1.nums.length p.cn, .slice p.qt D.1.texts.length p.ct] 26)) := (Fr.refl w8).alloc _
        have g8 := Go.heap_alloc_new w8 (.cells #[.int .u8 D.1.v, .int .u8 D.1.kind, .slice p.qn D.1.nums.length p.cn, .slice p.qt D.1.texts.length p.ct] 26)
        obtain ⟨k0, k1, k2, k3, _, _, _, _⟩ := Go.Proofs.YtbnedlfejbfeoaaDoor.cells4 (hf9.heap0 g8)
        have z8 : w8.heap.size < w9.heap.size := World.block_lt_of_cell? w9 _ k0
        have A9 : Fr No w9 (w9.alloc (.cells #[.int .u8 D.1.v, .int .u8 D.1.kind, .slice q.qn D.1.nums.length q.cn, .slice q.qt D.1.texts.length q.ct] 26)) := (Fr.refl w9).alloc _
        have H89 := hid ((A8.trans hf9).trans A9)
        have S9 := hid (SM2.out wr.heap.size p q _ (hn8.fr H89.out) ((hn9.mono (Nat.le_trans hf8.size A8.size)).fr A9))
        have KA := hid (fun w' (h : Fr No (w9.alloc (.cells #[.int .u8 D.1.v, .int .u8 D.1.kind, .slice q.qn D.1.nums.length q.cn, .slice q.qt D.1.texts.length q.ct] 26)) w') => (⟨h.cell0 (A9.cell0 k0), h.cell0 (A9.cell0 k1), h.cell0 (A9.cell0 k2), h.cell0 (A9.cell0 k3)⟩ : _ ∧ _ ∧ _ ∧ _))
        have HN8 := hid hn8
        clear g8 hn8 hn9
        go_wp2_with (first
          | (go_at_call 23; (with_reducible refine S9.out.mono ?_); rintro eA wA ⟨rfl, hfA⟩; clear k0 k1 k2 k3; obtain ⟨k0, k1, k2, k3⟩ := KA.out _ hfA; have SPA := hid (SP.out wr.heap.size p wA (HN8.out.fr (H89.out.trans hfA))))
          | (go_at_call 26; (with_reducible refine SPA.out.mono ?_); rintro eB wB ⟨rfl, hfB⟩; have HFB := hid (((hf8.trans (H89.out.trans hfA)).trans' hfB (fun i hi hx => absurd ((HN8.out.inB hx).1) (by omega)) : Fr No wr wB)))
          | fail)
        go_roundg (gk - 1)
        case measure => omega
        case rel => exact ⟨m + 1, by omega, by omega, by go_num, hf.trans HFB.out⟩
      · have d2 : decide ((m : Int) < 2) = false := by simp; omega
        go_wp2_with (first
          | (go_at_call 10; (with_reducible refine (WK.out _ hf).mono ?_); rintro e8 w8 ⟨rfl, hf8⟩)
          | fail)
        go_ret
        exact ⟨rfl, hf.trans hf8⟩
  · have dl : decide ((2000 : Int) < (t.length : Int)) = true := by simp; omega
    clear htl he hkt g0 OE EN SZ RE SM
    unfold evV strV at *
    go_enter Tryd.func4, Tryd.ntmps4
    go_wp2_with (first
      | (go_at_call 20; (with_reducible refine (WE.out _ HF0).mono ?_); intro e1 w1 h1; obtain ⟨n, rfl, hn1, hn2, hlt, hf1⟩ := h1; rcases Nat.lt_or_ge n 2000 with hn | hn; (have dn : decide ((2000 : Int) ≤ (n : Int)) = false := (by simp; omega)); rotate_left; (have dn : decide ((2000 : Int) ≤ (n : Int)) = true := (by simp; omega)); rotate_left)
      | (go_at_call 10; (with_reducible refine (WK.out _ (HF0.trans hf1)).mono ?_); rintro e2 w2 ⟨rfl, hf2⟩)
      | fail)
    all_goals (go_ret; exact ⟨rfl, (HF0.trans hf1).trans hf2⟩)
end Go.Proofs.YtbnedlfejbfeoaaDoor
