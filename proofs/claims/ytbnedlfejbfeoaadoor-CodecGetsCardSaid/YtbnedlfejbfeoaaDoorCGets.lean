/-
  CodecGets: the walk. No statement of the seat is proved here.
-/
import Derived.Test.YtbnedlfejbfeoaaDoorCTells
namespace Go.Proofs.YtbnedlfejbfeoaaDoor
open Go.RowKit

theorem get_at {B : Nat} {w : World} {s : EvP} {v : Nat} {r : Rd} (hat : r.at_ ≤ r.s.length) (he : r.e = 0) (h : EvNew B w s (getT v r).1.1) : EvAt w s (getT v r).1.1 := by
  by_cases hz : (getT v r).1.2 = 0
  · have hm := (getT_back he hat hz).1
    exact h.may hm (may_kind hm)
  · have h0 : (getT v r).1.1 = zeroE := by
      unfold getT at hz ⊢
      split
      · rfl
      · rename_i hv
        rw [if_neg hv] at hz
        unfold bodyT endT at hz ⊢
        split
        · rename_i h1
          rw [if_pos h1] at hz
          exact absurd rfl hz
        · rfl
    rw [h0] at h ⊢
    exact zeroAt w s

theorem EvNew.frX {X : Nat → Prop} {B : Nat} {w w' : World} {s : EvP} {e : Ev} (h : EvNew B w s e) (hf : Fr X w w') (hx : ∀ k, B ≤ k → ¬ X k) : EvNew B w' s e :=
  ⟨h.nums.fr hf (fun k _ hk => hx k hk), h.texts.fr hf (fun k _ hk => hx k hk)⟩

set_option maxHeartbeats 16000000 in
set_option maxRecDepth 100000 in
theorem gets_any (t : List UInt8) (v : Nat) (w : World) (hkt : KT w) :
    Calls Tryd.prog 9 #[strV t, .int .u8 v] w fun en w' => en = .returned (.bool true) ∧ Fr No w w' := by
  have WK := hid (fun w1 (h : Fr No w w1) => works_any w1 (hkt.fr h))
  by_cases htl : t.length ≤ 2000
  · have dl : decide ((2000 : Int) < (t.length : Int)) = false := by simp; omega
    have NW := hid (fun w1 => new_any t w1 (by omega))
    have GE := hid (fun b r w1 (hr : RdIs w1 b r) (h : Fr No w w1) => get_any b r v w1 hr (hkt.fr h))
    have RG := hid (fun b r w1 (hr : DRd w1 b r) (hs : r.s.length ≤ 9000000000000000000) => rget_any b r v w1 hr hs)
    have HTL := hid htl
    clear hkt htl
    unfold strV at *
    go_enter Tryd.func9, Tryd.ntmps9
    go_upto_region 4 with (first
      | (go_at_call 19; (with_reducible refine (NW.out _).mono ?_); rintro e1 w1 ⟨b, rfl, hr1, hb1, hf1⟩)
      | fail)
    have A1 : Fr No w1 (w1.alloc (.cells #[strV t, .int .i64 0, .int .i64 0, .int .i64 0] 62)) := (Fr.refl w1).alloc _
    have hrd : DRd (w1.alloc (.cells #[strV t, .int .i64 0, .int .i64 0, .int .i64 0] 62)) w1.heap.size ⟨t, 0, 0, 0⟩ := ⟨Go.heap_alloc_new _ _, by simp, by have := HTL.out; show t.length ≤ _; omega⟩
    have hri : RdIs (w1.alloc (.cells #[strV t, .int .i64 0, .int .i64 0, .int .i64 0] 62)) b ⟨t, 0, 0, 0⟩ := hr1.fr A1 id
    have F1 := hf1.trans A1
    have hbb : b < w1.heap.size := hr1.lt
    have hs1 := hf1.size
    unfold strV at A1 hrd hri F1
    go_wp2_with fail
    go_loopg [7] 20 (fun k i wr => ∃ (m : Nat) (r : Rd), m ≤ 20 ∧ 20 ≤ m + k ∧ i = .int .i64 m ∧ Hid (RdIs wr b r ∧ DRd wr w1.heap.size r ∧ r.s = t ∧ r.e = 0) ∧ Fr No w wr)
    case atStart => exact ⟨0, ⟨t, 0, 0, 0⟩, by omega, by omega, rfl, hid ⟨hri, hrd, rfl, rfl⟩, F1⟩
    case round =>
      clear hri hrd F1 A1 hr1
      obtain ⟨m, r, hm, hk, rfl, HR, hf⟩ := hrel
      by_cases hm2 : m < 20
      · have d2 : decide ((m : Int) < 20) = true := by simp; omega
        have i4 : (m : Int) + 1 ≤ 100 := by omega
        obtain ⟨r1, r2, r3, r4⟩ := HR.out
        have hat := r1.2.1
        have G1 := hid (GE.out b r wr r1 hf)
        have R1 := hid (fun w1' (hr : DRd w1' w1.heap.size r) => RG.out w1.heap.size r w1' hr (by rw [r3]; have := HTL.out; omega))
        have AT := hid (fun (B : Nat) (w1 : World) (p : EvP) (h : EvNew B w1 p (getT v r).1.1) => get_at hat r4 h)
        have hgs := getT_s v r
        rw [r3] at hgs
        have hge : (getT v r).1.2 = 0 → (getT v r).2.e = 0 := fun h => by
          rw [(getT_back r4 hat h).2.2.2.1]
          exact r4
        have HRD := hid r2
        generalize getT v r = R at G1 R1 AT hgs hge
        obtain ⟨⟨ge, gk2⟩, r9⟩ := R
        simp only at hgs hge
        have SM2 := hid (fun (B : Nat) (p q : EvP) w1 (hn : EvNew B w1 p ge) (hm : EvNew B w1 q ge) => (by
          have := sameEvent6_any p q ge ge w1 (AT.out B w1 p hn) (AT.out B w1 q hm)
          rwa [sameS_self6] at this : Calls Tryd.prog 23 #[evV p ge, evV q ge] w1 fun en w' => en = .returned (.bool true) ∧ Fr No w1 w'))
        have HGE := hid (And.intro hgs hge)
        unfold GetPost at G1
        unfold DGetPost at R1
        unfold evV at G1 R1 SM2
        simp only at G1 R1
        clear r1 r2 r3 r4 hat hgs hge
        go_upto_region 8 with (first
          | (go_at_call 18; (with_reducible refine G1.out.mono ?_); rintro e8 w8 ⟨p, rfl, hn8, hr8, hf8⟩)
          | fail)
        have A8 : Fr No w8 (w8.alloc (.cells #[.int .u8 ge.v, .int .u8 ge.kind, .slice p.qn ge.nums.length p.cn, .slice p.qt ge.texts.length p.ct] 26)) := (Fr.refl w8).alloc _
        have hne : w1.heap.size ≠ b := by omega
        have RD8 := hid (R1.out _ ((HRD.out.fr hf8 (fun hx => hne hx)).fr A8 id))
        have g8 := Go.heap_alloc_new w8 (.cells #[.int .u8 ge.v, .int .u8 ge.kind, .slice p.qn ge.nums.length p.cn, .slice p.qt ge.texts.length p.ct] 26)
        have H8 := hid g8
        clear g8
        go_upto_region 9 with (first
          | (go_at_call 32; (with_reducible refine RD8.out.mono ?_); rintro e9 w9 ⟨q, rfl, hn9, hr9, hf9⟩)
          | fail)
        have A9 : Fr No w9 (w9.alloc (.cells #[.int .u8 ge.v, .int .u8 ge.kind, .slice q.qn ge.nums.length q.cn, .slice q.qt ge.texts.length q.ct] 26)) := (Fr.refl w9).alloc _
        have hw1r : w1.heap.size < wr.heap.size := HRD.out.lt
        have hs8 := hf8.size
        have hn8' : EvNew wr.heap.size (w9.alloc (.cells #[.int .u8 ge.v, .int .u8 ge.kind, .slice q.qn ge.nums.length q.cn, .slice q.qt ge.texts.length q.ct] 26)) p ge := ((hn8.fr A8).frX hf9 (fun k hk hx => by have hx : k = w1.heap.size := hx; omega)).fr A9
        have hn9' : EvNew wr.heap.size (w9.alloc (.cells #[.int .u8 ge.v, .int .u8 ge.kind, .slice q.qn ge.nums.length q.cn, .slice q.qt ge.texts.length q.ct] 26)) q ge := (hn9.mono (Nat.le_trans hs8 A8.size)).fr A9
        have S9 := hid (SM2.out wr.heap.size p q _ hn8' hn9')
        have hr8' : RdIs (w9.alloc (.cells #[.int .u8 ge.v, .int .u8 ge.kind, .slice q.qn ge.nums.length q.cn, .slice q.qt ge.texts.length q.ct] 26)) b r9 := RdIs.fr (RdIs.fr (RdIs.fr hr8 A8 id) hf9 (fun hx => hne hx.symm)) A9 id
        have hr9' : DRd (w9.alloc (.cells #[.int .u8 ge.v, .int .u8 ge.kind, .slice q.qn ge.nums.length q.cn, .slice q.qt ge.texts.length q.ct] 26)) w1.heap.size r9 := DRd.fr hr9 A9 id
        have FA := ((hf.newOnly (b := b) hb1 hf8).trans A8).newOnly (b := w1.heap.size) hs1 hf9 |>.trans A9
        have HR9 := hid (And.intro hr8' hr9')
        obtain ⟨k0, k1, k2, k3, _, _, _, _⟩ := Go.Proofs.YtbnedlfejbfeoaaDoor.cells4 (hf9.heap H8.out (fun hx => by have hx : w8.heap.size = w1.heap.size := hx; omega))
        have z8 : w8.heap.size < w9.heap.size := World.block_lt_of_cell? w9 _ k0
        clear hn8 hn9 hn8' hn9' hr8 hr9 hr8' hr9' hf8 hf9 A8 A9 H8 RD8 G1 R1
        by_cases hk0 : gk2 = 0
        · have bk : ((gk2 : Int) != 0) = false := by rw [hk0]; rfl
          have HK0 := hid hk0
          clear hk0
          go_upto_region 13 with (first
            | (go_at_call 23; (with_reducible refine S9.out.mono ?_); rintro eA wA ⟨rfl, hfA⟩)
            | fail)
          have hrA : RdIs wA b r9 := HR9.out.1.fr hfA id
          have hdA : DRd wA w1.heap.size r9 := HR9.out.2.fr hfA id
          have HRA := hid (And.intro hrA hdA)
          have ATA := hid (fun w' (h : Fr No wA w') => at_any b r9.s r9.at_ r9.e r9.to w' (RdIs.fr hrA h id))
          obtain ⟨e0, e1', e2'⟩ := drd_cells hdA
          have SK := hid (fun w' (h : Fr No wA w') => (⟨h, h.cell0 e1'⟩ : Fr No wA w' ∧ w'.cell? ⟨w1.heap.size, 1, none⟩ = some (.int .i64 r9.at_)))
          have FWA := hid (FA.trans hfA)
          clear k0 k1 k2 k3 hrA hdA hfA FA S9 SM2 AT
          go_region_held3 (fun w' => Fr No wA w' ∧ w'.cell? ⟨w1.heap.size, 1, none⟩ = some (.int .i64 r9.at_))
            ((go_split_ands; refine SK.out _ ?_; repeat (first | exact Fr.refl _ | assumption | refine Fr.drew ?_)))
            ((go_at_call 33; (with_reducible refine (ATA.out _ ((Fr.refl _).drew)).mono ?_); rintro eB wB ⟨rfl, hfB⟩; have hFB : Fr No wA wB := ((Fr.refl _).drew).trans hfB))
          go_wp2_with fail
          go_roundg (gk - 1)
          case measure => omega
          case rel => exact ⟨m + 1, r9, by omega, by omega, by go_num, hid ⟨HRA.out.1.fr hFB id, HRA.out.2.fr hFB id, HGE.out.1, HGE.out.2 HK0.out⟩, FWA.out.trans hFB⟩
        · have bk : ((gk2 : Int) != 0) = true := by simpa using hk0
          clear hk0
          go_wp2_with (first
            | (go_at_call 23; (with_reducible refine S9.out.mono ?_); rintro eA wA ⟨rfl, hfA⟩)
            | (go_at_call 10; (with_reducible refine (WK.out _ (FA.trans hfA)).mono ?_); rintro eB wB ⟨rfl, hfB⟩)
            | fail)
          go_ret
          exact ⟨rfl, (FA.trans hfA).trans hfB⟩
      · have d2 : decide ((m : Int) < 20) = false := by simp; omega
        go_wp2_with (first
          | (go_at_call 10; (with_reducible refine (WK.out _ hf).mono ?_); rintro e8 w8 ⟨rfl, hf8⟩)
          | fail)
        go_ret
        exact ⟨rfl, hf.trans hf8⟩
  · have dl : decide ((2000 : Int) < (t.length : Int)) = true := by simp; omega
    clear htl hkt
    unfold strV
    go_enter Tryd.func9, Tryd.ntmps9
    go_wp2_with (first
      | (go_at_call 10; (with_reducible refine (WK.out _ (Fr.refl _)).mono ?_); rintro e2 w2 ⟨rfl, hf2⟩)
      | fail)
    go_ret
    exact ⟨rfl, hf2⟩
end Go.Proofs.YtbnedlfejbfeoaaDoor
