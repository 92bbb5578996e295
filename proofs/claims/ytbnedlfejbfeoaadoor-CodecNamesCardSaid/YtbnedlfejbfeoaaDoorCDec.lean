/-
  codec.Get whole; codec.Decode: the walks. No statement of the seat is proved here.
-/
import Derived.Test.YtbnedlfejbfeoaaDoorCGet2
namespace Go.Proofs.YtbnedlfejbfeoaaDoor
open Go.RowKit

/-- Get, whatever version it is asked. -/
theorem get_any (b : Nat) (r : Rd) (v : Nat) (w : World) (hr : RdIs w b r) (hkt : KT w) : Calls Tryd.prog 18 #[.pointer (some ⟨b, 0, none⟩), .int .u8 v] w (GetPost w b (getT v r)) := by
  unfold getT
  by_cases hv : v < 1 ∨ 3 < v
  · rw [if_pos hv]; exact get_version b r v w hr hv
  · rw [if_neg hv]; exact get_ok b r v w hr hkt (by omega)

/-! ### the text that is read stays -/
theorem rFix_s (k : Nat) (r : Rd) : (rFix k r).2.s = r.s := by
  unfold rFix
  split
  · split <;> rfl
  · rfl
theorem rRaw_s (n : Int) (r : Rd) : (rRaw n r).2.s = r.s := by
  unfold rRaw
  split
  · split <;> rfl
  · rfl
theorem rTx_s (m : Int) (r : Rd) : (rTx m r).2.s = r.s := by
  unfold rTx
  split
  · split
    · split
      · rfl
      · rw [rRaw_s, rSh_s]
    · rw [rSh_s]
  · rfl
theorem numT_s (v : Nat) (c : UInt8) (st : Nat × Rd) : (numT v c st).2.2.s = st.2.s := by
  unfold numT
  split
  · exact rSh_s _ _
  · rfl
theorem nameT_s (st : Nat × Rd) : (nameT st).2.2.s = st.2.s := by
  unfold nameT
  split
  · exact rTx_s _ _
  · rfl
theorem numsT_s (v : Nat) : ∀ (l : List UInt8) (st : Nat × Rd), (numsT v l st).2.2.s = st.2.s
  | [], _ => rfl
  | c :: l, st => by
    show (numsT v l (numT v c st).2).2.2.s = _
    rw [numsT_s v l, numT_s]
theorem endT_s (v k : Nat) (ns : List Int) (ts : List (List UInt8) × (Nat × Rd)) : (endT v k ns ts).2 = ts.2.2 := by unfold endT; split <;> rfl
theorem tsT_s (t : Bool) (st : Nat × Rd) : (tsT t st).2.2.s = st.2.s := by
  unfold tsT
  split
  · exact nameT_s st
  · rfl
theorem getT_s (v : Nat) (r : Rd) : (getT v r).2.s = r.s := by
  unfold getT
  split
  · rfl
  · unfold bodyT
    rw [endT_s, tsT_s, numsT_s]
    exact rFix_s 1 r

/-- What Decode tells. -/
def decG (n : Nat) (g : (Ev × Nat) × Rd) : Ev × Nat := if g.1.2 = 0 then (if g.2.at_ < n then (zeroE, 4) else g.1) else (zeroE, g.1.2)
def decT (s : List UInt8) : Ev × Nat :=
  if (rFix 1 ⟨s, 0, 0, 0⟩).2.e = 0 then decG s.length (getT (rFix 1 ⟨s, 0, 0, 0⟩).1 (rFix 1 ⟨s, 0, 0, 0⟩).2) else (zeroE, (rFix 1 ⟨s, 0, 0, 0⟩).2.e)
def DecPost (w : World) (R : Ev × Nat) (en : Ending) (w' : World) : Prop := ∃ s, en = .returned (.tuple #[evV s R.1, .int .i64 R.2]) ∧ EvNew w.heap.size w' s R.1 ∧ Fr No w w'

set_option maxHeartbeats 8000000 in
set_option maxRecDepth 100000 in
theorem decode_any (s : List UInt8) (w : World) (hs : s.length ≤ 9223372036854775807) (hkt : KT w) : Calls Tryd.prog 24 #[strV s] w (DecPost w (decT s)) := by
  have HF0 : Fr No w (w.alloc (.cells #[.int .u8 0, .int .u8 0, .slice none 0 0, .slice none 0 0] 26)) := (Fr.refl w).alloc _
  have HG := hid (Go.heap_alloc_new w (.cells #[.int .u8 0, .int .u8 0, .slice none 0 0, .slice none 0 0] 26))
  have NW := hid (fun w1 => new_any s w1 hs)
  have U8 := hid (fun b w1 (h : RdAt w1 b s 0 0 0) => u8R b ⟨s, 0, 0, 0⟩ w1 h)
  have hk255 : (rFix 1 ⟨s, 0, 0, 0⟩).1 ≤ 255 := by have := rFix_lt 1 ⟨s, 0, 0, 0⟩; omega
  have hks : (rFix 1 ⟨s, 0, 0, 0⟩).2.s = s := rFix_s 1 _
  generalize hR : decT s = R
  have hR2 := hR
  unfold decT at hR2
  generalize rFix 1 ⟨s, 0, 0, 0⟩ = K at U8 hk255 hks hR2
  obtain ⟨k, r1⟩ := K
  simp only at U8 hk255 hks hR2
  have ER := hid (fun b w1 (h : RdIs w1 b r1) => err_any b r1.s r1.at_ r1.e r1.to w1 h)
  have GE := hid (fun b w1 (hw : RdIs w1 b r1) (h : Fr No w w1) => get_any b r1 k w1 hw (hkt.fr h))
  have hgs := (getT_s k r1).trans hks
  generalize getT k r1 = G at GE hgs hR2
  obtain ⟨⟨ge, gk2⟩, r2⟩ := G
  simp only at hgs
  unfold decG at hR2
  simp only at hR2
  have LE := hid (fun b w1 (h : RdIs w1 b r2) => left_any b r2.s r2.at_ r2.e r2.to w1 h)
  rw [hgs] at LE
  have HR2 := hid hR2
  clear hs hkt hR hR2 hks hgs
  unfold DecPost
  unfold GetPost evV at GE
  unfold strV at *
  unfold evV
  simp only at GE
  go_enter Tryd.func24, Tryd.ntmps24
  go_upto_region 4 with (first
    | (go_at_call 19; (with_reducible refine (NW.out _).mono ?_); rintro e1 w1 ⟨b, rfl, hr1, hb1, hf1⟩)
    | (go_at_call 40; (with_reducible refine (U8.out _ _ hr1).mono ?_); rintro e2 w2 ⟨rfl, hr2, hf2⟩)
    | (go_at_call 38; (with_reducible refine (ER.out _ _ hr2).mono ?_); rintro e3 w3 ⟨rfl, hf3⟩)
    | fail)
  have F03 := hid (((hf1.newOnly hb1 hf2).trans hf3))
  have HR3 := hid (show RdIs w3 b r1 from hr2.fr hf3 id)
  clear hr1 hr2 hf1 hf2 hf3 ER NW U8
  obtain ⟨k0, k1, k2, k3, z0, z1, z2, z3⟩ := Go.Proofs.YtbnedlfejbfeoaaDoor.cells4 (F03.out.heap0 HG.out)
  by_cases he : r1.e = 0
  · have bz : ((r1.e : Int) != 0) = false := by rw [he]; rfl
    rw [if_pos he] at HR2
    clear he
    have G3 := hid (GE.out b w3 HR3.out (HF0.trans F03.out))
    go_upto_region 7 with (first
      | (go_at_call 18; (with_reducible refine G3.out.mono ?_); rintro e4 w4 ⟨s4, rfl, hn4, hr4, hf4⟩)
      | fail)
    have F04 := hid (F03.out.newOnly hb1 hf4)
    have hs4 := hf4.size
    have hs3 := F03.out.size
    clear k0 k1 k2 k3 z0 z1 z2 z3 hf4
    obtain ⟨k0, k1, k2, k3, z0, z1, z2, z3⟩ := Go.Proofs.YtbnedlfejbfeoaaDoor.cells4 (F04.out.heap0 HG.out)
    have zl : w.heap.size < w4.heap.size := World.block_lt_of_cell? w4 _ k0
    have HN4 := hid hn4
    have F4a := hid (F04.out.alloc (.cells #[.int .u8 ge.v, .int .u8 ge.kind, .slice s4.qn ge.nums.length s4.cn, .slice s4.qt ge.texts.length s4.ct] 26))
    clear hn4 G3 GE
    by_cases hk : gk2 = 0
    · have bk : ((gk2 : Int) != 0) = false := by rw [hk]; rfl
      rw [if_pos hk] at HR2
      have HK := hid hk
      clear hk
      have L4 := hid (LE.out b _ (hr4.fr ((Fr.refl (X := No) w4).alloc (.cells #[.int .u8 ge.v, .int .u8 ge.kind, .slice s4.qn ge.nums.length s4.cn, .slice s4.qt ge.texts.length s4.ct] 26)) id))
      have HGF := hid (fun w6 (h : Fr No (w4.alloc (.cells #[.int .u8 ge.v, .int .u8 ge.kind, .slice s4.qn ge.nums.length s4.cn, .slice s4.qt ge.texts.length s4.ct] 26)) w6) => h.heap0 (F4a.out.heap0 HG.out))
      have HBX := hid (Go.heap_alloc_new w4 (.cells #[.int .u8 ge.v, .int .u8 ge.kind, .slice s4.qn ge.nums.length s4.cn, .slice s4.qt ge.texts.length s4.ct] 26))
      clear hr4 LE
      by_cases hl : r2.at_ < s.length
      · have bl : decide (0 < s.length - r2.at_) = true := by simp; omega
        rw [if_pos hl] at HR2
        obtain rfl : ((zeroE, 4) : Ev × Nat) = R := HR2.out
        clear hl
        go_wp2_with (first
          | (go_at_call 31; (with_reducible refine L4.out.mono ?_); rintro e5 w5 ⟨rfl, hf5⟩; clear k0 k1 k2 k3 z0 z1 z2 z3; obtain ⟨k0, k1, k2, k3, z0, z1, z2, z3⟩ := Go.Proofs.YtbnedlfejbfeoaaDoor.cells4 (HGF.out _ hf5))
          | fail)
        obtain ⟨hst, hfr⟩ := store4 (HGF.out _ hf5) (.int .u8 0) (.int .u8 0) (.slice none 0 0) (.slice none 0 0)
        refine bodyPost_ret (results_row_tmp rfl _ _ w.heap.size 26 _ (0, 0) _ (.int .i64 4) rfl hst rfl Tryd.underlying26 rfl (by kernel_rfl)) rfl ⟨⟨none, 0, none, 0⟩, rfl, EvNew.zero _ _, ((HF0.trans F4a.out).trans hf5).newOnly (Nat.le_refl _) hfr⟩
      · have bl : decide (0 < s.length - r2.at_) = false := by simp; omega
        rw [if_neg hl] at HR2
        obtain rfl : ((ge, gk2) : Ev × Nat) = R := HR2.out
        clear hl
        go_wp2_with (first
          | (go_at_call 31; (with_reducible refine L4.out.mono ?_); rintro e5 w5 ⟨rfl, hf5⟩; clear k0 k1 k2 k3 z0 z1 z2 z3; obtain ⟨k0, k1, k2, k3, z0, z1, z2, z3⟩ := Go.Proofs.YtbnedlfejbfeoaaDoor.cells4 (HGF.out _ hf5); obtain ⟨y0, y1, y2, y3, _, _, _, _⟩ := Go.Proofs.YtbnedlfejbfeoaaDoor.cells4 (hf5.heap0 HBX.out))
          | fail)
        have hst := BoxAt.fill (b := w.heap.size) (B := w.heap.size) (HGF.out _ hf5) (Nat.le_refl _) (((HN4.out.mono (by have := HF0.size; omega)).fr ((Fr.refl (X := No) w4).alloc _)).fr hf5)
        refine bodyPost_ret (results_row_tmp rfl _ _ w.heap.size 26 _ (0, 0) _ (.int .i64 0) rfl hst.1.cells rfl Tryd.underlying26 rfl (by kernel_rfl)) rfl ⟨s4, by rw [HK.out]; rfl, hst.1.new, ((HF0.trans F4a.out).trans hf5).newOnly (Nat.le_refl _) hst.2⟩
    · have bk : ((gk2 : Int) != 0) = true := by simpa using hk
      rw [if_neg hk] at HR2
      obtain rfl : ((zeroE, gk2) : Ev × Nat) = R := HR2.out
      clear hk
      go_wp2_with fail
      obtain ⟨hst, hfr⟩ := store4 (F04.out.heap0 HG.out) (.int .u8 0) (.int .u8 0) (.slice none 0 0) (.slice none 0 0)
      refine bodyPost_ret (results_row_tmp rfl _ _ w.heap.size 26 _ (0, 0) _ (.int .i64 gk2) rfl (((Fr.refl _).alloc _).heap0 hst) rfl Tryd.underlying26 rfl (by kernel_rfl)) rfl ⟨⟨none, 0, none, 0⟩, rfl, EvNew.zero _ _, ((HF0.trans F04.out).newOnly (Nat.le_refl _) hfr).alloc _⟩
  · have bz : ((r1.e : Int) != 0) = true := by simpa using he
    rw [if_neg he] at HR2
    obtain rfl : ((zeroE, r1.e) : Ev × Nat) = R := HR2.out
    clear he
    go_wp2_with fail
    obtain ⟨hst, hfr⟩ := store4 (F03.out.heap0 HG.out) (.int .u8 0) (.int .u8 0) (.slice none 0 0) (.slice none 0 0)
    refine bodyPost_ret (results_row_tmp rfl _ _ w.heap.size 26 _ (0, 0) _ (.int .i64 r1.e) rfl hst rfl Tryd.underlying26 rfl (by kernel_rfl)) rfl ⟨⟨none, 0, none, 0⟩, rfl, EvNew.zero _ _, (HF0.trans F03.out).newOnly (Nat.le_refl _) hfr⟩
end Go.Proofs.YtbnedlfejbfeoaaDoor
