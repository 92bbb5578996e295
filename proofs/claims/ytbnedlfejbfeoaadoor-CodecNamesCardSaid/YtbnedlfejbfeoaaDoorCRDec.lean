/-
  soukref06.Get whole; soukref06.Decode: the walks. No statement of the seat is proved here.
-/
import Derived.Test.YtbnedlfejbfeoaaDoorCRGet2
namespace Go.Proofs.YtbnedlfejbfeoaaDoor
open Go.RowKit

theorem rget_any (b : Nat) (r : Rd) (v : Nat) (w : World) (hr : DRd w b r) (hsm : r.s.length ≤ 9000000000000000000) : Calls Tryd.prog 32 #[.pointer (some ⟨b, 0, none⟩), .int .u8 v] w (DGetPost w b (getT v r)) := by
  unfold getT
  by_cases hv : v < 1 ∨ 3 < v
  · rw [if_pos hv]; exact rget_version b r v w hr hv
  · rw [if_neg hv]; exact rget_ok b r v w hr hsm (by omega)
theorem rFix1_nil : rFix 1 ⟨[], 0, 0, 0⟩ = (0, ⟨[], 0, 8, 0⟩) := rfl
theorem rFix1_cons (c : UInt8) (l : List UInt8) : rFix 1 ⟨c :: l, 0, 0, 0⟩ = (c.toNat, ⟨c :: l, 1, 0, 0⟩) := by
  unfold rFix
  rw [if_pos rfl, if_neg (by simp)]
  simp [beN]

set_option maxHeartbeats 8000000 in
set_option maxRecDepth 100000 in
theorem rdecode_any (s : List UInt8) (w : World) (hs : s.length ≤ 9000000000000000000) : Calls Tryd.prog 25 #[strV s] w (DecPost w (decT s)) := by
  have HF0 : Fr No w (w.alloc (.cells #[.int .u8 0, .int .u8 0, .slice none 0 0, .slice none 0 0] 26)) := (Fr.refl w).alloc _
  have HG := hid (Go.heap_alloc_new w (.cells #[.int .u8 0, .int .u8 0, .slice none 0 0, .slice none 0 0] 26))
  rcases s with _ | ⟨c, l⟩
  · have hd : decT [] = (zeroE, 8) := rfl
    rw [hd]
    clear hd hs
    unfold DecPost evV zeroE strV
    go_enter Tryd.func25, Tryd.ntmps25
    go_wp2_with fail
    refine bodyPost_ret (results_row_tmp rfl _ _ w.heap.size 26 _ (0, 0) _ (.int .i64 8) rfl HG.out rfl Tryd.underlying26 rfl (by kernel_rfl)) rfl ⟨⟨none, 0, none, 0⟩, rfl, EvNew.zero _ _, HF0⟩
  · have hne : c :: l ≠ [] := by simp
    have hcs : (c :: l)[0]? = some c := rfl
    have hfix := rFix1_cons c l
    generalize hR : decT (c :: l) = R
    have hR2 := hR
    unfold decT at hR2
    rw [hfix] at hR2
    generalize c :: l = s at hs hne hcs hR2 ⊢
    have g1 := Go.heap_alloc_new (w.alloc (.cells #[.int .u8 0, .int .u8 0, .slice none 0 0, .slice none 0 0] 26)) (.cells #[strV s, .int .i64 1, .int .i64 0, .int .i64 0] 62)
    simp only [World.size_alloc] at g1
    have hl1 : 1 ≤ s.length := List.length_pos_iff.2 hne
    have hrd : DRd ((w.alloc (.cells #[.int .u8 0, .int .u8 0, .slice none 0 0, .slice none 0 0] 26)).alloc (.cells #[strV s, .int .i64 1, .int .i64 0, .int .i64 0] 62)) (w.heap.size + 1) ⟨s, 1, 0, 0⟩ := ⟨g1, hl1, by show s.length ≤ _; omega⟩
    have GE := hid (rget_any (w.heap.size + 1) ⟨s, 1, 0, 0⟩ c.toNat _ hrd hs)
    have hgs : (getT c.toNat ⟨s, 1, 0, 0⟩).2.s = s := getT_s _ _
    simp only [if_true] at hR2
    generalize getT c.toNat ⟨s, 1, 0, 0⟩ = G at GE hgs hR2
    obtain ⟨⟨ge, gk2⟩, r2⟩ := G
    simp only at hgs
    unfold decG at hR2
    simp only at hR2
    have HR2 := hid hR2
    have F2a : Fr No (w.alloc (.cells #[.int .u8 0, .int .u8 0, .slice none 0 0, .slice none 0 0] 26)) ((w.alloc (.cells #[.int .u8 0, .int .u8 0, .slice none 0 0, .slice none 0 0] 26)).alloc (.cells #[strV s, .int .i64 1, .int .i64 0, .int .i64 0] 62)) := (Fr.refl _).alloc _
    have hsz : 0 < ({ data := s.toArray } : ByteArray).size := hl1
    have hix : (({ data := s.toArray } : ByteArray)[0]'hsz).toNat = c.toNat := by
      have := (List.getElem?_eq_some_iff.1 hcs).2
      rw [← this]; rfl
    have z1 : (s == []) = false := by rw [beq_eq_false_iff_ne]; exact hne
    have z2 : (s != []) = true := by rw [bne, z1]; rfl
    have i1 : (0 : Int) < (s.length : Int) := by omega
    clear hcs hR hR2 hfix g1 hrd
    unfold DecPost
    unfold DGetPost evV at GE
    unfold strV at *
    unfold evV
    simp only at GE
    have hl2 := hid hs
    clear hs
    go_enter Tryd.func25, Tryd.ntmps25
    go_upto_region 5 with (first
      | (go_at_call 32; (with_reducible refine GE.out.mono ?_); rintro e4 w4 ⟨s4, rfl, hn4, hr4, hf4⟩)
      | fail)
    have F04 := hid (F2a.newOnly (b := w.heap.size + 1) (by simp) hf4)
    have hs4 := hf4.size
    obtain ⟨k0, k1, k2, k3, z0, zz1, zz2, z3⟩ := Go.Proofs.YtbnedlfejbfeoaaDoor.cells4 (F04.out.heap0 HG.out)
    have zl : w.heap.size < w4.heap.size := World.block_lt_of_cell? w4 _ k0
    obtain ⟨d0, d1, d2⟩ := drd_cells hr4
    have zl2 : w.heap.size + 1 < w4.heap.size := World.block_lt_of_cell? w4 _ d0
    have HN4 := hid hn4
    have F4a := hid (F04.out.alloc (.cells #[.int .u8 ge.v, .int .u8 ge.kind, .slice s4.qn ge.nums.length s4.cn, .slice s4.qt ge.texts.length s4.ct] 26))
    clear hn4 hr4 hf4 GE
    by_cases hk : gk2 = 0
    · have bk : ((gk2 : Int) != 0) = false := by rw [hk]; rfl
      rw [if_pos hk] at HR2
      have HK := hid hk
      clear hk
      by_cases hl : r2.at_ < s.length
      · have bl : decide (r2.at_ < s.length) = true := by simpa using hl
        rw [if_pos hl] at HR2
        obtain rfl : ((zeroE, 4) : Ev × Nat) = R := HR2.out
        clear hl
        go_wp2_with fail
        obtain ⟨hst, hfr⟩ := store4 (F04.out.heap0 HG.out) (.int .u8 0) (.int .u8 0) (.slice none 0 0) (.slice none 0 0)
        refine bodyPost_ret (results_row_tmp rfl _ _ w.heap.size 26 _ (0, 0) _ (.int .i64 4) rfl (((Fr.refl _).alloc _).heap0 hst) rfl Tryd.underlying26 rfl (by kernel_rfl)) rfl ⟨⟨none, 0, none, 0⟩, rfl, EvNew.zero _ _, ((HF0.trans F04.out).newOnly (Nat.le_refl _) hfr).alloc _⟩
      · have bl : decide (r2.at_ < s.length) = false := by simpa using hl
        rw [if_neg hl] at HR2
        obtain rfl : ((ge, gk2) : Ev × Nat) = R := HR2.out
        clear hl
        go_wp2_with fail
        have hst := BoxAt.fill (b := w.heap.size) (B := w.heap.size) (F04.out.heap0 HG.out) (Nat.le_refl _) (HN4.out.mono (by simp; omega))
        refine bodyPost_ret (results_row_tmp rfl _ _ w.heap.size 26 _ (0, 0) _ (.int .i64 0) rfl (((Fr.refl _).alloc _).heap0 hst.1.cells) rfl Tryd.underlying26 rfl (by kernel_rfl)) rfl ⟨s4, by rw [HK.out]; rfl, hst.1.new.fr ((Fr.refl _).alloc _), ((HF0.trans F04.out).newOnly (Nat.le_refl _) hst.2).alloc _⟩
    · have bk : ((gk2 : Int) != 0) = true := by simpa using hk
      rw [if_neg hk] at HR2
      obtain rfl : ((zeroE, gk2) : Ev × Nat) = R := HR2.out
      clear hk
      go_wp2_with fail
      obtain ⟨hst, hfr⟩ := store4 (F04.out.heap0 HG.out) (.int .u8 0) (.int .u8 0) (.slice none 0 0) (.slice none 0 0)
      refine bodyPost_ret (results_row_tmp rfl _ _ w.heap.size 26 _ (0, 0) _ (.int .i64 gk2) rfl (((Fr.refl _).alloc _).heap0 hst) rfl Tryd.underlying26 rfl (by kernel_rfl)) rfl ⟨⟨none, 0, none, 0⟩, rfl, EvNew.zero _ _, ((HF0.trans F04.out).newOnly (Nat.le_refl _) hfr).alloc _⟩
end Go.Proofs.YtbnedlfejbfeoaaDoor
