/-
  soukref06.Get: the walk. No statement of the seat is proved here.
-/
import Derived.Test.YtnmfmedoocnofaaDoorCRGet
namespace Go.Proofs.YtnmfmedoocnofaaDoor
open Go.RowKit

theorem drd_cells {w : World} {b : Nat} {r : Rd} (h : DRd w b r) : w.cell? ⟨b, 0, none⟩ = some (.string ⟨r.s.toArray⟩) ∧ w.cell? ⟨b, 1, none⟩ = some (.int .i64 r.at_) ∧ w.cell? ⟨b, 2, none⟩ = some (.int .i64 r.e) := by
  obtain ⟨h0, h1, h2, _⟩ := four_cells h.1
  exact ⟨h0, h1, h2⟩
set_option maxHeartbeats 4000000 in
set_option maxRecDepth 100000 in
theorem rget_version (b : Nat) (r : Rd) (v : Nat) (w : World) (hr : DRd w b r) (hv : v < 1 ∨ 3 < v) :
    Calls Tryd.prog 36 #[.pointer (some ⟨b, 0, none⟩), .int .u8 v] w (DGetPost w b ((zeroE, 43), r)) := by
  have HF0 : Fr No w (w.alloc (.cells #[.int .u8 0, .int .u8 0, .slice none 0 0, .slice none 0 0] 34)) := (Fr.refl w).alloc _
  have HG := hid (Go.heap_alloc_new w (.cells #[.int .u8 0, .int .u8 0, .slice none 0 0, .slice none 0 0] 34))
  have HR := hid hr
  obtain ⟨k0, k1, k2, k3, z0, z1, z2, z3⟩ := Go.Proofs.YtnmfmedoocnofaaDoor.cells4 HG.out
  have hblt := hr.lt
  clear hr
  unfold DGetPost evV zeroE
  have HM : (decide ((v : Int) < 1) = true) ∨ (decide ((v : Int) < 1) = false ∧ decide ((3 : Int) < (v : Int)) = true) := by
    by_cases h : v < 1
    · exact .inl (by simp; omega)
    · exact .inr ⟨by simp; omega, by simp; omega⟩
  clear hv
  rcases HM with b1 | ⟨b1, b3⟩
  all_goals
    go_enter Tryd.func36, Tryd.ntmps36
    go_wp2_with fail
    refine bodyPost_ret (results_row_tmp rfl _ _ w.heap.size 34 _ (0, 0) _ (.int .i64 43) rfl HG.out rfl Tryd.underlying34 rfl (by kernel_rfl)) rfl ⟨⟨none, 0, none, 0⟩, rfl, EvNew.zero _ _, ?_, HF0.of0⟩
    exact HR.out.fr HF0 id

set_option maxHeartbeats 16000000 in
set_option maxRecDepth 100000 in
theorem rget_ok (b : Nat) (r : Rd) (v : Nat) (w : World) (hr : DRd w b r) (hsm : r.s.length ≤ 9000000000000000000) (hv : 1 ≤ v ∧ v ≤ 3) :
    Calls Tryd.prog 36 #[.pointer (some ⟨b, 0, none⟩), .int .u8 v] w (DGetPost w b (bodyT v (fieldsS v (rFix 1 r).1) (rFix 1 r))) := by
  have HF0 : Fr No w (w.alloc (.cells #[.int .u8 0, .int .u8 0, .slice none 0 0, .slice none 0 0] 34)) := (Fr.refl w).alloc _
  have HG := hid (Go.heap_alloc_new w (.cells #[.int .u8 0, .int .u8 0, .slice none 0 0, .slice none 0 0] 34))
  have hblt := hr.lt
  have hk255 : (rFix 1 r).1 ≤ 255 := by have := rFix_lt 1 r; omega
  have FX : Hid (∀ w1, Fr No w w1 → Calls Tryd.prog 34 #[.pointer (some ⟨b, 0, none⟩), .int .i64 1] w1 fun en w' => en = .returned (.int .u64 (rFix 1 r).1) ∧ DTo w1 w' b (rFix 1 r).2) := hid (fun w1 h => dFixed b r 1 w1 (hr.fr h id) (by decide))
  have hks : (rFix 1 r).2.s = r.s := rFix_s 1 r
  have RF := hid (rfields_any v (rFix 1 r).1)
  unfold RFieldsIs at RF
  have h7 := fieldsS_length v (rFix 1 r).1
  have KN := hid (fun c (h : c ∈ (fieldsS v (rFix 1 r).1).1) => known h)
  generalize rFix 1 r = K at FX RF h7 hk255 hks KN ⊢
  obtain ⟨k, r1⟩ := K
  simp only at FX RF h7 hk255 hks KN ⊢
  rw [← hks] at hsm
  have HSM := hid hsm
  generalize fieldsS v k = f at RF h7 KN ⊢
  obtain ⟨l, t, is⟩ := f
  simp only at h7 RF KN
  have b1 : decide ((v : Int) < 1) = false := by simp; omega
  have b3 : decide ((3 : Int) < (v : Int)) = false := by simp; omega
  have hb0 : b ≠ w.heap.size := by omega
  have hkw : IntKind.u8.wrap (k : Int) = (k : Int) := IntWalk.u8_in _ (by omega)
  clear hr hsm hks
  unfold bodyT
  simp only
  generalize hA : endT v k (numsT v l (lookE r1 is, r1)).1 (tsT t (numsT v l (lookE r1 is, r1)).2) = ANS
  have HA := hid hA
  clear hA
  unfold strV at RF
  go_enter Tryd.func36, Tryd.ntmps36
  go_upto_region 4 with (first
    | (go_at_call 34; (with_reducible refine (FX.out _ HF0).mono ?_); rintro e1 w1 ⟨rfl, hr1, hf1⟩)
    | fail)
  have HR1 := hid hr1
  have FW1 := hid (HF0.of0.trans hf1)
  have HZ1 := hid (hf1.heap HG.out (fun hx => hb0 hx.symm))
  obtain ⟨k0, k1, k2, k3, z0, z1, z2, z3⟩ := Go.Proofs.YtnmfmedoocnofaaDoor.cells4 HZ1.out
  obtain ⟨d0, d1, d2⟩ := drd_cells hr1
  clear hr1 hf1 FX
  by_cases he : r1.e = 0
  · have bz : ((r1.e : Int) != 0) = false := by rw [he]; rfl
    rcases is with _ | _
    · have HE := hid (show ANS = ((zeroE, 4), r1) by
        have hl : lookE r1 false = 4 := by unfold lookE; rw [if_pos he]; rfl
        rw [← HA.out, hl, body_start (by show (4 : Nat) ≠ 0; decide)])
      clear he HA
      go_upto_region 7 with (first
        | (go_at_call 66; (with_reducible refine (RF.out _).mono ?_); rintro e2 w2 ⟨rfl, rfl⟩)
        | fail)
      go_wp2_with fail
      obtain ⟨hst, hfr⟩ := store4 (w := w1) (HZ1.out) (.int .u8 0) (.int .u8 0) (.slice none 0 0) (.slice none 0 0)
      refine bodyPost_ret (results_row_tmp rfl _ _ w.heap.size 34 _ (0, 0) _ (.int .i64 4) rfl hst rfl Tryd.underlying34 rfl (by kernel_rfl)) rfl ?_
      show DGetPost w b ANS _ _
      rw [HE.out]
      exact ⟨⟨none, 0, none, 0⟩, rfl, EvNew.zero _ _, DRd.fr (HR1.out) hfr (fun hx => hb0 hx), (FW1.out).trans' hfr (fun i hi hx => absurd hi (by rw [show i = w.heap.size from hx]; omega))⟩
    · have hst0 : lookE r1 true = 0 := by unfold lookE; rw [if_pos he]; rfl
      rw [hst0] at HA
      clear hst0
      go_upto_region 9 with (first
        | (go_at_call 66; (with_reducible refine (RF.out _).mono ?_); rintro e2 w2 ⟨rfl, rfl⟩)
        | fail)
      have hb9 : w.heap.size < w1.heap.size := lt_of_block HZ1.out
      have hbx : BoxAt w.heap.size (w1.alloc (.cells #[.int .u8 v, .int .u8 k, .slice none 0 0, .slice none 0 0] 34)) w1.heap.size ⟨none, 0, none, 0⟩ ⟨v, k, [], []⟩ := ⟨by omega, Go.heap_alloc_new _ _, ⟨Rs.nil _ _ _ _, Rs.nil _ _ _ _⟩⟩
      have F1a : Fr No w1 (w1.alloc (.cells #[.int .u8 v, .int .u8 k, .slice none 0 0, .slice none 0 0] 34)) := (Fr.refl w1).alloc _
      go_upto_region 10 with fail
      generalize hW : w1.alloc (.cells #[.int .u8 v, .int .u8 k, .slice none 0 0, .slice none 0 0] 34) = w4 at hbx F1a ⊢
      generalize hB9 : w1.heap.size = b9 at hbx hb9 ⊢
      have hrel4 : DRel w4 w4 w.heap.size b b9 ⟨none, 0, none, 0⟩ ⟨v, k, [], []⟩ r1 := ⟨Fr.refl _, HR1.out.fr F1a id, hbx⟩
      have HZ4 := F1a.heap0 HZ1.out
      have ZER := hid (fun w' (h : Fr (GetX w4 b b b9 w.heap.size) w4 w') => h.heap HZ4 (GetX.not HZ4 (fun hx => hb0 hx.symm) (fun hx => hb0 hx.symm) (by omega) (by decide) (by decide)))
      have FIN := hid (fun w' (h : Fr (GetX w4 b b b9 w.heap.size) w4 w') => ((FW1.out.trans F1a.of0).trans' h (fun i hi hx => by
        rcases hx with hx | hx | hx | ⟨hx, _⟩ | ⟨hx, _⟩
        · exact hx
        · exact hx
        · omega
        · omega
        · omega) : Fr (Only b) w w'))
      have HREL4 := hid hrel4
      clear hW hB9 hbx F1a HZ4 HZ1 HR1 FW1 hrel4 k0 k1 k2 k3 z0 z1 z2 z3 d0 d1 d2 HF0
      have RB := hid (fun c => rbound_any v c)
      unfold RBoundIs at RB
      go_wp2_with fail
      go_loopg [11] l.length (fun g i wr => ∃ (m : Nat) (s2 : EvP) (L : List Int) (r2 : Rd), m ≤ l.length ∧ l.length ≤ m + g ∧ i = .int .i64 m ∧ Hid (numsT v (l.take m) (0, r1) = (L, (0, r2))) ∧ Hid (DRel w4 wr w.heap.size b b9 s2 ⟨v, k, L, []⟩ r2))
      case atStart => exact ⟨0, _, [], r1, Nat.zero_le _, by omega, rfl, hid rfl, HREL4⟩
      case round =>
        clear HREL4
        obtain ⟨m, s2, L, r2, hm, hk, rfl, HL, HREL⟩ := hrel
        have hLl : L.length = m := by have := numsT_length v (l.take m) (0, r1); rw [HL.out, List.length_take] at this; simp only at this; omega
        have hsm2 : r2.s.length ≤ 9000000000000000000 := by
          have := numsT_s v (l.take m) (0, r1)
          rw [HL.out] at this
          simp only at this
          rw [this]
          exact HSM.out
        by_cases hlt : m < l.length
        · obtain ⟨c, hc⟩ : ∃ c, l[m]? = some c := ⟨_, List.getElem?_eq_getElem hlt⟩
          have ht : l.take (m + 1) = l.take m ++ [c] := by rw [List.take_succ_eq_append_getElem hlt, (List.getElem?_eq_some_iff.1 hc).2]
          have hnx : numsT v (l.take (m + 1)) (0, r1) = (L ++ [(numT v c (0, r2)).1], (numT v c (0, r2)).2) := by rw [ht, numsT_snoc, HL.out]
          have hnt : numT v c (0, r2) = (((rSh (boundS v c.toNat).2.1.toNat r2).1 : Int), (lookE (rSh (boundS v c.toNat).2.1.toNat r2).2 (fitsS v c.toNat ((rSh (boundS v c.toNat).2.1.toNat r2).1 : Int)), (rSh (boundS v c.toNat).2.1.toNat r2).2)) := rfl
          have hkn := KN.out c (List.mem_of_getElem? hc)
          have hfd : ∀ n : Int, fitsS v c.toNat n = ((boundS v c.toNat).2.2 && (decide ((boundS v c.toNat).1 ≤ n) && decide (n ≤ (boundS v c.toNat).2.1))) := fun n => rfl
          have hb1 := bound_small v c.toNat
          have hb2 := bound_hi v c.toNat
          have RBc := hid (RB.out c.toNat)
          rw [hnt] at hnx
          generalize fitsS v c.toNat = FF at hnx hfd
          generalize boundS v c.toNat = BB at RBc hb1 hb2 hkn hfd hnx
          obtain ⟨lo, hi, isb⟩ := BB
          simp only at RBc hb1 hb2 hkn hfd hnx
          obtain rfl := hkn
          obtain ⟨H, rfl⟩ := Int.eq_ofNat_of_zero_le hb2
          rw [Int.toNat_natCast] at hnx
          have hw1 : IntKind.u64.wrap (H : Int) = (H : Int) := wrapU64 H (by omega)
          have hsb : (rSh H r2).1 ≤ H := by
            unfold rSh
            split
            · exact (rShort_bound r2.s r2.at_ r2.to H HREL.out.rd.2.1).2.1
            · exact Nat.zero_le _
          have SH := hid (fun w1 (h : DRd w1 b r2) => dShort b r2 H w1 h hsm2)
          generalize rSh H r2 = R at SH hsb hnx
          obtain ⟨n, r3⟩ := R
          simp only at SH hsb hnx
          have hw2 : IntKind.i64.wrap (n : Int) = (n : Int) := IntWalk.i64_in _ (by omega)
          have hff := hfd (n : Int)
          rw [Bool.true_and, decide_eq_true (show (n : Int) ≤ (H : Int) by omega), Bool.and_true] at hff
          rw [hff] at hnx
          have i1 : (m : Int) < (l.length : Int) := by omega
          have i2 : (0 : Int) ≤ (m : Int) := by omega
          have i4 : (m : Int) + 1 ≤ 1000001 := by omega
          have hsz : m < ({ data := l.toArray } : ByteArray).size := hlt
          have hix : (({ data := l.toArray } : ByteArray)[m]'hsz).toNat = c.toNat := by
            have := (List.getElem?_eq_some_iff.1 hc).2
            rw [← this]; rfl
          have HNX := hid hnx
          have HLl := hid hLl
          clear hc ht hnt hfd hff hnx hb1 hb2 hsb hsm2 hLl hlt
          go_upto_region 15 with (first
            | (go_at_call 67; (with_reducible refine (RBc.out _).mono ?_); rintro e5 w5 ⟨rfl, rfl⟩)
            | (go_at_call 35; (with_reducible refine (SH.out _ HREL.out.rd).mono ?_); rintro e6 w6 ⟨rfl, hr6⟩)
            | fail)
          have HREL6 := hid (HREL.out.read hr6)
          have HZZ := hid (ZER.out _ HREL6.out.fr)
          obtain ⟨d0, d1, d2⟩ := drd_cells HREL6.out.rd
          obtain ⟨y0, y1, y2, y3, z0, z1, z2, z3⟩ := Go.Proofs.YtnmfmedoocnofaaDoor.cells4 HZZ.out
          clear hr6
          by_cases he3 : r3.e = 0
          · have bz3 : ((r3.e : Int) != 0) = false := by rw [he3]; rfl
            by_cases hlo : (n : Int) < lo
            · have bl : decide ((n : Int) < lo) = true := by simpa using hlo
              have HE := hid (show ANS = ((zeroE, 4), r3) by
                have hl : lookE r3 (decide (lo ≤ (n : Int))) = 4 := by unfold lookE; rw [if_pos he3, decide_eq_false (by omega)]; rfl
                have h1 := HNX.out
                rw [hl] at h1
                rw [← HA.out, body_num (by rw [h1]) (by show (4 : Nat) ≠ 0; decide)])
              clear he3 hlo
              go_wp2_with fail
              obtain ⟨hst, hfr⟩ := store4 (w := w6) (HZZ.out) (.int .u8 0) (.int .u8 0) (.slice none 0 0) (.slice none 0 0)
              refine bodyPost_ret (results_row_tmp rfl _ _ w.heap.size 34 _ (0, 0) _ (.int .i64 4) rfl hst rfl Tryd.underlying34 rfl (by kernel_rfl)) rfl ?_
              show DGetPost w b ANS _ _
              rw [HE.out]
              exact ⟨⟨none, 0, none, 0⟩, rfl, EvNew.zero _ _, DRd.fr (HREL6.out.rd) hfr (fun hx => hb0 hx), (FIN.out _ HREL6.out.fr).trans' hfr (fun i hi hx => absurd hi (by rw [show i = w.heap.size from hx]; omega))⟩
            · have bl : decide ((n : Int) < lo) = false := by simp; omega
              have HNX2 := hid (show numsT v (l.take (m + 1)) (0, r1) = (L ++ [(n : Int)], (0, r3)) by
                have hl : lookE r3 (decide (lo ≤ (n : Int))) = 0 := by unfold lookE; rw [if_pos he3, decide_eq_true (by omega)]; rfl
                have h1 := HNX.out
                rw [hl] at h1
                exact h1)
              obtain ⟨k0, k1, k2, k3, f0, f1, f2, f3⟩ := HREL6.out.box.cells4
              simp only at k0 k1 k2 k3
              obtain ⟨i0, hi, hz0, hz1, hz2⟩ := info_parts infoI64
              have hbs : w.heap.size ≤ w6.heap.size := Nat.le_trans (by omega) (Nat.le_of_lt HREL6.out.box.lt)
              have hLn : L.length ≤ 7 := by have := HLl.out; omega
              have HRS := hid HREL6.out.box.new.nums
              clear he3 hlo HNX y0 y1 y2 y3 z0 z1 z2 z3
              go_wp2_with (first
                | (at_builtin; refine wpList_append_rt rfl _ _ 31 _ rfl w.heap.size 2 i0 (.int .i64 0) 8 Tryd.underlying31 hi hz0 hz1 hz2 rfl (.slice s2.qn L.length s2.cn) (L.map numV) (by rfl) ?c1 ?c2 _ 1 [numV (n : Int)] rfl ?c5 ?c3 ?c4 ?_))
              case c1 => exact HRS.out.fr0 ((Fr.refl _).alloc _)
              case c5 => exact Src.ofSlice _ Tryd.underlying31 ⟨_, 0, none⟩ 1 1 [numV (n : Int)] rfl (cells_new w6 [numV (n : Int)] 2) (by intro u hu; simp at hu; subst hu; rfl)
              case c2 => first | omega | (simp; omega)
              case c3 => unfold maxLen; omega
              case c4 => omega
              intro v' wA hr' hfT
              have hbA := hfT.heapT (by decide) ((HREL6.out.box.fr ((Fr.refl _).alloc (.cells #[.int .i64 (n : Int)] 2))).cells)
              obtain ⟨y0, y1, y2, y3, g0, g1, g2, g3⟩ := Go.Proofs.YtnmfmedoocnofaaDoor.cells4 hbA
              obtain ⟨q', cp', rfl⟩ := hr'.shape
              have e9 : L.map numV ++ [numV (n : Int)] = (L ++ [(n : Int)]).map numV := by simp
              rw [e9] at hr' ⊢
              simp only [List.length_map, List.length_append, List.length_cons, List.length_nil, Nat.zero_add] at hr' ⊢
              have HRN := hid (HREL6.out.num (n := (n : Int)) (v := .int .i64 (n : Int)) hfT hr')
              clear e9 hr' hfT hbA k0 k1 k2 k3 f0 f1 f2 f3
              go_wp2_with fail
              go_roundg (gk - 1)
              case measure => omega
              case rel => exact ⟨m + 1, _, L ++ [(n : Int)], r3, by omega, by omega, by go_num, HNX2, hid HRN.out⟩
          · have bz3 : ((r3.e : Int) != 0) = true := by simpa using he3
            have HE := hid (show ANS = ((zeroE, r3.e), r3) by
              have hl : lookE r3 (decide (lo ≤ (n : Int))) = r3.e := by unfold lookE; rw [if_neg he3]
              have h1 := HNX.out
              rw [hl] at h1
              rw [← HA.out, body_num (by rw [h1]) he3])
            have SK := hid (fun w' (h : Fr (Only w.heap.size) w6 w') => (⟨h, h.cell d2 hb0⟩ : Fr (Only w.heap.size) w6 w' ∧ w'.cell? ⟨b, 2, none⟩ = some (.int .i64 r3.e)))
            clear he3
            go_upto_region 16 with fail
            go_region_held3 (fun w' => Fr (Only w.heap.size) w6 w' ∧ w'.cell? ⟨b, 2, none⟩ = some (.int .i64 r3.e))
              ((go_split_ands; refine SK.out _ ?_; repeat (first | exact Fr.refl _ | refine Fr.drew ?_ | refine Fr.set_only ?_ _ _)))
              (fail)
            all_goals
              obtain ⟨hst, hfr⟩ := store4 (w := w6.drew) (HZZ.out) (.int .u8 0) (.int .u8 0) (.slice none 0 0) (.slice none 0 0)
              go_wp2_with fail
              refine bodyPost_ret (results_row_tmp rfl _ _ w.heap.size 34 _ (0, 0) _ (.int .i64 r3.e) rfl hst rfl Tryd.underlying34 rfl (by kernel_rfl)) rfl ?_
              show DGetPost w b ANS _ _
              rw [HE.out]
              exact ⟨⟨none, 0, none, 0⟩, rfl, EvNew.zero _ _, DRd.fr (DRd.fr (X := No) (HREL6.out.rd) (Fr.refl _).drew id) hfr (fun hx => hb0 hx), (FIN.out _ HREL6.out.fr).drew.trans' hfr (fun i hi hx => absurd hi (by rw [show i = w.heap.size from hx]; omega))⟩
        · obtain rfl : m = l.length := by omega
          rw [List.take_length] at HL
          have hAN : endT v k L (tsT t (0, r2)) = ANS := by rw [← HA.out, HL.out]
          have HAN := hid hAN
          clear hlt hm hk hLl HL HA KN RB hAN
          obtain ⟨d0, d1, d2⟩ := drd_cells HREL.out.rd
          have HZZ := hid (ZER.out _ HREL.out.fr)
          obtain ⟨y0, y1, y2, y3, z0, z1, z2, z3⟩ := Go.Proofs.YtnmfmedoocnofaaDoor.cells4 HZZ.out
          rcases t with _ | _
          · have HE := hid (show ANS = ((⟨v, k, L, []⟩, 0), r2) from HAN.out.symm)
            obtain ⟨k0, k1, k2, k3, f0, f1, f2, f3⟩ := HREL.out.box.cells4
            simp only at k0 k1 k2 k3
            go_wp2_with fail
            have hst := BoxAt.fill (b := w.heap.size) (B := w.heap.size) HZZ.out (Nat.le_refl _) HREL.out.box.new
            refine bodyPost_ret (results_row_tmp rfl _ _ w.heap.size 34 _ (0, 0) _ (.int .i64 0) rfl hst.1.cells rfl Tryd.underlying34 rfl (by kernel_rfl)) rfl ?_
            show DGetPost w b ANS _ _
            rw [HE.out]
            exact ⟨_, rfl, hst.1.new, DRd.fr HREL.out.rd hst.2 (fun hx => hb0 hx), (FIN.out _ HREL.out.fr).trans' hst.2 (fun i hi hx => absurd hi (by rw [show i = w.heap.size from hx]; omega))⟩
          · have TX := hid (dText b r2 24 wr HREL.out.rd hsm2 (by decide))
            have hnt : nameT (0, r2) = ((rTx 24 r2).1, (lookE (rTx 24 r2).2 (mayNameS (rTx 24 r2).1), (rTx 24 r2).2)) := rfl
            have han := HAN.out
            have hts : tsT true (0, r2) = ([(nameT (0, r2)).1], (nameT (0, r2)).2) := rfl
            rw [hts, hnt] at han
            have MN := hid (fun w1 => rMayName_any (rTx 24 r2).1 w1)
            generalize rTx 24 r2 = R at TX MN han
            obtain ⟨x, r3⟩ := R
            simp only at TX MN han
            generalize mayNameS x = ok at MN han
            have HAN2 := hid han
            clear han hnt hts HAN hsm2
            unfold strV at TX MN
            go_upto_region 22 with (first
              | (go_at_call 68; (with_reducible refine TX.out.mono ?_); rintro e6 w6 ⟨rfl, hr6⟩)
              | fail)
            have HREL6 := hid (HREL.out.read hr6)
            have HZ6 := hid (ZER.out _ HREL6.out.fr)
            clear hr6 d0 d1 d2 y0 y1 y2 y3 z0 z1 z2 z3
            obtain ⟨d0, d1, d2⟩ := drd_cells HREL6.out.rd
            obtain ⟨y0, y1, y2, y3, z0, z1, z2, z3⟩ := Go.Proofs.YtnmfmedoocnofaaDoor.cells4 HZ6.out
            by_cases he3 : r3.e = 0
            · have bz3 : ((r3.e : Int) != 0) = false := by rw [he3]; rfl
              rcases ok with _ | _
              · have HE := hid (show ANS = ((zeroE, 4), r3) by
                  have hl : lookE r3 false = 4 := by unfold lookE; rw [if_pos he3]; rfl
                  rw [← HAN2.out, hl, endT_err (by show (4 : Nat) ≠ 0; decide)])
                clear he3 HAN2
                go_wp2_with (first
                  | (go_at_call 69; (with_reducible refine (MN.out _).mono ?_); rintro e7 w7 ⟨rfl, rfl⟩)
                  | fail)
                obtain ⟨hst, hfr⟩ := store4 (w := w6) (HZ6.out) (.int .u8 0) (.int .u8 0) (.slice none 0 0) (.slice none 0 0)
                refine bodyPost_ret (results_row_tmp rfl _ _ w.heap.size 34 _ (0, 0) _ (.int .i64 4) rfl hst rfl Tryd.underlying34 rfl (by kernel_rfl)) rfl ?_
                show DGetPost w b ANS _ _
                rw [HE.out]
                exact ⟨⟨none, 0, none, 0⟩, rfl, EvNew.zero _ _, DRd.fr (HREL6.out.rd) hfr (fun hx => hb0 hx), (FIN.out _ HREL6.out.fr).trans' hfr (fun i hi hx => absurd hi (by rw [show i = w.heap.size from hx]; omega))⟩
              · have HE := hid (show ANS = ((⟨v, k, L, [x]⟩, 0), r3) by
                  have hl : lookE r3 true = 0 := by unfold lookE; rw [if_pos he3]; rfl
                  rw [← HAN2.out, hl]
                  rfl)
                clear he3 HAN2
                obtain ⟨k0, k1, k2, k3, f0, f1, f2, f3⟩ := HREL6.out.box.cells4
                simp only at k0 k1 k2 k3
                have hbs : w.heap.size ≤ w6.heap.size := Nat.le_trans (by omega) (Nat.le_of_lt HREL6.out.box.lt)
                have hb6 := HREL6.out.box.lt
                go_upto_region 26 with (first
                  | (go_at_call 69; (with_reducible refine (MN.out _).mono ?_); rintro e7 w7 ⟨rfl, rfl⟩)
                  | fail)
                have HRELF := hid (HREL6.out.txt (x := x) hbs)
                have HZF := hid (ZER.out _ HRELF.out.fr)
                go_upto_region 27 with fail
                rw [← setCell_alloc _ _ b9 3 _ hb6]
                unfold strV at HRELF HZF
                generalize (w6.alloc (.cells #[.string ⟨x.toArray⟩] 9)).setCell ⟨b9, 3, none⟩ (.slice (some ⟨w6.heap.size, 0, none⟩) 1 1) = wF at HRELF HZF ⊢
                clear k0 k1 k2 k3 f0 f1 f2 f3 y0 y1 y2 y3 z0 z1 z2 z3 d0 d1 d2
                obtain ⟨y0, y1, y2, y3, z0, z1, z2, z3⟩ := Go.Proofs.YtnmfmedoocnofaaDoor.cells4 HZF.out
                obtain ⟨k0, k1, k2, k3, f0, f1, f2, f3⟩ := HRELF.out.box.cells4
                simp only at k0 k1 k2 k3
                go_wp2_with fail
                have hst := BoxAt.fill (b := w.heap.size) (B := w.heap.size) HZF.out (Nat.le_refl _) HRELF.out.box.new
                refine bodyPost_ret (results_row_tmp rfl _ _ w.heap.size 34 _ (0, 0) _ (.int .i64 0) rfl hst.1.cells rfl Tryd.underlying34 rfl (by kernel_rfl)) rfl ?_
                show DGetPost w b ANS _ _
                rw [HE.out]
                exact ⟨_, rfl, hst.1.new, DRd.fr HRELF.out.rd hst.2 (fun hx => hb0 hx), (FIN.out _ HRELF.out.fr).trans' hst.2 (fun i hi hx => absurd hi (by rw [show i = w.heap.size from hx]; omega))⟩
            · have bz3 : ((r3.e : Int) != 0) = true := by simpa using he3
              have HE := hid (show ANS = ((zeroE, r3.e), r3) by
                have hl : lookE r3 ok = r3.e := by unfold lookE; rw [if_neg he3]
                rw [← HAN2.out, hl, endT_err he3])
              have SK := hid (fun w' (h : Fr (Only w.heap.size) w6 w') => (⟨h, h.cell d2 hb0⟩ : Fr (Only w.heap.size) w6 w' ∧ w'.cell? ⟨b, 2, none⟩ = some (.int .i64 r3.e)))
              clear he3 HAN2
              go_upto_region 23 with fail
              go_region_held3 (fun w' => Fr (Only w.heap.size) w6 w' ∧ w'.cell? ⟨b, 2, none⟩ = some (.int .i64 r3.e))
                ((go_split_ands; refine SK.out _ ?_; repeat (first | exact Fr.refl _ | refine Fr.drew ?_ | refine Fr.set_only ?_ _ _)))
                (fail)
              all_goals
                obtain ⟨hst, hfr⟩ := store4 (w := w6.drew) (HZ6.out) (.int .u8 0) (.int .u8 0) (.slice none 0 0) (.slice none 0 0)
                go_wp2_with fail
                refine bodyPost_ret (results_row_tmp rfl _ _ w.heap.size 34 _ (0, 0) _ (.int .i64 r3.e) rfl hst rfl Tryd.underlying34 rfl (by kernel_rfl)) rfl ?_
                show DGetPost w b ANS _ _
                rw [HE.out]
                exact ⟨⟨none, 0, none, 0⟩, rfl, EvNew.zero _ _, DRd.fr (DRd.fr (X := No) (HREL6.out.rd) (Fr.refl _).drew id) hfr (fun hx => hb0 hx), (FIN.out _ HREL6.out.fr).drew.trans' hfr (fun i hi hx => absurd hi (by rw [show i = w.heap.size from hx]; omega))⟩
  · have bz : ((r1.e : Int) != 0) = true := by simpa using he
    have HE := hid (show ANS = ((zeroE, r1.e), r1) by
      have hl : lookE r1 is = r1.e := by unfold lookE; rw [if_neg he]
      rw [← HA.out, hl, body_start he])
    have SK := hid (fun w' (h : Fr (Only w.heap.size) w1 w') => (⟨h, h.cell d2 hb0⟩ : Fr (Only w.heap.size) w1 w' ∧ w'.cell? ⟨b, 2, none⟩ = some (.int .i64 r1.e)))
    clear he HA
    go_upto_region 5 with fail
    go_region_held3 (fun w' => Fr (Only w.heap.size) w1 w' ∧ w'.cell? ⟨b, 2, none⟩ = some (.int .i64 r1.e))
      ((go_split_ands; refine SK.out _ ?_; repeat (first | exact Fr.refl _ | refine Fr.drew ?_ | refine Fr.set_only ?_ _ _)))
      (fail)
    all_goals
      obtain ⟨hst, hfr⟩ := store4 (w := w1.drew) (HZ1.out) (.int .u8 0) (.int .u8 0) (.slice none 0 0) (.slice none 0 0)
      go_wp2_with fail
      refine bodyPost_ret (results_row_tmp rfl _ _ w.heap.size 34 _ (0, 0) _ (.int .i64 r1.e) rfl hst rfl Tryd.underlying34 rfl (by kernel_rfl)) rfl ?_
      show DGetPost w b ANS _ _
      rw [HE.out]
      exact ⟨⟨none, 0, none, 0⟩, rfl, EvNew.zero _ _, DRd.fr (DRd.fr (X := No) (HR1.out) (Fr.refl _).drew id) hfr (fun hx => hb0 hx), (FW1.out).drew.trans' hfr (fun i hi hx => absurd hi (by rw [show i = w.heap.size from hx]; omega))⟩
end Go.Proofs.YtnmfmedoocnofaaDoor
