/-
  codec.Get: the walk where the version may be. No statement of the seat is proved here.
-/
import Derived.Test.YtnmfmedoocnofaaDoorCGet
namespace Go.Proofs.YtnmfmedoocnofaaDoor
open Go.RowKit

set_option maxHeartbeats 16000000 in
set_option maxRecDepth 100000 in
theorem get_ok (b : Nat) (r : Rd) (v : Nat) (w : World) (hr : RdIs w b r) (hkt : KT w) (hv : 1 ≤ v ∧ v ≤ 3) :
    Calls Tryd.prog 63 #[.pointer (some ⟨b, 0, none⟩), .int .u8 v] w (GetPost w b (bodyT v (fieldsS v (rFix 1 r).1) (rFix 1 r))) := by
  have HF0 : Fr No w (w.alloc (.cells #[.int .u8 0, .int .u8 0, .slice none 0 0, .slice none 0 0] 34)) := (Fr.refl w).alloc _
  have HG := hid (Go.heap_alloc_new w (.cells #[.int .u8 0, .int .u8 0, .slice none 0 0, .slice none 0 0] 34))
  have ER := hid (fun w1 (h : Fr No w w1) => err_any b r.s r.at_ r.e r.to w1 (hr.fr h id))
  have HR := hid hr
  have hblt := hr.lt
  have hbk := kt_ne hkt hr
  have hk255 : (rFix 1 r).1 ≤ 255 := by have := rFix_lt 1 r; omega
  have U8 := hid (fun w1 (h : Fr No w w1) => u8R b r w1 (hr.fr h id))
  have FA := hid (fun w1 (h : Fr (Only b) w w1) => fields_any v (rFix 1 r).1 w1 (by omega) hk255 (hkt.frX h (fun hx => hbk hx.symm)))
  have h7 := fieldsS_length v (rFix 1 r).1
  generalize rFix 1 r = K at U8 FA h7 hk255 ⊢
  obtain ⟨k, r1⟩ := K
  simp only at U8 FA h7 hk255 ⊢
  generalize fieldsS v k = f at FA h7 ⊢
  obtain ⟨l, t, is⟩ := f
  simp only at h7
  have b1 : decide ((v : Int) < 1) = false := by simp; omega
  have b3 : decide ((3 : Int) < (v : Int)) = false := by simp; omega
  have hb0 : b ≠ w.heap.size := by omega
  clear hr hkt hbk
  unfold ToldPost at FA
  simp only at FA
  unfold bodyT
  simp only
  generalize hst : (lookE r1 is, r1) = st0
  generalize hN : numsT v l st0 = N
  have HST := hid hst
  have HN := hid hN
  clear hst hN
  have OFF := hid (fun w1 => of_any b w1)
  go_enter Tryd.func63, Tryd.ntmps63
  go_upto_region 7 with (first
    | (go_at_call 61; (with_reducible refine (ER.out _ HF0).mono ?_); rintro e1 w1 ⟨rfl, hf1⟩)
    | (go_at_call 91; (with_reducible refine (OFF.out _).mono ?_); rintro e2 w2 ⟨bt, bv, br, rfl, ht2, hbt, hf2⟩)
    | fail)
  have F2 : Fr No w w2 := (HF0.trans hf1).trans hf2
  have hbtw : w.heap.size ≤ bt := Nat.le_trans (HF0.trans hf1).size hbt
  have HG2 := hid (hf2.heap0 (hf1.heap0 HG.out))
  go_upto_region 8 with (first
    | (go_at_call 60; (with_reducible refine (U8.out _ F2).mono ?_); rintro e3 w3 ⟨rfl, hr3, hf3⟩)
    | fail)
  obtain ⟨m1, m2, m3⟩ := ht2.neR (HR.out.fr F2 id)
  have hs3 := hf3.size
  have hs2 := F2.size
  have ht3 := ht2.fr hf3 (fun hx => m1 hx.symm) (fun hx => m2 hx.symm) (fun hx => m3 hx.symm)
  have F3 : Fr (Only b) w w3 := F2.of0.trans hf3
  have HG3 := hid (hf3.heap HG2.out (fun hx => hb0 hx.symm))
  have F3a : Fr No w3 (w3.alloc (.cells #[.int .u8 v, .int .u8 k, .slice none 0 0, .slice none 0 0] 34)) := (Fr.refl _).alloc _
  have hbx3 : BoxAt w.heap.size (w3.alloc (.cells #[.int .u8 v, .int .u8 k, .slice none 0 0, .slice none 0 0] 34)) w3.heap.size ⟨none, 0, none, 0⟩ ⟨v, k, [], []⟩ := ⟨by omega, Go.heap_alloc_new _ _, ⟨Rs.nil _ _ _ _, Rs.nil _ _ _ _⟩⟩
  have FA3 := hid (FA.out _ (F3.trans F3a.of0))
  have hb9 : w.heap.size < w3.heap.size := lt_of_block HG3.out
  generalize hW : w3.alloc (.cells #[.int .u8 v, .int .u8 k, .slice none 0 0, .slice none 0 0] 34) = W3 at F3a hbx3 FA3 ⊢
  generalize w3.heap.size = b9 at hbx3 hb9 ⊢
  obtain ⟨k0, k1, k2, k3, f0, f1, f2, f3⟩ := hbx3.cells4
  have HT3 := hid (ht3.fr0 F3a)
  have HR3 := hid (show RdIs W3 b r1 from hr3.fr F3a id)
  have HBX3 := hid hbx3
  have HZ3 := hid (F3a.heap0 HG3.out)
  have FW3 := hid (F3.trans F3a.of0)
  clear hW ht2 ht3 hf1 hf2 hf3 hr3 hbx3 FA ER OFF U8 F2 HG2 HG3 F3 F3a hs2 hs3 HF0 HG HR m1 m2 m3 hbt
  go_upto_region 9 with (first
    | (go_at_call 72; (with_reducible refine FA3.out.mono ?_); intro e4 w4 h4; obtain ⟨LV, rfl, hres, hf4⟩ := h4; obtain ⟨q1, cap1, rfl⟩ := hres.shape; simp only [List.length_map] at hres ⊢)
    | fail)
  have HT4 := hid (HT3.out.fr0 hf4)
  have HR4 := hid (show RdIs w4 b r1 from HR3.out.fr hf4 id)
  have HBX4 := hid (HBX3.out.fr hf4)
  have HZ4 := hid (hf4.heap0 HZ3.out)
  have FW4 := hid (FW3.out.trans hf4.of0)
  obtain ⟨n1, n2, n3⟩ := HT4.out.ne
  obtain ⟨m1, m2, m3⟩ := HT4.out.neR HR4.out
  have LK := hid (look_any b bt bv br r1 is w4 HT4.out HR4.out)
  obtain ⟨c0, c1, c2, c3, c4, f9⟩ := HT4.out.cells
  have CLS := hid (fun w' (h : Fr (GetX w4 b bt b9 w.heap.size) w4 w') i c (hi : l[i]? = some c) => (by
    obtain ⟨bc, oc, hq, hc⟩ := hres.at_ i (clsV c) (by simp [hi])
    rcases hres.own.2 with ⟨_, h2⟩ | ⟨g, cap', cur, h1, _, hg, _⟩
    · have := (List.getElem?_eq_some_iff.1 hi).1
      simp at h2
      subst h2
      simp at hi
    · have hqg : q1 = some ⟨g, 0, none⟩ := by injection h1
      rw [hqg] at hq
      obtain ⟨rfl, rfl⟩ : g = bc ∧ 0 = oc := by simpa using hq
      refine ⟨g, hqg, ?_⟩
      rw [Nat.zero_add] at hc
      exact h.cell hc (GetX.not hg (ne_of_cells hg HR4.out.1 (by decide)) (ne_of_cells hg HT4.out.tk (by decide)) (ne_of_cells hg HBX4.out.cells (by decide)) (by decide) (by decide)) : ∃ g, q1 = some ⟨g, 0, none⟩ ∧ w'.cell? ⟨g, i, none⟩ = some (clsV c)))
  have ZER := hid (fun w' (h : Fr (GetX w4 b bt b9 w.heap.size) w4 w') => h.heap HZ4.out (GetX.not HZ4.out (fun hx => hb0 hx.symm) (fun hx => ne_of_cells HZ4.out HT4.out.tk (by decide) hx) (by omega) (by decide) (by decide)))
  have FIN := hid (fun w' (h : Fr (GetX w4 b bt b9 w.heap.size) w4 w') => (FW4.out.trans' h (fun i hi hx => by
    rcases hx with hx | hx | hx | ⟨hx, _⟩ | ⟨hx, _⟩
    · exact hx
    · omega
    · omega
    · omega
    · omega) : Fr (Only b) w w'))
  clear k0 k1 k2 k3 f0 f1 f2 f3 hres hf4 HT3 HR3 HBX3 HZ3 FW3 FA3
  go_upto_region 10 with (first
    | (go_at_call 104; (with_reducible refine LK.out.mono ?_); rintro e5 w5 ⟨rfl, hT5, hf5⟩)
    | fail)
  have hrel5 : GetRel w4 w5 w.heap.size b bt bv br b9 ⟨none, 0, none, 0⟩ ⟨v, k, [], []⟩ (lookE r1 is, r1) := by
    refine ⟨hf5.mono (fun i _ hx => .inr (.inl hx)), hT5, HR4.out.fr hf5 (fun hx => m1 hx), HBX4.out.frTy hf5 (fun j cur ty hj hty hx => ?_)⟩
    exact two_ty HT4.out HR4.out j cur ty hj hty (.inr hx)
  rw [HST.out] at hrel5
  have HREL5 := hid hrel5
  clear hrel5 hT5 hf5 LK c0 c1 c2 c3 c4 f9 HBX4 HR4 HT4 HZ4 FW4
  go_wp2_with fail
  go_loopg [53] l.length (fun g i wr => ∃ (m : Nat) (s2 : EvP) (L : List Int) (st : Nat × Rd), m ≤ l.length ∧ l.length ≤ m + g ∧ i = .int .i64 m ∧ Hid (numsT v (l.take m) st0 = (L, st)) ∧ Hid (GetRel w4 wr w.heap.size b bt bv br b9 s2 ⟨v, k, L, []⟩ st))
  case atStart => exact ⟨0, _, [], st0, Nat.zero_le _, by omega, rfl, hid rfl, HREL5⟩
  case round =>
    clear HREL5
    obtain ⟨m, s2, L, st, hm, hk, rfl, HL, HREL⟩ := hrel
    have hLl : L.length = m := by have := numsT_length v (l.take m) st0; rw [HL.out, List.length_take] at this; simp only at this; omega
    by_cases hlt : m < l.length
    · obtain ⟨c, hc⟩ : ∃ c, l[m]? = some c := ⟨_, List.getElem?_eq_getElem hlt⟩
      obtain ⟨gc, hq, kc⟩ := CLS.out _ HREL.out.fr m c hc
      have ht : l.take (m + 1) = l.take m ++ [c] := by rw [List.take_succ_eq_append_getElem hlt, (List.getElem?_eq_some_iff.1 hc).2]
      have HNX := hid (show numsT v (l.take (m + 1)) st0 = (L ++ [(numT v c st).1], (numT v c st).2) by rw [ht, numsT_snoc, HL.out])
      have NUM := hid (number_any b bt bv br v c st wr.drew (HREL.out.tk.fr0 (Fr.refl _).drew) (HREL.out.rd.fr (Fr.refl (X := No) _).drew id))
      have HB9 := hid (two_ty HREL.out.tk HREL.out.rd b9 _ _ HREL.out.box.cells (.inr (.inr rfl)))
      generalize numT v c st = R at NUM HNX
      obtain ⟨n, st'⟩ := R
      simp only at NUM HNX
      obtain ⟨k0, k1, k2, k3, f0, f1, f2, f3⟩ := HREL.out.box.cells4
      obtain ⟨c0, c1, c2, c3, c4, f9⟩ := HREL.out.tk.cells
      have i1 : (m : Int) < (l.length : Int) := by omega
      have i2 : (0 : Int) ≤ (m : Int) := by omega
      have i4 : (m : Int) + 1 ≤ 1000001 := by omega
      have HQ := hid hq
      unfold clsV at kc
      rw [hq]
      simp only at k0 k1 k2 k3
      subst hLl
      clear hc ht hq
      go_upto_region 13 with fail
      obtain ⟨i0, hi, hz0, hz1, hz2⟩ := info_parts infoI64
      have nX : ¬ NumX wr b bt w.heap.size 2 b9 := fun hx => by
        rcases hx with hx | hx
        · exact HB9.out hx
        · exact RsT.ofT HREL.out.box.cells (by decide) hx
      have SK := hid (fun w' (h : Fr (NumX wr b bt w.heap.size 2) wr w') => (⟨h, h.cell k2 nX⟩ : Fr (NumX wr b bt w.heap.size 2) wr w' ∧ w'.cell? ⟨b9, 2, none⟩ = some (.slice s2.qn L.length s2.cn)))
      have hS0 := SK.out wr.drew (Fr.refl _).drew
      have hbs : w.heap.size ≤ wr.heap.size := Nat.le_trans (by omega) (Nat.le_of_lt HREL.out.box.lt)
      refine wp_region_but (fun w' => Fr (NumX wr b bt w.heap.size 2) wr w' ∧ w'.cell? ⟨b9, 2, none⟩ = some (.slice s2.qn L.length s2.cn)) 9 (by kernel_rfl) ?_
      refine wpAnyL_take (i := 0) (v := ?_) rfl (by kernel_rfl) (by kernel_rfl) (by kernel_rfl) (by kernel_rfl) (fun _ _ _ h => h) hS0 (Or.inl ⟨by rfl, ?_⟩) ?_
      rotate_left
      · intro w hSw; obtain ⟨_, _⟩ := hSw; go_simp; first | done | (with_reducible rfl)
      go_simp
      refine wpAnyL_take (i := 1) (v := ?_) rfl (by kernel_rfl) (by kernel_rfl) (by kernel_rfl) (by kernel_rfl) (fun _ _ _ h => h) hS0 (Or.inl ⟨by rfl, ?_⟩) ?_
      rotate_left
      · intro w hSw; obtain ⟨_, _⟩ := hSw; go_simp; first | done | (with_reducible rfl)
      go_simp
      refine wpAnyL_take (i := 2) (v := ?_) rfl (by kernel_rfl) (by kernel_rfl) (by kernel_rfl) (by kernel_rfl) (fun _ _ _ h => h) hS0 (Or.inl ⟨by rfl, ?_⟩) ?_
      rotate_left
      · intro w hSw; obtain ⟨_, _⟩ := hSw; go_simp; first | done | (with_reducible rfl)
      go_simp
      refine wpAnyL_take (i := 3) (v := ?_) rfl (by kernel_rfl) (by kernel_rfl) (by kernel_rfl) (by kernel_rfl) (fun _ _ _ h => h) hS0 (Or.inl ⟨by rfl, ?_⟩) ?_
      rotate_left
      · intro w hSw; obtain ⟨_, _⟩ := hSw; go_simp; first | done | (with_reducible rfl)
      go_simp
      refine wpAnyL_take (i := 4) (v := ?_) rfl (by kernel_rfl) (by kernel_rfl) (by kernel_rfl) (by kernel_rfl) (fun _ _ _ h => h) hS0 (Or.inl ⟨by rfl, ?_⟩) ?_
      rotate_left
      · intro w hSw; obtain ⟨_, _⟩ := hSw; go_simp; first | done | (with_reducible rfl)
      go_simp
      refine wpAnyL_one 5 (by kernel_rfl) rfl rfl (fun K hK => ?_)
      go_simp
      refine NUM.out.mono ?_
      rintro e5 w6 ⟨rfl, ht6, hr6, hf6⟩
      have hF6 : Fr (OnlyTwo b bt) wr w6 := ((Fr.refl _).drew).trans hf6
      have hX6 : Fr (NumX wr b bt w.heap.size 2) wr w6 := hF6.mono (fun _ _ h => .inl h)
      refine hK _ _ (fun _ => SK.out _ hX6) ?_
      clear hK K
      refine wpAnyL_one 6 (by kernel_rfl) rfl rfl (fun K hK => ?_)
      go_simp
      refine hK _ _ (fun _ => SK.out _ (hX6.alloc _)) ?_
      clear hK K
      refine wpAnyL_one 7 (by kernel_rfl) rfl rfl (fun K hK => ?_)
      have hrs6 : Rs w.heap.size w6 2 (.slice s2.qn L.length s2.cn) (L.map numV) := HREL.out.box.new.nums.frTy hF6 (fun j cur hj => two_ty HREL.out.tk HREL.out.rd j cur _ hj (.inl rfl))
      refine wp_append_rtn _ _ _ _ rfl w.heap.size 2 i0 (.int .i64 0) 8 Tryd.underlying31 hi hz0 hz1 hz2 rfl _ (L.map numV) rfl (hrs6.fr0 ((Fr.refl _).alloc _)) (by have := hF6.size; simp; omega) _ 1 [numV n] rfl (Src.ofSlice _ Tryd.underlying31 ⟨w6.heap.size, 0, none⟩ 1 1 [numV n] rfl (cells_new w6 [numV n] 2) (by intro u hu; simp at hu; subst hu; rfl)) (by simp only [List.length_map]; unfold maxLen; omega) (by simp only [List.length_map]; omega) ?_
      intro q' cp' wA hr' hfT
      have hXA : Fr (NumX wr b bt w.heap.size 2) wr wA := NumX.trans (hX6.alloc _) hfT
      have hbA := hfT.heapT (by decide) (((HREL.out.box.frTy hF6 (two_ty HREL.out.tk HREL.out.rd)).fr ((Fr.refl _).alloc (.cells #[.int .i64 n] 2))).cells)
      obtain ⟨y0, y1, y2, y3, g0, g1, g2, g3⟩ := Go.Proofs.YtnmfmedoocnofaaDoor.cells4 hbA
      have hSA := SK.out _ hXA
      refine hK _ _ (fun _ => hSA) ?_
      clear hK K
      go_simp
      refine wpAnyL_take (i := 8) (v := ?_) rfl (by kernel_rfl) (by kernel_rfl) (by kernel_rfl) (by kernel_rfl) (fun _ _ _ h => h) hSA (Or.inl ⟨by rfl, ?_⟩) ?_
      rotate_left
      · intro w hSw; obtain ⟨_, _⟩ := hSw; go_simp; first | done | (with_reducible rfl)
      go_simp
      refine wpAnyL_one 9 (by kernel_rfl) rfl rfl (fun K hK => ?_)
      go_simp
      refine hK _ _ (fun h => absurd rfl h) ?_
      clear hK K
      refine wpAnyL_done (by kernel_rfl) ?_ _
      have e9 : L.map numV ++ [numV n] = (L ++ [n]).map numV := by simp
      rw [e9] at hr'
      simp only [List.length_map, List.length_append, List.length_cons, List.length_nil, Nat.zero_add] at hr' ⊢
      have HRN := hid (HREL.out.num (n := n) (v := .int .i64 n) hF6 ht6 hr6 hfT hr')
      clear e9 hr' hfT hrs6 hX6 hXA hbA hSA hS0 hF6 hf6 ht6 hr6 k0 k1 k2 k3 f0 f1 f2 f3 y0 y1 y2 y3 g0 g1 g2 g3 SK nX
      go_wp2_with fail
      rw [← HQ.out]
      go_roundg (gk - 1)
      case measure => omega
      case rel => exact ⟨L.length + 1, _, L ++ [n], st', by omega, by omega, by go_num, HNX, hid HRN.out⟩
    · obtain rfl : m = l.length := by omega
      have hN2 : N = (L, st) := by rw [← HN.out, ← HL.out, List.take_length]
      subst hN2
      clear hlt hm hk HL HN CLS hLl
      rename World => wr9
      rcases t with _ | _
      · have HRELF := HREL
        obtain ⟨k0, k1, k2, k3, f0, f1, f2, f3⟩ := HRELF.out.box.cells4
        obtain ⟨c0, c1, c2, c3, c4, f9⟩ := HRELF.out.tk.cells
        have HZZ := hid (ZER.out _ HRELF.out.fr)
        obtain ⟨y0, y1, y2, y3, z0, z1, z2, z3⟩ := Go.Proofs.YtnmfmedoocnofaaDoor.cells4 HZZ.out
        have nbt : bt ≠ w.heap.size := fun hx => ne_of_cells HRELF.out.tk.tk HZZ.out (by decide) hx
        simp only at k0 k1 k2 k3
        by_cases he : st.1 = 0
        · have bz : ((st.1 : Int) != 0) = false := by rw [he]; rfl
          have hE : endT v k L (([] : List (List UInt8)), st) = ((⟨v, k, L, ([] : List (List UInt8))⟩, 0), st.2) := by unfold endT; simp only; rw [if_pos he]
          have HE := hid hE
          clear he hE
          go_wp2_with fail
          have hst := BoxAt.fill (b := w.heap.size) (B := w.heap.size) HZZ.out (Nat.le_refl _) HRELF.out.box.new
          refine bodyPost_ret (results_row_tmp rfl _ _ w.heap.size 34 _ (0, 0) _ (.int .i64 0) rfl hst.1.cells rfl Tryd.underlying34 rfl (by kernel_rfl)) rfl ?_
          show GetPost w b (endT v k L (([] : List (List UInt8)), st)) _ _
          rw [HE.out]
          exact ⟨_, rfl, hst.1.new, HRELF.out.rd.fr hst.2 (fun hx => hb0 hx), (FIN.out _ HRELF.out.fr).trans' hst.2 (fun i hi hx => absurd hi (by rw [show i = w.heap.size from hx]; omega))⟩
        · have bz : ((st.1 : Int) != 0) = true := by simpa using he
          have hE : endT v k L (([] : List (List UInt8)), st) = ((zeroE, st.1), st.2) := by unfold endT; simp only; rw [if_neg he]
          have HE := hid hE
          have SK := hid (fun w' (h : Fr (Only w.heap.size) wr9 w') => (⟨h, h.cell c3 nbt⟩ : Fr (Only w.heap.size) wr9 w' ∧ w'.cell? ⟨bt, 1, none⟩ = some (.int .i64 st.1)))
          clear he hE
          go_upto_region 18 with fail
          go_region_held3 (fun w' => Fr (Only w.heap.size) wr9 w' ∧ w'.cell? ⟨bt, 1, none⟩ = some (.int .i64 st.1))
            ((go_split_ands; refine SK.out _ ?_; repeat (first | exact Fr.refl _ | refine Fr.drew ?_ | refine Fr.set_only ?_ _ _)))
            (fail)
          all_goals
            obtain ⟨hst, hfr⟩ := store4 (w := wr9.drew) HZZ.out (.int .u8 0) (.int .u8 0) (.slice none 0 0) (.slice none 0 0)
            go_wp2_with fail
            refine bodyPost_ret (results_row_tmp rfl _ _ w.heap.size 34 _ (0, 0) _ (.int .i64 st.1) rfl hst rfl Tryd.underlying34 rfl (by kernel_rfl)) rfl ?_
            show GetPost w b (endT v k L (([] : List (List UInt8)), st)) _ _
            rw [HE.out]
            exact ⟨⟨none, 0, none, 0⟩, rfl, EvNew.zero _ _, (HRELF.out.rd.fr ((Fr.refl (X := No) _).drew) id).fr hfr (fun hx => hb0 hx), (FIN.out _ HRELF.out.fr).drew.trans' hfr (fun i hi hx => absurd hi (by rw [show i = w.heap.size from hx]; omega))⟩
      · have NAM := hid (name_any b bt bv br st wr9.drew (HREL.out.tk.fr0 (Fr.refl _).drew) (HREL.out.rd.fr (Fr.refl (X := No) _).drew id))
        have HB9 := hid (two_ty HREL.out.tk HREL.out.rd b9 _ _ HREL.out.box.cells (.inr (.inr rfl)))
        have hts : tsT true st = ([(nameT st).1], (nameT st).2) := rfl
        generalize nameT st = R at NAM hts
        obtain ⟨x, st'⟩ := R
        simp only at NAM hts
        have HTS := hid hts
        clear hts
        obtain ⟨k0, k1, k2, k3, f0, f1, f2, f3⟩ := HREL.out.box.cells4
        simp only at k0 k1 k2 k3
        go_upto_region 16 with fail
        obtain ⟨i0, hi, hz0, hz1, hz2⟩ := info_parts infoStr
        have nX : ¬ NumX wr9 b bt w.heap.size 9 b9 := fun hx => by
          rcases hx with hx | hx
          · exact HB9.out hx
          · exact RsT.ofT HREL.out.box.cells (by decide) hx
        have SK := hid (fun w' (h : Fr (NumX wr9 b bt w.heap.size 9) wr9 w') => (⟨h, h.cell k3 nX⟩ : Fr (NumX wr9 b bt w.heap.size 9) wr9 w' ∧ w'.cell? ⟨b9, 3, none⟩ = some (.slice s2.qt 0 s2.ct)))
        have hS0 := SK.out wr9.drew (Fr.refl _).drew
        have hbs : w.heap.size ≤ wr9.heap.size := Nat.le_trans (by omega) (Nat.le_of_lt HREL.out.box.lt)
        refine wp_region_but (fun w' => Fr (NumX wr9 b bt w.heap.size 9) wr9 w' ∧ w'.cell? ⟨b9, 3, none⟩ = some (.slice s2.qt 0 s2.ct)) 7 (by kernel_rfl) ?_
        refine wpAnyL_take (i := 0) (v := ?_) rfl (by kernel_rfl) (by kernel_rfl) (by kernel_rfl) (by kernel_rfl) (fun _ _ _ h => h) hS0 (Or.inl ⟨by rfl, ?_⟩) ?_
        rotate_left
        · intro w hSw; obtain ⟨_, _⟩ := hSw; go_simp; first | done | (with_reducible rfl)
        go_simp
        refine wpAnyL_take (i := 1) (v := ?_) rfl (by kernel_rfl) (by kernel_rfl) (by kernel_rfl) (by kernel_rfl) (fun _ _ _ h => h) hS0 (Or.inl ⟨by rfl, ?_⟩) ?_
        rotate_left
        · intro w hSw; obtain ⟨_, _⟩ := hSw; go_simp; first | done | (with_reducible rfl)
        go_simp
        refine wpAnyL_take (i := 2) (v := ?_) rfl (by kernel_rfl) (by kernel_rfl) (by kernel_rfl) (by kernel_rfl) (fun _ _ _ h => h) hS0 (Or.inl ⟨by rfl, ?_⟩) ?_
        rotate_left
        · intro w hSw; obtain ⟨_, _⟩ := hSw; go_simp; first | done | (with_reducible rfl)
        go_simp
        refine wpAnyL_one 3 (by kernel_rfl) rfl rfl (fun K hK => ?_)
        go_simp
        unfold strV at NAM
        refine NAM.out.mono ?_
        rintro e5 w6 ⟨rfl, ht6, hr6, hf6⟩
        have hF6 : Fr (OnlyTwo b bt) wr9 w6 := ((Fr.refl _).drew).trans hf6
        have hX6 : Fr (NumX wr9 b bt w.heap.size 9) wr9 w6 := hF6.mono (fun _ _ h => .inl h)
        refine hK _ _ (fun _ => SK.out _ hX6) ?_
        clear hK K
        refine wpAnyL_one 4 (by kernel_rfl) rfl rfl (fun K hK => ?_)
        go_simp
        refine hK _ _ (fun _ => SK.out _ (hX6.alloc _)) ?_
        clear hK K
        refine wpAnyL_one 5 (by kernel_rfl) rfl rfl (fun K hK => ?_)
        have hrs6 : Rs w.heap.size w6 9 (.slice s2.qt 0 s2.ct) [] := HREL.out.box.new.texts.frTy hF6 (fun j cur hj => two_ty HREL.out.tk HREL.out.rd j cur _ hj (.inr (.inl rfl)))
        refine wp_append_rtn _ _ _ _ rfl w.heap.size 9 i0 (.string ⟨#[]⟩) 16 Tryd.underlying32 hi hz0 hz1 hz2 rfl _ [] rfl (hrs6.fr0 ((Fr.refl _).alloc _)) (by have := hF6.size; simp; omega) _ 1 [strV x] rfl (Src.ofSlice _ Tryd.underlying32 ⟨w6.heap.size, 0, none⟩ 1 1 [strV x] rfl (cells_new w6 [strV x] 9) (by intro u hu; simp at hu; subst hu; rfl)) (by unfold maxLen; simp) (by simp) ?_
        intro q' cp' wA hr' hfT
        have hXA : Fr (NumX wr9 b bt w.heap.size 9) wr9 wA := NumX.trans (hX6.alloc _) hfT
        have hbA := hfT.heapT (by decide) (((HREL.out.box.frTy hF6 (two_ty HREL.out.tk HREL.out.rd)).fr ((Fr.refl _).alloc (.cells #[strV x] 9))).cells)
        obtain ⟨y0, y1, y2, y3, g0, g1, g2, g3⟩ := Go.Proofs.YtnmfmedoocnofaaDoor.cells4 hbA
        have hSA := SK.out _ hXA
        refine hK _ _ (fun _ => hSA) ?_
        clear hK K
        go_simp
        refine wpAnyL_take (i := 6) (v := ?_) rfl (by kernel_rfl) (by kernel_rfl) (by kernel_rfl) (by kernel_rfl) (fun _ _ _ h => h) hSA (Or.inl ⟨by rfl, ?_⟩) ?_
        rotate_left
        · intro w hSw; obtain ⟨_, _⟩ := hSw; go_simp; first | done | (with_reducible rfl)
        go_simp
        refine wpAnyL_one 7 (by kernel_rfl) rfl rfl (fun K hK => ?_)
        go_simp
        refine hK _ _ (fun h => absurd rfl h) ?_
        clear hK K
        refine wpAnyL_done (by kernel_rfl) ?_ _
        simp only [List.nil_append, List.length_cons, List.length_nil, Nat.zero_add] at hr' ⊢
        have HRELF := hid (HREL.out.txt (x := x) (v := strV x) hF6 ht6 hr6 hfT (by simpa using hr'))
        clear hr' hfT hrs6 hX6 hXA hbA hSA hS0 hF6 hf6 ht6 hr6 k0 k1 k2 k3 f0 f1 f2 f3 y0 y1 y2 y3 g0 g1 g2 g3 SK nX
        simp only [List.length_nil, Nat.zero_add, List.nil_append] at HRELF
        generalize wA.setCell ⟨b9, 3, none⟩ (.slice q' 1 cp') = wF at HRELF ⊢
        clear HREL
        obtain ⟨k0, k1, k2, k3, f0, f1, f2, f3⟩ := HRELF.out.box.cells4
        obtain ⟨c0, c1, c2, c3, c4, f9⟩ := HRELF.out.tk.cells
        have HZZ := hid (ZER.out _ HRELF.out.fr)
        obtain ⟨y0, y1, y2, y3, z0, z1, z2, z3⟩ := Go.Proofs.YtnmfmedoocnofaaDoor.cells4 HZZ.out
        have nbt : bt ≠ w.heap.size := fun hx => ne_of_cells HRELF.out.tk.tk HZZ.out (by decide) hx
        simp only at k0 k1 k2 k3
        by_cases he : st'.1 = 0
        · have bz : ((st'.1 : Int) != 0) = false := by rw [he]; rfl
          have hE : endT v k L (tsT true st) = ((⟨v, k, L, [x]⟩, 0), st'.2) := by rw [HTS.out]; unfold endT; simp only; rw [if_pos he]
          have HE := hid hE
          clear he hE
          go_wp2_with fail
          have hst := BoxAt.fill (b := w.heap.size) (B := w.heap.size) HZZ.out (Nat.le_refl _) HRELF.out.box.new
          refine bodyPost_ret (results_row_tmp rfl _ _ w.heap.size 34 _ (0, 0) _ (.int .i64 0) rfl hst.1.cells rfl Tryd.underlying34 rfl (by kernel_rfl)) rfl ?_
          show GetPost w b (endT v k L (tsT true st)) _ _
          rw [HE.out]
          exact ⟨_, rfl, hst.1.new, HRELF.out.rd.fr hst.2 (fun hx => hb0 hx), (FIN.out _ HRELF.out.fr).trans' hst.2 (fun i hi hx => absurd hi (by rw [show i = w.heap.size from hx]; omega))⟩
        · have bz : ((st'.1 : Int) != 0) = true := by simpa using he
          have hE : endT v k L (tsT true st) = ((zeroE, st'.1), st'.2) := by rw [HTS.out]; unfold endT; simp only; rw [if_neg he]
          have HE := hid hE
          have SK := hid (fun w' (h : Fr (Only w.heap.size) wF w') => (⟨h, h.cell c3 nbt⟩ : Fr (Only w.heap.size) wF w' ∧ w'.cell? ⟨bt, 1, none⟩ = some (.int .i64 st'.1)))
          clear he hE
          go_upto_region 18 with fail
          go_region_held3 (fun w' => Fr (Only w.heap.size) wF w' ∧ w'.cell? ⟨bt, 1, none⟩ = some (.int .i64 st'.1))
            ((go_split_ands; refine SK.out _ ?_; repeat (first | exact Fr.refl _ | refine Fr.drew ?_ | refine Fr.set_only ?_ _ _)))
            (fail)
          all_goals
            obtain ⟨hst, hfr⟩ := store4 (w := wF.drew) HZZ.out (.int .u8 0) (.int .u8 0) (.slice none 0 0) (.slice none 0 0)
            go_wp2_with fail
            refine bodyPost_ret (results_row_tmp rfl _ _ w.heap.size 34 _ (0, 0) _ (.int .i64 st'.1) rfl hst rfl Tryd.underlying34 rfl (by kernel_rfl)) rfl ?_
            show GetPost w b (endT v k L (tsT true st)) _ _
            rw [HE.out]
            exact ⟨⟨none, 0, none, 0⟩, rfl, EvNew.zero _ _, (HRELF.out.rd.fr ((Fr.refl (X := No) _).drew) id).fr hfr (fun hx => hb0 hx), (FIN.out _ HRELF.out.fr).drew.trans' hfr (fun i hi hx => absurd hi (by rw [show i = w.heap.size from hx]; omega))⟩
end Go.Proofs.YtnmfmedoocnofaaDoor
