/-
  SchemaBounds: the walk.
-/
import Derived.Test.YtbihbkjdngjgkaaDoorAwake5
import Derived.Test.YtbihbkjdngjgkaaDoorLong5
import Derived.Test.YtbihbkjdngjgkaaDoorBox
import Derived.Test.YtbihbkjdngjgkaaDoorMayPlain
import Derived.Test.YtbihbkjdngjgkaaDoorAft
import Derived.Deep.Cut
import Derived.Deep.RegionHeld3
namespace Go.Proofs.YtbihbkjdngjgkaaDoor
open Go.RowKit

theorem bbox4 {w : World} {b : Nat} {v0 v1 v2 v3 : Value} {t : TypeId} (h : w.heap[b]? = some (.cells #[v0, v1, v2, v3] t (0, 0))) :
    w.cell? ⟨b, 0, none⟩ = some v0 ∧ w.cell? ⟨b, 1, none⟩ = some v1 ∧ w.cell? ⟨b, 2, none⟩ = some v2 ∧ w.cell? ⟨b, 3, none⟩ = some v3 := by
  refine ⟨?_, ?_, ?_, ?_⟩ <;> simp [World.cell?, h]
theorem bwrap_u64 (n : Int) : ∃ A : Nat, IntKind.u64.wrap n = (A : Int) ∧ A ≤ 18446744073709551615 := by
  have h : IntKind.u64.wrap n = n % 18446744073709551616 := by simp [IntKind.wrap, IntKind.signed, IntKind.bits]
  refine ⟨(n % 18446744073709551616).toNat, ?_, by omega⟩
  rw [h]; omega
theorem ToldPost.at' {w w' : World} {x : List UInt8 × Bool × Bool} {en : Ending} (h : ToldPost w x en w') :
    ∃ q c, en = .returned (.tuple #[.slice q x.1.length c, .bool x.2.1, .bool x.2.2]) ∧ SlAt w' q (x.1.map clsV) ∧ Fr No w w' := by
  obtain ⟨L, h1, h2, h3⟩ := h
  obtain ⟨q, c, rfl⟩ := h2.shape
  simp only [List.length_map] at h1 h2 ⊢
  exact ⟨q, c, h1, h2.at_, h3⟩

set_option maxHeartbeats 8000000 in
set_option maxRecDepth 100000 in
theorem schemaBounds_any (s : EvP) (e : Ev) (at_ n : Int) (w : World) (he : EvAt w s e) (hes : e.nums.length ≤ 17592186044416 ∧ e.texts.length ≤ 8796093022208) (hcap : e.nums.length ≤ s.cn)
    (hn : -9223372036854775808 ≤ n ∧ n ≤ 9223372036854775807) (hkt : KT w) (hct : CT w) :
    Calls Tryd.prog 3 #[evV s e, .int .i64 at_, .int .i64 n] w fun en w' => en = .returned (.bool true) ∧ Fr No w w' := by
  have AW := hid (fun w1 (h : Fr No w w1) => awake5_any w1 (hkt.fr h) (hct.fr h))
  have LE := hid (fun w1 (h : Fr No w w1) => long5_any s e w1 (he.fr h) (by omega) (by omega))
  have FE := hid (fun w1 (h : Fr No w w1) => (fields_any e.v e.kind w1 he.v8 he.k8 (hkt.fr h)).mono fun _ _ h => ToldPost.at' h)
  have ME := hid (fun w1 (h : Fr No w w1) => may_any s e w1 (he.fr h) (hkt.fr h))
  have HF0 : Fr No w (w.alloc (.cells #[.int .u8 e.v, .int .u8 e.kind, .slice s.qn e.nums.length s.cn, .slice s.qt e.texts.length s.ct] 25)) := (Fr.refl w).alloc _
  have g0 := Go.heap_alloc_new w (.cells #[.int .u8 e.v, .int .u8 e.kind, .slice s.qn e.nums.length s.cn, .slice s.qt e.texts.length s.ct] 25)
  have C0 := hid (fun w1 (h : Fr No _ w1) => bbox4 (h.heap0 g0))
  have hlen := fieldsS_length e.v e.kind
  have hmp := fun l t i h hm => @mayS_parts e l t i h hm
  have hml := fun (f : Ev) l t i h a b c => @mayS_len e f l t i h a b c
  have hmt := fun (f : Ev) l t i h a b c => @mayS_text e f l t i h a b c
  have hms := fun (f : Ev) l t i h hm k c m a b => @mayS_set e f l t i h hm k c m a b
  clear g0
  generalize hfs : fieldsS e.v e.kind = x at FE hlen
  obtain ⟨l, t, i⟩ := x
  replace hmp := hid (hmp l t i hfs)
  replace hml := hid (fun f => hml f l t i hfs)
  replace hmt := hid (fun f => hmt f l t i hfs)
  replace hms := hid (fun f => hms f l t i hfs)
  simp only at FE hlen
  clear hfs
  unfold evV at *
  go_enter Tryd.func3, Tryd.ntmps3
  go_upto_region 4 with (first
    | (go_at_call 11; (with_reducible refine (LE.out _ HF0).mono ?_); intro e1 w1 h1; obtain ⟨bE, rfl, hbE, hf1⟩ := h1; cases bE)
    | (go_at_call 12; (with_reducible refine (AW.out _ (HF0.trans hf1)).mono ?_); rintro e2 w2 ⟨rfl, hf2⟩; obtain ⟨c0, c1, c2, c3⟩ := C0.out _ (hf1.trans hf2))
    | (go_at_call 13; (with_reducible refine (FE.out _ (HF0.trans (hf1.trans hf2))).mono ?_); rintro e3 w3 ⟨ql, cl, rfl, SL, hf3⟩))
  all_goals first | (go_ret; exact ⟨rfl, HF0.trans (hf1.trans hf2)⟩) | skip
  have hsE := hbE trivial
  have HW := HF0.trans ((hf1.trans hf2).trans hf3)
  have CE := hid (fun w4 (h : Fr No w3 w4) => C0.out _ (((hf1.trans hf2).trans hf3).trans h))
  clear c0 c1 c2 c3
  clear C0 LE hbE HF0 hf1 hf2 hf3 w1 w2 FE
  obtain ⟨c0, c1, c2, c3⟩ := CE.out _ (Fr.refl _)
  -- region 4: may it be?
  rcases hm : mayS e with _ | _
  · rw [hm] at ME
    go_wp2_with (first | (go_at_call 14; (with_reducible refine (ME.out _ HW).mono ?_); rintro e4 w4 ⟨rfl, hf4⟩))
    go_ret
    exact ⟨rfl, HW.trans hf4⟩
  rw [hm] at ME
  obtain ⟨rfl, hll, hfit, htt, htf⟩ := hmp.out hm
  go_upto_region 6 with (first | (go_at_call 14; (with_reducible refine (ME.out _ HW).mono ?_); rintro e4 w4 ⟨rfl, hf4⟩; clear c0 c1 c2 c3; obtain ⟨c0, c1, c2, c3⟩ := CE.out _ hf4))
  have hlT : e.texts.length = if t then 1 else 0 := by
    cases t
    · rw [htf rfl]; rfl
    · obtain ⟨sx, hsx, _⟩ := htt rfl
      rw [hsx]; rfl
  have HLL := hid hll
  have HLT := hid hlT
  have HTT := hid htt
  have HTF := hid htf
  have HFIT := hid hfit
  clear hll hlT htt htf hfit
  go_cut [60] from 37 (fun x w' => x = .bool false ∧ w' = w4)
  case first =>
    have q1 : ((l.length : Int) != (e.nums.length : Int)) = false := by rw [HLL.out]; simp
    have q2 : decide ((1 : Int) < (e.texts.length : Int)) = false := by have := HLT.out; cases t <;> simp at this <;> simp [this]
    have q3 : ((e.texts.length : Int) == 1) = t := by have := HLT.out; cases t <;> simp at this <;> simp [this]
    have q4 : (t != t) = false := by cases t <;> rfl
    go_wp2_with fail
    go_meet
    case rel => exact ⟨rfl, rfl⟩
  obtain ⟨rfl, rfl⟩ := hcut
  replace HW := HW.trans hf4
  replace SL := SL.fr hf4
  replace CE := hid (fun w5 h => CE.out w5 (hf4.trans h))
  clear c0 c1 c2 c3 hf4
  have OE := hid (fun w5 (h : Fr No wc w5) => own5_any s e w5 (he.fr (HW.trans h)) (by have := hsE.1; omega) (by have := hsE.2.1; omega))
  unfold evV at OE
  rename World => w4
  -- region 8 : a box of its own
  go_upto_region 8 with fail
  go_cut [10] from 61 (fun x w' => Fr No w4 w' ∧ ∃ b s', x = .pointer (some ⟨b, 0, none⟩) ∧ BoxAt w4.heap.size w' b s' e)
  case first =>
    obtain ⟨c0, c1, c2, c3⟩ := CE.out _ (Fr.refl _)
    go_wp2_with (first | (go_at_call 15; (with_reducible refine (OE.out _ (Fr.refl _)).mono ?_); intro en wO hO; obtain ⟨sO, rfl, hnO, hfO⟩ := hO; unfold evV))
    go_meet
    case rel => exact ⟨(BoxAt.made hfO hnO).2, _, sO, rfl, (BoxAt.made hfO hnO).1⟩
  obtain ⟨h5, bx, sx, rfl, BX⟩ := hcut
  rename World => w5
  -- region 9 : a row appended to
  go_upto_region 9 with fail
  go_cut [] from 63 (fun w' => Fr No w4 w' ∧ ∃ s' e', BoxAt w4.heap.size w' bx s' e' ∧ Hid (e' = { e with nums := e.nums ++ [n] }))
  case first =>
    obtain ⟨i0, hi, hz0, hz1, hz2⟩ := info_parts infoI64
    obtain ⟨k0, k1, k2, k3, z0, z1, z2, z3⟩ := BX.cells4
    have BA := BX.fr ((Fr.refl w5).alloc (.cells #[Value.int .i64 n] 2))
    have hlb : e.nums.length ≤ 1000 := by have := hsE.1; have := hsE.2.1; omega
    have hle : w4.heap.size ≤ (w5.alloc (.cells #[Value.int .i64 n] 2)).heap.size := by have := h5.size; simp; omega
    go_wp2_with (at_builtin; refine wpList_append_rt rfl _ _ 22 _ rfl w4.heap.size 2 i0 (.int .i64 0) 8 Tryd.underlying22 hi hz0 hz1 hz2 rfl _ (e.nums.map numV) rfl BA.new.nums hle _ 1 [Value.int .i64 n] rfl (Src.ofSlice _ Tryd.underlying22 ⟨w5.heap.size, 0, none⟩ 1 1 [Value.int .i64 n] rfl (cells_new _ [Value.int .i64 n] _) (by intro u hu; simp at hu; subst hu; rfl)) ?c3 ?c4 ?_)
    case c3 => simp only [List.length_map]; unfold maxLen; omega
    case c4 => simp only [List.length_map]; omega
    intro v' wA hr' hfT
    obtain ⟨q', cp', rfl⟩ := hr'.shape
    have hN' : (e.nums.map numV ++ [Value.int .i64 n]).length = e.nums.length + 1 := by simp
    have hN : e.nums.length + 1 = (e.nums ++ [n]).length := by simp
    have hr2 : Rs w4.heap.size wA 2 (.slice q' (e.nums.length + 1) cp') ((e.nums ++ [n]).map numV) := by
      have e9 : (e.nums ++ [n]).map numV = e.nums.map numV ++ [Value.int .i64 n] := by simp [numV]
      rw [hN'] at hr'
      rw [e9]; exact hr'
    try rw [hN']
    clear hr'
    have BS := BA.setN hfT hN hr2
    have hb' := hfT.heapT (by decide) BA.cells
    obtain ⟨j0, j1, j2, j3, y0, y1, y2, y3⟩ := Go.Proofs.YtbihbkjdngjgkaaDoor.cells4 hb'
    have hFA := (h5.alloc (.cells #[Value.int .i64 n] 2)).newT (Nat.le_refl _) hfT
    clear hr2 BA hN hN'
    go_wp2_with fail
    go_meet
    case rel => exact ⟨BX.fr_set hFA (Nat.le_refl _) 2 _, _, _, BS, hid rfl⟩
  obtain ⟨h6, sx2, eX, BX6, hX⟩ := hcut
  rename World => w6
  clear BX h5
  -- region 10 : a box of its own
  go_upto_region 10 with fail
  go_cut [11] from 69 (fun x w' => Fr No w6 w' ∧ ∃ b s', x = .pointer (some ⟨b, 0, none⟩) ∧ BoxAt w6.heap.size w' b s' e)
  case first =>
    obtain ⟨c0, c1, c2, c3⟩ := CE.out _ h6
    go_wp2_with (first | (go_at_call 15; (with_reducible refine (OE.out _ h6).mono ?_); intro en wO hO; obtain ⟨sO, rfl, hnO, hfO⟩ := hO; unfold evV))
    go_meet
    case rel => exact ⟨(BoxAt.made hfO hnO).2, _, sO, rfl, (BoxAt.made hfO hnO).1⟩
  obtain ⟨h67, by_, sy, rfl, BY⟩ := hcut
  rename World => w7
  -- region 11 : a row appended to
  go_upto_region 11 with fail
  go_cut [] from 71 (fun w' => Fr No w6 w' ∧ ∃ s' e', BoxAt w6.heap.size w' by_ s' e' ∧ Hid (e' = { e with texts := e.texts ++ [[109, 111, 114, 101]] }))
  case first =>
    obtain ⟨i0, hi, hz0, hz1, hz2⟩ := info_parts infoStr
    obtain ⟨k0, k1, k2, k3, z0, z1, z2, z3⟩ := BY.cells4
    have BA := BY.fr ((Fr.refl w7).alloc (.cells #[Value.string ⟨#[109, 111, 114, 101]⟩] 9))
    have hlb : e.texts.length ≤ 1000 := by have := hsE.1; have := hsE.2.1; omega
    have hle : w6.heap.size ≤ (w7.alloc (.cells #[Value.string ⟨#[109, 111, 114, 101]⟩] 9)).heap.size := by have := h67.size; simp; omega
    go_wp2_with (at_builtin; refine wpList_append_rt rfl _ _ 23 _ rfl w6.heap.size 9 i0 (.string ⟨#[]⟩) 16 Tryd.underlying23 hi hz0 hz1 hz2 rfl _ (e.texts.map strV) rfl BA.new.texts hle _ 1 [Value.string ⟨#[109, 111, 114, 101]⟩] rfl (Src.ofSlice _ Tryd.underlying23 ⟨w7.heap.size, 0, none⟩ 1 1 [Value.string ⟨#[109, 111, 114, 101]⟩] rfl (cells_new _ [Value.string ⟨#[109, 111, 114, 101]⟩] _) (by intro u hu; simp at hu; subst hu; rfl)) ?c3 ?c4 ?_)
    case c3 => simp only [List.length_map]; unfold maxLen; omega
    case c4 => simp only [List.length_map]; omega
    intro v' wA hr' hfT
    obtain ⟨q', cp', rfl⟩ := hr'.shape
    have hN' : (e.texts.map strV ++ [Value.string ⟨#[109, 111, 114, 101]⟩]).length = e.texts.length + 1 := by simp
    have hN : e.texts.length + 1 = (e.texts ++ [[109, 111, 114, 101]]).length := by simp
    have hr2 : Rs w6.heap.size wA 9 (.slice q' (e.texts.length + 1) cp') ((e.texts ++ [[109, 111, 114, 101]]).map strV) := by
      have e9 : (e.texts ++ [[109, 111, 114, 101]]).map strV = e.texts.map strV ++ [Value.string ⟨#[109, 111, 114, 101]⟩] := by simp [strV]
      rw [hN'] at hr'
      rw [e9]; exact hr'
    try rw [hN']
    clear hr'
    have BS := BA.setT hfT hN hr2
    have hb' := hfT.heapT (by decide) BA.cells
    obtain ⟨j0, j1, j2, j3, y0, y1, y2, y3⟩ := Go.Proofs.YtbihbkjdngjgkaaDoor.cells4 hb'
    have hFA := (h67.alloc (.cells #[Value.string ⟨#[109, 111, 114, 101]⟩] 9)).newT (Nat.le_refl _) hfT
    clear hr2 BA hN hN'
    go_wp2_with fail
    go_meet
    case rel => exact ⟨BY.fr_set hFA (Nat.le_refl _) 3 _, _, _, BS, hid rfl⟩
  obtain ⟨h68, sy2, eY, BY8, hY⟩ := hcut
  rename World => w8
  have hne : bx ≠ by_ := by have := BX6.lt; have := BY8.lo; omega
  clear BY h67
  replace BX6 := BX6.fr h68
  have h8 := h6.trans h68
  -- region 12: with one more it may not be
  go_upto_region 12 with fail
  go_cut [81] from 76 (fun x w' => x = .bool false ∧ Fr No w8 w')
  case first =>
    have AX : ∀ w', Fr No w8 w' → EvAt w' sx2 eX := fun w' h => (BX6.fr h).at_ (by rw [hX.out]; exact he.v8) (by rw [hX.out]; exact he.k8) (by rw [hX.out]; show (e.nums ++ [n]).length ≤ _; rw [List.length_append]; have := hsE.1; simp only [List.length_cons, List.length_nil]; omega) (by rw [hX.out]; exact he.tl) (by rw [hX.out]; exact he.tx) (by
      rw [hX.out]
      intro m hm
      rcases List.mem_append.1 hm with hm | hm
      · exact he.nr m hm
      · simp at hm; subst hm; exact hn)
    have AY : ∀ w', Fr No w8 w' → EvAt w' sy2 eY := fun w' h => (BY8.fr h).at_ (by rw [hY.out]; exact he.v8) (by rw [hY.out]; exact he.k8) (by rw [hY.out]; exact he.nl) (by rw [hY.out]; show (e.texts ++ [[109, 111, 114, 101]]).length ≤ _; rw [List.length_append]; have := hsE.2.1; simp only [List.length_cons, List.length_nil]; omega) (by
      rw [hY.out]
      intro m hm
      rcases List.mem_append.1 hm with hm | hm
      · exact he.tx m hm
      · simp at hm; subst hm; decide) (by rw [hY.out]; exact he.nr)
    have X1 := hid (fun w' (h : Fr No w8 w') => may_any sx2 eX w' (AX w' h) (hkt.fr (HW.trans (h8.trans h))))
    have X2 := hid (fun w' (h : Fr No w8 w') => may_any sy2 eY w' (AY w' h) (hkt.fr (HW.trans (h8.trans h))))
    rw [hml.out eX (by rw [hX.out]) (by rw [hX.out]) (by rw [hX.out]; show l.length ≠ (e.nums ++ [n]).length; rw [List.length_append]; have := HLL.out; simp only [List.length_cons, List.length_nil]; omega)] at X1
    rw [hmt.out eY (by rw [hY.out]) (by rw [hY.out]) (by
      rw [hY.out]
      show (if t then oneName (e.texts ++ [[109, 111, 114, 101]]) else (e.texts ++ [[109, 111, 114, 101]]).isEmpty) = false
      cases t
      · rw [HTF.out rfl]; rfl
      · obtain ⟨s9, hs9, _⟩ := HTT.out rfl
        rw [hs9]; rfl)] at X2
    clear AX AY
    have hF : Fr No w8 w8 := Fr.refl _
    obtain ⟨p0, p1, p2, p3, _, _, _, _⟩ := BX6.cells4
    unfold evV at *
    go_wp2_with (first
      | (go_at_call 14; (with_reducible refine (X1.out _ hF).mono ?_); rintro en wS ⟨rfl, hfS⟩; clear p0 p1 p2 p3; replace hF := hF.trans hfS; obtain ⟨p0, p1, p2, p3, _, _, _, _⟩ := (BY8.fr hF).cells4; clear hfS)
      | (go_at_call 14; (with_reducible refine (X2.out _ hF).mono ?_); rintro en wS ⟨rfl, hfS⟩; replace hF := hF.trans hfS; clear hfS))
    go_meet
    case rel => exact ⟨rfl, hF⟩
  obtain ⟨rfl, h89⟩ := hcut
  rename World => w9
  have h9 := h8.trans h89
  have KX : EvBox w4.heap.size w9 bx := (BX6.fr h89).evBox
  have KY : EvBox w4.heap.size w9 by_ := ((BY8.fr h89).mono h6.size).evBox
  clear BX6 BY8 h89 h8 h68 h6 hX hY
  -- region 14 (the 'if' on a text)
  go_upto_if 82 with fail
  go_cut [] from 83 (fun w' => Fr No w9 w')
  case first =>
    cases t
    · go_wp2_with fail
      go_meet
      case rel => exact Fr.refl _
    · skip
      -- region 15 : a box of its own
      go_upto_region 15 with fail
      go_cut [12] from 83 (fun x w' => Fr No w9 w' ∧ ∃ b s', x = .pointer (some ⟨b, 0, none⟩) ∧ BoxAt w9.heap.size w' b s' e)
      case first =>
        obtain ⟨c0, c1, c2, c3⟩ := CE.out _ h9
        go_wp2_with (first | (go_at_call 15; (with_reducible refine (OE.out _ h9).mono ?_); intro en wO hO; obtain ⟨sO, rfl, hnO, hfO⟩ := hO; unfold evV))
        go_meet
        case rel => exact ⟨(BoxAt.made hfO hnO).2, _, sO, rfl, (BoxAt.made hfO hnO).1⟩
      obtain ⟨h10, bz, sz, rfl, BZ⟩ := hcut
      rename World => w10
      -- region 16: no texts
      go_upto_region 16 with fail
      go_cut [] from 85 (fun w' => Fr No w9 w' ∧ ∃ s' e', BoxAt w9.heap.size w' bz s' e' ∧ Hid (e' = { e with texts := [] }))
      case first =>
        obtain ⟨k0, k1, k2, k3, z0, z1, z2, z3⟩ := BZ.cells4
        have BS := BZ.setT (Fr.refl _) (q := none) (n := 0) (c := 0) (l := []) rfl (Rs.nil _ _ _ _)
        go_wp2_with fail
        go_meet
        case rel => exact ⟨BZ.fr_set h10 (Nat.le_refl _) 3 _, _, _, BS, hid rfl⟩
      obtain ⟨h11, sz2, eZ, BZ11, hZ⟩ := hcut
      rename World => w11
      clear BZ h10
      have h11' := h9.trans h11
      -- region 17 : a box of its own
      go_upto_region 17 with fail
      go_cut [13] from 86 (fun x w' => Fr No w11 w' ∧ ∃ b s', x = .pointer (some ⟨b, 0, none⟩) ∧ BoxAt w11.heap.size w' b s' e)
      case first =>
        obtain ⟨c0, c1, c2, c3⟩ := CE.out _ h11'
        go_wp2_with (first | (go_at_call 15; (with_reducible refine (OE.out _ h11').mono ?_); intro en wO hO; obtain ⟨sO, rfl, hnO, hfO⟩ := hO; unfold evV))
        go_meet
        case rel => exact ⟨(BoxAt.made hfO hnO).2, _, sO, rfl, (BoxAt.made hfO hnO).1⟩
      obtain ⟨h1112, bw, sw, rfl, BW⟩ := hcut
      rename World => w12
      -- region 18: an empty text
      go_upto_region 18 with fail
      go_cut [] from 88 (fun w' => Fr No w11 w' ∧ ∃ e', BoxAt w11.heap.size w' bw sw e' ∧ Hid (e' = { e with texts := e.texts.set 0 [] }))
      case first =>
        have ht1 : 0 < e.texts.length := by have := HLT.out; simp at this; omega
        obtain ⟨g, c, hq, hg, hc, hz, BS⟩ := BW.storeT ht1 []
        obtain ⟨k0, k1, k2, k3, z0, z1, z2, z3⟩ := BW.cells4
        rw [hq] at k3
        have i1 : (0 : Int) < (e.texts.length : Int) := by omega
        unfold strV at BS
        go_wp2_with fail
        go_meet
        case rel => exact ⟨h1112.newOnly hg ((Fr.refl _).set_only _ _), _, BS, hid rfl⟩
      obtain ⟨h1113, eW, BW13, hWW⟩ := hcut
      rename World => w13
      replace BZ11 := BZ11.fr h1113
      have h13 := h11'.trans h1113
      clear BW h1112
      -- region 19: neither may be
      go_upto_region 19 with fail
      go_cut [96] from 91 (fun x w' => x = .bool false ∧ Fr No w13 w')
      case first =>
        obtain ⟨s9, hs9, _⟩ := HTT.out rfl
        have AX : ∀ w', Fr No w13 w' → EvAt w' sz2 eZ := fun w' h => (BZ11.fr h).at_ (by rw [hZ.out]; exact he.v8) (by rw [hZ.out]; exact he.k8) (by rw [hZ.out]; exact he.nl) (by rw [hZ.out]; show ([] : List (List UInt8)).length ≤ _; simp) (by rw [hZ.out]; intro m hm; cases hm) (by rw [hZ.out]; exact he.nr)
        have AY : ∀ w', Fr No w13 w' → EvAt w' sw eW := fun w' h => (BW13.fr h).at_ (by rw [hWW.out]; exact he.v8) (by rw [hWW.out]; exact he.k8) (by rw [hWW.out]; exact he.nl) (by rw [hWW.out]; show (e.texts.set 0 []).length ≤ _; rw [List.length_set]; exact he.tl) (by
          rw [hWW.out]
          intro m hm
          rcases List.mem_or_eq_of_mem_set hm with hm | hm
          · exact he.tx m hm
          · subst hm; simp) (by rw [hWW.out]; exact he.nr)
        have X1 := hid (fun w' (h : Fr No w13 w') => may_any sz2 eZ w' (AX w' h) (hkt.fr (HW.trans (h13.trans h))))
        have X2 := hid (fun w' (h : Fr No w13 w') => may_any sw eW w' (AY w' h) (hkt.fr (HW.trans (h13.trans h))))
        rw [hmt.out eZ (by rw [hZ.out]) (by rw [hZ.out]) (by rw [hZ.out]; rfl)] at X1
        rw [hmt.out eW (by rw [hWW.out]) (by rw [hWW.out]) (by rw [hWW.out]; show oneName (e.texts.set 0 []) = false; rw [hs9]; rfl)] at X2
        clear AX AY hs9
        have hF : Fr No w13 w13 := Fr.refl _
        obtain ⟨p0, p1, p2, p3, _, _, _, _⟩ := BZ11.cells4
        unfold evV at *
        go_wp2_with (first
          | (go_at_call 14; (with_reducible refine (X1.out _ hF).mono ?_); rintro en wS ⟨rfl, hfS⟩; clear p0 p1 p2 p3; replace hF := hF.trans hfS; obtain ⟨p0, p1, p2, p3, _, _, _, _⟩ := (BW13.fr hF).cells4; clear hfS)
          | (go_at_call 14; (with_reducible refine (X2.out _ hF).mono ?_); rintro en wS ⟨rfl, hfS⟩; replace hF := hF.trans hfS; clear hfS))
        go_meet
        case rel => exact ⟨rfl, hF⟩
      obtain ⟨rfl, h1314⟩ := hcut
      have hEND := h11.trans (h1113.trans h1314)
      go_wp2_with fail
      go_meet
      case rel => exact hEND
  have h20 := h9.trans hcut
  replace KX := KX.fr hcut
  replace KY := KY.fr hcut
  rename World => w20
  clear hcut h9 HLT HTT HTF hmt
  by_cases hl0 : e.nums.length = 0
  · have hd0 : ((e.nums.length : Int) == 0) = true := by rw [hl0]; rfl
    clear hl0
    go_wp2_with fail
    go_ret
    exact ⟨rfl, HW.trans h20⟩
  have hd0 : ((e.nums.length : Int) == 0) = false := by rw [beq_eq_false_iff_ne]; omega
  -- region 23: the place
  go_upto_region 23 with fail
  go_cut [14] from 100 (fun x w' => w' = w20 ∧ ∃ k : Nat, x = .int .i64 k ∧ k < e.nums.length)
  case first =>
    obtain ⟨A, hA, hA2⟩ := bwrap_u64 at_
    have hL : IntKind.u64.wrap (e.nums.length : Int) = (e.nums.length : Int) := IntWalk.u64_in _ (by have := hsE.1; omega)
    have hR : (A : Int).tmod (e.nums.length : Int) = ((A % e.nums.length : Nat) : Int) := rfl
    have hlt : A % e.nums.length < e.nums.length := Nat.mod_lt _ (by omega)
    have hK : IntKind.i64.wrap ((A % e.nums.length : Nat) : Int) = ((A % e.nums.length : Nat) : Int) := IntWalk.i64_in _ (by have := hsE.1; omega)
    have hne0 : (e.nums.length : Int) ≠ 0 := by omega
    generalize A % e.nums.length = k at hR hlt hK
    go_wp2_with fail
    go_meet
    case rel => exact ⟨rfl, k, rfl, hlt⟩
  obtain ⟨rfl, k, rfl, hk⟩ := hcut
  rename World => w20
  clear hd0 hl0
  -- region 24 : the box is filled anew
  go_upto_region 24 with fail
  go_cut [] from 107 (fun w' => Fr No w4 w' ∧ Fr (Only bx) w20 w' ∧ ∃ s', BoxAt w4.heap.size w' bx s' e)
  case first =>
    obtain ⟨c0, c1, c2, c3⟩ := CE.out _ h20
    go_wp2_with (first | (go_at_call 15; (with_reducible refine (OE.out _ h20).mono ?_); intro en wO hO; obtain ⟨sO, rfl, hnO, hfO⟩ := hO; obtain ⟨⟨_, _, _, _, hcO⟩, BO, hO2⟩ := KX.over hfO hnO h20.size; obtain ⟨k0, k1, k2, k3, z0, z1, z2, z3⟩ := Go.Proofs.YtbihbkjdngjgkaaDoor.cells4 hcO; unfold evV))
    go_meet
    case rel => exact ⟨(h20.trans hfO).newOnly KX.lo hO2, hfO.of0.trans hO2, _, BO⟩
  obtain ⟨h21, hO21, s21, BX21⟩ := hcut
  rename World => w21
  replace KY := KY.only hO21 hne.symm
  clear KX h20 hO21
  -- region 25 : a number of it is another one
  go_upto_region 25 with fail
  go_cut [] from 109 (fun w' => Fr No w4 w' ∧ (∃ g, Fr (Only g) w21 w' ∧ ∃ cur, w21.heap[g]? = some (.cells cur 2 (0, 0))) ∧ ∃ e', BoxAt w4.heap.size w' bx s21 e' ∧ Hid (e' = { e with nums := e.nums.set k n }))
  case first =>
    obtain ⟨g, c, hq, hg, hc, hz, hcur, BS⟩ := BX21.store hk n
    obtain ⟨k0, k1, k2, k3, z0, z1, z2, z3⟩ := BX21.cells4
    rw [hq] at k2
    have i1 : (k : Int) < (e.nums.length : Int) := by omega
    have i3 : (0 : Int) ≤ (k : Int) := by omega
    unfold numV at BS
    have HC := hid hcur
    clear hcur
    go_wp2_with fail
    go_meet
    case rel => exact ⟨h21.newOnly hg ((Fr.refl _).set_only _ _), ⟨g, (Fr.refl _).set_only _ _, HC.out⟩, _, BS, hid rfl⟩
  obtain ⟨h22, ⟨g, hg22, cur22, hcur22⟩, eN, BX22, hN⟩ := hcut
  rename World => w22
  replace KY := KY.only hg22 (KY.ne hcur22 (by decide))
  clear BX21 h21 hg22 hcur22
  -- region 26 : the box is filled anew
  go_upto_region 26 with fail
  go_cut [] from 114 (fun w' => Fr No w4 w' ∧ Fr (Only by_) w22 w' ∧ ∃ s', BoxAt w4.heap.size w' by_ s' e)
  case first =>
    obtain ⟨c0, c1, c2, c3⟩ := CE.out _ h22
    go_wp2_with (first | (go_at_call 15; (with_reducible refine (OE.out _ h22).mono ?_); intro en wO hO; obtain ⟨sO, rfl, hnO, hfO⟩ := hO; obtain ⟨⟨_, _, _, _, hcO⟩, BO, hO2⟩ := KY.over hfO hnO h22.size; obtain ⟨k0, k1, k2, k3, z0, z1, z2, z3⟩ := Go.Proofs.YtbihbkjdngjgkaaDoor.cells4 hcO; unfold evV))
    go_meet
    case rel => exact ⟨(h22.trans hfO).newOnly KY.lo hO2, hfO.of0.trans hO2, _, BO⟩
  obtain ⟨h23, hO23, s23, BY23⟩ := hcut
  rename World => w23
  replace BX22 := BX22.other KY hO23 hne
  clear KY h22 hO23
  -- region 27: y.Nums without that number
  go_upto_region 27 with fail
  go_cut [] from 116 (fun w' => Fr No w4 w' ∧ Fr (Only by_) w23 w' ∧ ∃ s' e', BoxAt w4.heap.size w' by_ s' e' ∧ Hid (e' = { e with nums := e.nums.take k ++ e.nums.drop (k + 1) }))
  case first =>
    obtain ⟨i0, hi, hz0, hz1, hz2⟩ := info_parts infoI64
    obtain ⟨m0, hm0⟩ : ∃ m, e.nums[k]? = some m := ⟨_, List.getElem?_eq_getElem hk⟩
    obtain ⟨b0, o0, hq0, _⟩ := he.nums k (numV m0) (by simp [hm0])
    obtain ⟨C0, C1, C2, C3⟩ := CE.out _ h23
    rw [hq0] at C2
    have HSA : Hid (∀ w', Fr No w23 w' → SlAt w' (some ⟨b0, o0, none⟩) (e.nums.map numV)) := hid (fun w' h => hq0 ▸ (he.nums.fr (HW.trans (h23.trans h))))
    have S1 : ∀ w', Fr No w23 w' → Src Tryd.prog 1 22 (.slice (some ⟨b0, o0, none⟩) k s.cn) k ((e.nums.take k).map numV) w' := fun w' h => by
      have := Src.ofSl (P := Tryd.prog) (c := s.cn) (xs := (e.nums.take k).map numV) Tryd.underlying22 (q := some ⟨b0, o0, none⟩) (w := w') (fun i x hx => by
        obtain ⟨b, o, h1, h2⟩ := HSA.out w' h i x (by
          rw [List.map_take, List.getElem?_take] at hx
          split at hx
          · exact hx
          · cases hx)
        exact ⟨b, o, h1, h2⟩) (num_one _)
      simpa [Nat.min_eq_left (Nat.le_of_lt hk)] using this
    have S2 : ∃ od : Addr, Hid (∀ w', Fr No w23 w' → Src Tryd.prog 1 22 (.slice (some od) (e.nums.length - (k + 1)) (s.cn - (k + 1))) (e.nums.length - (k + 1)) ((e.nums.drop (k + 1)).map numV) w') ∧
        (((s.cn = k + 1) = True ∧ od = ⟨b0, o0, none⟩) ∨ ((s.cn = k + 1) = False ∧ od = ⟨b0, o0 + (k + 1), none⟩)) := by
      by_cases hce : s.cn = k + 1
      · refine ⟨⟨b0, o0, none⟩, hid (fun w' h => ?_), .inl ⟨eq_true hce, rfl⟩⟩
        have hd : e.nums.drop (k + 1) = [] := List.drop_eq_nil_of_le (by omega)
        have := Src.ofSl (P := Tryd.prog) (c := s.cn - (k + 1)) (xs := (e.nums.drop (k + 1)).map numV) Tryd.underlying22 (q := some ⟨b0, o0, none⟩) (w := w') (by rw [hd]; exact SlAt.nil _ _) (num_one _)
        simpa using this
      · refine ⟨⟨b0, o0 + (k + 1), none⟩, hid (fun w' h => ?_), .inr ⟨eq_false hce, rfl⟩⟩
        have := Src.ofSl (P := Tryd.prog) (c := s.cn - (k + 1)) (xs := (e.nums.drop (k + 1)).map numV) Tryd.underlying22 (q := some ⟨b0, o0 + (k + 1), none⟩) (w := w') (fun i x hx => by
          rw [List.map_drop, List.getElem?_drop] at hx
          obtain ⟨b, o, h1, h2⟩ := HSA.out w' h (k + 1 + i) x hx
          simp only [Option.some.injEq, Addr.mk.injEq, and_true] at h1
          obtain ⟨rfl, rfl⟩ := h1
          exact ⟨b0, o0 + (k + 1), rfl, by rw [Nat.add_assoc]; exact h2⟩) (num_one _)
        simpa using this
    obtain ⟨od, HS2, hod⟩ := S2
    have HS1 := hid S1
    have HG := hid BY23.cells
    have hns := hsE.1
    have hkc : (k : Int) ≤ (s.cn : Int) := by omega
    have hk0 : (0 : Int) ≤ (k : Int) := by omega
    have hk1 : (k : Int) + 1 ≤ (e.nums.length : Int) := by omega
    have hk2 : (e.nums.length : Int) ≤ (s.cn : Int) := by omega
    have hkw : IntKind.i64.wrap ((k : Int) + 1) = (k : Int) + 1 := IntWalk.i64_in _ (by omega)
    have hk3 : (0 : Int) ≤ (k : Int) + 1 := by omega
    have hk4 : ((k : Int) + 1).toNat = k + 1 := by omega
    have hk5 : (k : Int) + 1 ≤ (s.cn : Int) := by omega
    have m1 : k ≤ maxLen := by unfold maxLen; omega
    have m2 : k * 8 ≤ 140737488355328 := by omega
    have hbe : w.heap.size ≠ by_ := by have := BY23.lo; have := World.block_lt_of_cell? _ _ (CE.out _ (Fr.refl _)).1; simp only at this; omega
    clear S1 hm0 hq0 hns
    rcases hod with ⟨hce, rfl⟩ | ⟨hce, rfl⟩
    all_goals go_region_held3 (fun w' => Fr (Only by_) w23 w' ∧ w'.cell? ⟨w.heap.size, 0, none⟩ = some (.int .u8 e.v) ∧ w'.cell? ⟨w.heap.size, 1, none⟩ = some (.int .u8 e.kind) ∧ w'.cell? ⟨w.heap.size, 2, none⟩ = some (.slice (some ⟨b0, o0, none⟩) e.nums.length s.cn) ∧ w'.cell? ⟨w.heap.size, 3, none⟩ = some (.slice s.qt e.texts.length s.ct))
      ((go_split_ands; refine five_keep C0 C1 C2 C3 hbe ?_; (try (refine Fr.set_only ?_ _ _)); refine Fr.of0 ?_; repeat (first | exact Fr.refl _ | assumption | refine Fr.drew ?_ | refine Fr.alloc ?_ _)))
      (first
        | ((refine step_append0 (by rfl) _ _ _ _ (by rfl) 2 i0 _ 8 Tryd.underlying22 hi hz0 hz1 hz2 (by rfl) _ (by rfl) (.slice (some ⟨b0, o0, none⟩) k s.cn) k ((e.nums.take k).map numV) (by rfl) HS1.out m1 m2 ?_ ?_; · (repeat (first | exact Fr.refl _ | assumption | refine Fr.drew ?_ | refine Fr.alloc ?_ _))); intro q1 p1 w1 hr1 hf1 hF1)
        | ((refine step_append_rw (by rfl) _ _ _ _ (by rfl) 2 i0 _ 8 Tryd.underlying22 hi hz0 hz1 hz2 (by rfl) _ _ (by rfl) hr1 _ _ _ (by rfl) HS2.out (by simp only [List.length_map, List.length_take]; unfold maxLen; omega) (by simp only [List.length_map, List.length_take]; omega) hF1 ?_); intro q2 p2 w2 hr2 hF2; obtain ⟨k0, k1, k2, k3, f0, f1, f2, f3⟩ := Go.Proofs.YtbihbkjdngjgkaaDoor.cells4 (hF2.heap0 HG.out)))
    all_goals
      have hN : min k e.nums.length + (e.nums.length - (k + 1)) = (e.nums.take k ++ e.nums.drop (k + 1)).length := by simp
      have hr3 : Rs w4.heap.size w2 2 (.slice q2 (min k e.nums.length + (e.nums.length - (k + 1))) p2) ((e.nums.take k ++ e.nums.drop (k + 1)).map numV) := by
        have e9 : (List.map numV (List.take k e.nums) ++ List.map numV (List.drop (k + 1) e.nums)).length = min k e.nums.length + (e.nums.length - (k + 1)) := by simp
        rw [e9] at hr2
        rw [List.map_append]; exact hr2.mono h23.size
      have BS := BY23.setN hF2.of0 hN hr3
      clear hr2 hr3 hr1 hN hce
      go_wp2_with fail
      go_meet
      case rel => exact ⟨(h23.trans hF2).newOnly BY23.lo ((Fr.refl _).set_only _ _), hF2.of0.trans ((Fr.refl _).set_only _ _), _, _, BS, hid rfl⟩
  obtain ⟨h27, hO27, s27, eY, BY27, hY⟩ := hcut
  rename World => w27
  replace BX22 := BX22.other BY23.evBox hO27 hne
  clear BY23 h23 hO27 OE
  obtain ⟨c, hc⟩ : ∃ c, l[k]? = some c := ⟨_, List.getElem?_eq_getElem (by have := HLL.out; omega)⟩
  obtain ⟨x, hx⟩ : ∃ x, e.nums[k]? = some x := ⟨_, List.getElem?_eq_getElem hk⟩
  have hfx := HFIT.out k c x hc hx
  rcases hB : boundS e.v c.toNat with ⟨lo, hi, is⟩
  obtain rfl : is = true := by
    unfold fitsS at hfx
    rw [hB] at hfx
    simp only [Bool.and_eq_true] at hfx
    exact hfx.1
  have hR : fitsS e.v c.toNat n = (decide (lo ≤ n) && decide (n ≤ hi)) := by
    unfold fitsS
    rw [hB]
    rfl
  obtain ⟨b1, o1, rfl, hl1⟩ := SL k (clsV c) (by simp [hc])
  have hBd : ∀ w1, Calls Tryd.prog 16 #[.int .u8 e.v, .int .u8 c.toNat] w1 fun en w' => en = .returned (.tuple #[.int .i64 lo, .int .i64 hi, .bool true]) ∧ Fr No w1 w' := fun w1 => by
    have h := bound_any e.v c.toNat w1
    rw [hB] at h
    exact h.mono fun _ _ ⟨h1, h2⟩ => ⟨h1, by subst h2; exact Fr.refl _⟩
  have hFt : ∀ w1, Calls Tryd.prog 17 #[.int .u8 e.v, .int .u8 c.toNat, .int .i64 n] w1 fun en w' => en = .returned (.bool (fitsS e.v c.toNat n)) ∧ Fr No w1 w' := fun w1 =>
    (fits_any e.v c.toNat n w1).mono fun _ _ ⟨h1, h2⟩ => ⟨h1, by subst h2; exact Fr.refl _⟩
  have i1 : (k : Int) < (e.nums.length : Int) := by omega
  have i3 : (0 : Int) ≤ (k : Int) := by omega
  unfold clsV at hl1
  -- region 28: the bounds
  go_upto_region 28 with fail
  go_cut [15, 16, 17] from 129 (fun x y z w' => x = .int .i64 lo ∧ y = .int .i64 hi ∧ z = .bool true ∧ Fr No w27 w')
  case first =>
    have c0 := fun (y : Aft w27) => (CE.out _ (h27.trans y.h)).1
    have n0 := fun (y : Aft w27) => (h27.trans y.h).cell0 hl1
    have X1 := hid (fun (y : Aft w27) => hBd y.val)
    clear hBd hFt CE hl1 SL hx hc hfx hB hR
    refine wp_region_aft (by kernel_rfl) (by kernel_rfl) ?_
    repeat (go_big_quiet_step (first | (go_at_call 16; with_reducible exact calls_aft (X1.out _))))
    refine wpQuiet_nil ?_
    rintro _ ⟨⟨w9, hf9⟩, rfl⟩
    clear c0 n0
    go_wp2_with fail
    go_meet
    case rel => exact ⟨rfl, rfl, rfl, hf9⟩
  obtain ⟨rfl, rfl, rfl, h2728⟩ := hcut
  rename World => w28
  have h28 := h27.trans h2728
  replace BX22 := BX22.fr h2728
  replace BY27 := BY27.fr h2728
  -- region 29: the law
  go_upto_region 29 with fail
  have AX : ∀ w', Fr No w28 w' → EvAt w' s21 eN := fun w' h => (BX22.fr h).at_ (by rw [hN.out]; exact he.v8) (by rw [hN.out]; exact he.k8) (by rw [hN.out]; simpa using he.nl) (by rw [hN.out]; exact he.tl) (by rw [hN.out]; exact he.tx) (by
    rw [hN.out]
    intro x hx
    rcases List.mem_or_eq_of_mem_set hx with hx | hx
    · exact he.nr x hx
    · subst hx; exact hn)
  have AY : ∀ w', Fr No w28 w' → EvAt w' s27 eY := fun w' h => (BY27.fr h).at_ (by rw [hY.out]; exact he.v8) (by rw [hY.out]; exact he.k8) (by rw [hY.out]; show (e.nums.take k ++ e.nums.drop (k + 1)).length ≤ _; have := hsE.1; rw [List.length_append, List.length_take, List.length_drop]; omega) (by rw [hY.out]; exact he.tl) (by rw [hY.out]; exact he.tx) (by
    rw [hY.out]
    intro x hx
    rcases List.mem_append.1 hx with hx | hx
    · exact he.nr x (List.mem_of_mem_take hx)
    · exact he.nr x (List.mem_of_mem_drop hx))
  have X1 := hid (fun (y : Aft w28) => may_any s21 eN y.val (AX _ y.h) (hkt.fr (HW.trans (h28.trans y.h))))
  have X2 := hid (fun (y : Aft w28) => may_any s27 eY y.val (AY _ y.h) (hkt.fr (HW.trans (h28.trans y.h))))
  have X3 := hid (fun (y : Aft w28) => hFt y.val)
  rw [hms.out eN hm k c n hc hN.out, hR] at X1
  rw [hml.out eY (by rw [hY.out]) (by rw [hY.out]) (by rw [hY.out]; show l.length ≠ (e.nums.take k ++ e.nums.drop (k + 1)).length; have := HLL.out; rw [List.length_append, List.length_take, List.length_drop]; omega)] at X2
  rw [hR] at X3
  have MX := fun (y : Aft w28) => (BX22.fr y.h).cells4
  have MY := fun (y : Aft w28) => (BY27.fr y.h).cells4
  have c0 := fun (y : Aft w28) => (CE.out _ (h28.trans y.h)).1
  have n0 := fun (y : Aft w28) => (h28.trans y.h).cell0 hl1
  have p0 := fun (y : Aft w28) => (MX y).1
  have p1 := fun (y : Aft w28) => (MX y).2.1
  have p2 := fun (y : Aft w28) => (MX y).2.2.1
  have p3 := fun (y : Aft w28) => (MX y).2.2.2.1
  have q0 := fun (y : Aft w28) => (MY y).1
  have q1 := fun (y : Aft w28) => (MY y).2.1
  have q2 := fun (y : Aft w28) => (MY y).2.2.1
  have q3 := fun (y : Aft w28) => (MY y).2.2.2.1
  have HE := hid (HW.trans h28)
  clear AX AY MX MY CE AW ME hms hml hmp HFIT HLL hBd hFt hR hB hfx hx hc hl1 SL BX22 BY27 hN hY h27 h28 h2728 hkt hct he HW
  unfold evV at *
  by_cases g1 : lo ≤ n
  · by_cases g2 : n ≤ hi
    · rw [decide_eq_true g1, decide_eq_true g2] at X1 X3
      have d1 : decide (lo ≤ n) = true := decide_eq_true g1
      have d2 : decide (n ≤ hi) = true := decide_eq_true g2
      simp only [Bool.and_self] at X1 X3
      clear g1 g2
      refine wp_region_aft (by kernel_rfl) (by kernel_rfl) ?_
      repeat (go_big_quiet_step (first | (go_at_call 14; with_reducible exact calls_aft (X1.out _)) | (go_at_call 14; with_reducible exact calls_aft (X2.out _)) | (go_at_call 17; with_reducible exact calls_aft (X3.out _))))
      refine wpQuiet_nil ?_
      rintro _ ⟨⟨w9, hf9⟩, rfl⟩
      clear c0 n0 p0 p1 p2 p3 q0 q1 q2 q3
      go_wp2_with fail
      go_ret
      exact ⟨by first | rfl | simp, HE.out.trans hf9⟩
    · rw [decide_eq_true g1, decide_eq_false g2] at X1 X3
      have d1 : decide (lo ≤ n) = true := decide_eq_true g1
      have d2 : decide (n ≤ hi) = false := decide_eq_false g2
      simp only [Bool.and_false] at X1 X3
      clear g1 g2
      refine wp_region_aft (by kernel_rfl) (by kernel_rfl) ?_
      repeat (go_big_quiet_step (first | (go_at_call 14; with_reducible exact calls_aft (X1.out _)) | (go_at_call 14; with_reducible exact calls_aft (X2.out _)) | (go_at_call 17; with_reducible exact calls_aft (X3.out _))))
      refine wpQuiet_nil ?_
      rintro _ ⟨⟨w9, hf9⟩, rfl⟩
      clear c0 n0 p0 p1 p2 p3 q0 q1 q2 q3
      go_wp2_with fail
      go_ret
      exact ⟨by first | rfl | simp, HE.out.trans hf9⟩
  · rw [decide_eq_false g1, Bool.false_and] at X1 X3
    have d1 : decide (lo ≤ n) = false := decide_eq_false g1
    clear g1
    refine wp_region_aft (by kernel_rfl) (by kernel_rfl) ?_
    repeat (go_big_quiet_step (first | (go_at_call 14; with_reducible exact calls_aft (X1.out _)) | (go_at_call 14; with_reducible exact calls_aft (X2.out _)) | (go_at_call 17; with_reducible exact calls_aft (X3.out _))))
    refine wpQuiet_nil ?_
    rintro _ ⟨⟨w9, hf9⟩, rfl⟩
    clear c0 n0 p0 p1 p2 p3 q0 q1 q2 q3
    go_wp2_with fail
    go_ret
    exact ⟨by first | rfl | simp, HE.out.trans hf9⟩
end Go.Proofs.YtbihbkjdngjgkaaDoor
