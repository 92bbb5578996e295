/-
  SchemaSame: the walk.
-/
import Derived.Test.YtbihbkjdngjgkaaDoorAwake5
import Derived.Test.YtbihbkjdngjgkaaDoorLong5
import Derived.Test.YtbihbkjdngjgkaaDoorBox
import Derived.Test.YtbihbkjdngjgkaaDoorRSame
import Derived.Test.YtbihbkjdngjgkaaDoorAft
import Derived.Deep.Cut
namespace Go.Proofs.YtbihbkjdngjgkaaDoor
open Go.RowKit

theorem sameS_self' (e : Ev) : sameS e e = true := by simp [sameS]
theorem sameS_comm (e f : Ev) : sameS e f = sameS f e := by
  unfold sameS
  rw [Bool.eq_iff_iff]
  simp only [Bool.and_eq_true, decide_eq_true_eq]
  constructor <;> (rintro ⟨h1, h2, h3, h4⟩; exact ⟨h1.symm, h2.symm, h3.symm, h4.symm⟩)
theorem sameS_eq {e f : Ev} (h : sameS e f = true) : e = f := by
  obtain ⟨v, k, ns, ts⟩ := e
  obtain ⟨v2, k2, ns2, ts2⟩ := f
  simp only [sameS, Bool.and_eq_true, decide_eq_true_eq] at h
  obtain ⟨rfl, rfl, rfl, rfl⟩ := h
  rfl
theorem box4_of {w : World} {b : Nat} {v0 v1 v2 v3 : Value} {t : TypeId} (h : w.heap[b]? = some (.cells #[v0, v1, v2, v3] t (0, 0))) :
    w.cell? ⟨b, 0, none⟩ = some v0 ∧ w.cell? ⟨b, 1, none⟩ = some v1 ∧ w.cell? ⟨b, 2, none⟩ = some v2 ∧ w.cell? ⟨b, 3, none⟩ = some v3 := by
  refine ⟨?_, ?_, ?_, ?_⟩ <;> simp [World.cell?, h]
theorem wrap_u8_next (k : Nat) (hk : k ≤ 255) : IntKind.u8.wrap ((k : Int) + 1) = (((k + 1) % 256 : Nat) : Int) := by
  by_cases h : k = 255
  · subst h; decide
  · rw [IntWalk.u8_in _ (by omega)]; omega

theorem wrap_u64 (n : Int) : ∃ A : Nat, IntKind.u64.wrap n = (A : Int) ∧ A ≤ 18446744073709551615 := by
  have h : IntKind.u64.wrap n = n % 18446744073709551616 := by simp [IntKind.wrap, IntKind.signed, IntKind.bits]
  refine ⟨(n % 18446744073709551616).toNat, ?_, by omega⟩
  rw [h]; omega
set_option maxHeartbeats 8000000 in
set_option maxRecDepth 100000 in
theorem schemaSame_any (s t : EvP) (e f : Ev) (at_ n : Int) (w : World) (he : EvAt w s e) (hf : EvAt w t f) (hes : e.nums.length ≤ 17592186044416 ∧ e.texts.length ≤ 8796093022208)
    (hfs : f.nums.length ≤ 17592186044416 ∧ f.texts.length ≤ 8796093022208) (hn : -9223372036854775808 ≤ n ∧ n ≤ 9223372036854775807) (hkt : KT w) (hct : CT w) :
    Calls Tryd.prog 6 #[evV s e, evV t f, .int .i64 at_, .int .i64 n] w fun en w' => en = .returned (.bool true) ∧ Fr No w w' := by
  have AW := hid (fun w1 (h : Fr No w w1) => awake5_any w1 (hkt.fr h) (hct.fr h))
  have LE := hid (fun w1 (h : Fr No w w1) => long5_any s e w1 (he.fr h) (by omega) (by omega))
  have LF := hid (fun w1 (h : Fr No w w1) => long5_any t f w1 (hf.fr h) (by omega) (by omega))
  have HF0 : Fr No w ((w.alloc (.cells #[.int .u8 e.v, .int .u8 e.kind, .slice s.qn e.nums.length s.cn, .slice s.qt e.texts.length s.ct] 25)).alloc (.cells #[.int .u8 f.v, .int .u8 f.kind, .slice t.qn f.nums.length t.cn, .slice t.qt f.texts.length t.ct] 25)) := ((Fr.refl w).alloc _).alloc _
  have g1 := Go.heap_alloc_new (w.alloc (.cells #[.int .u8 e.v, .int .u8 e.kind, .slice s.qn e.nums.length s.cn, .slice s.qt e.texts.length s.ct] 25)) (.cells #[.int .u8 f.v, .int .u8 f.kind, .slice t.qn f.nums.length t.cn, .slice t.qt f.texts.length t.ct] 25)
  have g0 : ((w.alloc (.cells #[.int .u8 e.v, .int .u8 e.kind, .slice s.qn e.nums.length s.cn, .slice s.qt e.texts.length s.ct] 25)).alloc (.cells #[.int .u8 f.v, .int .u8 f.kind, .slice t.qn f.nums.length t.cn, .slice t.qt f.texts.length t.ct] 25)).heap[w.heap.size]? = some (.cells #[.int .u8 e.v, .int .u8 e.kind, .slice s.qn e.nums.length s.cn, .slice s.qt e.texts.length s.ct] 25 (0, 0)) := by
    rw [Below.heap_alloc _ _ _ (by simp)]; exact Go.heap_alloc_new _ _
  have C0 := hid (fun w1 (h : Fr No _ w1) => box4_of (h.heap0 g0))
  have C1 := hid (fun w1 (h : Fr No _ w1) => box4_of (h.heap0 g1))
  have hsz : (w.alloc (.cells #[.int .u8 e.v, .int .u8 e.kind, .slice s.qn e.nums.length s.cn, .slice s.qt e.texts.length s.ct] 25)).heap.size = w.heap.size + 1 := by simp
  rw [hsz] at C1
  clear g0 g1 hsz
  unfold evV at *
  go_enter Tryd.func6, Tryd.ntmps6
  go_upto_region 3 with (first
    | (go_at_call 11; (with_reducible refine (LE.out _ HF0).mono ?_); intro e1 w1 h1; obtain ⟨bE, rfl, hbE, hf1⟩ := h1; obtain ⟨d0, d1, d2, d3⟩ := C1.out _ hf1; cases bE)
    | (go_at_call 11; (with_reducible refine (LF.out _ (HF0.trans hf1)).mono ?_); intro e2 w2 h2; obtain ⟨bF, rfl, hbF, hf2⟩ := h2; clear d0 d1 d2 d3; cases bF)
    | (go_at_call 12; (with_reducible refine (AW.out _ (HF0.trans (hf1.trans hf2))).mono ?_); rintro e3 w3 ⟨rfl, hf3⟩)
    | (go_at_call 12; (with_reducible refine (AW.out _ (HF0.trans hf1)).mono ?_); rintro e3 w3 ⟨rfl, hf3⟩))
  all_goals first | (go_ret; first | exact ⟨rfl, HF0.trans (hf1.trans hf3)⟩ | exact ⟨rfl, HF0.trans ((hf1.trans hf2).trans hf3)⟩) | skip
  have hsE := hbE trivial
  have HW := HF0.trans ((hf1.trans hf2).trans hf3)
  have CE := hid (fun w4 (h : Fr No w3 w4) => C0.out _ (((hf1.trans hf2).trans hf3).trans h))
  have CF := hid (fun w4 (h : Fr No w3 w4) => C1.out _ (((hf1.trans hf2).trans hf3).trans h))
  clear C0 C1 LE LF hbE hbF HF0 hf1 hf2 hf3 w1 w2
  have OE := hid (fun w4 (h : Fr No w3 w4) => own5_any s e w4 (he.fr (HW.trans h)) (by have := hsE.1; omega) (by have := hsE.2.1; omega))
  unfold evV at OE
  -- region 3 : a box of its own
  go_upto_region 3 with fail
  go_cut [9] from 25 (fun x w' => Fr No w3 w' ∧ ∃ b s', x = .pointer (some ⟨b, 0, none⟩) ∧ BoxAt w3.heap.size w' b s' e)
  case first =>
    obtain ⟨c0, c1, c2, c3⟩ := CE.out _ (Fr.refl _)
    go_wp2_with (first | (go_at_call 15; (with_reducible refine (OE.out _ (Fr.refl _)).mono ?_); intro en wO hO; obtain ⟨sO, rfl, hnO, hfO⟩ := hO; unfold evV))
    go_meet
    case rel => exact ⟨(BoxAt.made hfO hnO).2, _, sO, rfl, (BoxAt.made hfO hnO).1⟩
  obtain ⟨h4, bx, sx, rfl, BX⟩ := hcut
  rename World => w4
  -- region 4: the events are the same as themselves
  go_upto_region 4 with fail
  go_cut [51] from 27 (fun x w' => x = .bool false ∧ Fr No w4 w')
  case first =>
    have HY := fun (y : Aft w4) => h4.trans y.h
    have MX := fun (y : Aft w4) => (BX.fr y.h).cells4
    have c0 := fun (y : Aft w4) => (CE.out _ (HY y)).1
    have c1 := fun (y : Aft w4) => (CE.out _ (HY y)).2.1
    have c2 := fun (y : Aft w4) => (CE.out _ (HY y)).2.2.1
    have c3 := fun (y : Aft w4) => (CE.out _ (HY y)).2.2.2
    have d0 := fun (y : Aft w4) => (CF.out _ (HY y)).1
    have d1 := fun (y : Aft w4) => (CF.out _ (HY y)).2.1
    have d2 := fun (y : Aft w4) => (CF.out _ (HY y)).2.2.1
    have d3 := fun (y : Aft w4) => (CF.out _ (HY y)).2.2.2
    have p0 := fun (y : Aft w4) => (MX y).1
    have p1 := fun (y : Aft w4) => (MX y).2.1
    have p2 := fun (y : Aft w4) => (MX y).2.2.1
    have p3 := fun (y : Aft w4) => (MX y).2.2.2.1
    have AE := fun (y : Aft w4) => he.fr (HW.trans (HY y))
    have AF := fun (y : Aft w4) => hf.fr (HW.trans (HY y))
    have X1 := hid (fun (y : Aft w4) => same_any s sx e e y.val (AE y) ((BX.new.fr y.h).at_ he))
    have X2 := hid (fun (y : Aft w4) => same_any s t e f y.val (AE y) (AF y))
    have X3 := hid (fun (y : Aft w4) => same_any t s f e y.val (AF y) (AE y))
    have X4 := hid (fun (y : Aft w4) => may_any s e y.val (AE y) (hkt.fr (HW.trans (HY y))))
    have X5 := hid (fun (y : Aft w4) => may_any t f y.val (AF y) (hkt.fr (HW.trans (HY y))))
    rw [sameS_self'] at X1
    rw [sameS_comm f e] at X3
    have HR : sameS e f = true → mayS e = mayS f := fun h => by rw [sameS_eq h]
    generalize mayS e = M1 at X4 HR
    generalize mayS f = M2 at X5 HR
    generalize sameS e f = R at X2 X3 HR
    clear HY MX AE AF AW OE CE CF
    unfold evV at *
    cases R
    · refine wp_region_aft (by kernel_rfl) (by kernel_rfl) ?_
      repeat (go_big_quiet_step (first
        | (go_at_call 23; with_reducible exact calls_aft (X1.out _))
        | (go_at_call 23; with_reducible exact calls_aft (X2.out _))
        | (go_at_call 23; with_reducible exact calls_aft (X3.out _))
        | (go_at_call 14; with_reducible exact calls_aft (X4.out _))
        | (go_at_call 14; with_reducible exact calls_aft (X5.out _))))
      refine wpQuiet_nil ?_
      rintro _ ⟨⟨w9, hf9⟩, rfl⟩
      clear c0 c1 c2 c3 d0 d1 d2 d3 p0 p1 p2 p3
      go_wp2_with fail
      go_meet
      case rel => exact ⟨rfl, hf9⟩
    · obtain rfl := HR rfl
      have hM : (M1 != M1) = false := by cases M1 <;> rfl
      refine wp_region_aft (by kernel_rfl) (by kernel_rfl) ?_
      repeat (go_big_quiet_step (first
        | (go_at_call 23; with_reducible exact calls_aft (X1.out _))
        | (go_at_call 23; with_reducible exact calls_aft (X2.out _))
        | (go_at_call 23; with_reducible exact calls_aft (X3.out _))
        | (go_at_call 14; with_reducible exact calls_aft (X4.out _))
        | (go_at_call 14; with_reducible exact calls_aft (X5.out _))))
      refine wpQuiet_nil ?_
      rintro _ ⟨⟨w9, hf9⟩, rfl⟩
      clear c0 c1 c2 c3 d0 d1 d2 d3 p0 p1 p2 p3
      go_wp2_with fail
      go_meet
      case rel => exact ⟨rfl, hf9⟩
  obtain ⟨rfl, h45⟩ := hcut
  rename World => w5
  replace BX := BX.fr h45
  have h5 := h4.trans h45
  clear h45 h4
  -- region 6: x.Kind++
  go_upto_region 6 with fail
  go_cut [] from 52 (fun w' => Fr No w3 w' ∧ ∃ e', BoxAt w3.heap.size w' bx sx e' ∧ Hid (e' = { e with kind := (e.kind + 1) % 256 }))
  case first =>
    have hw := wrap_u8_next e.kind he.k8
    obtain ⟨k0, k1, k2, k3, z0, z1, z2, z3⟩ := BX.cells4
    go_wp2_with fail
    go_meet
    case rel => exact ⟨BX.fr_set h5 (Nat.le_refl _) 1 _, _, BX.setK _, hid rfl⟩
  obtain ⟨h6, eX, BX6, hX⟩ := hcut
  rename World => w6
  clear BX h5
  -- region 7 : a box of its own
  go_upto_region 7 with fail
  go_cut [10] from 56 (fun x w' => Fr No w6 w' ∧ ∃ b s', x = .pointer (some ⟨b, 0, none⟩) ∧ BoxAt w6.heap.size w' b s' e)
  case first =>
    obtain ⟨c0, c1, c2, c3⟩ := CE.out _ h6
    go_wp2_with (first | (go_at_call 15; (with_reducible refine (OE.out _ h6).mono ?_); intro en wO hO; obtain ⟨sO, rfl, hnO, hfO⟩ := hO; unfold evV))
    go_meet
    case rel => exact ⟨(BoxAt.made hfO hnO).2, _, sO, rfl, (BoxAt.made hfO hnO).1⟩
  obtain ⟨h67, by_, sy, rfl, BY⟩ := hcut
  rename World => w7
  -- region 8: y.V++
  go_upto_region 8 with fail
  go_cut [] from 58 (fun w' => Fr No w6 w' ∧ ∃ e', BoxAt w6.heap.size w' by_ sy e' ∧ Hid (e' = { e with v := (e.v + 1) % 256 }))
  case first =>
    have hw := wrap_u8_next e.v he.v8
    obtain ⟨k0, k1, k2, k3, z0, z1, z2, z3⟩ := BY.cells4
    go_wp2_with fail
    go_meet
    case rel => exact ⟨BY.fr_set h67 (Nat.le_refl _) 0 _, _, BY.setV _, hid rfl⟩
  obtain ⟨h68, eY, BY8, hY⟩ := hcut
  rename World => w8
  clear BY h67
  replace BX6 := BX6.fr h68
  have h8 := h6.trans h68
  -- region 9 : a box of its own
  go_upto_region 9 with fail
  go_cut [11] from 62 (fun x w' => Fr No w8 w' ∧ ∃ b s', x = .pointer (some ⟨b, 0, none⟩) ∧ BoxAt w8.heap.size w' b s' e)
  case first =>
    obtain ⟨c0, c1, c2, c3⟩ := CE.out _ h8
    go_wp2_with (first | (go_at_call 15; (with_reducible refine (OE.out _ h8).mono ?_); intro en wO hO; obtain ⟨sO, rfl, hnO, hfO⟩ := hO; unfold evV))
    go_meet
    case rel => exact ⟨(BoxAt.made hfO hnO).2, _, sO, rfl, (BoxAt.made hfO hnO).1⟩
  obtain ⟨h89, bz, sz, rfl, BZ⟩ := hcut
  rename World => w9
  -- region 10 : a row appended to
  go_upto_region 10 with fail
  go_cut [] from 64 (fun w' => Fr No w8 w' ∧ ∃ s' e', BoxAt w8.heap.size w' bz s' e' ∧ Hid (e' = { e with nums := e.nums ++ [n] }))
  case first =>
    obtain ⟨i0, hi, hz0, hz1, hz2⟩ := info_parts infoI64
    obtain ⟨k0, k1, k2, k3, z0, z1, z2, z3⟩ := BZ.cells4
    have BA := BZ.fr ((Fr.refl w9).alloc (.cells #[Value.int .i64 n] 2))
    have hlb : e.nums.length ≤ 1000 := by have := hsE.1; have := hsE.2.1; omega
    have hle : w8.heap.size ≤ (w9.alloc (.cells #[Value.int .i64 n] 2)).heap.size := by have := h89.size; simp; omega
    go_wp2_with (at_builtin; refine wpList_append_rt rfl _ _ 22 _ rfl w8.heap.size 2 i0 (.int .i64 0) 8 Tryd.underlying22 hi hz0 hz1 hz2 rfl _ (e.nums.map numV) rfl BA.new.nums hle _ 1 [Value.int .i64 n] rfl (Src.ofSlice _ Tryd.underlying22 ⟨w9.heap.size, 0, none⟩ 1 1 [Value.int .i64 n] rfl (cells_new _ [Value.int .i64 n] _) (by intro u hu; simp at hu; subst hu; rfl)) ?c3 ?c4 ?_)
    case c3 => simp only [List.length_map]; unfold maxLen; omega
    case c4 => simp only [List.length_map]; omega
    intro v' wA hr' hfT
    obtain ⟨q', cp', rfl⟩ := hr'.shape
    have hN' : (e.nums.map numV ++ [Value.int .i64 n]).length = e.nums.length + 1 := by simp
    have hN : e.nums.length + 1 = (e.nums ++ [n]).length := by simp
    have hr2 : Rs w8.heap.size wA 2 (.slice q' (e.nums.length + 1) cp') ((e.nums ++ [n]).map numV) := by
      have e9 : (e.nums ++ [n]).map numV = e.nums.map numV ++ [Value.int .i64 n] := by simp [numV]
      rw [hN'] at hr'
      rw [e9]; exact hr'
    try rw [hN']
    clear hr'
    have BS := BA.setN hfT hN hr2
    have hb' := hfT.heapT (by decide) BA.cells
    obtain ⟨j0, j1, j2, j3, y0, y1, y2, y3⟩ := Go.Proofs.YtbihbkjdngjgkaaDoor.cells4 hb'
    have hFA := (h89.alloc (.cells #[Value.int .i64 n] 2)).newT (Nat.le_refl _) hfT
    clear hr2 BA hN hN'
    go_wp2_with fail
    go_meet
    case rel => exact ⟨BZ.fr_set hFA (Nat.le_refl _) 2 _, _, _, BS, hid rfl⟩
  obtain ⟨h810, sz2, eZ, BZ10, hZ⟩ := hcut
  rename World => w10
  clear BZ h89
  replace BX6 := BX6.fr h810
  replace BY8 := BY8.fr h810
  have h10 := h8.trans h810
  -- region 11 : a box of its own
  go_upto_region 11 with fail
  go_cut [12] from 70 (fun x w' => Fr No w10 w' ∧ ∃ b s', x = .pointer (some ⟨b, 0, none⟩) ∧ BoxAt w10.heap.size w' b s' e)
  case first =>
    obtain ⟨c0, c1, c2, c3⟩ := CE.out _ h10
    go_wp2_with (first | (go_at_call 15; (with_reducible refine (OE.out _ h10).mono ?_); intro en wO hO; obtain ⟨sO, rfl, hnO, hfO⟩ := hO; unfold evV))
    go_meet
    case rel => exact ⟨(BoxAt.made hfO hnO).2, _, sO, rfl, (BoxAt.made hfO hnO).1⟩
  obtain ⟨h1011, bw, sw, rfl, BW⟩ := hcut
  rename World => w11
  -- region 12 : a row appended to
  go_upto_region 12 with fail
  go_cut [] from 72 (fun w' => Fr No w10 w' ∧ ∃ s' e', BoxAt w10.heap.size w' bw s' e' ∧ Hid (e' = { e with texts := e.texts ++ [[120]] }))
  case first =>
    obtain ⟨i0, hi, hz0, hz1, hz2⟩ := info_parts infoStr
    obtain ⟨k0, k1, k2, k3, z0, z1, z2, z3⟩ := BW.cells4
    have BA := BW.fr ((Fr.refl w11).alloc (.cells #[Value.string ⟨#[120]⟩] 9))
    have hlb : e.texts.length ≤ 1000 := by have := hsE.1; have := hsE.2.1; omega
    have hle : w10.heap.size ≤ (w11.alloc (.cells #[Value.string ⟨#[120]⟩] 9)).heap.size := by have := h1011.size; simp; omega
    go_wp2_with (at_builtin; refine wpList_append_rt rfl _ _ 23 _ rfl w10.heap.size 9 i0 (.string ⟨#[]⟩) 16 Tryd.underlying23 hi hz0 hz1 hz2 rfl _ (e.texts.map strV) rfl BA.new.texts hle _ 1 [Value.string ⟨#[120]⟩] rfl (Src.ofSlice _ Tryd.underlying23 ⟨w11.heap.size, 0, none⟩ 1 1 [Value.string ⟨#[120]⟩] rfl (cells_new _ [Value.string ⟨#[120]⟩] _) (by intro u hu; simp at hu; subst hu; rfl)) ?c3 ?c4 ?_)
    case c3 => simp only [List.length_map]; unfold maxLen; omega
    case c4 => simp only [List.length_map]; omega
    intro v' wA hr' hfT
    obtain ⟨q', cp', rfl⟩ := hr'.shape
    have hN' : (e.texts.map strV ++ [Value.string ⟨#[120]⟩]).length = e.texts.length + 1 := by simp
    have hN : e.texts.length + 1 = (e.texts ++ [[120]]).length := by simp
    have hr2 : Rs w10.heap.size wA 9 (.slice q' (e.texts.length + 1) cp') ((e.texts ++ [[120]]).map strV) := by
      have e9 : (e.texts ++ [[120]]).map strV = e.texts.map strV ++ [Value.string ⟨#[120]⟩] := by simp [strV]
      rw [hN'] at hr'
      rw [e9]; exact hr'
    try rw [hN']
    clear hr'
    have BS := BA.setT hfT hN hr2
    have hb' := hfT.heapT (by decide) BA.cells
    obtain ⟨j0, j1, j2, j3, y0, y1, y2, y3⟩ := Go.Proofs.YtbihbkjdngjgkaaDoor.cells4 hb'
    have hFA := (h1011.alloc (.cells #[Value.string ⟨#[120]⟩] 9)).newT (Nat.le_refl _) hfT
    clear hr2 BA hN hN'
    go_wp2_with fail
    go_meet
    case rel => exact ⟨BW.fr_set hFA (Nat.le_refl _) 3 _, _, _, BS, hid rfl⟩
  obtain ⟨h1012, sw2, eW, BW12, hW12⟩ := hcut
  rename World => w12
  clear BW h1011
  replace BX6 := BX6.fr h1012
  replace BY8 := BY8.fr h1012
  replace BZ10 := BZ10.fr h1012
  have h12 := h10.trans h1012
  clear h68 h810 h1012
  -- region 13: another one is not the same
  go_upto_region 13 with fail
  go_cut [94] from 77 (fun x w' => x = .bool false ∧ Fr No w12 w')
  case first =>
    have AX : ∀ w', Fr No w12 w' → EvAt w' sx eX := fun w' h => (BX6.fr h).at_ (by rw [hX.out]; exact he.v8) (by rw [hX.out]; show (e.kind + 1) % 256 ≤ 255; omega) (by rw [hX.out]; exact he.nl) (by rw [hX.out]; exact he.tl) (by rw [hX.out]; exact he.tx) (by rw [hX.out]; exact he.nr)
    have AY : ∀ w', Fr No w12 w' → EvAt w' sy eY := fun w' h => (BY8.fr h).at_ (by rw [hY.out]; show (e.v + 1) % 256 ≤ 255; omega) (by rw [hY.out]; exact he.k8) (by rw [hY.out]; exact he.nl) (by rw [hY.out]; exact he.tl) (by rw [hY.out]; exact he.tx) (by rw [hY.out]; exact he.nr)
    have AZ : ∀ w', Fr No w12 w' → EvAt w' sz2 eZ := fun w' h => (BZ10.fr h).at_ (by rw [hZ.out]; exact he.v8) (by rw [hZ.out]; exact he.k8) (by rw [hZ.out]; show (e.nums ++ [n]).length ≤ _; rw [List.length_append]; have := hsE.1; simp only [List.length_cons, List.length_nil]; omega) (by rw [hZ.out]; exact he.tl) (by rw [hZ.out]; exact he.tx) (by
      rw [hZ.out]
      intro m hm
      rcases List.mem_append.1 hm with hm | hm
      · exact he.nr m hm
      · simp at hm; subst hm; exact hn)
    have AW' : ∀ w', Fr No w12 w' → EvAt w' sw2 eW := fun w' h => (BW12.fr h).at_ (by rw [hW12.out]; exact he.v8) (by rw [hW12.out]; exact he.k8) (by rw [hW12.out]; exact he.nl) (by rw [hW12.out]; show (e.texts ++ [[120]]).length ≤ _; rw [List.length_append]; have := hsE.2.1; simp only [List.length_cons, List.length_nil]; omega) (by
      rw [hW12.out]
      intro m hm
      rcases List.mem_append.1 hm with hm | hm
      · exact he.tx m hm
      · simp at hm; subst hm; decide) (by rw [hW12.out]; exact he.nr)
    have X1 := hid (fun w' (h : Fr No w12 w') => same_any s sx e eX w' (he.fr (HW.trans (h12.trans h))) (AX w' h))
    have X2 := hid (fun w' (h : Fr No w12 w') => same_any s sy e eY w' (he.fr (HW.trans (h12.trans h))) (AY w' h))
    have X3 := hid (fun w' (h : Fr No w12 w') => same_any s sz2 e eZ w' (he.fr (HW.trans (h12.trans h))) (AZ w' h))
    have X4 := hid (fun w' (h : Fr No w12 w') => same_any sw2 s eW e w' (AW' w' h) (he.fr (HW.trans (h12.trans h))))
    have hk8 := he.k8
    have hv8 := he.v8
    rw [sameS_k (by rw [hX.out]; show e.kind ≠ (e.kind + 1) % 256; omega)] at X1
    rw [sameS_v (by rw [hY.out]; show e.v ≠ (e.v + 1) % 256; omega)] at X2
    rw [sameS_n (by rw [hZ.out]; show e.nums ≠ e.nums ++ [n]; intro h; have := congrArg List.length h; simp at this)] at X3
    rw [sameS_t (by rw [hW12.out]; show e.texts ++ [[120]] ≠ e.texts; intro h; have := congrArg List.length h; simp at this)] at X4
    clear AX AY AZ AW'
    have hF : Fr No w12 w12 := Fr.refl _
    obtain ⟨c0, c1, c2, c3⟩ := CE.out _ h12
    obtain ⟨p0, p1, p2, p3, _, _, _, _⟩ := BX6.cells4
    clear hk8 hv8
    unfold evV at *
    go_wp2_with (first
      | (go_at_call 23; (with_reducible refine (X1.out _ hF).mono ?_); rintro en wS ⟨rfl, hfS⟩; clear c0 c1 c2 c3 p0 p1 p2 p3; replace hF := hF.trans hfS; obtain ⟨c0, c1, c2, c3⟩ := CE.out _ (h12.trans hF); obtain ⟨p0, p1, p2, p3, _, _, _, _⟩ := (BY8.fr hF).cells4; clear hfS)
      | (go_at_call 23; (with_reducible refine (X2.out _ hF).mono ?_); rintro en wS ⟨rfl, hfS⟩; clear c0 c1 c2 c3 p0 p1 p2 p3; replace hF := hF.trans hfS; obtain ⟨c0, c1, c2, c3⟩ := CE.out _ (h12.trans hF); obtain ⟨p0, p1, p2, p3, _, _, _, _⟩ := (BZ10.fr hF).cells4; clear hfS)
      | (go_at_call 23; (with_reducible refine (X3.out _ hF).mono ?_); rintro en wS ⟨rfl, hfS⟩; clear c0 c1 c2 c3 p0 p1 p2 p3; replace hF := hF.trans hfS; obtain ⟨c0, c1, c2, c3⟩ := CE.out _ (h12.trans hF); obtain ⟨p0, p1, p2, p3, _, _, _, _⟩ := (BW12.fr hF).cells4; clear hfS)
      | (go_at_call 23; (with_reducible refine (X4.out _ hF).mono ?_); rintro en wS ⟨rfl, hfS⟩; replace hF := hF.trans hfS; clear hfS))
    go_meet
    case rel => exact ⟨rfl, hF⟩
  obtain ⟨rfl, h1213⟩ := hcut
  rename World => w13
  replace BX6 := BX6.fr h1213
  have h13 := h12.trans h1213
  clear BY8 BZ10 BW12 h1213 h12 h10 h8 h6
  by_cases hl0 : e.nums.length = 0
  · have hd0 : ((e.nums.length : Int) == 0) = true := by rw [hl0]; rfl
    obtain ⟨c0, c1, c2, c3⟩ := CE.out _ h13
    go_wp2_with fail
    go_ret
    exact ⟨rfl, HW.trans h13⟩
  have hd0 : ((e.nums.length : Int) == 0) = false := by rw [beq_eq_false_iff_ne]; omega
  obtain ⟨c0, c1, c2, c3⟩ := CE.out _ h13
  -- region 17: the place
  go_upto_region 17 with fail
  go_cut [13] from 99 (fun x w' => w' = w13 ∧ ∃ k : Nat, x = .int .i64 k ∧ k < e.nums.length)
  case first =>
    obtain ⟨A, hA, hA2⟩ := wrap_u64 at_
    have hL : IntKind.u64.wrap (e.nums.length : Int) = (e.nums.length : Int) := IntWalk.u64_in _ (by have := hsE.1; omega)
    have hR : (A : Int).tmod (e.nums.length : Int) = ((A % e.nums.length : Nat) : Int) := rfl
    have hlt : A % e.nums.length < e.nums.length := Nat.mod_lt _ (by omega)
    have hK : IntKind.i64.wrap ((A % e.nums.length : Nat) : Int) = ((A % e.nums.length : Nat) : Int) := IntWalk.i64_in _ (by have := hsE.1; omega)
    have hne : (e.nums.length : Int) ≠ 0 := by omega
    generalize A % e.nums.length = k at hR hlt hK
    go_wp2_with fail
    go_meet
    case rel => exact ⟨rfl, k, rfl, hlt⟩
  obtain ⟨rfl, k, rfl, hk⟩ := hcut
  clear c0 c1 c2 c3
  -- region 18: x is made anew
  go_upto_region 18 with fail
  go_cut [] from 107 (fun w' => Fr No w3 w' ∧ ∃ s', BoxAt w3.heap.size w' bx s' e)
  case first =>
    obtain ⟨c0, c1, c2, c3⟩ := CE.out _ h13
    go_wp2_with (first | (go_at_call 15; (with_reducible refine (OE.out _ h13).mono ?_); intro en wO hO; obtain ⟨sO, rfl, hnO, hfO⟩ := hO; obtain ⟨BO, hO2⟩ := BX6.over hfO hnO h13.size; obtain ⟨k0, k1, k2, k3, z0, z1, z2, z3⟩ := (BX6.fr hfO).cells4; unfold evV))
    go_meet
    case rel => exact ⟨(h13.trans hfO).newOnly BX6.lo hO2, _, BO⟩
  obtain ⟨h18, s5, B18⟩ := hcut
  rename World => w18
  clear BX6 h13
  -- region 19: x.Nums[k] = n
  go_upto_region 19 with fail
  go_cut [] from 109 (fun w' => Fr No w3 w' ∧ ∃ e', BoxAt w3.heap.size w' bx s5 e' ∧ Hid (e' = { e with nums := e.nums.set k n }))
  case first =>
    obtain ⟨g, c, hq, hg, hc, hz, BS⟩ := B18.store hk n
    obtain ⟨k0, k1, k2, k3, z0, z1, z2, z3⟩ := B18.cells4
    rw [hq] at k2
    have i1 : (k : Int) < (e.nums.length : Int) := by omega
    have i3 : (0 : Int) ≤ (k : Int) := by omega
    unfold numV at BS
    go_wp2_with fail
    go_meet
    case rel => exact ⟨h18.newOnly hg ((Fr.refl _).set_only _ _), _, BS, hid rfl⟩
  obtain ⟨h19, eN, B19, hN⟩ := hcut
  rename World => w19
  clear B18 h18
  -- region 20: the same just if the number is
  go_upto_region 20 with fail
  obtain ⟨m, hm⟩ : ∃ m, e.nums[k]? = some m := ⟨_, List.getElem?_eq_getElem hk⟩
  have hR : sameS e eN = (n == m) := by
    rw [hN.out]
    rw [Bool.eq_iff_iff]
    simp only [sameS, decide_true, Bool.true_and, Bool.and_true, decide_eq_true_eq, beq_iff_eq]
    constructor
    · intro h
      have h2 := congrArg (fun l : List Int => l[k]?) h
      simp only [List.getElem?_set_self hk, hm] at h2
      exact (Option.some.inj h2).symm
    · intro h
      subst h
      obtain ⟨hk', rfl⟩ := List.getElem?_eq_some_iff.1 hm
      exact (List.set_getElem_self hk').symm
  obtain ⟨b0, o0, hq0, hcell⟩ := he.nums k (numV m) (by simp [hm])
  have HY := fun (y : Aft w19) => h19.trans y.h
  have MX := fun (y : Aft w19) => (B19.fr y.h).cells4
  have X1 := hid (fun (y : Aft w19) => same_any s s5 e eN y.val (he.fr (HW.trans (HY y))) ((B19.fr y.h).at_ (by rw [hN.out]; exact he.v8) (by rw [hN.out]; exact he.k8) (by rw [hN.out]; simpa using he.nl) (by rw [hN.out]; exact he.tl) (by rw [hN.out]; exact he.tx) (by
    rw [hN.out]
    intro x hx
    rcases List.mem_or_eq_of_mem_set hx with hx | hx
    · exact he.nr x hx
    · subst hx; exact hn)))
  rw [hR] at X1
  have c0 := fun (y : Aft w19) => (CE.out _ (HY y)).1
  have c1 := fun (y : Aft w19) => (CE.out _ (HY y)).2.1
  have c2 := fun (y : Aft w19) => (CE.out _ (HY y)).2.2.1
  have c3 := fun (y : Aft w19) => (CE.out _ (HY y)).2.2.2
  have p0 := fun (y : Aft w19) => (MX y).1
  have p1 := fun (y : Aft w19) => (MX y).2.1
  have p2 := fun (y : Aft w19) => (MX y).2.2.1
  have p3 := fun (y : Aft w19) => (MX y).2.2.2.1
  have n0 := fun (y : Aft w19) => (HW.trans (HY y)).cell0 hcell
  rw [hq0] at c2
  have i1 : (k : Int) < (e.nums.length : Int) := by omega
  have i3 : (0 : Int) ≤ (k : Int) := by omega
  have hBB : ((n == m) == (n == m)) = true := by simp
  have HE := hid (HW.trans h19)
  clear HY MX CE CF OE AW hR B19 h19 hcell hm he hf
  unfold numV at n0
  unfold evV at *
  rw [hq0] at X1
  refine wp_region_aft (by kernel_rfl) (by kernel_rfl) ?_
  repeat (go_big_quiet_step (first | (go_at_call 23; with_reducible exact calls_aft (X1.out _))))
  refine wpQuiet_nil ?_
  rintro _ ⟨⟨w9, hf9⟩, rfl⟩
  clear c0 c1 c2 c3 p0 p1 p2 p3 n0
  go_wp2_with fail
  go_ret
  exact ⟨by first | rfl | simp, HE.out.trans hf9⟩
end Go.Proofs.YtbihbkjdngjgkaaDoor
