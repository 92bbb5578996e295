/-
  SchemaMay: the walk.
-/
import Derived.Test.YtbihbkjdngjgkaaDoorAwake5
import Derived.Test.YtbihbkjdngjgkaaDoorLong5
import Derived.Test.YtbihbkjdngjgkaaDoorOwnTwo
import Derived.Test.YtbihbkjdngjgkaaDoorRMay2
import Derived.Test.YtbihbkjdngjgkaaDoorRSame
import Derived.Test.YtbihbkjdngjgkaaDoorAft
import Derived.Deep.Cut
namespace Go.Proofs.YtbihbkjdngjgkaaDoor
open Go.RowKit

theorem mbool_self (b : Bool) : (b == b) = true := by cases b <;> rfl
theorem sameS_self (e : Ev) : sameS e e = true := by simp [sameS]
theorem rMayName_fr (s : List UInt8) (w : World) : Calls Tryd.prog 22 #[strV s] w fun e w' => e = .returned (.bool (mayNameS s)) ∧ Fr No w w' :=
  (rMayName_any s w).mono fun _ _ ⟨h1, h2⟩ => ⟨h1, by subst h2; exact Fr.refl _⟩
theorem cells4_of {w : World} {b : Nat} {v0 v1 v2 v3 : Value} {t : TypeId} (h : w.heap[b]? = some (.cells #[v0, v1, v2, v3] t (0, 0))) :
    w.cell? ⟨b, 0, none⟩ = some v0 ∧ w.cell? ⟨b, 1, none⟩ = some v1 ∧ w.cell? ⟨b, 2, none⟩ = some v2 ∧ w.cell? ⟨b, 3, none⟩ = some v3 := by
  refine ⟨?_, ?_, ?_, ?_⟩ <;> simp [World.cell?, h]

set_option maxHeartbeats 8000000 in
set_option maxRecDepth 100000 in
theorem schemaMay_any (s t : EvP) (e f : Ev) (name : List UInt8) (w : World) (he : EvAt w s e) (hf : EvAt w t f) (hes : e.nums.length ≤ 17592186044416 ∧ e.texts.length ≤ 8796093022208)
    (hfs : f.nums.length ≤ 17592186044416 ∧ f.texts.length ≤ 8796093022208) (hkt : KT w) (hct : CT w) :
    Calls Tryd.prog 5 #[evV s e, evV t f, strV name] w fun en w' => en = .returned (.bool true) ∧ Fr No w w' := by
  have AW := hid (fun w1 (h : Fr No w w1) => awake5_any w1 (hkt.fr h) (hct.fr h))
  have LE := hid (fun w1 (h : Fr No w w1) => long5_any s e w1 (he.fr h) (by omega) (by omega))
  have LF := hid (fun w1 (h : Fr No w w1) => long5_any t f w1 (hf.fr h) (by omega) (by omega))
  have OE := hid (fun w1 (h : Fr No w w1) (hs : Small e) => own5_any s e w1 (he.fr h) (by have := hs.1; omega) (by have := hs.2.1; omega))
  have OF := hid (fun w1 (h : Fr No w w1) (hs : Small f) => own5_any t f w1 (hf.fr h) (by have := hs.1; omega) (by have := hs.2.1; omega))
  have HF0 : Fr No w ((w.alloc (.cells #[.int .u8 e.v, .int .u8 e.kind, .slice s.qn e.nums.length s.cn, .slice s.qt e.texts.length s.ct] 25)).alloc (.cells #[.int .u8 f.v, .int .u8 f.kind, .slice t.qn f.nums.length t.cn, .slice t.qt f.texts.length t.ct] 25)) := ((Fr.refl w).alloc _).alloc _
  have g1 := Go.heap_alloc_new (w.alloc (.cells #[.int .u8 e.v, .int .u8 e.kind, .slice s.qn e.nums.length s.cn, .slice s.qt e.texts.length s.ct] 25)) (.cells #[.int .u8 f.v, .int .u8 f.kind, .slice t.qn f.nums.length t.cn, .slice t.qt f.texts.length t.ct] 25)
  have g0 : ((w.alloc (.cells #[.int .u8 e.v, .int .u8 e.kind, .slice s.qn e.nums.length s.cn, .slice s.qt e.texts.length s.ct] 25)).alloc (.cells #[.int .u8 f.v, .int .u8 f.kind, .slice t.qn f.nums.length t.cn, .slice t.qt f.texts.length t.ct] 25)).heap[w.heap.size]? = some (.cells #[.int .u8 e.v, .int .u8 e.kind, .slice s.qn e.nums.length s.cn, .slice s.qt e.texts.length s.ct] 25 (0, 0)) := by
    rw [Below.heap_alloc _ _ _ (by simp)]; exact Go.heap_alloc_new _ _
  have C0 := hid (fun w1 (h : Fr No _ w1) => cells4_of (h.heap0 g0))
  have C1 := hid (fun w1 (h : Fr No _ w1) => cells4_of (h.heap0 g1))
  have hsz : (w.alloc (.cells #[.int .u8 e.v, .int .u8 e.kind, .slice s.qn e.nums.length s.cn, .slice s.qt e.texts.length s.ct] 25)).heap.size = w.heap.size + 1 := by simp
  rw [hsz] at C1
  clear g0 g1 hsz
  unfold evV strV at *
  go_enter Tryd.func5, Tryd.ntmps5
  go_upto_region 3 with (first
    | (go_at_call 11; (with_reducible refine (LE.out _ HF0).mono ?_); intro e1 w1 h1; obtain ⟨bE, rfl, hbE, hf1⟩ := h1; obtain ⟨d0, d1, d2, d3⟩ := C1.out _ hf1; cases bE)
    | (go_at_call 11; (with_reducible refine (LF.out _ (HF0.trans hf1)).mono ?_); intro e2 w2 h2; obtain ⟨bF, rfl, hbF, hf2⟩ := h2; clear d0 d1 d2 d3; cases bF)
    | (go_at_call 12; (with_reducible refine (AW.out _ (HF0.trans (hf1.trans hf2))).mono ?_); rintro e3 w3 ⟨rfl, hf3⟩)
    | (go_at_call 12; (with_reducible refine (AW.out _ (HF0.trans hf1)).mono ?_); rintro e3 w3 ⟨rfl, hf3⟩))
  all_goals first | (go_ret; first | exact ⟨rfl, HF0.trans (hf1.trans hf3)⟩ | exact ⟨rfl, HF0.trans ((hf1.trans hf2).trans hf3)⟩) | skip
  have HNL : Hid ((name.length : Int) ≤ 300) := hid (by assumption)
  have hsE := hbE trivial
  have hsF := hbF trivial
  have HFW := HF0.trans (hf1.trans hf2)
  have CW0 := hid (fun w3 (h : Fr No w2 w3) => C0.out _ ((hf1.trans hf2).trans h))
  have CW1 := hid (fun w3 (h : Fr No w2 w3) => C1.out _ ((hf1.trans hf2).trans h))
  have OE' := hid (fun w3 (h : Fr No w2 w3) => OE.out w3 (HFW.trans h) hsE)
  have OF' := hid (fun w3 (h : Fr No w2 w3) => OF.out w3 (HFW.trans h) hsF)
  clear hbE hbF LE LF OE OF
  refine wp_region_inv' (by kernel_rfl) (fun a0 listed a' w' => ∃ l0 l1 l2 l3 l4 l5 l6 l7 x0 x1 x2 x3 x4 x5, listed = #[l0, l1, l2, l3, l4, l5, l6, l7] ∧
    a' = (((((a0.put (some 21) x0).put (some 22) x1).put (some 23) x2).put (some 24) x3).put (some 7) x4).put (some 8) x5 ∧
    TwoRel w2 (evV s e) (evV t f) e f l0 l1 l2 l3 l4 l5 l6 l7 x0 x1 x2 x3 x4 x5 w') ?start ?step ?done
  case start =>
    exact ⟨false, false, false, false, false, false, false, false, undef, undef, undef, undef, undef, undef, rfl, rfl, ⟨(Fr.refl _).drew, fun h => (by cases h), fun h => (by cases h), Half.start _ _ _ _ _, Half.start _ _ _ _ _, fun h => (by cases h)⟩⟩
  case step =>
    rintro _ _ w3 i ⟨l0, l1, l2, l3, l4, l5, l6, l7, x0, x1, x2, x3, x4, x5, rfl, rfl, hT⟩ hi
    have hlt := ready_lt hi
    have hfree := ready_free hi
    have hdep := fun o ho => ready_of (o := o) hi ho
    have hcase : i = 0 ∨ i = 1 ∨ i = 2 ∨ i = 3 ∨ i = 4 ∨ i = 5 ∨ i = 6 ∨ i = 7 := by
      have : i < 8 := hlt
      omega
    obtain ⟨c0, c1, c2, c3⟩ := CW0.out _ hT.fr
    obtain ⟨d0, d1, d2, d3⟩ := CW1.out _ hT.fr
    clear hlt
    rcases hcase with rfl | rfl | rfl | rfl | rfl | rfl | rfl | rfl
    · clear hdep
      refine wpOp_step rfl rfl (fun K hK => ?_)
      simp only [Act.put, List.setIfInBounds_toArray, List.set_cons_zero, List.set_cons_succ]
      go_simp
      exact hK _ _ ⟨true, l1, l2, l3, l4, l5, l6, l7, _, x1, x2, x3, x4, x5, rfl, rfl, ⟨hT.fr, fun _ => rfl, hT.a2, hT.e, hT.f, hT.ne⟩⟩
    · have g0 : l0 = true := hdep _ rfl ⟨0, .data⟩ (by simp) rfl
      obtain rfl := hT.a0 g0
      clear hdep
      refine wpOp_step rfl rfl (fun K hK => ?_)
      simp only [Act.put, List.setIfInBounds_toArray, List.set_cons_zero, List.set_cons_succ]
      unfold evV
      go_simp
      go_at_call 15
      refine (OE'.out _ hT.fr).mono ?_
      intro en w4 h4
      obtain ⟨s1, rfl, hn, hf4⟩ := h4
      have hn2 := hn.mono hT.fr.size
      simp only
      exact hK _ _ ⟨l0, true, l2, l3, l4, l5, l6, l7, _, _, x2, x3, x4, x5, rfl, rfl, ⟨hT.fr.trans hf4, hT.a0, hT.a2, hT.e.called hf4 hn2, hT.f.fr hf4, hT.ne⟩⟩
    · clear hdep
      refine wpOp_step rfl rfl (fun K hK => ?_)
      simp only [Act.put, List.setIfInBounds_toArray, List.set_cons_zero, List.set_cons_succ]
      go_simp
      exact hK _ _ ⟨l0, l1, true, l3, l4, l5, l6, l7, x0, x1, _, x3, x4, x5, rfl, rfl, ⟨hT.fr, hT.a0, fun _ => rfl, hT.e, hT.f, hT.ne⟩⟩
    · have g0 : l2 = true := hdep _ rfl ⟨2, .data⟩ (by simp) rfl
      obtain rfl := hT.a2 g0
      clear hdep
      refine wpOp_step rfl rfl (fun K hK => ?_)
      simp only [Act.put, List.setIfInBounds_toArray, List.set_cons_zero, List.set_cons_succ]
      unfold evV
      go_simp
      go_at_call 15
      refine (OF'.out _ hT.fr).mono ?_
      intro en w4 h4
      obtain ⟨s1, rfl, hn, hf4⟩ := h4
      have hn2 := hn.mono hT.fr.size
      simp only
      exact hK _ _ ⟨l0, l1, l2, true, l4, l5, l6, l7, x0, x1, _, _, x4, x5, rfl, rfl, ⟨hT.fr.trans hf4, hT.a0, hT.a2, hT.e.fr hf4, hT.f.called hf4 hn2, hT.ne⟩⟩
    · clear hdep
      have g4 : l4 = false := hfree
      refine wpOp_step rfl rfl (fun K hK => ?_)
      simp only [Act.put, List.setIfInBounds_toArray, List.set_cons_zero, List.set_cons_succ]
      go_simp
      exact hK _ _ ⟨l0, l1, l2, l3, true, l5, l6, l7, x0, x1, x2, x3, _, x5, rfl, rfl, ⟨hT.fr.alloc _, hT.a0, hT.a2, hT.e.boxed g4 hT.fr.size _ _ _ _, hT.f.fr ((Fr.refl _).alloc _), fun _ h5 => by subst h5; exact hT.f.lt.symm⟩⟩
    · clear hdep
      have g5 : l5 = false := hfree
      refine wpOp_step rfl rfl (fun K hK => ?_)
      simp only [Act.put, List.setIfInBounds_toArray, List.set_cons_zero, List.set_cons_succ]
      go_simp
      exact hK _ _ ⟨l0, l1, l2, l3, l4, true, l6, l7, x0, x1, x2, x3, x4, _, rfl, rfl, ⟨hT.fr.alloc _, hT.a0, hT.a2, hT.e.fr ((Fr.refl _).alloc _), hT.f.boxed g5 hT.fr.size _ _ _ _, fun h4 _ => by subst h4; exact hT.e.lt⟩⟩
    · have g4 : l4 = true := hdep _ rfl ⟨4, .data⟩ (by simp) rfl
      have g1 : l1 = true := hdep _ rfl ⟨1, .data⟩ (by simp) rfl
      subst g4 g1
      clear hdep
      obtain ⟨s1, rfl, hn⟩ := hT.e.call rfl
      obtain ⟨b, z0, z1, z2, z3, rfl, hB, hb, _⟩ := hT.e.box rfl
      obtain ⟨k0, k1, k2, k3, f0, f1, f2, f3⟩ := cells4 hb
      obtain ⟨hst, hfr⟩ := store4 hb (.int .u8 e.v) (.int .u8 e.kind) (.slice s1.qn e.nums.length s1.cn) (.slice s1.qt e.texts.length s1.ct)
      refine wpOp_step rfl rfl (fun K hK => ?_)
      simp only [Act.put, List.setIfInBounds_toArray, List.set_cons_zero, List.set_cons_succ]
      unfold evV
      go_simp
      exact hK _ _ ⟨l0, true, l2, l3, true, l5, true, l7, x0, _, x2, x3, _, x5, rfl, rfl, ⟨hT.fr.newOnly hB hfr, hT.a0, hT.a2, hT.e.stored rfl hn hb hfr hst, hT.f.other hb hfr (fun h5 => (hT.ne rfl h5).symm), hT.ne⟩⟩
    · have g4 : l5 = true := hdep _ rfl ⟨5, .data⟩ (by simp) rfl
      have g1 : l3 = true := hdep _ rfl ⟨3, .data⟩ (by simp) rfl
      subst g4 g1
      clear hdep
      obtain ⟨s1, rfl, hn⟩ := hT.f.call rfl
      obtain ⟨b, z0, z1, z2, z3, rfl, hB, hb, _⟩ := hT.f.box rfl
      obtain ⟨k0, k1, k2, k3, f0, f1, f2, f3⟩ := cells4 hb
      obtain ⟨hst, hfr⟩ := store4 hb (.int .u8 f.v) (.int .u8 f.kind) (.slice s1.qn f.nums.length s1.cn) (.slice s1.qt f.texts.length s1.ct)
      refine wpOp_step rfl rfl (fun K hK => ?_)
      simp only [Act.put, List.setIfInBounds_toArray, List.set_cons_zero, List.set_cons_succ]
      unfold evV
      go_simp
      exact hK _ _ ⟨l0, l1, l2, true, l4, true, l6, true, x0, x1, x2, _, x4, _, rfl, rfl, ⟨hT.fr.newOnly hB hfr, hT.a0, hT.a2, hT.e.other hb hfr (fun h4 => hT.ne h4 rfl), hT.f.stored rfl hn hb hfr hst, hT.ne⟩⟩
  case done =>
    rintro _ _ w3 ⟨l0, l1, l2, l3, l4, l5, l6, l7, x0, x1, x2, x3, x4, x5, rfl, rfl, hT⟩ hr
    have hall := listed_all (by kernel_rfl) rfl hr
    have g4 : l4 = true := hall 4 (by show 4 < 8; decide)
    have g5 : l5 = true := hall 5 (by show 5 < 8; decide)
    have g6 : l6 = true := hall 6 (by show 6 < 8; decide)
    have g7 : l7 = true := hall 7 (by show 7 < 8; decide)
    subst g4 g5 g6 g7
    clear hall hr
    obtain ⟨b1, s1, rfl, _, hb1, hn1⟩ := hT.e.ends
    obtain ⟨b2, s2, rfl, _, hb2, hn2⟩ := hT.f.ends
    have hF := hT.fr
    clear hT OE' OF' C0 C1
    simp only [Act.put, List.setIfInBounds_toArray, List.set_cons_zero, List.set_cons_succ]
    have M1 := hid (fun (y : Aft w3) => cells4_of (y.h.heap0 hb1))
    have M2 := hid (fun (y : Aft w3) => cells4_of (y.h.heap0 hb2))
    have c0 := fun (y : Aft w3) => (CW0.out _ (hF.trans y.h)).1
    have c1 := fun (y : Aft w3) => (CW0.out _ (hF.trans y.h)).2.1
    have c2 := fun (y : Aft w3) => (CW0.out _ (hF.trans y.h)).2.2.1
    have c3 := fun (y : Aft w3) => (CW0.out _ (hF.trans y.h)).2.2.2
    have d0 := fun (y : Aft w3) => (CW1.out _ (hF.trans y.h)).1
    have d1 := fun (y : Aft w3) => (CW1.out _ (hF.trans y.h)).2.1
    have d2 := fun (y : Aft w3) => (CW1.out _ (hF.trans y.h)).2.2.1
    have d3 := fun (y : Aft w3) => (CW1.out _ (hF.trans y.h)).2.2.2
    have p0 := fun (y : Aft w3) => (M1.out y).1
    have p1 := fun (y : Aft w3) => (M1.out y).2.1
    have p2 := fun (y : Aft w3) => (M1.out y).2.2.1
    have p3 := fun (y : Aft w3) => (M1.out y).2.2.2
    have q0 := fun (y : Aft w3) => (M2.out y).1
    have q1 := fun (y : Aft w3) => (M2.out y).2.1
    have q2 := fun (y : Aft w3) => (M2.out y).2.2.1
    have q3 := fun (y : Aft w3) => (M2.out y).2.2.2
    have HFY := fun (y : Aft w3) => HFW.trans (hF.trans y.h)
    have A1 := fun (y : Aft w3) => (hn1.fr y.h).at_ he
    have A2 := fun (y : Aft w3) => (hn2.fr y.h).at_ hf
    have X1 := hid (fun (y : Aft w3) => may_any s1 e y.val (A1 y) (hkt.fr (HFY y)))
    have X2 := hid (fun (y : Aft w3) => rMay_any s e y.val (he.fr (HFY y)))
    have X3 := hid (fun (y : Aft w3) => may_any s2 f y.val (A2 y) (hkt.fr (HFY y)))
    have X4 := hid (fun (y : Aft w3) => rMay_any t f y.val (hf.fr (HFY y)))
    have X5 := hid (fun (y : Aft w3) => mayName_any name y.val (by have := HNL.out; omega))
    have X6 := hid (fun (y : Aft w3) => rMayName_fr name y.val)
    have X7 := hid (fun (y : Aft w3) => same_any s1 s2 e f y.val (A1 y) (A2 y))
    have X8 := hid (fun (y : Aft w3) => refSame_any s t e f y.val (he.fr (HFY y)) (hf.fr (HFY y)))
    have X9 := hid (fun (y : Aft w3) => refSame_any s1 s e e y.val (A1 y) (he.fr (HFY y)))
    have X0 := hid (fun (y : Aft w3) => AW.out y.val (HFY y))
    rw [sameS_self] at X9
    generalize mayS e = R1 at X1 X2
    generalize mayS f = R2 at X3 X4
    generalize mayNameS name = R3 at X5 X6
    generalize sameS e f = R4 at X7 X8
    have r1 := mbool_self R1
    have r2 := mbool_self R2
    have r3 := mbool_self R3
    have r4 := mbool_self R4
    have HFF := hid (HFW.trans hF)
    clear CW0 CW1 M1 M2 HFY A1 A2 hb1 hb2 hn1 hn2 hF HFW AW HF0 hf1 hf2 hsE hsF he hf hes hfs hkt hct
    unfold evV strV at *
    go_upto_region 4 with fail
    refine wp_region_aft (by kernel_rfl) (by kernel_rfl) ?_
    repeat (go_big_quiet_step (first
      | (go_at_call 14; with_reducible exact calls_aft (X1.out _))
      | (go_at_call 14; with_reducible exact calls_aft (X3.out _))
      | (go_at_call 21; with_reducible exact calls_aft (X2.out _))
      | (go_at_call 21; with_reducible exact calls_aft (X4.out _))
      | (go_at_call 20; with_reducible exact calls_aft (X5.out _))
      | (go_at_call 22; with_reducible exact calls_aft (X6.out _))
      | (go_at_call 23; with_reducible exact calls_aft (X7.out _))
      | (go_at_call 24; with_reducible exact calls_aft (X8.out _))
      | (go_at_call 24; with_reducible exact calls_aft (X9.out _))
      | (go_at_call 12; with_reducible exact calls_aft (X0.out _))))
    refine wpQuiet_nil ?_
    rintro _ ⟨⟨w9, hf9⟩, rfl⟩
    clear c0 c1 c2 c3 d0 d1 d2 d3 p0 p1 p2 p3 q0 q1 q2 q3
    go_wp2_with fail
    go_ret
    exact ⟨by first | rfl | simp, HFF.out.trans hf9⟩
end Go.Proofs.YtbihbkjdngjgkaaDoor
