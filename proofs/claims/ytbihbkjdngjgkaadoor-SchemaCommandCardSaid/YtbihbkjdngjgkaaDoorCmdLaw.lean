/-
  SchemaCommand: the plain law and the walk.
-/
import Derived.Test.YtbihbkjdngjgkaaDoorAwake5
import Derived.Test.YtbihbkjdngjgkaaDoorMayCmd
import Derived.Test.YtbihbkjdngjgkaaDoorCmdMore
import Derived.Test.YtbihbkjdngjgkaaDoorMayPlain
import Derived.Test.YtbihbkjdngjgkaaDoorAft
import Derived.Deep.Cut
namespace Go.Proofs.YtbihbkjdngjgkaaDoor
open Go.RowKit

theorem cbox3 {w : World} {b : Nat} {v0 v1 v2 : Value} {t : TypeId} (h : w.heap[b]? = some (.cells #[v0, v1, v2] t (0, 0))) :
    w.cell? ⟨b, 0, none⟩ = some v0 ∧ w.cell? ⟨b, 1, none⟩ = some v1 ∧ w.cell? ⟨b, 2, none⟩ = some v2 := by
  refine ⟨?_, ?_, ?_⟩ <;> simp [World.cell?, h]
theorem cbox3f {w : World} {b : Nat} {v0 v1 v2 : Value} {t : TypeId} (h : w.heap[b]? = some (.cells #[v0, v1, v2] t (0, 0))) :
    w.cell? ⟨b, 0, none⟩ = some v0 ∧ w.cell? ⟨b, 1, none⟩ = some v1 ∧ w.cell? ⟨b, 2, none⟩ = some v2 ∧ w.frozen? ⟨b, 0, none⟩ = false ∧ w.frozen? ⟨b, 1, none⟩ = false ∧ w.frozen? ⟨b, 2, none⟩ = false := by
  refine ⟨?_, ?_, ?_, ?_, ?_, ?_⟩ <;> simp [World.cell?, World.frozen?, h]
theorem cwrap_u64 (n : Int) : ∃ A : Nat, IntKind.u64.wrap n = (A : Int) ∧ A ≤ 18446744073709551615 := by
  have h : IntKind.u64.wrap n = n % 18446744073709551616 := by simp [IntKind.wrap, IntKind.signed, IntKind.bits]
  refine ⟨(n % 18446744073709551616).toNat, ?_, by omega⟩
  rw [h]; omega
theorem ToldPost.at5 {w w' : World} {x : List UInt8 × Bool × Bool} {en : Ending} (h : ToldPost w x en w') :
    ∃ q c, en = .returned (.tuple #[.slice q x.1.length c, .bool x.2.1, .bool x.2.2]) ∧ SlAt w' q (x.1.map clsV) ∧ Fr No w w' := by
  obtain ⟨L, h1, h2, h3⟩ := h
  obtain ⟨q, c, rfl⟩ := h2.shape
  simp only [List.length_map] at h1 h2 ⊢
  exact ⟨q, c, h1, h2.at_, h3⟩
theorem mayCmdS_parts {c : Cm} {l : List UInt8} {t i : Bool} (h : commandS c.kind = (l, t, i)) (hm : mayCmdS c = true) :
    i = true ∧ l.length = c.nums.length ∧ (∀ (j : Nat) (d : UInt8) (x : Int), l[j]? = some d → c.nums[j]? = some x → fitsS 3 d.toNat x = true) ∧ mayNameS c.text = t ∧ (t = false → c.text = []) := by
  rw [mayCmdS_cases c l t i h] at hm
  simp only [Bool.and_eq_true] at hm
  obtain ⟨h1, h2, h3⟩ := hm
  obtain ⟨h4, h5⟩ := allS_iff.1 h2
  refine ⟨h1, h4, h5, ?_, fun ht => ?_⟩
  · cases t
    · have : c.text = [] := by simpa using h3
      rw [this]; rfl
    · simpa using h3
  · subst ht
    simpa using h3
theorem mayCmdS_len {c d : Cm} {l : List UInt8} {t i : Bool} (h : commandS c.kind = (l, t, i)) (hk : d.kind = c.kind) (hl : l.length ≠ d.nums.length) : mayCmdS d = false := by
  rw [mayCmdS_cases d l t i (by rw [hk]; exact h), allS_ne hl, Bool.false_and, Bool.and_false]
theorem mayCmdS_text {c d : Cm} {l : List UInt8} {t i : Bool} (h : commandS c.kind = (l, t, i)) (hk : d.kind = c.kind) (hx : (if t then mayNameS d.text else d.text.isEmpty) = false) : mayCmdS d = false := by
  rw [mayCmdS_cases d l t i (by rw [hk]; exact h), hx, Bool.and_false, Bool.and_false]
theorem mayCmdS_set {c : Cm} {l : List UInt8} {t i : Bool} (h : commandS c.kind = (l, t, i)) (hm : mayCmdS c = true) {k : Nat} {d : UInt8} {n : Int} (hd : l[k]? = some d) :
    mayCmdS ⟨c.kind, c.nums.set k n, c.text⟩ = fitsS 3 d.toNat n := by
  have h0 := hm
  rw [mayCmdS_cases c l t i h] at h0
  simp only [Bool.and_eq_true] at h0
  obtain ⟨h1, h2, h3⟩ := h0
  obtain ⟨h4, h5⟩ := allS_iff.1 h2
  rw [mayCmdS_cases ⟨c.kind, c.nums.set k n, c.text⟩ l t i h]
  simp only
  rw [h1, h3, Bool.true_and, Bool.and_true]
  have hkl := (List.getElem?_eq_some_iff.1 hd).1
  rcases hf : fitsS 3 d.toNat n with _ | _
  · exact allS_bad (i := k) hd (by rw [List.getElem?_set_self (by omega)]) hf
  · refine allS_good (by simpa using h4) fun j c' x a b => ?_
    by_cases hj : j = k
    · subst hj
      rw [hd] at a
      cases a
      rw [List.getElem?_set_self (by omega)] at b
      cases b
      exact hf
    · rw [List.getElem?_set_ne (by omega)] at b
      exact h5 j c' x a b

set_option maxHeartbeats 8000000 in
set_option maxRecDepth 100000 in
theorem schemaCommand_any (q : Option Addr) (cn : Nat) (c : Cm) (at_ n : Int) (w : World) (hE : CmAt w q c) (_hn : -9223372036854775808 ≤ n ∧ n ≤ 9223372036854775807) (hkt : KT w) (hct : CT w) :
    Calls Tryd.prog 4 #[cmV q cn c, .int .i64 at_, .int .i64 n] w fun e w' => e = .returned (.bool true) ∧ Fr No w w' := by
  have AW := hid (fun w1 (h : Fr No w w1) => awake5_any w1 (hkt.fr h) (hct.fr h))
  have CF := hid (fun w1 (h : Fr No w w1) => (command_fields c.kind w1 hE.k8 (hct.fr h)).mono fun _ _ h => ToldPost.at5 h)
  have MC := hid (fun w1 (h : Fr No w w1) => mayCmd_any q cn c w1 (hE.fr h) (hct.fr h))
  have MN := hid (fun w1 => mayName_any c.text w1 hE.tl)
  have hlen := commandS_length c.kind
  have hmp := fun l t i h hm => @mayCmdS_parts c l t i h hm
  have hml := fun (d : Cm) l t i h a b => @mayCmdS_len c d l t i h a b
  have hmt := fun (d : Cm) l t i h a b => @mayCmdS_text c d l t i h a b
  have hms := fun l t i h hm k d m a => @mayCmdS_set c l t i h hm k d m a
  generalize hfs : commandS c.kind = x at CF hlen
  obtain ⟨l, t, i⟩ := x
  replace hmp := hid (hmp l t i hfs)
  replace hml := hid (fun d => hml d l t i hfs)
  replace hmt := hid (fun d => hmt d l t i hfs)
  replace hms := hid (hms l t i hfs)
  simp only at CF hlen
  clear hfs
  have HF0 : Fr No w (w.alloc (.cells #[.int .u8 c.kind, .slice q c.nums.length cn, .string ⟨c.text.toArray⟩] 39)) := (Fr.refl w).alloc _
  have g0 := Go.heap_alloc_new w (.cells #[.int .u8 c.kind, .slice q c.nums.length cn, .string ⟨c.text.toArray⟩] 39)
  have C0 := hid (fun w1 (h : Fr No _ w1) => cbox3 (h.heap0 g0))
  clear g0
  unfold cmV strV at *
  have hnl := hE.nl
  have htl := hE.tl
  by_cases hA : 300 < c.nums.length ∨ 300 < c.text.length
  · have hC : decide ((300 : Int) < (c.nums.length : Int)) = true ∨ (decide ((300 : Int) < (c.nums.length : Int)) = false ∧ decide ((300 : Int) < (c.text.length : Int)) = true) := by
      by_cases h : 300 < c.nums.length
      · exact .inl (by simp; omega)
      · exact .inr ⟨by simp; omega, by simp; omega⟩
    clear hA
    rcases hC with d1 | ⟨d1, d2⟩
    all_goals
      go_enter Tryd.func4, Tryd.ntmps4
      go_wp2_with (first | (go_at_call 12; (with_reducible refine (AW.out _ HF0).mono ?_); rintro e1 w1 ⟨rfl, hf⟩))
      go_ret
      exact ⟨rfl, HF0.trans hf⟩
  have d1 : decide ((300 : Int) < (c.nums.length : Int)) = false := by simp; omega
  have d2 : decide ((300 : Int) < (c.text.length : Int)) = false := by simp; omega
  have hsN : c.nums.length ≤ 300 := by omega
  have hsT : c.text.length ≤ 300 := by omega
  clear hA
  go_enter Tryd.func4, Tryd.ntmps4
  go_upto_region 4 with (first
    | (go_at_call 12; (with_reducible refine (AW.out _ HF0).mono ?_); rintro e2 w2 ⟨rfl, hf2⟩; obtain ⟨c0, c1, c2⟩ := C0.out _ hf2)
    | (go_at_call 18; (with_reducible refine (CF.out _ (HF0.trans hf2)).mono ?_); rintro e3 w3 ⟨ql, cl, rfl, SL, hf3⟩))
  have HW := HF0.trans (hf2.trans hf3)
  have CE := hid (fun w4 (h : Fr No w3 w4) => C0.out _ ((hf2.trans hf3).trans h))
  clear c0 c1 c2
  clear C0 HF0 hf2 hf3 w2 CF
  obtain ⟨c0, c1, c2⟩ := CE.out _ (Fr.refl _)
  -- region 4: may it be?
  rcases hm : mayCmdS c with _ | _
  · rw [hm] at MC
    go_wp2_with (first | (go_at_call 19; (with_reducible refine (MC.out _ HW).mono ?_); rintro e4 w4 ⟨rfl, hf4⟩))
    go_ret
    exact ⟨rfl, HW.trans hf4⟩
  rw [hm] at MC
  obtain ⟨rfl, hll, hfit, hmn, htf⟩ := hmp.out hm
  have HLL := hid hll
  have HFIT := hid hfit
  have HTF := hid htf
  have HMN := hid hmn
  rw [hmn] at MN
  clear hll hfit htf hmn hmp
  go_upto_region 6 with (first | (go_at_call 19; (with_reducible refine (MC.out _ HW).mono ?_); rintro e4 w4 ⟨rfl, hf4⟩; clear c0 c1 c2; obtain ⟨c0, c1, c2⟩ := CE.out _ hf4))
  go_cut [55] from 39 (fun x w' => x = .bool false ∧ Fr No w4 w')
  case first =>
    have q1 : ((l.length : Int) != (c.nums.length : Int)) = false := by rw [HLL.out]; simp
    have q4 : (t != t) = false := by cases t <;> rfl
    go_wp2_with (first | (go_at_call 20; (with_reducible refine (MN.out _).mono ?_); rintro e5 w5 ⟨rfl, hf5⟩))
    go_meet
    case rel => exact ⟨rfl, hf5⟩
  obtain ⟨rfl, h45⟩ := hcut
  rename World => w5
  replace HW := HW.trans (hf4.trans h45)
  replace SL := SL.fr (hf4.trans h45)
  replace CE := hid (fun w6 h => CE.out w6 ((hf4.trans h45).trans h))
  clear c0 c1 c2 hf4 h45 w4 MN
  obtain ⟨i0, hi, hz0, hz1, hz2⟩ := info_parts infoI64
  have HS1 : Hid (∀ w', Fr No w5 w' → Src Tryd.prog 1 22 (.slice q c.nums.length cn) c.nums.length (c.nums.map numV) w') := hid (fun w' h => by
    have := Src.ofSl (P := Tryd.prog) (c := cn) Tryd.underlying22 (hE.nums.fr (HW.trans h)) (num_one c.nums)
    simpa using this)
  -- region 8 : more
  go_upto_region 8 with fail
  refine wp_region_inv' (by kernel_rfl) (fun a0 listed a' w' => ∃ l0 l1 l2 l3 l4 l5 l6 l7 l8 l9 l10 l11 l12 l13 x0 x1 x2 x3 x4 x5 x6 x7 x8 x9 x10 x11 x12, listed = #[l0, l1, l2, l3, l4, l5, l6, l7, l8, l9, l10, l11, l12, l13] ∧
    a' = (((((((((((((a0.put (some 56) x0).put (some 57) x1).put (some 58) x2).put (some 59) x3).put (some 60) x4).put (some 61) x5).put (some 62) x6).put (some 63) x7).put (some 64) x8).put (some 65) x9).put (some 66) x10).put (some 67) x11).put (some 10) x12) ∧
    MoreRel w5 w.heap.size q cn c n l0 l1 l2 l3 l4 l5 l6 l7 l8 l9 l10 l11 l12 l13 x0 x1 x2 x3 x4 x5 x6 x7 x8 x9 x10 x11 x12 w') ?start ?step ?done
  case start =>
    refine ⟨false, false, false, false, false, false, false, false, false, false, false, false, false, false, u56, u57, u58, u59, u60, u61, u62, u63, u64, u65, u66, u67, undef, rfl, ?_, MoreRel.start _ _ _ _ _ _ _ _ _ _ _ _ _ ((Fr.refl _).drew)⟩
    simp only [Act.put, List.setIfInBounds_toArray, List.set_cons_zero, List.set_cons_succ]
  case step =>
    rintro _ _ w6 i ⟨l0, l1, l2, l3, l4, l5, l6, l7, l8, l9, l10, l11, l12, l13, x0, x1, x2, x3, x4, x5, x6, x7, x8, x9, x10, x11, x12, rfl, rfl, hT⟩ hir
    have hlt := ready_lt hir
    have hfree := ready_free hir
    have hdep := fun o ho => ready_of (o := o) hir ho
    have hcase : i = 0 ∨ i = 1 ∨ i = 2 ∨ i = 3 ∨ i = 4 ∨ i = 5 ∨ i = 6 ∨ i = 7 ∨ i = 8 ∨ i = 9 ∨ i = 10 ∨ i = 11 ∨ i = 12 ∨ i = 13 := by
      have : i < 14 := hlt
      omega
    obtain ⟨c0, c1, c2⟩ := CE.out _ hT.fr
    clear hlt
    rcases hcase with rfl | rfl | rfl | rfl | rfl | rfl | rfl | rfl | rfl | rfl | rfl | rfl | rfl | rfl
    · clear hdep hfree
      refine wpOp_step rfl rfl (fun K hK => ?_)
      simp only [Act.put, List.setIfInBounds_toArray, List.set_cons_zero, List.set_cons_succ]
      go_simp
      refine hK _ _ ⟨true, l1, l2, l3, l4, l5, l6, l7, l8, l9, l10, l11, l12, l13, _, x1, x2, x3, x4, x5, x6, x7, x8, x9, x10, x11, x12, rfl, ?_, ⟨hT.fr, fun _ => rfl, hT.a1, hT.a2, hT.a3, hT.a4, hT.a5, hT.a6, hT.a7, hT.a8, hT.a9, hT.a10, hT.a11, hT.a12, hT.o13, hT.o8⟩⟩
      simp only [Act.put, List.setIfInBounds_toArray, List.set_cons_zero, List.set_cons_succ]
    · clear hfree
      have g0 : l0 = true := hdep _ rfl ⟨0, .data⟩ (by simp) rfl
      obtain rfl := hT.a0 g0
      clear hdep
      refine wpOp_step rfl rfl (fun K hK => ?_)
      simp only [Act.put, List.setIfInBounds_toArray, List.set_cons_zero, List.set_cons_succ]
      go_simp
      refine hK _ _ ⟨l0, true, l2, l3, l4, l5, l6, l7, l8, l9, l10, l11, l12, l13, _, _, x2, x3, x4, x5, x6, x7, x8, x9, x10, x11, x12, rfl, ?_, ⟨hT.fr, hT.a0, fun _ => rfl, hT.a2, hT.a3, hT.a4, hT.a5, hT.a6, hT.a7, hT.a8, hT.a9, hT.a10, hT.a11, hT.a12, hT.o13, hT.o8⟩⟩
      simp only [Act.put, List.setIfInBounds_toArray, List.set_cons_zero, List.set_cons_succ]
    · clear hdep hfree
      have hA := hT.keep ((Fr.refl w6).alloc (.cells #[] 2))
      refine wpOp_step rfl rfl (fun K hK => ?_)
      simp only [Act.put, List.setIfInBounds_toArray, List.set_cons_zero, List.set_cons_succ]
      go_simp
      refine hK _ _ ⟨l0, l1, true, l3, l4, l5, l6, l7, l8, l9, l10, l11, l12, l13, x0, x1, (.slice (some ⟨w6.heap.size, 0, none⟩) 0 0), x3, x4, x5, x6, x7, x8, x9, x10, x11, x12, rfl, ?_, ⟨hA.fr, hA.a0, hA.a1, fun _ => ⟨_, rfl⟩, hA.a3, hA.a4, hA.a5, hA.a6, hA.a7, hA.a8, hA.a9, hA.a10, hA.a11, hA.a12, hA.o13, hA.o8⟩⟩
      simp only [Act.put, List.setIfInBounds_toArray, List.set_cons_zero, List.set_cons_succ]
    · clear hdep hfree
      refine wpOp_step rfl rfl (fun K hK => ?_)
      simp only [Act.put, List.setIfInBounds_toArray, List.set_cons_zero, List.set_cons_succ]
      go_simp
      refine hK _ _ ⟨l0, l1, l2, true, l4, l5, l6, l7, l8, l9, l10, l11, l12, l13, x0, x1, x2, _, x4, x5, x6, x7, x8, x9, x10, x11, x12, rfl, ?_, ⟨hT.fr, hT.a0, hT.a1, hT.a2, fun _ => rfl, hT.a4, hT.a5, hT.a6, hT.a7, hT.a8, hT.a9, hT.a10, hT.a11, hT.a12, hT.o13, hT.o8⟩⟩
      simp only [Act.put, List.setIfInBounds_toArray, List.set_cons_zero, List.set_cons_succ]
    · clear hfree
      have g3 : l3 = true := hdep _ rfl ⟨3, .data⟩ (by simp) rfl
      obtain rfl := hT.a3 g3
      clear hdep
      refine wpOp_step rfl rfl (fun K hK => ?_)
      simp only [Act.put, List.setIfInBounds_toArray, List.set_cons_zero, List.set_cons_succ]
      go_simp
      refine hK _ _ ⟨l0, l1, l2, l3, true, l5, l6, l7, l8, l9, l10, l11, l12, l13, x0, x1, x2, _, _, x5, x6, x7, x8, x9, x10, x11, x12, rfl, ?_, ⟨hT.fr, hT.a0, hT.a1, hT.a2, hT.a3, fun _ => rfl, hT.a5, hT.a6, hT.a7, hT.a8, hT.a9, hT.a10, hT.a11, hT.a12, hT.o13, hT.o8⟩⟩
      simp only [Act.put, List.setIfInBounds_toArray, List.set_cons_zero, List.set_cons_succ]
    · clear hfree
      have g2 : l2 = true := hdep _ rfl ⟨2, .data⟩ (by simp) rfl
      have g4 : l4 = true := hdep _ rfl ⟨4, .data⟩ (by simp) rfl
      obtain ⟨a9, rfl⟩ := hT.a2 g2
      obtain rfl := hT.a4 g4
      clear hdep
      refine wpOp_step rfl rfl (fun K hK => ?_)
      simp only [Act.put, List.setIfInBounds_toArray, List.set_cons_zero, List.set_cons_succ]
      simp only [List.getElem_toArray, List.getElem_cons_succ, List.getElem_cons_zero]
      refine wp_append0 _ _ _ _ rfl w5.heap.size 2 i0 _ 8 Tryd.underlying22 hi hz0 hz1 hz2 rfl a9 rfl hT.fr.size _ _ _ rfl (HS1.out _ hT.fr) (by unfold maxLen; omega) (by omega) ?_
      intro v' w7 hr' hf7
      have hA := hT.keep hf7
      refine hK _ _ ⟨l0, l1, l2, l3, l4, true, l6, l7, l8, l9, l10, l11, l12, l13, x0, x1, _, x3, _, _, x6, x7, x8, x9, x10, x11, x12, rfl, ?_, ⟨hA.fr, hA.a0, hA.a1, hA.a2, hA.a3, hA.a4, fun _ _ => hr', hA.a6, hA.a7, hA.a8, hA.a9, hA.a10, hA.a11, hA.a12, hA.o13, hA.o8⟩⟩
      simp only [Act.put, List.setIfInBounds_toArray, List.set_cons_zero, List.set_cons_succ]
    · clear hdep hfree
      refine wpOp_step rfl rfl (fun K hK => ?_)
      simp only [Act.put, List.setIfInBounds_toArray, List.set_cons_zero, List.set_cons_succ]
      go_simp
      refine hK _ _ ⟨l0, l1, l2, l3, l4, l5, true, l7, l8, l9, l10, l11, l12, l13, x0, x1, x2, x3, x4, x5, _, x7, x8, x9, x10, x11, x12, rfl, ?_, ⟨hT.fr, hT.a0, hT.a1, hT.a2, hT.a3, hT.a4, hT.a5, fun _ => rfl, hT.a7, hT.a8, hT.a9, hT.a10, hT.a11, hT.a12, hT.o13, hT.o8⟩⟩
      simp only [Act.put, List.setIfInBounds_toArray, List.set_cons_zero, List.set_cons_succ]
    · clear hfree
      have g6 : l6 = true := hdep _ rfl ⟨6, .data⟩ (by simp) rfl
      obtain rfl := hT.a6 g6
      clear hdep
      have hA := hT.keep ((Fr.refl w6).alloc (.cells #[.int .i64 n] 2))
      refine wpOp_step rfl rfl (fun K hK => ?_)
      simp only [Act.put, List.setIfInBounds_toArray, List.set_cons_zero, List.set_cons_succ]
      go_simp
      refine hK _ _ ⟨l0, l1, l2, l3, l4, l5, l6, true, l8, l9, l10, l11, l12, l13, x0, x1, x2, x3, x4, x5, _, _, x8, x9, x10, x11, x12, rfl, ?_, ⟨hA.fr, hA.a0, hA.a1, hA.a2, hA.a3, hA.a4, hA.a5, hA.a6, fun _ _ => ⟨_, rfl, Go.heap_alloc_new _ _⟩, hA.a8, hA.a9, hA.a10, hA.a11, hA.a12, hA.o13, hA.o8⟩⟩
      simp only [Act.put, List.setIfInBounds_toArray, List.set_cons_zero, List.set_cons_succ]
    · have g8 : l8 = false := hfree
      have g5 : l5 = true := hdep _ rfl ⟨5, .data⟩ (by simp) rfl
      have g7 : l7 = true := hdep _ rfl ⟨7, .data⟩ (by simp) rfl
      subst g8
      have hr5 := hT.a5 g5 rfl
      obtain ⟨g9, rfl, hg9⟩ := hT.a7 g7 rfl
      clear hdep hfree
      refine wpOp_step rfl rfl (fun K hK => ?_)
      simp only [Act.put, List.setIfInBounds_toArray, List.set_cons_zero, List.set_cons_succ]
      simp only [List.getElem_toArray, List.getElem_cons_succ, List.getElem_cons_zero]
      refine wp_append_rt _ _ _ _ rfl w5.heap.size 2 i0 _ 8 Tryd.underlying22 hi hz0 hz1 hz2 rfl _ _ rfl hr5 hT.fr.size _ 1 [.int .i64 n] rfl (Src.ofSlice w6 Tryd.underlying22 ⟨g9, 0, none⟩ 1 1 [.int .i64 n] rfl (fun j u hu => by
        rw [Go.WideShapes.add_plain, cell_of_row w6 g9 _ _ _ (0, 0) hg9]
        simpa using hu) (by intro u hu; simp at hu; subst hu; rfl)) (by simp only [List.length_map]; unfold maxLen; omega) (by simp only [List.length_map]; omega) ?_
      intro v' w7 hr' hf7
      have hr'' : Rs w5.heap.size w7 2 v' ((c.nums ++ [n]).map numV) := by
        have e9 : (c.nums ++ [n]).map numV = c.nums.map numV ++ [.int .i64 n] := by simp [numV]
        rw [e9]; exact hr'
      refine hK _ _ ⟨l0, l1, l2, l3, l4, l5, l6, l7, true, l9, l10, l11, l12, l13, x0, x1, x2, x3, x4, x5, x6, _, _, x9, x10, x11, x12, rfl, ?_, hT.app hr'' hf7⟩
      simp only [Act.put, List.setIfInBounds_toArray, List.set_cons_zero, List.set_cons_succ]
    · clear hdep hfree
      refine wpOp_step rfl rfl (fun K hK => ?_)
      simp only [Act.put, List.setIfInBounds_toArray, List.set_cons_zero, List.set_cons_succ]
      go_simp
      refine hK _ _ ⟨l0, l1, l2, l3, l4, l5, l6, l7, l8, true, l10, l11, l12, l13, x0, x1, x2, x3, x4, x5, x6, x7, x8, _, x10, x11, x12, rfl, ?_, ⟨hT.fr, hT.a0, hT.a1, hT.a2, hT.a3, hT.a4, hT.a5, hT.a6, hT.a7, hT.a8, fun _ => rfl, hT.a10, hT.a11, hT.a12, hT.o13, hT.o8⟩⟩
      simp only [Act.put, List.setIfInBounds_toArray, List.set_cons_zero, List.set_cons_succ]
    · clear hfree
      have g9 : l9 = true := hdep _ rfl ⟨9, .data⟩ (by simp) rfl
      obtain rfl := hT.a9 g9
      clear hdep
      refine wpOp_step rfl rfl (fun K hK => ?_)
      simp only [Act.put, List.setIfInBounds_toArray, List.set_cons_zero, List.set_cons_succ]
      go_simp
      refine hK _ _ ⟨l0, l1, l2, l3, l4, l5, l6, l7, l8, l9, true, l11, l12, l13, x0, x1, x2, x3, x4, x5, x6, x7, x8, _, _, x11, x12, rfl, ?_, ⟨hT.fr, hT.a0, hT.a1, hT.a2, hT.a3, hT.a4, hT.a5, hT.a6, hT.a7, hT.a8, hT.a9, fun _ => rfl, hT.a11, hT.a12, hT.o13, hT.o8⟩⟩
      simp only [Act.put, List.setIfInBounds_toArray, List.set_cons_zero, List.set_cons_succ]
    · clear hfree
      have g1 : l1 = true := hdep _ rfl ⟨1, .data⟩ (by simp) rfl
      have g8 : l8 = true := hdep _ rfl ⟨8, .data⟩ (by simp) rfl
      have g10 : l10 = true := hdep _ rfl ⟨10, .data⟩ (by simp) rfl
      obtain rfl := hT.a1 g1
      obtain rfl := hT.a10 g10
      obtain ⟨q8, p8, hx8, _⟩ := (hT.a8 g8).at'
      have e9 : ((c.nums ++ [n]).map numV).length = c.nums.length + 1 := by simp
      rw [e9] at hx8
      subst hx8
      clear e9
      clear hdep
      refine wpOp_step rfl rfl (fun K hK => ?_)
      simp only [Act.put, List.setIfInBounds_toArray, List.set_cons_zero, List.set_cons_succ]
      go_simp
      refine hK _ _ ⟨l0, l1, l2, l3, l4, l5, l6, l7, l8, l9, l10, true, l12, l13, x0, _, x2, x3, x4, x5, x6, x7, _, x9, _, _, x12, rfl, ?_, ⟨hT.fr, hT.a0, hT.a1, hT.a2, hT.a3, hT.a4, hT.a5, hT.a6, hT.a7, hT.a8, hT.a9, hT.a10, fun _ => ⟨g8, rfl⟩, hT.a12, hT.o13, hT.o8⟩⟩
      simp only [Act.put, List.setIfInBounds_toArray, List.set_cons_zero, List.set_cons_succ]
    · have g12 : l12 = false := hfree
      subst g12
      clear hdep hfree
      refine wpOp_step rfl rfl (fun K hK => ?_)
      simp only [Act.put, List.setIfInBounds_toArray, List.set_cons_zero, List.set_cons_succ]
      go_simp
      refine hK _ _ ⟨l0, l1, l2, l3, l4, l5, l6, l7, l8, l9, l10, l11, true, l13, x0, x1, x2, x3, x4, x5, x6, x7, x8, x9, x10, x11, _, rfl, ?_, hT.box _ _ _⟩
      simp only [Act.put, List.setIfInBounds_toArray, List.set_cons_zero, List.set_cons_succ]
    · clear hfree
      have g11 : l11 = true := hdep _ rfl ⟨11, .data⟩ (by simp) rfl
      have g12 : l12 = true := hdep _ rfl ⟨12, .data⟩ (by simp) rfl
      obtain ⟨g8, rfl⟩ := hT.a11 g11
      subst g8 g12
      obtain ⟨q8, p8, hx8, _⟩ := (hT.a8 rfl).at'
      have e9 : ((c.nums ++ [n]).map numV).length = c.nums.length + 1 := by simp
      rw [e9] at hx8
      clear e9
      obtain ⟨g, z0, z1, z2, rfl, hB, hb, _⟩ := hT.a12 rfl
      obtain ⟨k0, k1, k2, f0, f1, f2⟩ := cbox3f hb
      have hP := hT.put rfl
      subst hx8
      clear hdep
      refine wpOp_step rfl rfl (fun K hK => ?_)
      simp only [Act.put, List.setIfInBounds_toArray, List.set_cons_zero, List.set_cons_succ]
      go_simp
      refine hK _ _ ⟨l0, l1, l2, l3, l4, l5, l6, l7, true, l9, l10, l11, true, true, x0, x1, x2, x3, x4, x5, x6, x7, _, x9, x10, _, _, rfl, ?_, hP⟩
      simp only [Act.put, List.setIfInBounds_toArray, List.set_cons_zero, List.set_cons_succ]
  case done =>
  rintro _ _ w6 ⟨l0, l1, l2, l3, l4, l5, l6, l7, l8, l9, l10, l11, l12, l13, x0, x1, x2, x3, x4, x5, x6, x7, x8, x9, x10, x11, x12, rfl, rfl, hT⟩ hr
  have hall := listed_all (by kernel_rfl) rfl hr
  have g8 : l8 = true := hall 8 (by show 8 < 14; decide)
  have g12 : l12 = true := hall 12 (by show 12 < 14; decide)
  have g13 : l13 = true := hall 13 (by show 13 < 14; decide)
  subst g8 g12 g13
  clear hall hr
  obtain ⟨bm, qm, pm, rfl, hbm, hcm, hsm⟩ := hT.ends
  have h6 := hT.fr
  clear hT HS1
  simp only [Act.put, List.setIfInBounds_toArray, List.set_cons_zero, List.set_cons_succ]
  obtain ⟨dn, hdn⟩ : ∃ dn, dn = c.nums ++ [n] := ⟨_, rfl⟩
  rw [← hdn] at hcm hsm
  have HDN := hid hdn
  clear hdn
  -- region 9 : other
  go_upto_region 9 with fail
  go_cut [11] from 68 (fun y w' => Fr No w6 w' ∧ ∃ g, y = .pointer (some ⟨g, 0, none⟩) ∧ w6.heap.size ≤ g ∧ w'.heap[g]? = some (.cells #[.int .u8 c.kind, .slice q c.nums.length cn, .string ⟨#[]⟩] 39 (0, 0)))
  case first =>
    obtain ⟨c0, c1, c2⟩ := CE.out _ h6
    go_wp2_with fail
    go_meet
    case rel => exact ⟨(Fr.refl _).alloc _, _, rfl, Nat.le_refl _, Go.heap_alloc_new _ _⟩
  obtain ⟨h67, bo, rfl, hbo, hco⟩ := hcut
  rename World => w7
  -- region 11: another text
  go_upto_if 74 with fail
  go_cut [] from 75 (fun w' => Fr No w6 w' ∧ ∃ tx : List UInt8, w'.heap[bo]? = some (.cells #[.int .u8 c.kind, .slice q c.nums.length cn, .string ⟨tx.toArray⟩] 39 (0, 0)) ∧ Hid ((if t then mayNameS tx else tx.isEmpty) = false ∧ tx.length ≤ 100))
  case first =>
    cases t
    · obtain ⟨k0, k1, k2, f0, f1, f2⟩ := cbox3f hco
      have hc9 := heap_setCell_at (i := 2) (.string ⟨#[116, 101, 120, 116]⟩) hco
      go_wp2_with fail
      go_meet
      case rel => exact ⟨h67.newOnly hbo ((Fr.refl _).set_only _ _), [116, 101, 120, 116], by simpa using hc9, hid ⟨rfl, by decide⟩⟩
    · go_wp2_with fail
      go_meet
      case rel => exact ⟨h67, [], hco, hid ⟨rfl, by decide⟩⟩
  obtain ⟨h68, tx, hco8, HTX⟩ := hcut
  rename World => w8
  replace hcm := h68.heap0 hcm
  replace hsm := hsm.fr h68
  have h8 := h6.trans h68
  clear h67 h68 h6 hco hbo
  -- region 12: neither may be
  go_upto_region 12 with fail
  go_cut [81] from 76 (fun x w' => x = .bool false ∧ Fr No w8 w')
  case first =>
    have X1 := hid (fun w' (h : Fr No w8 w') => mayCmd_any qm pm ⟨c.kind, dn, c.text⟩ w' ⟨hE.k8, hsm.fr h, by rw [HDN.out]; simp; omega, hE.tl⟩ (hct.fr (HW.trans (h8.trans h))))
    have X2 := hid (fun w' (h : Fr No w8 w') => mayCmd_any q cn ⟨c.kind, c.nums, tx⟩ w' ⟨hE.k8, hE.nums.fr (HW.trans (h8.trans h)), hE.nl, by have := HTX.out.2; show tx.length ≤ _; omega⟩ (hct.fr (HW.trans (h8.trans h))))
    rw [hml.out ⟨c.kind, dn, c.text⟩ rfl (by show l.length ≠ dn.length; rw [HDN.out, List.length_append]; have := HLL.out; simp only [List.length_cons, List.length_nil]; omega)] at X1
    rw [hmt.out ⟨c.kind, c.nums, tx⟩ rfl HTX.out.1] at X2
    have hF : Fr No w8 w8 := Fr.refl _
    obtain ⟨p0, p1, p2⟩ := cbox3 hcm
    have Q3 := hid (fun w' (h : Fr No w8 w') => cbox3 (h.heap0 hco8))
    unfold cmV strV at *
    simp only at X1 X2
    go_wp2_with (first
      | (go_at_call 19; (with_reducible refine (X1.out _ hF).mono ?_); rintro en wS ⟨rfl, hfS⟩; clear p0 p1 p2; replace hF := hF.trans hfS; obtain ⟨p0, p1, p2⟩ := Q3.out _ hF; clear hfS)
      | (go_at_call 19; (with_reducible refine (X2.out _ hF).mono ?_); rintro en wS ⟨rfl, hfS⟩; replace hF := hF.trans hfS; clear hfS))
    go_meet
    case rel => exact ⟨rfl, hF⟩
  obtain ⟨rfl, h89⟩ := hcut
  rename World => w9
  have h9 := h8.trans h89
  clear h8 h89 hcm hsm hco8 HTX HDN hbm
  by_cases hl0 : l.length = 0
  · have hd0 : ((l.length : Int) == 0) = true := by rw [hl0]; rfl
    clear hl0
    go_wp2_with fail
    go_ret
    exact ⟨rfl, HW.trans h9⟩
  have hd0 : ((l.length : Int) == 0) = false := by rw [beq_eq_false_iff_ne]; omega
  -- region 16: the place
  go_upto_region 16 with fail
  go_cut [12] from 85 (fun x w' => w' = w9 ∧ ∃ k : Nat, x = .int .i64 k ∧ k < l.length)
  case first =>
    obtain ⟨A, hA, hA2⟩ := cwrap_u64 at_
    have hL : IntKind.u64.wrap (l.length : Int) = (l.length : Int) := IntWalk.u64_in _ (by omega)
    have hR : (A : Int).tmod (l.length : Int) = ((A % l.length : Nat) : Int) := rfl
    have hlt : A % l.length < l.length := Nat.mod_lt _ (by omega)
    have hK : IntKind.i64.wrap ((A % l.length : Nat) : Int) = ((A % l.length : Nat) : Int) := IntWalk.i64_in _ (by omega)
    have hne0 : (l.length : Int) ≠ 0 := by omega
    generalize A % l.length = k at hR hlt hK
    go_wp2_with fail
    go_meet
    case rel => exact ⟨rfl, k, rfl, hlt⟩
  obtain ⟨rfl, k, rfl, hk⟩ := hcut
  rename World => w9
  clear hd0 hl0
  have hkn : k < c.nums.length := by have := HLL.out; omega
  -- region 17: the numbers anew
  go_upto_region 17 with fail
  go_cut [13] from 92 (fun x w' => Fr No w9 w' ∧ ∃ q' p', x = .slice q' c.nums.length p' ∧ Rs w9.heap.size w' 2 (.slice q' c.nums.length p') (c.nums.map numV))
  case first =>
    obtain ⟨c0, c1, c2⟩ := CE.out _ h9
    have hlt9 : w.heap.size < w9.heap.size := World.block_lt_of_cell? w9 _ c1
    have hS := Src.ofSl (P := Tryd.prog) (c := cn) Tryd.underlying22 (hE.nums.fr ((HW.trans h9).alloc (.cells #[] 2))) (num_one c.nums)
    simp only [List.length_map] at hS
    have hle : w9.heap.size ≤ (w9.alloc (.cells #[] 2)).heap.size := by simp
    go_wp2_with (at_builtin; refine wpList_append_rt rfl _ _ 22 _ rfl w9.heap.size 2 i0 (.int .i64 0) 8 Tryd.underlying22 hi hz0 hz1 hz2 rfl _ [] rfl (Rs.nil _ _ _ _) hle _ _ _ rfl hS ?c3 ?c4 ?_)
    case c3 => simp only [List.length_nil]; unfold maxLen; omega
    case c4 => simp only [List.length_nil]; omega
    intro v' wA hr' hfT
    obtain ⟨q', cp', rfl⟩ := hr'.shape
    simp only [List.length_map] at hr' ⊢
    have hFA := ((Fr.refl w9).alloc (.cells #[] 2)).newT (Nat.le_refl _) hfT
    clear hS
    go_wp2_with fail
    go_meet
    case rel => exact ⟨hFA, _, _, rfl, hr'⟩
  obtain ⟨h910, q2, p2, rfl, hr10⟩ := hcut
  rename World => w10
  obtain ⟨g, z, rfl, hg, hgc, hgf, _, hrs⟩ := hr10.set (k := k) (by simpa using hkn) (numV n)
  -- region 18: one of them is another
  go_upto_region 18 with fail
  go_cut [] from 96 (fun w' => Fr No w9 w' ∧ Rs w9.heap.size w' 2 (.slice (some ⟨g, 0, none⟩) c.nums.length p2) ((c.nums.map numV).set k (numV n)))
  case first =>
    have i1 : (k : Int) < (c.nums.length : Int) := by omega
    have i3 : (0 : Int) ≤ (k : Int) := by omega
    unfold numV at hrs
    go_wp2_with fail
    go_meet
    case rel => exact ⟨h910.newOnly hg ((Fr.refl _).set_only _ _), hrs⟩
  obtain ⟨h911, hr11⟩ := hcut
  rename World => w11
  have h11 := h9.trans h911
  have hcap := hr11.cap_le
  rw [← List.map_set] at hr11
  have hs11 := hr11.at_
  clear h910 hgc hgf hrs hr10 h911 hr11 hg
  -- region 19: the law
  obtain ⟨d, hd⟩ : ∃ d, l[k]? = some d := ⟨_, List.getElem?_eq_getElem hk⟩
  obtain ⟨b1, o1, rfl, hl1⟩ := SL k (clsV d) (by simp [hd])
  have X1 : Hid (∀ y : Aft w11, Calls Tryd.prog 19 #[.agg #[.int .u8 c.kind, .slice (some ⟨g, 0, none⟩) c.nums.length p2, .string ⟨c.text.toArray⟩]] y.val fun en w' => en = .returned (.bool (fitsS 3 d.toNat n)) ∧ Fr No y.val w') := hid (fun y => by
    have h := mayCmd_any (some ⟨g, 0, none⟩) p2 ⟨c.kind, c.nums.set k n, c.text⟩ y.val ⟨hE.k8, hs11.fr y.h, by simpa using hE.nl, hE.tl⟩ (hct.fr (HW.trans (h11.trans y.h)))
    rw [hms.out hm k d n hd] at h
    unfold cmV strV at h
    simp only [List.length_set] at h
    exact h)
  have hsT2 : SlAt w11 (some ⟨g, 0, none⟩) (((c.nums.set k n).take (c.nums.length - 1)).map numV) := fun i x hx => by
    rw [List.map_take, List.getElem?_take] at hx
    split at hx
    · exact hs11 i x hx
    · cases hx
  have X2 : Hid (∀ y : Aft w11, Calls Tryd.prog 19 #[.agg #[.int .u8 c.kind, .slice (some ⟨g, 0, none⟩) (c.nums.length - 1) p2, .string ⟨c.text.toArray⟩]] y.val fun en w' => en = .returned (.bool false) ∧ Fr No y.val w') := hid (fun y => by
    have hlt : ((c.nums.set k n).take (c.nums.length - 1)).length = c.nums.length - 1 := by simp
    have h := mayCmd_any (some ⟨g, 0, none⟩) p2 ⟨c.kind, (c.nums.set k n).take (c.nums.length - 1), c.text⟩ y.val ⟨hE.k8, hsT2.fr y.h, by show ((c.nums.set k n).take (c.nums.length - 1)).length ≤ _; rw [hlt]; omega, hE.tl⟩ (hct.fr (HW.trans (h11.trans y.h)))
    rw [hml.out ⟨c.kind, (c.nums.set k n).take (c.nums.length - 1), c.text⟩ rfl (by show l.length ≠ ((c.nums.set k n).take (c.nums.length - 1)).length; rw [hlt]; have := HLL.out; omega)] at h
    unfold cmV strV at h
    simp only [hlt] at h
    exact h)
  have X3 : Hid (∀ y : Aft w11, Calls Tryd.prog 17 #[.int .u8 3, .int .u8 d.toNat, .int .i64 n] y.val fun en w' => en = .returned (.bool (fitsS 3 d.toNat n)) ∧ Fr No y.val w') := hid (fun y =>
    (fits_any 3 d.toNat n y.val).mono fun _ _ ⟨h1, h2⟩ => ⟨h1, by subst h2; exact Fr.refl _⟩)
  generalize fitsS 3 d.toNat n = R at X1 X3
  have bR : (R == R) = true := by cases R <;> rfl
  have hw1 : IntKind.i64.wrap ((c.nums.length : Int) - 1) = (c.nums.length : Int) - 1 := IntWalk.i64_in _ (by omega)
  have hp0 : (0 : Int) ≤ (c.nums.length : Int) - 1 := by omega
  have hp1 : (c.nums.length : Int) - 1 ≤ (p2 : Int) := by omega
  have hp2 : ((c.nums.length : Int) - 1).toNat = c.nums.length - 1 := by omega
  have i1 : (k : Int) < (l.length : Int) := by omega
  have i3 : (0 : Int) ≤ (k : Int) := by omega
  unfold clsV at hl1
  have c0 := fun (y : Aft w11) => (CE.out _ (h11.trans y.h)).1
  have c2 := fun (y : Aft w11) => (CE.out _ (h11.trans y.h)).2.2
  have n0 := fun (y : Aft w11) => (h11.trans y.h).cell0 hl1
  have HE := hid (HW.trans h11)
  clear hl1 SL hd hm hml hmt hms CE MC AW hs11 hsT2 hE hkt hct HW h11 h9 hi hz0 hz1 hz2 hcap hkn HLL HFIT HTF HMN
  go_upto_region 19 with fail
  refine wp_region_aft (by kernel_rfl) (by kernel_rfl) ?_
  repeat (go_big_quiet_step (first | (go_at_call 19; with_reducible exact calls_aft (X1.out _)) | (go_at_call 19; with_reducible exact calls_aft (X2.out _)) | (go_at_call 17; with_reducible exact calls_aft (X3.out _))))
  refine wpQuiet_nil ?_
  rintro _ ⟨⟨w12, hf12⟩, rfl⟩
  clear c0 c2 n0
  go_wp2_with fail
  go_ret
  exact ⟨by first | rfl | simp, HE.out.trans hf12⟩
end Go.Proofs.YtbihbkjdngjgkaaDoor
