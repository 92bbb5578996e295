/-
  WireReads: the walk.
-/
import Derived.Test.YtcggakegbdpdfaaAsked
import Derived.Test.YtcggakegbdpdfaaOne
namespace Go.Proofs.Ytcggakegbdpdfaa
open Go.RowKit

structure ReadsRel (w : World) (b D : Nat) (s : List UInt8) (r : Rd) (wr : World) : Prop where
  rd : RdIs wr b r
  dd : DRd wr D r
  es : r.s = s
  fr : Fr No w wr
  lb : w.heap.size ≤ b
  lD : w.heap.size ≤ D
  ne : b ≠ D

theorem itG_s (x : It) (r : Rd) (hat : r.at_ ≤ r.s.length) : (itG x r).2.s = r.s := by
  by_cases he : r.e = 0
  · rcases itG_good x r he hat with h | ⟨n, t, r', h, hm⟩
    · exact h.2.1
    · rw [h]; exact hm.1
  · rw [itG_bad x r he]

set_option maxHeartbeats 2000000 in
set_option maxRecDepth 100000 in
theorem wireReads_any (s : List UInt8) (p : Option Addr) (l : List It) (cap : Nat) (w : World) (hs : s.length ≤ 9223372036854775807) (hl : l.length ≤ 9223372036854775807) (h : ItsAt w p l) :
    Calls Try.prog 6 #[strV s, .slice p l.length cap] w fun e w' => e = .returned (.bool true) ∧ Fr No w w' := by
  have K := hid (fun w1 => works_any w1)
  have HV := hid (heavy_any s p l cap w hs hl h)
  have HR0 := hid (fun w1 => new_any s w1 hs)
  have HI := hid h
  have HL := hid hl
  have HS := hid hs
  unfold strV at HV HR0 ⊢
  clear h hl hs
  go_enter Try.func6, Try.ntmps6
  go_wp2_with (first
    | (go_at_call 9; refine (K.out _).mono ?_; rintro e1 w1 ⟨rfl, hf1⟩)
    | (go_at_call 12; refine (HV.out).mono ?_; rintro e2 w2 ⟨⟨hv, rfl, htot⟩, rfl⟩; cases hv)
    | (go_at_call 18; refine (HR0.out _).mono ?_; rintro e3 w3 ⟨b, rfl, hb, hlt, hf3⟩))
  rotate_left 1
  · go_ret
    exact ⟨rfl, hf1⟩
  have ht : totL s l < 20000 := htot trivial
  have hsm : s.length ≤ 20000 := by unfold totL at ht; omega
  have HSM := hid hsm
  clear htot ht
  have HO : ReadsRel w b w3.heap.size s ⟨s, 0, 0, 0⟩ (w3.alloc (.cells #[.string ⟨s.toArray⟩, .int .i64 0, .int .i64 0, .int .i64 0] 49)) := by
    have hb3 : b < w3.heap.size := RdAt.lt hb
    exact ⟨RdIs.fr (X := No) hb ((Fr.refl w3).alloc _) id, ⟨Go.heap_alloc_new _ _, Nat.zero_le _, by show s.length ≤ _; omega⟩, rfl, hf3.alloc _, hlt, hf3.size, by omega⟩
  clear hb hlt hsm
  generalize w3.heap.size = D at HO ⊢
  go_loopw [7] (fun c wr => ∃ (i : Nat) (r : Rd), i ≤ l.length ∧ c = .int .i64 i ∧ ReadsRel w b D s r wr) (fun c _ => l.length - (intOf c).toNat)
  case atStart => exact ⟨0, _, Nat.zero_le _, rfl, HO⟩
  case round =>
    clear HO
    obtain ⟨i, r, hi', rfl, g1, g2, rfl, g4, g5, g6, g7⟩ := hrel
    by_cases hlt : i < l.length
    · have hd : decide ((i : Int) < (l.length : Int)) = true := by simp; omega
      obtain ⟨x, hx⟩ : ∃ x, l[i]? = some x := ⟨_, List.getElem?_eq_getElem hlt⟩
      have hok := HI.out.ok x (List.mem_of_getElem? hx)
      obtain ⟨bb, q, rfl, k0, k1, k2, k3⟩ := HI.out.at_ i x hx
      have GX := hid (get_any b r x _ hok g1)
      have AX := hid (fun w1 (h : DRd w1 D r) => asked_any D r x w1 hok h (by have := HSM.out; omega))
      have hss := itG_s x r g1.2.1
      generalize itG x r = gg at GX AX hss
      obtain ⟨⟨n, t⟩, ⟨s', a', e', to'⟩⟩ := gg
      obtain ⟨s0, a0, e0, to0⟩ := r
      simp only at hss GX AX HSM HS HV HR0 ⊢
      subst hss
      unfold itV strV at GX AX
      unfold strV at k2
      have c0 := g4.cell0 k0
      have c1 := g4.cell0 k1
      have c2 := g4.cell0 k2
      have c3 := g4.cell0 k3
      replace k0 := hid k0
      replace k1 := hid k1
      replace k2 := hid k2
      replace k3 := hid k3
      clear HV HR0
      go_upto_region 10 with (first
        | (go_at_call 21; refine GX.out.mono ?_; rintro e7 w7 ⟨rfl, hr7, hf7⟩
           have F7 := g4.newOnly g5 hf7
           have hd7 : DRd w7 D ⟨s', a0, e0, to0⟩ := g2.fr hf7 (fun e => g7 (show D = b from e).symm)
           have d0 := F7.cell0 k0.out
           have d1 := F7.cell0 k1.out
           have d2 := F7.cell0 k2.out
           have d3 := F7.cell0 k3.out)
        | (go_at_call 23; refine (AX.out _ hd7).mono ?_; rintro e8 w8 ⟨rfl, hd8, hf8⟩
           have F8 := F7.newOnly g6 hf8
           have hr8 : RdIs w8 b ⟨s', a', e', to'⟩ := hr7.fr hf8 (fun e => g7 (show b = D from e)))
        | (go_at_call 19; refine (err_any b _ _ _ _ _ hr8).mono ?_; rintro e9 w9 ⟨rfl, hf9⟩))
      have F9 := F8.trans hf9
      have hr9 : RdIs w9 b ⟨s', a', e', to'⟩ := hr8.fr hf9 id
      have hd9 : DRd w9 D ⟨s', a', e', to'⟩ := hd8.fr hf9 id
      obtain ⟨j0, j1, j2, j3, _⟩ := four_cells hd9.1
      simp only at j1 j2 j3
      have m1 := fun (y : Aft w9) => y.h.cell0 j1
      have m2 := fun (y : Aft w9) => y.h.cell0 j2
      have m3 := fun (y : Aft w9) => y.h.cell0 j3
      have hat : a' ≤ s'.length := hr9.2.1
      have hsl : s'.length ≤ 20000 := HSM.out
      have X1 : Hid (∀ y : Aft w9, Calls Try.prog 20 #[.pointer (some ⟨b, 0, none⟩)] y.val fun e w' => e = .returned (.int .i64 a') ∧ Fr No y.val w') := hid (fun y => at_any b _ _ _ _ y.val (hr9.fr y.h id))
      have X2 : Hid (∀ y : Aft w9, Calls Try.prog 22 #[.pointer (some ⟨b, 0, none⟩)] y.val fun e w' => e = .returned (.int .i64 ((s'.length : Int) - (a' : Int))) ∧ Fr No y.val w') := hid (fun y => by
        have h2 := left_any b _ _ _ _ y.val (hr9.fr y.h id)
        rwa [show (((s'.length - a' : Nat)) : Int) = (s'.length : Int) - (a' : Int) from by omega] at h2)
      have X3 : Hid (∀ y : Aft w9, Calls Try.prog 24 #[.pointer (some ⟨b, 0, none⟩)] y.val fun e w' => e = .returned (.int .i64 (endE s'.length a' e')) ∧ Fr No y.val w') := hid (fun y => end_any b _ _ _ _ y.val (hr9.fr y.h id))
      have X4 : Hid (∀ y : Aft w9, Calls Try.prog 25 #[.pointer (some ⟨D, 0, none⟩)] y.val fun e w' => e = .returned (.int .i64 (endE s'.length a' e')) ∧ Fr No y.val w') := hid (fun y => dEnd D _ y.val (hd9.fr y.h id))
      generalize endE s'.length a' e' = ee at X3 X4
      clear c0 c1 c2 c3 d0 d1 d2 d3 j0 j1 j2 j3 g1 g2 hr7 hd7 hf7 hf8 hf9 hr8 hd8 GX AX
      refine wp_region_aft (by kernel_rfl) (by kernel_rfl) ?_
      repeat (go_big_quiet_step (first | (go_at_call 20; exact calls_aft (X1.out _)) | (go_at_call 22; exact calls_aft (X2.out _)) | (go_at_call 24; exact calls_aft (X3.out _)) | (go_at_call 25; exact calls_aft (X4.out _))))
      refine wpQuiet_nil ?_
      rintro _ ⟨⟨w10, hf10⟩, rfl⟩
      try simp only
      clear m1 m2 m3
      go_wp2_with fail
      go_roundw
      case rel => exact ⟨i + 1, _, by omega, congrArg (Value.int .i64) (IntWalk.wrap64_in _ (by have := HL.out; omega)), ⟨hr9.fr hf10 id, hd9.fr hf10 id, rfl, F9.trans hf10, g5, g6, g7⟩⟩
      case measure =>
        have := HL.out
        rw [IntWalk.wrap64_in _ (by omega)]
        simp [intOf]; omega
    · have hd : decide ((i : Int) < (l.length : Int)) = false := by simp; omega
      go_wp2_with (first
        | (go_at_call 9; refine (K.out _).mono ?_; rintro e1 w6 ⟨rfl, hf6⟩))
      go_ret
      exact ⟨rfl, g4.trans hf6⟩
end Go.Proofs.Ytcggakegbdpdfaa
