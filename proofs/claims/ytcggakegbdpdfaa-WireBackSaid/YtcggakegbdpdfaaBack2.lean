/-
  WireBack: the walk.
-/
import Derived.Test.YtcggakegbdpdfaaBack
namespace Go.Proofs.Ytcggakegbdpdfaa
open Go.RowKit

theorem fitsI_ok (x : It) (h : x.Ok) : (fitsI x).Ok := by
  obtain ⟨h0, h1, h2, h3, h4⟩ := h
  unfold fitsI
  refine ⟨h0, h1, h2, ?_, ?_⟩ <;> (show _ ≤ _; simp only; split <;> omega)
theorem fitsV (x : It) (w : World) (hx : x.Ok) : Calls Try.prog 26 #[itV x] w fun e w' => e = .returned (itV (fitsI x)) ∧ Fr No w w' := fits_any x w hx
theorem drop_cat (l : List It) (i : Nat) (x : It) (h : l[i]? = some x) : ∃ q, (catB l l.length).drop (catB l i).length = itB x ++ q := by
  obtain ⟨q, hq⟩ := catB_split l i x h
  exact ⟨q, by rw [hq, List.drop_left]⟩

theorem cut_mod (cut : Int) (n : Nat) (hn : n ≤ 20000) : ∃ k : Nat, k ≤ n ∧ wrap64 ((IntKind.u64.wrap cut).tmod (IntKind.u64.wrap (wrap64 ((n : Int) + 1)))) = (k : Int) ∧ ¬ IntKind.u64.wrap (wrap64 ((n : Int) + 1)) = 0 := by
  have e1 : wrap64 ((n : Int) + 1) = (n : Int) + 1 := IntWalk.wrap64_in _ (by omega)
  have e2 : IntKind.u64.wrap ((n : Int) + 1) = (n : Int) + 1 := IntWalk.u64_in _ (by omega)
  rw [e1, e2]
  have h0 : 0 ≤ IntKind.u64.wrap cut := by simp only [IntKind.wrap, IntKind.signed, IntKind.bits]; simp; omega
  obtain ⟨c, hc⟩ := Int.eq_ofNat_of_zero_le h0
  rw [hc, Int.tmod_eq_emod_of_nonneg (by omega)]
  have hm : c % (n + 1) < n + 1 := Nat.mod_lt c (Nat.succ_pos n)
  have e3 : (c : Int) % ((n : Int) + 1) = ((c % (n + 1) : Nat) : Int) := by push_cast; rfl
  refine ⟨c % (n + 1), by omega, ?_, by omega⟩
  rw [e3]
  exact IntWalk.wrap64_in _ (by omega)
theorem cut_bytes (l : List UInt8) (n : Nat) : ((⟨l.toArray⟩ : ByteArray).extract 0 n) = ⟨(l.take n).toArray⟩ := by
  simp only [ByteArray.extract_mk]; simp
theorem take_drop_cat (l : List It) (i k : Nat) (q : List UInt8) (x : It) (h : (catB l l.length).drop (catB l i).length = itB x ++ q) :
    ((catB l l.length).take k).drop (catB l i).length = (itB x ++ q).take (k - (catB l i).length) := by
  rw [List.drop_take, h]

set_option maxHeartbeats 2000000 in
set_option maxRecDepth 100000 in
theorem wireBack_any (p : Option Addr) (l : List It) (cap : Nat) (cut : Int) (w : World) (hl : l.length ≤ 9223372036854775807) (h : ItsAt w p l) :
    Calls Try.prog 7 #[.slice p l.length cap, .int .i64 cut] w fun e w' => e = .returned (.bool true) ∧ Fr No w w' := by
  have K := hid (fun w1 => works_any w1)
  have HV := hid (fun w1 (h1 : ItsAt w1 p l) => heavy_any [] p l cap w1 (by simp) hl h1)
  have HI := hid h
  have HL := hid hl
  unfold strV at HV
  obtain ⟨i0, hi, hz0, hz1, hz2⟩ := info_parts infoInt
  clear h hl
  go_enter Try.func7, Try.ntmps7
  go_wp2_with (first
    | (go_at_call 9; refine (K.out _).mono ?_; rintro e1 w1 ⟨rfl, hf1⟩)
    | (go_at_call 12; refine (HV.out _ (HI.out.fr hf1)).mono ?_; rintro e2 w2 ⟨⟨hv, rfl, htot⟩, rfl⟩; cases hv))
  rotate_left 1
  · go_ret
    exact ⟨rfl, by (first | exact (hf1'.trans hf1) | (rename_i a b; exact b.trans hf1))⟩
  have ht : totL [] l < 20000 := htot trivial
  have HT := hid ht
  clear htot ht
  have HB0 : BackRel w1 w1.heap.size l 0 (.slice none 0 0) (w1.alloc (.cells #[.slice none 0 0] 32)) :=
    ⟨none, by rw [catB_zero]; exact wr_new w1, Own.nil _ _ _, (Fr.refl w1).alloc _, Nat.le_refl _, fun _ hg => (by cases hg), fun _ hg => (by cases hg)⟩
  generalize hBdef : w1.heap.size = B at HB0 ⊢
  go_loopw [6, 7] (fun ve c wr => ∃ i : Nat, i ≤ l.length ∧ c = .int .i64 i ∧ BackRel w1 B l i ve wr) (fun _ c _ => l.length - (intOf c).toNat)
  case atStart => exact ⟨0, Nat.zero_le _, rfl, by first | exact HB0 | (subst hBdef; exact HB0)⟩
  case round =>
    obtain ⟨i, hi', rfl, o, h1, h2, h3, h4, h5, h6⟩ := hrel
    by_cases hlt : i < l.length
    · have hd : decide ((i : Int) < (l.length : Int)) = true := by simp; omega
      obtain ⟨x, hx⟩ : ∃ x, l[i]? = some x := ⟨_, List.getElem?_eq_getElem hlt⟩
      have hok := HI.out.ok x (List.mem_of_getElem? hx)
      obtain ⟨b, q, rfl, c0, c1, c2, c3⟩ := ((HI.out.fr hf1).fr h3).at_ i x hx
      unfold strV at c2
      have P := hid (put_any B o x (catB l i) _ hok h1 (by have := HT.out; have := catB_le l i; have := mem_le l x (List.mem_of_getElem? hx); omega))
      unfold itV strV at P
      go_wp2_with (first
        | (go_at_call 13; refine P.out.mono ?_; rintro e2 w2 ⟨rfl, hq⟩
           obtain ⟨o', ha, hf2, hno⟩ := id hq
           have hown2 : Own w2 3 1 _ i (endsV l i) := h2.fr hf2 (fun k hk hx => by
             rcases hx with hx | hx
             · exact (h6 k hk).2.1 hx
             · exact (h6 k hk).2.2 hx))
        | (go_at_call 15; refine (len_any B o' _ w2 ha).mono ?_; rintro e3 w3 ⟨rfl, rfl⟩)
        | (at_builtin; refine wpList_append_fr _ rfl _ _ 52 rfl 3 i0 (.int .i64 0) 1 8 Try.underlying52 hi hz0 hz1 hz2 rfl (by decide) _ _ _ rfl (World.ownsRow.alloc hown2 _) ⟨w2.heap.size, 0, none⟩ _ _ _ rfl rfl (cells_new _ _ _) ?c2x0 ?c3x0 ?c4x0 ?_))
      case c2x0 => intro u hu; simp at hu; rcases hu with rfl; rfl
      case c3x0 => unfold maxLen; have := HL.out; omega
      case c4x0 => have := HT.out; have := len_le l; omega
      intro v4 w4 ho hf hm
      have e : ((catB l i).length : Int) + ((itB x).length : Int) = ((catB l (i + 1)).length : Int) := by rw [catB_succ l i x hx]; simp
      rw [e] at ho hf
      have HBB := hid (back_step hx h1 h2 h3 h4 h5 h6 hq ho hf hm)
      obtain ⟨a4, k4, rfl⟩ := Own.shape ho
      clear ho hf hm hq hown2 h1 h2 h3 h4 h5 h6 c0 c1 c2 c3 P ha hf2 hno e HB0
      go_wp2_with fail
      go_roundw
      case rel => exact ⟨i + 1, by omega, congrArg (Value.int .i64) (IntWalk.wrap64_in _ (by have := HL.out; omega)), HBB.out⟩
      case measure =>
        have := HL.out
        rw [IntWalk.wrap64_in _ (by omega)]
        simp [intOf]; omega
    · have hd : decide ((i : Int) < (l.length : Int)) = false := by simp; omega
      have hil : i = l.length := by omega
      subst hil
      obtain ⟨ae, ce, rfl⟩ := Own.shape h2
      have HW := hid h1
      have HE := hid h2
      clear h1 h2 HB0
      go_wp2_with (first
        | (go_at_call 17; refine (bytes_any B o _ wr HW.out).mono ?_; rintro e5 w5 ⟨rfl, rfl⟩))
      have HR0 : Hid (∀ w1, Calls Try.prog 18 #[strV (catB l l.length)] w1 fun e w' => ∃ b, e = .returned (.pointer (some ⟨b, 0, none⟩)) ∧ RdAt w' b (catB l l.length) 0 0 0 ∧ w1.heap.size ≤ b ∧ Fr No w1 w') :=
        hid (fun w1 => new_any _ w1 (by have := HT.out; have := catB_le l l.length; omega))
      unfold strV at HR0 ⊢
      have HALL : Hid ((catB l l.length).length ≤ 20000) := hid (by have := HT.out; have := catB_le l l.length; omega)
      have FW := hid (hf1.trans h3)
      clear h3 h4 h5 h6 hBdef hlt hi'
      go_wp2_with (first
        | (go_at_call 18; refine (HR0.out wr).mono ?_; rintro e6 w6 ⟨b1, rfl, hb1, hlt1, hf6⟩))
      go_loopw [10] (fun c wq => ∃ i : Nat, i ≤ l.length ∧ c = .int .i64 i ∧ RdIs wq b1 ⟨catB l l.length, (catB l i).length, 0, 0⟩ ∧ Fr No wr wq) (fun c _ => l.length - (intOf c).toNat)
      case atStart => exact ⟨0, Nat.zero_le _, rfl, by rw [catB_zero]; exact hb1, hf6⟩
      case round =>
        obtain ⟨i, hi', rfl, hr, hfq⟩ := hrel
        by_cases hlt : i < l.length
        · have hd : decide ((i : Int) < (l.length : Int)) = true := by simp; omega
          obtain ⟨x, hx⟩ : ∃ x, l[i]? = some x := ⟨_, List.getElem?_eq_getElem hlt⟩
          have hok := HI.out.ok x (List.mem_of_getElem? hx)
          obtain ⟨q, hq⟩ := drop_cat l i x hx
          obtain ⟨m, t, hG, hP, hm⟩ := itG_at x ⟨catB l l.length, (catB l i).length, 0, 0⟩ q hok rfl hq
          have FX := hid (fun w1 => fitsV x w1 hok)
          have GX := hid (fun w1 (h : RdIs w1 b1 ⟨catB l l.length, (catB l i).length, 0, 0⟩) => get_any b1 _ (fitsI x) w1 (fitsI_ok x hok) h)
          rw [hG] at GX
          have IX := hid (fun w1 => is_yes x m t w1 hok hP)
          generalize itV (fitsI x) = Y at FX GX
          have e1 : (catB l i).length + (itB x).length = (catB l (i + 1)).length := by rw [catB_succ l i x hx]; simp
          simp only at GX
          rw [e1] at GX
          obtain ⟨ge, ve, rfl, hge, hve, hce⟩ := Own.cell HE.out i hlt
          rw [endsV_get l _ i hlt] at hve
          obtain rfl := Option.some.inj hve
          obtain ⟨b, o2, rfl, k0, k1, k2, k3⟩ := (HI.out.fr FW.out).at_ i x hx
          unfold itV strV at FX IX
          unfold strV at k2 GX
          have c0 := hfq.cell0 k0
          have c1 := hfq.cell0 k1
          have c2 := hfq.cell0 k2
          have c3 := hfq.cell0 k3
          replace k0 := hid k0
          replace k1 := hid k1
          replace k2 := hid k2
          replace k3 := hid k3
          replace hce := hid hce
          have HD := hid (And.intro hq (And.intro hG (And.intro hP hm)))
          clear hq hG hP hm e1 hve
          go_wp2_with (first
            | (go_at_call 26; refine (FX.out _).mono ?_; rintro e7 w7 ⟨rfl, hf7⟩; have hr7 := hr.fr hf7 id)
            | (go_at_call 21; refine (GX.out _ hr7).mono ?_; rintro e8 w8 ⟨rfl, hr8, hf8⟩))
          have F8 := (hfq.trans hf7).newOnly hlt1 hf8
          have d0 := fun (y : Aft w8) => y.h.cell0 (F8.cell0 k0.out)
          have d1 := fun (y : Aft w8) => y.h.cell0 (F8.cell0 k1.out)
          have d2 := fun (y : Aft w8) => y.h.cell0 (F8.cell0 k2.out)
          have d3 := fun (y : Aft w8) => y.h.cell0 (F8.cell0 k3.out)
          have d4 := fun (y : Aft w8) => y.h.cell0 (F8.cell0 hce.out)
          have AX := hid (fun (y : Aft w8) => at_any b1 _ _ _ _ y.val (hr8.fr y.h id))
          refine wp_region_aft (by kernel_rfl) (by kernel_rfl) ?_
          repeat (go_big_quiet_step (first | (go_at_call 27; exact calls_aft (IX.out _)) | (go_at_call 20; exact calls_aft (AX.out _))))
          refine wpQuiet_nil ?_
          rintro _ ⟨⟨w9, hf9⟩, rfl⟩
          simp only
          clear d0 d1 d2 d3 d4 c0 c1 c2 c3
          go_wp2_with fail
          go_roundw
          case rel => exact ⟨i + 1, by omega, congrArg (Value.int .i64) (IntWalk.wrap64_in _ (by have := HL.out; omega)), hr8.fr hf9 id, F8.trans hf9⟩
          case measure =>
            have := HL.out
            rw [IntWalk.wrap64_in _ (by omega)]
            simp [intOf]; omega
        · have hd : decide ((i : Int) < (l.length : Int)) = false := by simp; omega
          have hil : i = l.length := by omega
          subst hil
          have hend := endR b1 _ wr hr
          have hleft := fun w1 h => left_any b1 _ _ _ _ w1 (RdIs.fr hr (X := No) h id)
          simp only [endE, Nat.lt_irrefl, and_false, if_false, Nat.sub_self] at hend hleft
          obtain ⟨k, hk, hK, hne⟩ := cut_mod cut (catB l l.length).length HALL.out
          have HR2 : Hid (∀ w1, Calls Try.prog 18 #[.string ((⟨(catB l l.length).toArray⟩ : ByteArray).extract 0 k)] w1 fun e w' => ∃ b, e = .returned (.pointer (some ⟨b, 0, none⟩)) ∧ RdAt w' b ((catB l l.length).take k) 0 0 0 ∧ w1.heap.size ≤ b ∧ Fr No w1 w') :=
            hid (fun w1 => by
              rw [cut_bytes]
              exact new_any _ w1 (by have := HALL.out; simp; omega))
          go_wp2_with (first
            | (go_at_call 24; refine hend.mono ?_; rintro e7 w7 ⟨rfl, hf7⟩)
            | (go_at_call 22; refine (hleft _ hf7).mono ?_; rintro e8 w8 ⟨rfl, hf8⟩)
            | (go_at_call 18; refine (HR2.out w8).mono ?_; rintro e9 w9 ⟨b2, rfl, hb2, hlt2, hf9⟩))
          have F8 := (hfq.trans hf7).trans hf8
          clear hend hleft hr
          go_loopw [15, 16] (fun at_ c wq => ∃ i : Nat, i ≤ l.length ∧ c = .int .i64 i ∧ at_ = .int .i64 (catB l i).length ∧ (catB l i).length ≤ k ∧ RdIs wq b2 ⟨(catB l l.length).take k, (catB l i).length, 0, 0⟩ ∧ Fr No w8 wq) (fun _ c _ => l.length - (intOf c).toNat)
          case atStart => exact ⟨0, Nat.zero_le _, rfl, by rw [catB_zero]; rfl, by rw [catB_zero]; exact Nat.zero_le _, by rw [catB_zero]; exact hb2, hf9⟩
          case round =>
            obtain ⟨i, hi', rfl, rfl, hak, hr, hfr⟩ := hrel
            by_cases hlt : i < l.length
            · have hd : decide ((i : Int) < (l.length : Int)) = true := by simp; omega
              obtain ⟨x, hx⟩ : ∃ x, l[i]? = some x := ⟨_, List.getElem?_eq_getElem hlt⟩
              have hok := HI.out.ok x (List.mem_of_getElem? hx)
              obtain ⟨q, hq⟩ := drop_cat l i x hx
              have hq2 := take_drop_cat l i k q x hq
              have e1 : (catB l i).length + (itB x).length = (catB l (i + 1)).length := by rw [catB_succ l i x hx]; simp
              have FX := hid (fun w1 => fitsV x w1 hok)
              have GX := hid (fun w1 (h : RdIs w1 b2 ⟨(catB l l.length).take k, (catB l i).length, 0, 0⟩) => get_any b2 _ (fitsI x) w1 (fitsI_ok x hok) h)
              obtain ⟨ge, ve, rfl, hge, hve, hce⟩ := Own.cell HE.out i hlt
              rw [endsV_get l _ i hlt] at hve
              obtain rfl := Option.some.inj hve
              obtain ⟨b, o2, rfl, k0, k1, k2, k3⟩ := (HI.out.fr FW.out).at_ i x hx
              have G0 := F8.trans hfr
              have c0 := G0.cell0 k0
              have c1 := G0.cell0 k1
              have c2 := G0.cell0 k2
              have c3 := G0.cell0 k3
              unfold strV at c2
              replace hce := F8.cell0 hce
              replace k0 := hid (F8.cell0 k0)
              replace k1 := hid (F8.cell0 k1)
              replace k2 := hid (F8.cell0 k2)
              replace k3 := hid (F8.cell0 k3)
              by_cases hcut : (catB l (i + 1)).length ≤ k
              · have hd2 : decide ((k : Int) < ((catB l (i + 1)).length : Int)) = false := by simp; omega
                obtain ⟨m, t, hG, hP, hm⟩ := itG_at x ⟨(catB l l.length).take k, (catB l i).length, 0, 0⟩ (q.take (k - (catB l (i + 1)).length)) hok rfl (by
                  rw [hq2, List.take_append, List.take_of_length_le (by omega)]
                  congr 2; omega)
                rw [hG] at GX
                have IX := hid (fun w1 => is_yes x m t w1 hok hP)
                generalize itV (fitsI x) = Y at FX GX
                simp only at GX
                rw [e1] at GX
                unfold itV strV at FX IX
                unfold strV at GX
                clear hG hq hq2 e1 hve hm hP
                replace hce := hid hce
                go_wp2_with (first
                  | (go_at_call 26; refine (FX.out _).mono ?_; rintro e7 w10 ⟨rfl, hf10⟩; have hr10 := hr.fr hf10 id)
                  | (go_at_call 21; refine (GX.out _ hr10).mono ?_; rintro e8 w11 ⟨rfl, hr11, hf11⟩
                     have F11 := (hfr.trans hf10).newOnly hlt2 hf11
                     have cc := F11.cell0 hce.out
                     have d0 := F11.cell0 k0.out
                     have d1 := F11.cell0 k1.out
                     have d2 := F11.cell0 k2.out
                     have d3 := F11.cell0 k3.out)
                  | (go_at_call 27; refine (IX.out _).mono ?_; rintro e9 w12 ⟨rfl, hf12⟩
                     have cc2 := hf12.cell0 cc))
                go_roundw
                case rel => exact ⟨i + 1, by omega, congrArg (Value.int .i64) (IntWalk.wrap64_in _ (by have := HL.out; omega)), rfl, hcut, hr11.fr hf12 id, F11.trans hf12⟩
                case measure =>
                  have := HL.out
                  rw [IntWalk.wrap64_in _ (by omega)]
                  simp [intOf]; omega
              · have hd2 : decide ((k : Int) < ((catB l (i + 1)).length : Int)) = true := by simp; omega
                have hG := itG_cut x ⟨(catB l l.length).take k, (catB l i).length, 0, 0⟩ (k - (catB l i).length) hok rfl (by omega) (by rw [hq2, List.take_append_of_le_length (by omega)])
                rw [hG] at GX
                generalize itV (fitsI x) = Y at FX GX
                unfold itV strV at FX
                unfold strV at GX
                clear hG hq hq2 e1 hve
                replace hce := hid hce
                go_wp2_with (first
                  | (go_at_call 26; refine (FX.out _).mono ?_; rintro e7 w10 ⟨rfl, hf10⟩; have hr10 := hr.fr hf10 id)
                  | (go_at_call 21; refine (GX.out _ hr10).mono ?_; rintro e8 w11 ⟨rfl, hr11, hf11⟩
                     have F11 := (hfr.trans hf10).newOnly hlt2 hf11
                     have cc := F11.cell0 hce.out)
                  | (go_at_call 19; refine (err_any b2 _ _ _ _ w11 hr11).mono ?_; rintro e9 w12 ⟨rfl, hf12⟩)
                  | (go_at_call 20; refine (at_any b2 _ _ _ _ w12 (hr11.fr hf12 id)).mono ?_; rintro e10 w13 ⟨rfl, hf13⟩))
                go_ret
                exact ⟨rfl, (((FW.out.trans F8).trans F11).trans hf12).trans hf13⟩
            · have hd : decide ((i : Int) < (l.length : Int)) = false := by simp; omega
              have hil : i = l.length := by omega
              subst hil
              have hkk : k = (catB l l.length).length := by omega
              have hend := endR b2 _ _ hr
              simp only [endE] at hend
              rw [if_neg (by simp; omega)] at hend
              go_wp2_with (first
                | (go_at_call 24; refine hend.mono ?_; rintro e7 w10 ⟨rfl, hf10⟩))
              go_ret
              exact ⟨rfl, ((FW.out.trans F8).trans hfr).trans hf10⟩
end Go.Proofs.Ytcggakegbdpdfaa
