/-
  BatchLifted: the walk. No statement of the seat is proved here.
-/
import Derived.Test.YtnmfmedoocnofaaDoorBLifted
namespace Go.Proofs.YtnmfmedoocnofaaDoor
open Go.RowKit

theorem topS_top {e : Ev} (hm : mayS e = true) : topS (topS e) = topS e := by
  have := (topS_may hm).2
  unfold topS at this ⊢
  rw [this]
  rfl
theorem mayL_all {l : List Ev} (h : mayL l = true) : ∀ e, e ∈ l → mayS e = true := fun e he => ((mayL_parts h).2.2 e he).2
theorem mayL_top {l : List Ev} (h : mayL l = true) : mayL (l.map topS) = true ∧ (l.map topS).map topS = l.map topS := by
  obtain ⟨h0, h40, _⟩ := mayL_parts h
  refine ⟨(mayL_of (v := 3) (by simpa using h0) (by simpa using h40) (fun e he => ?_)).1, ?_⟩
  · obtain ⟨x, hx, rfl⟩ := List.mem_map.1 he
    exact ⟨(topS_may (mayL_all h x hx)).2, (topS_may (mayL_all h x hx)).1⟩
  · rw [List.map_map]
    exact List.map_congr_left (fun x hx => topS_top (mayL_all h x hx))
theorem dec_pay0 {l : List Ev} (h : mayL l = true) : decL (payB l) = (l, 0) := by
  have := dec_pay h []
  rwa [if_pos rfl, List.append_nil] at this
theorem newL_pay {l : List Ev} (h : mayL l = true) : newL (payB l) = (payB (l.map topS), 0) := by
  unfold newL
  rw [dec_pay0 h, if_pos rfl, encL_ok (mayL_top h).1]
/-- What Say says of a batch. -/
theorem say_ok {l : List Ev} {v : Nat} (h : mayL l = true) :
    (sayL l v = ([], 43) ∧ (v < 1 ∨ 3 < v)) ∨
    ∃ u, 1 ≤ v ∧ v ≤ u ∧ u ≤ 3 ∧ mayL (l.map fun e => (toR e u).1) = true ∧ (∀ e, e ∈ (l.map fun e => (toR e u).1) → e.v = u) ∧ sayL l v = (payB (l.map fun e => (toR e u).1), 0) ∧
      (l.map fun e => (toR e u).1).map topS = l.map topS ∧ ∀ x, v ≤ x → x < u → okAll l x = false := by
  obtain ⟨h0, h40, _⟩ := mayL_parts h
  have he0 : (encL l).2 = 0 := by rw [encL_ok h]
  by_cases hv : v < 1 ∨ 3 < v
  · refine .inl ⟨sayL_none he0 ?_, hv⟩
    rcases hv with hv | hv
    · obtain rfl : v = 0 := by omega
      rfl
    · exact lowE_big hv
  · right
    have key : ∀ n v, 1 ≤ v → v ≤ 3 → 3 - v = n → ∃ u, lowE l v = some u ∧ v ≤ u ∧ u ≤ 3 ∧ okAll l u = true ∧ ∀ x, v ≤ x → x < u → okAll l x = false := by
      intro n
      induction n with
      | zero =>
        intro v h1 h3 hn
        obtain rfl : v = 3 := by omega
        have hok := okAll_3 (mayL_all h)
        exact ⟨3, by rw [lowE_step h1 h3, if_pos hok], Nat.le_refl _, Nat.le_refl _, hok, fun x _ _ => by omega⟩
      | succ n ih =>
        intro v h1 h3 hn
        rcases hok : okAll l v with _ | _
        · obtain ⟨u, hu, h5, h6, h7, h8⟩ := ih (v + 1) (by omega) (by omega) (by omega)
          refine ⟨u, by rw [lowE_step h1 h3, hok]; exact hu, by omega, h6, h7, fun x hx1 hx2 => ?_⟩
          by_cases hx : x = v
          · rw [hx]; exact hok
          · exact h8 x (by omega) hx2
        · exact ⟨v, by rw [lowE_step h1 h3, if_pos hok], Nat.le_refl _, h3, hok, fun x _ _ => by omega⟩
    obtain ⟨u, hu, h5, h6, h7, h8⟩ := key _ v (by omega) (by omega) rfl
    have hto : ∀ e, e ∈ l → mayS (toR e u).1 = true ∧ (toR e u).1.v = u ∧ topS (toR e u).1 = topS e := fun e he => by
      have := List.all_eq_true.1 (show l.all (fun e => decide ((toR e u).2 = 0)) = true from h7) e he
      obtain ⟨_, _, _, k1, k2, k3⟩ := toR_may (by simpa using this : (toR e u).2 = 0)
      exact ⟨k1, k2, k3⟩
    have hml : mayL (l.map fun e => (toR e u).1) = true := (mayL_of (v := u) (by simpa using h0) (by simpa using h40) (fun e he => by
      obtain ⟨x, hx, rfl⟩ := List.mem_map.1 he
      exact ⟨(hto x hx).2.1, (hto x hx).1⟩)).1
    refine ⟨u, by omega, h5, h6, hml, fun e he => ?_, by rw [sayL_some he0 hu, encL_ok hml], ?_, h8⟩
    · obtain ⟨x, hx, rfl⟩ := List.mem_map.1 he
      exact (hto x hx).2.1
    · rw [List.map_map]
      exact List.map_congr_left (fun x hx => (hto x hx).2.2)

set_option maxHeartbeats 16000000 in
set_option maxRecDepth 100000 in
theorem blifted_any (l : List (EvP × Ev)) (q : Option Addr) (cap v : Nat) (w : World) (hl : LsAt w q l) (hkt : KT w) (hn : l.length ≤ 17592186044416) (hv : v ≤ 255) :
    Calls Tryd.prog 5 #[.slice q l.length cap, .int .u8 v] w fun en w' => en = .returned (.bool true) ∧ Fr No w w' := by
  have WK := hid (fun w1 (h : Fr No w w1) => works8_any w1 (hkt.fr h))
  have HE := hid (fun w1 (h : Fr No w w1) => heavy_any l q cap w1 (hl.fr h) (by omega))
  unfold HeavyPost at HE
  have EN := hid (fun w1 (h : Fr No w w1) (hs : l.length ≤ 4000) => bencode_any l q cap w1 (hl.fr h) (hkt.fr h) (by omega))
  have SY := hid (fun w1 (h : Fr No w w1) (hs : l.length ≤ 4000) => bsay_any l q cap v w1 (hl.fr h) (hkt.fr h) (by omega) hv)
  have NW := hid (fun (x : List Ev) (hm : mayL x = true) w1 (h : Fr No w w1) => (by
    have hs := payB_short hm
    have := bnewest_any (payB x) w1 (hkt.fr h) (by omega)
    rw [newL_pay hm] at this
    exact this : Calls Tryd.prog 10 #[strV (payB x)] w1 fun en w' => en = .returned (.tuple #[strV (payB (x.map topS)), .int .i64 0]) ∧ Fr No w1 w'))
  have DC := hid (fun (x : List Ev) (hm : mayL x = true) w1 (h : Fr No w w1) => (by
    have hs := payB_short hm
    have := bdecode_any (payB x) w1 (hkt.fr h) (by omega)
    rw [dec_pay0 hm] at this
    exact this : Calls Tryd.prog 12 #[strV (payB x)] w1 fun en w' => ∃ (L : List (EvP × Ev)) (q2 : Option Addr) (c2 : Nat), en = .returned (.tuple #[.slice q2 L.length c2, .int .i64 0]) ∧ L.map Prod.snd = x ∧ LsRow w1.heap.size w' (.slice q2 L.length c2) L ∧ Fr No w1 w'))
  have LF := hid (fun (L M : List (EvP × Ev)) (q2 q3 : Option Addr) (c2 c3 : Nat) w1 (h : Fr No w w1) (h2 : LsAt w1 q2 L) (h3 : LsAt w1 q3 M) (hn : L.length ≤ 1000000) (hm : ∀ e, e ∈ L.map Prod.snd → mayS e = true) (he : (L.map Prod.snd).map topS = M.map Prod.snd) => (by
    have := lifted8_any L M q2 q3 c2 c3 w1 h2 h3 (hkt.fr h) hn (fun p hp => hm p.2 (List.mem_map.2 ⟨p, hp, rfl⟩))
    rw [decide_eq_true he] at this
    exact this : Calls Tryd.prog 19 #[.slice q2 L.length c2, .slice q3 M.length c3] w1 fun en w' => en = .returned (.bool true) ∧ Fr No w1 w'))
  have LA := hid (fun w1 (h : Fr No w w1) => hl.fr h)
  have TO := hid (fun s e x w1 (he : EvAt w1 s e) (h : Fr No w w1) => to_any s e x w1 he (hkt.fr h))
  unfold UpPost at TO
  clear hl hkt
  unfold strV at *
  go_enter Tryd.func5, Tryd.ntmps5
  go_upto_region 3 with (first
    | (go_at_call 9; (with_reducible refine (WK.out _ (Fr.refl w)).mono ?_); rintro e0 w0 ⟨rfl, hf0⟩)
    | (go_at_call 16; (with_reducible refine (HE.out _ hf0).mono ?_); intro e1 w1 h1; obtain ⟨hb, rfl, hlt, hf1⟩ := h1; rcases hb with _ | _)
    | (go_at_call 9; (with_reducible refine (WK.out _ (hf0.trans hf1)).mono ?_); rintro e2 w2 ⟨rfl, hf2⟩)
    | fail)
  all_goals first | (go_ret; exact ⟨rfl, (hf0.trans hf1).trans hf2⟩) | skip
  have F1 := hf0.trans hf1
  have hl4 : l.length ≤ 4000 := by simpa using hlt
  have E1 := hid (EN.out _ F1 hl4)
  have SY1 := hid (fun w2 (h : Fr No w w2) => SY.out w2 h hl4)
  have HL4 := hid hl4
  clear hlt hl4 HE hf0 hf1 WK EN SY
  rcases hm : mayL (l.map Prod.snd) with _ | _
  · have hz := encL_no hm
    have t2 : (((encL (l.map Prod.snd)).2 : Int) != 0) = true := by simpa using hz
    clear hm hz SY1
    generalize encL (l.map Prod.snd) = R at E1 t2
    go_wp2_with (first
      | (go_at_call 17; (with_reducible refine E1.out.mono ?_); rintro e4 w4 ⟨rfl, hf4⟩)
      | fail)
    go_ret
    exact ⟨rfl, F1.trans hf4⟩
  · rw [encL_ok hm] at E1
    have E2 : Hid (Calls Tryd.prog 17 #[.slice q l.length cap] w1 fun en w' => en = .returned (.tuple #[.string ⟨(payB (l.map Prod.snd)).toArray⟩, .int .i64 0]) ∧ Fr No w1 w') := E1
    obtain ⟨hm2, hm3⟩ := mayL_top hm
    have N1 := hid (NW.out _ hm)
    have N2 := hid (NW.out _ hm2)
    rw [hm3] at N2
    have D3 := hid (DC.out _ hm2)
    have HMX := hid (mayL_all hm)
    have HMT := hid (mayL_all hm2)
    have HSO := hid (say_ok (v := v) hm)
    have HLX := hid (mayL_parts hm).1
    clear E1 hm hm2 hm3
    generalize payB ((l.map Prod.snd).map topS) = T at N1 N2 D3
    generalize payB (l.map Prod.snd) = P at E2 N1
    go_upto_region 11 with (first
      | (go_at_call 17; (with_reducible refine E2.out.mono ?_); rintro e4 w4 ⟨rfl, hf4⟩; have F4 := F1.trans hf4)
      | (go_at_call 10; (with_reducible refine (N1.out _ F4).mono ?_); rintro e5 w5 ⟨rfl, hf5⟩; have F5 := F4.trans hf5)
      | (go_at_call 10; (with_reducible refine (N2.out _ F5).mono ?_); rintro e6 w6 ⟨rfl, hf6⟩; have F6 := F5.trans hf6)
      | (go_at_call 12; (with_reducible refine (D3.out _ F6).mono ?_); rintro e7 w7 ⟨L3, q3, c3, rfl, hm7, hrow7, hf7⟩; have F7 := F6.trans hf7; have A3 := ls_may hrow7 (fun e he => HMT.out e (by rw [← hm7]; exact he)); have S7 := hid (LF.out l L3 q q3 cap c3 w7 F7 (LA.out _ F7) A3 (by have := HL4.out; omega) HMX.out hm7.symm))
      | (go_at_call 19; (with_reducible refine S7.out.mono ?_); rintro e8 w8 ⟨rfl, hf8⟩; have F8 := F7.trans hf8)
      | fail)
    have A8 := hid (fun w9 (h : Fr No w8 w9) => A3.fr (hf8.trans h))
    have HM7 := hid hm7
    clear E2 N1 N2 D3 S7 F1 F4 F5 F6 F7 hf4 hf5 hf6 hf7 hf8 hrow7 hm7 A3
    have SY8 := hid (SY1.out _ F8)
    rcases HSO.out with ⟨hs, hv2⟩ | ⟨u, hv1, hvu, hu3, hmu, huv, hs, hut, hno⟩
    · rw [hs] at SY8
      have SZ : Hid (Calls Tryd.prog 20 #[.slice q l.length cap, .int .u8 v] w8 fun en w' => en = .returned (.tuple #[.string ⟨#[]⟩, .int .i64 43]) ∧ Fr No w8 w') := SY8
      clear SY8 hs HSO SY1
      by_cases hv1 : v < 1
      · have t1 : decide ((v : Int) < 1) = true := by simp; omega
        clear hv2 hv1
        go_wp2_with (first
          | (go_at_call 20; (with_reducible refine SZ.out.mono ?_); rintro e9 w9 ⟨rfl, hf9⟩)
          | fail)
        go_ret
        exact ⟨rfl, F8.trans hf9⟩
      · have t1 : decide ((v : Int) < 1) = false := by simp; omega
        have t2 : decide ((3 : Int) < (v : Int)) = true := by simp; omega
        clear hv2 hv1
        go_wp2_with (first
          | (go_at_call 20; (with_reducible refine SZ.out.mono ?_); rintro e9 w9 ⟨rfl, hf9⟩)
          | fail)
        go_ret
        exact ⟨rfl, F8.trans hf9⟩
    · rw [hs] at SY8
      have D9 := hid (DC.out _ hmu)
      have HMU := hid (mayL_all hmu)
      have HUL := hid (mayL_parts hmu).1
      have HU40 := hid (mayL_parts hmu).2.1
      have HUV := hid huv
      have HUT := hid hut
      have HNO := hid hno
      clear hs hmu huv hut hno HSO SY1 DC
      generalize payB ((l.map Prod.snd).map fun e => (toR e u).1) = S at SY8 D9
      have SZ : Hid (Calls Tryd.prog 20 #[.slice q l.length cap, .int .u8 v] w8 fun en w' => en = .returned (.tuple #[.string ⟨S.toArray⟩, .int .i64 0]) ∧ Fr No w8 w') := SY8
      generalize (l.map Prod.snd).map (fun e => (toR e u).1) = XU at D9 HMU HUL HU40 HUV HUT
      clear SY8
      go_upto_region 15 with (first
        | (go_at_call 20; (with_reducible refine SZ.out.mono ?_); rintro e9 w9 ⟨rfl, hf9⟩; have F9 := F8.trans hf9)
        | (go_at_call 12; (with_reducible refine (D9.out _ F9).mono ?_); rintro e10 w10 ⟨Lm, qm, cm, rfl, hm10, hrow10, hf10⟩; have F10 := F9.trans hf10)
        | fail)
      have AM := ls_may hrow10 (fun e he => HMU.out e (by rw [← hm10]; exact he))
      have hlm0 : 0 < Lm.length := by have := HUL.out; rw [← hm10, List.length_map] at this; exact this
      have hlm40 : Lm.length ≤ 40 := by have := HU40.out; rw [← hm10, List.length_map] at this; exact this
      obtain ⟨⟨sm, em⟩, hp0⟩ : ∃ p, Lm[0]? = some p := ⟨_, List.getElem?_eq_getElem hlm0⟩
      have hev : em.v = u := HUV.out em (by rw [← hm10]; exact List.mem_map.2 ⟨_, List.mem_of_getElem? hp0, rfl⟩)
      obtain ⟨_, bm, om, rfl, c00, _, _, _⟩ := AM 0 sm em hp0
      have c0 : w10.cell? ⟨bm, om, none⟩ = some (.int .u8 u) := by rw [hev] at c00; simpa using c00
      have S10 := hid (LF.out Lm L3 _ q3 cm c3 w10 F10 AM (A8.out _ (hf9.trans hf10)) (by omega) (fun e he => HMU.out e (by rw [← hm10]; exact he)) (by rw [hm10, HUT.out, HM7.out]))
      have i1 : (0 : Int) < (Lm.length : Int) := by omega
      have i2 : ((Lm.length : Int) == 0) = false := by rw [beq_eq_false_iff_ne]; omega
      have i3 : decide (u < v) = false := by simp; omega
      have HC0 := hid (fun wz (h : Fr No w10 wz) => h.cell0 c0)
      clear hm10 hrow10 AM c00 hp0 hev hf9 hf10 F9 SZ D9 LF hlm0 hlm40 A8 HM7
      go_upto_region 17 with (first
        | (go_at_call 19; (with_reducible refine S10.out.mono ?_); rintro e11 w11 ⟨rfl, hf11⟩; have F11 := F10.trans hf11)
        | fail)
      have HC := hid (fun wz (h : Fr No w11 wz) => HC0.out wz (hf11.trans h))
      clear HC0 c0 S10 F10 hf11 i2
      go_wp2_with fail
      go_loopg [16] 4 (fun g xv wr => ∃ x : Nat, xv = .int .u8 x ∧ v ≤ x ∧ x ≤ u ∧ 4 ≤ x + g ∧ Fr No w11 wr)
      case atStart => exact ⟨v, rfl, Nat.le_refl _, hvu, by omega, Fr.refl _⟩
      case round =>
        obtain ⟨x, rfl, hx1, hxu, hk, hfr⟩ := hrel
        obtain ⟨go, hgo⟩ : ∃ g, g = gk := ⟨_, rfl⟩
        have HGO := hid hgo
        rw [← hgo] at hk
        clear hgo
        have c0 := HC.out _ hfr
        have hx0 : (0 : Int) ≤ (x : Int) := by omega
        by_cases hlt : x < u
        · have j1 : decide (x < u) = true := by simpa using hlt
          have hno := HNO.out x hx1 hlt
          have HNX := hid hno
          have hx255 : (x : Int) + 1 ≤ 255 := by omega
          have hk2 : 1 ≤ go := by omega
          clear hno
          go_wp2_with fail
          go_loopg [17, 18] l.length (fun g bv iv wz => ∃ j : Nat, j ≤ l.length ∧ l.length ≤ j + g ∧ iv = .int .i64 j ∧ bv = .bool (okAll ((l.map Prod.snd).take j) x) ∧ Fr No w11 wz)
          case atStart => exact ⟨0, Nat.zero_le _, by omega, rfl, rfl, hfr⟩
          case round =>
            rename World => wz
            obtain ⟨j, hj, hkz, rfl, rfl, hfz⟩ := hrel
            by_cases hjl : j < l.length
            · obtain ⟨⟨s, e⟩, hp⟩ : ∃ p, l[j]? = some p := ⟨_, List.getElem?_eq_getElem hjl⟩
              obtain ⟨hE, b, o, hq, d0, d1, d2, d3⟩ := LA.out _ (F11.trans hfz) j s e hp
              subst hq
              have k1 : (j : Int) < (l.length : Int) := by omega
              have k2 : (0 : Int) ≤ (j : Int) := by omega
              have k3 : (j : Int) + 1 ≤ 4001 := by have := HL4.out; omega
              have T1 := hid (TO.out s e x wz hE (F11.trans hfz))
              have HOK : Hid (okAll ((l.map Prod.snd).take (j + 1)) x = (okAll ((l.map Prod.snd).take j) x && ((toR e x).2 == 0))) := hid (by
                have h1 : (l.map Prod.snd).take (j + 1) = (l.map Prod.snd).take j ++ [e] := by
                  rw [← List.map_take, ← List.map_take, snd_take hp]
                rw [h1]
                unfold okAll
                rw [List.all_append]
                congr 1
                rw [List.all_cons, List.all_nil, Bool.and_true]
                rfl)
              generalize okAll ((l.map Prod.snd).take j) x = BB at HOK ⊢
              generalize toR e x = R at T1 HOK
              clear hp hE
              unfold evV at T1
              rcases BB with _ | _
              · go_wp2_with (first
                  | (go_at_call 21; (with_reducible refine T1.out.mono ?_); rintro e12 w12 ⟨s12, rfl, hn12, hf12⟩)
                  | fail)
                go_roundg (gk - 1)
                case measure => omega
                case rel => exact ⟨j + 1, by omega, by omega, by go_num, by rw [HOK.out]; rfl, (hfz.trans hf12).alloc _⟩
              · go_wp2_with (first
                  | (go_at_call 21; (with_reducible refine T1.out.mono ?_); rintro e12 w12 ⟨s12, rfl, hn12, hf12⟩)
                  | fail)
                go_roundg (gk - 1)
                case measure => omega
                case rel => exact ⟨j + 1, by omega, by omega, by go_num, by rw [HOK.out]; rfl, (hfz.trans hf12).alloc _⟩
            · obtain rfl : j = l.length := by omega
              have HF : Hid (okAll ((l.map Prod.snd).take l.length) x = false) := hid (by rw [List.take_of_length_le (by simp)]; exact HNX.out)
              rw [HF.out]
              go_wp2_with fail
              go_roundg (go - 1)
              case measure => have := HGO.out; omega
              case rel => exact ⟨x + 1, by go_num, by omega, by omega, by omega, hfz⟩
        · obtain rfl : x = u := by omega
          have j1 : decide (x < x) = false := by simp
          go_wp2_with fail
          go_ret
          exact ⟨rfl, F11.trans hfr⟩
end Go.Proofs.YtnmfmedoocnofaaDoor
