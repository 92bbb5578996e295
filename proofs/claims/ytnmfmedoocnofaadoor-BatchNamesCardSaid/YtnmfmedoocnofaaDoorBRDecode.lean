/-
  The document's Decode of batches: the walk. No statement of the seat is proved here.
-/
import Derived.Test.YtnmfmedoocnofaaDoorBDecode
import Derived.Test.YtnmfmedoocnofaaDoorBR8E
namespace Go.Proofs.YtnmfmedoocnofaaDoor
open Go.RowKit

def DecLPost (w : World) (s : List UInt8) (en : Ending) (w' : World) : Prop :=
  ∃ (L : List (EvP × Ev)) (q : Option Addr) (cap : Nat), en = .returned (.tuple #[.slice q L.length cap, .int .i64 (decL s).2]) ∧ L.map Prod.snd = (decL s).1 ∧ LsRow w.heap.size w' (.slice q L.length cap) L ∧ Fr No w w'
theorem DecLPost.err {w w' : World} {s : List UInt8} {k : Nat} (h : decL s = ([], k)) (hf : Fr No w w') : DecLPost w s (.returned (.tuple #[.slice none 0 0, .int .i64 k])) w' :=
  ⟨[], none, 0, by rw [h]; rfl, by rw [h]; rfl, LsRow.nil _ _, hf⟩
theorem LsRow.app {B : Nat} {wr w5 W2 w6 : World} {v v' : Value} {L : List (EvP × Ev)} {p : EvP × Ev} (h : LsRow B wr v L) (h5 : LsRow B w5 v L) (hB : B ≤ wr.heap.size) (hs : wr.heap.size ≤ w5.heap.size) (hn : EvNew wr.heap.size w5 p.1 p.2) (hA : Fr No w5 W2)
    (ho : Own w6 34 4 v' (L.length + 1) (L.flatMap evC ++ evC p)) (hf : Fr (OnlyS v.ownBlock) W2 w6) (hb : v'.ownBlock = v.ownBlock ∨ v'.ownBlock = some W2.heap.size) : LsRow B w6 v' (L ++ [p]) := by
  have hown := h5.own.fr hA (fun _ _ => id)
  refine h.more (w4 := W2) (Nat.le_trans hB (Nat.le_trans hs hA.size)) (fun x hx => ?_) ho hb ((hn.fr hA).onlyS hown hf) (Nat.le_refl _)
  rcases List.mem_append.1 hx with hx | hx
  · exact ((h5.evs x hx).fr hA).onlyS hown hf
  · obtain rfl : x = p := by simpa using hx
    exact ((hn.fr hA).onlyS hown hf).mono hB
theorem OnlyS.ty {w : World} {v : Value} {n b : Nat} {xs : List Value} {o : Obj} (ho : Own w 34 4 v n xs) (hb : w.heap[b]? = some o) (hne : ∀ cur, o ≠ .cells cur 34 (0, 0)) : ¬ OnlyS v.ownBlock b := fun hx => by
  rcases ho.2 with ⟨hq, _⟩ | ⟨g, cap0, cur, hq, _, hg, _⟩
  · rw [hq] at hx; cases hx
  · rw [hq] at hx
    obtain rfl : g = b := Option.some.inj hx
    rw [hb] at hg
    exact hne _ (Option.some.inj hg)
theorem rFix1_lt (s : List UInt8) : (rFix 1 ⟨s, 0, 0, 0⟩).1 < 256 := by
  rcases s with _ | ⟨c, s⟩
  · rw [rFix1_nil]; decide
  · rw [rFix1_cons]; exact c.toNat_lt

set_option maxHeartbeats 16000000 in
set_option maxRecDepth 100000 in
theorem rdecode8_any (s : List UInt8) (w : World) (hs : s.length ≤ 9000000000000000000) :
    Calls Tryd.prog 13 #[strV s] w (DecLPost w s) := by
  have HF0 : Fr No w (w.alloc (.cells #[strV s, .int .i64 0, .int .i64 0, .int .i64 0] 59)) := (Fr.refl w).alloc _
  have hrd : DRd (w.alloc (.cells #[strV s, .int .i64 0, .int .i64 0, .int .i64 0] 59)) w.heap.size ⟨s, 0, 0, 0⟩ := ⟨Go.heap_alloc_new _ _, Nat.zero_le _, by show s.length ≤ _; omega⟩
  have FX : Hid (Calls Tryd.prog 34 #[.pointer (some ⟨w.heap.size, 0, none⟩), .int .i64 1] (w.alloc (.cells #[strV s, .int .i64 0, .int .i64 0, .int .i64 0] 59)) fun en w' => en = .returned (.int .u64 (rFix 1 ⟨s, 0, 0, 0⟩).1) ∧ DTo (w.alloc (.cells #[strV s, .int .i64 0, .int .i64 0, .int .i64 0] 59)) w' w.heap.size (rFix 1 ⟨s, 0, 0, 0⟩).2) := hid (dFixed w.heap.size ⟨s, 0, 0, 0⟩ 1 _ hrd (by decide))
  have HDL := hid (show decL s = decV s.length (rFix 1 ⟨s, 0, 0, 0⟩) from rfl)
  have HSv : Hid ((rFix 1 ⟨s, 0, 0, 0⟩).2.s = s) := hid (rFix_s _ _)
  have hv256 := rFix1_lt s
  generalize rFix 1 ⟨s, 0, 0, 0⟩ = a at FX HSv HDL hv256 ⊢
  obtain ⟨v, r2⟩ := a
  simp only at FX HSv hv256
  have hv1 : (0 : Int) ≤ (v : Int) := by omega
  have hv2 : (v : Int) ≤ 255 := by omega
  have HS := hid hs
  clear hrd hs
  unfold strV at *
  have HFW := hid HF0
  obtain ⟨b, hb⟩ : ∃ b, b = w.heap.size := ⟨_, rfl⟩
  have HBW : Hid (w.heap.size ≤ b) := hid (Nat.le_of_eq hb.symm)
  go_enter Tryd.func13, Tryd.ntmps13
  go_upto_region 3 with (first | (go_at_call 34; (with_reducible refine FX.out.mono ?_); rintro e2 w2 ⟨rfl, hr2, hf2⟩) | fail)
  rw [← hb] at hr2 hf2 ⊢
  have HF2 := hid (HFW.out.newOnly HBW.out hf2)
  have HR2 := hid hr2
  obtain ⟨d0, d1, d2, _⟩ := ddrd_cells hr2
  clear hf2 hr2 FX hb HF0
  by_cases hE : r2.e = 0
  · have t1 : ((r2.e : Int) != 0) = false := by simpa using hE
    by_cases hV1 : v < 1
    · have HD : Hid (decL s = ([], 43)) := hid (by rw [HDL.out]; unfold decV; rw [if_pos hE, if_pos (.inl hV1)])
      have t2 : decide ((v : Int) < 1) = true := by simp; omega
      clear hE hV1 hv1 hv2 hv256
      go_wp2_with fail
      go_ret2
      exact DecLPost.err HD.out HF2.out
    · by_cases hV3 : 3 < v
      · have HD : Hid (decL s = ([], 43)) := hid (by rw [HDL.out]; unfold decV; rw [if_pos hE, if_pos (.inr hV3)])
        have t2 : decide ((v : Int) < 1) = false := by simp; omega
        have t3 : decide ((3 : Int) < (v : Int)) = true := by simp; omega
        clear hE hV1 hV3 hv1 hv2 hv256
        go_wp2_with fail
        go_ret2
        exact DecLPost.err HD.out HF2.out
      · have t2 : decide ((v : Int) < 1) = false := by simp; omega
        have t3 : decide ((3 : Int) < (v : Int)) = false := by simp; omega
        have HD : Hid (decL s = decN s.length v (rSh 40 r2)) := hid (by rw [HDL.out]; unfold decV; rw [if_pos hE, if_neg (by simp only; omega)])
        have hsl : r2.at_ ≤ r2.s.length := HR2.out.2.1
        have hle40 : (rSh 40 r2).1 ≤ 40 := by unfold rSh; rw [if_pos hE]; exact (rShort_bound _ _ _ 40 hsl).2.1
        have HSs : Hid ((rSh 40 r2).2.s = s) := hid (by rw [rSh_s]; exact HSv.out)
        have SH : Hid (∀ w1, DRd w1 b r2 → Calls Tryd.prog 35 #[.pointer (some ⟨b, 0, none⟩), .int .u64 40] w1 fun en w' => en = .returned (.int .u64 (rSh 40 r2).1) ∧ DTo w1 w' b (rSh 40 r2).2) := hid (fun w1 h => dShort b r2 40 w1 h (by rw [HSv.out]; exact HS.out))
        generalize rSh 40 r2 = a at HD hle40 HSs SH
        obtain ⟨m, r3⟩ := a
        simp only at HSs SH hle40
        clear hsl hE hV1 hV3 HDL HSv hv1 hv2 hv256
        go_upto_region 8 with (first | (go_at_call 35; (with_reducible refine (SH.out _ HR2.out).mono ?_); rintro e4 w4 ⟨rfl, hr4, hf4⟩) | fail)
        have HF4 := hid (HF2.out.newOnly HBW.out hf4)
        have HR4 := hid hr4
        clear d0 d1 d2
        obtain ⟨d0, d1, d2, _⟩ := ddrd_cells hr4
        clear hf4 hr4 SH
        by_cases hE : r3.e = 0
        · have t4 : ((r3.e : Int) != 0) = false := by simpa using hE
          by_cases hm : m = 0
          · have t5 : ((m : Int) == 0) = true := by simpa using hm
            have HX : Hid (decL s = ([], 4)) := hid (by rw [HD.out]; unfold decN; rw [if_pos hE, if_pos hm])
            clear hE hm hle40
            go_wp2_with fail
            go_ret2
            exact DecLPost.err HX.out HF4.out
          · have t5 : ((m : Int) == 0) = false := by simpa using hm
            have HX : Hid (decL s = decE s.length (thenT [] (evsT v (m - 0) r3))) := hid (by rw [HD.out]; unfold decN; rw [if_pos hE, if_neg hm, thenT_start]; rfl)
            have HE3 := hid hE
            have hmi : IntKind.i64.wrap (m : Int) = (m : Int) := IntWalk.i64_in _ (by omega)
            have GT := hid (fun r w1 (h : DRd w1 b r) (hsm : r.s = s) => rget_any b r v w1 h (by rw [hsm]; exact HS.out))
            clear hE hm
            go_wp2_with fail
            clear d0 d1 d2
            go_loopg [7, 8] m (fun k ov iv wr => ∃ (j : Nat) (L : List (EvP × Ev)) (r : Rd), j ≤ m ∧ m ≤ j + k ∧ iv = .int .i64 j ∧ Hid (L.length = j ∧ r.s = s ∧ r.e = 0 ∧ decL s = decE s.length (thenT (L.map Prod.snd) (evsT v (m - j) r))) ∧ LsRow w.heap.size wr ov L ∧ DRd wr b r ∧ Fr No w wr)
            case atStart => exact ⟨0, [], r3, Nat.zero_le _, by omega, rfl, hid ⟨rfl, HSs.out, HE3.out, HX.out⟩, LsRow.nil _ _, HR4.out, HF4.out⟩
            case round =>
              rename Value => ov
              obtain ⟨j, L, r, hj, hk, rfl, HL, hrow, hr, hf⟩ := hrel
              by_cases hlt : j < m
              · obtain ⟨i, hi⟩ : ∃ i, m - j = i + 1 := ⟨m - j - 1, by omega⟩
                obtain ⟨hLl, hrs, hre, hdl⟩ := HL.out
                rw [hi] at hdl
                have hi2 : m - (j + 1) = i := by omega
                have t6 : (j : Int) < (m : Int) := by omega
                have i2 : (0 : Int) ≤ (j : Int) := by omega
                have i4 : (j : Int) + 1 ≤ 41 := by omega
                have GE := hid (GT.out r wr hr hrs)
                unfold DGetPost at GE
                by_cases hg : (getT v r).1.2 = 0
                · obtain ⟨_, _, _, hr5, _⟩ := getT_back hre hr.2.1 hg
                  have HNX : Hid ((getT v r).2.s = s ∧ (getT v r).2.e = 0 ∧ decL s = decE s.length (thenT (L.map Prod.snd ++ [(getT v r).1.1]) (evsT v i (getT v r).2))) := hid ⟨by rw [hr5]; exact hrs, by rw [hr5]; exact hre, by rw [hdl, thenT_ok hg]⟩
                  rw [hg] at GE
                  have HROW := hid hrow
                  have HRr := hid hr
                  have HLL := hid hLl
                  have HI2 := hid hi2
                  clear hr5 hg hrow hr hLl hrs hre hdl hi hi2 HL
                  generalize getT v r = R at GE HNX
                  obtain ⟨⟨e5, k5⟩, r5⟩ := R
                  simp only at GE HNX
                  unfold evV at GE
                  obtain ⟨i0, hi0, hz0', hz1, hz2⟩ := info_parts infoEv
                  go_wp2_with (first
                    | (go_at_call 36; (with_reducible refine GE.out.mono ?_); rintro e6 w6 ⟨s6, rfl, hn6, hr6, hf6⟩; have hrow5 := HROW.out.frTy hf6 (only_ty HRr.out); have hA : Fr No w6 ((w6.alloc (.cells #[.int .u8 e5.v, .int .u8 e5.kind, .slice s6.qn e5.nums.length s6.cn, .slice s6.qt e5.texts.length s6.ct] 34)).alloc (.cells #[.int .u8 e5.v, .int .u8 e5.kind, .slice s6.qn e5.nums.length s6.cn, .slice s6.qt e5.texts.length s6.ct] 34)) := ((Fr.refl w6).alloc _).alloc _; have hown := hrow5.own.fr hA (fun _ _ => id))
                    | (at_builtin; refine wpList_append_fr _ rfl _ _ 26 rfl 34 i0 (.agg #[.int .u8 0, .int .u8 0, .slice none 0 0, .slice none 0 0]) 4 56 Tryd.underlying26 hi0 hz0' hz1 hz2 rfl (by decide) _ _ _ rfl hown ⟨w6.heap.size + 1, 0, none⟩ 1 1 (evC (s6, e5)) rfl rfl ?c1 ?c2 ?c3 ?c4 ?_)
                    | fail)
                  case c1 => intro j u hu; have h := cells_new (w6.alloc (.cells #[.int .u8 e5.v, .int .u8 e5.kind, .slice s6.qn e5.nums.length s6.cn, .slice s6.qt e5.texts.length s6.ct] 34)) (evC (s6, e5)) 34 j u hu; simp only [World.size_alloc] at h; exact h
                  case c2 => intro u hu; simp [evC] at hu; rcases hu with rfl | rfl | rfl | rfl <;> rfl
                  case c3 => have := HLL.out; unfold maxLen; omega
                  case c4 => have := HLL.out; omega
                  intro v' w7 ho hf7 hn7
                  have hrow7 := LsRow.app (p := (s6, e5)) HROW.out hrow5 hf.size hf6.size hn6 hA ho hf7 (by simpa using hn7)
                  have hr7 := (hr6.fr hA id).fr hf7 (OnlyS.ty hown (hr6.fr hA id).1 (fun cur hc => by cases hc))
                  have hf77 := ((hf.newOnly HBW.out hf6).trans hA).newOnlyS (fun g hg => HROW.out.new g hg) hf7
                  have H7 := hid (And.intro hrow7 (And.intro hr7 hf77))
                  have HOK : Hid ((L ++ [(s6, e5)]).length = j + 1 ∧ r5.s = s ∧ r5.e = 0 ∧ decL s = decE s.length (thenT ((L ++ [(s6, e5)]).map Prod.snd) (evsT v (m - (j + 1)) r5))) := hid ⟨by simp [HLL.out], HNX.out.1, HNX.out.2.1, by rw [HI2.out, List.map_append]; exact HNX.out.2.2⟩
                  clear hrow7 hr7 hf77 ho hf7 hn7 hown hA hrow5 hn6 hr6 hf6
                  go_wp2_with fail
                  go_roundg (gk - 1)
                  case measure => omega
                  case rel => exact ⟨j + 1, _, r5, by omega, by omega, by go_num, HOK, H7.out.1, H7.out.2.1, H7.out.2.2⟩
                · have HDX : Hid (decL s = ([], (getT v r).1.2)) := hid (by rw [hdl, thenT_no hg]; unfold decE; rw [if_neg hg])
                  generalize getT v r = R at GE HDX hg
                  obtain ⟨⟨e5, k5⟩, r5⟩ := R
                  simp only at GE HDX hg
                  have t7 : ((k5 : Int) != 0) = true := by simpa using hg
                  clear hLl hrs hre hdl hi hi2 HL hg
                  unfold evV at GE
                  go_wp2_with (first
                    | (go_at_call 36; (with_reducible refine GE.out.mono ?_); rintro e6 w6 ⟨s6, rfl, hn6, hr6, hf6⟩)
                    | fail)
                  go_ret2
                  exact DecLPost.err HDX.out ((hf.newOnly HBW.out hf6).alloc _)
              · obtain rfl : j = m := by omega
                obtain ⟨hLl, hrs, hre, hdl⟩ := HL.out
                have HZ : Hid (decL s = if r.at_ < s.length then ([], 4) else (L.map Prod.snd, 0)) := hid (by
                  rw [hdl, Nat.sub_self]
                  unfold decE thenT evsT
                  simp)
                have hst : r.at_ ≤ r.s.length := hr.2.1
                have hsl := HS.out
                rw [hrs] at hst
                obtain ⟨d0, d1, d2, _⟩ := ddrd_cells hr
                obtain ⟨qo, co, rfl⟩ := hrow.shape
                have HROW := hid hrow
                clear hLl hrs hre hdl HL hrow
                by_cases ha : r.at_ < s.length
                · have HD : Hid (decL s = ([], 4)) := hid (by rw [HZ.out, if_pos ha])
                  have t8 : decide (r.at_ < s.length) = true := by simpa using ha
                  clear ha
                  go_wp2_with fail
                  go_ret2
                  exact DecLPost.err HD.out hf
                · have HD : Hid (decL s = (L.map Prod.snd, 0)) := hid (by rw [HZ.out, if_neg ha])
                  have t8 : decide (r.at_ < s.length) = false := by simpa using ha
                  clear ha
                  go_wp2_with fail
                  go_ret2
                  exact ⟨L, qo, co, by rw [HD.out]; rfl, by rw [HD.out], HROW.out, hf⟩
        · have t4 : ((r3.e : Int) != 0) = true := by simpa using hE
          have HX : Hid (decL s = ([], r3.e)) := hid (by rw [HD.out]; unfold decN; rw [if_neg hE])
          clear hE
          go_wp2_with fail
          go_quiet (fail)
          go_wp2_with fail
          go_ret2
          exact DecLPost.err HX.out (HF4.out.drewN _)
  · have t1 : ((r2.e : Int) != 0) = true := by simpa using hE
    have HD : Hid (decL s = ([], r2.e)) := hid (by rw [HDL.out]; unfold decV; rw [if_neg hE])
    clear hE hv1 hv2 hv256
    go_wp2_with fail
    go_quiet (fail)
    go_wp2_with fail
    go_ret2
    exact DecLPost.err HD.out (HF2.out.drewN _)
end Go.Proofs.YtnmfmedoocnofaaDoor
