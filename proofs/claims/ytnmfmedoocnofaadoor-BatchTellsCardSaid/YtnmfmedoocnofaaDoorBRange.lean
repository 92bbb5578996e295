/-
  batch.events: the iterator's walk, for whatever rounds keep the reader. No statement of the seat is proved here.
-/
import Derived.Test.YtnmfmedoocnofaaDoorBPlain
import Derived.Test.YtnmfmedoocnofaaDoorBDec
import Derived.RangeFuncNested
import Derived.RangeFuncBound
import Derived.RangeFuncCalls
import Derived.RangeFuncLeaves
import Derived.Shelf.Abstract
import Derived.Shelf.RegionOpen
import Derived.WalkKit
import Derived.OwnWalkIn
import Derived.TacticsInMore
import Derived.LoopNIn
import Derived.LoopIn
import Derived.Sort.LoopGhostIn
import Derived.Sort.CutIn
namespace Go.Proofs.YtnmfmedoocnofaaDoor
open Go.RowKit

set_option maxHeartbeats 400000 in
theorem end_any (b : Nat) (s : List UInt8) (at_ e tt : Nat) (w : World) (h : RdAt w b s at_ e tt) :
    Calls Tryd.prog 64 #[.pointer (some ⟨b, 0, none⟩)] w fun en w' => en = .returned (.int .i64 (endE s.length at_ e)) ∧ Fr No w w' := by
  have he := err_any b s at_ e tt w h
  have HE := hid he
  clear he
  have hl := fun w1 (hf : Fr No w w1) => left_any b s at_ e tt w1 (h.fr hf id)
  have HL := hid hl
  clear hl
  have hle := h.2.1
  clear h
  by_cases h0 : e = 0
  · subst h0
    by_cases h1 : at_ < s.length
    · have hfin : endE s.length at_ 0 = 4 := by unfold endE; rw [if_pos ⟨rfl, h1⟩]
      rw [hfin]
      have hd : decide ((0 : Int) < ((s.length - at_ : Nat) : Int)) = true := by simp; omega
      clear hfin
      go_enter Tryd.func64, Tryd.ntmps64
      go_wp2_with (go_at_call 61; refine HE.out.mono ?_; rintro e w1 ⟨rfl, hf⟩)
      go_wp2_with (go_at_call 94; refine (HL.out _ hf).mono ?_; rintro e w2 ⟨rfl, hf2⟩)
      go_ret
      exact ⟨rfl, hf.trans hf2⟩
    · have hfin : endE s.length at_ 0 = 0 := by unfold endE; rw [if_neg (fun h => h1 h.2)]
      rw [hfin]
      have hd : decide ((0 : Int) < ((s.length - at_ : Nat) : Int)) = false := by simp; omega
      clear hfin
      go_enter Tryd.func64, Tryd.ntmps64
      go_wp2_with (go_at_call 61; refine HE.out.mono ?_; rintro e w1 ⟨rfl, hf⟩)
      go_wp2_with (go_at_call 94; refine (HL.out _ hf).mono ?_; rintro e w2 ⟨rfl, hf2⟩)
      go_ret
      exact ⟨rfl, hf.trans hf2⟩
  · have hfin : endE s.length at_ e = e := by unfold endE; rw [if_neg (fun h => h0 h.1)]
    rw [hfin]
    have hd : ((e : Int) == 0) = false := by simpa using h0
    clear hfin
    go_enter Tryd.func64, Tryd.ntmps64
    go_wp2_with (go_at_call 61; refine HE.out.mono ?_; rintro e w1 ⟨rfl, hf⟩)
    go_ret
    exact ⟨rfl, hf⟩

/-- What the rounds that are still to come make of a payload, behind those that have come. -/
def thenT (pre : List Ev) (x : (List Ev × Nat) × Rd) : (List Ev × Nat) × Rd := if x.1.2 = 0 then ((pre ++ x.1.1, 0), x.2) else (([], x.1.2), x.2)
theorem thenT_start (v n : Nat) (r : Rd) : thenT [] (evsT v n r) = evsT v n r := by
  unfold thenT
  split
  · rename_i h
    rw [List.nil_append]
    generalize evsT v n r = x at h
    obtain ⟨⟨x1, x2⟩, x3⟩ := x
    simp only at h
    subst h
    rfl
  · rename_i h
    have := evsT_err v n r h
    generalize evsT v n r = x at h this
    obtain ⟨⟨x1, x2⟩, x3⟩ := x
    simp only at this
    subst this
    rfl
theorem thenT_ok {v n : Nat} {r : Rd} {pre : List Ev} (h : (getT v r).1.2 = 0) : thenT pre (evsT v (n + 1) r) = thenT (pre ++ [(getT v r).1.1]) (evsT v n (getT v r).2) := by
  rw [evsT, if_pos h]
  unfold thenT
  by_cases h2 : (evsT v n (getT v r).2).1.2 = 0
  · rw [if_pos h2, if_pos rfl, if_pos h2]
    simp
  · rw [if_neg h2, if_neg (by exact h2), if_neg h2]
theorem thenT_no {v n : Nat} {r : Rd} {pre : List Ev} (h : (getT v r).1.2 ≠ 0) : thenT pre (evsT v (n + 1) r) = (([], (getT v r).1.2), (getT v r).2) := by
  rw [evsT, if_neg h]
  unfold thenT
  rw [if_neg (by exact h)]

def zeroV : Value := .agg #[.int .u8 0, .int .u8 0, .slice none 0 0, .slice none 0 0]

/-- What the rounds say of a payload of which L is told, with an error or none. -/
def ItPost (J : List (EvP × Ev) → World → Prop) (Jx : Nat → World → Prop) (R : List Ev × Nat) (e : Ending) (W' : World) : Prop :=
  (∃ v, e = .returned v) ∧ ((R.2 = 0 ∧ ∃ ps : List (EvP × Ev), ps.map Prod.snd = R.1 ∧ J ps W') ∨ (R.2 ≠ 0 ∧ Jx R.2 W'))

theorem Fr.set4 {X : Nat → Prop} {a w : World} {B : Nat} (h : Fr X a w) (hB : a.heap.size ≤ B) (v0 v1 v2 v3 : Value) : Fr X a ((((w.setCell ⟨B, 0, none⟩ v0).setCell ⟨B, 1, none⟩ v1).setCell ⟨B, 2, none⟩ v2).setCell ⟨B, 3, none⟩ v3) :=
  (((h.setCell (p := ⟨B, 0, none⟩) (.inr hB) v0).setCell (p := ⟨B, 1, none⟩) (.inr hB) v1).setCell (p := ⟨B, 2, none⟩) (.inr hB) v2).setCell (p := ⟨B, 3, none⟩) (.inr hB) v3
/-- Between two rounds: so far all is well; or an error has come. -/
def ItRel (J : List (EvP × Ev) → World → Prop) (s : List UInt8) (b v k m : Nat) (wr : World) : Prop :=
  (k = 0 ∧ ∃ pre r, pre.length + m ≤ 40 ∧ J pre wr ∧ RdIs wr b r ∧ r.s = s ∧ r.e = 0 ∧ decL s = decE s.length (thenT (pre.map Prod.snd) (evsT v m r))) ∨ (k ≠ 0 ∧ decL s = ([], k) ∧ ∃ pre, J pre wr)

set_option maxHeartbeats 16000000 in
set_option maxRecDepth 100000 in
theorem iter_any (n l Bp : Nat) (h1 : 1 ≤ n) (s : List UInt8) (W0 : World) (J : List (EvP × Ev) → World → Prop) (Jx : Nat → World → Prop)
    (hJ0 : ∀ pre W W', J pre W → Fr No W W' → J pre W')
    (hJr : ∀ pre W W' b r, W0.heap.size ≤ b → J pre W → RdIs W b r → Fr (Only b) W W' → J pre W')
    (hJk : ∀ pre W, J pre W → KT W)
    (hY : ∀ pre p e Wa W b r r', pre.length < 40 → W0.heap.size ≤ b → J pre Wa → RdIs Wa b r → Fr (Only b) Wa W → RdIs W b r' → EvNew Wa.heap.size W p e → mayS e = true →
      YieldAt Fence.wide (n - 1) Tryd.prog l #[evV p e, .int .i64 0] W fun en W' => en = .returned (.bool true) ∧ J (pre ++ [(p, e)]) W' ∧ RdIs W' b r')
    (hYx : ∀ pre (k : Nat) W, J pre W → k ≠ 0 → YieldAt Fence.wide (n - 1) Tryd.prog l #[zeroV, .int .i64 k] W fun en W' => en = .returned (.bool false) ∧ Jx k W')
    (hBp : W0.cell? ⟨Bp, 0, none⟩ = some (strV s)) (hs : s.length ≤ 9000000000000000000) (h0 : J [] W0) :
    CallsIn Fence.wide n Tryd.prog 58 #[.func (.yield l) #[] #[], .pointer (some ⟨Bp, 0, none⟩)] W0 (ItPost J Jx (decL s)) := by
  have NW := hid (fun w1 => new_any s w1 (by omega))
  have U8 := hid (fun b r w1 (h : RdIs w1 b r) => u8R b r w1 h)
  have ER := hid (fun b r w1 (h : RdIs w1 b r) => err_any b r.s r.at_ r.e (Rd.to r) w1 h)
  unfold strV at *
  have hd : ¬ (Fence.wide.depth.isSome = true) := by decide
  refine callsIn_of_wp Tryd.func58 rfl trivial ?_ rfl
  simp only [Tryd.ntmps58, List.size_toArray, List.length_cons, List.length_nil, Nat.reduceAdd, Nat.reduceSub, Array.replicate_succ, Array.replicate_zero, List.push_toArray, List.append_toArray, List.nil_append, List.cons_append]
  gi_upto_region 3 with (first
    | (refine ⟨trivial, ?_⟩; gi_at_call 59; (with_reducible refine (callsIn_wide.2 (NW.out _)).mono ?_); rintro e1 w1 ⟨b, rfl, hr0, hb1, hf1⟩; have hr1 : RdIs w1 b ⟨s, 0, 0, 0⟩ := hr0; clear hr0)
    | (refine ⟨trivial, ?_⟩; gi_at_call 60; (with_reducible refine (callsIn_wide.2 (U8.out b ⟨s, 0, 0, 0⟩ _ hr1)).mono ?_); rintro e2 w2 ⟨rfl, hr2, hf2⟩)
    | (refine ⟨trivial, ?_⟩; gi_at_call 61; (with_reducible refine (callsIn_wide.2 (ER.out b _ _ hr2)).mono ?_); rintro e3 w3 ⟨rfl, hf3⟩)
    | fail)
  have HB := hid hb1
  have HJ3 := hid (hJ0 _ _ _ (hJr _ _ _ b _ hb1 (hJ0 _ _ _ h0 hf1) hr1 hf2) hf3)
  have HR3 := hid (hr2.fr hf3 id)
  clear hr1 hb1 hf1 hr2 hf2 hf3 h0 hBp
  have HDL := hid (show decL s = decV s.length (rFix 1 ⟨s, 0, 0, 0⟩) from rfl)
  have HSv : Hid ((rFix 1 ⟨s, 0, 0, 0⟩).2.s = s) := hid (rFix_s _ _)
  generalize rFix 1 ⟨s, 0, 0, 0⟩ = a at HR3 HSv HDL ⊢
  obtain ⟨v, r2⟩ := a
  simp only at HR3 HSv ⊢
  have YX := hid hYx
  have YY := hid hY
  clear hYx hY
  by_cases hE : r2.e = 0
  · by_cases hV1 : v < 1
    · have HD : Hid (decL s = ([], 43)) := hid (by rw [HDL.out]; unfold decV; rw [if_pos hE, if_pos (.inl hV1)])
      have hy43 : YieldAt Fence.wide (n - 1) Tryd.prog l #[zeroV, .int .i64 43] w3 fun en W' => en = .returned (.bool false) ∧ Jx 43 W' := YX.out [] 43 w3 HJ3.out (by decide)
      obtain ⟨fn, tm, asg, bd, hy, hR⟩ := hy43
      unfold zeroV at hy
      have t1 : ((r2.e : Int) == 0) = true := by simpa using hE
      have t2 : decide ((v : Int) < 1) = true := by simp; omega
      clear hE hV1
      gi_wp2_with (first | (refine hR.mono ?_; rintro e4 w4 ⟨rfl, hJ4⟩) | fail)
      refine bodyPost_ret (results_none rfl _ _ _) rfl ?_
      rw [HD.out]
      exact ⟨⟨_, rfl⟩, .inr ⟨by decide, hJ4⟩⟩
    · by_cases hV3 : 3 < v
      · have HD : Hid (decL s = ([], 43)) := hid (by rw [HDL.out]; unfold decV; rw [if_pos hE, if_pos (.inr hV3)])
        have hy43 : YieldAt Fence.wide (n - 1) Tryd.prog l #[zeroV, .int .i64 43] w3 fun en W' => en = .returned (.bool false) ∧ Jx 43 W' := YX.out [] 43 w3 HJ3.out (by decide)
        obtain ⟨fn, tm, asg, bd, hy, hR⟩ := hy43
        unfold zeroV at hy
        have t1 : ((r2.e : Int) == 0) = true := by simpa using hE
        have t2 : decide ((v : Int) < 1) = false := by simp; omega
        have t3 : decide ((3 : Int) < (v : Int)) = true := by simp; omega
        clear hE hV1 hV3
        gi_wp2_with (first | (refine hR.mono ?_; rintro e4 w4 ⟨rfl, hJ4⟩) | fail)
        refine bodyPost_ret (results_none rfl _ _ _) rfl ?_
        rw [HD.out]
        exact ⟨⟨_, rfl⟩, .inr ⟨by decide, hJ4⟩⟩
      · have t1 : ((r2.e : Int) == 0) = true := by simpa using hE
        have t1' : ((r2.e : Int) != 0) = false := by simpa using hE
        have t2 : decide ((v : Int) < 1) = false := by simp; omega
        have t3 : decide ((3 : Int) < (v : Int)) = false := by simp; omega
        have HD : Hid (decL s = decN s.length v (rSh 40 r2)) := hid (by rw [HDL.out]; unfold decV; rw [if_pos hE, if_neg (by simp only; omega)])
        have hsl : r2.at_ ≤ r2.s.length := HR3.out.2.1
        have hok := rSh_ok 40 r2 hsl hE
        have hle40 : (rSh 40 r2).1 ≤ 40 := by unfold rSh; rw [if_pos hE]; exact (rShort_bound _ _ _ 40 hsl).2.1
        have HSs : Hid ((rSh 40 r2).2.s = s) := hid (by rw [rSh_s]; exact HSv.out)
        have SH : Hid (∀ w1, RdIs w1 b r2 → Calls Tryd.prog 62 #[.pointer (some ⟨b, 0, none⟩), .int .u64 40] w1 fun en w' => en = .returned (.int .u64 (rSh 40 r2).1) ∧ ReadTo w1 w' b (rSh 40 r2).2) := hid (fun w1 h => shortR b r2 40 w1 h)
        generalize rSh 40 r2 = a at HD hok HSs SH hle40
        obtain ⟨m, r3⟩ := a
        simp only at HSs SH hok hle40
        have hm64 := hok.1
        have HLE := hid hle40
        clear hok hsl hE hV1 hV3 HDL HSv hle40
        gi_upto_region 9 with (first
          | (refine ⟨trivial, ?_⟩; gi_at_call 62; (with_reducible refine (callsIn_wide.2 (SH.out _ HR3.out)).mono ?_); rintro e4 w4 ⟨rfl, hr4, hf4⟩)
          | (refine ⟨trivial, ?_⟩; gi_at_call 61; (with_reducible refine (callsIn_wide.2 (ER.out b _ _ hr4)).mono ?_); rintro e5 w5 ⟨rfl, hf5⟩)
          | fail)
        have HJ5 := hid (hJ0 _ _ _ (hJr _ _ _ b _ HB.out HJ3.out HR3.out hf4) hf5)
        have HR5 := hid (hr4.fr hf5 id)
        clear hr4 hf4 hf5 HJ3 HR3
        have GT := hid (fun r w1 (h : RdIs w1 b r) (hk : KT w1) => get_any b r v w1 h hk)
        have EN := hid (fun r w1 (h : RdIs w1 b r) => end_any b r.s r.at_ r.e (Rd.to r) w1 h)
        have HJK := hid hJk
        have HJ0 := hid hJ0
        have HJR := hid hJr
        clear hJk hJ0 hJr
        obtain ⟨c, hc⟩ : ∃ c, c = (decide (r3.e = 0) && decide (m = 0)) := ⟨_, rfl⟩
        have HC := hid hc
        clear hc
        gi_cut [46] from 41 (fun cv w' => cv = .bool c ∧ w' = w5)
        case first =>
          by_cases hE : r3.e = 0
          · have t4 : ((r3.e : Int) == 0) = true := by simpa using hE
            have HX : Hid (((m : Int) == 0) = c) := hid (by rw [HC.out, decide_eq_true hE, Bool.true_and, Bool.eq_iff_iff]; simp)
            clear hE
            gi_wp2_with fail
            gi_meet
            exact ⟨congrArg Value.bool HX.out, rfl⟩
          · have t4 : ((r3.e : Int) == 0) = false := by simpa using hE
            have HX : Hid (false = c) := hid (by rw [HC.out, decide_eq_false hE]; rfl)
            clear hE
            gi_wp2_with fail
            gi_meet
            exact ⟨congrArg Value.bool HX.out, rfl⟩
        case rest =>
          obtain ⟨rfl, rfl⟩ := hcut
          rename World => w5
          gi_upto_if 46 with fail
          gi_cut [5] from 47 (fun kv w' => ∃ k : Nat, kv = .int .i64 k ∧ Hid (ItRel J s b v k m w'))
          case first =>
            by_cases hE : r3.e = 0
            · by_cases hm : m = 0
              · obtain rfl : c = true := by rw [HC.out, decide_eq_true hE, decide_eq_true hm]; rfl
                have HX : Hid (ItRel J s b v 4 m w5) := hid (.inr ⟨by decide, by rw [HD.out]; unfold decN; rw [if_pos hE, if_pos hm], [], HJ5.out⟩)
                clear hE hm
                gi_wp2_with fail
                gi_meet
                exact ⟨4, rfl, HX⟩
              · obtain rfl : c = false := by rw [HC.out, decide_eq_false hm, Bool.and_false]
                have HX : Hid (ItRel J s b v r3.e m w5) := hid (.inl ⟨hE, [], r3, by simpa using HLE.out, HJ5.out, HR5.out, HSs.out, hE, by rw [HD.out]; unfold decN; rw [if_pos hE, if_neg hm, List.map_nil, thenT_start]⟩)
                clear hE hm
                gi_wp2_with fail
                gi_meet
                exact ⟨r3.e, rfl, HX⟩
            · obtain rfl : c = false := by rw [HC.out, decide_eq_false hE]; rfl
              have HX : Hid (ItRel J s b v r3.e m w5) := hid (.inr ⟨hE, by rw [HD.out]; unfold decN; rw [if_neg hE], [], HJ5.out⟩)
              clear hE
              gi_wp2_with fail
              gi_meet
              exact ⟨r3.e, rfl, HX⟩
          case rest =>
            obtain ⟨k, rfl, HX⟩ := hcut
            rename World => w6
            clear SH HJ5 HR5 HC HD HSs ER U8 NW t1 t1' t2 t3
            gi_wp2_with fail
            gi_loopg [5, 7] m (fun g kv nv wr => ∃ k m : Nat, kv = .int .i64 k ∧ nv = .int .u64 m ∧ m ≤ g ∧ m < 18446744073709551616 ∧ Hid (ItRel J s b v k m wr))
            case atStart => exact ⟨k, m, rfl, rfl, Nat.le_refl _, hm64, HX⟩
            case round =>
              clear HX hm64
              obtain ⟨k, m, rfl, rfl, hmg, hm64, HX⟩ := hrel
              rcases HX.out with ⟨hk, pre, r, hpl, hJ, hr, hrs, hre, hdl⟩ | ⟨hk, hdl, pre, hJ⟩
              · have t1 : ((k : Int) == 0) = true := by simpa using hk
                have HDL := hid hdl
                have HJr := hid hJ
                have HPL := hid hpl
                clear hpl
                have HRr := hid hr
                have HRE := hid (And.intro hrs hre)
                by_cases hm : m = 0
                · have t3 : decide (0 < m) = false := by simp; omega
                  have HZ : Hid (decL s = if r.at_ < s.length then ([], 4) else (pre.map Prod.snd, 0)) := hid (by
                    rw [hdl, hm]
                    unfold decE thenT evsT
                    simp)
                  by_cases ha : r.at_ < r.s.length
                  · have HD : Hid (decL s = ([], 4)) := hid (by rw [HZ.out, if_pos (by rw [← hrs]; exact ha)])
                    have EN4 : Hid (Calls Tryd.prog 64 #[.pointer (some ⟨b, 0, none⟩)] wr fun en w' => en = .returned (.int .i64 4) ∧ Fr No wr w') := hid (by
                      have h := EN.out r wr hr
                      unfold endE at h
                      rwa [if_pos ⟨hre, ha⟩] at h)
                    clear hk hm ha hdl hJ hr hrs hre HX HZ EN
                    gi_wp2_with (first
                      | (refine ⟨trivial, ?_⟩; gi_at_call 64; (with_reducible refine (callsIn_wide.2 EN4.out).mono ?_); rintro e4 w4 ⟨rfl, hf4⟩; have hy4 : YieldAt Fence.wide (n - 1) Tryd.prog l #[zeroV, .int .i64 4] w4 fun en W' => en = .returned (.bool false) ∧ Jx 4 W' := YX.out pre 4 w4 (HJ0.out _ _ _ HJr.out hf4) (by decide); obtain ⟨fn, tm, asg, bd, hy, hR⟩ := hy4; unfold zeroV at hy)
                      | (refine hR.mono ?_; rintro e5 w5 ⟨rfl, hJ5⟩)
                      | fail)
                    go_end0
                    rw [HD.out]
                    exact ⟨⟨_, rfl⟩, .inr ⟨by decide, hJ5⟩⟩
                  · have HD : Hid (decL s = (pre.map Prod.snd, 0)) := hid (by rw [HZ.out, if_neg (by rw [← hrs]; exact ha)])
                    have EN0 : Hid (Calls Tryd.prog 64 #[.pointer (some ⟨b, 0, none⟩)] wr fun en w' => en = .returned (.int .i64 0) ∧ Fr No wr w') := hid (by
                      have h := EN.out r wr hr
                      unfold endE at h
                      rwa [if_neg (fun hc => ha hc.2), hre] at h)
                    clear hk hm ha hdl hJ hr hrs hre HX HZ EN
                    gi_wp2_with (first
                      | (refine ⟨trivial, ?_⟩; gi_at_call 64; (with_reducible refine (callsIn_wide.2 EN0.out).mono ?_); rintro e4 w4 ⟨rfl, hf4⟩)
                      | fail)
                    go_end0
                    rw [HD.out]
                    exact ⟨⟨_, rfl⟩, .inl ⟨rfl, pre, rfl, HJ0.out _ _ _ HJr.out hf4⟩⟩
                · have t3 : decide (0 < m) = true := by simp; omega
                  obtain ⟨m, rfl⟩ : ∃ m', m = m' + 1 := ⟨m - 1, by omega⟩
                  have hm1 : (1 : Int) ≤ ((m + 1 : Nat) : Int) := by omega
                  have hm2 : ((m + 1 : Nat) : Int) ≤ 18446744073709551615 := by omega
                  have HF0 := hid ((Fr.refl (X := No) wr).alloc (.cells #[.int .u8 0, .int .u8 0, .slice none 0 0, .slice none 0 0] 34))
                  have HG0 := hid (Go.heap_alloc_new wr (.cells #[.int .u8 0, .int .u8 0, .slice none 0 0, .slice none 0 0] 34))
                  have GE := hid (GT.out r _ (hr.fr HF0.out id) ((HJK.out _ _ hJ).fr HF0.out))
                  have hbne : wr.heap.size ≠ b := Nat.ne_of_gt hr.lt
                  have hat : r.at_ ≤ r.s.length := hr.2.1
                  by_cases hg : (getT v r).1.2 = 0
                  · obtain ⟨hmay, _, _, hr5, _⟩ := getT_back hre hat hg
                    have HDX : Hid (decL s = decE s.length (thenT (pre.map Prod.snd ++ [(getT v r).1.1]) (evsT v m (getT v r).2))) := hid (by rw [hdl, thenT_ok hg])
                    have HS5 : Hid ((getT v r).2.s = s ∧ (getT v r).2.e = 0) := hid ⟨by rw [hr5]; exact hrs, by rw [hr5]; exact hre⟩
                    unfold GetPost at GE
                    rw [hg] at GE
                    have HMAY := hid hmay
                    clear hr5 hg hmay
                    generalize getT v r = R at GE HDX HS5 HMAY
                    obtain ⟨⟨e5, k5⟩, r5⟩ := R
                    simp only at GE HDX HS5 HMAY
                    have GE0 : Hid (Calls Tryd.prog 63 #[.pointer (some ⟨b, 0, none⟩), .int .u8 v] (wr.alloc (.cells #[.int .u8 0, .int .u8 0, .slice none 0 0, .slice none 0 0] 34)) fun en w' => ∃ s, en = .returned (.tuple #[evV s e5, .int .i64 0]) ∧ EvNew wr.heap.size w' s e5 ∧ RdIs w' b r5 ∧ Fr (Only b) (wr.alloc (.cells #[.int .u8 0, .int .u8 0, .slice none 0 0, .slice none 0 0] 34)) w') :=
                      hid (GE.out.mono fun en w' ⟨s, h1, h2, h3⟩ => ⟨s, h1, h2.mono (by simp), h3⟩)
                    clear hk hm hdl hJ hr hrs hre HX EN GT GE hat
                    unfold evV at GE0
                    gi_upto_region 14 with fail
                    have HBN := hid hbne
                    obtain ⟨B, hBe⟩ : ∃ B, B = wr.heap.size := ⟨_, rfl⟩
                    rw [← hBe] at HBN HG0 ⊢
                    have HBW : Hid (wr.heap.size ≤ B) := hid (Nat.le_of_eq hBe.symm)
                    clear hBe hbne
                    gi_upto_region 15 with (first
                      | (refine ⟨trivial, ?_⟩; gi_at_call 63; (with_reducible refine (callsIn_wide.2 GE0.out).mono ?_); rintro e6 w6 ⟨s6, rfl, hn6, hr6, hf6⟩; have hg6 := hf6.heap HG0.out (fun h => HBN.out h); obtain ⟨c0, c1, c2, c3, f0, f1, f2, f3⟩ := Go.Proofs.YtnmfmedoocnofaaDoor.cells4 hg6; have HG6 := hid hg6; clear hg6)
                      | fail)
                    have hF7 := Fr.set4 (HF0.out.of0.trans hf6) HBW.out (.int .u8 e5.v) (.int .u8 e5.kind) (.slice s6.qn e5.nums.length s6.cn) (.slice s6.qt e5.texts.length s6.ct)
                    obtain ⟨hB7, hFB⟩ := BoxAt.fill HG6.out HBW.out hn6
                    have hr7 := hr6.fr hFB (fun h => HBN.out h.symm)
                    generalize ((((w6.setCell ⟨B, 0, none⟩ (.int .u8 e5.v)).setCell ⟨B, 1, none⟩ (.int .u8 e5.kind)).setCell ⟨B, 2, none⟩ (.slice s6.qn e5.nums.length s6.cn)).setCell ⟨B, 3, none⟩ (.slice s6.qt e5.texts.length s6.ct)) = w7 at hF7 hB7 hr7 ⊢
                    clear c0 c1 c2 c3 f0 f1 f2 f3 hr6 hf6 hn6 HG6 HG0 HF0 GE0 hFB
                    have hy7 := YY.out pre s6 e5 wr w7 b r r5 (by have := HPL.out; omega) HB.out HJr.out HRr.out hF7 hr7 hB7.new HMAY.out
                    obtain ⟨c0, c1, c2, c3, f0, f1, f2, f3⟩ := hB7.cells4
                    obtain ⟨fn, tm, asg, bd, hy, hR⟩ := hy7
                    unfold evV at hy
                    clear hF7 hB7 hr7
                    gi_wp2_with (first | (refine hR.mono ?_; rintro e8 w8 ⟨rfl, hJ8, hr8⟩) | fail)
                    gi_roundg m
                    case measure => omega
                    case rel => exact ⟨0, m, rfl, by go_num, Nat.le_refl _, by omega, hid (.inl ⟨rfl, pre ++ [(s6, e5)], r5, by have := HPL.out; simp; omega, hJ8, hr8, HS5.out.1, HS5.out.2, by rw [List.map_append]; exact HDX.out⟩)⟩
                  · have HDX : Hid (decL s = ([], (getT v r).1.2)) := hid (by rw [hdl, thenT_no hg]; unfold decE; rw [if_neg hg])
                    unfold GetPost at GE
                    have HGK := hid hg
                    generalize getT v r = R at GE HDX hg HGK
                    obtain ⟨⟨e5, k5⟩, r5⟩ := R
                    simp only at GE HDX hg HGK
                    have t4 : ((k5 : Int) == 0) = false := by simpa using hg
                    have t5 : ((k5 : Int) != 0) = true := by simpa using hg
                    clear hk hm hdl hJ hr hrs hre HX EN GT hg
                    unfold evV at GE
                    gi_upto_region 14 with fail
                    have HBN := hid hbne
                    obtain ⟨B, hBe⟩ : ∃ B, B = wr.heap.size := ⟨_, rfl⟩
                    rw [← hBe] at HBN HG0 ⊢
                    have HBW : Hid (wr.heap.size ≤ B) := hid (Nat.le_of_eq hBe.symm)
                    clear hBe
                    clear hbne
                    gi_upto_region 15 with (first
                      | (refine ⟨trivial, ?_⟩; gi_at_call 63; (with_reducible refine (callsIn_wide.2 GE.out).mono ?_); rintro e6 w6 ⟨s6, rfl, hn6, hr6, hf6⟩; have hg6 := hf6.heap HG0.out (fun h => HBN.out h); obtain ⟨c0, c1, c2, c3, f0, f1, f2, f3⟩ := Go.Proofs.YtnmfmedoocnofaaDoor.cells4 hg6; have HG6 := hid hg6; clear hg6)
                      | fail)
                    have HJ7 := hid (HJR.out _ _ _ b r HB.out HJr.out HRr.out (Fr.set4 (HF0.out.of0.trans hf6) HBW.out (.int .u8 e5.v) (.int .u8 e5.kind) (.slice s6.qn e5.nums.length s6.cn) (.slice s6.qt e5.texts.length s6.ct)))
                    generalize ((((w6.setCell ⟨B, 0, none⟩ (.int .u8 e5.v)).setCell ⟨B, 1, none⟩ (.int .u8 e5.kind)).setCell ⟨B, 2, none⟩ (.slice s6.qn e5.nums.length s6.cn)).setCell ⟨B, 3, none⟩ (.slice s6.qt e5.texts.length s6.ct)) = w7 at HJ7 ⊢
                    clear c0 c1 c2 c3 f0 f1 f2 f3 hr6 hf6 hn6 HG6 HG0 HF0 GE
                    repeat (first | go_values | gi_guarded | gi_step | gi_upon)
                    refine ⟨fun _ _ => trivial, ?_⟩
                    gi_wp2_with fail
                    gi_roundg m
                    case measure => omega
                    case rel => exact ⟨k5, m, rfl, by go_num, Nat.le_refl _, by omega, hid (.inr ⟨HGK.out, HDX.out, pre, HJ7.out⟩)⟩
              · have t1 : ((k : Int) == 0) = false := by simpa using hk
                have t2 : ((k : Int) != 0) = true := by simpa using hk
                have HK := hid hk
                have HDL := hid hdl
                obtain ⟨fn, tm, asg, bd, hy, hR⟩ := YX.out pre k wr hJ hk
                unfold zeroV at hy
                clear hk hdl HX hJ
                by_cases hm : m = 0
                · have t3 : decide (0 < m) = false := by simp; omega
                  clear hm
                  gi_wp2_with (first | (refine hR.mono ?_; rintro e4 w4 ⟨rfl, hJ4⟩) | fail)
                  go_end0
                  rw [HDL.out]
                  exact ⟨⟨_, rfl⟩, .inr ⟨HK.out, hJ4⟩⟩
                · have t3 : decide (0 < m) = true := by simp; omega
                  clear hm
                  gi_wp2_with (first | (refine hR.mono ?_; rintro e4 w4 ⟨rfl, hJ4⟩) | fail)
                  go_end0
                  rw [HDL.out]
                  exact ⟨⟨_, rfl⟩, .inr ⟨HK.out, hJ4⟩⟩
  · have HD : Hid (decL s = ([], r2.e)) := hid (by rw [HDL.out]; unfold decV; rw [if_neg hE])
    have HE := hid hE
    obtain ⟨fn, tm, asg, bd, hy, hR⟩ := YX.out [] r2.e w3 HJ3.out hE
    unfold zeroV at hy
    have t1 : ((r2.e : Int) == 0) = false := by simpa using hE
    have t2 : ((r2.e : Int) != 0) = true := by simpa using hE
    clear hE
    gi_wp2_with (first | (refine hR.mono ?_; rintro e4 w4 ⟨rfl, hJ4⟩) | fail)
    refine bodyPost_ret (results_none rfl _ _ _) rfl ?_
    rw [HD.out]
    exact ⟨⟨_, rfl⟩, .inr ⟨HE.out, hJ4⟩⟩
end Go.Proofs.YtnmfmedoocnofaaDoor
