/-
  upcast.Up: the walk where an event is lifted. No statement of the seat is proved here.
-/
import Derived.Test.YtgjabbhgmecbbaaDoorUpWalk
import Derived.Test.YtgjabbhgmecbbaaDoorAft
import Derived.Deep.RegionHeld3
import Derived.Deep.Cut
import Derived.IntWalk
import Derived.Deep.QuietTactic
import Derived.Deep.CutRange
namespace Go.Proofs.YtgjabbhgmecbbaaDoor
open Go.RowKit

/-! ### plain: the rules' numbers are small -/
def ruleSmall (n : Nat) (r : RuleS) : Bool := decide (-1 ≤ r.fr) && (decide (r.fr < n) && (decide (0 ≤ r.times) && (decide (r.times ≤ 100) && (decide (0 ≤ r.plus) && decide (r.plus ≤ 100)))))
theorem rules_small_all : ((List.range 24).all fun k => ((rulesL 1 k).all (ruleSmall (fieldsS 1 k).1.length)) && ((rulesL 2 k).all (ruleSmall (fieldsS 2 k).1.length))) = true := by decide +kernel
theorem rules_small {v k : Nat} (h : rulesIs v k = true) {r : RuleS} (hr : r ∈ rulesL v k) : -1 ≤ r.fr ∧ r.fr < (fieldsS v k).1.length ∧ 0 ≤ r.times ∧ r.times ≤ 100 ∧ 0 ≤ r.plus ∧ r.plus ≤ 100 := by
  obtain ⟨hv, _, h2, _⟩ := rulesIs_range h
  have hg := List.all_eq_true.1 rules_small_all k (List.mem_range.2 (by omega))
  rw [Bool.and_eq_true] at hg
  have hk : ruleSmall (fieldsS v k).1.length r = true := by
    rcases hv with rfl | rfl
    · exact List.all_eq_true.1 hg.1 r hr
    · exact List.all_eq_true.1 hg.2 r hr
  simpa [ruleSmall] using hk
theorem bound_small (v c : Nat) : 0 ≤ (boundS v c).1 ∧ (boundS v c).2.1 ≤ 1125899906842624 := by
  unfold boundS
  split <;> decide
theorem fits_small {v c : Nat} {n : Int} (h : fitsS v c n = true) : 0 ≤ n ∧ n ≤ 1125899906842624 := by
  have := bound_small v c
  unfold fitsS at h
  simp only [Bool.and_eq_true, decide_eq_true_eq] at h
  omega
theorem may_small {e : Ev} (hm : mayS e = true) : e.nums.length = (fieldsS e.v e.kind).1.length ∧ e.nums.length ≤ 7 ∧ e.texts.length ≤ 1 ∧ (∀ n, n ∈ e.nums → 0 ≤ n ∧ n ≤ 1125899906842624) ∧ ∀ s, s ∈ e.texts → s.length ≤ 24 := by
  obtain ⟨_, hl, hfit, ht1, ht2⟩ := mayS_parts (e := e) (l := (fieldsS e.v e.kind).1) (t := (fieldsS e.v e.kind).2.1) (i := (fieldsS e.v e.kind).2.2) rfl hm
  have h7 := fieldsS_length e.v e.kind
  refine ⟨hl.symm, by omega, ?_, fun n hn => ?_, fun s hs => ?_⟩
  · rcases ht : (fieldsS e.v e.kind).2.1 with _ | _
    · rw [ht2 ht]; exact Nat.zero_le _
    · obtain ⟨s, h1, _⟩ := ht1 ht
      rw [h1]; exact Nat.le_refl _
  · obtain ⟨j, hj⟩ := List.getElem?_of_mem hn
    have hlt := (List.getElem?_eq_some_iff.1 hj).1
    exact fits_small (hfit j _ n (List.getElem?_eq_getElem (by omega)) hj)
  · rcases ht : (fieldsS e.v e.kind).2.1 with _ | _
    · rw [ht2 ht] at hs; cases hs
    · obtain ⟨s', h1, h2⟩ := ht1 ht
      rw [h1] at hs
      obtain rfl : s = s' := by simpa using hs
      simp only [mayNameS, Bool.and_eq_true, decide_eq_true_eq] at h2
      omega
/-- An event of a box of its own that may be. -/
theorem BoxAt.may {B : Nat} {w : World} {b : Nat} {s : EvP} {e : Ev} (h : BoxAt B w b s e) (hm : mayS e = true) (hk : e.kind ≤ 255) : EvAt w s e := by
  obtain ⟨_, h1, h2, h3, h4⟩ := may_small hm
  obtain ⟨_, h5, h6⟩ := may_is hm
  exact h.at_ (by omega) hk (by omega) (by omega) (fun s hs => by have := h4 s hs; omega) (fun n hn => by have := h3 n hn; omega)
theorem EvNew.may {B : Nat} {w : World} {s : EvP} {e : Ev} (h : EvNew B w s e) (hm : mayS e = true) (hk : e.kind ≤ 255) : EvAt w s e := by
  obtain ⟨_, h1, h2, h3, h4⟩ := may_small hm
  obtain ⟨_, h5, h6⟩ := may_is hm
  exact ⟨by omega, hk, h.nums.at_, h.texts.at_, by omega, by omega, fun s hs => by have := h4 s hs; omega, fun n hn => by have := h3 n hn; omega⟩

theorem box_cells {w w' : World} {v0 v1 v2 v3 : Value} (h : Fr No (w.drew.alloc (.cells #[v0, v1, v2, v3] 25)) w') :
    w'.cell? ⟨w.heap.size, 0, none⟩ = some v0 ∧ w'.cell? ⟨w.heap.size, 1, none⟩ = some v1 ∧ w'.cell? ⟨w.heap.size, 2, none⟩ = some v2 ∧ w'.cell? ⟨w.heap.size, 3, none⟩ = some v3 ∧
    w'.frozen? ⟨w.heap.size, 0, none⟩ = false ∧ w'.frozen? ⟨w.heap.size, 1, none⟩ = false ∧ w'.frozen? ⟨w.heap.size, 2, none⟩ = false ∧ w'.frozen? ⟨w.heap.size, 3, none⟩ = false :=
  Go.Proofs.YtgjabbhgmecbbaaDoor.cells4 (b := w.heap.size) (h.heap0 (Go.heap_alloc_new w.drew _))
/-- An event of its own is put into a new box. -/
theorem BoxAt.fill {B : Nat} {w1 : World} {b : Nat} {c0 c1 c2 c3 : Value} {s : EvP} {e : Ev} (hb : w1.heap[b]? = some (.cells #[c0, c1, c2, c3] 25 (0, 0))) (hB : B ≤ b) (hn : EvNew B w1 s e) :
    BoxAt B ((((w1.setCell ⟨b, 0, none⟩ (.int .u8 e.v)).setCell ⟨b, 1, none⟩ (.int .u8 e.kind)).setCell ⟨b, 2, none⟩ (.slice s.qn e.nums.length s.cn)).setCell ⟨b, 3, none⟩ (.slice s.qt e.texts.length s.ct)) b s e ∧
    Fr (Only b) w1 ((((w1.setCell ⟨b, 0, none⟩ (.int .u8 e.v)).setCell ⟨b, 1, none⟩ (.int .u8 e.kind)).setCell ⟨b, 2, none⟩ (.slice s.qn e.nums.length s.cn)).setCell ⟨b, 3, none⟩ (.slice s.qt e.texts.length s.ct)) := by
  obtain ⟨h1, h2⟩ := store4 hb (.int .u8 e.v) (.int .u8 e.kind) (.slice s.qn e.nums.length s.cn) (.slice s.qt e.texts.length s.ct)
  exact ⟨⟨hB, h1, hn.only hb h2⟩, h2⟩
theorem Fr.setNew {w w' : World} (h : Fr No w w') {p : Addr} (hp : w.heap.size ≤ p.block) (u : Value) : Fr No w (w'.setCell p u) := h.setCell (.inr hp) u
theorem two_keep {W w' : World} {b : Nat} {v0 v1 v2 v3 : Value} (c0 : W.cell? ⟨b, 0, none⟩ = some v0) (c1 : W.cell? ⟨b, 1, none⟩ = some v1) (c2 : W.cell? ⟨b, 2, none⟩ = some v2) (c3 : W.cell? ⟨b, 3, none⟩ = some v3) (hF : Fr No W w') :
    Fr No W w' ∧ w'.cell? ⟨b, 0, none⟩ = some v0 ∧ w'.cell? ⟨b, 1, none⟩ = some v1 ∧ w'.cell? ⟨b, 2, none⟩ = some v2 ∧ w'.cell? ⟨b, 3, none⟩ = some v3 := ⟨hF, hF.cell0 c0, hF.cell0 c1, hF.cell0 c2, hF.cell0 c3⟩
set_option maxHeartbeats 4000000 in
set_option maxRecDepth 100000 in
theorem up_ok (s : EvP) (e : Ev) (w : World) (he : EvAt w s e) (hkt : KT w) (hm : mayS e = true) (hr : rulesIs e.v e.kind = true) :
    Calls Tryd.prog 19 #[evV s e] w (UpPost w (upS e, 0)) := by
  have ME := hid (fun w1 (h : Fr No w w1) => may_any s e w1 (he.fr h) (hkt.fr h))
  rw [hm] at ME
  have RE := hid (fun w1 (h : Fr No w w1) => rules_any e.v e.kind w1 he.v8 he.k8 (hkt.fr h))
  unfold RulesPost rulesR at RE
  rw [hr, if_pos rfl] at RE
  obtain ⟨hl7, hn7, ht1, hnr, htr⟩ := may_small hm
  have CT := hid (fun w1 (h : Fr No w w1) => cloneT s.qt e.texts s.ct w1 (he.texts.fr h) (by omega))
  have hrs := fun r (h : r ∈ rulesL e.v e.kind) => rules_small hr h
  rw [← hl7] at hrs
  have HRS := hid hrs
  have hup : (upS e) = ⟨e.v + 1, e.kind, upN (rulesL e.v e.kind) e.nums, e.texts⟩ := rfl
  rw [hup]
  have hrl : (rulesL e.v e.kind).length ≤ 7 := by rw [(rules_fact hr).2.2.2.1]; exact fieldsS_length _ _
  generalize rulesL e.v e.kind = rs at RE HRS hrl ⊢
  clear hrs hup
  unfold UpPost
  have HF0 : Fr No w ((w.alloc (.cells #[.int .u8 e.v, .int .u8 e.kind, .slice s.qn e.nums.length s.cn, .slice s.qt e.texts.length s.ct] 25)).alloc (.cells #[.int .u8 0, .int .u8 0, .slice none 0 0, .slice none 0 0] 25)) := ((Fr.refl w).alloc _).alloc _
  have g1 := Go.heap_alloc_new (w.alloc (.cells #[.int .u8 e.v, .int .u8 e.kind, .slice s.qn e.nums.length s.cn, .slice s.qt e.texts.length s.ct] 25)) (.cells #[.int .u8 0, .int .u8 0, .slice none 0 0, .slice none 0 0] 25)
  simp only [World.size_alloc] at g1
  have HG := hid g1
  clear g1
  have g0 : ((w.alloc (.cells #[.int .u8 e.v, .int .u8 e.kind, .slice s.qn e.nums.length s.cn, .slice s.qt e.texts.length s.ct] 25)).alloc (.cells #[.int .u8 0, .int .u8 0, .slice none 0 0, .slice none 0 0] 25)).heap[w.heap.size]? = some (.cells #[.int .u8 e.v, .int .u8 e.kind, .slice s.qn e.nums.length s.cn, .slice s.qt e.texts.length s.ct] 25 (0, 0)) := by
    rw [Below.heap_alloc _ _ _ (by simp)]; exact Go.heap_alloc_new _ _
  have HG0 := hid g0
  clear g0
  have hv2 := (rulesIs_range hr).1
  have hv : (e.v : Int) + 1 ≤ 255 := by omega
  have HM := hid hm
  have HR := hid hr
  have HL7 := hid hl7
  have HNR := hid hnr
  have HE := hid he
  clear hm hr hl7 hnr htr he hv2 hkt
  unfold evV at *
  go_enter Tryd.func19, Tryd.ntmps19
  go_upto_region 6 with (first
    | (go_at_call 24; (with_reducible refine (ME.out _ HF0).mono ?_); rintro e1 w1 ⟨rfl, hf1⟩; obtain ⟨c0, c1, c2, c3, _, _, _, _⟩ := Go.Proofs.YtgjabbhgmecbbaaDoor.cells4 (hf1.heap0 HG0.out))
    | (go_at_call 35; (with_reducible refine (RE.out _ (HF0.trans hf1)).mono ?_); rintro e2 w2 ⟨q2, p2, rfl, hR2, hf2⟩; replace hf1 := hf1.trans hf2; clear c0 c1 c2 c3; obtain ⟨c0, c1, c2, c3, _, _, _, _⟩ := Go.Proofs.YtgjabbhgmecbbaaDoor.cells4 (hf1.heap0 HG0.out)))
  have HW : Fr No w w2 := HF0.trans hf1
  have hRR := hR2
  have hwr : IntKind.u8.wrap ((e.v : Int) + 1) = ((e.v + 1 : Nat) : Int) := by rw [IntWalk.u8_in _ (by omega)]; omega
  go_cut [6] from 25 (fun x w' => Fr No w2 w' ∧ ∃ b s', x = .pointer (some ⟨b, 0, none⟩) ∧ BoxAt w2.heap.size w' b s' ⟨e.v + 1, e.kind, [], e.texts⟩)
  case first =>
    go_region_held3 (fun w' => Fr No w2 w' ∧ w'.cell? ⟨w.heap.size, 0, none⟩ = some (.int .u8 e.v) ∧ w'.cell? ⟨w.heap.size, 1, none⟩ = some (.int .u8 e.kind) ∧ w'.cell? ⟨w.heap.size, 2, none⟩ = some (.slice s.qn e.nums.length s.cn) ∧ w'.cell? ⟨w.heap.size, 3, none⟩ = some (.slice s.qt e.texts.length s.ct))
      ((go_split_ands; refine two_keep c0 c1 c2 c3 ?_; repeat (first | exact Fr.refl _ | assumption | refine Fr.drew ?_ | refine Fr.alloc ?_ _ | refine Fr.setNew ?_ (by first | exact Nat.le_refl _ | exact hF3.size) _)))
      (first | (go_at_call 30; (with_reducible refine (CT.out _ (HW.trans (by repeat (first | exact Fr.refl _ | assumption | refine Fr.drew ?_ | refine Fr.alloc ?_ _)))).mono ?_); rintro e3 w3 ⟨q3, p3, rfl, hr3, hf3⟩; have hF3 : Fr No w2 w3 := Fr.trans (by repeat (first | exact Fr.refl _ | assumption | refine Fr.drew ?_ | refine Fr.alloc ?_ _)) hf3; (first | (have hg3 := box_cells hf3; obtain ⟨k0, k1, k2, k3, f0, f1, f2, f3⟩ := hg3) | skip)))
    · have hB := BoxAt.made (w := w2) (s := ⟨none, 0, q3, p3⟩) (e := ⟨e.v + 1, e.kind, [], e.texts⟩) hF3 ⟨Rs.nil _ _ _ _, hr3.mono (Nat.le_refl _)⟩
      have HB := hid hB
      clear hB hr3
      go_wp2_with fail
      go_meet
      case rel => exact ⟨HB.out.2, _, _, rfl, HB.out.1⟩
    · have hB := BoxAt.fill (w1 := w3) (b := w2.heap.size) (B := w2.heap.size) (s := ⟨none, 0, q3, p3⟩) (e := ⟨e.v + 1, e.kind, [], e.texts⟩) (hf3.heap0 (Go.heap_alloc_new w2.drew _)) (Nat.le_refl _) ⟨Rs.nil _ _ _ _, hr3.mono (by simp)⟩
      have HB := hid hB
      clear hB hr3
      go_wp2_with fail
      go_meet
      case rel => exact ⟨hF3.newOnly (Nat.le_refl _) HB.out.2, _, _, rfl, HB.out.1⟩
  obtain ⟨h23, b, s', rfl, hB⟩ := hcut
  rename World => w4
  have HW4 : Fr No w w4 := HW.trans h23
  have C4 := hid (fun w5 (h : Fr No w2 w5) => (⟨h.cell0 c0, h.cell0 c1, h.cell0 c2, h.cell0 c3⟩ : _ ∧ _ ∧ _ ∧ _))
  have NU := hid (fun w5 (h : Fr No w2 w5) => HE.out.nums.fr (HW.trans h))
  have RR := hid (fun w5 (h : Fr No w2 w5) i r (hr : rs[i]? = some r) => (hRR.fr h).at_ hr)
  clear c0 c1 c2 c3 hRR hR2
  go_wp2_with fail
  go_loopw [36] (fun i wr => ∃ (m : Nat) (s2 : EvP), m ≤ rs.length ∧ i = .int .i64 m ∧ BoxAt w2.heap.size wr b s2 ⟨e.v + 1, e.kind, (upN rs e.nums).take m, e.texts⟩ ∧ Fr No w2 wr) (fun i _ => rs.length - (intOf i).toNat)
  case atStart => exact ⟨0, _, Nat.zero_le _, rfl, hB, h23⟩
  case round =>
    obtain ⟨m, s2, hm, rfl, hbx, hf⟩ := hrel
    by_cases hlt : m < rs.length
    · obtain ⟨r, hr⟩ : ∃ r, rs[m]? = some r := ⟨_, List.getElem?_eq_getElem hlt⟩
      obtain ⟨br, hq, r0, r1, r2⟩ := RR.out _ hf m r hr
      subst hq
      obtain ⟨b1, b2, b3, b4, b5, b6⟩ := HRS.out r (List.mem_of_getElem? hr)
      have hT : (upN rs e.nums).take (m + 1) = (upN rs e.nums).take m ++ [upNum e.nums r] := by
        have h1 : (upN rs e.nums)[m]? = some (upNum e.nums r) := by unfold upN; rw [List.getElem?_map, hr]; rfl
        have h2 := (List.getElem?_eq_some_iff.1 h1)
        rw [List.take_succ_eq_append_getElem h2.1, h2.2]
      have htl : ((upN rs e.nums).take m).length = m := by unfold upN; simp; omega
      generalize (upN rs e.nums).take m = L at hT hbx htl
      have HT := hid hT
      subst htl
      clear hT hr
      obtain ⟨k0, k1, k2, k3, f0, f1, f2, f3⟩ := hbx.cells4
      obtain ⟨d0, d1, d2, d3⟩ := C4.out _ hf
      obtain ⟨i0, hi, hz0, hz1, hz2⟩ := info_parts infoI64
      have blt := hbx.lt
      have blo := hbx.lo
      have i1 : (L.length : Int) < (rs.length : Int) := by omega
      have i2 : (0 : Int) ≤ (L.length : Int) := by omega
      have i4 : (L.length : Int) + 1 ≤ 100 := by omega
      have HBX := hid hbx
      clear hbx
      by_cases hfr : 0 ≤ r.fr
      · obtain ⟨j, hj⟩ := Int.eq_ofNat_of_zero_le hfr
        have hjl : j < e.nums.length := by omega
        obtain ⟨x, hx⟩ : ∃ x, e.nums[j]? = some x := ⟨_, List.getElem?_eq_getElem hjl⟩
        have hN : upNum e.nums r = r.plus + r.times * x := by unfold upNum; rw [if_pos hfr, hj]; simp [hx]
        obtain ⟨bn, on, hqn, kn⟩ := NU.out wr hf j (numV x) (by simp [hx])
        have hxr := HNR.out x (List.mem_of_getElem? hx)
        have m1 : 0 ≤ r.times * x := Int.mul_nonneg b3 hxr.1
        have m2 : r.times * x ≤ 100 * 1125899906842624 := Int.mul_le_mul b4 hxr.2 hxr.1 (by omega)
        have w1q : IntKind.i64.wrap (r.times * x) = r.times * x := IntWalk.i64_in _ (by omega)
        have w2q : IntKind.i64.wrap (r.plus + r.times * x) = r.plus + r.times * x := IntWalk.i64_in _ (by omega)
        have j1 : (j : Int) < (e.nums.length : Int) := by omega
        have j2 : (0 : Int) ≤ (j : Int) := by omega
        rw [hqn] at d2
        rw [hj] at r0
        rw [hN] at HT
        unfold numV at kn
        have wl : w.heap.size < wr.heap.size := World.block_lt_of_cell? wr _ d0
        have nl : bn < wr.heap.size := World.block_lt_of_cell? wr _ kn
        clear hN hfr hx hxr hj hqn b1 b2 b3 b4 b5 b6 m1 m2
        go_upto_region 12 with fail
        go_quiet (fail)

        go_wp2_with (first
          | (at_builtin; refine wpList_append_rt rfl _ _ 22 _ rfl w2.heap.size 2 i0 (.int .i64 0) 8 Tryd.underlying22 hi hz0 hz1 hz2 rfl _ (L.map numV) rfl ?c1 ?c2 _ 1 [numV (r.plus + r.times * x)] rfl ?c5 ?c3 ?c4 ?_))
        case c1 => exact HBX.out.new.nums.fr0 (w' := (((wr.alloc (.cells #[.int .i64 j, .int .i64 r.times, .int .i64 r.plus] 57)).drewN nq).alloc (.cells #[.int .i64 (r.plus + r.times * x)] 2))) (by repeat (first | exact Fr.refl _ | refine Fr.drew ?_ | refine Fr.drewN ?_ _ | refine Fr.alloc ?_ _))
        case c5 =>
          refine Src.ofSlice _ Tryd.underlying22 ⟨_, 0, none⟩ 1 1 [numV (r.plus + r.times * x)] rfl (fun jj u hu => ?_) (by intro u hu; simp at hu; subst hu; rfl)
          have h := cells_new ((wr.alloc (.cells #[.int .i64 j, .int .i64 r.times, .int .i64 r.plus] 57)).drewN nq) [numV (r.plus + r.times * x)] 2 jj u hu
          simp only [heap_drewN, World.size_alloc] at h
          exact h
        case c2 => have := hf.size; simp; omega
        case c3 => unfold maxLen; omega
        case c4 => omega
        intro v' wA hr' hfT
        have e9 : L.map numV ++ [numV (r.plus + r.times * x)] = (L ++ [r.plus + r.times * x]).map numV := by simp
        rw [e9] at hr'
        obtain ⟨q', cp', rfl⟩ := hr'.shape
        have hA : BoxAt w2.heap.size (((wr.alloc (.cells #[.int .i64 j, .int .i64 r.times, .int .i64 r.plus] 57)).drewN nq).alloc (.cells #[.int .i64 (r.plus + r.times * x)] 2)) b s2 _ := HBX.out.fr (by repeat (first | exact Fr.refl _ | refine Fr.drew ?_ | refine Fr.drewN ?_ _ | refine Fr.alloc ?_ _))
        have hS := hA.setN hfT (by simp) hr'
        obtain ⟨y0, y1, y2, y3, g0, g1, g2, g3⟩ := Go.Proofs.YtgjabbhgmecbbaaDoor.cells4 (hfT.heapT (by decide) hA.cells)
        have HS := hid hS
        have hFE : Fr No w2 wA := (hf.trans (b := wr) (c := (((wr.alloc (.cells #[.int .i64 j, .int .i64 r.times, .int .i64 r.plus] 57)).drewN nq).alloc (.cells #[.int .i64 (r.plus + r.times * x)] 2))) (by repeat (first | exact Fr.refl _ | refine Fr.drew ?_ | refine Fr.drewN ?_ _ | refine Fr.alloc ?_ _))).newT (Nat.le_refl _) hfT
        simp only [List.length_map, List.length_append, List.length_cons, List.length_nil, Nat.zero_add] at HS ⊢
        clear e9 hr' hfT hA hS k0 k1 k2 k3 f0 f1 f2 f3
        go_wp2_with fail
        go_roundw
        case rel => exact ⟨L.length + 1, _, by omega, by go_num, by rw [HT.out]; exact HS.out, hFE.newOnly blo ((Fr.refl _).set_only _ _)⟩
        case measure => simp [intOf]; omega
      · have hfd : decide ((0 : Int) ≤ r.fr) = false := by simpa using hfr
        have hN : upNum e.nums r = r.plus := by unfold upNum; rw [if_neg hfr]
        rw [hN] at HT
        clear hN hfr
        go_wp2_with (first
          | (at_builtin; refine wpList_append_rt rfl _ _ 22 _ rfl w2.heap.size 2 i0 (.int .i64 0) 8 Tryd.underlying22 hi hz0 hz1 hz2 rfl _ (L.map numV) rfl ?c1 ?c2 _ 1 [numV r.plus] rfl ?c5 ?c3 ?c4 ?_))
        case c1 => exact HBX.out.new.nums.fr0 (w' := ((wr.alloc (.cells #[.int .i64 r.fr, .int .i64 r.times, .int .i64 r.plus] 57)).alloc (.cells #[.int .i64 (r.plus)] 2))) (by repeat (first | exact Fr.refl _ | refine Fr.drew ?_ | refine Fr.drewN ?_ _ | refine Fr.alloc ?_ _))
        case c5 =>
          refine Src.ofSlice _ Tryd.underlying22 ⟨_, 0, none⟩ 1 1 [numV (r.plus)] rfl (fun jj u hu => ?_) (by intro u hu; simp at hu; subst hu; rfl)
          have h := cells_new (wr.alloc (.cells #[.int .i64 r.fr, .int .i64 r.times, .int .i64 r.plus] 57)) [numV (r.plus)] 2 jj u hu
          simp only [World.size_alloc] at h
          exact h
        case c2 => have := hf.size; simp; omega
        case c3 => unfold maxLen; omega
        case c4 => omega
        intro v' wA hr' hfT
        have e9 : L.map numV ++ [numV (r.plus)] = (L ++ [r.plus]).map numV := by simp
        rw [e9] at hr'
        obtain ⟨q', cp', rfl⟩ := hr'.shape
        have hA : BoxAt w2.heap.size ((wr.alloc (.cells #[.int .i64 r.fr, .int .i64 r.times, .int .i64 r.plus] 57)).alloc (.cells #[.int .i64 (r.plus)] 2)) b s2 _ := HBX.out.fr (by repeat (first | exact Fr.refl _ | refine Fr.drew ?_ | refine Fr.drewN ?_ _ | refine Fr.alloc ?_ _))
        have hS := hA.setN hfT (by simp) hr'
        obtain ⟨y0, y1, y2, y3, g0, g1, g2, g3⟩ := Go.Proofs.YtgjabbhgmecbbaaDoor.cells4 (hfT.heapT (by decide) hA.cells)
        have HS := hid hS
        have hFE : Fr No w2 wA := (hf.trans (b := wr) (c := ((wr.alloc (.cells #[.int .i64 r.fr, .int .i64 r.times, .int .i64 r.plus] 57)).alloc (.cells #[.int .i64 (r.plus)] 2))) (by repeat (first | exact Fr.refl _ | refine Fr.drew ?_ | refine Fr.drewN ?_ _ | refine Fr.alloc ?_ _))).newT (Nat.le_refl _) hfT
        simp only [List.length_map, List.length_append, List.length_cons, List.length_nil, Nat.zero_add] at HS ⊢
        clear e9 hr' hfT hA hS k0 k1 k2 k3 f0 f1 f2 f3
        go_wp2_with fail
        go_roundw
        case rel => exact ⟨L.length + 1, _, by omega, by go_num, by rw [HT.out]; exact HS.out, hFE.newOnly blo ((Fr.refl _).set_only _ _)⟩
        case measure => simp [intOf]; omega
    · have hd : decide (m < rs.length) = false := by simp; omega
      have hl : (upN rs e.nums).length ≤ m := by unfold upN; simp; omega
      have hl2 : (upN rs e.nums).take m = upN rs e.nums := List.take_of_length_le hl
      rw [hl2] at hbx
      obtain ⟨k0, k1, k2, k3, f0, f1, f2, f3⟩ := hbx.cells4
      have HBX := hid hbx
      have HGr := hid (hf.heap0 ((hf1.heap0 HG.out)))
      clear hl hl2 hlt hbx
      obtain ⟨z0, z1, z2, z3, y0, y1, y2, y3⟩ := Go.Proofs.YtgjabbhgmecbbaaDoor.cells4 HGr.out
      go_wp2_with fail
      have hst := BoxAt.fill (w1 := wr) (b := w.heap.size + 1) (B := w.heap.size) (s := s2) (e := ⟨e.v + 1, e.kind, upN rs e.nums, e.texts⟩) HGr.out (Nat.le_succ _) (HBX.out.new.mono HW.size)
      refine bodyPost_ret (results_row_tmp rfl _ _ (w.heap.size + 1) 25 _ (0, 0) _ (.int .i64 0) rfl hst.1.cells rfl Tryd.underlying25 rfl (by kernel_rfl)) rfl ⟨s2, rfl, hst.1.new, (HW.trans hf).newOnly (Nat.le_succ _) hst.2⟩
/-- Up, whatever event it is given. -/
theorem up_any (s : EvP) (e : Ev) (w : World) (he : EvAt w s e) (hkt : KT w) : Calls Tryd.prog 19 #[evV s e] w (UpPost w (upR e)) := by
  unfold upR
  rcases hm : mayS e with _ | _
  · rw [if_neg (by simp)]
    exact up_form s e w he hkt hm
  · rw [if_pos rfl]
    rcases hr : rulesIs e.v e.kind with _ | _
    · rw [if_neg (by simp)]
      exact up_version s e w he hkt hm hr
    · rw [if_pos rfl]
      exact up_ok s e w he hkt hm hr
end Go.Proofs.YtgjabbhgmecbbaaDoor
