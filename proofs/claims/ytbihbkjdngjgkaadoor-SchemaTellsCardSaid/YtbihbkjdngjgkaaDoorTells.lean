/-
  SchemaTells: the plain law and the walk.
-/
import Derived.Test.YtbihbkjdngjgkaaDoorAwake5
import Derived.Test.YtbihbkjdngjgkaaDoorPlace
import Derived.Test.YtbihbkjdngjgkaaDoorClasses
import Derived.Test.YtbihbkjdngjgkaaDoorKinds
import Derived.Test.YtbihbkjdngjgkaaDoorRFields
import Derived.Test.YtbihbkjdngjgkaaDoorRBound
import Derived.Test.YtbihbkjdngjgkaaDoorAft
import Derived.Deep.Cut
namespace Go.Proofs.YtbihbkjdngjgkaaDoor
open Go.RowKit

/-- How many kinds stand before k. -/
def atN (v k : Nat) : Nat := (kindsUpTo v (k - 1)).length
theorem kindsUpTo_more (v i : Nat) : ∀ d, ∃ r, kindsUpTo v (i + d) = kindsUpTo v i ++ r
  | 0 => ⟨[], by simp⟩
  | d + 1 => by
    obtain ⟨r, hr⟩ := kindsUpTo_more v i d
    rcases h : (fieldsS v (i + d + 1)).2.2 with _ | _
    · exact ⟨r, by rw [← Nat.add_assoc, kindsUpTo_no h, hr]⟩
    · exact ⟨r ++ [i + d + 1], by rw [← Nat.add_assoc, kindsUpTo_yes h, hr, List.append_assoc]⟩
theorem there_le {v k : Nat} (h : (fieldsS v k).2.2 = true) : 1 ≤ k ∧ k ≤ 23 := by
  by_cases hk : k = 0 ∨ 23 < k
  · rw [fieldsS_none v k hk] at h; cases h
  · omega
theorem atN_yes {v k : Nat} (h : (fieldsS v k).2.2 = true) : (kindsUpTo v 23)[atN v k]? = some k ∧ atN v (k + 1) = atN v k + 1 ∧ atN v k < (kindsUpTo v 23).length := by
  obtain ⟨h1, h2⟩ := there_le h
  obtain ⟨j, rfl⟩ : ∃ j, k = j + 1 := ⟨k - 1, by omega⟩
  have hy := kindsUpTo_yes h
  obtain ⟨r, hr⟩ := kindsUpTo_more v (j + 1) (23 - (j + 1))
  rw [show j + 1 + (23 - (j + 1)) = 23 by omega, hy] at hr
  have e : atN v (j + 1) = (kindsUpTo v j).length := rfl
  refine ⟨?_, ?_, ?_⟩
  · rw [hr, e, List.append_assoc, List.getElem?_append_right (Nat.le_refl _)]
    simp
  · show (kindsUpTo v (j + 1)).length = _
    rw [hy, e]; simp
  · rw [hr, e]; simp
theorem atN_no {v k : Nat} (h : (fieldsS v k).2.2 = false) : atN v (k + 1) = atN v k := by
  rcases k with _ | k
  · rfl
  · show (kindsUpTo v (k + 1)).length = (kindsUpTo v k).length
    rw [kindsUpTo_no h]
theorem atN_end (v : Nat) : atN v 256 = (kindsUpTo v 23).length := by
  have : ∀ d, kindsUpTo v (23 + d) = kindsUpTo v 23 := by
    intro d
    induction d with
    | zero => rfl
    | succ d ih =>
      rw [← Nat.add_assoc, kindsUpTo_no, ih]
      rw [fieldsS_none v _ (by omega)]
  exact congrArg List.length (this 232)
theorem atN_le (v k : Nat) : atN v k ≤ k := Nat.le_trans (kindsUpTo_length v (k - 1)) (Nat.sub_le _ _)

structure TellRel (W : World) (q : Option Addr) (K : List Nat) (a : Nat) (wr : World) : Prop where
  fr : Fr No W wr
  row : ∀ (j x : Nat), a ≤ j → K[j]? = some x → ∃ g cur, q = some ⟨g, 0, none⟩ ∧ W.heap.size ≤ g ∧ wr.heap[g]? = some (.cells cur 5 (0, 0)) ∧ cur[j]? = some (u8V x)
theorem TellRel.start {W wr : World} {q : Option Addr} {K : List Nat} {n cap : Nat} (hf : Fr No W wr) (h : Rs W.heap.size wr 5 (.slice q n cap) (K.map u8V)) : TellRel W q K 0 wr := by
  refine ⟨hf, fun j x _ hj => ?_⟩
  have hl := (List.getElem?_eq_some_iff.1 hj).1
  obtain ⟨b, cur, h1, h2, h3, h4⟩ := h.cell_at (i := j) (by simpa using hl)
  refine ⟨b, cur, h1, h2, h3, ?_⟩
  have h5 : (cur.toList.take (K.map u8V).length)[j]? = some (u8V x) := by rw [h4]; simp [hj]
  rw [List.getElem?_take_of_lt (by simpa using hl)] at h5
  simpa using h5
theorem TellRel.keep {W wr w' : World} {q : Option Addr} {K : List Nat} {a : Nat} (h : TellRel W q K a wr) (hf : Fr No wr w') : TellRel W q K a w' :=
  ⟨h.fr.trans hf, fun j x hj hx => by
    obtain ⟨g, cur, h1, h2, h3, h4⟩ := h.row j x hj hx
    exact ⟨g, cur, h1, h2, hf.heap0 h3, h4⟩⟩
theorem TellRel.next {W wr : World} {q : Option Addr} {K : List Nat} {a g : Nat} (h : TellRel W q K a wr) (hq : q = some ⟨g, 0, none⟩) (hg : W.heap.size ≤ g) (u : Value) : TellRel W q K (a + 1) (wr.setCell ⟨g, a, none⟩ u) := by
  refine ⟨h.fr.newOnly hg ((Fr.refl wr).set_only _ _), fun j x hj hx => ?_⟩
  obtain ⟨g', cur, h1, h2, h3, h4⟩ := h.row j x (by omega) hx
  obtain rfl : g = g' := by rw [hq] at h1; simpa using h1
  refine ⟨g, cur.setIfInBounds a u, hq, hg, heap_setCell_at u h3, ?_⟩
  rw [Array.getElem?_setIfInBounds, if_neg (by omega)]
  exact h4
theorem TellRel.at_ {W wr : World} {q : Option Addr} {K : List Nat} {a x : Nat} (h : TellRel W q K a wr) (hx : K[a]? = some x) :
    ∃ g, q = some ⟨g, 0, none⟩ ∧ W.heap.size ≤ g ∧ wr.cell? ⟨g, a, none⟩ = some (.int .u8 x) ∧ wr.frozen? ⟨g, a, none⟩ = false := by
  obtain ⟨g, cur, h1, h2, h3, h4⟩ := h.row a x (Nat.le_refl _) hx
  exact ⟨g, h1, h2, (cell_of_row wr g a cur _ (0, 0) h3).trans h4, frozen_of_row wr g _ cur _ h3⟩
theorem tbool_self (b : Bool) : (b == b) = true := by cases b <;> rfl
theorem tbool_ne (b : Bool) : (b != b) = false := by cases b <;> rfl

set_option maxHeartbeats 8000000 in
set_option maxRecDepth 100000 in
theorem schemaTells_any (v k c : Nat) (n : Int) (name : List UInt8) (w : World) (hv : v ≤ 255) (hk : k ≤ 255) (hkt : KT w) (hct : CT w) :
    Calls Tryd.prog 10 #[.int .u8 v, .int .u8 k, .int .u8 c, .int .i64 n, strV name] w fun e w' => e = .returned (.bool true) ∧ Fr No w w' := by
  have AW := hid (fun w1 (h : Fr No w w1) => awake5_any w1 (hkt.fr h) (hct.fr h))
  have HF0 : Fr No w w := Fr.refl w
  unfold strV
  by_cases hl : 300 < name.length
  · have d1 : decide ((300 : Int) < (name.length : Int)) = true := by simp; omega
    go_enter Tryd.func10, Tryd.ntmps10
    go_wp2_with (first | (go_at_call 12; refine (AW.out _ HF0).mono ?_; rintro e1 w1 ⟨rfl, hf⟩))
    go_ret
    exact ⟨rfl, hf⟩
  have d1 : decide ((300 : Int) < (name.length : Int)) = false := by simp; omega
  have RF := hid (rfields_any v k)
  have RB := hid (rbound_any v c)
  have SF := hid (fun w1 (h : Fr No w w1) => fields_any v k w1 hv hk (hkt.fr h))
  have CL := hid (fun (B : Nat) (L : Value) (w1 : World) (h : Res B w1 35 L ((fieldsS v k).1.map clsV)) => classes_any B L (fieldsS v k).1 (fieldsS v k).1 w1 (by have := fieldsS_length v k; omega) h)
  have KS := hid (fun w1 (h : Fr No w w1) => kinds_any v w1 hv (hkt.fr h))
  have RFK := hid (fun j => rfields_any v j)
  have SB := hid (bound_any v c)
  have KN := hid (fun w1 (h : Fr No w w1) => kind_any name w1 (hkt.fr h))
  have PL : Hid (∀ w1, Calls Tryd.prog 28 #[strV name, .bool false] w1 fun e w' => e = .returned (.int .u8 (placeOf kindsT name)) ∧ Fr No w1 w') := hid (fun w1 => place_any name false w1)
  have SFt := hid (fun w1 => fits_any v c n w1)
  have N1 := hid (fun w1 (h : Fr No w w1) => name_any k w1 hk (hkt.fr h))
  have N2 := hid (rname_any k hk)
  unfold RFieldsIs at RF
  unfold RBoundIs at RB
  unfold BoundIs at SB
  unfold RrnameIs at N2
  simp only [decide_true] at CL
  generalize fieldsS v k = x at RF SF CL
  obtain ⟨l, t, i⟩ := x
  have hft : fitsS v c n = ((boundS v c).2.2 && (decide ((boundS v c).1 ≤ n) && decide (n ≤ (boundS v c).2.1))) := rfl
  generalize fitsS v c n = FT at SFt hft
  generalize boundS v c = y at RB SB hft
  obtain ⟨lo, hi, is⟩ := y
  generalize placeOf kindsT name = N at KN PL
  generalize nameS k = z at N1 N2
  simp only at RF CL RB SB hft
  have bt := tbool_ne t
  have bi := tbool_ne i
  have HL := hid (fun j (h : (fieldsS v j).2.2 = true) => @atN_yes v j h)
  have HNO := hid (fun j (h : (fieldsS v j).2.2 = false) => @atN_no v j h)
  have HEND := hid (atN_end v)
  have HLE := hid (atN_le v)
  have hkl := kindsUpTo_length v 23
  generalize kindsUpTo v 23 = K at KS HL HEND hkl
  generalize atN v = A at HL HNO HEND HLE
  have HA0 : Hid (A 0 = 0) := hid (by have := HLE.out 0; omega)
  clear hl hkt hct
  unfold strV at *
  go_enter Tryd.func10, Tryd.ntmps10
  go_wp2_with (first
    | (go_at_call 37; (with_reducible refine (RF.out _).mono ?_); rintro e1 w1 ⟨rfl, rfl⟩)
    | (go_at_call 32; (with_reducible refine (RB.out _).mono ?_); rintro e1 w1 ⟨rfl, rfl⟩))
  go_loopw [17] (fun r wr => ∃ m : Nat, m ≤ 2 ∧ r = .int .i64 m ∧ Fr No w wr) (fun r _ => 2 - (intOf r).toNat)
  case atStart => exact ⟨0, Nat.zero_le _, rfl, Fr.refl _⟩
  case round =>
    obtain ⟨r, hr2, rfl, hF⟩ := hrel
    by_cases hlt : r < 2
    · have hd : decide ((r : Int) < 2) = true := by simp; omega
      go_wp2_with (first
        | (go_at_call 13; (with_reducible refine (SF.out _ hF).mono ?_); intro e2 w2 h2; obtain ⟨L, rfl, hr, hf⟩ := h2; obtain ⟨q1, cap1, rfl⟩ := hr.shape; simp only [List.length_map] at hr ⊢)
        | (go_at_call 26; (with_reducible refine (CL.out _ _ _ hr).mono ?_); rintro e3 w3 ⟨rfl, hf3⟩; have hF3 : Fr No w w3 := hF.trans (hf.trans' hf3 (fun i hi hx => by have hx : wr.heap.size ≤ i := hx; omega)); clear hr hf hf3)
        | (go_at_call 35; (with_reducible refine (KS.out _ hF3).mono ?_); rintro e4 w4 ⟨qk, capk, rfl, hrk, hf4⟩; have hTR := TellRel.start hf4 hrk; clear hrk))
      go_loopw [22, 23] (fun a j wr => ∃ m : Nat, m ≤ 256 ∧ a = .int .i64 (A m) ∧ j = .int .i64 m ∧ TellRel w3 qk K (A m) wr) (fun _ j _ => 256 - (intOf j).toNat)
      case atStart => exact ⟨0, Nat.zero_le _, by rw [HA0.out]; rfl, rfl, by rw [HA0.out]; exact hTR⟩
      case round =>
        clear hTR hf4
        obtain ⟨m, hm, rfl, rfl, hT⟩ := hrel
        by_cases hm2 : m < 256
        · have hd2 : decide ((m : Int) < 256) = true := by simp; omega
          have hw8 : IntKind.u8.wrap (m : Int) = (m : Int) := IntWalk.u8_in _ (by omega)
          have RM := hid (RFK.out m)
          unfold RFieldsIs at RM
          have Hy := HL.out m
          have Hn := HNO.out m
          generalize fieldsS v m = xm at RM Hy Hn
          obtain ⟨lm, tm, im⟩ := xm
          simp only at RM Hy Hn
          have hAm : A m ≤ 1000 := by have := HLE.out m; omega
          have i8 : (m : Int) + 1 ≤ 1000 := by omega
          cases im
          · have HNm := hid (Hn rfl)
            clear Hy Hn
            go_wp2_with (first | (go_at_call 37; (with_reducible refine (RM.out _).mono ?_); rintro e5 w5 ⟨rfl, rfl⟩))
            go_roundw
            case rel => exact ⟨m + 1, by omega, by rw [HNm.out], by go_num, by rw [HNm.out]; exact hT⟩
            case measure => simp [intOf]; omega
          · obtain ⟨hy1, hy2, hy3⟩ := Hy rfl
            obtain ⟨g, hq, hg, hc, hz⟩ := hT.at_ hy1
            have HT2 := hid (fun u => hT.next hq hg u)
            have HYm := hid hy2
            subst hq
            have i1 : (A m : Int) < (K.length : Int) := by omega
            have i2 : (0 : Int) ≤ (A m : Int) := by omega
            have hge : decide ((K.length : Int) ≤ (A m : Int)) = false := by simp; omega
            have hw64 : IntKind.i64.wrap (m : Int) = (m : Int) := IntWalk.i64_in _ (by omega)
            have hmm : ((m : Int) != (m : Int)) = false := by simp
            have i4 : (A m : Int) + 1 ≤ 2000 := by omega
            clear Hn hT hy1 hy2 hy3
            generalize A m = a at *
            go_wp2_with (first | (go_at_call 37; (with_reducible refine (RM.out _).mono ?_); rintro e5 w5 ⟨rfl, rfl⟩))
            go_roundw
            case rel => exact ⟨m + 1, by omega, by rw [HYm.out]; go_num, by go_num, by rw [HYm.out]; exact HT2.out _⟩
            case measure => simp [intOf]; omega
        · have hd2 : decide ((m : Int) < 256) = false := by simp; omega
          obtain rfl : m = 256 := by omega
          rw [HEND.out] at hT ⊢
          have hkk : ((K.length : Int) != (K.length : Int)) = false := by simp
          go_wp2_with fail
          go_roundw
          case rel => exact ⟨r + 1, by omega, by go_num, hF3.trans hT.fr⟩
          case measure => simp [intOf]; omega
    · have hd : decide ((r : Int) < 2) = false := by simp; omega
      go_upto_region 27 with (first
        | (go_at_call 16; (with_reducible refine (SB.out _).mono ?_); rintro e2 w2 ⟨rfl, rfl⟩)
        | (go_at_call 36; (with_reducible refine (KN.out _ hF).mono ?_); rintro e2 w2 ⟨rfl, hf2⟩)
        | (go_at_call 28; (with_reducible refine (PL.out _).mono ?_); rintro e3 w3 ⟨rfl, hf3⟩))
      have hF3 := hF.trans (hf2.trans hf3)
      have e1 : (lo == lo) = true := by simp
      have e2 : (hi == hi) = true := by simp
      have e3 : (is == is) = true := tbool_self is
      have ez : (z == z) = true := by simp
      have hz1 : (⟨z.toArray⟩ : ByteArray).toList = z := by simp
      have eN : ((N : Int) == (N : Int)) = true := by simp
      have hN : (decide (0 < N) = true ∧ decide ((0 : Int) < (N : Int)) = true) ∨ (decide (0 < N) = false ∧ decide ((0 : Int) < (N : Int)) = false) := by
        by_cases h : 0 < N
        · exact .inl ⟨by simpa using h, by simp; omega⟩
        · exact .inr ⟨by simpa using h, by simp; omega⟩
      have hC : (is = true ∧ decide (lo ≤ n) = true ∧ decide (n ≤ hi) = true ∧ FT = true) ∨ (is = true ∧ decide (lo ≤ n) = true ∧ decide (n ≤ hi) = false ∧ FT = false) ∨ (is = true ∧ decide (lo ≤ n) = false ∧ FT = false) ∨ (is = false ∧ FT = false) := by
        rw [hft]
        cases is <;> cases decide (lo ≤ n) <;> cases decide (n ≤ hi) <;> simp
      clear hft hF hf2 hf3 RF RB SF CL KS RFK SB KN PL HL HNO HEND HLE HA0 hkl
      rcases hN with ⟨n1, n2⟩ | ⟨n1, n2⟩ <;> rcases hC with ⟨rfl, g1, g2, rfl⟩ | ⟨rfl, g1, g2, rfl⟩ | ⟨rfl, g1, rfl⟩ | ⟨rfl, rfl⟩
      all_goals
        rw [n1]
        go_wp2_with (first
          | (go_at_call 17; (with_reducible refine (SFt.out _).mono ?_); rintro e4 w4 ⟨rfl, rfl⟩)
          | (go_at_call 33; (with_reducible refine (N1.out _ hF3).mono ?_); rintro e4 w4 ⟨rfl, hf4⟩)
          | (go_at_call 34; (with_reducible refine (N2.out _).mono ?_); rintro e5 w5 ⟨rfl, hf5⟩)
          | (go_at_call 12; (with_reducible refine (AW.out _ (hF3.trans (hf4.trans hf5))).mono ?_); rintro e6 w6 ⟨rfl, hf6⟩))
        go_ret
        exact ⟨by first | rfl | simp, hF3.trans ((hf4.trans hf5).trans hf6)⟩
end Go.Proofs.YtbihbkjdngjgkaaDoor
