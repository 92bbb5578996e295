/-
  SchemaGrows: the plain law and the walk.
-/
import Derived.Test.YtjbfpepcmhjfaaaDoorAwake5
import Derived.Test.YtjbfpepcmhjfaaaDoorRFields
import Derived.BigQuiet
namespace Go.Proofs.YtjbfpepcmhjfaaaDoor
open Go.RowKit

def matchStep (l : List UInt8) (a : Nat) (c : UInt8) : Nat := if l[a]? = some c then a + 1 else a
def matchN (l m : List UInt8) : Nat := m.foldl (matchStep l) 0
theorem matchN_snoc (l m : List UInt8) (c : UInt8) : matchN l (m ++ [c]) = matchStep l (matchN l m) c := by unfold matchN; rw [List.foldl_append]; rfl
theorem matchN_le (l : List UInt8) : ∀ (m : List UInt8) (a : Nat), a ≤ l.length → m.foldl (matchStep l) a ≤ l.length
  | [], a, h => h
  | c :: m, a, h => matchN_le l m _ (by
    unfold matchStep
    split
    · rename_i e
      have := (List.getElem?_eq_some_iff.1 e).1
      omega
    · exact h)
def growsB (v k : Nat) : Bool :=
  !(fieldsS v k).2.2 || ((fieldsS (v + 1) k).2.2 && ((fieldsS (v + 1) k).2.1 == (fieldsS v k).2.1 && (decide (matchN (fieldsS v k).1 (fieldsS (v + 1) k).1 = (fieldsS v k).1.length) && decide ((fieldsS (v + 1) k).1.length ≤ (fieldsS v k).1.length + 1))))
theorem grows_all : ((List.range 24).all fun k => growsB 1 k && growsB 2 k) = true := by decide +kernel
theorem toldS_not (r : RowT) (v : Nat) (h : (toldS r v).2.2 = false) : toldS r v = ([], false, false) := by
  unfold toldS at h ⊢
  split
  · rfl
  · rename_i h1
    rw [if_neg h1] at h
    split
    · rfl
    · rename_i h2
      rw [if_neg h2] at h
      cases h
theorem fieldsS_is {v k : Nat} (h : (fieldsS v k).2.2 = true) : 1 ≤ v ∧ v ≤ 3 ∧ 1 ≤ k ∧ k ≤ 23 := by
  refine ⟨?_, ?_, ?_, ?_⟩ <;> rcases Nat.lt_or_ge 0 1 with _ | _ <;> (apply Classical.byContradiction; intro hc)
  · rw [fieldsS_out v k (by omega)] at h; cases h
  · cases ‹1 ≤ 0›
  · rw [fieldsS_out v k (by omega)] at h; cases h
  · cases ‹1 ≤ 0›
  · rw [fieldsS_none v k (by omega)] at h; cases h
  · cases ‹1 ≤ 0›
  · rw [fieldsS_none v k (by omega)] at h; cases h
  · cases ‹1 ≤ 0›
theorem grows_fact {v k : Nat} (h : (fieldsS v k).2.2 = true) (h3 : v < 3) : (fieldsS (v + 1) k).2.2 = true ∧ (fieldsS (v + 1) k).2.1 = (fieldsS v k).2.1 ∧
    matchN (fieldsS v k).1 (fieldsS (v + 1) k).1 = (fieldsS v k).1.length ∧ (fieldsS (v + 1) k).1.length ≤ (fieldsS v k).1.length + 1 := by
  obtain ⟨h1, _, _, hk⟩ := fieldsS_is h
  have hg := List.all_eq_true.1 grows_all k (List.mem_range.2 (by omega))
  rw [Bool.and_eq_true] at hg
  have : growsB v k = true := by
    have : v = 1 ∨ v = 2 := by omega
    rcases this with rfl | rfl
    · exact hg.1
    · exact hg.2
  unfold growsB at this
  rw [h] at this
  simpa using this

set_option maxHeartbeats 4000000 in
set_option maxRecDepth 100000 in
theorem schemaGrows_any (v k : Nat) (w : World) (hv : v ≤ 255) (hk : k ≤ 255) (hkt : KT w) (hct : CT w) :
    Calls Tryd.prog 3 #[.int .u8 v, .int .u8 k] w fun e w' => e = .returned (.bool true) ∧ Fr No w w' := by
  have AW := hid (awake5_any w hkt hct)
  have F1 := hid (fun w1 (h : Fr No w w1) => fields_any v k w1 hv hk (hkt.fr h))
  cases his : (fieldsS v k).2.2 with
  | false =>
    have e := toldS_not _ _ his
    rw [show toldS (eventT k) v = fieldsS v k from rfl] at e
    rw [e] at F1
    clear e his hkt hct
    by_cases h3 : v ≤ 3
    · have d3 : (v : Int) ≤ 3 := by omega
      have d3' : decide ((v : Int) ≤ 3) = true := by simp; omega
      go_enter Tryd.func3, Tryd.ntmps3
      go_wp2_with (first
        | (go_at_call 29; refine AW.out.mono ?_; rintro e1 w1 ⟨rfl, hF⟩)
        | (go_at_call 30; refine (F1.out _ hF).mono ?_; intro e1 w2 h1; obtain ⟨L1, rfl, hr1, hf⟩ := h1; obtain ⟨q1, p1, rfl, _⟩ := hr1.at'; clear hr1; simp only [List.length_map, List.length_nil]))
      go_ret
      exact ⟨by first | rfl | simp, hF.trans hf⟩
    · have d3' : decide ((v : Int) ≤ 3) = false := by simp; omega
      go_enter Tryd.func3, Tryd.ntmps3
      go_wp2_with (first
        | (go_at_call 29; refine AW.out.mono ?_; rintro e1 w1 ⟨rfl, hF⟩)
        | (go_at_call 30; refine (F1.out _ hF).mono ?_; intro e1 w2 h1; obtain ⟨L1, rfl, hr1, hf⟩ := h1; obtain ⟨q1, p1, rfl, _⟩ := hr1.at'; clear hr1; simp only [List.length_map, List.length_nil]))
      go_ret
      exact ⟨by first | rfl | simp, hF.trans hf⟩
  | true =>
    obtain ⟨b1, b2, _, _⟩ := fieldsS_is his
    by_cases h3 : v < 3
    · obtain ⟨g1, g2, g3, g4⟩ := grows_fact his h3
      have F2 : Hid (∀ w1, Fr No w w1 → Calls Tryd.prog 30 #[.int .u8 ((v : Int) + 1), .int .u8 k] w1 (ToldPost w1 (fieldsS (v + 1) k))) := hid (fun w1 h => fields_any (v + 1) k w1 (by omega) hk (hkt.fr h))
      have l1 := fieldsS_length v k
      have l2 := fieldsS_length (v + 1) k
      generalize fieldsS v k = x at *
      generalize fieldsS (v + 1) k = y at *
      obtain ⟨l, t, i⟩ := x
      obtain ⟨m, t2, i2⟩ := y
      simp only at his g1 g2 g3 g4 l1 l2
      subst his g1 g2
      have hge : decide ((3 : Int) ≤ (v : Int)) = false := by simp; omega
      have hvb : (v : Int) + 1 ≤ 255 := by omega
      have hbne : (t2 != t2) = false := by simp
      have G3 := hid g3
      have G4 := hid g4
      clear g3 g4 hkt hct
      go_enter Tryd.func3, Tryd.ntmps3
      cases t2
      all_goals
        go_wp2_with (first
          | (go_at_call 29; refine AW.out.mono ?_; rintro e1 w1 ⟨rfl, hF⟩)
          | (go_at_call 30; (with_reducible refine (F1.out _ hF).mono ?_); intro e1 w2 h1; obtain ⟨L1, rfl, hr1, hf1⟩ := h1; replace hF := hF.trans hf1; have s1 := hr1.at'; obtain ⟨q1, p1, rfl, s1⟩ := s1; clear hr1; simp only [List.length_map])
          | (go_at_call 30; (with_reducible refine (F2.out _ hF).mono ?_); intro e1 w3 h1; obtain ⟨L2, rfl, hr2, hf2⟩ := h1; replace hF := hF.trans hf2; replace s1 := s1.fr hf2; have s2 := hr2.at'; obtain ⟨q2, p2, rfl, s2⟩ := s2; clear hr2; simp only [List.length_map]))
        have S1 := hid s1
        have S2 := hid s2
        clear s1 s2
        go_loopw [11, 12] (fun a c wr => ∃ i nq : Nat, i ≤ m.length ∧ c = .int .i64 i ∧ a = .int .i64 (matchN l (m.take i)) ∧ wr = w3.drewN nq) (fun _ c _ => m.length - (intOf c).toNat)
        case atStart => exact ⟨0, 0, Nat.zero_le _, rfl, rfl, rfl⟩
        case round =>
          obtain ⟨i, m0, hi, rfl, rfl, rfl⟩ := hrel
          have hle : matchN l (m.take i) ≤ l.length := matchN_le l _ 0 (Nat.zero_le _)
          by_cases hlt : i < m.length
          · have hd : decide ((i : Int) < (m.length : Int)) = true := by simp; omega
            obtain ⟨c, hc⟩ : ∃ c, m[i]? = some c := ⟨_, List.getElem?_eq_getElem hlt⟩
            obtain ⟨b2, o2, rfl, k2⟩ := S2.out i (clsV c) (by simp [hc])
            unfold clsV at k2
            have HN : Hid (matchN l (m.take (i + 1)) = matchStep l (matchN l (m.take i)) c) := hid (by
              rw [List.take_succ_eq_append_getElem hlt, (List.getElem?_eq_some_iff.1 hc).2, matchN_snoc])
            generalize matchN l (m.take i) = a at hle HN
            have i2 : (i : Int) < (m.length : Int) := by omega
            have i3 : (0 : Int) ≤ (i : Int) := by omega
            have i4 : (i : Int) + 1 ≤ 100 := by omega
            have a4 : (a : Int) + 1 ≤ 100 := by omega
            clear hc
            by_cases ha : a < l.length
            · have da : decide ((a : Int) < (l.length : Int)) = true := by simp; omega
              have a2 : (a : Int) < (l.length : Int) := by omega
              have a3 : (0 : Int) ≤ (a : Int) := by omega
              obtain ⟨d, hd1⟩ : ∃ d, l[a]? = some d := ⟨_, List.getElem?_eq_getElem ha⟩
              obtain ⟨b1, o1, rfl, k1⟩ := S1.out a (clsV d) (by simp [hd1])
              unfold clsV at k1
              by_cases hcd : d = c
              · have hbb : ((d.toNat : Int) == (c.toNat : Int)) = true := by simp [hcd]
                have HM : Hid (matchStep l a c = a + 1) := hid (by unfold matchStep; rw [hd1, hcd, if_pos rfl])
                clear hcd hd1
                go_wp2_with fail
                go_quiet (fail)
                go_wp2_with fail
                go_roundw
                case rel => exact ⟨i + 1, m0 + nq, by omega, by go_num, by rw [HN.out, HM.out]; go_num, by first | rfl | simp⟩
                case measure => simp [intOf]; omega
              · have hbb : ((d.toNat : Int) == (c.toNat : Int)) = false := by
                  rw [beq_eq_false_iff_ne]
                  intro e
                  exact hcd (UInt8.toNat_inj.1 (by exact_mod_cast e))
                have HM : Hid (matchStep l a c = a) := hid (by unfold matchStep; rw [hd1, if_neg (fun e => hcd (Option.some.inj e))])
                clear hcd hd1
                go_wp2_with fail
                go_quiet (fail)
                go_wp2_with fail
                go_roundw
                case rel => exact ⟨i + 1, m0 + nq, by omega, by go_num, by rw [HN.out, HM.out], by first | rfl | simp⟩
                case measure => simp [intOf]; omega
            · have da : decide ((a : Int) < (l.length : Int)) = false := by simp; omega
              have HM : Hid (matchStep l a c = a) := hid (by unfold matchStep; rw [List.getElem?_eq_none (by omega), if_neg (by simp)])
              go_wp2_with fail
              go_quiet (fail)
              go_wp2_with fail
              go_roundw
              case rel => exact ⟨i + 1, m0 + nq, by omega, by go_num, by rw [HN.out, HM.out], by first | rfl | simp⟩
              case measure => simp [intOf]; omega
          · have hd : decide ((i : Int) < (m.length : Int)) = false := by simp; omega
            have e : matchN l (m.take i) = l.length := by rw [List.take_of_length_le (by omega)]; exact G3.out
            rw [e]
            have hb2 : (m.length : Int) ≤ (l.length : Int) + 1 := by have := G4.out; omega
            clear e
            go_wp2_with fail
            go_ret
            exact ⟨by first | rfl | simp, hF.drewN _⟩
    · have hge : decide ((3 : Int) ≤ (v : Int)) = true := by simp; omega
      have d3 : decide ((v : Int) ≤ 3) = true := by simp; omega
      generalize fieldsS v k = x at *
      obtain ⟨l, t, i⟩ := x
      simp only at his
      subst his
      clear hkt hct
      go_enter Tryd.func3, Tryd.ntmps3
      go_wp2_with (first
        | (go_at_call 29; refine AW.out.mono ?_; rintro e1 w1 ⟨rfl, hF⟩)
        | (go_at_call 30; refine (F1.out _ hF).mono ?_; intro e1 w2 h1; obtain ⟨L1, rfl, hr1, hf⟩ := h1; obtain ⟨q1, p1, rfl, _⟩ := hr1.at'; clear hr1; simp only [List.length_map]))
      go_ret
      exact ⟨by first | rfl | simp, hF.trans hf⟩
end Go.Proofs.YtjbfpepcmhjfaaaDoor
