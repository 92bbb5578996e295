/-
  soukref07.Same: are two lists the same? No statement of the seat is proved here.
-/
import Derived.Test.YtgjabbhgmecbbaaDoorLowest
import Derived.Test.YtgjabbhgmecbbaaDoorRSame
import Derived.Deep.RegionHeld3
namespace Go.Proofs.YtgjabbhgmecbbaaDoor
open Go.RowKit

theorem sameS_true {a b : Ev} (h : sameS a b = true) : a = b := by
  unfold sameS at h
  simp only [Bool.and_eq_true, decide_eq_true_eq] at h
  obtain ⟨h1, h2, h3, h4⟩ := h
  rcases a with ⟨v, k, ns, ts⟩
  rcases b with ⟨v', k', ns', ts'⟩
  simp only at h1 h2 h3 h4
  subst h1 h2 h3 h4
  rfl
theorem sameS_refl (a : Ev) : sameS a a = true := by unfold sameS; simp
def sameL (l1 l2 : List (EvP × Ev)) : Bool := decide (l1.map Prod.snd = l2.map Prod.snd)
theorem eight_keep {W w' : World} {a b : Nat} {i j k l m n o p : Nat} {v0 v1 v2 v3 x0 x1 x2 x3 : Value} (c0 : W.cell? ⟨a, i, none⟩ = some v0) (c1 : W.cell? ⟨a, j, none⟩ = some v1) (c2 : W.cell? ⟨a, k, none⟩ = some v2) (c3 : W.cell? ⟨a, l, none⟩ = some v3)
    (d0 : W.cell? ⟨b, m, none⟩ = some x0) (d1 : W.cell? ⟨b, n, none⟩ = some x1) (d2 : W.cell? ⟨b, o, none⟩ = some x2) (d3 : W.cell? ⟨b, p, none⟩ = some x3) (hF : Fr No W w') :
    Fr No W w' ∧ w'.cell? ⟨a, i, none⟩ = some v0 ∧ w'.cell? ⟨a, j, none⟩ = some v1 ∧ w'.cell? ⟨a, k, none⟩ = some v2 ∧ w'.cell? ⟨a, l, none⟩ = some v3 ∧ w'.cell? ⟨b, m, none⟩ = some x0 ∧ w'.cell? ⟨b, n, none⟩ = some x1 ∧ w'.cell? ⟨b, o, none⟩ = some x2 ∧ w'.cell? ⟨b, p, none⟩ = some x3 :=
  ⟨hF, hF.cell0 c0, hF.cell0 c1, hF.cell0 c2, hF.cell0 c3, hF.cell0 d0, hF.cell0 d1, hF.cell0 d2, hF.cell0 d3⟩

set_option maxHeartbeats 8000000 in
set_option maxRecDepth 100000 in
theorem rsameL_any (l1 l2 : List (EvP × Ev)) (q1 q2 : Option Addr) (p1 p2 : Nat) (w : World) (h1 : LsAt w q1 l1) (h2 : LsAt w q2 l2) (hn : l1.length ≤ 1000000) :
    Calls Tryd.prog 18 #[.slice q1 l1.length p1, .slice q2 l2.length p2] w fun en w' => en = .returned (.bool (sameL l1 l2)) ∧ Fr No w w' := by
  have A1 := hid (fun w1 (h : Fr No w w1) => h1.fr h)
  have A2 := hid (fun w1 (h : Fr No w w1) => h2.fr h)
  have HD := hid (show sameL l1 l2 = decide (l1.map Prod.snd = l2.map Prod.snd) from rfl)
  generalize sameL l1 l2 = R at HD ⊢
  clear h1 h2
  by_cases hl : l1.length = l2.length
  · have d0 : ((l1.length : Int) != (l2.length : Int)) = false := by simp [hl]
    have HL := hid hl
    clear hl
    go_enter Tryd.func18, Tryd.ntmps18
    go_wp2_with fail
    go_loopg [5] l1.length (fun k i wr => ∃ m : Nat, m ≤ l1.length ∧ l1.length ≤ m + k ∧ i = .int .i64 m ∧ Hid ((l1.take m).map Prod.snd = (l2.take m).map Prod.snd) ∧ Fr No w wr)
    case atStart => exact ⟨0, Nat.zero_le _, by omega, rfl, hid rfl, Fr.refl _⟩
    case round =>
      obtain ⟨m, hm, hk, rfl, HB, hf⟩ := hrel
      by_cases hlt : m < l1.length
      · obtain ⟨⟨s, e⟩, hp⟩ : ∃ p, l1[m]? = some p := ⟨_, List.getElem?_eq_getElem hlt⟩
        obtain ⟨⟨t, f⟩, hq⟩ : ∃ p, l2[m]? = some p := ⟨_, List.getElem?_eq_getElem (by have := HL.out; omega)⟩
        obtain ⟨hE, b, o, hq1, c0, c1, c2, c3⟩ := A1.out _ hf m s e hp
        obtain ⟨hF, g, z, hq2, d0', d1, d2, d3⟩ := A2.out _ hf m t f hq
        subst hq1 hq2
        have i1 : (m : Int) < (l1.length : Int) := by omega
        have i1' : (m : Int) < (l2.length : Int) := by have := HL.out; omega
        have i2 : (0 : Int) ≤ (m : Int) := by omega
        have i4 : (m : Int) + 1 ≤ 1000001 := by omega
        have ht1 : l1.take (m + 1) = l1.take m ++ [(s, e)] := by rw [List.take_succ_eq_append_getElem hlt, (List.getElem?_eq_some_iff.1 hp).2]
        have ht2 : l2.take (m + 1) = l2.take m ++ [(t, f)] := by rw [List.take_succ_eq_append_getElem (by have := HL.out; omega), (List.getElem?_eq_some_iff.1 hq).2]
        have RS := hid (fun w1 (h : Fr No wr w1) => refSame_any s t e f w1 (hE.fr h) (hF.fr h))
        have HT := hid (And.intro (And.intro hp hq) (And.intro ht1 ht2))
        clear hp hq ht1 ht2 hE hF
        generalize hS : sameS e f = S at RS
        have HS := hid hS
        clear hS
        generalize hT2 : (!S) = T
        have HT2 := hid hT2
        clear hT2
        unfold evV at RS
        go_upto_region 6 with fail
        go_cut [26] from 11 to 26 (fun x w' => x = .bool T ∧ Fr No wr w')
        case first =>
          go_region_held3 (fun w' => Fr No wr w' ∧ w'.cell? ⟨b, o + m * 4, none⟩ = some (.int .u8 e.v) ∧ w'.cell? ⟨b, o + m * 4 + 1, none⟩ = some (.int .u8 e.kind) ∧ w'.cell? ⟨b, o + m * 4 + 2, none⟩ = some (.slice s.qn e.nums.length s.cn) ∧ w'.cell? ⟨b, o + m * 4 + 3, none⟩ = some (.slice s.qt e.texts.length s.ct) ∧
              w'.cell? ⟨g, z + m * 4, none⟩ = some (.int .u8 f.v) ∧ w'.cell? ⟨g, z + m * 4 + 1, none⟩ = some (.int .u8 f.kind) ∧ w'.cell? ⟨g, z + m * 4 + 2, none⟩ = some (.slice t.qn f.nums.length t.cn) ∧ w'.cell? ⟨g, z + m * 4 + 3, none⟩ = some (.slice t.qt f.texts.length t.ct))
            ((go_split_ands; refine eight_keep c0 c1 c2 c3 d0' d1 d2 d3 ?_; repeat (first | exact Fr.refl _ | assumption | refine Fr.drew ?_)))
            ((go_at_call 17; (with_reducible refine (RS.out _ ((Fr.refl _).drew)).mono ?_); rintro e6 w6 ⟨rfl, hf6⟩; have hF6 : Fr No wr w6 := ((Fr.refl _).drew).trans hf6))
          go_wp2_with fail
          go_meet
          case rel => exact ⟨congrArg Value.bool HT2.out, hF6⟩
        obtain ⟨rfl, hfc⟩ := hcut
        rename World => w6
        have hf6 := hf.trans hfc
        clear c0 c1 c2 c3 d0' d1 d2 d3
        cases S
        · obtain rfl : true = T := HT2.out
          have HN : Hid (R = false) := hid (by
            rw [HD.out, decide_eq_false_iff_not]
            intro he
            have h1 := congrArg (fun l => l[m]?) he
            simp only [List.getElem?_map, HT.out.1.1, HT.out.1.2, Option.map_some, Option.some.injEq] at h1
            rw [h1, sameS_refl] at HS
            cases HS.out)
          go_wp2_with fail
          go_ret
          exact ⟨congrArg (fun z => Ending.returned (.bool z)) HN.out.symm, hf6⟩
        · obtain rfl : false = T := HT2.out
          have HY : Hid ((l1.take (m + 1)).map Prod.snd = (l2.take (m + 1)).map Prod.snd) := hid (by
            rw [HT.out.2.1, HT.out.2.2, List.map_append, List.map_append, HB.out]
            simp [sameS_true HS.out])
          go_wp2_with fail
          go_roundg (gk - 1)
          case measure => omega
          case rel => exact ⟨m + 1, by omega, by omega, by go_num, HY, hf6⟩
      · obtain rfl : m = l1.length := by omega
        have HY : Hid (R = true) := hid (by
          have h := HB.out
          rw [List.take_length, HL.out, List.take_length] at h
          rw [HD.out, h]; simp)
        go_wp2_with fail
        go_ret
        exact ⟨congrArg (fun z => Ending.returned (.bool z)) HY.out.symm, hf⟩
  · have d0 : ((l1.length : Int) != (l2.length : Int)) = true := by simp; omega
    have HN : Hid (R = false) := hid (by
      rw [HD.out, decide_eq_false_iff_not]
      intro he
      exact hl (by simpa using congrArg List.length he))
    clear hl
    go_enter Tryd.func18, Tryd.ntmps18
    go_wp2_with fail
    go_ret
    exact ⟨congrArg (fun z => Ending.returned (.bool z)) HN.out.symm, Fr.refl _⟩
end Go.Proofs.YtgjabbhgmecbbaaDoor
