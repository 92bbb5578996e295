/-
  BatchReads: the walk. No statement of the seat is proved here.
-/
import Derived.Test.YtnmfmedoocnofaaDoorBWorks
namespace Go.Proofs.YtnmfmedoocnofaaDoor
open Go.RowKit

/-- A row of events of which the first ones are written over. -/
structure Rest (w : World) (v : Value) (l : List (EvP × Ev)) (j : Nat) : Prop where
  own : Own w 34 4 v l.length (l.flatMap evC)
  ap : ∀ (i j : Nat) (p p' : EvP × Ev), i < j → l[i]? = some p → l[j]? = some p' → ∀ k, inB p k → ¬ inB p' k
  evs : ∀ i p, j ≤ i → l[i]? = some p → EvAt w p.1 p.2 ∧ EvHas w p.1 p.2
theorem LsRow.rest {B : Nat} {w : World} {v : Value} {l : List (EvP × Ev)} (h : LsRow B w v l) (hm : ∀ p, p ∈ l → mayS p.2 = true) : Rest w v l 0 :=
  ⟨h.own, h.ap, fun i p _ hi => by
    have hp := List.mem_of_getElem? hi
    exact ⟨(h.evs p hp).may (hm p hp) (may_kind (hm p hp)), (h.evs p hp).has⟩⟩
theorem Rest.fr {w w' : World} {v : Value} {l : List (EvP × Ev)} {j : Nat} (h : Rest w v l j) (hf : Fr No w w') : Rest w' v l j :=
  ⟨h.own.fr hf (fun _ _ => id), h.ap, fun i p hj hi => ⟨(h.evs i p hj hi).1.fr hf, (h.evs i p hj hi).2.fr hf⟩⟩
theorem Rest.next {w w' : World} {v : Value} {l : List (EvP × Ev)} {j : Nat} {p : EvP × Ev} (h : Rest w v l j) (hp : l[j]? = some p) (hf : Fr (inB p) w w') : Rest w' v l (j + 1) := by
  have hh := (h.evs j p (Nat.le_refl _) hp).2
  refine ⟨h.own.fr hf (fun k hk hb => ?_), h.ap, fun i p' hj hi => ?_⟩
  · obtain ⟨cur, t, h1, h2⟩ := hh.inB hb
    rcases h.own.2 with ⟨rfl, _⟩ | ⟨g, cap, cur', rfl, _, hg, _⟩
    · cases hk
    · obtain rfl : g = k := by simpa [Value.ownBlock] using hk
      rw [hg] at h1
      simp at h1
      exact h2 h1.2.symm
  · have hap : ∀ k, inB p' k → ¬ inB p k := fun k hk hk' => h.ap j i p p' (by omega) hp hi k hk' hk
    obtain ⟨k1, k2⟩ := h.evs i p' (by omega) hi
    exact ⟨k1.frX hf hap, k2.frX hf hap⟩
theorem Rest.cells {w : World} {q : Option Addr} {n cap : Nat} {l : List (EvP × Ev)} {j : Nat} (h : Rest w (.slice q n cap) l j) {i : Nat} {s : EvP} {e : Ev} (hr : l[i]? = some (s, e)) :
    ∃ b cur, q = some ⟨b, 0, none⟩ ∧ w.heap[b]? = some (.cells cur 34 (0, 0)) ∧ w.cell? ⟨b, 0 + i * 4, none⟩ = some (.int .u8 e.v) ∧ w.cell? ⟨b, 0 + i * 4 + 1, none⟩ = some (.int .u8 e.kind) ∧
    w.cell? ⟨b, 0 + i * 4 + 2, none⟩ = some (.slice s.qn e.nums.length s.cn) ∧ w.cell? ⟨b, 0 + i * 4 + 3, none⟩ = some (.slice s.qt e.texts.length s.ct) := by
  have hi := (List.getElem?_eq_some_iff.1 hr).1
  rcases h.own.2 with ⟨h1, h2⟩ | ⟨g, cap', cur, h1, _, hg, h3, h4, h5, h6⟩
  · omega
  · have hq : q = some ⟨g, 0, none⟩ := by injection h1
    have hc := h.own.cells (g := g) (by rw [hq]; rfl)
    have key : ∀ (l : List (EvP × Ev)) (i : Nat) (r : EvP × Ev), l[i]? = some r → ∀ j, j < 4 → (l.flatMap evC)[i * 4 + j]? = (evC r)[j]? := by
      intro l
      induction l with
      | nil => intro i r h; simp at h
      | cons x l ih =>
        intro i r h j hj
        have hx : (evC x).length = 4 := rfl
        rcases i with _ | i
        · simp only [List.getElem?_cons_zero, Option.some.injEq] at h
          subst h
          rw [List.flatMap_cons, List.getElem?_append_left (by omega)]
          simp
        · rw [List.flatMap_cons, List.getElem?_append_right (by omega), hx, show (i + 1) * 4 + j - 4 = i * 4 + j by omega]
          exact ih i r (by simpa using h) j hj
    have g0 := hc (i * 4 + 0) (.int .u8 e.v) (by rw [key l i _ hr 0 (by decide)]; rfl)
    have g1 := hc (i * 4 + 1) (.int .u8 e.kind) (by rw [key l i _ hr 1 (by decide)]; rfl)
    have g2 := hc (i * 4 + 2) (.slice s.qn e.nums.length s.cn) (by rw [key l i _ hr 2 (by decide)]; rfl)
    have g3 := hc (i * 4 + 3) (.slice s.qt e.texts.length s.ct) (by rw [key l i _ hr 3 (by decide)]; rfl)
    rw [Go.WideShapes.add_plain] at g0 g1 g2 g3
    exact ⟨g, cur, hq, hg, g0, g1, g2, g3⟩

theorem dec_mays (s : List UInt8) : ∀ e, e ∈ (decL s).1 → mayS e = true := by
  intro e he
  by_cases h : (decL s).2 = 0
  · exact (dec_ok h).2 e he
  · rw [dec_err h] at he; cases he
theorem dec_len (s : List UInt8) : (decL s).1.length ≤ 40 := by
  by_cases h : (decL s).2 = 0
  · exact (dec_ok h).1
  · rw [dec_err h]; simp

set_option maxHeartbeats 16000000 in
set_option maxRecDepth 100000 in
theorem breads_any (s : List UInt8) (w : World) (hkt : KT w) :
    Calls Tryd.prog 3 #[strV s] w fun en w' => en = .returned (.bool true) ∧ Fr No w w' := by
  have WK := hid (fun w1 (h : Fr No w w1) => works8_any w1 (hkt.fr h))
  by_cases hs : s.length ≤ 5000
  · have dl : decide ((5000 : Int) < (s.length : Int)) = false := by simp; omega
    have NE := hid (fun w1 (h : Fr No w w1) => bnewest_any s w1 (hkt.fr h) (by omega))
    have RN := hid (fun w1 => rnewest8_any s w1 (by omega))
    have DE := hid (fun w1 (h : Fr No w w1) => bdecode_any s w1 (hkt.fr h) (by omega))
    have RD := hid (fun w1 => rdecode8_any s w1 (by omega))
    have SM := hid (fun (L M : List (EvP × Ev)) (q q' : Option Addr) (c c' : Nat) w1 (h : LsAt w1 q L) (h' : LsAt w1 q' M) (hl : L.length ≤ 40) (he : L.map Prod.snd = M.map Prod.snd) => (by
      have := same8_any L M q q' c c' w1 h h' (by omega)
      rw [decide_eq_true he] at this
      exact this : Calls Tryd.prog 14 #[.slice q L.length c, .slice q' M.length c'] w1 fun en w' => en = .returned (.bool true) ∧ Fr No w1 w'))
    have SP := hid (fun p e w1 (hh : EvHas w1 p e) (ha : EvAt w1 p e) => spoil_any p e w1 hh ha)
    have DM := hid (dec_mays s)
    have DL := hid (dec_len s)
    unfold DecLPost at RD
    generalize newL s = R at NE RN
    generalize decL s = D at DE RD DM DL
    obtain ⟨D, k⟩ := D
    simp only at DE RD DM DL
    have t1 : ((k : Int) != (k : Int)) = false := by simp
    clear hs hkt
    unfold strV at *
    go_enter Tryd.func3, Tryd.ntmps3
    go_upto_region 7 with (first
      | (go_at_call 10; (with_reducible refine (NE.out _ (Fr.refl w)).mono ?_); rintro e1 w1 ⟨rfl, hf1⟩)
      | (go_at_call 11; (with_reducible refine (RN.out _).mono ?_); rintro e2 w2 ⟨rfl, hf2⟩)
      | fail)
    have F2 := hf1.trans hf2
    clear NE RN hf1 hf2
    go_wp2_with fail
    go_loopg [7] 2 (fun g iv wr => ∃ m : Nat, iv = .int .i64 m ∧ m ≤ 2 ∧ 2 ≤ m + g ∧ Fr No w wr)
    case atStart => exact ⟨0, rfl, by omega, by omega, F2⟩
    case round =>
      obtain ⟨m, rfl, hm, hk, hf⟩ := hrel
      obtain ⟨go, hgo⟩ : ∃ g, g = gk := ⟨_, rfl⟩
      have HGO := hid hgo
      rw [← hgo] at hk
      clear hgo
      by_cases hlt : m < 2
      · have i1 : (m : Int) < 2 := by omega
        have i2 : (0 : Int) ≤ (m : Int) := by omega
        have i3 : (m : Int) + 1 ≤ 2 := by omega
        have D1 := hid (DE.out wr hf)
        go_upto_region 12 with (first
          | (go_at_call 12; (with_reducible refine D1.out.mono ?_); rintro e3 w3 ⟨L, q, c, rfl, hm3, hrow3, hf3⟩)
          | (go_at_call 13; (with_reducible refine (RD.out _).mono ?_); rintro e4 w4 ⟨M, q', c', rfl, hm4, hrow4, hf4⟩)
          | fail)
        have hLl : L.length ≤ 40 := by have := DL.out; rw [← hm3, List.length_map] at this; exact this
        have S1 := hid (SM.out L M q q' c c' w4 ((ls_may hrow3 (fun e he => DM.out e (by rw [← hm3]; exact he))).fr hf4) (ls_may hrow4 (fun e he => DM.out e (by rw [← hm4]; exact he))) hLl (hm3.trans hm4.symm))
        have HR := hid (fun w5 (h : Fr No w4 w5) => (hrow3.rest (fun p hp => DM.out p.2 (by rw [← hm3]; exact List.mem_map.2 ⟨p, hp, rfl⟩))).fr (hf4.trans h))
        have HEV := hid (fun p (hp : p ∈ L) (w5 : World) (h : Fr No wr w5) k (hk : inB p k) => (hrow3.evs p hp).inB hk)
        have F4 := hf3.trans hf4
        clear hm3 hm4 hrow3 hrow4 D1 hf3 hf4
        go_upto_region 14 with (first
          | (go_at_call 14; (with_reducible refine S1.out.mono ?_); rintro e5 w5 ⟨rfl, hf5⟩)
          | fail)
        have R5 := hid (HR.out _ hf5)
        have F5 := F4.trans hf5
        clear HR hf5 F4 S1
        go_wp2_with fail
        go_loopg [12] L.length (fun g iv wz => ∃ j : Nat, j ≤ L.length ∧ L.length ≤ j + g ∧ iv = .int .i64 j ∧ Hid (Rest wz (.slice q L.length c) L j) ∧ Fr No wr wz)
        case atStart => exact ⟨0, Nat.zero_le _, by omega, rfl, R5, F5⟩
        case round =>
          rename World => wz
          obtain ⟨j, hj, hkz, rfl, HRE, hfz⟩ := hrel
          by_cases hjl : j < L.length
          · obtain ⟨⟨sp, e⟩, hp⟩ : ∃ p, L[j]? = some p := ⟨_, List.getElem?_eq_getElem hjl⟩
            obtain ⟨b, cur, rfl, hg, c0, c1, c2, c3⟩ := HRE.out.cells hp
            rw [Nat.zero_add] at c0 c1 c2 c3
            obtain ⟨hA, hH⟩ := HRE.out.evs j _ (Nat.le_refl _) hp
            have j1 : (j : Int) < (L.length : Int) := by omega
            have j2 : (0 : Int) ≤ (j : Int) := by omega
            have j3 : (j : Int) + 1 ≤ 41 := by omega
            have SE := hid (SP.out sp e wz hH hA)
            have HP := hid hp
            have HMEM := hid (List.mem_of_getElem? hp)
            clear hp hA hH hg
            unfold evV at SE
            go_wp2_with (first
              | (go_at_call 15; (with_reducible refine SE.out.mono ?_); rintro e6 w6 ⟨rfl, hf6⟩)
              | fail)
            have hn6 : Fr No wr w6 := hfz.trans' hf6 (fun i hi hx => by
              have := (HEV.out _ HMEM.out wz hfz i hx).1
              omega)
            have hr6 := hid (HRE.out.next HP.out hf6)
            go_roundg (gk - 1)
            case measure => omega
            case rel => exact ⟨j + 1, by omega, by omega, by go_num, hr6, hn6⟩
          · obtain rfl : j = L.length := by omega
            go_wp2_with fail
            go_roundg (go - 1)
            case measure => have := HGO.out; omega
            case rel => exact ⟨m + 1, by go_num, by omega, by omega, hf.trans hfz⟩
      · obtain rfl : m = 2 := by omega
        have W1 := hid (WK.out _ hf)
        go_wp2_with (first
          | (go_at_call 9; (with_reducible refine W1.out.mono ?_); rintro e9 w9 ⟨rfl, hf9⟩)
          | fail)
        go_ret
        exact ⟨rfl, hf.trans hf9⟩
  · have dl : decide ((5000 : Int) < (s.length : Int)) = true := by simp; omega
    clear hs hkt
    unfold strV at *
    go_enter Tryd.func3, Tryd.ntmps3
    go_wp2_with (first
      | (go_at_call 9; (with_reducible refine (WK.out _ (Fr.refl w)).mono ?_); rintro e0 w0 ⟨rfl, hf0⟩)
      | fail)
    go_ret
    exact ⟨rfl, hf0⟩
end Go.Proofs.YtnmfmedoocnofaaDoor
