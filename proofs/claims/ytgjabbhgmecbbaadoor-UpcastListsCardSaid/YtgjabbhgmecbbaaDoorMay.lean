/-
  Whether an event may be: the contracts of schema's all and May.
-/
import Derived.Test.YtgjabbhgmecbbaaDoorFields
namespace Go.Proofs.YtgjabbhgmecbbaaDoor
open Go.RowKit

/-- Where an event's slices lie. -/
structure EvP where
  qn : Option Addr
  cn : Nat
  qt : Option Addr
  ct : Nat
def evV (s : EvP) (e : Ev) : Value := .agg #[.int .u8 e.v, .int .u8 e.kind, .slice s.qn e.nums.length s.cn, .slice s.qt e.texts.length s.ct]
structure EvAt (w : World) (s : EvP) (e : Ev) : Prop where
  v8 : e.v ≤ 255
  k8 : e.kind ≤ 255
  nums : SlAt w s.qn (e.nums.map numV)
  texts : SlAt w s.qt (e.texts.map strV)
  nl : e.nums.length ≤ 9223372036854775807
  tl : e.texts.length ≤ 9223372036854775807
  tx : ∀ s, s ∈ e.texts → s.length ≤ 9223372036854775807
  nr : ∀ n, n ∈ e.nums → -9223372036854775808 ≤ n ∧ n ≤ 9223372036854775807
theorem EvAt.fr {w w' : World} {s : EvP} {e : Ev} (h : EvAt w s e) (hf : Fr No w w') : EvAt w' s e := ⟨h.v8, h.k8, h.nums.fr hf, h.texts.fr hf, h.nl, h.tl, h.tx, h.nr⟩

theorem allS_ne {v : Nat} {l : List UInt8} {n : List Int} (h : l.length ≠ n.length) : allS v l n = false := by simp [allS, h]
theorem allS_bad {v : Nat} {l : List UInt8} {n : List Int} {i : Nat} {c : UInt8} {x : Int} (h1 : l[i]? = some c) (h2 : n[i]? = some x) (hf : fitsS v c.toNat x = false) : allS v l n = false := by
  unfold allS
  rw [Bool.and_eq_false_iff]
  right
  rw [List.all_eq_false]
  have : (l.zip n)[i]? = some (c, x) := by rw [List.getElem?_zip_eq_some]; exact ⟨h1, h2⟩
  exact ⟨(c, x), List.mem_of_getElem? this, by simp [hf]⟩
theorem allS_good {v : Nat} {l : List UInt8} {n : List Int} (h : l.length = n.length) (hf : ∀ (i : Nat) (c : UInt8) (x : Int), l[i]? = some c → n[i]? = some x → fitsS v c.toNat x = true) : allS v l n = true := by
  unfold allS
  simp only [h, decide_true, Bool.true_and, List.all_eq_true]
  intro p hp
  obtain ⟨i, hi⟩ := List.getElem?_of_mem hp
  obtain ⟨c, x⟩ := p
  rw [List.getElem?_zip_eq_some] at hi
  exact hf i c x hi.1 hi.2

set_option maxHeartbeats 1000000 in
theorem all_any (v : Nat) (l : List UInt8) (n : List Int) (ql : Option Addr) (cl : Nat) (qn : Option Addr) (cn : Nat) (w : World) (hl : l.length ≤ 1000) (_hn : n.length ≤ 9223372036854775807)
    (h1 : SlAt w ql (l.map clsV)) (h2 : SlAt w qn (n.map numV)) :
    Calls Tryd.prog 39 #[.int .u8 v, .slice ql l.length cl, .slice qn n.length cn] w fun e w' => e = .returned (.bool (allS v l n)) ∧ w = w' := by
  by_cases hne : l.length = n.length
  · have HG := hid (fun (h : ∀ (i : Nat) (c : UInt8) (x : Int), l[i]? = some c → n[i]? = some x → fitsS v c.toNat x = true) => allS_good hne h)
    have HB := hid (fun (i : Nat) (c : UInt8) (x : Int) (a : l[i]? = some c) (b : n[i]? = some x) (hf : fitsS v c.toNat x = false) => allS_bad a b hf)
    have H1 := hid h1
    have H2 := hid h2
    have hd0 : ((l.length : Int) != (n.length : Int)) = false := by simp [hne]
    have HN := hid hne
    generalize allS v l n = A at HG HB ⊢
    clear h1 h2 hne
    go_enter Tryd.func39, Tryd.ntmps39
    go_wp2_with fail
    go_loop [16] (fun c => ∃ i : Nat, i ≤ l.length ∧ c = .int .i64 i ∧ Hid (∀ (j : Nat) (c : UInt8) (x : Int), j < i → l[j]? = some c → n[j]? = some x → fitsS v c.toNat x = true)) (fun c => l.length - (intOf c).toNat)
    case atStart => exact ⟨0, Nat.zero_le _, rfl, hid (fun j _ _ h => absurd h (Nat.not_lt_zero _))⟩
    case round =>
      obtain ⟨i, hi, rfl, HA⟩ := hrel
      by_cases hlt : i < l.length
      · have hd : decide ((i : Int) < (l.length : Int)) = true := by simp; omega
        obtain ⟨c, hc⟩ : ∃ c, l[i]? = some c := ⟨_, List.getElem?_eq_getElem hlt⟩
        obtain ⟨x, hx⟩ : ∃ x, n[i]? = some x := ⟨_, List.getElem?_eq_getElem (by have := HN.out; omega)⟩
        obtain ⟨b1, o1, rfl, hc1⟩ := H1.out i (clsV c) (by simp [hc])
        obtain ⟨b2, o2, rfl, hc2⟩ := H2.out i (numV x) (by simp [hx])
        unfold clsV at hc1
        unfold numV at hc2
        have HF := hid (fits_any v c.toNat x w)
        have hdn : decide ((i : Int) < (n.length : Int)) = true := by have := HN.out; simp; omega
        have hin : (i : Int) < (n.length : Int) := by have := HN.out; omega
        have HC := hid (And.intro hc hx)
        clear hc hx H1 H2
        cases hb : fitsS v c.toNat x with
        | false =>
          have HBB := hid hb
          rw [hb] at HF
          clear hb
          go_wp2_with (first | (go_at_call 50; refine HF.out.mono ?_; rintro e1 w1 ⟨rfl, rfl⟩))
          go_ret
          exact ⟨congrArg (fun z => Ending.returned (.bool z)) (HB.out i c x HC.out.1 HC.out.2 HBB.out).symm, rfl⟩
        | true =>
          have HBB := hid hb
          rw [hb] at HF
          clear hb
          go_wp2_with (first | (go_at_call 50; refine HF.out.mono ?_; rintro e1 w1 ⟨rfl, rfl⟩))
          go_round
          case rel =>
            refine ⟨i + 1, by omega, by go_num, hid ?_⟩
            intro j c' x' hj a b
            by_cases hji : j = i
            · subst hji
              obtain ⟨e1, e2⟩ := HC.out
              rw [e1] at a
              rw [e2] at b
              cases a; cases b
              exact HBB.out
            · exact HA.out j c' x' (by omega) a b
          case measure => simp [intOf]; omega
      · have hd : decide ((i : Int) < (l.length : Int)) = false := by simp; omega
        go_wp2_with fail
        go_ret
        exact ⟨congrArg (fun z => Ending.returned (.bool z)) (HG.out (fun j c x a b => HA.out j c x (by have := (List.getElem?_eq_some_iff.1 a).1; omega) a b)).symm, rfl⟩
  · have e : allS v l n = false := allS_ne hne
    have hd0 : ((l.length : Int) != (n.length : Int)) = true := by simp; omega
    rw [e]
    clear e hne h1 h2
    go_enter Tryd.func39, Tryd.ntmps39
    go_wp2_with fail
    go_ret
    exact ⟨rfl, rfl⟩

theorem Res.at' {B : Nat} {w : World} {t : TypeId} {v : Value} {xs : List Value} (h : Res B w t v xs) : ∃ q cap, v = .slice q xs.length cap ∧ SlAt w q xs := by
  obtain ⟨q, cap, rfl⟩ := h.shape
  exact ⟨q, cap, rfl, h.at_⟩

theorem mayS_cases (e : Ev) (l : List UInt8) (t i : Bool) (h : fieldsS e.v e.kind = (l, t, i)) :
    mayS e = (i && (allS e.v l e.nums && (if t then oneName e.texts else e.texts.isEmpty))) := by
  unfold mayS; rw [h]

set_option maxHeartbeats 2000000 in
set_option maxRecDepth 100000 in
theorem may_any (s : EvP) (e : Ev) (w : World) (he : EvAt w s e) (hk : KT w) :
    Calls Tryd.prog 24 #[evV s e] w fun en w' => en = .returned (.bool (mayS e)) ∧ Fr No w w' := by
  obtain ⟨qn, cn, qt, ct⟩ := s
  obtain ⟨v, k, ns, ts⟩ := e
  obtain ⟨h1, h2, h3, h4, h5, h6, h7, h8⟩ := he
  simp only at h1 h2 h3 h4 h5 h6 h7
  have H1 := hid (fun w1 (hf : Fr No w w1) => fields_any v k w1 h1 h2 (hk.fr hf))
  have hm := mayS_cases ⟨v, k, ns, ts⟩
  have hlen := fieldsS_length v k
  simp only at hm
  generalize fieldsS v k = x at H1 hm hlen
  obtain ⟨l, t, i⟩ := x
  rw [hm l t i rfl]
  clear hm h8
  simp only at hlen
  have H2 := hid (fun w1 (hf : Fr No w w1) q cap (ha : SlAt w1 q (l.map clsV)) => all_any v l ns q cap qn cn w1 (by omega) h5 ha (h3.fr hf))
  generalize allS v l ns = A at H2 ⊢
  unfold evV
  simp only
  have HF0 : Hid (∀ w', Fr No (w.alloc (.cells #[.int .u8 v, .int .u8 k, .slice qn ns.length cn, .slice qt ts.length ct] 25)) w' → Fr No w w') := hid (fun w' h => ((Fr.refl w).alloc _).trans h)
  generalize hW : w.alloc (.cells #[.int .u8 v, .int .u8 k, .slice qn ns.length cn, .slice qt ts.length ct] 25) = W at HF0
  have g : W.heap[w.heap.size]? = some (.cells #[.int .u8 v, .int .u8 k, .slice qn ns.length cn, .slice qt ts.length ct] 25 (0, 0)) := by subst hW; exact Go.heap_alloc_new _ _
  have hcell : ∀ w1, Fr No W w1 → ∀ j, w1.cell? ⟨w.heap.size, j, none⟩ = (#[Value.int .u8 v, .int .u8 k, .slice qn ns.length cn, .slice qt ts.length ct] : Array Value)[j]? := fun w1 hf j => cell_of_row w1 _ j _ _ (0, 0) (hf.heap0 g)
  subst hW
  have HC := hid hcell
  clear hcell g h1 h2
  have HT := hid (And.intro h4 (And.intro h6 h7))
  clear h3 h4 h6 h7 hk
  cases i
  · rw [Bool.false_and]
    go_enter Tryd.func24, Tryd.ntmps24
    go_wp2_with (first
      | (go_at_call 38; refine (H1.out _ ((Fr.refl _).alloc _)).mono ?_; intro e2 w2 h2; obtain ⟨L, rfl, hr, hf⟩ := h2; obtain ⟨q, cap, rfl, hs⟩ := hr.at'; simp only [List.length_map] at *))
    go_ret
    exact ⟨rfl, HF0.out _ hf⟩
  · cases A
    · rw [Bool.true_and, Bool.false_and]
      go_enter Tryd.func24, Tryd.ntmps24
      go_wp2_with (first
        | (go_at_call 38; refine (H1.out _ ((Fr.refl _).alloc _)).mono ?_; intro e2 w2 h2; obtain ⟨L, rfl, hr, hf⟩ := h2; obtain ⟨q, cap, rfl, hs⟩ := hr.at'; simp only [List.length_map] at *
           have d0 := HC.out _ hf 0
           have d1 := HC.out _ hf 2
           simp only [List.getElem?_toArray, List.getElem?_cons_zero, List.getElem?_cons_succ] at d0 d1)
        | (go_at_call 39; refine (H2.out _ (HF0.out _ hf) q cap hs).mono ?_; rintro e3 w3 ⟨rfl, rfl⟩))
      go_ret
      exact ⟨rfl, HF0.out _ hf⟩
    · rw [Bool.true_and, Bool.true_and]
      cases t
      · have hd : ((ts.length : Int) == 0) = ts.isEmpty := by cases ts <;> simp; omega
        have HD := hid hd
        clear hd
        simp only [Bool.false_eq_true, if_false]
        generalize ts.isEmpty = R at HD ⊢
        go_enter Tryd.func24, Tryd.ntmps24
        go_wp2_with (first
          | (go_at_call 38; refine (H1.out _ ((Fr.refl _).alloc _)).mono ?_; intro e2 w2 h2; obtain ⟨L, rfl, hr, hf⟩ := h2; obtain ⟨q, cap, rfl, hs⟩ := hr.at'; simp only [List.length_map] at *
             have d0 := HC.out _ hf 0
             have d1 := HC.out _ hf 2
             have d2 := HC.out _ hf 3
             simp only [List.getElem?_toArray, List.getElem?_cons_zero, List.getElem?_cons_succ] at d0 d1 d2)
          | (go_at_call 39; refine (H2.out _ (HF0.out _ hf) q cap hs).mono ?_; rintro e3 w3 ⟨rfl, rfl⟩))
        go_ret
        exact ⟨congrArg (fun z => Ending.returned (.bool z)) HD.out, HF0.out _ hf⟩
      · simp only [if_true]
        by_cases h1 : ts.length = 1
        · obtain ⟨s0, rfl⟩ : ∃ s0, ts = [s0] := List.length_eq_one_iff.1 h1
          obtain ⟨g1, _, g3⟩ := HT.out
          obtain ⟨b, o, rfl, hc⟩ := g1 0 (strV s0) rfl
          have hc : w.cell? ⟨b, o, none⟩ = some (strV s0) := hc
          simp only [List.length_cons, List.length_nil, Nat.zero_add, oneName] at HC HF0 ⊢
          have HN := hid (fun w1 => mayName_any s0 w1 (g3 s0 (by simp)))
          generalize mayNameS s0 = R at HN ⊢
          unfold strV at HN hc
          have HCC := hid hc
          clear hc g1 g3 HT h1
          go_enter Tryd.func24, Tryd.ntmps24
          go_wp2_with (first
            | (go_at_call 38; refine (H1.out _ ((Fr.refl _).alloc _)).mono ?_; intro e2 w2 h2; obtain ⟨L, rfl, hr, hf⟩ := h2; obtain ⟨q, cap, rfl, hs⟩ := hr.at'; simp only [List.length_map] at *
               have d0 := HC.out _ hf 0
               have d1 := HC.out _ hf 2
               have d2 := HC.out _ hf 3
               have d3 := (HF0.out _ hf).cell0 HCC.out
               simp only [List.getElem?_toArray, List.getElem?_cons_zero, List.getElem?_cons_succ] at d0 d1 d2)
            | (go_at_call 39; refine (H2.out _ (HF0.out _ hf) q cap hs).mono ?_; rintro e3 w3 ⟨rfl, rfl⟩)
            | (go_at_call 40; refine (HN.out _).mono ?_; rintro e4 w4 ⟨rfl, hf4⟩))
          go_ret
          exact ⟨rfl, (HF0.out _ hf).trans hf4⟩
        · have hd : ((ts.length : Int) == 1) = false := by simp; omega
          have hR : oneName ts = false := by
            match ts, h1 with
            | [], _ => rfl
            | [_], h1 => exact absurd rfl h1
            | _ :: _ :: _, _ => rfl
          rw [hR]
          clear hR h1 HT
          go_enter Tryd.func24, Tryd.ntmps24
          go_wp2_with (first
            | (go_at_call 38; refine (H1.out _ ((Fr.refl _).alloc _)).mono ?_; intro e2 w2 h2; obtain ⟨L, rfl, hr, hf⟩ := h2; obtain ⟨q, cap, rfl, hs⟩ := hr.at'; simp only [List.length_map] at *
               have d0 := HC.out _ hf 0
               have d1 := HC.out _ hf 2
               have d2 := HC.out _ hf 3
               simp only [List.getElem?_toArray, List.getElem?_cons_zero, List.getElem?_cons_succ] at d0 d1 d2)
            | (go_at_call 39; refine (H2.out _ (HF0.out _ hf) q cap hs).mono ?_; rintro e3 w3 ⟨rfl, rfl⟩))
          go_ret
          exact ⟨rfl, HF0.out _ hf⟩
end Go.Proofs.YtgjabbhgmecbbaaDoor
