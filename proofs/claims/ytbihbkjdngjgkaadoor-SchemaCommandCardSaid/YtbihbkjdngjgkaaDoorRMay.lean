/-
  Whether a text is a name, whether numbers are of classes, by the document.
-/
import Derived.Test.YtbihbkjdngjgkaaDoorMay
import Derived.Test.YtbihbkjdngjgkaaDoorRBound
import Derived.Test.YtbihbkjdngjgkaaDoorRFields
namespace Go.Proofs.YtbihbkjdngjgkaaDoor
open Go.RowKit

theorem mayNameS_len (s : List UInt8) (h : s.length < 1 ∨ 24 < s.length) : mayNameS s = false := by
  unfold mayNameS
  rw [Bool.and_eq_false_iff]
  right
  rcases h with h | h
  · rw [decide_eq_false (by omega)]; rfl
  · rw [decide_eq_false (p := s.length ≤ 24) (by omega), Bool.and_false]
theorem mayNameS_all (s : List UInt8) (h1 : 1 ≤ s.length) (h2 : s.length ≤ 24) (h : s.all (fun c => nameB c.toNat) = true) : mayNameS s = true := by
  unfold mayNameS
  rw [h, decide_eq_true h1, decide_eq_true h2]; rfl

set_option maxHeartbeats 2000000 in
set_option maxRecDepth 100000 in
theorem rMayName_any (s : List UInt8) (w : World) :
    Calls Tryd.prog 22 #[strV s] w fun e w' => e = .returned (.bool (mayNameS s)) ∧ w = w' := by
  unfold strV
  by_cases h1 : s.length < 1
  · rw [mayNameS_len s (.inl h1)]
    have d1 : decide ((s.length : Int) < 1) = true := by simp; omega
    go_enter Tryd.func22, Tryd.ntmps22
    go_wp2_with fail
    go_ret
    exact ⟨rfl, rfl⟩
  have d1 : decide ((s.length : Int) < 1) = false := by simp; omega
  by_cases h2 : 24 < s.length
  · rw [mayNameS_len s (.inr h2)]
    have d2 : decide ((24 : Int) < (s.length : Int)) = true := by simp; omega
    clear h1
    go_enter Tryd.func22, Tryd.ntmps22
    go_wp2_with fail
    go_ret
    exact ⟨rfl, rfl⟩
  have d2 : decide ((24 : Int) < (s.length : Int)) = false := by simp; omega
  have HT := hid (fun h => mayNameS_all s (by omega) (by omega) h)
  have HNN := hid (fun i (hi : i < s.length) (hc : nameB s[i].toNat = false) => all_not s i hi hc)
  have hlen : s.length ≤ 24 := by omega
  generalize mayNameS s = R at HT HNN ⊢
  clear h1 h2
  go_enter Tryd.func22, Tryd.ntmps22
  go_wp2_with fail
  go_loop [3] (fun c => ∃ i : Nat, i ≤ s.length ∧ c = .int .i64 i ∧ Hid ((s.take i).all (fun c => nameB c.toNat) = true)) (fun c => s.length - (intOf c).toNat)
  case atStart => exact ⟨0, Nat.zero_le _, rfl, hid (by simp)⟩
  case round =>
    obtain ⟨i, hi, rfl, HA⟩ := hrel
    by_cases hlt : i < s.length
    · have hd : decide ((i : Int) < (s.length : Int)) = true := by simp; omega
      have hsz : i < ({ data := s.toArray } : ByteArray).size := hlt
      obtain ⟨cb, hcb⟩ : ∃ cb, cb = s[i].toNat := ⟨_, rfl⟩
      have hx : (({ data := s.toArray } : ByteArray)[i]'hsz).toNat = cb := by rw [hcb]; rfl
      have HCB := hid hcb
      clear hcb
      have hcl : cb < 256 := by rw [HCB.out]; exact s[i].toNat_lt
      have HS := hid (fun (h : nameB cb = true) => all_snoc s i hlt HA.out (by rw [← HCB.out]; exact h))
      have HN := hid (fun (h : nameB cb = false) => HNN.out i hlt (by rw [← HCB.out]; exact h))
      go_wp2_with fail
      all_goals first
        | (go_round
           case rel => exact ⟨i + 1, by omega, by go_num, hid (HS.out (by (try simp only [Bool.not_eq_false', decide_eq_false_iff_not, decide_eq_true_eq, beq_iff_eq] at *); simp [nameB]; omega))⟩
           case measure => simp [intOf]; omega)
        | (go_ret
           exact ⟨congrArg (fun z => Ending.returned (.bool z)) (HN.out (by (try simp only [Bool.not_eq_true', decide_eq_false_iff_not, decide_eq_true_eq, beq_eq_false_iff_ne, ne_eq] at *); simp [nameB]; omega)).symm, rfl⟩)
    · have hd : decide ((i : Int) < (s.length : Int)) = false := by simp; omega
      go_wp2_with fail
      go_ret
      refine ⟨congrArg (fun z => Ending.returned (.bool z)) (HT.out ?_).symm, rfl⟩
      have := HA.out
      rwa [List.take_of_length_le (by omega)] at this

theorem fits_parts (v c : Nat) (x : Int) (lo hi : Int) (is : Bool) (hb : boundS v c = (lo, hi, is)) : fitsS v c x = (is && (decide (lo ≤ x) && decide (x ≤ hi))) := by
  unfold fitsS; rw [hb]

set_option maxHeartbeats 2000000 in
set_option maxRecDepth 100000 in
theorem rAll_any (v : Nat) (l : List UInt8) (n : List Int) (qn : Option Addr) (cn : Nat) (w : World) (hl : l.length ≤ 1000)
    (h2 : SlAt w qn (n.map numV)) :
    Calls Tryd.prog 43 #[.int .u8 v, strV l, .slice qn n.length cn] w fun e w' => e = .returned (.bool (allS v l n)) ∧ w = w' := by
  unfold strV
  by_cases hne : l.length = n.length
  · have HG := hid (fun (h : ∀ (i : Nat) (c : UInt8) (x : Int), l[i]? = some c → n[i]? = some x → fitsS v c.toNat x = true) => allS_good hne h)
    have HB := hid (fun (i : Nat) (c : UInt8) (x : Int) (a : l[i]? = some c) (b : n[i]? = some x) (hf : fitsS v c.toNat x = false) => allS_bad a b hf)
    have H2 := hid h2
    have hd0 : ((l.length : Int) != (n.length : Int)) = false := by simp [hne]
    have HN := hid hne
    generalize allS v l n = A at HG HB ⊢
    clear h2 hne
    go_enter Tryd.func43, Tryd.ntmps43
    go_wp2_with fail
    go_loop [7] (fun c => ∃ i : Nat, i ≤ l.length ∧ c = .int .i64 i ∧ Hid (∀ (j : Nat) (c : UInt8) (x : Int), j < i → l[j]? = some c → n[j]? = some x → fitsS v c.toNat x = true)) (fun c => l.length - (intOf c).toNat)
    case atStart => exact ⟨0, Nat.zero_le _, rfl, hid (fun j _ _ h => absurd h (Nat.not_lt_zero _))⟩
    case round =>
      obtain ⟨i, hi, rfl, HA⟩ := hrel
      by_cases hlt : i < l.length
      · have hd : decide ((i : Int) < (l.length : Int)) = true := by simp; omega
        obtain ⟨c, hc⟩ : ∃ c, l[i]? = some c := ⟨_, List.getElem?_eq_getElem hlt⟩
        obtain ⟨x, hx⟩ : ∃ x, n[i]? = some x := ⟨_, List.getElem?_eq_getElem (by have := HN.out; omega)⟩
        obtain ⟨b2, o2, rfl, hc2⟩ := H2.out i (numV x) (by simp [hx])
        unfold numV at hc2
        have hsz : i < ({ data := l.toArray } : ByteArray).size := hlt
        have hix : (({ data := l.toArray } : ByteArray)[i]'hsz).toNat = c.toNat := by
          have := (List.getElem?_eq_some_iff.1 hc).2
          rw [← this]; rfl
        have hin : (i : Int) < (n.length : Int) := by have := HN.out; omega
        have HC := hid (And.intro hc hx)
        have HBd := hid (rbound_any v c.toNat)
        have hfp := fits_parts v c.toNat x
        generalize boundS v c.toNat = bd at HBd hfp
        obtain ⟨lo, hi', is⟩ := bd
        have hfp := hfp lo hi' is rfl
        unfold RBoundIs at HBd
        simp only at HBd
        clear hc hx H2
        cases hb : fitsS v c.toNat x with
        | false =>
          have HBB := hid hb
          rw [hb] at hfp
          clear hb
          have hcase : is = false ∨ (is = true ∧ x < lo) ∨ (is = true ∧ lo ≤ x ∧ hi' < x) := by
            cases is
            · exact .inl rfl
            · right
              simp only [Bool.true_and] at hfp
              by_cases h1 : lo ≤ x
              · right
                rw [decide_eq_true h1, Bool.true_and] at hfp
                have := of_decide_eq_false hfp.symm
                exact ⟨rfl, h1, by omega⟩
              · exact .inl ⟨rfl, by omega⟩
          clear hfp
          rcases hcase with rfl | ⟨rfl, h1⟩ | ⟨rfl, h1, h3⟩
          · go_wp2_with (first | (go_at_call 32; refine (HBd.out _).mono ?_; rintro e1 w1 ⟨rfl, rfl⟩))
            go_ret
            exact ⟨congrArg (fun z => Ending.returned (.bool z)) (HB.out i c x HC.out.1 HC.out.2 HBB.out).symm, rfl⟩
          · have c1 : decide (x < lo) = true := by simpa using h1
            go_wp2_with (first | (go_at_call 32; refine (HBd.out _).mono ?_; rintro e1 w1 ⟨rfl, rfl⟩))
            go_ret
            exact ⟨congrArg (fun z => Ending.returned (.bool z)) (HB.out i c x HC.out.1 HC.out.2 HBB.out).symm, rfl⟩
          · have c1 : decide (x < lo) = false := by simpa using h1
            have c2 : decide (hi' < x) = true := by simpa using h3
            clear h1
            go_wp2_with (first | (go_at_call 32; refine (HBd.out _).mono ?_; rintro e1 w1 ⟨rfl, rfl⟩))
            go_ret
            exact ⟨congrArg (fun z => Ending.returned (.bool z)) (HB.out i c x HC.out.1 HC.out.2 HBB.out).symm, rfl⟩
        | true =>
          have HBB := hid hb
          rw [hb] at hfp
          clear hb
          have hp : is = true ∧ lo ≤ x ∧ x ≤ hi' := by
            cases is
            · cases hfp
            · have := hfp.symm
              simp only [Bool.true_and, Bool.and_eq_true, decide_eq_true_eq] at this
              exact ⟨rfl, this⟩
          clear hfp
          obtain ⟨rfl, h1, h3⟩ := hp
          have c1 : decide (x < lo) = false := by simpa using h1
          have c2 : decide (hi' < x) = false := by simpa using h3
          clear h1 h3
          go_wp2_with (first | (go_at_call 32; refine (HBd.out _).mono ?_; rintro e1 w1 ⟨rfl, rfl⟩))
          go_round
          case rel =>
            refine ⟨i + 1, by omega, by go_num, hid ?_⟩
            intro j c' x' hj a b
            by_cases hji : j = i
            · subst hji
              obtain ⟨e1, e2⟩ := HC.out
              rw [e1] at a
              rw [e2] at b
              cases a; cases b
              exact HBB.out
            · exact HA.out j c' x' (by omega) a b
          case measure => simp [intOf]; omega
      · have hd : decide ((i : Int) < (l.length : Int)) = false := by simp; omega
        go_wp2_with fail
        go_ret
        exact ⟨congrArg (fun z => Ending.returned (.bool z)) (HG.out (fun j c x a b => HA.out j c x (by have := (List.getElem?_eq_some_iff.1 a).1; omega) a b)).symm, rfl⟩
  · have e : allS v l n = false := allS_ne hne
    have hd0 : ((l.length : Int) != (n.length : Int)) = true := by simp; omega
    rw [e]
    clear e hne h2
    go_enter Tryd.func43, Tryd.ntmps43
    go_wp2_with fail
    go_ret
    exact ⟨rfl, rfl⟩
end Go.Proofs.YtbihbkjdngjgkaaDoor
