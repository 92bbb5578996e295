/-
  batch.Encode: the walk. No statement of the seat is proved here.
-/
import Derived.Test.YtnmfmedoocnofaaDoorBMay
import Derived.Test.YtnmfmedoocnofaaDoorBEnc
namespace Go.Proofs.YtnmfmedoocnofaaDoor
open Go.RowKit

theorem evsB_take {l : List (EvP × Ev)} {m : Nat} {s : EvP} {e : Ev} (hp : l[m]? = some (s, e)) : evsB ((l.take (m + 1)).map Prod.snd) = evsB ((l.take m).map Prod.snd) ++ evB e := by
  have hlt := (List.getElem?_eq_some_iff.1 hp).1
  rw [List.take_succ_eq_append_getElem hlt, (List.getElem?_eq_some_iff.1 hp).2]
  simp [evsB]
theorem evsB_le {l : List (EvP × Ev)} (h : ∀ p, p ∈ l → mayS p.2 = true) (h40 : l.length ≤ 40) (m : Nat) : (evsB ((l.take m).map Prod.snd)).length ≤ 3640 := by
  have h1 := evsB_short ((l.take m).map Prod.snd) (fun e he => by obtain ⟨p, hp, rfl⟩ := List.mem_map.1 he; exact h p (List.mem_of_mem_take hp))
  have h2 : ((l.take m).map Prod.snd).length ≤ 40 := by rw [List.length_map, List.length_take]; omega
  omega

set_option maxHeartbeats 8000000 in
set_option maxRecDepth 100000 in
theorem bencode_any (l : List (EvP × Ev)) (q : Option Addr) (cap : Nat) (w : World) (hl : LsAt w q l) (hkt : KT w) (hn : l.length ≤ 1000000) :
    Calls Tryd.prog 17 #[.slice q l.length cap] w fun en w' => en = .returned (.tuple #[strV (encL (l.map Prod.snd)).1, .int .i64 (encL (l.map Prod.snd)).2]) ∧ Fr No w w' := by
  by_cases h40 : l.length ≤ 40
  · have MA := hid (bmay_any l q cap w hl hkt hn)
    have i1 : decide ((40 : Int) < (l.length : Int)) = false := by simp; omega
    rcases hm : mayL (l.map Prod.snd) with _ | _
    · have HE : Hid (encL (l.map Prod.snd) = ([], 4)) := hid (by unfold encL; rw [if_neg (by simpa using h40), hm]; rfl)
      rw [hm] at MA
      rw [HE.out]
      unfold strV
      clear hl hkt hn h40 hm HE
      go_enter Tryd.func17, Tryd.ntmps17
      go_wp2_with (first | (go_at_call 18; (with_reducible refine MA.out.mono ?_); rintro e1 w1 ⟨rfl, hf1⟩) | fail)
      go_ret2
      exact ⟨rfl, hf1⟩
    · have HE : Hid (encL (l.map Prod.snd) = (payB (l.map Prod.snd), 0)) := hid (by unfold encL; rw [if_neg (by simpa using h40), if_pos hm])
      rw [hm] at MA
      rw [HE.out]
      obtain ⟨p0, p40, pall⟩ := mayL_parts hm
      obtain ⟨⟨sx, x⟩, l', rfl⟩ : ∃ p l', l = p :: l' := by
        rcases l with _ | ⟨p, l'⟩
        · simp at p0
        · exact ⟨p, l', rfl⟩
      have hx : (((sx, x) :: l').map Prod.snd).headD zeroE = x := rfl
      rw [hx] at pall
      have hxm := may_is (pall x (by simp)).2
      have hPB : payB (((sx, x) :: l').map Prod.snd) = byteN x.v :: (shortB ((sx, x) :: l').length ++ evsB (((sx, x) :: l').map Prod.snd)) := by
        unfold payB; rw [hx, List.length_map]
      obtain ⟨_, b0, o0, hq0, c00, _, _, _⟩ := hl 0 sx x rfl
      subst hq0
      generalize hL : ((sx, x) :: l') = L at *
      have LA := hid (fun w1 (h : Fr No w w1) => hl.fr h)
      have LM : Hid (∀ p, p ∈ L → mayS p.2 = true) := hid (fun p hp => (pall p.2 (List.mem_map.2 ⟨p, hp, rfl⟩)).2)
      have PO := hid (fun B o (s : EvP) (e : Ev) (bs : List UInt8) w1 (he : EvAt w s e) (h : Fr No w w1) (hB : w.heap.size ≤ B) (ho : ∀ g, o = some g → w.heap.size ≤ g) (hw : WrAt w1 B o bs) (hbs : bs.length ≤ 100000000) (hm : mayS e = true) => put_ok B o s e bs w w1 he hkt h hB ho hw hbs hm)
      have i2 : (0 : Int) < (L.length : Int) := by rw [← hL]; simp
      have hLl : L.length ≤ 40 := h40
      have HPB := hid hPB
      have hvx : x.v ≤ 3 := hxm.2.2
      have c00' : w.cell? ⟨b0, o0, none⟩ = some (.int .u8 x.v) := by simpa using c00
      generalize hR : payB (L.map Prod.snd) = R at HPB ⊢
      clear hl hkt hn hm HE p0 p40 pall hxm hPB hx hL c00 hR
      go_enter Tryd.func17, Tryd.ntmps17
      go_upto_region 6 with (first | (go_at_call 18; (with_reducible refine MA.out.mono ?_); rintro e1 w1 ⟨rfl, hf1⟩) | fail)
      have FA : Fr No w (w1.alloc (.cells #[.slice none 0 0] 69)) := hf1.alloc _
      have hB : w.heap.size ≤ w1.heap.size := hf1.size
      have hw0 : WrAt (w1.alloc (.cells #[.slice none 0 0] 69)) w1.heap.size none [] := ⟨.slice none 0 0, Go.heap_alloc_new _ _, rfl, Own.nil _ _ _⟩
      have UA := hid (u8_any w1.heap.size none x.v [] _ hw0 (by simp) (by omega))
      have cx := FA.cell0 c00'
      generalize w1.heap.size = B at hB hw0 UA
      clear hw0 c00' MA
      go_upto_region 7 with (first | (go_at_call 39; (with_reducible refine UA.out.mono ?_); rintro e2 w2 ⟨rfl, hq2⟩) | fail)
      obtain ⟨o2, hw2, hfr2, hno2⟩ := hq2
      have F2 : Fr No w w2 := FA.newOnlyO hB (fun g hg => by cases hg) hfr2
      have ho2 : ∀ g, o2 = some g → w.heap.size ≤ g := fun g hg => by
        rcases hno2 with rfl | h
        · cases hg
        · exact Nat.le_trans FA.size (h g hg)
      have SA := hid (short_any B o2 L.length _ w2 hw2 (by simp) (by omega))
      have HF2 := hid (And.intro F2 ho2)
      clear hw2 hfr2 hno2 F2 ho2 UA cx FA hf1
      go_upto_region 8 with (first | (go_at_call 40; (with_reducible refine SA.out.mono ?_); rintro e3 w3 ⟨rfl, hq3⟩) | fail)
      obtain ⟨o3, hw3, hfr3, hno3⟩ := hq3
      have F3 : Fr No w w3 := HF2.out.1.newOnlyO hB HF2.out.2 hfr3
      have ho3 : ∀ g, o3 = some g → w.heap.size ≤ g := fun g hg => by
        rcases hno3 with rfl | h
        · exact HF2.out.2 g hg
        · exact Nat.le_trans HF2.out.1.size (h g hg)
      have hH : (([] ++ [byteN x.v]) ++ shortB L.length).length ≤ 11 := by have := shortB_length_le L.length; simp; omega
      have HPB2 : Hid (R = (([] ++ [byteN x.v]) ++ shortB L.length) ++ evsB (L.map Prod.snd)) := hid (by rw [HPB.out]; simp)
      generalize (([] ++ [byteN x.v]) ++ shortB L.length) = H at hw3 HPB2 hH
      have HW3 := hid (And.intro hw3 (And.intro ho3 F3))
      clear hw3 hfr3 hno3 ho3 F3 HPB SA HF2
      go_wp2_with fail
      go_loopg [31] L.length (fun k i wr => ∃ (m : Nat) (o : Option Nat), m ≤ L.length ∧ L.length ≤ m + k ∧ i = .int .i64 m ∧ Hid (WrAt wr B o (H ++ evsB ((L.take m).map Prod.snd)) ∧ (∀ g, o = some g → w.heap.size ≤ g)) ∧ Fr No w wr)
      case atStart => exact ⟨0, o3, Nat.zero_le _, by omega, rfl, hid ⟨by simpa [evsB] using HW3.out.1, HW3.out.2.1⟩, HW3.out.2.2⟩
      case round =>
        clear HW3
        obtain ⟨m, o, hm, hk, rfl, HR, hf⟩ := hrel
        by_cases hlt : m < L.length
        · obtain ⟨⟨s, e⟩, hp⟩ : ∃ p, L[m]? = some p := ⟨_, List.getElem?_eq_getElem hlt⟩
          obtain ⟨hE, b, ob, hq, c0, c1, c2, c3⟩ := LA.out _ hf m s e hp
          have hE0 := (LA.out _ (Fr.refl _) m s e hp).1
          have hme := LM.out _ (List.mem_of_getElem? hp)
          obtain ⟨rfl, rfl⟩ : b0 = b ∧ o0 = ob := by simpa using hq
          have HT := hid (evsB_take hp)
          have hle := evsB_le LM.out hLl m
          have i3 : (m : Int) < (L.length : Int) := by omega
          have i4 : (0 : Int) ≤ (m : Int) := by omega
          have i5 : (m : Int) + 1 ≤ 41 := by omega
          have PE := hid (fun w1 (h : Fr No wr w1) => PO.out B o s e _ w1 hE0 (hf.trans h) hB HR.out.2 (HR.out.1.fr h id (fun _ _ => id)) (by rw [List.length_append]; omega) hme)
          have HF0 := hid ((Fr.refl (X := No) wr).alloc (.cells #[.int .u8 e.v, .int .u8 e.kind, .slice s.qn e.nums.length s.cn, .slice s.qt e.texts.length s.ct] 34))
          clear hp hE hE0 hme hle hq
          unfold evV at PE
          go_wp2_with (first | (go_at_call 41; (with_reducible refine (PE.out _ HF0.out).mono ?_); rintro e4 w4 ⟨rfl, hq4⟩) | fail)
          obtain ⟨o4, hw4, hfr4, hno4⟩ := hq4
          have F4 : Fr No w w4 := (hf.trans HF0.out).newOnlyO hB HR.out.2 hfr4
          have ho4 : ∀ g, o4 = some g → w.heap.size ≤ g := fun g hg => by
            rcases hno4 with rfl | h
            · exact HR.out.2 g hg
            · exact Nat.le_trans (hf.trans HF0.out).size (h g hg)
          go_roundg (gk - 1)
          case measure => omega
          case rel => exact ⟨m + 1, o4, by omega, by omega, by go_num, hid ⟨by rw [HT.out, ← List.append_assoc]; exact hw4, ho4⟩, F4⟩
        · obtain rfl : m = L.length := by omega
          rw [List.take_length] at HR
          have BY := hid (bytes_any B o _ wr HR.out.1)
          rw [← HPB2.out] at BY
          clear HR HPB2 LM LA PO hk
          unfold strV at *
          go_wp2_with (first | (go_at_call 42; (with_reducible refine BY.out.mono ?_); rintro e3 w3 ⟨rfl, rfl⟩) | fail)
          go_ret2
          exact ⟨rfl, hf⟩
  · have i1 : decide ((40 : Int) < (l.length : Int)) = true := by simp; omega
    have HE : Hid (encL (l.map Prod.snd) = ([], 40)) := hid (by unfold encL; rw [if_pos (by simp; omega)])
    rw [HE.out]
    unfold strV
    clear hl hkt hn h40 HE
    go_enter Tryd.func17, Tryd.ntmps17
    go_wp2_with fail
    go_ret2
    exact ⟨rfl, Fr.refl _⟩
end Go.Proofs.YtnmfmedoocnofaaDoor
