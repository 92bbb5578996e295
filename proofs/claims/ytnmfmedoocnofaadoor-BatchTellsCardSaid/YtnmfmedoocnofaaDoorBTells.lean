/-
  BatchTells: the walk. No statement of the seat is proved here.
-/
import Derived.Test.YtnmfmedoocnofaaDoorBWorks
namespace Go.Proofs.YtnmfmedoocnofaaDoor
open Go.RowKit

theorem LsRow.at2 {B : Nat} {w w0 : World} {q q0 : Option Addr} {n cap : Nat} {L l : List (EvP × Ev)} (h : LsRow B w (.slice q n cap) L) (hl : LsAt w0 q0 l) (hm : L.map Prod.snd = l.map Prod.snd) : LsAt w q L := fun i s e hi => by
  obtain ⟨b, hq, h1, h2, h3, h4⟩ := h.cells hi
  have h5 := snd_at hi
  rw [hm, List.getElem?_map, Option.map_eq_some_iff] at h5
  obtain ⟨⟨s0, e0⟩, h6, h7⟩ := h5
  obtain rfl : e0 = e := h7
  exact ⟨(h.evs _ (List.mem_of_getElem? hi)).at_ (hl i s0 e0 h6).1, b, 0, hq, h1, h2, h3, h4⟩

set_option maxHeartbeats 16000000 in
set_option maxRecDepth 100000 in
theorem btells_any (l1 l2 : List (EvP × Ev)) (q1 q2 : Option Addr) (cap1 cap2 v : Nat) (w : World) (hl1 : LsAt w q1 l1) (hl2 : LsAt w q2 l2) (hkt : KT w) (hn1 : l1.length ≤ 17592186044416) (hn2 : l2.length ≤ 17592186044416)
    (hs1 : ∀ p, p ∈ l1 → p.2.nums.length ≤ 17592186044416 ∧ p.2.texts.length ≤ 8796093022208) (hv : v ≤ 255) :
    Calls Tryd.prog 8 #[.slice q1 l1.length cap1, .slice q2 l2.length cap2, .int .u8 v] w fun en w' => en = .returned (.bool true) ∧ Fr No w w' := by
  have WK := hid (fun w1 (h : Fr No w w1) => works8_any w1 (hkt.fr h))
  have HE1 := hid (fun w1 (h : Fr No w w1) => heavy_any l1 q1 cap1 w1 (hl1.fr h) (by omega))
  have HE2 := hid (fun w1 (h : Fr No w w1) => heavy_any l2 q2 cap2 w1 (hl2.fr h) (by omega))
  have OW := hid (fun (hs : l1.length ≤ 4000) w1 (h : Fr No w w1) => owns_big l1 q1 cap1 w1 (hl1.fr h) (by omega) hs1)
  have RE := hid (fun (hs : l1.length ≤ 4000) w1 (h : Fr No w w1) => rencode8_any l1 q1 cap1 w1 (hl1.fr h) (by omega))
  have RS := hid (fun (hs : l1.length ≤ 4000) w1 (h : Fr No w w1) => rsay8_any l1 q1 cap1 v w1 (hl1.fr h) (by omega) hv)
  have RM := hid (fun (hs : l1.length ≤ 4000) w1 (h : Fr No w w1) => rmay8_any l1 q1 cap1 w1 (hl1.fr h) (by omega))
  have SM := hid (fun w1 (h : Fr No w w1) => same8_any l1 l2 q1 q2 cap1 cap2 w1 (hl1.fr h) (hl2.fr h) (by omega))
  have RW := hid (fun (hs : l1.length ≤ 4000) (L : List (EvP × Ev)) (q : Option Addr) (cap : Nat) (w3 w1 : World) (hr : LsRow w3.heap.size w1 (.slice q L.length cap) L) (hm : L.map Prod.snd = l1.map Prod.snd) (h0 : Fr No w w1) => (by
    have hlen : L.length = l1.length := by have := congrArg List.length hm; simpa using this
    have hA : ∀ w2, Fr No w1 w2 → LsAt w2 q L := fun w2 h => (hr.at2 hl1 hm).fr h
    refine ⟨fun w2 h => ?_, fun w2 h => ?_, fun w2 h => ?_, fun w2 h => ?_, fun w2 h => ?_, fun w2 h => ?_⟩
    · have := bencode_any L q cap w2 (hA w2 h) (hkt.fr (h0.trans h)) (by omega)
      rw [hm] at this
      exact this
    · have := bsay_any L q cap v w2 (hA w2 h) (hkt.fr (h0.trans h)) (by omega) hv
      rw [hm] at this
      exact this
    · have := bmay_any L q cap w2 (hA w2 h) (hkt.fr (h0.trans h)) (by omega)
      rw [hm] at this
      exact this
    · have := bsame_any L l2 q q2 cap cap2 w2 (hA w2 h) (hl2.fr (h0.trans h)) (by omega)
      rw [hm] at this
      exact this
    · have := bsame_any L l1 q q1 cap cap1 w2 (hA w2 h) (hl1.fr (h0.trans h)) (by omega)
      rw [decide_eq_true hm] at this
      exact this
    · have := same8_any L l1 q q1 cap cap1 w2 (hA w2 h) (hl1.fr (h0.trans h)) (by omega)
      rw [decide_eq_true hm] at this
      exact this :
    (∀ w2, Fr No w1 w2 → Calls Tryd.prog 17 #[.slice q L.length cap] w2 fun en w' => en = .returned (.tuple #[strV (encL (l1.map Prod.snd)).1, .int .i64 (encL (l1.map Prod.snd)).2]) ∧ Fr No w2 w') ∧
    (∀ w2, Fr No w1 w2 → Calls Tryd.prog 20 #[.slice q L.length cap, .int .u8 v] w2 fun en w' => en = .returned (.tuple #[strV (sayL (l1.map Prod.snd) v).1, .int .i64 (sayL (l1.map Prod.snd) v).2]) ∧ Fr No w2 w') ∧
    (∀ w2, Fr No w1 w2 → Calls Tryd.prog 18 #[.slice q L.length cap] w2 fun en w' => en = .returned (.bool (mayL (l1.map Prod.snd))) ∧ Fr No w2 w') ∧
    (∀ w2, Fr No w1 w2 → Calls Tryd.prog 25 #[.slice q L.length cap, .slice q2 l2.length cap2] w2 fun en w' => en = .returned (.bool (decide (l1.map Prod.snd = l2.map Prod.snd))) ∧ Fr No w2 w') ∧
    (∀ w2, Fr No w1 w2 → Calls Tryd.prog 25 #[.slice q L.length cap, .slice q1 l1.length cap1] w2 fun en w' => en = .returned (.bool true) ∧ Fr No w2 w') ∧
    (∀ w2, Fr No w1 w2 → Calls Tryd.prog 14 #[.slice q L.length cap, .slice q1 l1.length cap1] w2 fun en w' => en = .returned (.bool true) ∧ Fr No w2 w')))
  unfold HeavyPost at HE1 HE2
  unfold OwnsPost at OW
  clear hl1 hl2 hkt hs1 hv
  generalize encL (l1.map Prod.snd) = E at RE RW
  generalize sayL (l1.map Prod.snd) v = S at RS RW
  generalize mayL (l1.map Prod.snd) = M at RM RW
  generalize decide (l1.map Prod.snd = l2.map Prod.snd) = D at SM RW
  unfold strV at *
  go_enter Tryd.func8, Tryd.ntmps8
  go_upto_region 3 with (first
    | (go_at_call 16; (with_reducible refine (HE1.out _ (Fr.refl w)).mono ?_); intro e1 w1 h1; obtain ⟨hb, rfl, hlt, hf1⟩ := h1; have hlt1 := hlt; clear hlt; rcases hb with _ | _)
    | (go_at_call 16; (with_reducible refine (HE2.out _ hf1).mono ?_); intro e2 w2 h2; obtain ⟨hb, rfl, hlt, hf2⟩ := h2; have hf12 := hf1.trans hf2; rcases hb with _ | _)
    | (go_at_call 9; (with_reducible refine (WK.out _ hf12).mono ?_); rintro e3 w3 ⟨rfl, hf3⟩; have hf13 := hf12.trans hf3)
    | (go_at_call 9; (with_reducible refine (WK.out _ hf1).mono ?_); rintro e3 w3 ⟨rfl, hf3⟩; have hf13 := hf1.trans hf3)
    | fail)
  all_goals first | (go_ret; exact ⟨rfl, hf13⟩) | skip
  have hL4 : l1.length ≤ 4000 := by simpa using hlt1
  have O1 := hid (OW.out hL4 _ hf12)
  have RE1 := hid (RE.out hL4)
  have RS1 := hid (RS.out hL4)
  have RM1 := hid (RM.out hL4)
  have RW1 := hid (RW.out hL4)
  clear OW RE RS RM RW HE1 HE2 hlt1 hlt hf1 hf2 hL4
  go_upto_region 4 with (first
    | (go_at_call 27; (with_reducible refine O1.out.mono ?_); rintro e3 w3 ⟨L, qL, capL, rfl, hm3, hrow3, hf3⟩)
    | fail)
  have F3 := hf12.trans hf3
  obtain ⟨X1, X2, X3, X4, X5, X6⟩ := RW1.out L qL capL _ _ hrow3 hm3 F3
  have B1 := hid X1
  have B2 := hid X2
  have B3 := hid X3
  have B4 := hid X4
  have B5 := hid X5
  have B6 := hid X6
  have G0 : Fr No w3 w3 := Fr.refl _
  clear X1 X2 X3 X4 X5 X6 RW1 O1 hrow3 hm3 hf12 hf3
  go_wp2_with (first
    | (go_at_call 17; (with_reducible refine (B1.out _ G0).mono ?_); rintro e4 w4 ⟨rfl, hf4⟩; have G4 := G0.trans hf4)
    | (go_at_call 28; (with_reducible refine (RE1.out _ (F3.trans G4)).mono ?_); rintro e5 w5 ⟨rfl, hf5⟩; have G5 := G4.trans hf5)
    | (go_at_call 20; (with_reducible refine (B2.out _ G5).mono ?_); rintro e6 w6 ⟨rfl, hf6⟩; have G6 := G5.trans hf6)
    | (go_at_call 29; (with_reducible refine (RS1.out _ (F3.trans G6)).mono ?_); rintro e7 w7 ⟨rfl, hf7⟩; have G7 := G6.trans hf7)
    | (go_at_call 18; (with_reducible refine (B3.out _ G7).mono ?_); rintro e8 w8 ⟨rfl, hf8⟩; have G8 := G7.trans hf8)
    | (go_at_call 30; (with_reducible refine (RM1.out _ (F3.trans G8)).mono ?_); rintro e9 w9 ⟨rfl, hf9⟩; have G9 := G8.trans hf9)
    | (go_at_call 25; (with_reducible refine (B4.out _ G9).mono ?_); rintro e10 w10 ⟨rfl, hf10⟩; have G10 := G9.trans hf10)
    | (go_at_call 14; (with_reducible refine (SM.out _ (F3.trans G10)).mono ?_); rintro e11 w11 ⟨rfl, hf11⟩; have G11 := G10.trans hf11)
    | (go_at_call 25; (with_reducible refine (B5.out _ G11).mono ?_); rintro e12 w12 ⟨rfl, hf12⟩; have G12 := G11.trans hf12)
    | (go_at_call 14; (with_reducible refine (B6.out _ G12).mono ?_); rintro e13 w13 ⟨rfl, hf13⟩; have G13 := G12.trans hf13)
    | (go_at_call 9; (with_reducible refine (WK.out _ (F3.trans G13)).mono ?_); rintro e14 w14 ⟨rfl, hf14⟩; have G14 := G13.trans hf14)
    | fail)
  go_ret
  exact ⟨rfl, F3.trans G14⟩
end Go.Proofs.YtnmfmedoocnofaaDoor
