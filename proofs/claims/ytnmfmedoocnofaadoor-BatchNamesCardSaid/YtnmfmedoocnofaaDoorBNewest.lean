/-
  Newest, Say of batches, the document's as well: plain words and the walks. No statement of the seat is proved here. batch.Newest: the walk: a row of events is written over in its place. No statement of the seat is proved here.
-/
import Derived.Test.YtnmfmedoocnofaaDoorBRDecode
namespace Go.Proofs.YtnmfmedoocnofaaDoor
open Go.RowKit

/-! ### plain words -/
def okAll (l : List Ev) (v : Nat) : Bool := l.all fun e => decide ((toR e v).2 = 0)
def lowE (l : List Ev) (v : Nat) : Option Nat := if v < 1 then none else (List.range' v (4 - v)).find? (okAll l)
theorem allOK_E (L : List (EvP × Ev)) : allOK L = okAll (L.map Prod.snd) := by funext v; unfold allOK okAll; rw [List.all_map]; rfl
theorem lowO_E (L : List (EvP × Ev)) (v : Nat) : lowO L v = lowE (L.map Prod.snd) v := by unfold lowO lowE; rw [allOK_E]
theorem lowE_step {l : List Ev} {v : Nat} (h1 : 1 ≤ v) (h3 : v ≤ 3) : lowE l v = if okAll l v then some v else lowE l (v + 1) := by
  unfold lowE
  obtain ⟨n, hn⟩ : ∃ n, 4 - v = n + 1 := ⟨3 - v, by omega⟩
  rw [if_neg (show ¬ v < 1 by omega), if_neg (show ¬ v + 1 < 1 by omega), hn, List.range'_succ, List.find?_cons, show 4 - (v + 1) = n by omega]
  cases okAll l v <;> rfl
theorem lowE_big {l : List Ev} {v : Nat} (h : 3 < v) : lowE l v = none := by
  unfold lowE
  rw [if_neg (by omega), show 4 - v = 0 by omega]
  rfl
theorem lowE_zero (l : List Ev) : lowE l 0 = none := rfl
theorem lowE_some {l : List Ev} {v u : Nat} (h : lowE l v = some u) : 1 ≤ v ∧ v ≤ u ∧ u ≤ 3 ∧ okAll l u = true := by
  unfold lowE at h
  by_cases hv : v < 1
  · rw [if_pos hv] at h; cases h
  · rw [if_neg hv] at h
    have h1 := List.find?_some h
    have h2 := List.mem_of_find?_eq_some h
    rw [List.mem_range'_1] at h2
    exact ⟨by omega, by omega, by omega, h1⟩
/-- What is said of events in the least version from v on. -/
def sayL (l : List Ev) (v : Nat) : List UInt8 × Nat :=
  if (encL l).2 = 0 then (match lowE l v with | some u => encL (l.map fun e => (toR e u).1) | none => ([], 43)) else ([], (encL l).2)
/-- A payload, lifted. -/
def newL (s : List UInt8) : List UInt8 × Nat := if (decL s).2 = 0 then encL ((decL s).1.map topS) else ([], (decL s).2)
theorem toR_3 {e : Ev} (hm : mayS e = true) : toR e 3 = (topS e, 0) := by
  have := may_is hm
  unfold toR toS topS
  rw [if_pos hm, if_neg (by omega), if_pos (by omega)]
theorem topS_may {e : Ev} (hm : mayS e = true) : mayS (topS e) = true ∧ (topS e).v = 3 := by
  have := may_is hm
  refine ⟨upTo_may _ _ hm (by omega), ?_⟩
  unfold topS
  rw [upTo_v]
  omega
theorem toR_may {e : Ev} {u : Nat} (h : (toR e u).2 = 0) : mayS e = true ∧ 1 ≤ u ∧ u ≤ 3 ∧ mayS (toR e u).1 = true ∧ (toR e u).1.v = u ∧ topS (toR e u).1 = topS e := by
  unfold toR at h ⊢
  by_cases hm : mayS e = true
  · rw [if_pos hm] at h ⊢
    by_cases hv : u < 1 ∨ 3 < u
    · rw [if_pos hv] at h; cases h
    · rw [if_neg hv] at h ⊢
      rcases ht : toS e u with _ | x
      · rw [ht] at h; cases h
      · obtain ⟨h1, h2, h3⟩ := (toS_iff hm (by omega)).1 ht
        exact ⟨hm, by omega, by omega, h1, h2, h3⟩
  · rw [if_neg hm] at h; cases h
theorem okAll_3 {l : List Ev} (h : ∀ e, e ∈ l → mayS e = true) : okAll l 3 = true := by
  unfold okAll
  rw [List.all_eq_true]
  intro e he
  rw [toR_3 (h e he)]
  rfl
theorem enc_ok {l : List Ev} (h : (encL l).2 = 0) : mayL l = true := by
  unfold encL at h
  split at h
  · cases h
  · split at h
    · assumption
    · cases h
theorem dec_ok {s : List UInt8} (h : (decL s).2 = 0) : (decL s).1.length ≤ 40 ∧ ∀ e, e ∈ (decL s).1 → mayS e = true := by
  obtain ⟨_, h1, h2⟩ := mayL_parts (dec_back h).1
  exact ⟨h1, fun e he => (h2 e he).2⟩

/-! ### the document's -/
set_option maxHeartbeats 4000000 in
set_option maxRecDepth 100000 in
theorem rnewest8_any (s : List UInt8) (w : World) (hs : s.length ≤ 9000000000000000000) :
    Calls Tryd.prog 11 #[strV s] w fun en w' => en = .returned (.tuple #[strV (newL s).1, .int .i64 (newL s).2]) ∧ Fr No w w' := by
  have DE := hid (rdecode8_any s w hs)
  unfold DecLPost at DE
  unfold newL
  by_cases h0 : (decL s).2 = 0
  · rw [if_pos h0]
    obtain ⟨h40, hall⟩ := dec_ok h0
    rw [h0] at DE
    have HALL := hid hall
    have H40 := hid h40
    have SD := hid (fun (L : List (EvP × Ev)) q cap w1 (hl : LsAt w1 q L) (hn : L.length ≤ 1000000) => rsaid_any L q cap 3 w1 hl hn)
    have EN := hid (fun (L : List (EvP × Ev)) q cap w1 (hl : LsAt w1 q L) (hn : L.length ≤ 1000000) => rencode8_any L q cap w1 hl hn)
    generalize (decL s).1 = D at DE HALL H40 ⊢
    generalize hR : encL (D.map topS) = R
    have HR := hid hR
    clear h0 h40 hall hs hR
    unfold SaidPost at SD
    unfold strV at *
    go_enter Tryd.func11, Tryd.ntmps11
    go_upto_region 4 with (first | (go_at_call 13; (with_reducible refine DE.out.mono ?_); rintro e1 w1 ⟨L, q, cap, rfl, hm1, hrow1, hf1⟩) | fail)
    have hmay : ∀ p, p ∈ L → mayS p.2 = true := fun p hp => HALL.out p.2 (by rw [← hm1]; exact List.mem_map.2 ⟨p, hp, rfl⟩)
    have hLl : L.length ≤ 40 := by have := H40.out; rw [← hm1, List.length_map] at this; exact this
    have hok : allOK L 3 = true := by rw [allOK_E]; exact okAll_3 (fun e he => by obtain ⟨p, hp, rfl⟩ := List.mem_map.1 he; exact hmay p hp)
    have S1 := SD.out L q cap w1 (hrow1.at_ (fun p hp => ⟨hmay p hp, may_kind (hmay p hp)⟩)) (by omega)
    rw [hok] at S1
    have hD : D.map topS = L.map (fun p => (toR p.2 3).1) := by
      rw [← hm1, List.map_map]
      exact List.map_congr_left (fun p hp => by rw [toR_3 (hmay p hp)]; rfl)
    have S2 : Hid (Calls Tryd.prog 32 #[.slice q L.length cap, .int .u8 3] w1 fun en w' => ∃ (L2 : List (EvP × Ev)) (q2 : Option Addr) (c2 : Nat), en = .returned (.tuple #[.slice q2 L2.length c2, .bool true]) ∧ L2.map Prod.snd = D.map topS ∧ LsRow w1.heap.size w' (.slice q2 L2.length c2) L2 ∧ Fr No w1 w') := hid (S1.mono fun en w' h => by
      rcases h with ⟨_, L2, q2, c2, rfl, hm2, hr2, hf2⟩ | ⟨hc, _⟩
      · exact ⟨L2, q2, c2, rfl, hm2.trans hD.symm, hr2, hf2⟩
      · cases hc)
    have HTM : Hid (∀ x, x ∈ D.map topS → mayS x = true) := hid (fun x hx => by obtain ⟨e, he, rfl⟩ := List.mem_map.1 hx; exact (topS_may (HALL.out e he)).1)
    have HDL : Hid ((D.map topS).length ≤ 40) := hid (by rw [List.length_map]; exact H40.out)
    clear S1 hD hok hLl hmay hm1 hrow1
    go_upto_region 5 with (first | (go_at_call 32; (with_reducible refine S2.out.mono ?_); rintro e2 w2 ⟨L2, q2, c2, rfl, hm2, hrow2, hf2⟩) | fail)
    have hmay2 : ∀ p, p ∈ L2 → mayS p.2 = true := fun p hp => HTM.out p.2 (by rw [← hm2]; exact List.mem_map.2 ⟨p, hp, rfl⟩)
    have hl2 : L2.length ≤ 40 := by have := HDL.out; rw [← hm2, List.length_map] at this; exact this
    have E2 := hid (EN.out L2 q2 c2 w2 (hrow2.at_ (fun p hp => ⟨hmay2 p hp, may_kind (hmay2 p hp)⟩)) (by omega))
    rw [hm2, HR.out] at E2
    clear hm2 hmay2 hl2 hrow2
    go_wp2_with (first | (go_at_call 28; (with_reducible refine E2.out.mono ?_); rintro e3 w3 ⟨rfl, hf3⟩) | fail)
    go_ret2
    exact ⟨rfl, (hf1.trans hf2).trans hf3⟩
  · rw [if_neg h0]
    have t1 : (((decL s).2 : Int) != 0) = true := by simpa using h0
    generalize (decL s).2 = k at DE t1 ⊢
    clear h0 hs
    unfold strV at *
    go_enter Tryd.func11, Tryd.ntmps11
    go_wp2_with (first | (go_at_call 13; (with_reducible refine DE.out.mono ?_); rintro e1 w1 ⟨L, q, cap, rfl, hm1, hrow1, hf1⟩) | fail)
    go_ret2
    exact ⟨rfl, hf1⟩

theorem ls_may {L : List (EvP × Ev)} {B : Nat} {w : World} {q : Option Addr} {n cap : Nat} (h : LsRow B w (.slice q n cap) L) (hm : ∀ e, e ∈ L.map Prod.snd → mayS e = true) : LsAt w q L :=
  h.at_ (fun p hp => ⟨hm p.2 (List.mem_map.2 ⟨p, hp, rfl⟩), may_kind (hm p.2 (List.mem_map.2 ⟨p, hp, rfl⟩))⟩)
theorem sayL_none {l : List Ev} {v : Nat} (h : (encL l).2 = 0) (ho : lowE l v = none) : sayL l v = ([], 43) := by unfold sayL; rw [if_pos h, ho]
theorem sayL_some {l : List Ev} {v u : Nat} (h : (encL l).2 = 0) (ho : lowE l v = some u) : sayL l v = encL (l.map fun e => (toR e u).1) := by unfold sayL; rw [if_pos h, ho]
theorem sayL_err {l : List Ev} {v : Nat} (h : (encL l).2 ≠ 0) : sayL l v = ([], (encL l).2) := by unfold sayL; rw [if_neg h]

set_option maxHeartbeats 8000000 in
set_option maxRecDepth 100000 in
theorem bsay_any (l : List (EvP × Ev)) (q : Option Addr) (cap v : Nat) (w : World) (hl : LsAt w q l) (hkt : KT w) (hn : l.length ≤ 1000000) (hv : v ≤ 255) :
    Calls Tryd.prog 20 #[.slice q l.length cap, .int .u8 v] w fun en w' => en = .returned (.tuple #[strV (sayL (l.map Prod.snd) v).1, .int .i64 (sayL (l.map Prod.snd) v).2]) ∧ Fr No w w' := by
  have EN := hid (bencode_any l q cap w hl hkt hn)
  by_cases h0 : (encL (l.map Prod.snd)).2 = 0
  · have hm := enc_ok h0
    obtain ⟨_, h40, hall⟩ := mayL_parts hm
    have hbad : anyBad l = false := by
      unfold anyBad
      rw [List.any_eq_false]
      intro p hp
      simp [(hall p.2 (List.mem_map.2 ⟨p, hp, rfl⟩)).2]
    have LW := hid (fun w1 (h : Fr No w w1) => lowest_any l q cap v w1 (hl.fr h) (hkt.fr h) hn hv)
    have HBAD := hid hbad
    rw [h0] at EN
    rcases ho : lowE (l.map Prod.snd) v with _ | u
    · have HSL := hid (sayL_none h0 ho)
      rw [HSL.out]
      have LN : Hid (∀ w1, Fr No w w1 → Calls Tryd.prog 46 #[.slice q l.length cap, .int .u8 v] w1 fun en w' => en = .returned (.tuple #[.int .u8 0, .slice none 0 0, .int .i64 43]) ∧ Fr No w1 w') := hid (fun w1 h => (LW.out w1 h).mono fun en w' hp => by
        obtain ⟨hf, ⟨hb, _⟩ | ⟨_, _, he⟩ | ⟨_, u, _, _, _, hu, _⟩⟩ := hp
        · rw [HBAD.out] at hb; cases hb
        · exact ⟨he, hf⟩
        · rw [lowO_E, ho] at hu; cases hu)
      clear LW hm h40 hall hbad hl hkt hn hv h0 ho HBAD
      generalize (encL (l.map Prod.snd)).1 = E at EN
      unfold strV at *
      go_enter Tryd.func20, Tryd.ntmps20
      go_wp2_with (first
        | (go_at_call 17; (with_reducible refine EN.out.mono ?_); rintro e1 w1 ⟨rfl, hf1⟩)
        | (go_at_call 46; (with_reducible refine (LN.out _ hf1).mono ?_); rintro e2 w2 ⟨rfl, hf2⟩)
        | fail)
      go_ret2
      exact ⟨rfl, hf1.trans hf2⟩
    · have HSL := hid (sayL_some h0 ho)
      rw [HSL.out]
      have hu := lowE_some ho
      have LN : Hid (∀ w1, Fr No w w1 → Calls Tryd.prog 46 #[.slice q l.length cap, .int .u8 v] w1 fun en w' => ∃ (L : List (EvP × Ev)) (q2 : Option Addr) (c2 : Nat), en = .returned (.tuple #[.int .u8 u, .slice q2 L.length c2, .int .i64 0]) ∧ L.map Prod.snd = (l.map Prod.snd).map (fun e => (toR e u).1) ∧ LsRow w1.heap.size w' (.slice q2 L.length c2) L ∧ Fr No w1 w') := hid (fun w1 h => (LW.out w1 h).mono fun en w' hp => by
        obtain ⟨hf, ⟨hb, _⟩ | ⟨_, hu, _⟩ | ⟨_, u', L, q2, c2, hu, he, hm2, hr2⟩⟩ := hp
        · rw [HBAD.out] at hb; cases hb
        · rw [lowO_E, ho] at hu; cases hu
        · rw [lowO_E, ho] at hu
          obtain rfl : u = u' := Option.some.inj hu
          exact ⟨L, q2, c2, he, by rw [hm2, List.map_map]; rfl, hr2, hf⟩)
      have HTM : Hid (∀ x, x ∈ (l.map Prod.snd).map (fun e => (toR e u).1) → mayS x = true) := hid (fun x hx => by
        obtain ⟨e, he, rfl⟩ := List.mem_map.1 hx
        have := List.all_eq_true.1 (show (l.map Prod.snd).all (fun e => decide ((toR e u).2 = 0)) = true from hu.2.2.2) e he
        exact (toR_may (by simpa using this)).2.2.2.1)
      have HDL : Hid (((l.map Prod.snd).map (fun e => (toR e u).1)).length ≤ 40) := hid (by rw [List.length_map]; exact h40)
      have E2 := hid (fun (L : List (EvP × Ev)) q2 c2 w1 (hl : LsAt w1 q2 L) (hn : L.length ≤ 1000000) (hf : Fr No w w1) => bencode_any L q2 c2 w1 hl (hkt.fr hf) hn)
      clear LW hm h40 hall hbad hl hkt hn hv h0 ho HBAD hu
      generalize (encL (l.map Prod.snd)).1 = E at EN
      generalize (l.map Prod.snd).map (fun e => (toR e u).1) = M at LN HTM HDL ⊢
      generalize hR : encL M = R
      have HR := hid hR
      clear hR
      unfold strV at *
      go_enter Tryd.func20, Tryd.ntmps20
      go_upto_region 7 with (first
        | (go_at_call 17; (with_reducible refine EN.out.mono ?_); rintro e1 w1 ⟨rfl, hf1⟩)
        | (go_at_call 46; (with_reducible refine (LN.out _ hf1).mono ?_); rintro e2 w2 ⟨L, q2, c2, rfl, hm2, hrow2, hf2⟩)
        | fail)
      have hl2 : L.length ≤ 40 := by have := HDL.out; rw [← hm2, List.length_map] at this; exact this
      have E3 := hid (E2.out L q2 c2 w2 (ls_may hrow2 (fun e he => HTM.out e (by rw [← hm2]; exact he))) (by omega) (hf1.trans hf2))
      rw [hm2, HR.out] at E3
      clear hm2 hl2 hrow2 E2
      go_wp2_with (first | (go_at_call 17; (with_reducible refine E3.out.mono ?_); rintro e3 w3 ⟨rfl, hf3⟩) | fail)
      go_ret2
      exact ⟨rfl, (hf1.trans hf2).trans hf3⟩
  · have HSL := hid (sayL_err (v := v) h0)
    rw [HSL.out]
    have t1 : (((encL (l.map Prod.snd)).2 : Int) != 0) = true := by simpa using h0
    generalize encL (l.map Prod.snd) = E at EN t1 ⊢
    clear hl hkt hn hv h0 HSL
    unfold strV at *
    go_enter Tryd.func20, Tryd.ntmps20
    go_wp2_with (first | (go_at_call 17; (with_reducible refine EN.out.mono ?_); rintro e1 w1 ⟨rfl, hf1⟩) | fail)
    go_ret2
    exact ⟨rfl, hf1⟩

set_option maxHeartbeats 8000000 in
set_option maxRecDepth 100000 in
theorem rsay8_any (l : List (EvP × Ev)) (q : Option Addr) (cap v : Nat) (w : World) (hl : LsAt w q l) (hn : l.length ≤ 1000000) (hv : v ≤ 255) :
    Calls Tryd.prog 29 #[.slice q l.length cap, .int .u8 v] w fun en w' => en = .returned (.tuple #[strV (sayL (l.map Prod.snd) v).1, .int .i64 (sayL (l.map Prod.snd) v).2]) ∧ Fr No w w' := by
  have EN := hid (rencode8_any l q cap w hl hn)
  by_cases h0 : (encL (l.map Prod.snd)).2 = 0
  · rw [h0] at EN
    by_cases hv1 : v < 1
    · obtain rfl : v = 0 := by omega
      have HSL := hid (sayL_none h0 (lowE_zero _))
      rw [HSL.out]
      generalize (encL (l.map Prod.snd)).1 = E at EN
      clear hl hn hv h0 HSL hv1
      unfold strV at *
      go_enter Tryd.func29, Tryd.ntmps29
      go_wp2_with (first | (go_at_call 28; (with_reducible refine EN.out.mono ?_); rintro e1 w1 ⟨rfl, hf1⟩) | fail)
      go_ret2
      exact ⟨rfl, hf1⟩
    · by_cases hv3 : 3 < v
      · have HSL := hid (sayL_none h0 (lowE_big hv3))
        rw [HSL.out]
        have t2 : decide ((v : Int) < 1) = false := by simp; omega
        have t3 : decide ((3 : Int) < (v : Int)) = true := by simp; omega
        generalize (encL (l.map Prod.snd)).1 = E at EN
        clear hl hn hv h0 HSL hv1 hv3
        unfold strV at *
        go_enter Tryd.func29, Tryd.ntmps29
        go_wp2_with (first | (go_at_call 28; (with_reducible refine EN.out.mono ?_); rintro e1 w1 ⟨rfl, hf1⟩) | fail)
        go_ret2
        exact ⟨rfl, hf1⟩
      · have t2 : decide ((v : Int) < 1) = false := by simp; omega
        have t3 : decide ((3 : Int) < (v : Int)) = false := by simp; omega
        obtain ⟨_, h40, _⟩ := mayL_parts (enc_ok h0)
        have SD := hid (fun x w1 (h : Fr No w w1) => rsaid_any l q cap x w1 (hl.fr h) hn)
        have E2 := hid (fun (L : List (EvP × Ev)) q2 c2 w1 (hl : LsAt w1 q2 L) (hn : L.length ≤ 1000000) => rencode8_any L q2 c2 w1 hl hn)
        have H0 := hid h0
        have HV := hid (And.intro (show 1 ≤ v by omega) (show v ≤ 3 by omega))
        have H40 := hid h40
        generalize hS : sayL (l.map Prod.snd) v = S
        have HS := hid hS
        generalize (encL (l.map Prod.snd)).1 = E at EN
        have hv3' : v ≤ 3 := by omega
        clear hl hn hv h0 hv1 hv3 hS h40
        unfold SaidPost at SD
        unfold strV at *
        go_enter Tryd.func29, Tryd.ntmps29
        go_upto_region 6 with (first | (go_at_call 28; (with_reducible refine EN.out.mono ?_); rintro e1 w1 ⟨rfl, hf1⟩) | fail)
        go_wp2_with fail
        go_loopg [8] 4 (fun k xv wr => ∃ x : Nat, xv = .int .u8 x ∧ v ≤ x ∧ x ≤ 4 ∧ 4 ≤ x + k ∧ Hid (lowE (l.map Prod.snd) v = lowE (l.map Prod.snd) x) ∧ Fr No w wr)
        case atStart => exact ⟨v, rfl, Nat.le_refl _, by omega, by omega, hid rfl, hf1⟩
        case round =>
          obtain ⟨x, rfl, hx1, hx4, hk, HX, hf⟩ := hrel
          by_cases hx3 : x ≤ 3
          · have t4 : decide ((x : Int) ≤ 3) = true := by simp; omega
            have hx255 : (x : Int) + 1 ≤ 255 := by omega
            have hx0 : (0 : Int) ≤ (x : Int) := by omega
            have S1 := hid (SD.out x wr hf)
            rcases hok : allOK l x with _ | _
            · have S2 : Hid (Calls Tryd.prog 32 #[.slice q l.length cap, .int .u8 x] wr fun en w' => en = .returned (.tuple #[.slice none 0 0, .bool false]) ∧ Fr No wr w') := hid (S1.out.mono fun en w' h => by
                rcases h with ⟨hc, _⟩ | ⟨_, h1, h2⟩
                · rw [hok] at hc; cases hc
                · exact ⟨h1, h2⟩)
              have HX2 : Hid (lowE (l.map Prod.snd) v = lowE (l.map Prod.snd) (x + 1)) := hid (by
                rw [HX.out, lowE_step (Nat.le_trans HV.out.1 hx1) hx3, ← allOK_E, hok]; rfl)
              clear S1 hok
              go_wp2_with (first | (go_at_call 32; (with_reducible refine S2.out.mono ?_); rintro e2 w2 ⟨rfl, hf2⟩) | fail)
              go_roundg (gk - 1)
              case measure => omega
              case rel => exact ⟨x + 1, by go_num, by omega, by omega, by omega, HX2, hf.trans hf2⟩
            · have S2 : Hid (Calls Tryd.prog 32 #[.slice q l.length cap, .int .u8 x] wr fun en w' => ∃ (L : List (EvP × Ev)) (q2 : Option Addr) (c2 : Nat), en = .returned (.tuple #[.slice q2 L.length c2, .bool true]) ∧ L.map Prod.snd = (l.map Prod.snd).map (fun e => (toR e x).1) ∧ LsRow wr.heap.size w' (.slice q2 L.length c2) L ∧ Fr No wr w') := hid (S1.out.mono fun en w' h => by
                rcases h with ⟨_, L, q2, c2, h1, h2, h3, h4⟩ | ⟨hc, _⟩
                · exact ⟨L, q2, c2, h1, by rw [h2, List.map_map]; rfl, h3, h4⟩
                · rw [hok] at hc; cases hc)
              have HSX : Hid (encL ((l.map Prod.snd).map fun e => (toR e x).1) = S) := hid (by
                rw [← HS.out, sayL_some H0.out (by rw [HX.out, lowE_step (Nat.le_trans HV.out.1 hx1) hx3, ← allOK_E, hok]; rfl)])
              have HTM : Hid (∀ y, y ∈ (l.map Prod.snd).map (fun e => (toR e x).1) → mayS y = true) := hid (fun y hy => by
                obtain ⟨e, he, rfl⟩ := List.mem_map.1 hy
                rw [allOK_E] at hok
                have := List.all_eq_true.1 (show (l.map Prod.snd).all (fun e => decide ((toR e x).2 = 0)) = true from hok) e he
                exact (toR_may (by simpa using this)).2.2.2.1)
              have HDL : Hid (((l.map Prod.snd).map (fun e => (toR e x).1)).length ≤ 40) := hid (by rw [List.length_map]; exact H40.out)
              generalize (l.map Prod.snd).map (fun e => (toR e x).1) = M at S2 HSX HTM HDL
              clear S1 hok hx3
              go_upto_region 11 with (first | (go_at_call 32; (with_reducible refine S2.out.mono ?_); rintro e2 w2 ⟨L, q2, c2, rfl, hm2, hrow2, hf2⟩) | fail)
              have hl2 : L.length ≤ 40 := by have := HDL.out; rw [← hm2, List.length_map] at this; exact this
              have E3 := hid (E2.out L q2 c2 w2 (ls_may hrow2 (fun e he => HTM.out e (by rw [← hm2]; exact he))) (by omega))
              rw [hm2, HSX.out] at E3
              clear hm2 hl2 hrow2 E2
              go_wp2_with (first | (go_at_call 28; (with_reducible refine E3.out.mono ?_); rintro e3 w3 ⟨rfl, hf3⟩) | fail)
              go_ret2
              exact ⟨rfl, (hf.trans hf2).trans hf3⟩
          · obtain rfl : x = 4 := by omega
            have HSX : Hid (S = ([], 43)) := hid (by
              rw [← HS.out, sayL_none H0.out (by rw [HX.out]; exact lowE_big (by decide))])
            clear hx3
            go_wp2_with fail
            go_ret2
            rw [HSX.out]
            exact ⟨rfl, hf⟩
  · have HSL := hid (sayL_err (v := v) h0)
    rw [HSL.out]
    have t1 : (((encL (l.map Prod.snd)).2 : Int) != 0) = true := by simpa using h0
    generalize encL (l.map Prod.snd) = E at EN t1 ⊢
    clear hl hn hv h0 HSL
    unfold strV at *
    go_enter Tryd.func29, Tryd.ntmps29
    go_wp2_with (first | (go_at_call 28; (with_reducible refine EN.out.mono ?_); rintro e1 w1 ⟨rfl, hf1⟩) | fail)
    go_ret2
    exact ⟨rfl, hf1⟩

theorem evC_set (p : EvP × Ev) : ∀ (M : List (EvP × Ev)) (i : Nat), i < M.length →
    ((((M.flatMap evC).set (i * 4) (.int .u8 p.2.v)).set (i * 4 + 1) (.int .u8 p.2.kind)).set (i * 4 + 2) (.slice p.1.qn p.2.nums.length p.1.cn)).set (i * 4 + 3) (.slice p.1.qt p.2.texts.length p.1.ct) = (M.set i p).flatMap evC
  | [], i, h => absurd h (Nat.not_lt_zero _)
  | x :: M, 0, _ => by
    rw [List.set_cons_zero, List.flatMap_cons, List.flatMap_cons]
    simp [evC]
  | x :: M, i + 1, h => by
    rw [List.set_cons_succ, List.flatMap_cons, List.flatMap_cons, ← evC_set p M i (by simpa using h)]
    have hx : (evC x).length = 4 := rfl
    rw [List.set_append_right _ _ (by omega), List.set_append_right _ _ (by omega), List.set_append_right _ _ (by omega), List.set_append_right _ _ (by omega), hx,
      show (i + 1) * 4 - 4 = i * 4 by omega, show (i + 1) * 4 + 1 - 4 = i * 4 + 1 by omega, show (i + 1) * 4 + 2 - 4 = i * 4 + 2 by omega, show (i + 1) * 4 + 3 - 4 = i * 4 + 3 by omega]
theorem evC_len (M : List (EvP × Ev)) : (M.flatMap evC).length = M.length * 4 := by
  induction M with
  | nil => rfl
  | cons x M ih =>
    have hx : (evC x).length = 4 := rfl
    rw [List.flatMap_cons, List.length_append, ih, hx, List.length_cons]
    omega

/-- Four cells of a row. -/
def put4 (w : World) (g i : Nat) (p : EvP × Ev) : World := (((w.setCell ⟨g, i, none⟩ (.int .u8 p.2.v)).setCell ⟨g, i + 1, none⟩ (.int .u8 p.2.kind)).setCell ⟨g, i + 2, none⟩ (.slice p.1.qn p.2.nums.length p.1.cn)).setCell ⟨g, i + 3, none⟩ (.slice p.1.qt p.2.texts.length p.1.ct)
theorem put4_fr (w : World) (g i : Nat) (p : EvP × Ev) : Fr (Only g) w (put4 w g i p) := ((((Fr.refl w).set_only _ _).set_only _ _).set_only _ _).set_only _ _
theorem LsRow.set {B : Nat} {wr w5 : World} {g cap : Nat} {M : List (EvP × Ev)} {p : EvP × Ev} {i : Nat} (hr : LsRow B wr (.slice (some ⟨g, 0, none⟩) M.length cap) M) (h5 : LsRow B w5 (.slice (some ⟨g, 0, none⟩) M.length cap) M) (hn : EvNew wr.heap.size w5 p.1 p.2) (hB : B ≤ wr.heap.size) (hi : i < M.length) :
    LsRow B (put4 w5 g (i * 4) p) (.slice (some ⟨g, 0, none⟩) M.length cap) (M.set i p) := by
  have hown := h5.own
  rcases hown.2 with ⟨h1, h2⟩ | ⟨g', cap', cur, h1, hb, hg, hnc, hcm, hcs, htk⟩
  · cases h1
  · obtain ⟨rfl, rfl⟩ : g = g' ∧ cap = cap' := by simpa using h1
    have hsz : i * 4 + 3 < cur.size := by omega
    have e1 := heap_setCell_at (i := i * 4) (.int .u8 p.2.v) hg
    have e2 := heap_setCell_at (i := i * 4 + 1) (.int .u8 p.2.kind) e1
    have e3 := heap_setCell_at (i := i * 4 + 2) (.slice p.1.qn p.2.nums.length p.1.cn) e2
    have e4 := heap_setCell_at (i := i * 4 + 3) (.slice p.1.qt p.2.texts.length p.1.ct) e3
    have hf := put4_fr w5 g (i * 4) p
    have notg : ∀ (k : Nat) (cu : Array Value) (t : TypeId), w5.heap[k]? = some (.cells cu t (0, 0)) → (t = 2 ∨ t = 9) → ¬ Only g k := fun k cu t hk ht hx => by
      obtain rfl : k = g := hx
      rw [hg] at hk
      cases hk
      rcases ht with h | h <;> exact absurd h (by decide)
    have hev : ∀ x, x ∈ M.set i p → EvNew B (put4 w5 g (i * 4) p) x.1 x.2 := fun x hx => by
      have hx5 : EvNew B w5 x.1 x.2 := by
        rcases List.mem_or_eq_of_mem_set hx with hx | rfl
        · exact h5.evs x hx
        · exact hn.mono hB
      exact ⟨hx5.nums.frTy hf (fun k cur hk => notg k cur _ hk (.inl rfl)), hx5.texts.frTy hf (fun k cur hk => notg k cur _ hk (.inr rfl))⟩
    refine ⟨⟨?_, .inr ⟨g, cap, _, by rw [List.length_set], hb, e4, by rw [List.length_set]; exact hnc, hcm, by simpa using hcs, ?_⟩⟩, h5.new, hev, fun x hx k hk => ((hev x hx).inB hk).2, fun a b x y hab ha hb' k hk hk' => ?_⟩
    · rw [evC_len, List.length_set]
    · rw [List.length_set] at *
      rw [← evC_set p M i hi, ← htk]
      simp only [Array.toList_setIfInBounds, List.take_set]
    · rw [List.getElem?_set] at ha hb'
      by_cases hia : i = a
      · rw [if_pos hia, if_pos hi] at ha
        rw [if_neg (by omega)] at hb'
        obtain rfl : p = x := by simpa using ha
        have h1 := (hn.inB hk).1
        have h2 := hr.lt y (List.mem_of_getElem? hb') k hk'
        omega
      · rw [if_neg hia] at ha
        by_cases hib : i = b
        · rw [if_pos hib, if_pos hi] at hb'
          obtain rfl : p = y := by simpa using hb'
          have h1 := (hn.inB hk').1
          have h2 := hr.lt x (List.mem_of_getElem? ha) k hk
          omega
        · rw [if_neg hib] at hb'
          exact hr.ap a b x y hab ha hb' k hk hk'

/-- The row when m of its events have been lifted. -/
structure UpRow (w wr : World) (q : Option Addr) (cap : Nat) (D : List Ev) (m : Nat) (M : List (EvP × Ev)) : Prop where
  len : M.length = D.length
  evs : M.map Prod.snd = (D.take m).map topS ++ D.drop m
  row : LsRow w.heap.size wr (.slice q M.length cap) M
theorem UpRow.at_ {w wr : World} {q : Option Addr} {cap m : Nat} {D : List Ev} {M : List (EvP × Ev)} (h : UpRow w wr q cap D m M) (hm : m < D.length) (hall : ∀ e, e ∈ D → mayS e = true) :
    ∃ s e, M[m]? = some (s, e) ∧ mayS e = true ∧ EvAt wr s e ∧ D[m]? = some e ∧ ∃ g, q = some ⟨g, 0, none⟩ ∧ wr.cell? ⟨g, m * 4, none⟩ = some (.int .u8 e.v) ∧ wr.cell? ⟨g, m * 4 + 1, none⟩ = some (.int .u8 e.kind) ∧
      wr.cell? ⟨g, m * 4 + 2, none⟩ = some (.slice s.qn e.nums.length s.cn) ∧ wr.cell? ⟨g, m * 4 + 3, none⟩ = some (.slice s.qt e.texts.length s.ct) := by
  have hml : m < M.length := by rw [h.len]; exact hm
  obtain ⟨⟨s, e⟩, hse⟩ : ∃ p, M[m]? = some p := ⟨_, List.getElem?_eq_getElem hml⟩
  have h1 : (M.map Prod.snd)[m]? = some e := by rw [List.getElem?_map, hse]; rfl
  have hDe : D[m]? = some e := by
    rw [h.evs, List.getElem?_append_right (by simp; omega), List.length_map, List.length_take, Nat.min_eq_left (Nat.le_of_lt hm), Nat.sub_self, List.getElem?_drop, Nat.add_zero] at h1
    exact h1
  have hme := hall e (List.mem_of_getElem? hDe)
  obtain ⟨g, hq, c0, c1, c2, c3⟩ := h.row.cells hse
  rw [Nat.zero_add] at c0 c1 c2 c3
  exact ⟨s, e, hse, hme, (h.row.evs _ (List.mem_of_getElem? hse)).may hme (may_kind hme), hDe, g, hq, c0, c1, c2, c3⟩
theorem UpRow.next {w wr w5 : World} {g cap m : Nat} {D : List Ev} {M : List (EvP × Ev)} {s5 : EvP} {e : Ev} (h : UpRow w wr (some ⟨g, 0, none⟩) cap D m M) (hD : D[m]? = some e) (hf : Fr No wr w5) (hn : EvNew wr.heap.size w5 s5 (topS e)) (hB : w.heap.size ≤ wr.heap.size) :
    UpRow w (put4 w5 g (m * 4) (s5, topS e)) (some ⟨g, 0, none⟩) cap D (m + 1) (M.set m (s5, topS e)) := by
  have hm := (List.getElem?_eq_some_iff.1 hD).1
  refine ⟨by rw [List.length_set]; exact h.len, ?_, ?_⟩
  · rw [List.map_set, h.evs, List.take_succ_eq_append_getElem hm, (List.getElem?_eq_some_iff.1 hD).2, List.map_append]
    have hl : ((D.take m).map topS).length = m := by simp; omega
    rw [List.set_append_right _ _ (by omega), hl, Nat.sub_self, List.drop_eq_getElem_cons hm, List.set_cons_zero, List.append_assoc]
    rfl
  · rw [List.length_set]
    exact LsRow.set h.row (h.row.fr hf) hn hB (by rw [h.len]; exact hm)

set_option maxHeartbeats 8000000 in
set_option maxRecDepth 100000 in
theorem bnewest_any (s : List UInt8) (w : World) (hkt : KT w) (hs : s.length ≤ 9000000000000000000) :
    Calls Tryd.prog 10 #[strV s] w fun en w' => en = .returned (.tuple #[strV (newL s).1, .int .i64 (newL s).2]) ∧ Fr No w w' := by
  have DE := hid (bdecode_any s w hkt hs)
  unfold newL
  by_cases h0 : (decL s).2 = 0
  · rw [if_pos h0]
    obtain ⟨h40, hall⟩ := dec_ok h0
    have DE0 : Hid (Calls Tryd.prog 12 #[strV s] w fun en w' => ∃ (L : List (EvP × Ev)) (q : Option Addr) (cap : Nat), en = .returned (.tuple #[.slice q L.length cap, .int .i64 0]) ∧ L.map Prod.snd = (decL s).1 ∧ LsRow w.heap.size w' (.slice q L.length cap) L ∧ Fr No w w') := by rw [h0] at DE; exact DE
    have HALL := hid hall
    have H40 := hid h40
    have NE := hid (fun s e w1 (he : EvAt w1 s e) (hk : KT w1) => newest_any s e w1 he hk)
    have EN := hid (fun (L : List (EvP × Ev)) q cap w1 (hl : LsAt w1 q L) (hk : KT w1) (hn : L.length ≤ 1000000) => bencode_any L q cap w1 hl hk hn)
    have HKT := hid (fun w1 (h : Fr No w w1) => hkt.fr h)
    generalize (decL s).1 = D at DE0 HALL H40 ⊢
    generalize hR : encL (D.map topS) = R
    have HR := hid hR
    clear h0 h40 hall hs hR DE hkt
    unfold UpPost at NE
    unfold strV at *
    go_enter Tryd.func10, Tryd.ntmps10
    go_upto_region 4 with (first | (go_at_call 12; (with_reducible refine DE0.out.mono ?_); rintro e1 w1 ⟨L, q, cap, rfl, hm1, hrow1, hf1⟩) | fail)
    have hLD : L.length = D.length := by rw [← hm1, List.length_map]
    have hD40 := H40.out
    have HU1 : Hid (UpRow w w1 q cap D 0 L) := hid ⟨hLD, by rw [hm1]; simp, hrow1⟩
    rw [hLD]
    have HLD := hid hLD
    clear hm1 hrow1 hLD DE0
    go_wp2_with fail
    go_loopg [5, 18] D.length (fun gk kv iv wr => ∃ (m : Nat) (M : List (EvP × Ev)), kv = .int .i64 0 ∧ iv = .int .i64 m ∧ m ≤ D.length ∧ D.length ≤ m + gk ∧ Hid (UpRow w wr q cap D m M) ∧ Fr No w wr)
    case atStart => exact ⟨0, L, rfl, rfl, Nat.zero_le _, by omega, HU1, hf1⟩
    case round =>
      obtain ⟨m, M, rfl, rfl, hm, hk, HU, hf⟩ := hrel
      by_cases hlt : m < D.length
      · obtain ⟨s, e, hse, hme, he, hDe, g, rfl, c0, c1, c2, c3⟩ := HU.out.at_ hlt HALL.out
        have i1 : (m : Int) < (D.length : Int) := by omega
        have i2 : (0 : Int) ≤ (m : Int) := by omega
        have i4 : (m : Int) + 1 ≤ 41 := by omega
        have HF0 := hid ((Fr.refl (X := No) wr).alloc (.cells #[.int .u8 e.v, .int .u8 e.kind, .slice s.qn e.nums.length s.cn, .slice s.qt e.texts.length s.ct] 34))
        have N1 : Hid (Calls Tryd.prog 31 #[evV s e] (wr.alloc (.cells #[.int .u8 e.v, .int .u8 e.kind, .slice s.qn e.nums.length s.cn, .slice s.qt e.texts.length s.ct] 34)) fun en w' => ∃ s5, en = .returned (.tuple #[evV s5 (topS e), .int .i64 0]) ∧ EvNew wr.heap.size w' s5 (topS e) ∧ Fr No (wr.alloc (.cells #[.int .u8 e.v, .int .u8 e.kind, .slice s.qn e.nums.length s.cn, .slice s.qt e.texts.length s.ct] 34)) w') := hid (by
          have h := NE.out s e _ (he.fr HF0.out) (HKT.out _ (hf.trans HF0.out))
          unfold newestR at h
          rw [if_pos hme] at h
          exact h.mono fun en w' ⟨s5, h1, h2, h3⟩ => ⟨s5, h1, h2.mono (by simp), h3⟩)
        have hgh : ∃ cs, wr.heap[g]? = some (.cells cs 34 (0, 0)) := by
          rcases HU.out.row.own.2 with ⟨h1, h2⟩ | ⟨g', cap', cur, h1, hb, hg, _⟩
          · cases h1
          · obtain ⟨rfl, _⟩ : g = g' ∧ cap = cap' := by simpa using h1
            exact ⟨cur, hg⟩
        obtain ⟨cs, hg⟩ := hgh
        have HG := hid hg
        have HDe := hid hDe
        have HC := hid (fun w5 (h : Fr No wr w5) => (And.intro (h.cell0 c0) (And.intro (h.cell0 c1) (And.intro (h.cell0 c2) (h.cell0 c3)))))
        have HFZ := hid (fun w5 (h : Fr No wr w5) i => (show w5.frozen? ⟨g, i, none⟩ = false by simp [World.frozen?, h.heap0 hg]))
        have HNX := hid (fun w5 s5 (h : Fr No wr w5) (hn : EvNew wr.heap.size w5 s5 (topS e)) => HU.out.next hDe h hn hf.size)
        generalize topS e = T at N1 HNX
        clear hse hme he hDe hg
        unfold evV at N1
        go_wp2_with (first
          | (go_at_call 31; (with_reducible refine N1.out.mono ?_); rintro e5 w5 ⟨s5, rfl, hn5, hf5⟩; have hf05 := HF0.out.trans hf5; obtain ⟨d0, d1, d2, d3⟩ := HC.out w5 hf05; have f0 := HFZ.out w5 hf05 (m * 4); have f1 := HFZ.out w5 hf05 (m * 4 + 1); have f2 := HFZ.out w5 hf05 (m * 4 + 2); have f3 := HFZ.out w5 hf05 (m * 4 + 3))
          | fail)
        have hU2 := HNX.out w5 s5 hf05 hn5
        have hf6 := (hf.trans hf05).newOnly (HU.out.row.new g rfl) (put4_fr w5 g (m * 4) (s5, T))
        go_roundg (gk - 1)
        case measure => omega
        case rel => exact ⟨m + 1, M.set m (s5, T), rfl, by go_num, by omega, by omega, hid hU2, hf6⟩
      · obtain rfl : m = D.length := by omega
        have hev := HU.out.evs
        rw [List.take_length, List.drop_length, List.append_nil] at hev
        have hl := HU.out.len
        have E2 := hid (EN.out M q cap wr (ls_may HU.out.row (fun e he => by
          rw [hev] at he
          obtain ⟨x, hx, rfl⟩ := List.mem_map.1 he
          exact (topS_may (HALL.out x hx)).1)) (HKT.out _ hf) (by omega))
        rw [hev, hl, HR.out] at E2
        clear hev hl
        go_wp2_with (first | (go_at_call 17; (with_reducible refine E2.out.mono ?_); rintro e3 w3 ⟨rfl, hf3⟩) | fail)
        go_ret2
        exact ⟨rfl, hf.trans hf3⟩
  · rw [if_neg h0]
    have t1 : (((decL s).2 : Int) != 0) = true := by simpa using h0
    generalize (decL s).2 = k at DE t1 ⊢
    clear h0 hs
    unfold strV at *
    go_enter Tryd.func10, Tryd.ntmps10
    go_wp2_with (first | (go_at_call 12; (with_reducible refine DE.out.mono ?_); rintro e1 w1 ⟨L, q, cap, rfl, hm1, hrow1, hf1⟩) | fail)
    go_ret2
    exact ⟨rfl, hf1⟩
end Go.Proofs.YtnmfmedoocnofaaDoor
