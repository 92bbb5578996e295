/-
  What codec's taker reads, in plain words; of, its closure, number, name: the walks. No statement of the seat is proved here.
-/
import Derived.Test.YtnmfmedoocnofaaDoorBEnc
import Derived.Deep.RegionHeld3
import Derived.Laws.EntriesVeiled
namespace Go.Proofs.YtnmfmedoocnofaaDoor
open Go.RowKit

/-- The taker's error behind a reading. -/
def lookE (r : Rd) (ok : Bool) : Nat := if r.e = 0 then (if ok then 0 else 4) else r.e
/-- A number of a class: the taker's error and the reader go along. -/
def numT (v : Nat) (c : UInt8) (st : Nat × Rd) : Int × (Nat × Rd) :=
  if st.1 = 0 then (((rSh (boundS v c.toNat).2.1.toNat st.2).1 : Int), (lookE (rSh (boundS v c.toNat).2.1.toNat st.2).2 (fitsS v c.toNat ((rSh (boundS v c.toNat).2.1.toNat st.2).1 : Int)), (rSh (boundS v c.toNat).2.1.toNat st.2).2)) else (0, st)
def nameT (st : Nat × Rd) : List UInt8 × (Nat × Rd) :=
  if st.1 = 0 then ((rTx 24 st.2).1, (lookE (rTx 24 st.2).2 (mayNameS (rTx 24 st.2).1), (rTx 24 st.2).2)) else ([], st)
def numsT (v : Nat) : List UInt8 → Nat × Rd → List Int × (Nat × Rd)
  | [], st => ([], st)
  | c :: l, st => ((numT v c st).1 :: (numsT v l (numT v c st).2).1, (numsT v l (numT v c st).2).2)
theorem numsT_snoc (v : Nat) (c : UInt8) : ∀ (l : List UInt8) (st : Nat × Rd), numsT v (l ++ [c]) st = ((numsT v l st).1 ++ [(numT v c (numsT v l st).2).1], (numT v c (numsT v l st).2).2)
  | [], st => rfl
  | a :: l, st => by
    show ((numT v a st).1 :: (numsT v (l ++ [c]) (numT v a st).2).1, (numsT v (l ++ [c]) (numT v a st).2).2) = _
    rw [numsT_snoc v c l (numT v a st).2]
    rfl
theorem numsT_length (v : Nat) : ∀ (l : List UInt8) (st : Nat × Rd), (numsT v l st).1.length = l.length
  | [], _ => rfl
  | a :: l, st => by
    show (numsT v l (numT v a st).2).1.length + 1 = _
    rw [numsT_length v l]
    rfl
theorem bound_hi (v c : Nat) : 0 ≤ (boundS v c).2.1 := by
  unfold boundS
  split <;> decide

/-- A taker: its own block, its variable's, and the reader's variable's. -/
structure TkAt (w : World) (b bt bv br : Nat) (e : Nat) : Prop where
  rb : w.heap[br]? = some (.cells #[.pointer (some ⟨b, 0, none⟩)] 85 (0, 0))
  tk : w.heap[bt]? = some (.cells #[.pointer (some ⟨b, 0, none⟩), .int .i64 e, .func (.func 104) #[] #[.pointer (some ⟨bv, 0, none⟩), .pointer (some ⟨br, 0, none⟩)]] 125 (0, 0))
  tv : w.heap[bv]? = some (.cells #[.pointer (some ⟨bt, 0, none⟩)] 121 (0, 0))
theorem TkAt.fr {X : Nat → Prop} {w w' : World} {b bt bv br e : Nat} (h : TkAt w b bt bv br e) (hf : Fr X w w') (h1 : ¬ X bt) (h2 : ¬ X bv) (h3 : ¬ X br) : TkAt w' b bt bv br e := ⟨hf.heap h.rb h3, hf.heap h.tk h1, hf.heap h.tv h2⟩
theorem TkAt.fr0 {w w' : World} {b bt bv br e : Nat} (h : TkAt w b bt bv br e) (hf : Fr No w w') : TkAt w' b bt bv br e := h.fr hf id id id
theorem ne_of_cells {w : World} {i j : Nat} {c d : Array Value} {s t : TypeId} (h : w.heap[i]? = some (.cells c s (0, 0))) (k : w.heap[j]? = some (.cells d t (0, 0))) (hst : s ≠ t) : i ≠ j := by
  rintro rfl
  rw [h] at k
  simp at k
  exact hst k.2
theorem TkAt.ne {w : World} {b bt bv br e : Nat} (h : TkAt w b bt bv br e) : bt ≠ bv ∧ bt ≠ br ∧ bv ≠ br := ⟨ne_of_cells h.tk h.tv (by decide), ne_of_cells h.tk h.rb (by decide), ne_of_cells h.tv h.rb (by decide)⟩
theorem TkAt.neR {w : World} {b bt bv br e : Nat} {r : Rd} (h : TkAt w b bt bv br e) (hr : RdIs w b r) : b ≠ bt ∧ b ≠ bv ∧ b ≠ br := ⟨ne_of_cells hr.1 h.tk (by decide), ne_of_cells hr.1 h.tv (by decide), ne_of_cells hr.1 h.rb (by decide)⟩
theorem TkAt.set {w : World} {b bt bv br e : Nat} (h : TkAt w b bt bv br e) (e' : Nat) : TkAt (w.setCell ⟨bt, 1, none⟩ (.int .i64 e')) b bt bv br e' := by
  obtain ⟨h1, h2, h3⟩ := h.ne
  refine ⟨?_, heap_setCell_at (i := 1) (.int .i64 e') h.tk, ?_⟩
  · rw [heap_setCell_past (fun hx => h2 hx.symm)]; exact h.rb
  · rw [heap_setCell_past (fun hx => h1 hx.symm)]; exact h.tv
theorem TkAt.cells {w : World} {b bt bv br e : Nat} (h : TkAt w b bt bv br e) : w.cell? ⟨br, 0, none⟩ = some (.pointer (some ⟨b, 0, none⟩)) ∧ w.cell? ⟨bv, 0, none⟩ = some (.pointer (some ⟨bt, 0, none⟩)) ∧
    w.cell? ⟨bt, 0, none⟩ = some (.pointer (some ⟨b, 0, none⟩)) ∧ w.cell? ⟨bt, 1, none⟩ = some (.int .i64 e) ∧
    w.cell? ⟨bt, 2, none⟩ = some (.func (.func 104) #[] #[.pointer (some ⟨bv, 0, none⟩), .pointer (some ⟨br, 0, none⟩)]) ∧ w.frozen? ⟨bt, 1, none⟩ = false := by
  have h1 := h.rb
  have h2 := h.tk
  have h3 := h.tv
  refine ⟨?_, ?_, ?_, ?_, ?_, ?_⟩ <;> simp [World.cell?, World.frozen?, h1, h2, h3]

set_option maxHeartbeats 1000000 in
theorem of_any (b : Nat) (w : World) :
    Calls Tryd.prog 91 #[.pointer (some ⟨b, 0, none⟩)] w fun en w' => ∃ bt bv br, en = .returned (.pointer (some ⟨bt, 0, none⟩)) ∧ TkAt w' b bt bv br 0 ∧ w.heap.size ≤ bt ∧ Fr No w w' := by
  have hmf : ∀ (fn : Fn) (first cp : Array Value) (w : World), (Instr.makeFunc fn first cp).run Tryd.prog w = .ok (.func fn first cp) w := fun _ _ _ _ => rfl
  have h0 : (((w.alloc (.cells #[.pointer (some ⟨b, 0, none⟩)] 85)).alloc (.cells #[.pointer (some ⟨b, 0, none⟩), .int .i64 0, .nilFunc] 125)).alloc (.cells #[.pointer (some ⟨w.heap.size + 1, 0, none⟩)] 121)).heap[w.heap.size]? = some (.cells #[.pointer (some ⟨b, 0, none⟩)] 85 (0, 0)) := by
    rw [Below.heap_alloc _ _ _ (by simp; omega), Below.heap_alloc _ _ _ (by simp)]; exact Go.heap_alloc_new _ _
  have h1 : (((w.alloc (.cells #[.pointer (some ⟨b, 0, none⟩)] 85)).alloc (.cells #[.pointer (some ⟨b, 0, none⟩), .int .i64 0, .nilFunc] 125)).alloc (.cells #[.pointer (some ⟨w.heap.size + 1, 0, none⟩)] 121)).heap[w.heap.size + 1]? = some (.cells #[.pointer (some ⟨b, 0, none⟩), .int .i64 0, .nilFunc] 125 (0, 0)) := by
    rw [Below.heap_alloc _ _ _ (by simp)]
    have := Go.heap_alloc_new (w.alloc (.cells #[.pointer (some ⟨b, 0, none⟩)] 85)) (.cells #[.pointer (some ⟨b, 0, none⟩), .int .i64 0, .nilFunc] 125)
    simpa using this
  have h2 : (((w.alloc (.cells #[.pointer (some ⟨b, 0, none⟩)] 85)).alloc (.cells #[.pointer (some ⟨b, 0, none⟩), .int .i64 0, .nilFunc] 125)).alloc (.cells #[.pointer (some ⟨w.heap.size + 1, 0, none⟩)] 121)).heap[w.heap.size + 1 + 1]? = some (.cells #[.pointer (some ⟨w.heap.size + 1, 0, none⟩)] 121 (0, 0)) := by
    have := Go.heap_alloc_new ((w.alloc (.cells #[.pointer (some ⟨b, 0, none⟩)] 85)).alloc (.cells #[.pointer (some ⟨b, 0, none⟩), .int .i64 0, .nilFunc] 125)) (.cells #[.pointer (some ⟨w.heap.size + 1, 0, none⟩)] 121)
    simpa using this
  have HF : Fr No w (((w.alloc (.cells #[.pointer (some ⟨b, 0, none⟩)] 85)).alloc (.cells #[.pointer (some ⟨b, 0, none⟩), .int .i64 0, .nilFunc] 125)).alloc (.cells #[.pointer (some ⟨w.heap.size + 1, 0, none⟩)] 121)) := (((Fr.refl w).alloc _).alloc _).alloc _
  have k2 : (((w.alloc (.cells #[.pointer (some ⟨b, 0, none⟩)] 85)).alloc (.cells #[.pointer (some ⟨b, 0, none⟩), .int .i64 0, .nilFunc] 125)).alloc (.cells #[.pointer (some ⟨w.heap.size + 1, 0, none⟩)] 121)).cell? ⟨w.heap.size + 1, 2, none⟩ = some .nilFunc := cell_of_row _ _ 2 _ _ (0, 0) h1
  have f2 : (((w.alloc (.cells #[.pointer (some ⟨b, 0, none⟩)] 85)).alloc (.cells #[.pointer (some ⟨b, 0, none⟩), .int .i64 0, .nilFunc] 125)).alloc (.cells #[.pointer (some ⟨w.heap.size + 1, 0, none⟩)] 121)).frozen? ⟨w.heap.size + 1, 2, none⟩ = false := frozen_of_row _ _ 2 _ _ h1
  have k3 : (((w.alloc (.cells #[.pointer (some ⟨b, 0, none⟩)] 85)).alloc (.cells #[.pointer (some ⟨b, 0, none⟩), .int .i64 0, .nilFunc] 125)).alloc (.cells #[.pointer (some ⟨w.heap.size + 1, 0, none⟩)] 121)).cell? ⟨w.heap.size + 1 + 1, 0, none⟩ = some (.pointer (some ⟨w.heap.size + 1, 0, none⟩)) := cell_of_row _ _ 0 _ _ (0, 0) h2
  have H := hid (And.intro h0 (And.intro h1 h2))
  clear h0 h1 h2
  go_enter Tryd.func91, Tryd.ntmps91
  go_upto_region 2 with fail
  generalize (((w.alloc (.cells #[.pointer (some ⟨b, 0, none⟩)] 85)).alloc (.cells #[.pointer (some ⟨b, 0, none⟩), .int .i64 0, .nilFunc] 125)).alloc (.cells #[.pointer (some ⟨w.heap.size + 1, 0, none⟩)] 121)) = W3 at k2 f2 k3 H HF ⊢
  go_wp2_with fail
  go_ret
  obtain ⟨h0, h1, h2⟩ := H.out
  refine ⟨w.heap.size + 1, w.heap.size + 1 + 1, w.heap.size, rfl, ⟨?_, heap_setCell_at (i := 2) _ h1, ?_⟩, Nat.le_succ _, HF.newOnly (Nat.le_succ _) ((Fr.refl _).set_only _ _)⟩
  · rw [heap_setCell_past (fun hx => by have hx : w.heap.size = w.heap.size + 1 := hx; omega)]; exact h0
  · rw [heap_setCell_past (fun hx => by have hx : w.heap.size + 1 + 1 = w.heap.size + 1 := hx; omega)]; exact h2

set_option maxHeartbeats 4000000 in
set_option maxRecDepth 100000 in
theorem look_any (b bt bv br : Nat) (r : Rd) (ok : Bool) (w : World) (ht : TkAt w b bt bv br 0) (hr : RdIs w b r) :
    Calls Tryd.prog 104 #[.bool ok, .pointer (some ⟨bv, 0, none⟩), .pointer (some ⟨br, 0, none⟩)] w fun en w' => en = .returned (.tuple #[]) ∧ TkAt w' b bt bv br (lookE r ok) ∧ Fr (Only bt) w w' := by
  obtain ⟨c0, c1, c2, c3, c4, f0⟩ := ht.cells
  obtain ⟨n1, n2, n3⟩ := ht.ne
  obtain ⟨m1, m2, m3⟩ := ht.neR hr
  have ER := hid (fun w1 (h : Fr No w w1) => err_any b r.s r.at_ r.e r.to w1 (hr.fr h id))
  have HT := hid ht
  clear ht hr
  go_enter Tryd.func104, Tryd.ntmps104
  go_upto_region 1 with fail
  go_cut [] from 9 (fun w' => TkAt w' b bt bv br r.e ∧ Fr (Only bt) w w')
  case first =>
    have SK := hid (fun w' (h : Fr (Only bt) w w') => (⟨h, h.cell c1 (fun hx => n1 hx.symm), h.cell c0 (fun hx => n2 hx.symm)⟩ : Fr (Only bt) w w' ∧ w'.cell? ⟨bv, 0, none⟩ = some (.pointer (some ⟨bt, 0, none⟩)) ∧ w'.cell? ⟨br, 0, none⟩ = some (.pointer (some ⟨b, 0, none⟩))))
    go_region_held3 (fun w' => Fr (Only bt) w w' ∧ w'.cell? ⟨bv, 0, none⟩ = some (.pointer (some ⟨bt, 0, none⟩)) ∧ w'.cell? ⟨br, 0, none⟩ = some (.pointer (some ⟨b, 0, none⟩)))
      ((go_split_ands; refine SK.out _ ?_; (try refine Fr.set_only ?_ _ _); refine Fr.of0 ?_; repeat (first | exact Fr.refl _ | assumption | refine Fr.drew ?_)))
      ((go_at_call 61; (with_reducible refine (ER.out _ ((Fr.refl _).drew)).mono ?_); rintro e6 w6 ⟨rfl, hf6⟩; have hF6 : Fr No w w6 := ((Fr.refl _).drew).trans hf6; obtain ⟨k0, k1, k2, k3, k4, kf⟩ := (HT.out.fr0 hF6).cells))
    go_wp2_with fail
    go_meet
    case rel => exact ⟨(HT.out.fr0 hF6).set r.e, hF6.of0.set_only _ _⟩
  obtain ⟨hT, hF⟩ := hcut
  rename World => w7
  obtain ⟨k0, k1, k2, k3, k4, kf⟩ := hT.cells
  have HT7 := hid hT
  clear hT c0 c1 c2 c3 c4 f0
  by_cases he : r.e = 0
  · have b0 : ((r.e : Int) == 0) = true := by rw [he]; rfl
    rcases ok with _ | _
    · have hL : lookE r false = 4 := by unfold lookE; rw [if_pos he]; rfl
      have HL := hid hL
      clear he hL
      go_wp2_with fail
      refine bodyPost_end (results_none rfl _ _ _) rfl ⟨rfl, by rw [HL.out]; exact HT7.out.set 4, hF.set_only _ _⟩
    · have hL : lookE r true = r.e := by unfold lookE; rw [if_pos he, he]; rfl
      have HL := hid hL
      clear he hL
      go_wp2_with fail
      refine bodyPost_end (results_none rfl _ _ _) rfl ⟨rfl, by rw [HL.out]; exact HT7.out, hF⟩
  · have b0 : ((r.e : Int) == 0) = false := by rw [beq_eq_false_iff_ne]; omega
    have hL : lookE r ok = r.e := by unfold lookE; rw [if_neg he]
    have HL := hid hL
    clear he hL
    go_wp2_with fail
    refine bodyPost_end (results_none rfl _ _ _) rfl ⟨rfl, by rw [HL.out]; exact HT7.out, hF⟩

def OnlyTwo (b bt : Nat) : Nat → Prop := fun k => k = b ∨ k = bt
theorem lookE_le {r : Rd} {ok : Bool} : lookE r ok = 0 → r.e = 0 ∧ ok = true := by
  unfold lookE
  intro h
  split at h
  · rename_i h0
    rcases ok with _ | _
    · cases h
    · exact ⟨h0, rfl⟩
  · rename_i h0; exact absurd h h0

set_option maxHeartbeats 8000000 in
set_option maxRecDepth 100000 in
theorem number_any (b bt bv br v : Nat) (c : UInt8) (st : Nat × Rd) (w : World) (ht : TkAt w b bt bv br st.1) (hr : RdIs w b st.2) :
    Calls Tryd.prog 92 #[.pointer (some ⟨bt, 0, none⟩), .int .u8 v, .int .u8 c.toNat] w fun en w' => en = .returned (.int .i64 (numT v c st).1) ∧ TkAt w' b bt bv br (numT v c st).2.1 ∧ RdIs w' b (numT v c st).2.2 ∧ Fr (OnlyTwo b bt) w w' := by
  obtain ⟨e, r⟩ := st
  obtain ⟨c0, c1, c2, c3, c4, f0⟩ := ht.cells
  simp only at ht hr c3
  by_cases he : e = 0
  · subst he
    obtain ⟨n1, n2, n3⟩ := ht.ne
    obtain ⟨m1, m2, m3⟩ := ht.neR hr
    have hN : numT v c (0, r) = (((rSh (boundS v c.toNat).2.1.toNat r).1 : Int), (lookE (rSh (boundS v c.toNat).2.1.toNat r).2 (fitsS v c.toNat ((rSh (boundS v c.toNat).2.1.toNat r).1 : Int)), (rSh (boundS v c.toNat).2.1.toNat r).2)) := rfl
    rw [hN]
    have BD := hid (bound_any v c.toNat)
    unfold BoundIs at BD
    have hb1 := bound_small v c.toNat
    have hb2 := bound_hi v c.toNat
    have FT := hid (fun n w1 => fits_any v c.toNat n w1)
    generalize hfits : fitsS v c.toNat = FF at FT ⊢
    generalize boundS v c.toNat = B at BD hb1 hb2 ⊢
    obtain ⟨lo, hi, is⟩ := B
    simp only at BD hb1 hb2 ⊢
    obtain ⟨H, rfl⟩ := Int.eq_ofNat_of_zero_le hb2
    rw [Int.toNat_natCast]
    have hw1 : IntKind.u64.wrap (H : Int) = (H : Int) := wrapU64 H (by omega)
    have hsb : (rSh H r).1 ≤ H := by
      unfold rSh
      split
      · exact (rShort_bound r.s r.at_ r.to H hr.2.1).2.1
      · exact Nat.zero_le _
    have SH := hid (shortR b r H w hr)
    have FT1 := hid (FT.out ((rSh H r).1 : Int))
    have LK := hid (fun w1 (h1 : TkAt w1 b bt bv br 0) (h2 : RdIs w1 b (rSh H r).2) => look_any b bt bv br (rSh H r).2 (FF ((rSh H r).1 : Int)) w1 h1 h2)
    generalize FF ((rSh H r).1 : Int) = ok at FT1 LK ⊢
    generalize rSh H r = R at SH hsb LK FT1 ⊢
    obtain ⟨n, r1⟩ := R
    simp only at SH hsb LK FT1 ⊢
    have hw2 : IntKind.i64.wrap (n : Int) = (n : Int) := IntWalk.i64_in _ (by omega)
    have HT := hid ht
    clear ht hr hfits FT hN hb1 hb2 hsb
    go_enter Tryd.func92, Tryd.ntmps92
    go_upto_region 5 with (first
      | (go_at_call 105; (with_reducible refine (BD.out _).mono ?_); rintro e1 w1 ⟨rfl, rfl⟩)
      | (go_at_call 62; (with_reducible refine SH.out.mono ?_); rintro e2 w2 ⟨rfl, hr2, hf2⟩)
      | fail)
    have HT2 := hid (HT.out.fr hf2 (fun h => m1 h.symm) (fun h => m2 h.symm) (fun h => m3 h.symm))
    have HR2 := hid hr2
    have HF2 := hid hf2
    clear c0 c1 c2 c3 c4 f0 hr2 hf2
    obtain ⟨c0, c1, c2, c3, c4, f0⟩ := HT2.out.cells
    have SK := hid (fun w' (h : Fr (Only bt) w2 w') (k : w'.cell? ⟨bt, 2, none⟩ = some (.func (.func 104) #[] #[.pointer (some ⟨bv, 0, none⟩), .pointer (some ⟨br, 0, none⟩)])) => (⟨h, k⟩ : Fr (Only bt) w2 w' ∧ w'.cell? ⟨bt, 2, none⟩ = some (.func (.func 104) #[] #[.pointer (some ⟨bv, 0, none⟩), .pointer (some ⟨br, 0, none⟩)])))
    go_region_held3 (fun w' => Fr (Only bt) w2 w' ∧ w'.cell? ⟨bt, 2, none⟩ = some (.func (.func 104) #[] #[.pointer (some ⟨bv, 0, none⟩), .pointer (some ⟨br, 0, none⟩)]))
      ((go_split_ands; first | exact SK.out _ hF6 hT6.cells.2.2.2.2.1 | exact SK.out _ (by repeat (first | exact Fr.refl _ | refine Fr.drew ?_)) c4))
      (first
        | (go_at_call 100; (with_reducible refine (FT1.out _).mono ?_); rintro e5 w5 ⟨rfl, rfl⟩)
        | (go_at_call 104; (with_reducible refine (LK.out _ (HT2.out.fr0 ((Fr.refl _).drew)) (HR2.out.fr (Fr.refl (X := No) _).drew id)).mono ?_); rintro e6 w6 ⟨rfl, hT6, hf6⟩; have hF6 : Fr (Only bt) w2 w6 := ((Fr.refl _).drew).trans hf6)
        | fail)
    go_wp2_with fail
    go_ret
    exact ⟨rfl, hT6, HR2.out.fr hF6 (fun h => m1 h), (HF2.out.mono (fun k _ h => .inl h)).trans (hF6.mono (fun k _ h => .inr h))⟩
  · have b0 : ((e : Int) == 0) = false := by rw [beq_eq_false_iff_ne]; omega
    have b1 : ((e : Int) != 0) = true := by simpa using he
    have hN : numT v c (e, r) = (0, (e, r)) := by unfold numT; rw [if_neg he]
    rw [hN]
    have HT := hid (And.intro ht hr)
    clear he hN ht hr
    go_enter Tryd.func92, Tryd.ntmps92
    go_wp2_with fail
    go_ret
    exact ⟨rfl, HT.out.1, HT.out.2, Fr.refl _⟩
theorem rRaw_len (n : Int) (r : Rd) : (rRaw n r).1.length ≤ r.s.length := by
  unfold rRaw
  by_cases h1 : r.e = 0
  · rw [if_pos h1]
    by_cases h2 : r.s.length - r.at_ < n.toNat
    · rw [if_pos h2]; exact Nat.zero_le _
    · rw [if_neg h2]; simp only [List.length_take, List.length_drop]; omega
  · rw [if_neg h1]; exact Nat.zero_le _
theorem rTx_len (m : Int) (r : Rd) : (rTx m r).1.length ≤ r.s.length := by
  unfold rTx
  by_cases h1 : r.e = 0
  · rw [if_pos h1]
    by_cases h2 : (rSh m.toNat r).2.e = 0
    · rw [if_pos h2]
      split
      · exact Nat.zero_le _
      · have := rRaw_len (rSh m.toNat r).1 (rSh m.toNat r).2
        rwa [rSh_s] at this
    · rw [if_neg h2]; exact Nat.zero_le _
  · rw [if_neg h1]; exact Nat.zero_le _

set_option maxHeartbeats 8000000 in
set_option maxRecDepth 100000 in
theorem name_any (b bt bv br : Nat) (st : Nat × Rd) (w : World) (ht : TkAt w b bt bv br st.1) (hr : RdIs w b st.2) :
    Calls Tryd.prog 93 #[.pointer (some ⟨bt, 0, none⟩)] w fun en w' => en = .returned (strV (nameT st).1) ∧ TkAt w' b bt bv br (nameT st).2.1 ∧ RdIs w' b (nameT st).2.2 ∧ Fr (OnlyTwo b bt) w w' := by
  obtain ⟨e, r⟩ := st
  obtain ⟨c0, c1, c2, c3, c4, f0⟩ := ht.cells
  simp only at ht hr c3
  by_cases he : e = 0
  · subst he
    obtain ⟨n1, n2, n3⟩ := ht.ne
    obtain ⟨m1, m2, m3⟩ := ht.neR hr
    have hN : nameT (0, r) = ((rTx 24 r).1, (lookE (rTx 24 r).2 (mayNameS (rTx 24 r).1), (rTx 24 r).2)) := rfl
    rw [hN]
    have hlen : (rTx 24 r).1.length ≤ 9223372036854775807 := Nat.le_trans (rTx_len 24 r) hr.2.2
    have SH := hid (textR b r 24 w hr (by omega))
    have MN := hid (fun w1 => mayName_any (rTx 24 r).1 w1 hlen)
    have LK := hid (fun w1 (h1 : TkAt w1 b bt bv br 0) (h2 : RdIs w1 b (rTx 24 r).2) => look_any b bt bv br (rTx 24 r).2 (mayNameS (rTx 24 r).1) w1 h1 h2)
    generalize rTx 24 r = R at SH MN LK ⊢
    obtain ⟨s1, r1⟩ := R
    simp only at SH MN LK ⊢
    generalize mayNameS s1 = ok at MN LK ⊢
    have HT := hid ht
    clear ht hr hN hlen
    unfold strV at *
    go_enter Tryd.func93, Tryd.ntmps93
    go_upto_region 4 with (first
      | (go_at_call 106; (with_reducible refine SH.out.mono ?_); rintro e2 w2 ⟨rfl, hr2, hf2⟩)
      | fail)
    have HT2 := hid (HT.out.fr hf2 (fun h => m1 h.symm) (fun h => m2 h.symm) (fun h => m3 h.symm))
    have HR2 := hid hr2
    have HF2 := hid hf2
    clear c0 c1 c2 c3 c4 f0 hr2 hf2
    obtain ⟨c0, c1, c2, c3, c4, f0⟩ := HT2.out.cells
    have SK := hid (fun w' (h : Fr (Only bt) w2 w') (k : w'.cell? ⟨bt, 2, none⟩ = some (.func (.func 104) #[] #[.pointer (some ⟨bv, 0, none⟩), .pointer (some ⟨br, 0, none⟩)])) => (⟨h, k⟩ : Fr (Only bt) w2 w' ∧ w'.cell? ⟨bt, 2, none⟩ = some (.func (.func 104) #[] #[.pointer (some ⟨bv, 0, none⟩), .pointer (some ⟨br, 0, none⟩)])))
    go_region_held3 (fun w' => Fr (Only bt) w2 w' ∧ w'.cell? ⟨bt, 2, none⟩ = some (.func (.func 104) #[] #[.pointer (some ⟨bv, 0, none⟩), .pointer (some ⟨br, 0, none⟩)]))
      ((go_split_ands; first | exact SK.out _ hF6 hT6.cells.2.2.2.2.1 | exact SK.out _ hF5.of0 (hF5.cell0 c4) | exact SK.out _ (by repeat (first | exact Fr.refl _ | refine Fr.drew ?_)) c4))
      (first
        | (go_at_call 74; (with_reducible refine (MN.out _).mono ?_); rintro e5 w5 ⟨rfl, hf5⟩; have hF5 : Fr No w2 w5 := ((Fr.refl _).drew).trans hf5)
        | (go_at_call 104; (with_reducible refine (LK.out _ (HT2.out.fr0 hF5) (HR2.out.fr hF5 id)).mono ?_); rintro e6 w6 ⟨rfl, hT6, hf6⟩; have hF6 : Fr (Only bt) w2 w6 := hF5.of0.trans hf6)
        | fail)
    go_wp2_with fail
    go_ret
    exact ⟨rfl, hT6, HR2.out.fr hF6 (fun h => m1 h), (HF2.out.mono (fun k _ h => .inl h)).trans (hF6.mono (fun k _ h => .inr h))⟩
  · have b0 : ((e : Int) == 0) = false := by rw [beq_eq_false_iff_ne]; omega
    have b1 : ((e : Int) != 0) = true := by simpa using he
    have hN : nameT (e, r) = ([], (e, r)) := by unfold nameT; rw [if_neg he]
    rw [hN]
    have HT := hid (And.intro ht hr)
    clear he hN ht hr
    unfold strV
    go_enter Tryd.func93, Tryd.ntmps93
    go_wp2_with fail
    go_ret
    exact ⟨rfl, HT.out.1, HT.out.2, Fr.refl _⟩
end Go.Proofs.YtnmfmedoocnofaaDoor
