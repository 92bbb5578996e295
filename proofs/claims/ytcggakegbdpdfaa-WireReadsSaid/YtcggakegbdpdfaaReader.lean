/-
  The contracts of wire.Reader's small methods: New, good, wrong, take, Err, At, Left, End, Raw. Conditions: what is read is no longer than an int.
-/
import Derived.Test.YtcggakegbdpdfaaProg
import Derived.Test.YtcggakegbdpdfaaPure
import Derived.BigQuiet
namespace Go.Proofs.Ytcggakegbdpdfaa
open Go.RowKit

/-- Block b is a reader of s, at 'at_', with the error e at 'to'. -/
def RdAt (w : World) (b : Nat) (s : List UInt8) (at_ e to : Nat) : Prop :=
  w.heap[b]? = some (.cells #[strV s, .int .i64 at_, .int .i64 e, .int .i64 to] 76 (0, 0)) ∧ at_ ≤ s.length ∧ s.length ≤ 9223372036854775807
/-- From w on the reader b came to stand so; nothing else was turned. -/
def Red (w w' : World) (b : Nat) (s : List UInt8) (at_ e to : Nat) : Prop := RdAt w' b s at_ e to ∧ Fr (Only b) w w'

theorem RdAt.fr {X : Nat → Prop} {w w' : World} {b : Nat} {s : List UInt8} {at_ e to : Nat} (h : RdAt w b s at_ e to) (hf : Fr X w w') (hb : ¬ X b) : RdAt w' b s at_ e to :=
  ⟨hf.heap h.1 hb, h.2⟩
theorem RdAt.lt {w : World} {b : Nat} {s : List UInt8} {at_ e to : Nat} (h : RdAt w b s at_ e to) : b < w.heap.size := lt_of_block h.1
theorem Red.trans {w w1 w2 : World} {b : Nat} {s s' : List UInt8} {a1 e1 t1 a2 e2 t2 : Nat} (h : Red w w1 b s a1 e1 t1) (k : Red w1 w2 b s' a2 e2 t2) : Red w w2 b s' a2 e2 t2 :=
  ⟨k.1, h.2.trans k.2⟩
theorem Red.quiet {w w1 w2 : World} {b : Nat} {s : List UInt8} {a1 e1 t1 : Nat} (h : Red w w1 b s a1 e1 t1) (k : Fr No w1 w2) : Red w w2 b s a1 e1 t1 :=
  ⟨h.1.fr k id, h.2.trans k.of0⟩
theorem Red.of_quiet {w w1 : World} {b : Nat} {s : List UInt8} {a1 e1 t1 : Nat} (h : RdAt w b s a1 e1 t1) (k : Fr No w w1) : Red w w1 b s a1 e1 t1 :=
  ⟨h.fr k id, k.of0⟩

theorem four_cells {w : World} {b : Nat} {v0 v1 v2 v3 : Value} {t : TypeId} (h : w.heap[b]? = some (.cells #[v0, v1, v2, v3] t (0, 0))) :
    w.cell? ⟨b, 0, none⟩ = some v0 ∧ w.cell? ⟨b, 1, none⟩ = some v1 ∧ w.cell? ⟨b, 2, none⟩ = some v2 ∧ w.cell? ⟨b, 3, none⟩ = some v3 ∧
    w.frozen? ⟨b, 0, none⟩ = false ∧ w.frozen? ⟨b, 1, none⟩ = false ∧ w.frozen? ⟨b, 2, none⟩ = false ∧ w.frozen? ⟨b, 3, none⟩ = false := by
  simp [World.cell?, World.frozen?, h]

theorem rd_cells {w : World} {b : Nat} {s : List UInt8} {at_ e to : Nat} (h : RdAt w b s at_ e to) :
    w.cell? ⟨b, 0, none⟩ = some (.string ⟨s.toArray⟩) ∧ w.cell? ⟨b, 1, none⟩ = some (.int .i64 at_) ∧ w.cell? ⟨b, 2, none⟩ = some (.int .i64 e) ∧ w.cell? ⟨b, 3, none⟩ = some (.int .i64 to) := by
  obtain ⟨h0, h1, h2, h3, _⟩ := four_cells h.1
  exact ⟨h0, h1, h2, h3⟩

set_option maxHeartbeats 400000 in
theorem new_any (s : List UInt8) (w : World) (hs : s.length ≤ 9223372036854775807) :
    Calls Try.prog 18 #[strV s] w fun e w' => ∃ b, e = .returned (.pointer (some ⟨b, 0, none⟩)) ∧ RdAt w' b s 0 0 0 ∧ w.heap.size ≤ b ∧ Fr No w w' := by
  have HS := hid hs
  clear hs
  unfold strV
  go_enter Try.func18, Try.ntmps18
  go_wp2_with fail
  go_ret
  refine ⟨w.heap.size, rfl, ⟨?_, by omega, HS.out⟩, Nat.le_refl _, (Fr.refl w).alloc _⟩
  exact Go.heap_alloc_new _ _

set_option maxHeartbeats 400000 in
theorem good_nil (w : World) :
    Calls Try.prog 54 #[.pointer none] w fun e w' => e = .returned (.bool false) ∧ w = w' := by
  go_enter Try.func54, Try.ntmps54
  go_wp2_with fail
  go_ret
  exact ⟨rfl, rfl⟩

set_option maxHeartbeats 400000 in
theorem good_any (b : Nat) (s : List UInt8) (at_ e to : Nat) (w : World) (h : RdAt w b s at_ e to) :
    Calls Try.prog 54 #[.pointer (some ⟨b, 0, none⟩)] w fun en w' => en = .returned (.bool ((e : Int) == 0)) ∧ w = w' := by
  obtain ⟨_, _, h2, _⟩ := four_cells h.1
  clear h
  go_enter Try.func54, Try.ntmps54
  go_wp2_with fail
  go_ret
  exact ⟨rfl, rfl⟩

set_option maxHeartbeats 400000 in
theorem wrong_any (b : Nat) (s : List UInt8) (at_ e to k p : Nat) (w : World) (h : RdAt w b s at_ e to) (hp : p ≤ s.length) :
    Calls Try.prog 56 #[.pointer (some ⟨b, 0, none⟩), .int .i64 k, .int .i64 p] w fun en w' => en = .returned (.tuple #[]) ∧ Red w w' b s p k p := by
  obtain ⟨h0, h1, h2, h3, f0, f1, f2, f3⟩ := four_cells h.1
  have H := hid h
  have HP := hid hp
  clear h hp
  go_enter Try.func56, Try.ntmps56
  go_wp2_with fail
  refine bodyPost_end (results_none rfl _ _ _) rfl ⟨rfl, ?_⟩
  have hb := H.out.1
  have e1 := heap_setCell_at (i := 2) (.int .i64 k) hb
  have e2 := heap_setCell_at (i := 3) (.int .i64 p) e1
  have e3 := heap_setCell_at (i := 1) (.int .i64 p) e2
  exact ⟨⟨e3, HP.out, H.out.2.2⟩, (((Fr.refl w).set_only 2 _).set_only 3 _).set_only 1 _⟩

set_option maxHeartbeats 400000 in
theorem take_nil (n : Int) (w : World) :
    Calls Try.prog 55 #[.pointer none, .int .i64 n] w fun e w' => e = .returned (.tuple #[strV [], .bool false]) ∧ w = w' := by
  unfold strV
  go_enter Try.func55, Try.ntmps55
  go_wp2_with (go_at_call 54; refine (good_nil _).mono ?_; rintro e w' ⟨rfl, rfl⟩)
  go_ret2
  exact ⟨rfl, rfl⟩

set_option maxHeartbeats 400000 in
theorem take_bad (b : Nat) (s : List UInt8) (at_ e to : Nat) (n : Int) (w : World) (h : RdAt w b s at_ e to) (he : e ≠ 0) :
    Calls Try.prog 55 #[.pointer (some ⟨b, 0, none⟩), .int .i64 n] w fun en w' => en = .returned (.tuple #[strV [], .bool false]) ∧ w = w' := by
  have hg := good_any b s at_ e to w h
  rw [show (((e : Int)) == 0) = false from by simpa using he] at hg
  have HG := hid hg
  clear hg h
  unfold strV
  go_enter Try.func55, Try.ntmps55
  go_wp2_with (go_at_call 54; refine HG.out.mono ?_; rintro e w' ⟨rfl, rfl⟩)
  go_ret2
  exact ⟨rfl, rfl⟩

set_option maxHeartbeats 400000 in
theorem take_short (b : Nat) (s : List UInt8) (at_ to n : Nat) (w : World) (h : RdAt w b s at_ 0 to) (hn : s.length - at_ < n) :
    Calls Try.prog 55 #[.pointer (some ⟨b, 0, none⟩), .int .i64 n] w fun en w' => en = .returned (.tuple #[strV [], .bool false]) ∧ Red w w' b s at_ 8 at_ := by
  have hg := good_any b s at_ 0 to w h
  have HG := hid hg
  have hw := fun m => wrong_any b s at_ 0 to 8 at_ (w.drewN m) h h.2.1
  have HW := hid hw
  obtain ⟨h0, h1, h2, h3, _⟩ := four_cells h.1
  have hle := h.2.1
  have hmax := h.2.2
  unfold strV at h0 ⊢
  clear hg hw
  have hd : decide ((s.length : Int) - at_ < n) = true := by simp; omega
  have HL := hid h
  clear h
  go_enter Try.func55, Try.ntmps55
  go_wp2_with (go_at_call 54; refine HG.out.mono ?_; rintro e w' ⟨rfl, rfl⟩)
  go_quiet (fail)
  go_wp2_with (go_at_call 56; refine (HW.out _).mono ?_; rintro e w' ⟨rfl, hr⟩)
  go_ret2
  exact ⟨rfl, hr.1, ((Fr.refl w).drewN nq).trans hr.2⟩

set_option maxHeartbeats 400000 in
theorem take_ok (b : Nat) (s : List UInt8) (at_ to n : Nat) (w : World) (h : RdAt w b s at_ 0 to) (hn : n ≤ s.length - at_) :
    Calls Try.prog 55 #[.pointer (some ⟨b, 0, none⟩), .int .i64 n] w fun en w' => en = .returned (.tuple #[strV ((s.drop at_).take n), .bool true]) ∧ Red w w' b s (at_ + n) 0 to := by
  have hg := good_any b s at_ 0 to w h
  have HG := hid hg
  obtain ⟨h0, h1, h2, h3, f0, f1, f2, f3⟩ := four_cells h.1
  have hle := h.2.1
  have hmax := h.2.2
  unfold strV at h0 ⊢
  clear hg
  have hd : decide ((s.length : Int) - at_ < n) = false := by simp; omega
  have HL := hid h
  clear h
  go_enter Try.func55, Try.ntmps55
  go_wp2_with (go_at_call 54; refine HG.out.mono ?_; rintro e w' ⟨rfl, rfl⟩)
  go_quiet (fail)
  go_wp2_with fail
  revert nq; intro nqa
  go_quiet (fail)
  go_wp2_with fail
  go_ret2
  have hb := HL.out.1
  have e1 := heap_setCell_at (w := w.drewN (nqa + nq)) (i := 1) (.int .i64 (at_ + n)) hb
  refine ⟨?_, ⟨?_, by omega, hmax⟩, ((Fr.refl w).drewN _).set_only 1 _⟩
  · simp only [ByteArray.extract_mk]
    rw [show at_ + n - at_ = n from by omega]
    rfl
  · rw [e1]
    simp [strV]

/-! ### what is asked of a reader -/
set_option maxHeartbeats 400000 in
theorem err_nil (w : World) :
    Calls Try.prog 19 #[.pointer none] w fun e w' => e = .returned (.tuple #[.int .i64 2, .int .i64 0]) ∧ Fr No w w' := by
  go_enter Try.func19, Try.ntmps19
  go_wp2_with fail
  go_ret2
  exact ⟨rfl, Fr.refl _⟩
set_option maxHeartbeats 400000 in
theorem err_any (b : Nat) (s : List UInt8) (at_ e to : Nat) (w : World) (h : RdAt w b s at_ e to) :
    Calls Try.prog 19 #[.pointer (some ⟨b, 0, none⟩)] w fun en w' => en = .returned (.tuple #[.int .i64 e, .int .i64 to]) ∧ Fr No w w' := by
  obtain ⟨h0, h1, h2, h3, _⟩ := four_cells h.1
  clear h
  go_enter Try.func19, Try.ntmps19
  go_wp2_with fail
  go_quiet (fail)
  go_wp2_with fail
  go_ret2
  exact ⟨rfl, (Fr.refl w).drewN _⟩
set_option maxHeartbeats 400000 in
theorem at_nil (w : World) :
    Calls Try.prog 20 #[.pointer none] w fun e w' => e = .returned (.int .i64 0) ∧ Fr No w w' := by
  go_enter Try.func20, Try.ntmps20
  go_wp2_with fail
  go_ret
  exact ⟨rfl, Fr.refl _⟩
set_option maxHeartbeats 400000 in
theorem at_any (b : Nat) (s : List UInt8) (at_ e to : Nat) (w : World) (h : RdAt w b s at_ e to) :
    Calls Try.prog 20 #[.pointer (some ⟨b, 0, none⟩)] w fun en w' => en = .returned (.int .i64 at_) ∧ Fr No w w' := by
  obtain ⟨h0, h1, h2, h3, _⟩ := four_cells h.1
  clear h
  go_enter Try.func20, Try.ntmps20
  go_wp2_with fail
  go_ret
  exact ⟨rfl, Fr.refl _⟩
set_option maxHeartbeats 400000 in
theorem left_nil (w : World) :
    Calls Try.prog 22 #[.pointer none] w fun e w' => e = .returned (.int .i64 0) ∧ Fr No w w' := by
  go_enter Try.func22, Try.ntmps22
  go_wp2_with fail
  go_ret
  exact ⟨rfl, Fr.refl _⟩
set_option maxHeartbeats 400000 in
theorem left_any (b : Nat) (s : List UInt8) (at_ e to : Nat) (w : World) (h : RdAt w b s at_ e to) :
    Calls Try.prog 22 #[.pointer (some ⟨b, 0, none⟩)] w fun en w' => en = .returned (.int .i64 ((s.length - at_ : Nat) : Int)) ∧ Fr No w w' := by
  obtain ⟨h0, h1, h2, h3, _⟩ := four_cells h.1
  have hle := h.2.1
  have hmax := h.2.2
  unfold strV at h0
  clear h
  go_enter Try.func22, Try.ntmps22
  go_wp2_with fail
  go_quiet (fail)
  go_wp2_with fail
  go_ret
  exact ⟨by rw [Int.ofNat_sub hle]; rfl, (Fr.refl w).drewN _⟩
set_option maxHeartbeats 400000 in
theorem end_nil (w : World) :
    Calls Try.prog 24 #[.pointer none] w fun e w' => e = .returned (.int .i64 2) ∧ Fr No w w' := by
  go_enter Try.func24, Try.ntmps24
  go_wp2_with (go_at_call 19; refine (err_nil _).mono ?_; rintro e w' ⟨rfl, hf⟩)
  go_ret
  exact ⟨rfl, hf⟩
/-- What End says. -/
def endE (n at_ e : Nat) : Nat := if e = 0 ∧ at_ < n then 4 else e
set_option maxHeartbeats 400000 in
theorem end_any (b : Nat) (s : List UInt8) (at_ e to : Nat) (w : World) (h : RdAt w b s at_ e to) :
    Calls Try.prog 24 #[.pointer (some ⟨b, 0, none⟩)] w fun en w' => en = .returned (.int .i64 (endE s.length at_ e)) ∧ Fr No w w' := by
  have he := err_any b s at_ e to w h
  have HE := hid he
  clear he
  have hl := fun w1 (hf : Fr No w w1) => left_any b s at_ e to w1 (h.fr hf id)
  have HL := hid hl
  clear hl
  have hle := h.2.1
  clear h
  by_cases h0 : e = 0
  · subst h0
    by_cases h1 : at_ < s.length
    · have hfin : endE s.length at_ 0 = 4 := by unfold endE; rw [if_pos ⟨rfl, h1⟩]
      rw [hfin]
      have hd : decide ((0 : Int) < ((s.length - at_ : Nat) : Int)) = true := by simp; omega
      clear hfin
      go_enter Try.func24, Try.ntmps24
      go_wp2_with (go_at_call 19; refine HE.out.mono ?_; rintro e w1 ⟨rfl, hf⟩)
      go_wp2_with (go_at_call 22; refine (HL.out _ hf).mono ?_; rintro e w2 ⟨rfl, hf2⟩)
      go_ret
      exact ⟨rfl, hf.trans hf2⟩
    · have hfin : endE s.length at_ 0 = 0 := by unfold endE; rw [if_neg (fun h => h1 h.2)]
      rw [hfin]
      have hd : decide ((0 : Int) < ((s.length - at_ : Nat) : Int)) = false := by simp; omega
      clear hfin
      go_enter Try.func24, Try.ntmps24
      go_wp2_with (go_at_call 19; refine HE.out.mono ?_; rintro e w1 ⟨rfl, hf⟩)
      go_wp2_with (go_at_call 22; refine (HL.out _ hf).mono ?_; rintro e w2 ⟨rfl, hf2⟩)
      go_ret
      exact ⟨rfl, hf.trans hf2⟩
  · have hfin : endE s.length at_ e = e := by unfold endE; rw [if_neg (fun h => h0 h.1)]
    rw [hfin]
    have hd : ((e : Int) == 0) = false := by simpa using h0
    clear hfin
    go_enter Try.func24, Try.ntmps24
    go_wp2_with (go_at_call 19; refine HE.out.mono ?_; rintro e w1 ⟨rfl, hf⟩)
    go_ret
    exact ⟨rfl, hf⟩

end Go.Proofs.Ytcggakegbdpdfaa
