/-
  The contracts of wire's and the document's readers and writers, for this seat (out of the wire seat's texts): no statement of the seat is proved here.
-/
import Derived.Test.YtnmfmedoocnofaaDoorBWr
import Derived.Test.YtnmfmedoocnofaaDoorProg
import Derived.BigQuiet
namespace Go.Proofs.YtnmfmedoocnofaaDoor
open Go.RowKit

/-- Block b is a reader of s, at 'at_', with the error e at 'to'. -/
def RdAt (w : World) (b : Nat) (s : List UInt8) (at_ e to : Nat) : Prop :=
  w.heap[b]? = some (.cells #[strV s, .int .i64 at_, .int .i64 e, .int .i64 to] 116 (0, 0)) ∧ at_ ≤ s.length ∧ s.length ≤ 9223372036854775807
/-- From w on the reader b came to stand so; nothing else was turned. -/
def Red (w w' : World) (b : Nat) (s : List UInt8) (at_ e to : Nat) : Prop := RdAt w' b s at_ e to ∧ Fr (Only b) w w'

theorem RdAt.fr {X : Nat → Prop} {w w' : World} {b : Nat} {s : List UInt8} {at_ e to : Nat} (h : RdAt w b s at_ e to) (hf : Fr X w w') (hb : ¬ X b) : RdAt w' b s at_ e to :=
  ⟨hf.heap h.1 hb, h.2⟩
theorem RdAt.lt {w : World} {b : Nat} {s : List UInt8} {at_ e to : Nat} (h : RdAt w b s at_ e to) : b < w.heap.size := lt_of_block h.1
theorem Red.trans {w w1 w2 : World} {b : Nat} {s s' : List UInt8} {a1 e1 t1 a2 e2 t2 : Nat} (h : Red w w1 b s a1 e1 t1) (k : Red w1 w2 b s' a2 e2 t2) : Red w w2 b s' a2 e2 t2 :=
  ⟨k.1, h.2.trans k.2⟩
theorem Red.quiet {w w1 w2 : World} {b : Nat} {s : List UInt8} {a1 e1 t1 : Nat} (h : Red w w1 b s a1 e1 t1) (k : Fr No w1 w2) : Red w w2 b s a1 e1 t1 :=
  ⟨h.1.fr k id, h.2.trans k.of0⟩
theorem Red.of_quiet {w w1 : World} {b : Nat} {s : List UInt8} {a1 e1 t1 : Nat} (h : RdAt w b s a1 e1 t1) (k : Fr No w w1) : Red w w1 b s a1 e1 t1 :=
  ⟨h.fr k id, k.of0⟩

theorem four_cells {w : World} {b : Nat} {v0 v1 v2 v3 : Value} {t : TypeId} (h : w.heap[b]? = some (.cells #[v0, v1, v2, v3] t (0, 0))) :
    w.cell? ⟨b, 0, none⟩ = some v0 ∧ w.cell? ⟨b, 1, none⟩ = some v1 ∧ w.cell? ⟨b, 2, none⟩ = some v2 ∧ w.cell? ⟨b, 3, none⟩ = some v3 ∧
    w.frozen? ⟨b, 0, none⟩ = false ∧ w.frozen? ⟨b, 1, none⟩ = false ∧ w.frozen? ⟨b, 2, none⟩ = false ∧ w.frozen? ⟨b, 3, none⟩ = false := by
  simp [World.cell?, World.frozen?, h]

theorem rd_cells {w : World} {b : Nat} {s : List UInt8} {at_ e to : Nat} (h : RdAt w b s at_ e to) :
    w.cell? ⟨b, 0, none⟩ = some (.string ⟨s.toArray⟩) ∧ w.cell? ⟨b, 1, none⟩ = some (.int .i64 at_) ∧ w.cell? ⟨b, 2, none⟩ = some (.int .i64 e) ∧ w.cell? ⟨b, 3, none⟩ = some (.int .i64 to) := by
  obtain ⟨h0, h1, h2, h3, _⟩ := four_cells h.1
  exact ⟨h0, h1, h2, h3⟩

set_option maxHeartbeats 400000 in
theorem new_any (s : List UInt8) (w : World) (hs : s.length ≤ 9223372036854775807) :
    Calls Tryd.prog 59 #[strV s] w fun e w' => ∃ b, e = .returned (.pointer (some ⟨b, 0, none⟩)) ∧ RdAt w' b s 0 0 0 ∧ w.heap.size ≤ b ∧ Fr No w w' := by
  have HS := hid hs
  clear hs
  unfold strV
  go_enter Tryd.func59, Tryd.ntmps59
  go_wp2_with fail
  go_ret
  refine ⟨w.heap.size, rfl, ⟨?_, by omega, HS.out⟩, Nat.le_refl _, (Fr.refl w).alloc _⟩
  exact Go.heap_alloc_new _ _

set_option maxHeartbeats 400000 in
theorem good_nil (w : World) :
    Calls Tryd.prog 87 #[.pointer none] w fun e w' => e = .returned (.bool false) ∧ w = w' := by
  go_enter Tryd.func87, Tryd.ntmps87
  go_wp2_with fail
  go_ret
  exact ⟨rfl, rfl⟩

set_option maxHeartbeats 400000 in
theorem good_any (b : Nat) (s : List UInt8) (at_ e to : Nat) (w : World) (h : RdAt w b s at_ e to) :
    Calls Tryd.prog 87 #[.pointer (some ⟨b, 0, none⟩)] w fun en w' => en = .returned (.bool ((e : Int) == 0)) ∧ w = w' := by
  obtain ⟨_, _, h2, _⟩ := four_cells h.1
  clear h
  go_enter Tryd.func87, Tryd.ntmps87
  go_wp2_with fail
  go_ret
  exact ⟨rfl, rfl⟩

set_option maxHeartbeats 400000 in
theorem wrong_any (b : Nat) (s : List UInt8) (at_ e to k p : Nat) (w : World) (h : RdAt w b s at_ e to) (hp : p ≤ s.length) :
    Calls Tryd.prog 89 #[.pointer (some ⟨b, 0, none⟩), .int .i64 k, .int .i64 p] w fun en w' => en = .returned (.tuple #[]) ∧ Red w w' b s p k p := by
  obtain ⟨h0, h1, h2, h3, f0, f1, f2, f3⟩ := four_cells h.1
  have H := hid h
  have HP := hid hp
  clear h hp
  go_enter Tryd.func89, Tryd.ntmps89
  go_wp2_with fail
  refine bodyPost_end (results_none rfl _ _ _) rfl ⟨rfl, ?_⟩
  have hb := H.out.1
  have e1 := heap_setCell_at (i := 2) (.int .i64 k) hb
  have e2 := heap_setCell_at (i := 3) (.int .i64 p) e1
  have e3 := heap_setCell_at (i := 1) (.int .i64 p) e2
  exact ⟨⟨e3, HP.out, H.out.2.2⟩, (((Fr.refl w).set_only 2 _).set_only 3 _).set_only 1 _⟩

set_option maxHeartbeats 400000 in
theorem take_nil (n : Int) (w : World) :
    Calls Tryd.prog 88 #[.pointer none, .int .i64 n] w fun e w' => e = .returned (.tuple #[strV [], .bool false]) ∧ w = w' := by
  unfold strV
  go_enter Tryd.func88, Tryd.ntmps88
  go_wp2_with (go_at_call 87; refine (good_nil _).mono ?_; rintro e w' ⟨rfl, rfl⟩)
  go_ret2
  exact ⟨rfl, rfl⟩

set_option maxHeartbeats 400000 in
theorem take_bad (b : Nat) (s : List UInt8) (at_ e to : Nat) (n : Int) (w : World) (h : RdAt w b s at_ e to) (he : e ≠ 0) :
    Calls Tryd.prog 88 #[.pointer (some ⟨b, 0, none⟩), .int .i64 n] w fun en w' => en = .returned (.tuple #[strV [], .bool false]) ∧ w = w' := by
  have hg := good_any b s at_ e to w h
  rw [show (((e : Int)) == 0) = false from by simpa using he] at hg
  have HG := hid hg
  clear hg h
  unfold strV
  go_enter Tryd.func88, Tryd.ntmps88
  go_wp2_with (go_at_call 87; refine HG.out.mono ?_; rintro e w' ⟨rfl, rfl⟩)
  go_ret2
  exact ⟨rfl, rfl⟩

set_option maxHeartbeats 400000 in
theorem take_short (b : Nat) (s : List UInt8) (at_ to n : Nat) (w : World) (h : RdAt w b s at_ 0 to) (hn : s.length - at_ < n) :
    Calls Tryd.prog 88 #[.pointer (some ⟨b, 0, none⟩), .int .i64 n] w fun en w' => en = .returned (.tuple #[strV [], .bool false]) ∧ Red w w' b s at_ 8 at_ := by
  have hg := good_any b s at_ 0 to w h
  have HG := hid hg
  have hw := fun m => wrong_any b s at_ 0 to 8 at_ (w.drewN m) h h.2.1
  have HW := hid hw
  obtain ⟨h0, h1, h2, h3, _⟩ := four_cells h.1
  have hle := h.2.1
  have hmax := h.2.2
  unfold strV at h0 ⊢
  clear hg hw
  have hd : decide ((s.length : Int) - at_ < n) = true := by simp; omega
  have HL := hid h
  clear h
  go_enter Tryd.func88, Tryd.ntmps88
  go_wp2_with (go_at_call 87; refine HG.out.mono ?_; rintro e w' ⟨rfl, rfl⟩)
  go_quiet (fail)
  go_wp2_with (go_at_call 89; refine (HW.out _).mono ?_; rintro e w' ⟨rfl, hr⟩)
  go_ret2
  exact ⟨rfl, hr.1, ((Fr.refl w).drewN nq).trans hr.2⟩

set_option maxHeartbeats 400000 in
theorem take_ok (b : Nat) (s : List UInt8) (at_ to n : Nat) (w : World) (h : RdAt w b s at_ 0 to) (hn : n ≤ s.length - at_) :
    Calls Tryd.prog 88 #[.pointer (some ⟨b, 0, none⟩), .int .i64 n] w fun en w' => en = .returned (.tuple #[strV ((s.drop at_).take n), .bool true]) ∧ Red w w' b s (at_ + n) 0 to := by
  have hg := good_any b s at_ 0 to w h
  have HG := hid hg
  obtain ⟨h0, h1, h2, h3, f0, f1, f2, f3⟩ := four_cells h.1
  have hle := h.2.1
  have hmax := h.2.2
  unfold strV at h0 ⊢
  clear hg
  have hd : decide ((s.length : Int) - at_ < n) = false := by simp; omega
  have HL := hid h
  clear h
  go_enter Tryd.func88, Tryd.ntmps88
  go_wp2_with (go_at_call 87; refine HG.out.mono ?_; rintro e w' ⟨rfl, rfl⟩)
  go_quiet (fail)
  go_wp2_with fail
  revert nq; intro nqa
  go_quiet (fail)
  go_wp2_with fail
  go_ret2
  have hb := HL.out.1
  have e1 := heap_setCell_at (w := w.drewN (nqa + nq)) (i := 1) (.int .i64 (at_ + n)) hb
  refine ⟨?_, ⟨?_, by omega, hmax⟩, ((Fr.refl w).drewN _).set_only 1 _⟩
  · simp only [ByteArray.extract_mk]
    rw [show at_ + n - at_ = n from by omega]
    rfl
  · rw [e1]
    simp [strV]

/-! ### what is asked of a reader -/
set_option maxHeartbeats 400000 in
theorem err_nil (w : World) :
    Calls Tryd.prog 61 #[.pointer none] w fun e w' => e = .returned (.tuple #[.int .i64 2, .int .i64 0]) ∧ Fr No w w' := by
  go_enter Tryd.func61, Tryd.ntmps61
  go_wp2_with fail
  go_ret2
  exact ⟨rfl, Fr.refl _⟩
set_option maxHeartbeats 400000 in
theorem err_any (b : Nat) (s : List UInt8) (at_ e to : Nat) (w : World) (h : RdAt w b s at_ e to) :
    Calls Tryd.prog 61 #[.pointer (some ⟨b, 0, none⟩)] w fun en w' => en = .returned (.tuple #[.int .i64 e, .int .i64 to]) ∧ Fr No w w' := by
  obtain ⟨h0, h1, h2, h3, _⟩ := four_cells h.1
  clear h
  go_enter Tryd.func61, Tryd.ntmps61
  go_wp2_with fail
  go_quiet (fail)
  go_wp2_with fail
  go_ret2
  exact ⟨rfl, (Fr.refl w).drewN _⟩
set_option maxHeartbeats 400000 in
theorem left_nil (w : World) :
    Calls Tryd.prog 94 #[.pointer none] w fun e w' => e = .returned (.int .i64 0) ∧ Fr No w w' := by
  go_enter Tryd.func94, Tryd.ntmps94
  go_wp2_with fail
  go_ret
  exact ⟨rfl, Fr.refl _⟩
set_option maxHeartbeats 400000 in
theorem left_any (b : Nat) (s : List UInt8) (at_ e to : Nat) (w : World) (h : RdAt w b s at_ e to) :
    Calls Tryd.prog 94 #[.pointer (some ⟨b, 0, none⟩)] w fun en w' => en = .returned (.int .i64 ((s.length - at_ : Nat) : Int)) ∧ Fr No w w' := by
  obtain ⟨h0, h1, h2, h3, _⟩ := four_cells h.1
  have hle := h.2.1
  have hmax := h.2.2
  unfold strV at h0
  clear h
  go_enter Tryd.func94, Tryd.ntmps94
  go_wp2_with fail
  go_quiet (fail)
  go_wp2_with fail
  go_ret
  exact ⟨by rw [Int.ofNat_sub hle]; rfl, (Fr.refl w).drewN _⟩
/-- What End says. -/
def endE (n at_ e : Nat) : Nat := if e = 0 ∧ at_ < n then 4 else e

/-- A fixed number's value: the highest byte first. -/
def beN (l : List UInt8) : Nat := l.foldl (fun n c => n * 256 + c.toNat) 0
theorem beN_snoc (l : List UInt8) (c : UInt8) : beN (l ++ [c]) = beN l * 256 + c.toNat := by simp [beN]
theorem beN_acc (l : List UInt8) : ∀ n : Nat, l.foldl (fun n c => n * 256 + c.toNat) n < (n + 1) * 256 ^ l.length := by
  induction l with
  | nil => intro n; simp
  | cons c l ih =>
    intro n
    refine Nat.lt_of_lt_of_le (ih _) ?_
    rw [List.length_cons, Nat.pow_succ, Nat.mul_comm (256 ^ l.length) 256, ← Nat.mul_assoc]
    refine Nat.mul_le_mul_right _ ?_
    have := c.toNat_lt
    show n * 256 + c.toNat + 1 ≤ _
    omega
theorem beN_lt (l : List UInt8) : beN l < 256 ^ l.length := by have := beN_acc l 0; simpa [beN] using this
theorem take_snoc (l : List UInt8) (k : Nat) (h : k < l.length) : l.take (k + 1) = l.take k ++ [l[k]] := List.take_succ_eq_append_getElem h
theorem beN_take_lt (l : List UInt8) (k : Nat) (h : k < l.length) (h8 : l.length ≤ 8) : beN (l.take k) < 72057594037927936 := by
  refine Nat.lt_of_lt_of_le (beN_lt _) ?_
  rw [show (72057594037927936 : Nat) = 256 ^ 7 from rfl]
  exact Nat.pow_le_pow_right (by decide) (by simp; omega)
theorem be_step (x c : Nat) (hx : x < 72057594037927936) (hc : c < 256) :
    bits .or .u64 (IntKind.u64.wrap ((x : Int) * 256)) (IntKind.u64.wrap (c : Int)) = ((x * 256 + c : Nat) : Int) := by
  rw [IntWalk.u64_in _ (by omega), IntWalk.u64_in _ (by omega)]
  have e : ((x : Int) * 256) = ((x * 256 : Nat) : Int) := by simp
  rw [e, u64_or_nat _ _ (by omega) (by omega), Nat.or_comm, Nat.mul_comm x 256, or_add x c 8 hc]

set_option maxHeartbeats 400000 in
theorem fixedR1 (b : Nat) (s : List UInt8) (at_ to : Nat) (w : World) (h : RdAt w b s at_ 0 to) (hn : 1 ≤ s.length - at_) :
    Calls Tryd.prog 86 #[.pointer (some ⟨b, 0, none⟩), .int .i64 1] w fun en w' => en = .returned (.int .u8 (beN ((s.drop at_).take 1))) ∧ Red w w' b s (at_ + 1) 0 to := by
  have ht := take_ok b s at_ to 1 w h hn
  obtain ⟨l, hl⟩ : ∃ l, l = (s.drop at_).take 1 := ⟨_, rfl⟩
  have hlen : l.length = 1 := by rw [hl]; simp; omega
  rw [← hl] at ht ⊢
  have h8 : l.length ≤ 8 := by omega
  have hlt : beN l < 256 ^ 1 := by have := beN_lt l; rwa [hlen] at this
  have HB := hid hlt
  unfold strV at ht
  have HT := hid ht
  clear h ht hl hlen hlt hn
  go_enter Tryd.func86, Tryd.ntmps86
  go_wp2_with (go_at_call 88; refine HT.out.mono ?_; rintro e w1 ⟨rfl, hr⟩)
  have HR := hid hr
  clear hr
  go_loopw [7, 8, 17] (fun n i c wr => ∃ k : Nat, k ≤ l.length ∧ c = .int .i64 k ∧ n = .int .u64 (beN (l.take k)) ∧ w1 = wr) (fun _ _ c _ => l.length - (intOf c).toNat)
  case atStart => exact ⟨0, Nat.zero_le _, rfl, rfl, rfl⟩
  case round =>
    obtain ⟨k, hk, rfl, rfl, rfl⟩ := hrel
    by_cases hlt : k < l.length
    · have hd : decide ((k : Int) < (l.length : Int)) = true := by simp; omega
      go_wp2_with fail
      go_roundw
      case rel =>
        refine ⟨k + 1, by omega, by go_num, ?_, by trivial⟩
        have hc := (l[k]).toNat_lt
        have h1 := be_step (beN (l.take k)) (l[k]).toNat (beN_take_lt l k hlt h8) hc
        rw [take_snoc l k hlt, beN_snoc, ← h1]
        rfl
      case measure => simp [intOf]; omega
    · have hd : decide ((k : Int) < (l.length : Int)) = false := by simp; omega
      have e : l.take k = l := List.take_of_length_le (by omega)
      have HE := hid e
      clear e h8
      go_wp2_with fail
      go_ret
      refine ⟨?_, HR.out⟩
      have hB := HB.out
      rw [HE.out]
      generalize beN l = x at hB ⊢
      first
        | rfl
        | exact congrArg (fun y => Ending.returned (Value.int .u8 y)) (by first | omega | exact IntWalk.u16_in _ (by omega))
set_option maxHeartbeats 400000 in
theorem fixedR1_no (p : Option Addr) (w : World) (R : World → Prop)
    (ht : Calls Tryd.prog 88 #[.pointer p, .int .i64 1] w fun en w' => en = .returned (.tuple #[strV [], .bool false]) ∧ R w') :
    Calls Tryd.prog 86 #[.pointer p, .int .i64 1] w fun en w' => en = .returned (.int .u8 0) ∧ R w' := by
  unfold strV at ht
  have HT := hid ht
  clear ht
  go_enter Tryd.func86, Tryd.ntmps86
  go_wp2_with (go_at_call 88; refine HT.out.mono ?_; rintro e w1 ⟨rfl, hr⟩)
  refine wp_loop_rounds 1 ?_
  rw [rounds_succ]
  go_wp2_with fail
  go_ret
  exact ⟨rfl, hr⟩


/-- A short number, byte by byte: i bytes were taken, which made n. Left: the error; right: the number, how many bytes. -/
def shGo : List UInt8 → Nat → Nat → Nat ⊕ (Nat × Nat)
  | [], _, _ => .inl 8
  | c :: l, i, n =>
    if (i = 9 ∧ 1 < c.toNat) ∨ (0 < i ∧ c.toNat = 0) then .inl 4
    else if c.toNat < 128 then .inr (n + c.toNat % 128 * 128 ^ i, i + 1)
    else shGo l (i + 1) (n + c.toNat % 128 * 128 ^ i)
/-- What Short of a reader without an error reads, and how the reader stands then: the number, the place, the error, its place. -/
def rShort (s : List UInt8) (at_ to most : Nat) : Nat × Nat × Nat × Nat :=
  match shGo (s.drop at_) 0 0 with
  | .inl e => (0, at_, e, at_)
  | .inr (n, k) => if most < n then (0, at_, 40, at_) else (n, at_ + k, 0, to)
def ShortPost (s : List UInt8) (at_ to most : Nat) (w : World) (b : Nat) (en : Ending) (w' : World) : Prop :=
  en = .returned (.int .u64 (rShort s at_ to most).1) ∧ Red w w' b s (rShort s at_ to most).2.1 (rShort s at_ to most).2.2.1 (rShort s at_ to most).2.2.2

theorem andNot128 (m : Nat) (h : m < 256) : bits .andNot .u64 (m : Int) 128 = ((m % 128 : Nat) : Int) := by
  have : ∀ m : Nat, m < 256 → bits .andNot .u64 (m : Int) 128 = ((m % 128 : Nat) : Int) := by decide +kernel
  exact this m h
theorem pow128 (i : Nat) : 128 ^ i = 2 ^ (7 * i) := by rw [show (128 : Nat) = 2 ^ 7 from rfl, ← Nat.pow_mul]
theorem sh_bound (nn m i : Nat) (hn : nn < 128 ^ i) (hi : i ≤ 9) (h9 : i = 9 → m ≤ 1) : m % 128 * 2 ^ (7 * i) < 18446744073709551616 ∧ nn < 18446744073709551616 := by
  have h9' : (2 : Nat) ^ (7 * 9) = 9223372036854775808 := by decide
  have hp : (2 : Nat) ^ (7 * i) ≤ 2 ^ (7 * 9) := Nat.pow_le_pow_right (by decide) (by omega)
  rw [pow128] at hn
  refine ⟨?_, by omega⟩
  by_cases h : i = 9
  · subst h
    have := h9 rfl
    rw [h9']
    omega
  · have hp8 : (2 : Nat) ^ (7 * i) ≤ 2 ^ (7 * 8) := Nat.pow_le_pow_right (by decide) (by omega)
    have h8' : (2 : Nat) ^ (7 * 8) = 72057594037927936 := by decide
    have hm : m % 128 < 128 := Nat.mod_lt _ (by decide)
    calc m % 128 * 2 ^ (7 * i) ≤ 127 * 2 ^ (7 * 8) := Nat.mul_le_mul (by omega) hp8
      _ < _ := by rw [h8']; decide
theorem sh_or (nn m i : Nat) (hn : nn < 128 ^ i) (hm : m < 256) (hi : i ≤ 9) (h9 : i = 9 → m ≤ 1) :
    bits .or .u64 (nn : Int) (IntKind.u64.wrap (bits .andNot .u64 (m : Int) 128 * 2 ^ (7 * i))) = ((nn + m % 128 * 128 ^ i : Nat) : Int) := by
  obtain ⟨h1, h2⟩ := sh_bound nn m i hn hi h9
  rw [andNot128 m hm]
  have e : (((m % 128 : Nat) : Int) * 2 ^ (7 * i)) = ((m % 128 * 2 ^ (7 * i) : Nat) : Int) := by simp
  rw [e, IntWalk.u64_in _ (by omega), u64_or_nat _ _ h2 h1, pow128]
  rw [pow128] at hn
  rw [Nat.mul_comm (m % 128), or_add (m % 128) nn (7 * i) hn, Nat.add_comm]
theorem sh_lt (nn m i : Nat) (hn : nn < 128 ^ i) : nn + m % 128 * 128 ^ i < 128 ^ (i + 1) := by
  have hm : m % 128 < 128 := Nat.mod_lt _ (by decide)
  have h2 : m % 128 * 128 ^ i ≤ 127 * 128 ^ i := Nat.mul_le_mul_right _ (by omega)
  rw [Nat.pow_succ]
  omega

set_option maxHeartbeats 400000 in
theorem upTo_ok (p : Option Addr) (n most from_ : Nat) (w : World) (h : n ≤ most) :
    Calls Tryd.prog 90 #[.pointer p, .int .u64 n, .int .u64 most, .int .i64 from_] w fun en w' => en = .returned (.int .u64 n) ∧ w = w' := by
  have hd : decide ((most : Int) < (n : Int)) = false := by simp; omega
  go_enter Tryd.func90, Tryd.ntmps90
  go_wp2_with fail
  go_ret
  exact ⟨rfl, rfl⟩
set_option maxHeartbeats 400000 in
theorem upTo_no (b : Nat) (s : List UInt8) (at_ e to n most from_ : Nat) (w : World) (hr : RdAt w b s at_ e to) (hf : from_ ≤ s.length) (h : most < n) :
    Calls Tryd.prog 90 #[.pointer (some ⟨b, 0, none⟩), .int .u64 n, .int .u64 most, .int .i64 from_] w fun en w' => en = .returned (.int .u64 0) ∧ Red w w' b s from_ 40 from_ := by
  have HW := hid (wrong_any b s at_ e to 40 from_ w hr hf)
  have hd : decide ((most : Int) < (n : Int)) = true := by simp; omega
  clear hr hf
  go_enter Tryd.func90, Tryd.ntmps90
  go_wp2_with (go_at_call 89; refine HW.out.mono ?_; rintro e w1 ⟨rfl, hr⟩)
  go_ret
  exact ⟨rfl, hr⟩
/-- upTo, as Short ends by it. -/
theorem upTo_end (b : Nat) (s : List UInt8) (at_ to k n most : Nat) (w0 w : World) (hs : shGo (s.drop at_) 0 0 = .inr (n, k)) (hr : RdAt w b s (at_ + k) 0 to) (hf : at_ ≤ s.length) (hfr : Fr (Only b) w0 w) :
    Calls Tryd.prog 90 #[.pointer (some ⟨b, 0, none⟩), .int .u64 n, .int .u64 most, .int .i64 at_] w fun en w' => ∃ r : Nat, en = .returned (.int .u64 r) ∧ ShortPost s at_ to most w0 b (.returned (.int .u64 r)) w' := by
  by_cases h : most < n
  · refine (upTo_no b s (at_ + k) 0 to n most at_ w hr hf h).mono ?_
    rintro e w' ⟨rfl, h2⟩
    refine ⟨0, rfl, ?_⟩
    unfold ShortPost rShort
    rw [hs]
    simp only [if_pos h]
    exact ⟨by trivial, h2.1, hfr.trans h2.2⟩
  · refine (upTo_ok (some ⟨b, 0, none⟩) n most at_ w (by omega)).mono ?_
    rintro e w' ⟨rfl, rfl⟩
    refine ⟨n, rfl, ?_⟩
    unfold ShortPost rShort
    rw [hs]
    simp only [if_neg h]
    exact ⟨by trivial, hr, hfr⟩
/-- wrong, as Short ends by it. -/
theorem wrong_end (b : Nat) (s : List UInt8) (at_ to p e t k most : Nat) (w0 w : World) (hs : shGo (s.drop at_) 0 0 = .inl k) (hr : RdAt w b s p e t) (hf : at_ ≤ s.length) (hfr : Fr (Only b) w0 w) :
    Calls Tryd.prog 89 #[.pointer (some ⟨b, 0, none⟩), .int .i64 k, .int .i64 at_] w fun en w' => en = .returned (.tuple #[]) ∧ ShortPost s at_ to most w0 b (.returned (.int .u64 0)) w' := by
  refine (wrong_any b s p e t k at_ w hr hf).mono ?_
  rintro e w' ⟨rfl, h2⟩
  refine ⟨rfl, ?_⟩
  unfold ShortPost rShort
  rw [hs]
  exact ⟨rfl, h2.1, hfr.trans h2.2⟩
theorem drop_cons (s : List UInt8) (k : Nat) (h : k < s.length) : s.drop k = s[k] :: s.drop (k + 1) := List.drop_eq_getElem_cons h

set_option maxRecDepth 100000 in
set_option maxHeartbeats 2000000 in
theorem shortR_any (b : Nat) (s : List UInt8) (at_ to most : Nat) (w : World) (h : RdAt w b s at_ 0 to) :
    Calls Tryd.prog 62 #[.pointer (some ⟨b, 0, none⟩), .int .u64 most] w fun en w' => ShortPost s at_ to most w b en w' := by
  have hg := good_any b s at_ 0 to w h
  have HG := hid hg
  obtain ⟨h0, h1, h2, h3, _⟩ := four_cells h.1
  have HH := hid h
  clear hg h
  go_enter Tryd.func62, Tryd.ntmps62
  go_wp2_with (go_at_call 87; refine HG.out.mono ?_; rintro e w1 ⟨rfl, rfl⟩)
  clear h0 h1 h2 h3
  go_loopw [6, 7] (fun n sh wr => ∃ i nn : Nat, sh = .int .i64 ((7 * i : Nat) : Int) ∧ n = .int .u64 nn ∧ RdAt wr b s (at_ + i) 0 to ∧ i ≤ 9 ∧ nn < 128 ^ i ∧ shGo (s.drop (at_ + i)) i nn = shGo (s.drop at_) 0 0 ∧ Fr (Only b) w wr) (fun _ sh _ => 70 - (intOf sh).toNat)
  case atStart => exact ⟨0, 0, rfl, rfl, HH.out, by omega, by simp, rfl, Fr.refl _⟩
  case round =>
    obtain ⟨i, nn, rfl, rfl, hr, hi, hnn, hgo, hfr⟩ := hrel
    have hle := HH.out.2.1
    have HFR := hid hfr
    have HNN := hid hnn
    clear hnn hfr HG
    by_cases hend : s.length ≤ at_ + i
    · have hsh : shGo (s.drop at_) 0 0 = .inl 8 := by rw [← hgo, List.drop_of_length_le hend]; rfl
      have HSH := hid hsh
      have ht := take_short b s (at_ + i) to 1 wr hr (by omega)
      unfold strV at ht
      have HT := hid ht
      clear hgo hsh ht hr hend
      go_wp2_with (first | (go_at_call 88; refine HT.out.mono ?_; rintro e w1 ⟨rfl, hr⟩) | (go_at_call 89; refine (wrong_end b s at_ to _ _ _ 8 most w _ HSH.out hr.1 hle (HFR.out.trans hr.2)).mono ?_; rintro e w2 ⟨rfl, hp⟩))
      go_ret
      exact hp
    · have hlt : at_ + i < s.length := by omega
      have ht := take_ok b s (at_ + i) to 1 wr hr (by omega)
      rw [drop_cons s (at_ + i) hlt] at hgo ht
      obtain ⟨c, hc⟩ : ∃ c, c = s[at_ + i] := ⟨_, rfl⟩
      rw [← hc] at hgo ht
      simp only [List.take_succ_cons, List.take_zero] at ht
      unfold strV at ht
      have HT := hid ht
      obtain ⟨m, hm⟩ : ∃ m, m = c.toNat := ⟨_, rfl⟩
      have hmb : m < 256 := by rw [hm]; exact c.toNat_lt
      have hsz : 0 < ({ data := #[c] } : ByteArray).size := by show 0 < 1; decide
      have hx : (({ data := #[c] } : ByteArray)[0]'hsz).toNat = m := by rw [hm]; rfl
      rw [shGo, ← hm] at hgo
      have HGO := hid hgo
      clear hgo ht hr hc hm hend
      by_cases hbad : (i = 9 ∧ 1 < m) ∨ (0 < i ∧ m = 0)
      · have hsh : shGo (s.drop at_) 0 0 = .inl 4 := by rw [← HGO.out, if_pos hbad]
        have HSH := hid hsh
        clear hsh
        by_cases h9 : i = 9 ∧ 1 < m
        · have g1 : ((7 * (i : Int)) == 63) = true := by simp; omega
          have g2 : decide ((1 : Int) < (m : Int)) = true := by simp; omega
          clear hbad
          go_wp2_with (first | (go_at_call 88; refine HT.out.mono ?_; rintro e w1 ⟨rfl, hr⟩) | (go_at_call 89; refine (wrong_end b s at_ to _ _ _ 4 most w _ HSH.out hr.1 hle (HFR.out.trans hr.2)).mono ?_; rintro e w2 ⟨rfl, hp⟩))
          go_ret
          exact hp
        · have hz : 0 < i ∧ m = 0 := by omega
          have g2 : decide ((1 : Int) < (m : Int)) = false := by simp; omega
          have g3 : decide ((0 : Int) < 7 * (i : Int)) = true := by simp; omega
          have g4 : ((m : Int) == 0) = true := by simp; omega
          clear hbad
          by_cases h63 : i = 9
          · have g1 : ((7 * (i : Int)) == 63) = true := by simp; omega
            clear h9 hz h63
            go_wp2_with (first | (go_at_call 88; refine HT.out.mono ?_; rintro e w1 ⟨rfl, hr⟩) | (go_at_call 89; refine (wrong_end b s at_ to _ _ _ 4 most w _ HSH.out hr.1 hle (HFR.out.trans hr.2)).mono ?_; rintro e w2 ⟨rfl, hp⟩))
            go_ret
            exact hp
          · have g1 : ((7 * (i : Int)) == 63) = false := by simp; omega
            clear h9 hz h63
            go_wp2_with (first | (go_at_call 88; refine HT.out.mono ?_; rintro e w1 ⟨rfl, hr⟩) | (go_at_call 89; refine (wrong_end b s at_ to _ _ _ 4 most w _ HSH.out hr.1 hle (HFR.out.trans hr.2)).mono ?_; rintro e w2 ⟨rfl, hp⟩))
            go_ret
            exact hp
      · have hgo2 := HGO.out
        rw [if_neg hbad] at hgo2
        have h9 : i = 9 → m ≤ 1 := by omega
        have hor := sh_or nn m i HNN.out hmb hi h9
        by_cases hlast : m < 128
        · have hsh : shGo (s.drop at_) 0 0 = .inr (nn + m % 128 * 128 ^ i, i + 1) := by rw [← hgo2, if_pos hlast]
          have HSH := hid hsh
          have g5 : decide ((m : Int) < 128) = true := by simp; omega
          obtain ⟨x, hxx⟩ : ∃ x, x = nn + m % 128 * 128 ^ i := ⟨_, rfl⟩
          rw [← hxx] at hor HSH
          clear hsh hgo2 hxx
          by_cases h63 : i = 9
          · have g1 : ((7 * (i : Int)) == 63) = true := by simp; omega
            have g2 : decide ((1 : Int) < (m : Int)) = false := by simp; omega
            have g3 : decide ((0 : Int) < 7 * (i : Int)) = true := by simp; omega
            have g4 : ((m : Int) == 0) = false := by simp; omega
            clear h9 hbad h63
            go_wp2_with (first | (go_at_call 88; refine HT.out.mono ?_; rintro e w1 ⟨rfl, hr⟩) | (go_at_call 90; refine (upTo_end b s at_ to (i + 1) x most w _ HSH.out hr.1 hle (HFR.out.trans hr.2)).mono ?_; rintro e w2 ⟨r, rfl, hp⟩))
            go_ret
            exact hp
          · have g1 : ((7 * (i : Int)) == 63) = false := by simp; omega
            by_cases h00 : 0 < i
            · have g3 : decide ((0 : Int) < 7 * (i : Int)) = true := by simp; omega
              have g4 : ((m : Int) == 0) = false := by simp; omega
              clear h9 hbad h63
              go_wp2_with (first | (go_at_call 88; refine HT.out.mono ?_; rintro e w1 ⟨rfl, hr⟩) | (go_at_call 90; refine (upTo_end b s at_ to (i + 1) x most w _ HSH.out hr.1 hle (HFR.out.trans hr.2)).mono ?_; rintro e w2 ⟨r, rfl, hp⟩))
              go_ret
              exact hp
            · have g3 : decide ((0 : Int) < 7 * (i : Int)) = false := by simp; omega
              clear h9 hbad h63
              go_wp2_with (first | (go_at_call 88; refine HT.out.mono ?_; rintro e w1 ⟨rfl, hr⟩) | (go_at_call 90; refine (upTo_end b s at_ to (i + 1) x most w _ HSH.out hr.1 hle (HFR.out.trans hr.2)).mono ?_; rintro e w2 ⟨r, rfl, hp⟩))
              go_ret
              exact hp
        · rw [if_neg hlast] at hgo2
          have hi9 : i ≠ 9 := by omega
          have g1 : ((7 * (i : Int)) == 63) = false := by simp; omega
          have g4 : ((m : Int) == 0) = false := by simp; omega
          have g5 : decide ((m : Int) < 128) = false := by simp; omega
          have hxlt := sh_lt nn m i HNN.out
          obtain ⟨x, hxx⟩ : ∃ x, x = nn + m % 128 * 128 ^ i := ⟨_, rfl⟩
          rw [← hxx] at hor hgo2 hxlt
          have HG2 := hid hgo2
          have HXL := hid hxlt
          clear hgo2 hxx hxlt
          by_cases h00 : 0 < i
          · have g3 : decide ((0 : Int) < 7 * (i : Int)) = true := by simp; omega
            clear h9 hbad
            go_wp2_with (first | (go_at_call 88; refine HT.out.mono ?_; rintro e w1 ⟨rfl, hr⟩))
            go_roundw
            case rel => exact ⟨i + 1, x, by go_num, rfl, hr.1, by omega, HXL.out, HG2.out, HFR.out.trans hr.2⟩
            case measure => simp [intOf]; omega
          · have g3 : decide ((0 : Int) < 7 * (i : Int)) = false := by simp; omega
            clear h9 hbad
            go_wp2_with (first | (go_at_call 88; refine HT.out.mono ?_; rintro e w1 ⟨rfl, hr⟩))
            go_roundw
            case rel => exact ⟨i + 1, x, by go_num, rfl, hr.1, by omega, HXL.out, HG2.out, HFR.out.trans hr.2⟩
            case measure => simp [intOf]; omega



/-- A reader: what it reads, how much was taken, the error, its place. -/
structure Rd where
  s : List UInt8
  at_ : Nat
  e : Nat
  to : Nat
deriving DecidableEq
def RdIs (w : World) (b : Nat) (r : Rd) : Prop := RdAt w b r.s r.at_ r.e r.to
def ReadTo (w w' : World) (b : Nat) (r : Rd) : Prop := RdIs w' b r ∧ Fr (Only b) w w'
theorem RdIs.fr {X : Nat → Prop} {w w' : World} {b : Nat} {r : Rd} (h : RdIs w b r) (hf : Fr X w w') (hb : ¬ X b) : RdIs w' b r := RdAt.fr h hf hb
theorem RdIs.lt {w : World} {b : Nat} {r : Rd} (h : RdIs w b r) : b < w.heap.size := RdAt.lt h

def rFix (k : Nat) (r : Rd) : Nat × Rd :=
  if r.e = 0 then
    if r.s.length - r.at_ < k then (0, { r with e := 8, to := r.at_ })
    else (beN ((r.s.drop r.at_).take k), { r with at_ := r.at_ + k })
  else (0, r)
def rRaw (n : Int) (r : Rd) : List UInt8 × Rd :=
  if r.e = 0 then
    if r.s.length - r.at_ < n.toNat then ([], { r with e := 8, to := r.at_ })
    else ((r.s.drop r.at_).take n.toNat, { r with at_ := r.at_ + n.toNat })
  else ([], r)
def rSh (most : Nat) (r : Rd) : Nat × Rd :=
  if r.e = 0 then ((rShort r.s r.at_ r.to most).1, { r with at_ := (rShort r.s r.at_ r.to most).2.1, e := (rShort r.s r.at_ r.to most).2.2.1, to := (rShort r.s r.at_ r.to most).2.2.2 })
  else (0, r)
def rTx (most : Int) (r : Rd) : List UInt8 × Rd :=
  if r.e = 0 then
    if (rSh most.toNat r).2.e = 0 then
      if r.s.length - (rSh most.toNat r).2.at_ < (rSh most.toNat r).1 then ([], { r with e := 8, to := r.at_ })
      else rRaw (rSh most.toNat r).1 (rSh most.toNat r).2
    else ([], (rSh most.toNat r).2)
  else ([], r)

theorem good_is (b : Nat) (r : Rd) (w : World) (h : RdIs w b r) (he : r.e ≠ 0) :
    Calls Tryd.prog 87 #[.pointer (some ⟨b, 0, none⟩)] w fun en w' => en = .returned (.bool false) ∧ w = w' := by
  have hg := good_any b r.s r.at_ r.e r.to w h
  rwa [show (((r.e : Int)) == 0) = false from by simpa using he] at hg

theorem fixedIs1 (b : Nat) (r : Rd) (w : World) (h : RdIs w b r) :
    Calls Tryd.prog 86 #[.pointer (some ⟨b, 0, none⟩), .int .i64 1] w fun en w' => en = .returned (.int .u8 (rFix 1 r).1) ∧ ReadTo w w' b (rFix 1 r).2 := by
  unfold rFix
  by_cases he : r.e = 0
  · rw [if_pos he]
    have h' : RdAt w b r.s r.at_ 0 r.to := he ▸ h
    by_cases hs : r.s.length - r.at_ < 1
    · rw [if_pos hs]
      exact (fixedR1_no _ w _ (take_short b r.s r.at_ r.to 1 w h' hs)).mono fun _ _ ⟨h1, h2⟩ => ⟨h1, h2⟩
    · rw [if_neg hs]
      refine (fixedR1 b r.s r.at_ r.to w h' (by omega)).mono fun _ _ ⟨h1, h2⟩ => ⟨h1, ?_⟩
      have e1 : (r.e : Nat) = 0 := he
      refine ⟨?_, h2.2⟩
      show RdAt _ b r.s (r.at_ + 1) r.e r.to
      rw [e1]
      exact h2.1
  · rw [if_neg he]
    exact (fixedR1_no _ w _ (take_bad b r.s r.at_ r.e r.to 1 w h he)).mono fun _ _ ⟨h1, h2⟩ => ⟨h1, by subst h2; exact ⟨h, Fr.refl _⟩⟩
set_option maxHeartbeats 400000 in
theorem u8R (b : Nat) (r : Rd) (w : World) (h : RdIs w b r) :
    Calls Tryd.prog 60 #[.pointer (some ⟨b, 0, none⟩)] w fun en w' => en = .returned (.int .u8 (rFix 1 r).1) ∧ ReadTo w w' b (rFix 1 r).2 := by
  have H := hid (fixedIs1 b r w h)
  clear h
  generalize (rFix 1 r).1 = n at H ⊢
  go_enter Tryd.func60, Tryd.ntmps60
  go_wp2_with (go_at_call 86; refine H.out.mono ?_; rintro e w1 ⟨rfl, hr⟩)
  go_ret
  exact ⟨rfl, hr⟩
set_option maxHeartbeats 400000 in
theorem u8R_nil (w : World) :
    Calls Tryd.prog 60 #[.pointer none] w fun en w' => en = .returned (.int .u8 0) ∧ w = w' := by
  have H := hid (fixedR1_no none w (fun w' => w = w') (take_nil 1 w))
  go_enter Tryd.func60, Tryd.ntmps60
  go_wp2_with (go_at_call 86; refine H.out.mono ?_; rintro e w1 ⟨rfl, hr⟩)
  go_ret
  exact ⟨rfl, hr⟩

/-! ### bytes -/
theorem takeIs (b : Nat) (r : Rd) (n : Nat) (w : World) (h : RdIs w b r) :
    Calls Tryd.prog 88 #[.pointer (some ⟨b, 0, none⟩), .int .i64 n] w fun en w' => (∃ ok, en = .returned (.tuple #[strV (rRaw n r).1, .bool ok])) ∧ ReadTo w w' b (rRaw n r).2 := by
  unfold rRaw
  rw [Int.toNat_natCast]
  by_cases he : r.e = 0
  · rw [if_pos he]
    have h' : RdAt w b r.s r.at_ 0 r.to := he ▸ h
    by_cases hs : r.s.length - r.at_ < n
    · rw [if_pos hs]
      exact (take_short b r.s r.at_ r.to n w h' hs).mono fun _ _ ⟨h1, h2⟩ => ⟨⟨_, h1⟩, h2⟩
    · rw [if_neg hs]
      refine (take_ok b r.s r.at_ r.to n w h' (by omega)).mono fun _ _ ⟨h1, h2⟩ => ⟨⟨_, h1⟩, ?_, h2.2⟩
      have e1 : (r.e : Nat) = 0 := he
      show RdAt _ b r.s (r.at_ + n) r.e r.to
      rw [e1]
      exact h2.1
  · rw [if_neg he]
    exact (take_bad b r.s r.at_ r.e r.to n w h he).mono fun _ _ ⟨h1, h2⟩ => ⟨⟨_, h1⟩, by subst h2; exact ⟨h, Fr.refl _⟩⟩
theorem max_zero (n : Int) : (if n < 0 then (0 : Int) else n) = (n.toNat : Int) := by split <;> omega
theorem rRaw_neg (n : Int) (r : Rd) (h : n < 0) : rRaw n r = rRaw ((0 : Nat) : Int) r := by
  unfold rRaw; rw [show n.toNat = 0 from by omega]; rfl
set_option maxHeartbeats 400000 in
theorem rawR (b : Nat) (r : Rd) (n : Int) (w : World) (h : RdIs w b r) :
    Calls Tryd.prog 107 #[.pointer (some ⟨b, 0, none⟩), .int .i64 n] w fun en w' => en = .returned (strV (rRaw n r).1) ∧ ReadTo w w' b (rRaw n r).2 := by
  by_cases hneg : n < 0
  · rw [rRaw_neg n r hneg]
    have H := hid (takeIs b r 0 w h)
    generalize (rRaw ((0 : Nat) : Int) r).1 = l at H ⊢
    unfold strV at H ⊢
    clear h
    go_enter Tryd.func107, Tryd.ntmps107
    go_wp2_with (go_at_call 88; refine H.out.mono ?_; rintro e w1 ⟨⟨ok, rfl⟩, hr⟩)
    go_ret
    exact ⟨rfl, hr⟩
  · obtain ⟨k, rfl⟩ := Int.eq_ofNat_of_zero_le (by omega : 0 ≤ n)
    have H := hid (takeIs b r k w h)
    generalize (rRaw (k : Int) r).1 = l at H ⊢
    unfold strV at H ⊢
    clear h hneg
    go_enter Tryd.func107, Tryd.ntmps107
    go_wp2_with (go_at_call 88; refine H.out.mono ?_; rintro e w1 ⟨⟨ok, rfl⟩, hr⟩)
    go_ret
    exact ⟨rfl, hr⟩
set_option maxHeartbeats 400000 in
theorem rawR_nil (n : Int) (w : World) :
    Calls Tryd.prog 107 #[.pointer none, .int .i64 n] w fun en w' => en = .returned (strV []) ∧ w = w' := by
  have H := hid (fun n => take_nil n w)
  unfold strV at H ⊢
  by_cases hneg : n < 0
  all_goals
    go_enter Tryd.func107, Tryd.ntmps107
    go_wp2_with (go_at_call 88; refine (H.out _).mono ?_; rintro e w1 ⟨rfl, rfl⟩)
    go_ret
    exact ⟨rfl, rfl⟩

/-! ### short numbers, texts -/
set_option maxHeartbeats 400000 in
theorem shortR_bad (p : Option Addr) (most : Nat) (w : World) (hg : Calls Tryd.prog 87 #[.pointer p] w fun en w' => en = .returned (.bool false) ∧ w = w') :
    Calls Tryd.prog 62 #[.pointer p, .int .u64 most] w fun en w' => en = .returned (.int .u64 0) ∧ w = w' := by
  have H := hid hg
  clear hg
  go_enter Tryd.func62, Tryd.ntmps62
  go_wp2_with (go_at_call 87; refine H.out.mono ?_; rintro e w1 ⟨rfl, rfl⟩)
  go_ret
  exact ⟨rfl, rfl⟩
theorem shortR (b : Nat) (r : Rd) (most : Nat) (w : World) (h : RdIs w b r) :
    Calls Tryd.prog 62 #[.pointer (some ⟨b, 0, none⟩), .int .u64 most] w fun en w' => en = .returned (.int .u64 (rSh most r).1) ∧ ReadTo w w' b (rSh most r).2 := by
  unfold rSh
  by_cases he : r.e = 0
  · rw [if_pos he]
    exact (shortR_any b r.s r.at_ r.to most w (he ▸ h)).mono fun _ _ ⟨h1, h2⟩ => ⟨h1, h2⟩
  · rw [if_neg he]
    exact (shortR_bad _ most w (good_is b r w h he)).mono fun _ _ ⟨h1, h2⟩ => ⟨h1, by subst h2; exact ⟨h, Fr.refl _⟩⟩
theorem shGo_bound (l : List UInt8) : ∀ i n, n < 128 ^ i → i ≤ 9 → match shGo l i n with | .inl e => e = 8 ∨ e = 4 | .inr (m, k) => m < 18446744073709551616 ∧ i + 1 ≤ k ∧ k ≤ 10 ∧ k ≤ i + l.length := by
  induction l with
  | nil => intro i n _ _; simp [shGo]
  | cons c l ih =>
    intro i n hn hi
    rw [shGo]
    split
    · rename_i h
      split at h
      · injection h with h; exact .inr h.symm
      · split at h
        · cases h
        · rename_i h1 h2
          have := ih (i + 1) _ (sh_lt n c.toNat i hn) (by have := c.toNat_lt; omega)
          rw [h] at this
          exact this
    · rename_i m k h
      split at h
      · cases h
      · rename_i hb
        split at h
        · injection h with h
          injection h with h1 h2
          subst h1 h2
          have h9 : i = 9 → c.toNat ≤ 1 := by omega
          obtain ⟨g1, g2⟩ := sh_bound n c.toNat i hn hi h9
          have g3 : n + c.toNat % 128 * 128 ^ i < 18446744073709551616 := by
            have h64 := sh_or n c.toNat i hn c.toNat_lt hi h9
            rw [andNot128 _ c.toNat_lt] at h64
            have e : (((c.toNat % 128 : Nat) : Int) * 2 ^ (7 * i)) = ((c.toNat % 128 * 2 ^ (7 * i) : Nat) : Int) := by simp
            rw [e, IntWalk.u64_in _ (by omega), u64_or_nat _ _ g2 g1] at h64
            have := Nat.or_lt_two_pow (n := 64) g2 g1
            omega
          simp
          omega
        · have := ih (i + 1) _ (sh_lt n c.toNat i hn) (by have := c.toNat_lt; omega)
          rw [h] at this
          simp only at this ⊢
          simp
          omega
theorem rShort_bound (s : List UInt8) (at_ to most : Nat) (h : at_ ≤ s.length) : (rShort s at_ to most).1 < 18446744073709551616 ∧ (rShort s at_ to most).1 ≤ most ∧ (rShort s at_ to most).2.1 ≤ s.length ∧ at_ ≤ (rShort s at_ to most).2.1 := by
  have hb := shGo_bound (s.drop at_) 0 0 (by simp) (by omega)
  unfold rShort
  split
  · simp; omega
  · rename_i n k hk
    rw [hk] at hb
    simp at hb
    split
    · simp; omega
    · simp; omega

set_option maxHeartbeats 400000 in
theorem textR_bad (p : Option Addr) (most : Int) (w : World) (hg : Calls Tryd.prog 87 #[.pointer p] w fun en w' => en = .returned (.bool false) ∧ w = w') :
    Calls Tryd.prog 106 #[.pointer p, .int .i64 most] w fun en w' => en = .returned (strV []) ∧ w = w' := by
  have H := hid hg
  clear hg
  unfold strV
  go_enter Tryd.func106, Tryd.ntmps106
  go_wp2_with (go_at_call 87; refine H.out.mono ?_; rintro e w1 ⟨rfl, rfl⟩)
  go_ret
  exact ⟨rfl, rfl⟩
theorem rSh_s (m : Nat) (r : Rd) : (rSh m r).2.s = r.s := by unfold rSh; split <;> rfl
theorem rSh_ok (m : Nat) (r : Rd) (h : r.at_ ≤ r.s.length) (he : r.e = 0) : (rSh m r).1 < 18446744073709551616 ∧ (rSh m r).2.at_ ≤ r.s.length ∧ r.at_ ≤ (rSh m r).2.at_ := by
  have := rShort_bound r.s r.at_ r.to m h
  unfold rSh
  rw [if_pos he]
  exact ⟨this.1, this.2.2.1, this.2.2.2⟩
set_option maxRecDepth 100000 in
set_option maxHeartbeats 1000000 in
theorem textR_nat (b : Nat) (r : Rd) (m : Nat) (w : World) (h : RdIs w b r) (he : r.e = 0) (hm : m ≤ 9223372036854775807) :
    Calls Tryd.prog 106 #[.pointer (some ⟨b, 0, none⟩), .int .i64 m] w fun en w' => en = .returned (strV (rTx m r).1) ∧ ReadTo w w' b (rTx m r).2 := by
  have hg := good_any b r.s r.at_ r.e r.to w h
  rw [he] at hg
  have HG := hid hg
  have H1 := hid (shortR b r m w h)
  have hs := rSh_s m r
  obtain ⟨hb1, hb2, hb3⟩ := rSh_ok m r h.2.1 he
  have hmax := h.2.2
  have hat := h.2.1
  obtain ⟨h0, h1, h2, h3, _⟩ := four_cells h.1
  unfold rTx
  rw [if_pos he, Int.toNat_natCast]
  generalize (rSh m r).1 = n at *
  generalize (rSh m r).2 = r1 at *
  obtain ⟨s1, a1, e1, t1⟩ := r1
  simp only at hs hb2 hb3 ⊢
  subst hs
  obtain ⟨s, a, e0, t0⟩ := r
  simp only at *
  subst he
  unfold strV at *
  have HN := hid hb1
  clear hg h hb1
  by_cases hx : e1 = 0
  · subst hx
    by_cases hsh : s.length - a1 < n
    · have hd : decide ((s.length : Int) - a1 < n) = true := by simp; omega
      rw [if_pos rfl, if_pos hsh]
      go_enter Tryd.func106, Tryd.ntmps106
      go_wp2_with (first | (go_at_call 87; refine HG.out.mono ?_; rintro e w1 ⟨rfl, rfl⟩) | (go_at_call 62; refine H1.out.mono ?_; rintro e w1 ⟨rfl, hr⟩; obtain ⟨j0, j1, j2, j3⟩ := rd_cells hr.1))
      go_quiet (fail)
      have HW := hid (fun m => wrong_any b s a1 0 t1 8 a (w1.drewN m) hr.1 hat)
      go_wp2_with (go_at_call 89; refine (HW.out _).mono ?_; rintro e w2 ⟨rfl, hr2⟩)
      go_ret
      exact ⟨rfl, hr2.1, hr.2.trans (((Fr.refl _).drewN _).trans hr2.2)⟩
    · have hd : decide ((s.length : Int) - a1 < n) = false := by simp; omega
      have hn2 : n ≤ 9223372036854775807 := by omega
      rw [if_pos rfl, if_neg hsh]
      have HX := hid (fun w (h : RdIs w b ⟨s, a1, 0, t1⟩) => rawR b ⟨s, a1, 0, t1⟩ n w h)
      generalize (rRaw (n : Int) ⟨s, a1, 0, t1⟩).1 = l at HX ⊢
      unfold strV at *
      go_enter Tryd.func106, Tryd.ntmps106
      go_wp2_with (first | (go_at_call 87; refine HG.out.mono ?_; rintro e w1 ⟨rfl, rfl⟩) | (go_at_call 62; refine H1.out.mono ?_; rintro e w1 ⟨rfl, hr⟩; obtain ⟨j0, j1, j2, j3⟩ := rd_cells hr.1))
      go_quiet (fail)
      go_wp2_with (go_at_call 107; refine (HX.out (w1.drewN nq) hr.1).mono ?_; rintro e w2 ⟨rfl, hr2⟩)
      go_ret
      exact ⟨rfl, hr2.1, hr.2.trans (((Fr.refl _).drewN _).trans hr2.2)⟩
  · have hd : ((e1 : Int) != 0) = true := by simpa using hx
    rw [if_neg hx]
    go_enter Tryd.func106, Tryd.ntmps106
    go_wp2_with (first | (go_at_call 87; refine HG.out.mono ?_; rintro e w1 ⟨rfl, rfl⟩) | (go_at_call 62; refine H1.out.mono ?_; rintro e w1 ⟨rfl, hr⟩; obtain ⟨j0, j1, j2, j3⟩ := rd_cells hr.1))
    go_ret
    exact ⟨rfl, hr⟩
set_option maxRecDepth 100000 in
set_option maxHeartbeats 1000000 in
theorem textR_neg (b : Nat) (r : Rd) (n0 : Int) (hneg : n0 < 0) (w : World) (h : RdIs w b r) (he : r.e = 0) :
    Calls Tryd.prog 106 #[.pointer (some ⟨b, 0, none⟩), .int .i64 n0] w fun en w' => en = .returned (strV (rTx ((0 : Nat) : Int) r).1) ∧ ReadTo w w' b (rTx ((0 : Nat) : Int) r).2 := by
  have hg := good_any b r.s r.at_ r.e r.to w h
  rw [he] at hg
  have HG := hid hg
  have H1 := hid (shortR b r 0 w h)
  have hs := rSh_s 0 r
  obtain ⟨hb1, hb2, hb3⟩ := rSh_ok 0 r h.2.1 he
  have hmax := h.2.2
  have hat := h.2.1
  obtain ⟨h0, h1, h2, h3, _⟩ := four_cells h.1
  unfold rTx
  rw [if_pos he, Int.toNat_natCast]
  generalize (rSh 0 r).1 = n at *
  generalize (rSh 0 r).2 = r1 at *
  obtain ⟨s1, a1, e1, t1⟩ := r1
  simp only at hs hb2 hb3 ⊢
  subst hs
  obtain ⟨s, a, e0, t0⟩ := r
  simp only at *
  subst he
  unfold strV at *
  have HN := hid hb1
  clear hg h hb1
  by_cases hx : e1 = 0
  · subst hx
    by_cases hsh : s.length - a1 < n
    · have hd : decide ((s.length : Int) - a1 < n) = true := by simp; omega
      rw [if_pos rfl, if_pos hsh]
      go_enter Tryd.func106, Tryd.ntmps106
      go_wp2_with (first | (go_at_call 87; refine HG.out.mono ?_; rintro e w1 ⟨rfl, rfl⟩) | (go_at_call 62; refine H1.out.mono ?_; rintro e w1 ⟨rfl, hr⟩; obtain ⟨j0, j1, j2, j3⟩ := rd_cells hr.1))
      go_quiet (fail)
      have HW := hid (fun m => wrong_any b s a1 0 t1 8 a (w1.drewN m) hr.1 hat)
      go_wp2_with (go_at_call 89; refine (HW.out _).mono ?_; rintro e w2 ⟨rfl, hr2⟩)
      go_ret
      exact ⟨rfl, hr2.1, hr.2.trans (((Fr.refl _).drewN _).trans hr2.2)⟩
    · have hd : decide ((s.length : Int) - a1 < n) = false := by simp; omega
      have hn2 : n ≤ 9223372036854775807 := by omega
      rw [if_pos rfl, if_neg hsh]
      have HX := hid (fun w (h : RdIs w b ⟨s, a1, 0, t1⟩) => rawR b ⟨s, a1, 0, t1⟩ n w h)
      generalize (rRaw (n : Int) ⟨s, a1, 0, t1⟩).1 = l at HX ⊢
      unfold strV at *
      go_enter Tryd.func106, Tryd.ntmps106
      go_wp2_with (first | (go_at_call 87; refine HG.out.mono ?_; rintro e w1 ⟨rfl, rfl⟩) | (go_at_call 62; refine H1.out.mono ?_; rintro e w1 ⟨rfl, hr⟩; obtain ⟨j0, j1, j2, j3⟩ := rd_cells hr.1))
      go_quiet (fail)
      go_wp2_with (go_at_call 107; refine (HX.out (w1.drewN nq) hr.1).mono ?_; rintro e w2 ⟨rfl, hr2⟩)
      go_ret
      exact ⟨rfl, hr2.1, hr.2.trans (((Fr.refl _).drewN _).trans hr2.2)⟩
  · have hd : ((e1 : Int) != 0) = true := by simpa using hx
    rw [if_neg hx]
    go_enter Tryd.func106, Tryd.ntmps106
    go_wp2_with (first | (go_at_call 87; refine HG.out.mono ?_; rintro e w1 ⟨rfl, rfl⟩) | (go_at_call 62; refine H1.out.mono ?_; rintro e w1 ⟨rfl, hr⟩; obtain ⟨j0, j1, j2, j3⟩ := rd_cells hr.1))
    go_ret
    exact ⟨rfl, hr⟩
theorem textR (b : Nat) (r : Rd) (most : Int) (w : World) (h : RdIs w b r) (hm : most ≤ 9223372036854775807) :
    Calls Tryd.prog 106 #[.pointer (some ⟨b, 0, none⟩), .int .i64 most] w fun en w' => en = .returned (strV (rTx most r).1) ∧ ReadTo w w' b (rTx most r).2 := by
  by_cases he : r.e = 0
  · by_cases hneg : most < 0
    · have e : rTx most r = rTx ((0 : Nat) : Int) r := by unfold rTx; rw [show most.toNat = 0 from by omega]; rfl
      rw [e]
      exact textR_neg b r most hneg w h he
    · obtain ⟨m, rfl⟩ := Int.eq_ofNat_of_zero_le (by omega : 0 ≤ most)
      exact textR_nat b r m w h he (by omega)
  · unfold rTx
    rw [if_neg he]
    exact (textR_bad _ most w (good_is b r w h he)).mono fun _ _ ⟨h1, h2⟩ => ⟨h1, by subst h2; exact ⟨h, Fr.refl _⟩⟩

end Go.Proofs.YtnmfmedoocnofaaDoor
