/-
  The contracts of wire's and the document's readers and writers, for this seat (out of the wire seat's texts): no statement of the seat is proved here.
-/
import Derived.Test.YtnmfmedoocnofaaDoorBase
import Derived.Test.YtnmfmedoocnofaaDoorProg
import Derived.Deep.Cut
namespace Go.Proofs.YtnmfmedoocnofaaDoor
open Go.RowKit

theorem infoU8 : (Tryd.prog.info? 5).map (fun i => (i.zero, i.size, i.bytes)) = some (some (.int .u8 0), 1, 1) := by kernel_rfl

/-- Block b is a writer, its slice lives in block o, it holds the bytes l. -/
def WrAt (w : World) (b : Nat) (o : Option Nat) (l : List UInt8) : Prop :=
  ∃ v, w.heap[b]? = some (.cells #[v] 69 (0, 0)) ∧ v.ownBlock = o ∧ Own w 5 1 v l.length (l.map byteV)
/-- The block that a writer's slice lives in is what it was, or new. -/
def NewO (w : World) (o o' : Option Nat) : Prop := o' = o ∨ ∀ g, o' = some g → w.heap.size ≤ g
/-- From w on the writer b, whose slice lived in o, came to hold l; nothing else was turned. -/
def Wrote (w w' : World) (b : Nat) (o : Option Nat) (l : List UInt8) : Prop :=
  ∃ o', WrAt w' b o' l ∧ Fr (OnlyO b o) w w' ∧ NewO w o o'

theorem WrAt.fr {X : Nat → Prop} {w w' : World} {b : Nat} {o : Option Nat} {l : List UInt8} (h : WrAt w b o l) (hf : Fr X w w') (hb : ¬ X b) (ho : ∀ g, o = some g → ¬ X g) : WrAt w' b o l := by
  obtain ⟨v, h1, h2, h3⟩ := h
  exact ⟨v, hf.heap h1 hb, h2, Own.fr h3 hf (fun k hk => ho k (h2 ▸ hk))⟩
theorem WrAt.lt {w : World} {b : Nat} {o : Option Nat} {l : List UInt8} (h : WrAt w b o l) : b < w.heap.size := by
  obtain ⟨v, h1, _⟩ := h; exact lt_of_block h1
theorem WrAt.lto {w : World} {b : Nat} {o : Option Nat} {l : List UInt8} (h : WrAt w b o l) : ∀ g, o = some g → g < w.heap.size := by
  obtain ⟨v, h1, h2, h3⟩ := h; exact fun g hg => Own.lt h3 g (h2.trans hg)
theorem Wrote.refl {w : World} {b : Nat} {o : Option Nat} {l : List UInt8} (h : WrAt w b o l) : Wrote w w b o l := ⟨o, h, Fr.refl _, .inl rfl⟩
theorem Wrote.trans {w w1 w2 : World} {b : Nat} {o o1 : Option Nat} {l2 : List UInt8} (hf : Fr (OnlyO b o) w w1) (hn : NewO w o o1) (h2 : Wrote w1 w2 b o1 l2) : Wrote w w2 b o l2 := by
  obtain ⟨o2, ha, hf2, hn2⟩ := h2
  refine ⟨o2, ha, hf.trans' hf2 ?_, ?_⟩
  · intro i hi hy
    rcases hy with hy | hy
    · exact .inl hy
    · rcases hn with rfl | hn
      · exact .inr hy
      · have := hn i hy; omega
  · rcases hn2 with rfl | hn2
    · exact hn
    · exact .inr fun g hg => Nat.le_trans hf.size (hn2 g hg)

/-- Bytes were appended to the writer's slice, and the new slice was stored back. -/
theorem wr_pushS {w w1 : World} {b : Nat} {v v' : Value} {l news : List UInt8} {n : Nat} {xs : List Value} (hb : w.heap[b]? = some (.cells #[v] 69 (0, 0))) (hown : Own w 5 1 v l.length (l.map byteV))
    (hown1 : Own w1 5 1 v' n xs) (hx : xs = (l ++ news).map byteV)
    (hf1 : Fr (OnlyS v.ownBlock) w w1) (hn1 : v'.ownBlock = v.ownBlock ∨ v'.ownBlock = some w.heap.size) :
    w1.heap[b]? = some (.cells #[v] 69 (0, 0)) ∧ w1.frozen? ⟨b, 0, none⟩ = false ∧ Wrote w (w1.setCell ⟨b, 0, none⟩ v') b v.ownBlock (l ++ news) := by
  have hlt := lt_of_block hb
  have hne : v.ownBlock ≠ some b := by
    intro h
    rcases hown.2 with ⟨rfl, _⟩ | ⟨g, cap, cur, rfl, _, hg, _⟩
    · cases h
    · have : g = b := by simpa [Value.ownBlock] using h
      subst this
      rw [hb] at hg
      simp at hg
  have hb1 : w1.heap[b]? = some (.cells #[v] 69 (0, 0)) := hf1.heap hb hne
  have hne' : v'.ownBlock ≠ some b := by
    intro h
    rcases hn1 with h1 | h1
    · exact hne (h1 ▸ h)
    · rw [h1] at h; have : w.heap.size = b := by simpa using h
      omega
  have hn : n = (l ++ news).length := by
    have := hown1.1
    rw [hx] at this
    simpa using this.symm
  subst hn
  refine ⟨hb1, free_of_one hb1, v'.ownBlock, ⟨v', one_setCell hb1, rfl, ?_⟩, ?_, ?_⟩
  · rw [← hx]; exact ownsRow_setCell_other hown1 hne' _
  · exact (hf1.mono (Y := OnlyO b v.ownBlock) (fun k _ h => .inr h)).setCell (.inl (.inl rfl)) _
  · rcases hn1 with h | h
    · exact .inl h
    · exact .inr fun g hg => by rw [h] at hg; have : w.heap.size = g := by simpa using hg
                                omega
/-- The like, behind a block of their own. -/
theorem wr_push {w w1 : World} {b : Nat} {v v' : Value} {l news : List UInt8} {O : Obj} {n : Nat} {xs : List Value} (hb : w.heap[b]? = some (.cells #[v] 69 (0, 0))) (hown : Own w 5 1 v l.length (l.map byteV))
    (hown1 : Own w1 5 1 v' n xs) (hx : xs = (l ++ news).map byteV)
    (hf1 : Fr (OnlyS v.ownBlock) (w.alloc O) w1) (hn1 : v'.ownBlock = v.ownBlock ∨ v'.ownBlock = some (w.heap.size + 1)) :
    w1.heap[b]? = some (.cells #[v] 69 (0, 0)) ∧ w1.frozen? ⟨b, 0, none⟩ = false ∧ Wrote w (w1.setCell ⟨b, 0, none⟩ v') b v.ownBlock (l ++ news) := by
  have hlt := lt_of_block hb
  obtain ⟨h1, h2, o', h3, h4, h5⟩ := wr_pushS (w := w.alloc O) (by rw [Below.heap_alloc _ _ _ hlt]; exact hb) (World.ownsRow.alloc hown O) hown1 hx hf1 (by simpa using hn1)
  refine ⟨h1, h2, o', h3, ((Fr.refl w).alloc O).trans' h4 (fun i _ h => h), ?_⟩
  rcases h5 with h | h
  · exact .inl h
  · exact .inr fun g hg => by have := h g hg; simp at this; omega

set_option maxHeartbeats 1000000 in
theorem fixed1 (b : Nat) (o : Option Nat) (n : Nat) (l0 : List UInt8) (w0 : World) (hw : WrAt w0 b o l0) (hl0 : l0.length + 8 ≤ 140737488355328) (_hn : n ≤ 18446744073709551615) :
    Calls Tryd.prog 70 #[.pointer (some ⟨b, 0, none⟩), .int .u64 n, .int .i64 1] w0 fun e w' => e = .returned (.tuple #[]) ∧ Wrote w0 w' b o (l0 ++ fixedB 1 n) := by
  rw [fixedB_one]
  obtain ⟨i0, hi, hz0, hz1, hz2⟩ := info_parts infoU8
  obtain ⟨v0, hb, rfl, hown0⟩ := hw
  have hc0 : w0.cell? ⟨b, 0, none⟩ = some v0 := cell_of_one hb
  have HB0 := hid hb
  have HQ0 := hid (Wrote.refl ⟨v0, hb, rfl, hown0⟩)
  clear hb
  go_enter Tryd.func70, Tryd.ntmps70
  go_wp2_with (at_builtin; refine wpList_append_fr _ rfl _ _ 67 rfl 5 i0 (.int .u8 0) 1 1 Tryd.underlying67 hi hz0 hz1 hz2 rfl (by decide) _ _ _ rfl (World.ownsRow.alloc hown0 _) ⟨w0.heap.size, 0, none⟩ _ _ _ rfl rfl (cells_new _ _ _) ?c2x0 ?c3x0 ?c4x0 ?_)
  case c2x0 => intro u hu; simp at hu; rcases hu with rfl <;> rfl
  case c3x0 => unfold maxLen; omega
  case c4x0 => omega
  intro v1 y1 ho hf hm
  obtain ⟨HB, hfz, R⟩ := wr_push (news := [byteN n]) HB0.out hown0 ho (by simp [byteV_ofNat]) hf (by simpa using hm)
  obtain ⟨a1, c1, rfl⟩ := Own.shape ho
  have hy : y1.cell? ⟨b, 0, none⟩ = some v0 := cell_of_one HB
  have HR := hid R
  clear R hf hm ho hown0 hc0 HB
  go_wp2_with fail
  generalize y1.setCell ⟨b, 0, none⟩ (Value.slice a1 (l0.length + 1) c1) = W at HR ⊢
  refine bodyPost_end (results_none rfl _ _ _) rfl ⟨rfl, ?_⟩
  exact HR.out


/-! ### of nil -/
set_option maxHeartbeats 400000 in
theorem fixed_nil (n k : Int) (w : World) :
    Calls Tryd.prog 70 #[.pointer none, .int .u64 n, .int .i64 k] w fun e w' => e = .returned (.tuple #[]) ∧ w = w' := by
  go_enter Tryd.func70, Tryd.ntmps70
  go_wp2_with fail
  exact bodyPost_ret (results_none rfl _ _ _) rfl ⟨rfl, rfl⟩

set_option maxHeartbeats 400000 in
theorem u8_any (b : Nat) (o : Option Nat) (n : Nat) (l : List UInt8) (w : World) (hw : WrAt w b o l) (hl : l.length + 8 ≤ 140737488355328) (hn : n ≤ 255) :
    Calls Tryd.prog 39 #[.pointer (some ⟨b, 0, none⟩), .int .u8 n] w fun e w' => e = .returned (.tuple #[]) ∧ Wrote w w' b o (l ++ [byteN n]) := by
  go_enter Tryd.func39, Tryd.ntmps39
  go_wp2_with (go_at_call 70; refine (fixed1 b o n l _ hw hl (by omega)).mono ?_; rintro e w' ⟨rfl, hq⟩)
  refine bodyPost_end (results_none rfl _ _ _) rfl ⟨rfl, ?_⟩
  exact hq

/-- Behind some rounds of Short: what is written and what is still to be written make the whole. -/
def ShortRel (w0 : World) (b : Nat) (o : Option Nat) (l : List UInt8) (n m j : Nat) (wr : World) : Prop :=
  ∃ o' l', WrAt wr b o' l' ∧ l' ++ shortF j m = l ++ shortB n ∧ Fr (OnlyO b o) w0 wr ∧ NewO w0 o o' ∧ m < 128 ^ j ∧ l'.length + j ≤ l.length + 10 ∧ 1 ≤ j

set_option maxHeartbeats 400000 in
theorem short_any (b : Nat) (o : Option Nat) (n : Nat) (l : List UInt8) (w : World) (hw : WrAt w b o l) (hl : l.length + 20 ≤ 140737488355328) (hn : n ≤ 18446744073709551615) :
    Calls Tryd.prog 40 #[.pointer (some ⟨b, 0, none⟩), .int .u64 n] w fun e w' => e = .returned (.tuple #[]) ∧ Wrote w w' b o (l ++ shortB n) := by
  have h0 : ShortRel w b o l n n 10 w := ⟨o, l, hw, rfl, Fr.refl _, .inl rfl, by omega, by omega, by omega⟩
  have HL := hid hl
  clear hl hn hw
  go_enter Tryd.func40, Tryd.ntmps40
  go_wp2_with fail
  go_loopw [1] (fun v wr => ∃ m j : Nat, v = .int .u64 m ∧ ShortRel w b o l n m j wr) (fun v _ => (intOf v).toNat)
  case atStart => exact ⟨n, 10, rfl, h0⟩
  case round =>
    clear h0
    obtain ⟨m, j, rfl, o', l', ha, he, hf, hno, hm, hlen, hj1⟩ := hrel
    have HE := hid he
    have HM := hid hm
    clear he hm
    by_cases hlt : 128 ≤ m
    · have hd : decide ((128 : Int) ≤ (m : Int)) = true := by simp; omega
      go_wp2_with (go_at_call 39; rw [or128]; refine (u8_any b o' (m % 128 + 128) l' _ ha (by have := HL.out; omega) (by omega)).mono ?_; rintro e w' ⟨rfl, hq⟩)
      obtain ⟨o2, ha2, hf2, hno2⟩ := Wrote.trans hf hno hq
      have hj : ∃ k, j = k + 1 := by
        cases j with
        | zero => omega
        | succ k => exact ⟨k, rfl⟩
      obtain ⟨k, rfl⟩ := hj
      go_roundw
      case rel =>
        refine ⟨m / 128, k, by go_num, o2, _, ha2, ?_, hf2, hno2, ?_, ?_, ?_⟩
        · rw [← HE.out, shortF_step k m hlt]; simp
        · have := HM.out
          rw [Nat.pow_succ] at this
          exact Nat.div_lt_of_lt_mul (by omega)
        · simp; omega
        · cases k with
          | zero => have := HM.out; simp at this; omega
          | succ k => omega
      case measure => simp [intOf]; omega
    · have hd : decide ((128 : Int) ≤ (m : Int)) = false := by simp; omega
      go_wp2_with (go_at_call 39; refine (u8_any b o' m l' _ ha (by have := HL.out; omega) (by omega)).mono ?_; rintro e w' ⟨rfl, hq⟩)
      have hj : ∃ k, j = k + 1 := by
        cases j with
        | zero => omega
        | succ k => exact ⟨k, rfl⟩
      obtain ⟨k, rfl⟩ := hj
      have R := Wrote.trans hf hno hq
      rw [show l' ++ [byteN m] = l ++ shortB n from by rw [← HE.out, shortF_last k m hlt]] at R
      have HR := hid R
      clear R
      go_wp2_with fail
      exact bodyPost_end (results_none rfl _ _ _) rfl ⟨rfl, HR.out⟩

set_option maxHeartbeats 400000 in
theorem raw_any (b : Nat) (o : Option Nat) (s : ByteArray) (l : List UInt8) (w : World) (hw : WrAt w b o l) (hl : l.length + s.size ≤ 140737488355328) :
    Calls Tryd.prog 97 #[.pointer (some ⟨b, 0, none⟩), .string s] w fun e w' => e = .returned (.tuple #[]) ∧ Wrote w w' b o (l ++ s.data.toList) := by
  obtain ⟨i0, hi, hz0, hz1, hz2⟩ := info_parts infoU8
  obtain ⟨v0, hb, rfl, hown0⟩ := hw
  have hc0 : w.cell? ⟨b, 0, none⟩ = some v0 := cell_of_one hb
  have HB0 := hid hb
  have HL := hid hl
  clear hb hl
  go_enter Tryd.func97, Tryd.ntmps97
  go_wp2_with (at_builtin; refine wpList_append_src _ rfl _ _ 67 9 rfl 5 i0 (.int .u8 0) 1 1 Tryd.underlying67 hi hz0 hz1 hz2 rfl _ _ _ rfl hown0 (.string s) s.size _ rfl (Src.ofString _ Tryd.underlying9 s) ?c3 ?c4 ?_)
  case c3 => have := HL.out; unfold maxLen; omega
  case c4 => have := HL.out; omega
  intro v1 y1 ho hf hm
  obtain ⟨HB, hfz, R⟩ := wr_pushS (news := s.data.toList) HB0.out hown0 ho (by simp [byteCells_map]) hf hm
  obtain ⟨a1, c1, rfl⟩ := Own.shape ho
  have hy : y1.cell? ⟨b, 0, none⟩ = some v0 := cell_of_one HB
  have HR := hid R
  clear R hf hm ho hown0 hc0 HB
  go_wp2_with fail
  generalize y1.setCell ⟨b, 0, none⟩ (Value.slice a1 (l.length + s.size) c1) = W at HR ⊢
  exact bodyPost_end (results_none rfl _ _ _) rfl ⟨rfl, HR.out⟩

set_option maxHeartbeats 400000 in
theorem text_any (b : Nat) (o : Option Nat) (s : ByteArray) (l : List UInt8) (w : World) (hw : WrAt w b o l) (hs : s.size ≤ 9223372036854775807) (hl : l.length + s.size + 20 ≤ 140737488355328) :
    Calls Tryd.prog 71 #[.pointer (some ⟨b, 0, none⟩), .string s] w fun e w' => e = .returned (.tuple #[]) ∧ Wrote w w' b o (l ++ textB s.data.toList) := by
  have h1 := short_any b o s.size l w hw (by omega) (by omega)
  have hlen : (l ++ shortB s.size).length + s.size ≤ 140737488355328 := by have := shortB_length_le s.size; simp; omega
  have e1 : (l ++ textB s.data.toList) = (l ++ shortB s.size) ++ s.data.toList := by unfold textB; simp
  rw [e1]
  have H1 := hid h1
  have HL := hid hlen
  clear h1 hlen hl e1
  go_enter Tryd.func71, Tryd.ntmps71
  go_wp2_with (go_at_call 40; refine H1.out.mono ?_; rintro e w1 ⟨rfl, o1, ha1, hf1, hn1⟩)
  have h2 := raw_any b o1 s (l ++ shortB s.size) w1 ha1 HL.out
  have H2 := hid h2
  clear h2
  go_wp2_with (go_at_call 97; refine H2.out.mono ?_; rintro e w2 ⟨rfl, hq⟩)
  exact bodyPost_end (results_none rfl _ _ _) rfl ⟨rfl, Wrote.trans hf1 hn1 hq⟩

set_option maxHeartbeats 400000 in
theorem bytes_any (b : Nat) (o : Option Nat) (l : List UInt8) (w : World) (hw : WrAt w b o l) :
    Calls Tryd.prog 42 #[.pointer (some ⟨b, 0, none⟩)] w fun e w' => e = .returned (strV l) ∧ w = w' := by
  obtain ⟨v, hb, rfl, hown⟩ := hw
  have hc : w.cell? ⟨b, 0, none⟩ = some v := cell_of_one hb
  have hcv := run_text_of_own (P := Tryd.prog) w 67 9 5 Tryd.underlying67 Tryd.underlying5 Tryd.underlying9 v _ l hown
  clear hb hown
  unfold strV at *
  go_enter Tryd.func42, Tryd.ntmps42
  go_wp2_with fail
  go_ret
  exact ⟨rfl, rfl⟩

end Go.Proofs.YtnmfmedoocnofaaDoor
