/-
  The contracts of wire.Writer's methods: what each call does to a writer's bytes. Conditions: the bytes that a writer holds stay below 2^47.
-/
import Derived.Test.YtcggakegbdpdfaaProg
import Derived.Test.YtcggakegbdpdfaaBase
import Derived.Test.YtcggakegbdpdfaaPure
import Derived.Deep.Cut
namespace Go.Proofs.Ytcggakegbdpdfaa
open Go.RowKit

theorem infoU8 : (Try.prog.info? 5).map (fun i => (i.zero, i.size, i.bytes)) = some (some (.int .u8 0), 1, 1) := by kernel_rfl

/-- Block b is a writer, its slice lives in block o, it holds the bytes l. -/
def WrAt (w : World) (b : Nat) (o : Option Nat) (l : List UInt8) : Prop :=
  ∃ v, w.heap[b]? = some (.cells #[v] 32 (0, 0)) ∧ v.ownBlock = o ∧ Own w 5 1 v l.length (l.map byteV)
/-- The block that a writer's slice lives in is what it was, or new. -/
def NewO (w : World) (o o' : Option Nat) : Prop := o' = o ∨ ∀ g, o' = some g → w.heap.size ≤ g
/-- From w on the writer b, whose slice lived in o, came to hold l; nothing else was turned. -/
def Wrote (w w' : World) (b : Nat) (o : Option Nat) (l : List UInt8) : Prop :=
  ∃ o', WrAt w' b o' l ∧ Fr (OnlyO b o) w w' ∧ NewO w o o'

theorem WrAt.fr {X : Nat → Prop} {w w' : World} {b : Nat} {o : Option Nat} {l : List UInt8} (h : WrAt w b o l) (hf : Fr X w w') (hb : ¬ X b) (ho : ∀ g, o = some g → ¬ X g) : WrAt w' b o l := by
  obtain ⟨v, h1, h2, h3⟩ := h
  exact ⟨v, hf.heap h1 hb, h2, Own.fr h3 hf (fun k hk => ho k (h2 ▸ hk))⟩
theorem WrAt.lt {w : World} {b : Nat} {o : Option Nat} {l : List UInt8} (h : WrAt w b o l) : b < w.heap.size := by
  obtain ⟨v, h1, _⟩ := h; exact lt_of_block h1
theorem WrAt.lto {w : World} {b : Nat} {o : Option Nat} {l : List UInt8} (h : WrAt w b o l) : ∀ g, o = some g → g < w.heap.size := by
  obtain ⟨v, h1, h2, h3⟩ := h; exact fun g hg => Own.lt h3 g (h2.trans hg)
theorem Wrote.refl {w : World} {b : Nat} {o : Option Nat} {l : List UInt8} (h : WrAt w b o l) : Wrote w w b o l := ⟨o, h, Fr.refl _, .inl rfl⟩
theorem Wrote.trans {w w1 w2 : World} {b : Nat} {o o1 : Option Nat} {l2 : List UInt8} (hf : Fr (OnlyO b o) w w1) (hn : NewO w o o1) (h2 : Wrote w1 w2 b o1 l2) : Wrote w w2 b o l2 := by
  obtain ⟨o2, ha, hf2, hn2⟩ := h2
  refine ⟨o2, ha, hf.trans' hf2 ?_, ?_⟩
  · intro i hi hy
    rcases hy with hy | hy
    · exact .inl hy
    · rcases hn with rfl | hn
      · exact .inr hy
      · have := hn i hy; omega
  · rcases hn2 with rfl | hn2
    · exact hn
    · exact .inr fun g hg => Nat.le_trans hf.size (hn2 g hg)

/-- Bytes were appended to the writer's slice, and the new slice was stored back. -/
theorem wr_pushS {w w1 : World} {b : Nat} {v v' : Value} {l news : List UInt8} {n : Nat} {xs : List Value} (hb : w.heap[b]? = some (.cells #[v] 32 (0, 0))) (hown : Own w 5 1 v l.length (l.map byteV))
    (hown1 : Own w1 5 1 v' n xs) (hx : xs = (l ++ news).map byteV)
    (hf1 : Fr (OnlyS v.ownBlock) w w1) (hn1 : v'.ownBlock = v.ownBlock ∨ v'.ownBlock = some w.heap.size) :
    w1.heap[b]? = some (.cells #[v] 32 (0, 0)) ∧ w1.frozen? ⟨b, 0, none⟩ = false ∧ Wrote w (w1.setCell ⟨b, 0, none⟩ v') b v.ownBlock (l ++ news) := by
  have hlt := lt_of_block hb
  have hne : v.ownBlock ≠ some b := by
    intro h
    rcases hown.2 with ⟨rfl, _⟩ | ⟨g, cap, cur, rfl, _, hg, _⟩
    · cases h
    · have : g = b := by simpa [Value.ownBlock] using h
      subst this
      rw [hb] at hg
      simp at hg
  have hb1 : w1.heap[b]? = some (.cells #[v] 32 (0, 0)) := hf1.heap hb hne
  have hne' : v'.ownBlock ≠ some b := by
    intro h
    rcases hn1 with h1 | h1
    · exact hne (h1 ▸ h)
    · rw [h1] at h; have : w.heap.size = b := by simpa using h
      omega
  have hn : n = (l ++ news).length := by
    have := hown1.1
    rw [hx] at this
    simpa using this.symm
  subst hn
  refine ⟨hb1, free_of_one hb1, v'.ownBlock, ⟨v', one_setCell hb1, rfl, ?_⟩, ?_, ?_⟩
  · rw [← hx]; exact ownsRow_setCell_other hown1 hne' _
  · exact (hf1.mono (Y := OnlyO b v.ownBlock) (fun k _ h => .inr h)).setCell (.inl (.inl rfl)) _
  · rcases hn1 with h | h
    · exact .inl h
    · exact .inr fun g hg => by rw [h] at hg; have : w.heap.size = g := by simpa using hg
                                omega
/-- The like, behind a block of their own. -/
theorem wr_push {w w1 : World} {b : Nat} {v v' : Value} {l news : List UInt8} {O : Obj} {n : Nat} {xs : List Value} (hb : w.heap[b]? = some (.cells #[v] 32 (0, 0))) (hown : Own w 5 1 v l.length (l.map byteV))
    (hown1 : Own w1 5 1 v' n xs) (hx : xs = (l ++ news).map byteV)
    (hf1 : Fr (OnlyS v.ownBlock) (w.alloc O) w1) (hn1 : v'.ownBlock = v.ownBlock ∨ v'.ownBlock = some (w.heap.size + 1)) :
    w1.heap[b]? = some (.cells #[v] 32 (0, 0)) ∧ w1.frozen? ⟨b, 0, none⟩ = false ∧ Wrote w (w1.setCell ⟨b, 0, none⟩ v') b v.ownBlock (l ++ news) := by
  have hlt := lt_of_block hb
  obtain ⟨h1, h2, o', h3, h4, h5⟩ := wr_pushS (w := w.alloc O) (by rw [Below.heap_alloc _ _ _ hlt]; exact hb) (World.ownsRow.alloc hown O) hown1 hx hf1 (by simpa using hn1)
  refine ⟨h1, h2, o', h3, ((Fr.refl w).alloc O).trans' h4 (fun i _ h => h), ?_⟩
  rcases h5 with h | h
  · exact .inl h
  · exact .inr fun g hg => by have := h g hg; simp at this; omega

set_option maxHeartbeats 1000000 in
theorem fixed1 (b : Nat) (o : Option Nat) (n : Nat) (l0 : List UInt8) (w0 : World) (hw : WrAt w0 b o l0) (hl0 : l0.length + 8 ≤ 140737488355328) (_hn : n ≤ 18446744073709551615) :
    Calls Try.prog 58 #[.pointer (some ⟨b, 0, none⟩), .int .u64 n, .int .i64 1] w0 fun e w' => e = .returned (.tuple #[]) ∧ Wrote w0 w' b o (l0 ++ fixedB 1 n) := by
  rw [fixedB_one]
  obtain ⟨i0, hi, hz0, hz1, hz2⟩ := info_parts infoU8
  obtain ⟨v0, hb, rfl, hown0⟩ := hw
  have hc0 : w0.cell? ⟨b, 0, none⟩ = some v0 := cell_of_one hb
  have HB0 := hid hb
  have HQ0 := hid (Wrote.refl ⟨v0, hb, rfl, hown0⟩)
  clear hb
  go_enter Try.func58, Try.ntmps58
  go_wp2_with (at_builtin; refine wpList_append_fr _ rfl _ _ 30 rfl 5 i0 (.int .u8 0) 1 1 Try.underlying30 hi hz0 hz1 hz2 rfl (by decide) _ _ _ rfl (World.ownsRow.alloc hown0 _) ⟨w0.heap.size, 0, none⟩ _ _ _ rfl rfl (cells_new _ _ _) ?c2x0 ?c3x0 ?c4x0 ?_)
  case c2x0 => intro u hu; simp at hu; rcases hu with rfl <;> rfl
  case c3x0 => unfold maxLen; omega
  case c4x0 => omega
  intro v1 y1 ho hf hm
  obtain ⟨HB, hfz, R⟩ := wr_push (news := [byteN n]) HB0.out hown0 ho (by simp [byteV_ofNat]) hf (by simpa using hm)
  obtain ⟨a1, c1, rfl⟩ := Own.shape ho
  have hy : y1.cell? ⟨b, 0, none⟩ = some v0 := cell_of_one HB
  have HR := hid R
  clear R hf hm ho hown0 hc0 HB
  go_wp2_with fail
  generalize y1.setCell ⟨b, 0, none⟩ (Value.slice a1 (l0.length + 1) c1) = W at HR ⊢
  refine bodyPost_end (results_none rfl _ _ _) rfl ⟨rfl, ?_⟩
  exact HR.out

set_option maxHeartbeats 1000000 in
theorem fixed2 (b : Nat) (o : Option Nat) (n : Nat) (l0 : List UInt8) (w0 : World) (hw : WrAt w0 b o l0) (hl0 : l0.length + 8 ≤ 140737488355328) (_hn : n ≤ 18446744073709551615) :
    Calls Try.prog 58 #[.pointer (some ⟨b, 0, none⟩), .int .u64 n, .int .i64 2] w0 fun e w' => e = .returned (.tuple #[]) ∧ Wrote w0 w' b o (l0 ++ fixedB 2 n) := by
  rw [fixedB_two]
  obtain ⟨i0, hi, hz0, hz1, hz2⟩ := info_parts infoU8
  obtain ⟨v0, hb, rfl, hown0⟩ := hw
  have hc0 : w0.cell? ⟨b, 0, none⟩ = some v0 := cell_of_one hb
  have HB0 := hid hb
  have HQ0 := hid (Wrote.refl ⟨v0, hb, rfl, hown0⟩)
  clear hb
  go_enter Try.func58, Try.ntmps58
  go_wp2_with (at_builtin; refine wpList_append_fr _ rfl _ _ 30 rfl 5 i0 (.int .u8 0) 1 1 Try.underlying30 hi hz0 hz1 hz2 rfl (by decide) _ _ _ rfl (World.ownsRow.alloc hown0 _) ⟨w0.heap.size, 0, none⟩ _ _ _ rfl rfl (cells_new _ _ _) ?c2x0 ?c3x0 ?c4x0 ?_)
  case c2x0 => intro u hu; simp at hu; rcases hu with rfl <;> rfl
  case c3x0 => unfold maxLen; omega
  case c4x0 => omega
  intro v1 y1 ho hf hm
  obtain ⟨HB, hfz, R⟩ := wr_push (news := [byteN (n / 256)]) HB0.out hown0 ho (by simp [byteV_ofNat]) hf (by simpa using hm)
  obtain ⟨a1, c1, rfl⟩ := Own.shape ho
  have hy : y1.cell? ⟨b, 0, none⟩ = some v0 := cell_of_one HB
  have HR := hid R
  clear R hf hm ho hown0 hc0 HB
  go_upto_region 8 with fail
  generalize y1.setCell ⟨b, 0, none⟩ (Value.slice a1 (l0.length + 1) c1) = w1 at HR ⊢
  clear hy hfz
  obtain ⟨o1, ⟨v1, hb, rfl, hown1⟩, hfr, hno⟩ := HR.out
  have hc1 : w1.cell? ⟨b, 0, none⟩ = some v1 := cell_of_one hb
  have HB1 := hid hb
  have hll : (l0 ++ [byteN (n / 256)]).length = l0.length + 1 := by simp
  obtain ⟨l1, hlj⟩ : ∃ l, l = l0 ++ [byteN (n / 256)] := ⟨_, rfl⟩
  rw [← hlj] at hown1 hll
  have hl1 : l1.length + 1 ≤ 140737488355328 := by omega
  have HL1 := hid hlj
  have HF1 := hid (And.intro hfr hno)
  clear hb hll hlj HR hfr hno
  go_wp2_with (at_builtin; refine wpList_append_fr _ rfl _ _ 30 rfl 5 i0 (.int .u8 0) 1 1 Try.underlying30 hi hz0 hz1 hz2 rfl (by decide) _ _ _ rfl (World.ownsRow.alloc hown1 _) ⟨w1.heap.size, 0, none⟩ _ _ _ rfl rfl (cells_new _ _ _) ?c2x1 ?c3x1 ?c4x1 ?_)
  case c2x1 => intro u hu; simp at hu; rcases hu with rfl <;> rfl
  case c3x1 => unfold maxLen; omega
  case c4x1 => omega
  intro v2 y2 ho hf hm
  obtain ⟨HB, hfz, R⟩ := wr_push (news := [byteN n]) HB1.out hown1 ho (by simp [byteV_ofNat]) hf (by simpa using hm)
  obtain ⟨a2, c2, rfl⟩ := Own.shape ho
  have hy : y2.cell? ⟨b, 0, none⟩ = some v1 := cell_of_one HB
  have HR := hid R
  clear R hf hm ho hown1 hc1 HB
  go_wp2_with fail
  generalize y2.setCell ⟨b, 0, none⟩ (Value.slice a2 (l1.length + 1) c2) = W at HR ⊢
  refine bodyPost_end (results_none rfl _ _ _) rfl ⟨rfl, ?_⟩
  have R := HR.out
  have R := Wrote.trans HF1.out.1 HF1.out.2 R
  rw [HL1.out] at R
  simpa using R

set_option maxHeartbeats 1000000 in
theorem fixed4 (b : Nat) (o : Option Nat) (n : Nat) (l0 : List UInt8) (w0 : World) (hw : WrAt w0 b o l0) (hl0 : l0.length + 8 ≤ 140737488355328) (_hn : n ≤ 18446744073709551615) :
    Calls Try.prog 58 #[.pointer (some ⟨b, 0, none⟩), .int .u64 n, .int .i64 4] w0 fun e w' => e = .returned (.tuple #[]) ∧ Wrote w0 w' b o (l0 ++ fixedB 4 n) := by
  rw [fixedB_four]
  obtain ⟨i0, hi, hz0, hz1, hz2⟩ := info_parts infoU8
  obtain ⟨v0, hb, rfl, hown0⟩ := hw
  have hc0 : w0.cell? ⟨b, 0, none⟩ = some v0 := cell_of_one hb
  have HB0 := hid hb
  have HQ0 := hid (Wrote.refl ⟨v0, hb, rfl, hown0⟩)
  clear hb
  go_enter Try.func58, Try.ntmps58
  go_wp2_with (at_builtin; refine wpList_append_fr _ rfl _ _ 30 rfl 5 i0 (.int .u8 0) 1 1 Try.underlying30 hi hz0 hz1 hz2 rfl (by decide) _ _ _ rfl (World.ownsRow.alloc hown0 _) ⟨w0.heap.size, 0, none⟩ _ _ _ rfl rfl (cells_new _ _ _) ?c2x0 ?c3x0 ?c4x0 ?_)
  case c2x0 => intro u hu; simp at hu; rcases hu with rfl | rfl <;> rfl
  case c3x0 => unfold maxLen; omega
  case c4x0 => omega
  intro v1 y1 ho hf hm
  obtain ⟨HB, hfz, R⟩ := wr_push (news := [byteN (n / 16777216), byteN (n / 65536)]) HB0.out hown0 ho (by simp [byteV_ofNat]) hf (by simpa using hm)
  obtain ⟨a1, c1, rfl⟩ := Own.shape ho
  have hy : y1.cell? ⟨b, 0, none⟩ = some v0 := cell_of_one HB
  have HR := hid R
  clear R hf hm ho hown0 hc0 HB
  go_upto_region 7 with fail
  generalize y1.setCell ⟨b, 0, none⟩ (Value.slice a1 (l0.length + 2) c1) = w1 at HR ⊢
  clear hy hfz
  obtain ⟨o1, ⟨v1, hb, rfl, hown1⟩, hfr, hno⟩ := HR.out
  have hc1 : w1.cell? ⟨b, 0, none⟩ = some v1 := cell_of_one hb
  have HB1 := hid hb
  have hll : (l0 ++ [byteN (n / 16777216), byteN (n / 65536)]).length = l0.length + 2 := by simp
  obtain ⟨l1, hlj⟩ : ∃ l, l = l0 ++ [byteN (n / 16777216), byteN (n / 65536)] := ⟨_, rfl⟩
  rw [← hlj] at hown1 hll
  have hl1 : l1.length + 2 ≤ 140737488355328 := by omega
  have HL1 := hid hlj
  have HF1 := hid (And.intro hfr hno)
  clear hb hll hlj HR hfr hno
  go_wp2_with (at_builtin; refine wpList_append_fr _ rfl _ _ 30 rfl 5 i0 (.int .u8 0) 1 1 Try.underlying30 hi hz0 hz1 hz2 rfl (by decide) _ _ _ rfl (World.ownsRow.alloc hown1 _) ⟨w1.heap.size, 0, none⟩ _ _ _ rfl rfl (cells_new _ _ _) ?c2x1 ?c3x1 ?c4x1 ?_)
  case c2x1 => intro u hu; simp at hu; rcases hu with rfl <;> rfl
  case c3x1 => unfold maxLen; omega
  case c4x1 => omega
  intro v2 y2 ho hf hm
  obtain ⟨HB, hfz, R⟩ := wr_push (news := [byteN (n / 256)]) HB1.out hown1 ho (by simp [byteV_ofNat]) hf (by simpa using hm)
  obtain ⟨a2, c2, rfl⟩ := Own.shape ho
  have hy : y2.cell? ⟨b, 0, none⟩ = some v1 := cell_of_one HB
  have HR := hid R
  clear R hf hm ho hown1 hc1 HB
  go_upto_region 8 with fail
  generalize y2.setCell ⟨b, 0, none⟩ (Value.slice a2 (l1.length + 1) c2) = w2 at HR ⊢
  clear hy hfz
  obtain ⟨o2, ⟨v2, hb, rfl, hown2⟩, hfr, hno⟩ := HR.out
  have hc2 : w2.cell? ⟨b, 0, none⟩ = some v2 := cell_of_one hb
  have HB2 := hid hb
  have hll : (l1 ++ [byteN (n / 256)]).length = l1.length + 1 := by simp
  obtain ⟨l2, hlj⟩ : ∃ l, l = l1 ++ [byteN (n / 256)] := ⟨_, rfl⟩
  rw [← hlj] at hown2 hll
  have hl2 : l2.length + 1 ≤ 140737488355328 := by omega
  have HL2 := hid hlj
  have HF2 := hid (And.intro hfr hno)
  clear hb hll hlj HR hfr hno
  go_wp2_with (at_builtin; refine wpList_append_fr _ rfl _ _ 30 rfl 5 i0 (.int .u8 0) 1 1 Try.underlying30 hi hz0 hz1 hz2 rfl (by decide) _ _ _ rfl (World.ownsRow.alloc hown2 _) ⟨w2.heap.size, 0, none⟩ _ _ _ rfl rfl (cells_new _ _ _) ?c2x2 ?c3x2 ?c4x2 ?_)
  case c2x2 => intro u hu; simp at hu; rcases hu with rfl <;> rfl
  case c3x2 => unfold maxLen; omega
  case c4x2 => omega
  intro v3 y3 ho hf hm
  obtain ⟨HB, hfz, R⟩ := wr_push (news := [byteN n]) HB2.out hown2 ho (by simp [byteV_ofNat]) hf (by simpa using hm)
  obtain ⟨a3, c3, rfl⟩ := Own.shape ho
  have hy : y3.cell? ⟨b, 0, none⟩ = some v2 := cell_of_one HB
  have HR := hid R
  clear R hf hm ho hown2 hc2 HB
  go_wp2_with fail
  generalize y3.setCell ⟨b, 0, none⟩ (Value.slice a3 (l2.length + 1) c3) = W at HR ⊢
  refine bodyPost_end (results_none rfl _ _ _) rfl ⟨rfl, ?_⟩
  have R := HR.out
  have R := Wrote.trans HF2.out.1 HF2.out.2 R
  have R := Wrote.trans HF1.out.1 HF1.out.2 R
  rw [HL2.out] at R
  rw [HL1.out] at R
  simpa using R

set_option maxHeartbeats 1000000 in
theorem fixed8 (b : Nat) (o : Option Nat) (n : Nat) (l0 : List UInt8) (w0 : World) (hw : WrAt w0 b o l0) (hl0 : l0.length + 8 ≤ 140737488355328) (hn : n ≤ 18446744073709551615) :
    Calls Try.prog 58 #[.pointer (some ⟨b, 0, none⟩), .int .u64 n, .int .i64 8] w0 fun e w' => e = .returned (.tuple #[]) ∧ Wrote w0 w' b o (l0 ++ fixedB 8 n) := by
  rw [fixedB_eight]
  obtain ⟨i0, hi, hz0, hz1, hz2⟩ := info_parts infoU8
  obtain ⟨v0, hb, rfl, hown0⟩ := hw
  have hc0 : w0.cell? ⟨b, 0, none⟩ = some v0 := cell_of_one hb
  have HB0 := hid hb
  have HQ0 := hid (Wrote.refl ⟨v0, hb, rfl, hown0⟩)
  clear hb
  go_enter Try.func58, Try.ntmps58
  go_wp2_with (at_builtin; refine wpList_append_fr _ rfl _ _ 30 rfl 5 i0 (.int .u8 0) 1 1 Try.underlying30 hi hz0 hz1 hz2 rfl (by decide) _ _ _ rfl (World.ownsRow.alloc hown0 _) ⟨w0.heap.size, 0, none⟩ _ _ _ rfl rfl (cells_new _ _ _) ?c2x0 ?c3x0 ?c4x0 ?_)
  case c2x0 => intro u hu; simp at hu; rcases hu with rfl | rfl | rfl | rfl <;> rfl
  case c3x0 => unfold maxLen; omega
  case c4x0 => omega
  intro v1 y1 ho hf hm
  obtain ⟨HB, hfz, R⟩ := wr_push (news := [byteN (n / 72057594037927936), byteN (n / 281474976710656), byteN (n / 1099511627776), byteN (n / 4294967296)]) HB0.out hown0 ho (by simp [byteV_ofNat] <;> omega) hf (by simpa using hm)
  obtain ⟨a1, c1, rfl⟩ := Own.shape ho
  have hy : y1.cell? ⟨b, 0, none⟩ = some v0 := cell_of_one HB
  have HR := hid R
  clear R hf hm ho hown0 hc0 HB
  go_upto_region 6 with fail
  generalize y1.setCell ⟨b, 0, none⟩ (Value.slice a1 (l0.length + 4) c1) = w1 at HR ⊢
  clear hy hfz
  obtain ⟨o1, ⟨v1, hb, rfl, hown1⟩, hfr, hno⟩ := HR.out
  have hc1 : w1.cell? ⟨b, 0, none⟩ = some v1 := cell_of_one hb
  have HB1 := hid hb
  have hll : (l0 ++ [byteN (n / 72057594037927936), byteN (n / 281474976710656), byteN (n / 1099511627776), byteN (n / 4294967296)]).length = l0.length + 4 := by simp
  obtain ⟨l1, hlj⟩ : ∃ l, l = l0 ++ [byteN (n / 72057594037927936), byteN (n / 281474976710656), byteN (n / 1099511627776), byteN (n / 4294967296)] := ⟨_, rfl⟩
  rw [← hlj] at hown1 hll
  have hl1 : l1.length + 4 ≤ 140737488355328 := by omega
  have HL1 := hid hlj
  have HF1 := hid (And.intro hfr hno)
  clear hb hll hlj HR hfr hno
  go_wp2_with (at_builtin; refine wpList_append_fr _ rfl _ _ 30 rfl 5 i0 (.int .u8 0) 1 1 Try.underlying30 hi hz0 hz1 hz2 rfl (by decide) _ _ _ rfl (World.ownsRow.alloc hown1 _) ⟨w1.heap.size, 0, none⟩ _ _ _ rfl rfl (cells_new _ _ _) ?c2x1 ?c3x1 ?c4x1 ?_)
  case c2x1 => intro u hu; simp at hu; rcases hu with rfl | rfl <;> rfl
  case c3x1 => unfold maxLen; omega
  case c4x1 => omega
  intro v2 y2 ho hf hm
  obtain ⟨HB, hfz, R⟩ := wr_push (news := [byteN (n / 16777216), byteN (n / 65536)]) HB1.out hown1 ho (by simp [byteV_ofNat]) hf (by simpa using hm)
  obtain ⟨a2, c2, rfl⟩ := Own.shape ho
  have hy : y2.cell? ⟨b, 0, none⟩ = some v1 := cell_of_one HB
  have HR := hid R
  clear R hf hm ho hown1 hc1 HB
  go_upto_region 7 with fail
  generalize y2.setCell ⟨b, 0, none⟩ (Value.slice a2 (l1.length + 2) c2) = w2 at HR ⊢
  clear hy hfz
  obtain ⟨o2, ⟨v2, hb, rfl, hown2⟩, hfr, hno⟩ := HR.out
  have hc2 : w2.cell? ⟨b, 0, none⟩ = some v2 := cell_of_one hb
  have HB2 := hid hb
  have hll : (l1 ++ [byteN (n / 16777216), byteN (n / 65536)]).length = l1.length + 2 := by simp
  obtain ⟨l2, hlj⟩ : ∃ l, l = l1 ++ [byteN (n / 16777216), byteN (n / 65536)] := ⟨_, rfl⟩
  rw [← hlj] at hown2 hll
  have hl2 : l2.length + 2 ≤ 140737488355328 := by omega
  have HL2 := hid hlj
  have HF2 := hid (And.intro hfr hno)
  clear hb hll hlj HR hfr hno
  go_wp2_with (at_builtin; refine wpList_append_fr _ rfl _ _ 30 rfl 5 i0 (.int .u8 0) 1 1 Try.underlying30 hi hz0 hz1 hz2 rfl (by decide) _ _ _ rfl (World.ownsRow.alloc hown2 _) ⟨w2.heap.size, 0, none⟩ _ _ _ rfl rfl (cells_new _ _ _) ?c2x2 ?c3x2 ?c4x2 ?_)
  case c2x2 => intro u hu; simp at hu; rcases hu with rfl <;> rfl
  case c3x2 => unfold maxLen; omega
  case c4x2 => omega
  intro v3 y3 ho hf hm
  obtain ⟨HB, hfz, R⟩ := wr_push (news := [byteN (n / 256)]) HB2.out hown2 ho (by simp [byteV_ofNat]) hf (by simpa using hm)
  obtain ⟨a3, c3, rfl⟩ := Own.shape ho
  have hy : y3.cell? ⟨b, 0, none⟩ = some v2 := cell_of_one HB
  have HR := hid R
  clear R hf hm ho hown2 hc2 HB
  go_upto_region 8 with fail
  generalize y3.setCell ⟨b, 0, none⟩ (Value.slice a3 (l2.length + 1) c3) = w3 at HR ⊢
  clear hy hfz
  obtain ⟨o3, ⟨v3, hb, rfl, hown3⟩, hfr, hno⟩ := HR.out
  have hc3 : w3.cell? ⟨b, 0, none⟩ = some v3 := cell_of_one hb
  have HB3 := hid hb
  have hll : (l2 ++ [byteN (n / 256)]).length = l2.length + 1 := by simp
  obtain ⟨l3, hlj⟩ : ∃ l, l = l2 ++ [byteN (n / 256)] := ⟨_, rfl⟩
  rw [← hlj] at hown3 hll
  have hl3 : l3.length + 1 ≤ 140737488355328 := by omega
  have HL3 := hid hlj
  have HF3 := hid (And.intro hfr hno)
  clear hb hll hlj HR hfr hno
  go_wp2_with (at_builtin; refine wpList_append_fr _ rfl _ _ 30 rfl 5 i0 (.int .u8 0) 1 1 Try.underlying30 hi hz0 hz1 hz2 rfl (by decide) _ _ _ rfl (World.ownsRow.alloc hown3 _) ⟨w3.heap.size, 0, none⟩ _ _ _ rfl rfl (cells_new _ _ _) ?c2x3 ?c3x3 ?c4x3 ?_)
  case c2x3 => intro u hu; simp at hu; rcases hu with rfl <;> rfl
  case c3x3 => unfold maxLen; omega
  case c4x3 => omega
  intro v4 y4 ho hf hm
  obtain ⟨HB, hfz, R⟩ := wr_push (news := [byteN n]) HB3.out hown3 ho (by simp [byteV_ofNat]) hf (by simpa using hm)
  obtain ⟨a4, c4, rfl⟩ := Own.shape ho
  have hy : y4.cell? ⟨b, 0, none⟩ = some v3 := cell_of_one HB
  have HR := hid R
  clear R hf hm ho hown3 hc3 HB
  go_wp2_with fail
  generalize y4.setCell ⟨b, 0, none⟩ (Value.slice a4 (l3.length + 1) c4) = W at HR ⊢
  refine bodyPost_end (results_none rfl _ _ _) rfl ⟨rfl, ?_⟩
  have R := HR.out
  have R := Wrote.trans HF3.out.1 HF3.out.2 R
  have R := Wrote.trans HF2.out.1 HF2.out.2 R
  have R := Wrote.trans HF1.out.1 HF1.out.2 R
  rw [HL3.out] at R
  rw [HL2.out] at R
  rw [HL1.out] at R
  simpa using R

end Go.Proofs.Ytcggakegbdpdfaa
