/-
  weight, spoilEvent of the statements: the walks. No statement of the seat is proved here.
-/
import Derived.Test.YtnmfmedoocnofaaDoorSpoil
import Derived.Test.YtnmfmedoocnofaaDoorUpOk
import Derived.Test.YtnmfmedoocnofaaDoorNewest
import Derived.Deep.LoopGhost
import Derived.Deep.Cut
namespace Go.Proofs.YtnmfmedoocnofaaDoor
open Go.RowKit

/-- What weighs less than 2000. -/
def Light (e : Ev) : Prop := e.nums.length < 2000 ∧ e.texts.length < 2000 ∧ ∀ t, t ∈ e.texts → t.length < 2000
def WeightPost (w : World) (e : Ev) (en : Ending) (w' : World) : Prop := ∃ n : Nat, en = .returned (.int .i64 n) ∧ n ≤ 2000 ∧ 1 ≤ n ∧ (n < 2000 → Light e) ∧ Fr No w w'
structure WeightRel (e : Ev) (m N : Nat) : Prop where
  up : N ≤ 6001
  low : 1 + min 2000 e.nums.length + min 2000 e.texts.length ≤ N
  each : ∀ t, t ∈ e.texts.take m → min 2000 t.length + 1 ≤ N
theorem WeightRel.light {e : Ev} {N : Nat} (h : WeightRel e e.texts.length N) (hn : N < 2000) : Light e := by
  have h1 := h.low
  refine ⟨by omega, by omega, fun t ht => ?_⟩
  have := h.each t (by rw [List.take_length]; exact ht)
  omega
theorem WeightRel.next {e : Ev} {m N : Nat} {t : List UInt8} (h : WeightRel e m N) (ht : e.texts[m]? = some t) (hn : N < 2000) : WeightRel e (m + 1) (N + min 2000 t.length) := by
  have h1 := h.low
  refine ⟨by omega, by omega, fun x hx => ?_⟩
  have hlt := (List.getElem?_eq_some_iff.1 ht).1
  rw [List.take_succ_eq_append_getElem hlt, (List.getElem?_eq_some_iff.1 ht).2] at hx
  rcases List.mem_append.1 hx with hx | hx
  · have := h.each x hx; omega
  · obtain rfl : x = t := by simpa using hx
    omega

set_option maxHeartbeats 8000000 in
set_option maxRecDepth 100000 in
theorem weight_any (s : EvP) (e : Ev) (w : World) (he : EvAt w s e) : Calls Tryd.prog 38 #[evV s e] w (WeightPost w e) := by
  have HF : Fr No w (w.alloc (.cells #[.int .u8 e.v, .int .u8 e.kind, .slice s.qn e.nums.length s.cn, .slice s.qt e.texts.length s.ct] 34)) := (Fr.refl w).alloc _
  have TU := hid (fun m x (hx : e.texts[m]? = some x) => (by
    obtain ⟨bn, on, h1, h2⟩ := he.texts m (strV x) (by simp [hx])
    exact ⟨bn, on, h1, HF.cell0 h2⟩ : ∃ bn on, s.qt = some ⟨bn, on, none⟩ ∧ (w.alloc (.cells #[.int .u8 e.v, .int .u8 e.kind, .slice s.qn e.nums.length s.cn, .slice s.qt e.texts.length s.ct] 34)).cell? ⟨bn, on + m, none⟩ = some (strV x)))
  have HNL := hid he.nl
  have HTL := hid he.tl
  have HTX := hid he.tx
  clear he
  obtain ⟨a, ha⟩ : ∃ a, a = min 2000 e.nums.length := ⟨_, rfl⟩
  obtain ⟨b, hb⟩ : ∃ b, b = min 2000 e.texts.length := ⟨_, rfl⟩
  have HA := hid ha
  have HB := hid hb
  have ha2 : a ≤ 2000 := by omega
  have hb2 : b ≤ 2000 := by omega
  have HR0 := hid (show WeightRel e 0 (1 + a + b) from ⟨by omega, by omega, by simp⟩)
  clear ha hb
  unfold evV
  go_enter Tryd.func38, Tryd.ntmps38
  go_upto_region 1 with fail
  go_cut [3] from 5 (fun v w' => v = .int .i64 ((1 + a + b : Nat) : Int) ∧ Fr No (w.alloc (.cells #[.int .u8 e.v, .int .u8 e.kind, .slice s.qn e.nums.length s.cn, .slice s.qt e.texts.length s.ct] 34)) w')
  case first =>
    rcases Nat.lt_or_ge e.nums.length 2000 with h1 | h1 <;> rcases Nat.lt_or_ge e.texts.length 2000 with h2 | h2
    · have g1 : (e.nums.length : Int) < 2000 := by omega
      have g2 : (e.texts.length : Int) < 2000 := by omega
      have HE := hid (show (1 + a + b : Nat) = 1 + e.nums.length + e.texts.length by rw [HA.out, HB.out]; omega)
      clear h1 h2
      go_wp2_with fail
      go_meet
      case rel => exact ⟨by rw [HE.out]; go_num, Fr.refl _⟩
    · have g1 : (e.nums.length : Int) < 2000 := by omega
      have g2 : (2000 : Int) ≤ (e.texts.length : Int) := by omega
      have HE := hid (show (1 + a + b : Nat) = 1 + e.nums.length + 2000 by rw [HA.out, HB.out]; omega)
      clear h1 h2
      go_wp2_with fail
      go_meet
      case rel => exact ⟨by rw [HE.out]; go_num, Fr.refl _⟩
    · have g1 : (2000 : Int) ≤ (e.nums.length : Int) := by omega
      have g2 : (e.texts.length : Int) < 2000 := by omega
      have HE := hid (show (1 + a + b : Nat) = 2001 + e.texts.length by rw [HA.out, HB.out]; omega)
      clear h1 h2
      go_wp2_with fail
      go_meet
      case rel => exact ⟨by rw [HE.out]; go_num, Fr.refl _⟩
    · have g1 : (2000 : Int) ≤ (e.nums.length : Int) := by omega
      have g2 : (2000 : Int) ≤ (e.texts.length : Int) := by omega
      have HE := hid (show (1 + a + b : Nat) = 4001 by rw [HA.out, HB.out]; omega)
      clear h1 h2
      go_wp2_with fail
      go_meet
      case rel => exact ⟨by rw [HE.out]; rfl, Fr.refl _⟩
  obtain ⟨rfl, hF1⟩ := hcut
  rename World => w1
  obtain ⟨c0, c1, c2, c3, _, _, _, _⟩ := Go.Proofs.YtnmfmedoocnofaaDoor.cells4 (hF1.heap0 (Go.heap_alloc_new w (.cells #[.int .u8 e.v, .int .u8 e.kind, .slice s.qn e.nums.length s.cn, .slice s.qt e.texts.length s.ct] 34)))
  have HF1 := hid hF1
  clear hF1
  go_wp2_with fail
  go_loopg [3, 4] e.texts.length (fun g sv i wr => ∃ (m N : Nat), m ≤ e.texts.length ∧ e.texts.length ≤ m + g ∧ i = .int .i64 m ∧ sv = .int .i64 N ∧ Hid (WeightRel e m N) ∧ wr = w1)
  case atStart => exact ⟨0, 1 + a + b, Nat.zero_le _, by omega, rfl, rfl, HR0, rfl⟩
  case round =>
    obtain ⟨m, N, hm, hk, rfl, rfl, HR, rfl⟩ := hrel
    have hN := HR.out.up
    have hN1 := HR.out.low
    by_cases hlt : m < e.texts.length
    · have i1 : (m : Int) < (e.texts.length : Int) := by omega
      have i2 : (0 : Int) ≤ (m : Int) := by omega
      have i4 : (m : Int) + 1 ≤ 9223372036854775807 := by have := HTL.out; omega
      by_cases hn : N < 2000
      · have d2 : decide ((N : Int) < 2000) = true := by simp; omega
        obtain ⟨x, hx⟩ : ∃ x, e.texts[m]? = some x := ⟨_, List.getElem?_eq_getElem hlt⟩
        obtain ⟨bn, on, hq, kc0⟩ := TU.out m x hx
        have kc := HF1.out.cell0 kc0
        clear kc0
        have HNX := hid (HR.out.next hx hn)
        unfold strV at kc
        have HQ := hid hq
        rw [hq] at c3
        have HLT := hid hlt
        have hxl : x.length < 2000 ∨ 2000 ≤ x.length := Nat.lt_or_ge _ _
        clear hx hq hN1 hn hlt hm
        rcases hxl with h1 | h1
        · have g1 : (x.length : Int) < 2000 := by omega
          have HE := hid (show min 2000 x.length = x.length by omega)
          clear h1
          go_wp2_with fail
          go_roundg (gk - 1)
          case measure => have := HLT.out; omega
          case rel => exact ⟨m + 1, N + min 2000 x.length, by have := HLT.out; omega, by omega, by go_num, by rw [HE.out]; go_num, HNX, rfl⟩
        · have g1 : (2000 : Int) ≤ (x.length : Int) := by omega
          have HE := hid (show min 2000 x.length = 2000 by omega)
          clear h1
          go_wp2_with fail
          go_roundg (gk - 1)
          case measure => have := HLT.out; omega
          case rel => exact ⟨m + 1, N + min 2000 x.length, by have := HLT.out; omega, by omega, by go_num, by rw [HE.out]; go_num, HNX, rfl⟩
      · have d2 : decide ((N : Int) < 2000) = false := by simp; omega
        have HN := hid hn
        rcases Nat.lt_or_ge 2000 N with h1 | h1
        · have g9 : (2000 : Int) < (N : Int) := by omega
          clear hlt hm hk hN1 i4 h1 hn
          go_wp2_with fail
          go_ret
          exact ⟨2000, rfl, Nat.le_refl _, by omega, fun h => absurd h (by omega), HF.trans HF1.out⟩
        · have g9 : (N : Int) ≤ 2000 := by omega
          have H1 := hid h1
          clear hlt hm hk hN1 i4 h1 hn
          go_wp2_with fail
          go_ret
          exact ⟨N, rfl, H1.out, by have := HN.out; omega, fun h => absurd h HN.out, HF.trans HF1.out⟩
    · obtain rfl : m = e.texts.length := by omega
      have d1 : decide ((e.texts.length : Int) < (e.texts.length : Int)) = false := by simp
      have HN1 := hid hN1
      clear hlt hm hk hN1
      rcases Nat.lt_or_ge 2000 N with h1 | h1
      · have g9 : (2000 : Int) < (N : Int) := by omega
        clear h1
        go_wp2_with fail
        go_ret
        exact ⟨2000, rfl, Nat.le_refl _, by omega, fun h => absurd h (by omega), HF.trans HF1.out⟩
      · have g9 : (N : Int) ≤ 2000 := by omega
        have H1 := hid h1
        clear h1
        go_wp2_with fail
        go_ret
        exact ⟨N, rfl, H1.out, by have := HN1.out; omega, fun h => HR.out.light h, HF.trans HF1.out⟩

set_option maxHeartbeats 8000000 in
set_option maxRecDepth 100000 in
theorem spoil_any (s : EvP) (e : Ev) (w : World) (hn : EvHas w s e) (he : EvAt w s e) :
    Calls Tryd.prog 15 #[evV s e] w fun en w' => en = .returned (.tuple #[]) ∧ Fr (inB (s, e)) w w' := by
  have HF0 : Fr No w (w.alloc (.cells #[.int .u8 e.v, .int .u8 e.kind, .slice s.qn e.nums.length s.cn, .slice s.qt e.texts.length s.ct] 34)) := (Fr.refl w).alloc _
  have g0 := Go.heap_alloc_new w (.cells #[.int .u8 e.v, .int .u8 e.kind, .slice s.qn e.nums.length s.cn, .slice s.qt e.texts.length s.ct] 34)
  have HLN := hid he.nl
  have HLT := hid he.tl
  have hib : ¬ inB (s, e) w.heap.size := fun h => by obtain ⟨cur, ty, h1, _⟩ := hn.inB h; have := lt_of_block h1; omega
  have HIB := hid hib
  have hn1 := hn.fr HF0
  generalize hW : w.alloc (.cells #[.int .u8 e.v, .int .u8 e.kind, .slice s.qn e.nums.length s.cn, .slice s.qt e.texts.length s.ct] 34) = w1 at HF0 g0 hn1
  have C1 := hid (fun wr (h : Fr (inB (s, e)) w1 wr) => (by
    obtain ⟨c0, c1, c2, c3, _⟩ := Go.Proofs.YtnmfmedoocnofaaDoor.cells4 g0
    exact ⟨h.cell c0 HIB.out, h.cell c1 HIB.out, h.cell c2 HIB.out, h.cell c3 HIB.out⟩ : wr.cell? ⟨w.heap.size, 0, none⟩ = some (.int .u8 e.v) ∧ wr.cell? ⟨w.heap.size, 1, none⟩ = some (.int .u8 e.kind) ∧ wr.cell? ⟨w.heap.size, 2, none⟩ = some (.slice s.qn e.nums.length s.cn) ∧ wr.cell? ⟨w.heap.size, 3, none⟩ = some (.slice s.qt e.texts.length s.ct)))
  have HSP : Hid (Spoil w1 w1 s e) := hid (Spoil.start (Fr.refl _) hn1)
  have HW := hid hW
  clear he hn hib hn1 g0 hW
  unfold evV
  go_enter Tryd.func15, Tryd.ntmps15
  go_upto_region 1 with fail
  rw [HW.out]
  go_wp2_with fail
  go_loopg [2] e.nums.length (fun k i wr => ∃ m : Nat, m ≤ e.nums.length ∧ e.nums.length ≤ m + k ∧ i = .int .i64 m ∧ Hid (Spoil w1 wr s e))
  case atStart => exact ⟨0, Nat.zero_le _, by omega, rfl, HSP⟩
  case round =>
    clear HSP
    obtain ⟨m, hm, hk, rfl, HSP⟩ := hrel
    obtain ⟨c0, c1, c2, c3⟩ := C1.out _ HSP.out.fr
    by_cases hlt : m < e.nums.length
    · have hne : e.nums ≠ [] := fun h => by rw [h] at hlt; simp at hlt
      obtain ⟨b, cur, hq, hg, hle⟩ := HSP.out.nums hne
      obtain ⟨y, kc, kf⟩ := row_cell (i := m) hg (by omega)
      have i1 : (m : Int) < (e.nums.length : Int) := by omega
      have i2 : (0 : Int) ≤ (m : Int) := by omega
      have i4 : (m : Int) + 1 ≤ 9223372036854775807 := by have := HLN.out; have := HLT.out; omega
      have HQ := hid hq
      have HNE := hid hne
      rw [hq] at c2
      clear hq hg hle hne hlt
      go_wp2_with fail
      go_roundg (gk - 1)
      case measure => have := i1; omega
      case rel => exact ⟨m + 1, by omega, by omega, by go_num, hid (HSP.out.setN HNE.out HQ.out m _)⟩
    · obtain rfl : m = e.nums.length := by omega
      clear hlt hk hm
      go_wp2_with fail
      go_loopg [3] e.texts.length (fun k i wr => ∃ m : Nat, m ≤ e.texts.length ∧ e.texts.length ≤ m + k ∧ i = .int .i64 m ∧ Hid (Spoil w1 wr s e))
      case atStart => exact ⟨0, Nat.zero_le _, by omega, rfl, HSP⟩
      case round =>
        clear HSP
        obtain ⟨m, hm, hk, rfl, HSP⟩ := hrel
        obtain ⟨c0, c1, c2, c3⟩ := C1.out _ HSP.out.fr
        by_cases hlt : m < e.texts.length
        · have hne : e.texts ≠ [] := fun h => by rw [h] at hlt; simp at hlt
          obtain ⟨b, cur, hq, hg, hle⟩ := HSP.out.texts hne
          obtain ⟨y, kc, kf⟩ := row_cell (i := m) hg (by omega)
          have i1 : (m : Int) < (e.texts.length : Int) := by omega
          have i2 : (0 : Int) ≤ (m : Int) := by omega
          have i4 : (m : Int) + 1 ≤ 9223372036854775807 := by have := HLN.out; have := HLT.out; omega
          have HQ := hid hq
          have HNE := hid hne
          rw [hq] at c3
          clear hq hg hle hne hlt
          go_wp2_with fail
          go_roundg (gk - 1)
          case measure => have := i1; omega
          case rel => exact ⟨m + 1, by omega, by omega, by go_num, hid (HSP.out.setT HNE.out HQ.out m _)⟩
        · obtain rfl : m = e.texts.length := by omega
          clear hlt hk hm
          go_wp2_with fail
          exact bodyPost_end (results_none rfl _ _ _) rfl ⟨rfl, HF0.of0.trans HSP.out.fr⟩
end Go.Proofs.YtnmfmedoocnofaaDoor
