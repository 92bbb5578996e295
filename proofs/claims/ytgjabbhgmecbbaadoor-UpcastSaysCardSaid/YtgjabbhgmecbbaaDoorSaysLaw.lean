/-
  What is told is written over: is of the statements. No statement of the seat is proved here. many of the statements: what it passes is small. No statement of the seat is proved here. UpcastSays: what Lowest tells in one word; what is told may be said. No statement of the seat is proved here. UpcastSays: the walk. No statement of the seat is proved here.
-/
import Derived.Test.YtgjabbhgmecbbaaDoorSpoil
import Derived.Test.YtgjabbhgmecbbaaDoorRSame
import Derived.Deep.LoopGhost
import Derived.Deep.Cut
import Derived.Test.YtgjabbhgmecbbaaDoorOpenEs
import Derived.Test.YtgjabbhgmecbbaaDoorRLowest
import Derived.Test.YtgjabbhgmecbbaaDoorAwake7
import Derived.Test.YtgjabbhgmecbbaaDoorSameL
import Derived.Test.YtgjabbhgmecbbaaDoorListsPlain
namespace Go.Proofs.YtgjabbhgmecbbaaDoor
open Go.RowKit

set_option maxHeartbeats 8000000 in
set_option maxRecDepth 100000 in
theorem is_any (s t : EvP) (e x : Ev) (f g : Int) (w : World) (hn : EvHas w s e) (he : EvAt w s e) (hx : EvAt w t x) :
    Calls Tryd.prog 15 #[evV s e, .int .i64 f, evV t x, .int .i64 g] w fun en w' => en = .returned (.bool (sameS e x && decide (f = g))) ∧ Fr (inB (s, e)) w w' := by
  have SA := hid (fun w1 (h : Fr No w w1) => refSame_any s t e x w1 (he.fr h) (hx.fr h))
  have HF0 : Fr No w ((w.alloc (.cells #[.int .u8 e.v, .int .u8 e.kind, .slice s.qn e.nums.length s.cn, .slice s.qt e.texts.length s.ct] 25)).alloc (.cells #[.int .u8 x.v, .int .u8 x.kind, .slice t.qn x.nums.length t.cn, .slice t.qt x.texts.length t.ct] 25)) := ((Fr.refl w).alloc _).alloc _
  have g0 : ((w.alloc (.cells #[.int .u8 e.v, .int .u8 e.kind, .slice s.qn e.nums.length s.cn, .slice s.qt e.texts.length s.ct] 25)).alloc (.cells #[.int .u8 x.v, .int .u8 x.kind, .slice t.qn x.nums.length t.cn, .slice t.qt x.texts.length t.ct] 25)).heap[w.heap.size]? = some (.cells #[.int .u8 e.v, .int .u8 e.kind, .slice s.qn e.nums.length s.cn, .slice s.qt e.texts.length s.ct] 25 (0, 0)) := by
    rw [Below.heap_alloc _ _ _ (by simp)]; exact Go.heap_alloc_new _ _
  have HG0 := hid g0
  have HLN := hid he.nl
  have HLT := hid he.tl
  have HN := hid hn
  have hib : ¬ inB (s, e) w.heap.size := fun h => by obtain ⟨cur, ty, h1, _⟩ := hn.inB h; have := lt_of_block h1; omega
  have HIB := hid hib
  generalize hS : sameS e x = S at SA ⊢
  clear g0 he hx hn hS hib
  unfold evV at *
  go_enter Tryd.func15, Tryd.ntmps15
  go_upto_region 1 with fail
  go_cut [9] from 12 (fun v w' => v = .bool (S && decide (f = g)) ∧ Fr No w w' ∧ w'.heap[w.heap.size]? = some (.cells #[.int .u8 e.v, .int .u8 e.kind, .slice s.qn e.nums.length s.cn, .slice s.qt e.texts.length s.ct] 25 (0, 0)))
  case first =>
    rcases S with _ | _
    · go_wp2_with (first
        | (go_at_call 17; (with_reducible refine (SA.out _ HF0).mono ?_); rintro e1 w1 ⟨rfl, hf1⟩)
        | fail)
      go_meet
      case rel => exact ⟨rfl, HF0.trans hf1, hf1.heap0 HG0.out⟩
    · by_cases hfg : f = g
      · subst hfg
        go_wp2_with (first
          | (go_at_call 17; (with_reducible refine (SA.out _ HF0).mono ?_); rintro e1 w1 ⟨rfl, hf1⟩)
          | fail)
        go_meet
        case rel => exact ⟨by simp, HF0.trans hf1, hf1.heap0 HG0.out⟩
      · have z1 : (f == g) = false := by rw [beq_eq_false_iff_ne]; exact hfg
        have hd : decide (f = g) = false := by simpa using hfg
        have HD := hid hd
        clear hfg hd
        go_wp2_with (first
          | (go_at_call 17; (with_reducible refine (SA.out _ HF0).mono ?_); rintro e1 w1 ⟨rfl, hf1⟩)
          | fail)
        go_meet
        case rel => exact ⟨by rw [HD.out]; rfl, HF0.trans hf1, hf1.heap0 HG0.out⟩
  obtain ⟨rfl, hF1, hbx⟩ := hcut
  rename World => w1
  have HF1 := hid hF1
  have C1 := hid (fun wr (h : Fr (inB (s, e)) w1 wr) => (by
    obtain ⟨c0, c1, c2, c3, _⟩ := Go.Proofs.YtgjabbhgmecbbaaDoor.cells4 hbx
    exact ⟨h.cell c0 HIB.out, h.cell c1 HIB.out, h.cell c2 HIB.out, h.cell c3 HIB.out⟩ : wr.cell? ⟨w.heap.size, 0, none⟩ = some (.int .u8 e.v) ∧ wr.cell? ⟨w.heap.size, 1, none⟩ = some (.int .u8 e.kind) ∧ wr.cell? ⟨w.heap.size, 2, none⟩ = some (.slice s.qn e.nums.length s.cn) ∧ wr.cell? ⟨w.heap.size, 3, none⟩ = some (.slice s.qt e.texts.length s.ct)))
  have HSP : Hid (Spoil w1 w1 s e) := hid (Spoil.start (Fr.refl _) (HN.out.fr hF1))
  clear hF1 hbx
  go_wp2_with fail
  go_loopg [10] e.nums.length (fun k i wr => ∃ m : Nat, m ≤ e.nums.length ∧ e.nums.length ≤ m + k ∧ i = .int .i64 m ∧ Hid (Spoil w1 wr s e))
  case atStart => exact ⟨0, Nat.zero_le _, by omega, rfl, HSP⟩
  case round =>
    clear HSP
    obtain ⟨m, hm, hk, rfl, HSP⟩ := hrel
    obtain ⟨c0, c1, c2, c3⟩ := C1.out _ HSP.out.fr
    by_cases hlt : m < e.nums.length
    · have hne : e.nums ≠ [] := fun h => by rw [h] at hlt; simp at hlt
      obtain ⟨b, cur, hq, hg, hle⟩ := HSP.out.nums hne
      obtain ⟨y, kc, kf⟩ := row_cell (i := m) hg (by omega)
      have i1 : (m : Int) < (e.nums.length : Int) := by omega
      have i2 : (0 : Int) ≤ (m : Int) := by omega
      have i4 : (m : Int) + 1 ≤ 9223372036854775807 := by have := HLN.out; have := HLT.out; omega
      have HQ := hid hq
      have HNE := hid hne
      rw [hq] at c2
      clear hq hg hle hne hlt
      go_wp2_with fail
      go_roundg (gk - 1)
      case measure => have := i1; omega
      case rel => exact ⟨m + 1, by omega, by omega, by go_num, hid (HSP.out.setN HNE.out HQ.out m _)⟩
    · obtain rfl : m = e.nums.length := by omega
      clear hlt hk hm
      go_wp2_with fail
      go_loopg [11] e.texts.length (fun k i wr => ∃ m : Nat, m ≤ e.texts.length ∧ e.texts.length ≤ m + k ∧ i = .int .i64 m ∧ Hid (Spoil w1 wr s e))
      case atStart => exact ⟨0, Nat.zero_le _, by omega, rfl, HSP⟩
      case round =>
        clear HSP
        obtain ⟨m, hm, hk, rfl, HSP⟩ := hrel
        obtain ⟨c0, c1, c2, c3⟩ := C1.out _ HSP.out.fr
        by_cases hlt : m < e.texts.length
        · have hne : e.texts ≠ [] := fun h => by rw [h] at hlt; simp at hlt
          obtain ⟨b, cur, hq, hg, hle⟩ := HSP.out.texts hne
          obtain ⟨y, kc, kf⟩ := row_cell (i := m) hg (by omega)
          have i1 : (m : Int) < (e.texts.length : Int) := by omega
          have i2 : (0 : Int) ≤ (m : Int) := by omega
          have i4 : (m : Int) + 1 ≤ 9223372036854775807 := by have := HLN.out; have := HLT.out; omega
          have HQ := hid hq
          have HNE := hid hne
          rw [hq] at c3
          clear hq hg hle hne hlt
          go_wp2_with fail
          go_roundg (gk - 1)
          case measure => have := i1; omega
          case rel => exact ⟨m + 1, by omega, by omega, by go_num, hid (HSP.out.setT HNE.out HQ.out m _)⟩
        · obtain rfl : m = e.texts.length := by omega
          clear hlt hk hm
          go_wp2_with fail
          go_ret
          exact ⟨rfl, HF1.out.of0.trans HSP.out.fr⟩

def Many2Post (w : World) (l : List (EvP × Ev)) (en : Ending) (w' : World) : Prop := ∃ b, en = .returned (.bool b) ∧ (b = false → l.length ≤ 60 ∧ ∀ p, p ∈ l → Small p.2) ∧ Fr No w w'
set_option maxHeartbeats 4000000 in
set_option maxRecDepth 100000 in
theorem many2_any (l : List (EvP × Ev)) (q : Option Addr) (cap : Nat) (w : World) (hl : LsAt w q l) (hn : l.length ≤ 17592186044416) (hs : ∀ p, p ∈ l → p.2.nums.length ≤ 17592186044416 ∧ p.2.texts.length ≤ 8796093022208) :
    Calls Tryd.prog 8 #[.slice q l.length cap] w (Many2Post w l) := by
  have LA := hid (fun w1 (h : Fr No w w1) => hl.fr h)
  have HS := hid hs
  clear hl hs
  by_cases h60 : 60 < l.length
  · have d1 : decide ((60 : Int) < (l.length : Int)) = true := by simp; omega
    clear h60
    go_enter Tryd.func8, Tryd.ntmps8
    go_wp2_with fail
    go_ret
    exact ⟨true, rfl, fun h => (by cases h), Fr.refl _⟩
  · have d1 : decide ((60 : Int) < (l.length : Int)) = false := by simp; omega
    have hle : l.length ≤ 60 := by omega
    clear h60
    go_enter Tryd.func8, Tryd.ntmps8
    go_wp2_with fail
    go_loopg [3] l.length (fun k i wr => ∃ m : Nat, m ≤ l.length ∧ l.length ≤ m + k ∧ i = .int .i64 m ∧ Hid (∀ p, p ∈ l.take m → Small p.2) ∧ Fr No w wr)
    case atStart => exact ⟨0, Nat.zero_le _, by omega, rfl, hid (by simp), Fr.refl _⟩
    case round =>
      obtain ⟨m, hm, hk, rfl, HSM, hf⟩ := hrel
      by_cases hlt : m < l.length
      · obtain ⟨⟨s, e⟩, hp⟩ : ∃ p, l[m]? = some p := ⟨_, List.getElem?_eq_getElem hlt⟩
        obtain ⟨hE, b, o, hq, c0, c1, c2, c3⟩ := LA.out _ hf m s e hp
        subst hq
        have i1 : (m : Int) < (l.length : Int) := by omega
        have i2 : (0 : Int) ≤ (m : Int) := by omega
        have i4 : (m : Int) + 1 ≤ 1000001 := by omega
        have hsz := HS.out (s, e) (List.mem_of_getElem? hp)
        have LG := hid (long7_any s e wr hE (by have := hsz.1; simp only at this; omega) (by have := hsz.2; simp only at this; omega))
        have HE := hid (show l.take (m + 1) = l.take m ++ [(s, e)] by rw [List.take_succ_eq_append_getElem hlt, (List.getElem?_eq_some_iff.1 hp).2])
        clear hp hE hsz
        unfold evV at LG
        go_wp2_with (first | (go_at_call 7; (with_reducible refine LG.out.mono ?_); intro e1 w1 h1; obtain ⟨bE, rfl, hbE, hf1⟩ := h1; cases bE))
        · go_roundg (gk - 1)
          case measure => omega
          case rel => exact ⟨m + 1, by omega, by omega, by go_num, hid (fun p hp => by
            rw [HE.out] at hp
            rcases List.mem_append.1 hp with hp | hp
            · exact HSM.out p hp
            · obtain rfl : p = (s, e) := by simpa using hp
              simpa using hbE), hf.trans hf1⟩
        · go_ret
          exact ⟨true, rfl, fun h => (by cases h), hf.trans hf1⟩
      · obtain rfl : m = l.length := by omega
        go_wp2_with fail
        go_ret
        rw [List.take_length] at HSM
        exact ⟨false, rfl, fun _ => ⟨hle, HSM.out⟩, hf⟩

theorem anyBad_map {l l' : List (EvP × Ev)} (h : l.map Prod.snd = l'.map Prod.snd) : anyBad l = anyBad l' := by
  have key : ∀ l : List (EvP × Ev), anyBad l = (l.map Prod.snd).any fun e => !mayS e := fun l => by unfold anyBad; rw [List.any_map]; rfl
  rw [key, key, h]
theorem allOK_map {l l' : List (EvP × Ev)} (h : l.map Prod.snd = l'.map Prod.snd) : allOK l = allOK l' := by
  have key : ∀ l : List (EvP × Ev), allOK l = fun v => (l.map Prod.snd).all fun e => decide ((toR e v).2 = 0) := fun l => by funext v; unfold allOK; rw [List.all_map]; rfl
  rw [key, key, h]
/-- What Lowest tells. -/
def lowRes (l : List (EvP × Ev)) (v : Nat) : Nat × List Ev × Int :=
  if anyBad l then (0, [], 4) else match lowO l v with | some u => (u, l.map (fun p => (toR p.2 u).1), 0) | none => (0, [], 43)
theorem lowRes_map {l l' : List (EvP × Ev)} (h : l.map Prod.snd = l'.map Prod.snd) (v : Nat) : lowRes l v = lowRes l' v := by
  unfold lowRes lowO
  rw [anyBad_map h, allOK_map h]
  have key : ∀ (l : List (EvP × Ev)) (u : Nat), l.map (fun p => (toR p.2 u).1) = (l.map Prod.snd).map fun e => (toR e u).1 := fun l u => by rw [List.map_map]; rfl
  simp only [key, h]
theorem lowRes_may (l : List (EvP × Ev)) (v : Nat) : ∀ x, x ∈ (lowRes l v).2.1 → mayS x = true := by
  intro x hx
  unfold lowRes at hx
  split at hx
  · simp at hx
  · rcases ho : lowO l v with _ | u
    · rw [ho] at hx; simp at hx
    · rw [ho] at hx
      obtain ⟨p, hp, rfl⟩ := List.mem_map.1 hx
      have hok := (lowO_some ho).2.2.2.1
      unfold allOK at hok
      have := List.all_eq_true.1 hok p hp
      exact (toR_told (by simpa using this)).2.2.2.1
theorem lowRes_len (l : List (EvP × Ev)) (v : Nat) : (lowRes l v).2.1.length ≤ l.length := by
  unfold lowRes
  split
  · exact Nat.zero_le _
  · rcases lowO l v with _ | u
    · exact Nat.zero_le _
    · simp
def LowUni (w : World) (r : Nat × List Ev × Int) (en : Ending) (w' : World) : Prop :=
  Fr No w w' ∧ ∃ (L : List (EvP × Ev)) (q : Option Addr) (cap : Nat), en = .returned (.tuple #[.int .u8 r.1, .slice q L.length cap, .int .i64 r.2.2]) ∧ L.map Prod.snd = r.2.1 ∧ LsRow w.heap.size w' (.slice q L.length cap) L
theorem LowPost.uni {w w' : World} {l : List (EvP × Ev)} {v : Nat} {en : Ending} (h : LowPost w l v en w') : LowUni w (lowRes l v) en w' := by
  obtain ⟨hf, h⟩ := h
  refine ⟨hf, ?_⟩
  unfold lowRes
  rcases h with ⟨hb, rfl⟩ | ⟨hb, ho, rfl⟩ | ⟨hb, u, L, q, cap, ho, rfl, hm, hr⟩
  · rw [if_pos hb]
    exact ⟨[], none, 0, rfl, rfl, LsRow.nil _ _⟩
  · rw [hb, ho]
    exact ⟨[], none, 0, rfl, rfl, LsRow.nil _ _⟩
  · rw [hb, ho]
    exact ⟨L, q, cap, rfl, hm, hr⟩
/-- What To tells may be read. -/
theorem toR_at {B : Nat} {w : World} {s : EvP} {e : Ev} {v : Nat} (h : EvNew B w s (toR e v).1) : EvAt w s (toR e v).1 := by
  by_cases hz : (toR e v).2 = 0
  · have hm := (toR_told hz).2.2.2.1
    exact h.may hm (may_kind hm)
  · have h0 : (toR e v).1 = zeroE := by
      unfold toR at hz ⊢
      split
      · split
        · rfl
        · rename_i h1 h2
          rw [if_pos h1, if_neg h2] at hz
          split
          · rename_i x hx
            rw [hx] at hz
            exact absurd rfl hz
          · rfl
      · rfl
    rw [h0] at h ⊢
    exact ⟨Nat.zero_le _, Nat.zero_le _, h.nums.at_, h.texts.at_, by simp [zeroE], by simp [zeroE], by simp [zeroE], by simp [zeroE]⟩
/-- A row of events of which the first ones are written over. -/
structure Rest (w : World) (v : Value) (l : List (EvP × Ev)) (j : Nat) : Prop where
  own : Own w 25 4 v l.length (l.flatMap evC)
  ap : ∀ (i j : Nat) (p p' : EvP × Ev), i < j → l[i]? = some p → l[j]? = some p' → ∀ k, inB p k → ¬ inB p' k
  evs : ∀ i p, j ≤ i → l[i]? = some p → EvAt w p.1 p.2 ∧ EvHas w p.1 p.2
theorem LsRow.rest {B : Nat} {w : World} {v : Value} {l : List (EvP × Ev)} (h : LsRow B w v l) (hm : ∀ p, p ∈ l → mayS p.2 = true) : Rest w v l 0 :=
  ⟨h.own, h.ap, fun i p _ hi => by
    have hp := List.mem_of_getElem? hi
    exact ⟨(h.evs p hp).may (hm p hp) (may_kind (hm p hp)), (h.evs p hp).has⟩⟩
theorem Rest.fr {w w' : World} {v : Value} {l : List (EvP × Ev)} {j : Nat} (h : Rest w v l j) (hf : Fr No w w') : Rest w' v l j :=
  ⟨h.own.fr hf (fun _ _ => id), h.ap, fun i p hj hi => ⟨(h.evs i p hj hi).1.fr hf, (h.evs i p hj hi).2.fr hf⟩⟩
theorem Rest.next {w w' : World} {v : Value} {l : List (EvP × Ev)} {j : Nat} {p : EvP × Ev} (h : Rest w v l j) (hp : l[j]? = some p) (hf : Fr (inB p) w w') : Rest w' v l (j + 1) := by
  have hh := (h.evs j p (Nat.le_refl _) hp).2
  refine ⟨h.own.fr hf (fun k hk hb => ?_), h.ap, fun i p' hj hi => ?_⟩
  · obtain ⟨cur, t, h1, h2⟩ := hh.inB hb
    rcases h.own.2 with ⟨rfl, _⟩ | ⟨g, cap, cur', rfl, _, hg, _⟩
    · cases hk
    · obtain rfl : g = k := by simpa [Value.ownBlock] using hk
      rw [hg] at h1
      simp at h1
      exact h2 h1.2.symm
  · have hap : ∀ k, inB p' k → ¬ inB p k := fun k hk hk' => h.ap j i p p' (by omega) hp hi k hk' hk
    obtain ⟨k1, k2⟩ := h.evs i p' (by omega) hi
    exact ⟨k1.frX hf hap, k2.frX hf hap⟩
theorem Rest.cells {w : World} {q : Option Addr} {n cap : Nat} {l : List (EvP × Ev)} {j : Nat} (h : Rest w (.slice q n cap) l j) {i : Nat} {s : EvP} {e : Ev} (hr : l[i]? = some (s, e)) :
    ∃ b cur, q = some ⟨b, 0, none⟩ ∧ w.heap[b]? = some (.cells cur 25 (0, 0)) ∧ w.cell? ⟨b, 0 + i * 4, none⟩ = some (.int .u8 e.v) ∧ w.cell? ⟨b, 0 + i * 4 + 1, none⟩ = some (.int .u8 e.kind) ∧
    w.cell? ⟨b, 0 + i * 4 + 2, none⟩ = some (.slice s.qn e.nums.length s.cn) ∧ w.cell? ⟨b, 0 + i * 4 + 3, none⟩ = some (.slice s.qt e.texts.length s.ct) := by
  have hi := (List.getElem?_eq_some_iff.1 hr).1
  rcases h.own.2 with ⟨h1, h2⟩ | ⟨g, cap', cur, h1, _, hg, h3, h4, h5, h6⟩
  · omega
  · have hq : q = some ⟨g, 0, none⟩ := by injection h1
    have hc := h.own.cells (g := g) (by rw [hq]; rfl)
    have key : ∀ (l : List (EvP × Ev)) (i : Nat) (r : EvP × Ev), l[i]? = some r → ∀ j, j < 4 → (l.flatMap evC)[i * 4 + j]? = (evC r)[j]? := by
      intro l
      induction l with
      | nil => intro i r h; simp at h
      | cons x l ih =>
        intro i r h j hj
        have hx : (evC x).length = 4 := rfl
        rcases i with _ | i
        · simp only [List.getElem?_cons_zero, Option.some.injEq] at h
          subst h
          rw [List.flatMap_cons, List.getElem?_append_left (by omega)]
          simp
        · rw [List.flatMap_cons, List.getElem?_append_right (by omega), hx, show (i + 1) * 4 + j - 4 = i * 4 + j by omega]
          exact ih i r (by simpa using h) j hj
    have g0 := hc (i * 4 + 0) (.int .u8 e.v) (by rw [key l i _ hr 0 (by decide)]; rfl)
    have g1 := hc (i * 4 + 1) (.int .u8 e.kind) (by rw [key l i _ hr 1 (by decide)]; rfl)
    have g2 := hc (i * 4 + 2) (.slice s.qn e.nums.length s.cn) (by rw [key l i _ hr 2 (by decide)]; rfl)
    have g3 := hc (i * 4 + 3) (.slice s.qt e.texts.length s.ct) (by rw [key l i _ hr 3 (by decide)]; rfl)
    rw [Go.WideShapes.add_plain] at g0 g1 g2 g3
    exact ⟨g, cur, hq, hg, g0, g1, g2, g3⟩

theorem LsRow.at2 {B : Nat} {w w0 : World} {q q0 : Option Addr} {n cap : Nat} {L l : List (EvP × Ev)} (h : LsRow B w (.slice q n cap) L) (hl : LsAt w0 q0 l) (hm : L.map Prod.snd = l.map Prod.snd) : LsAt w q L := fun i s e hi => by
  obtain ⟨b, hq, h1, h2, h3, h4⟩ := h.cells hi
  have hmi : (l.map Prod.snd)[i]? = some e := by rw [← hm, List.getElem?_map, hi]; rfl
  rw [List.getElem?_map] at hmi
  rcases hli : l[i]? with _ | ⟨s0, e0⟩
  · rw [hli] at hmi; cases hmi
  · rw [hli] at hmi
    obtain rfl : e0 = e := by simpa using hmi
    exact ⟨(h.evs _ (List.mem_of_getElem? hi)).at_ (hl i s0 e0 hli).1, b, 0, hq, h1, h2, h3, h4⟩
theorem eight_keepX {X : Nat → Prop} {W w' : World} {a b : Nat} {i j k l m n o p : Nat} {v0 v1 v2 v3 x0 x1 x2 x3 : Value} (c0 : W.cell? ⟨a, i, none⟩ = some v0) (c1 : W.cell? ⟨a, j, none⟩ = some v1) (c2 : W.cell? ⟨a, k, none⟩ = some v2) (c3 : W.cell? ⟨a, l, none⟩ = some v3)
    (d0 : W.cell? ⟨b, m, none⟩ = some x0) (d1 : W.cell? ⟨b, n, none⟩ = some x1) (d2 : W.cell? ⟨b, o, none⟩ = some x2) (d3 : W.cell? ⟨b, p, none⟩ = some x3) (ha : ¬ X a) (hb : ¬ X b) (hF : Fr X W w') :
    Fr X W w' ∧ w'.cell? ⟨a, i, none⟩ = some v0 ∧ w'.cell? ⟨a, j, none⟩ = some v1 ∧ w'.cell? ⟨a, k, none⟩ = some v2 ∧ w'.cell? ⟨a, l, none⟩ = some v3 ∧ w'.cell? ⟨b, m, none⟩ = some x0 ∧ w'.cell? ⟨b, n, none⟩ = some x1 ∧ w'.cell? ⟨b, o, none⟩ = some x2 ∧ w'.cell? ⟨b, p, none⟩ = some x3 :=
  ⟨hF, hF.cell c0 ha, hF.cell c1 ha, hF.cell c2 ha, hF.cell c3 ha, hF.cell d0 hb, hF.cell d1 hb, hF.cell d2 hb, hF.cell d3 hb⟩
theorem EvHas.notE {w : World} {s : EvP} {e : Ev} (h : EvHas w s e) {b : Nat} {cur : Array Value} (hg : w.heap[b]? = some (.cells cur 25 (0, 0)))   : ¬ Go.Proofs.YtgjabbhgmecbbaaDoor.inB (s, e) b := fun hk => by
  obtain ⟨cur', t, h1, h2⟩ := h.inB hk
  rw [hg] at h1
  simp at h1
  exact h2 h1.2.symm

set_option maxHeartbeats 16000000 in
set_option maxRecDepth 100000 in
theorem says_any (s : EvP) (e : Ev) (l : List (EvP × Ev)) (q : Option Addr) (cap v : Nat) (w : World) (he : EvAt w s e) (hl : LsAt w q l) (hv : v ≤ 255) (hn : l.length ≤ 17592186044416)
    (hes : e.nums.length ≤ 17592186044416 ∧ e.texts.length ≤ 8796093022208) (hs : ∀ p, p ∈ l → p.2.nums.length ≤ 17592186044416 ∧ p.2.texts.length ≤ 8796093022208) (hkt : KT w) :
    Calls Tryd.prog 3 #[evV s e, .slice q l.length cap, .int .u8 v] w fun en w' => en = .returned (.bool true) ∧ Fr No w w' := by
  have AW := hid (fun w1 (h : Fr No w w1) => awake7_any w1 (hkt.fr h))
  have LE := hid (fun w1 (h : Fr No w w1) => long7_any s e w1 (he.fr h) (by omega) (by omega))
  have MA := hid (fun w1 (h : Fr No w w1) => many2_any l q cap w1 (hl.fr h) hn hs)
  have OE := hid (fun (hE : Small e) w1 (h : Fr No w w1) => own5_any s e w1 (he.fr h) (by have := hE.1; omega) (by have := hE.2.1; omega))
  have OL := hid (fun (hL : l.length ≤ 60 ∧ ∀ p, p ∈ l → Small p.2) w1 (h : Fr No w w1) => owns_any l q cap w1 (hl.fr h) (by omega) (fun p hp => ⟨by have := (hL.2 p hp).1; omega, by have := (hL.2 p hp).2.1; omega⟩))
  have RT := hid (fun w1 (h : Fr No w w1) => rto_any s e v w1 (he.fr h))
  have RL := hid (fun (hL : l.length ≤ 60) w1 (h : Fr No w w1) => (rlowest_any l q cap v w1 (hl.fr h) (by omega) hv).mono (fun _ _ h => h.uni))
  have TE := hid (fun s' w1 (hx : EvAt w1 s' e) (h : Fr No w w1) => to_any s' e v w1 hx (hkt.fr h))
  have LO := hid (fun (L : List (EvP × Ev)) (qL : Option Addr) (cL : Nat) w1 (hL : LsAt w1 qL L) (hm : L.map Prod.snd = l.map Prod.snd) (h60 : l.length ≤ 60) (h : Fr No w w1) => (by
    have hlen : L.length = l.length := by simpa using congrArg List.length hm
    have := (lowest_any L qL cL v w1 hL (hkt.fr h) (by omega) hv).mono (fun _ _ h => h.uni)
    rw [lowRes_map hm] at this
    exact this : Calls Tryd.prog 16 #[.slice qL L.length cL, .int .u8 v] w1 (LowUni w1 (lowRes l v))))
  have IS := hid (fun (s7 s5 : EvP) w1 (hh : EvHas w1 s7 (toR e v).1) (h7 : EvAt w1 s7 (toR e v).1) (h5 : EvAt w1 s5 (toR e v).1) => (by
    have := is_any s7 s5 (toR e v).1 (toR e v).1 (toR e v).2 (toR e v).2 w1 hh h7 h5
    rw [sameS_self, show (true && decide ((toR e v).2 = (toR e v).2)) = true by simp] at this
    exact this : Calls Tryd.prog 15 #[evV s7 (toR e v).1, .int .i64 (toR e v).2, evV s5 (toR e v).1, .int .i64 (toR e v).2] w1 fun en w' => en = .returned (.bool true) ∧ Fr (inB (s7, (toR e v).1)) w1 w'))
  have IS2 := hid (fun (x : Ev) (s7 s5 : EvP) w1 (hh : EvHas w1 s7 x) (h7 : EvAt w1 s7 x) (h5 : EvAt w1 s5 x) => (by
    have := is_any s7 s5 x x 0 0 w1 hh h7 h5
    rw [sameS_self, show (true && decide ((0 : Int) = 0)) = true by simp] at this
    exact this : Calls Tryd.prog 15 #[evV s7 x, .int .i64 0, evV s5 x, .int .i64 0] w1 fun en w' => en = .returned (.bool true) ∧ Fr (inB (s7, x)) w1 w'))
  have SX := hid (fun s' w1 (hx : EvAt w1 s' e) (h : Fr No w w1) => (by
    have := refSame_any s' s e e w1 hx (he.fr h)
    rwa [sameS_self] at this : Calls Tryd.prog 17 #[evV s' e, evV s e] w1 fun en w' => en = .returned (.bool true) ∧ Fr No w1 w'))
  have SL := hid (fun (L : List (EvP × Ev)) (qL : Option Addr) (cL : Nat) w1 (hL : LsAt w1 qL L) (hm : L.map Prod.snd = l.map Prod.snd) (h60 : l.length ≤ 60) (h : Fr No w w1) => (by
    have hlen : L.length = l.length := by simpa using congrArg List.length hm
    have := rsameL_any L l qL q cL cap w1 hL (hl.fr h) (by omega)
    have hs : sameL L l = true := by unfold sameL; rw [hm]; simp
    rwa [hs] at this : Calls Tryd.prog 18 #[.slice qL L.length cL, .slice q l.length cap] w1 fun en w' => en = .returned (.bool true) ∧ Fr No w1 w'))
  have ATR := hid (fun (B : Nat) (w1 : World) (s' : EvP) (h : EvNew B w1 s' (toR e v).1) => toR_at h)
  have MAYL := hid (lowRes_may l v)
  have LENU := hid (lowRes_len l v)
  generalize toR e v = R at RT TE IS ATR
  generalize lowRes l v = U at RL LO MAYL LENU
  obtain ⟨U1, UX, U2⟩ := U
  simp only at MAYL LENU
  have HF0 : Fr No w (w.alloc (.cells #[.int .u8 e.v, .int .u8 e.kind, .slice s.qn e.nums.length s.cn, .slice s.qt e.texts.length s.ct] 25)) := (Fr.refl w).alloc _
  have g0 := Go.heap_alloc_new w (.cells #[.int .u8 e.v, .int .u8 e.kind, .slice s.qn e.nums.length s.cn, .slice s.qt e.texts.length s.ct] 25)
  have HG0 := hid g0
  have HE := hid he
  have HL := hid hl
  clear g0 he hl hes hs hkt hn
  unfold OwnPost OwnsPost UpPost LowUni at *
  unfold evV at *
  simp only at RL LO
  go_enter Tryd.func3, Tryd.ntmps3
  go_upto_region 3 with (first
    | (go_at_call 7; (with_reducible refine (LE.out _ HF0).mono ?_); intro e1 w1 h1; obtain ⟨b, rfl, hsm, hf1⟩ := h1; cases b)
    | (go_at_call 8; (with_reducible refine (MA.out _ (HF0.trans hf1)).mono ?_); intro e2 w2 h2; obtain ⟨b2, rfl, hsm2, hf2⟩ := h2; cases b2)
    | (go_at_call 9; (with_reducible refine (AW.out _ (by first | exact (HF0.trans hf1).trans hf2 | exact HF0.trans hf1)).mono ?_); rintro e3 w3 ⟨rfl, hf3⟩)
    | fail)
  all_goals first | (go_ret; first | exact ⟨rfl, ((HF0.trans hf1).trans hf2).trans hf3⟩ | exact ⟨rfl, (HF0.trans hf1).trans hf3⟩) | skip
  have HSM : Hid (Small e) := hid (by simpa using hsm)
  have HSL : Hid (l.length ≤ 60 ∧ ∀ p, p ∈ l → Small p.2) := hid (by simpa using hsm2)
  have F2 := (HF0.trans hf1).trans hf2
  obtain ⟨c0, c1, c2, c3, _, _, _, _⟩ := Go.Proofs.YtgjabbhgmecbbaaDoor.cells4 (hf2.heap0 (hf1.heap0 HG0.out))
  have C2 := hid (fun w5 (h : Fr No w2 w5) => (⟨h.cell0 c0, h.cell0 c1, h.cell0 c2, h.cell0 c3⟩ : _ ∧ _ ∧ _ ∧ _))
  clear hsm hsm2 hf1 hf2 LE MA
  go_upto_region 4 with (first
    | (go_at_call 10; (with_reducible refine (OE.out HSM.out _ F2).mono ?_); rintro e3 w3 ⟨s3, rfl, hn3, hf3⟩)
    | (go_at_call 11; (with_reducible refine (OL.out HSL.out _ (F2.trans hf3)).mono ?_); rintro e4 w4 ⟨L, q4, p4, rfl, hm4, hr4, hf4⟩; clear c0 c1 c2 c3; obtain ⟨c0, c1, c2, c3⟩ := C2.out _ (hf3.trans hf4); have z4 : w.heap.size < w4.heap.size := World.block_lt_of_cell? w4 _ c0)
    | fail)
  have F4 := (F2.trans hf3).trans hf4
  have HX := hid (((hn3.fr hf4).at_ HE.out))
  have HY := hid (hr4.at2 HL.out hm4)
  have HM4 := hid hm4
  have h24 := hf3.trans hf4
  have g4 := Go.heap_alloc_new w4 (.cells #[.int .u8 e.v, .int .u8 e.kind, .slice s3.qn e.nums.length s3.cn, .slice s3.qt e.texts.length s3.ct] 25)
  have HG4 := hid g4
  have F4a : Fr No w4 (w4.alloc (.cells #[.int .u8 e.v, .int .u8 e.kind, .slice s3.qn e.nums.length s3.cn, .slice s3.qt e.texts.length s3.ct] 25)) := (Fr.refl w4).alloc _
  clear hn3 hm4 hr4 hf3 hf4 g4 OE OL
  go_upto_region 5 with (first
    | (go_at_call 12; (with_reducible refine (RT.out _ (F4.trans F4a)).mono ?_); rintro e5 w5 ⟨s5, rfl, hn5, hf5⟩)
    | fail)
  have h45 := F4a.trans hf5
  have F5 := F4.trans h45
  have HR5 := hid (ATR.out _ _ _ hn5)
  have F5a : Fr No w5 (w5.alloc (.cells #[.int .u8 R.1.v, .int .u8 R.1.kind, .slice s5.qn R.1.nums.length s5.cn, .slice s5.qt R.1.texts.length s5.ct] 25)) := (Fr.refl w5).alloc _
  have g5 := Go.heap_alloc_new w5 (.cells #[.int .u8 R.1.v, .int .u8 R.1.kind, .slice s5.qn R.1.nums.length s5.cn, .slice s5.qt R.1.texts.length s5.ct] 25)
  have HG5 := hid g5
  have HGX := hid (hf5.heap0 HG4.out)
  clear hn5 g5 RT c0 c1 c2 c3
  go_upto_region 6 with (first
    | (go_at_call 13; (with_reducible refine (RL.out HSL.out.1 _ (F5.trans F5a)).mono ?_); rintro e6 w6 ⟨hf6, L6, q6, p6, rfl, hm6, hr6⟩)
    | fail)
  have h56 := F5a.trans hf6
  have F6 := F5.trans h56
  have hmay6 : ∀ p, p ∈ L6 → mayS p.2 = true := fun p hp => MAYL.out p.2 (by rw [← hm6]; exact List.mem_map_of_mem hp)
  have HRS6 := hid (hr6.rest hmay6)
  have HM6 := hid hm6
  obtain ⟨c0, c1, c2, c3⟩ := C2.out _ ((h24.trans h45).trans h56)
  obtain ⟨k0, k1, k2, k3, _, _, _, _⟩ := Go.Proofs.YtgjabbhgmecbbaaDoor.cells4 (h56.heap0 HGX.out)
  obtain ⟨y0, y1, y2, y3, _, _, _, _⟩ := Go.Proofs.YtgjabbhgmecbbaaDoor.cells4 (hf6.heap0 HG5.out)
  have C6 := hid (fun w9 (h : Fr No w6 w9) => (⟨⟨h.cell0 c0, h.cell0 c1, h.cell0 c2, h.cell0 c3⟩, ⟨h.cell0 k0, h.cell0 k1, h.cell0 k2, h.cell0 k3⟩, ⟨h.cell0 y0, h.cell0 y1, h.cell0 y2, h.cell0 y3⟩⟩ : (_ ∧ _ ∧ _ ∧ _) ∧ (_ ∧ _ ∧ _ ∧ _) ∧ (_ ∧ _ ∧ _ ∧ _)))
  have HX6 := hid (fun w9 (h : Fr No w6 w9) => HX.out.fr ((h45.trans h56).trans h))
  have HY6 := hid (fun w9 (h : Fr No w6 w9) => HY.out.fr ((h45.trans h56).trans h))
  have HR6 := hid (fun w9 (h : Fr No w6 w9) => HR5.out.fr (h56.trans h))
  clear hm6 hr6 hmay6 hf5 hf6 h24 h45 h56 c0 c1 c2 c3 k0 k1 k2 k3 y0 y1 y2 y3 F4a F5a F4 F5 RL HX HY HR5 HG4 HG5 HGX C2 HG0
  go_wp2_with fail
  go_loopg [14] 2 (fun k i wr => ∃ m : Nat, m ≤ 2 ∧ 2 ≤ m + k ∧ i = .int .i64 m ∧ Fr No w6 wr)
  case atStart => exact ⟨0, by omega, by omega, rfl, Fr.refl _⟩
  case round =>
    obtain ⟨m, hm, hk, rfl, hf⟩ := hrel
    have FW := F6.trans hf
    obtain ⟨⟨c0, c1, c2, c3⟩, ⟨k0, k1, k2, k3⟩, y0, y1, y2, y3⟩ := C6.out _ hf
    by_cases hlt : m < 2
    · have d1 : decide ((m : Int) < 2) = true := by simp; omega
      have T1 := hid (TE.out s3 wr (HX6.out _ hf) FW)
      obtain ⟨go, hgo⟩ : ∃ g, g = gk := ⟨gk, rfl⟩
      have hgk : 2 ≤ m + go := by omega
      have HGO := hid hgo
      clear hk hgo
      go_upto_region 10 with (first
        | (go_at_call 14; (with_reducible refine T1.out.mono ?_); rintro e7 w7 ⟨s7, rfl, hn7, hf7⟩)
        | fail)
      have hf7a := hf7.alloc (.cells #[.int .u8 R.1.v, .int .u8 R.1.kind, .slice s7.qn R.1.nums.length s7.cn, .slice s7.qt R.1.texts.length s7.ct] 25)
      clear c0 c1 c2 c3 k0 k1 k2 k3 y0 y1 y2 y3
      obtain ⟨⟨c0, c1, c2, c3⟩, ⟨k0, k1, k2, k3⟩, y0, y1, y2, y3⟩ := C6.out _ (hf.trans hf7)
      have z7 : w5.heap.size < w7.heap.size := World.block_lt_of_cell? w7 _ y0
      have I7 := hid (IS.out s7 s5 _ (hn7.has.fr ((Fr.refl w7).alloc (.cells #[.int .u8 R.1.v, .int .u8 R.1.kind, .slice s7.qn R.1.nums.length s7.cn, .slice s7.qt R.1.texts.length s7.ct] 25))) (ATR.out _ _ _ (hn7.fr ((Fr.refl w7).alloc (.cells #[.int .u8 R.1.v, .int .u8 R.1.kind, .slice s7.qn R.1.nums.length s7.cn, .slice s7.qt R.1.texts.length s7.ct] 25)))) (HR6.out _ (hf.trans hf7a)))
      go_upto_region 12 with (first
        | (go_at_call 15; (with_reducible refine I7.out.mono ?_); rintro e8 w8 ⟨rfl, hf8⟩)
        | fail)
      have hr8 : Fr No wr w8 := hf7a.trans' hf8 (fun i hi hx => absurd (hn7.inB hx).1 (by omega))
      have h8 := hf.trans hr8
      have F8 := F6.trans h8
      clear c0 c1 c2 c3 k0 k1 k2 k3 y0 y1 y2 y3 hn7 hf7 hf7a hf8 I7 z7
      go_upto_region 13 with (first
        | (go_at_call 16; (with_reducible refine (LO.out L q4 p4 _ (HY6.out _ h8) HM4.out HSL.out.1 F8).mono ?_); rintro e9 w9 ⟨hf9, L9, q9, p9, rfl, hm9, hr9⟩)
        | fail)
      have h9 := h8.trans hf9
      have hlen : L9.length = L6.length := by have := congrArg List.length (hm9.trans HM6.out.symm); simpa using this
      have hmay9 : ∀ p, p ∈ L9 → mayS p.2 = true := fun p hp => MAYL.out p.2 (by rw [← hm9]; exact List.mem_map_of_mem hp)
      have HRS9 := hid (hr9.rest hmay9)
      have HB9 := hid (fun p (hp : p ∈ L9) k (hk : inB p k) => (Nat.le_trans h8.size ((hr9.evs p hp).inB hk).1 : w6.heap.size ≤ k))
      have HM9 := hid hm9
      have zl : ((L9.length : Int) != (L6.length : Int)) = false := by simp [hlen]
      have h60 : L9.length ≤ 60 := by
        have h1 : L9.length = UX.length := by simpa using congrArg List.length hm9
        have := LENU.out
        have := HSL.out.1
        omega
      have HLEN := hid hlen
      clear hlen hmay9 hr9 hm9 hf9
      go_wp2_with fail
      go_loopg [20] L9.length (fun k i wz => ∃ j : Nat, j ≤ L9.length ∧ L9.length ≤ j + k ∧ i = .int .i64 j ∧ Hid (Rest wz (.slice q9 L9.length p9) L9 j) ∧ Fr No w6 wz)
      case atStart => exact ⟨0, by omega, by omega, rfl, HRS9, h9⟩
      case round =>
        clear HRS9
        rename World => wz
        obtain ⟨j, hj, hk, rfl, HRS, hfz⟩ := hrel
        by_cases hjl : j < L9.length
        · obtain ⟨⟨s9, x⟩, hp9⟩ : ∃ p, L9[j]? = some p := ⟨_, List.getElem?_eq_getElem hjl⟩
          obtain ⟨⟨sl, x'⟩, hp6⟩ : ∃ p, L6[j]? = some p := ⟨_, List.getElem?_eq_getElem (by have := HLEN.out; omega)⟩
          have hxx : x = x' := by
            have h1 : (L9.map Prod.snd)[j]? = some x := by rw [List.getElem?_map, hp9]; rfl
            have h2 : (L6.map Prod.snd)[j]? = some x' := by rw [List.getElem?_map, hp6]; rfl
            rw [HM9.out, ← HM6.out, h2] at h1
            exact (Option.some.inj h1).symm
          subst hxx
          obtain ⟨b9, cu9, hq9, hg9, d0, d1', d2, d3⟩ := HRS.out.cells hp9
          obtain ⟨b6, cu6, hq6, hg6, f0, f1, f2, f3⟩ := (HRS6.out.fr hfz).cells hp6
          obtain ⟨at9, has9⟩ := HRS.out.evs j _ (Nat.le_refl _) hp9
          obtain ⟨at6, _⟩ := (HRS6.out.fr hfz).evs j _ (Nat.zero_le _) hp6
          have n9 := has9.notE hg9
          have n6 := has9.notE hg6
          have I9 := hid (IS2.out x s9 sl wz.drew (has9.fr (Fr.refl wz).drew) (at9.fr (Fr.refl wz).drew) (at6.fr (Fr.refl wz).drew))
          have HNX := hid (fun w' (h : Fr (inB (s9, x)) wz w') => HRS.out.next hp9 h)
          have HOLD := hid (fun w' (h : Fr (inB (s9, x)) wz w') => (hfz.trans' h (fun i hi hx => absurd (HB9.out _ (List.mem_of_getElem? hp9) i hx) (by omega)) : Fr No w6 w'))
          have i1 : (j : Int) < (L9.length : Int) := by omega
          have i1' : (j : Int) < (L6.length : Int) := by have := HLEN.out; omega
          have i2 : (0 : Int) ≤ (j : Int) := by omega
          have i4 : (j : Int) + 1 ≤ 1000001 := by omega
          subst hq9 hq6
          clear hp9 hp6 hg9 hg6 at9 has9 at6
          rw [Nat.zero_add] at d0 d1' d2 d3 f0 f1 f2 f3
          go_upto_region 18 with fail
          go_cut [98] from 83 to 98 (fun y w' => y = .bool false ∧ Fr (inB (s9, x)) wz w')
          case first =>
            go_region_held3 (fun w' => Fr (inB (s9, x)) wz w' ∧ w'.cell? ⟨b9, j * 4, none⟩ = some (.int .u8 x.v) ∧ w'.cell? ⟨b9, j * 4 + 1, none⟩ = some (.int .u8 x.kind) ∧ w'.cell? ⟨b9, j * 4 + 2, none⟩ = some (.slice s9.qn x.nums.length s9.cn) ∧ w'.cell? ⟨b9, j * 4 + 3, none⟩ = some (.slice s9.qt x.texts.length s9.ct) ∧
                w'.cell? ⟨b6, j * 4, none⟩ = some (.int .u8 x.v) ∧ w'.cell? ⟨b6, j * 4 + 1, none⟩ = some (.int .u8 x.kind) ∧ w'.cell? ⟨b6, j * 4 + 2, none⟩ = some (.slice sl.qn x.nums.length sl.cn) ∧ w'.cell? ⟨b6, j * 4 + 3, none⟩ = some (.slice sl.qt x.texts.length sl.ct))
              ((go_split_ands; refine eight_keepX d0 d1' d2 d3 f0 f1 f2 f3 n9 n6 ?_; repeat (first | exact Fr.refl _ | assumption | refine Fr.drew ?_)))
              ((go_at_call 15; (with_reducible refine I9.out.mono ?_); rintro eA wA ⟨rfl, hfA⟩; have hFA : Fr (inB (s9, x)) wz wA := ((Fr.refl _).drew).trans hfA))
            go_wp2_with fail
            go_meet
            case rel => exact ⟨rfl, hFA⟩
          obtain ⟨rfl, hFA⟩ := hcut
          rename World => wA
          go_wp2_with fail
          go_roundg (gk - 1)
          case measure => omega
          case rel => exact ⟨j + 1, by omega, by omega, by go_num, hid (HNX.out _ hFA), HOLD.out _ hFA⟩
        · obtain rfl : j = L9.length := by omega
          clear hjl hj hk
          go_wp2_with fail
          go_roundg (go - 1)
          case measure => have := HGO.out; omega
          case rel => exact ⟨m + 1, by omega, by omega, by go_num, hfz⟩
    · have d1 : decide ((m : Int) < 2) = false := by simp; omega
      clear hlt hm hk
      go_wp2_with (first
        | (go_at_call 17; (with_reducible refine (SX.out s3 _ (HX6.out _ hf) FW).mono ?_); rintro e7 w7 ⟨rfl, hf7⟩)
        | (go_at_call 18; (with_reducible refine (SL.out L q4 p4 _ (HY6.out _ (hf.trans hf7)) HM4.out HSL.out.1 (FW.trans hf7)).mono ?_); rintro e8 w8 ⟨rfl, hf8⟩)
        | (go_at_call 9; (with_reducible refine (AW.out _ ((FW.trans hf7).trans hf8)).mono ?_); rintro e9 w9 ⟨rfl, hf9⟩)
        | fail)
      go_ret
      exact ⟨rfl, ((FW.trans hf7).trans hf8).trans hf9⟩
end Go.Proofs.YtgjabbhgmecbbaaDoor
