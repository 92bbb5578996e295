/-
  The statements' helpers over lists of events: heavy, same, batch.Same, lifted. No statement of the seat is proved here. works, refused, says of the statements of batches. No statement of the seat is proved here.
-/
import Derived.Test.YtnmfmedoocnofaaDoorBNewest
import Derived.Test.YtnmfmedoocnofaaDoorSameEvent8
import Derived.Test.YtnmfmedoocnofaaDoorSpoil
import Derived.Test.YtnmfmedoocnofaaDoorCHelp
import Derived.Laws.EntriesVeiled
namespace Go.Proofs.YtnmfmedoocnofaaDoor
open Go.RowKit

theorem snd_take {l : List (EvP × Ev)} {m : Nat} {s : EvP} {e : Ev} (hp : l[m]? = some (s, e)) : (l.take (m + 1)).map Prod.snd = (l.take m).map Prod.snd ++ [e] := by
  have hlt := (List.getElem?_eq_some_iff.1 hp).1
  rw [List.take_succ_eq_append_getElem hlt, (List.getElem?_eq_some_iff.1 hp).2]
  simp
theorem snd_at {l : List (EvP × Ev)} {m : Nat} {s : EvP} {e : Ev} (hp : l[m]? = some (s, e)) : (l.map Prod.snd)[m]? = some e := by rw [List.getElem?_map, hp]; rfl
theorem snd_ne {l l' : List (EvP × Ev)} {m : Nat} {s s' : EvP} {e e' : Ev} (hp : l[m]? = some (s, e)) (hp' : l'[m]? = some (s', e')) (h : e ≠ e') : l.map Prod.snd ≠ l'.map Prod.snd := fun hh => by
  have h1 := snd_at hp
  rw [hh, snd_at hp'] at h1
  exact h (Option.some.inj h1).symm
theorem sameS_false {a b : Ev} (h : sameS a b = false) : a ≠ b := fun he => by rw [he, sameS_iff.2 rfl] at h; cases h

set_option maxHeartbeats 4000000 in
set_option maxRecDepth 100000 in
theorem equalFunc_any (l l' : List (EvP × Ev)) (q q' : Option Addr) (cap cap' : Nat) (w : World) (hl : LsAt w q l) (hl' : LsAt w q' l') (hn : l.length ≤ 9000000000000000000) :
    Calls Tryd.prog 51 #[.slice q l.length cap, .slice q' l'.length cap', .func (.func 52) #[] #[]] w fun en w' => en = .returned (.bool (decide (l.map Prod.snd = l'.map Prod.snd))) ∧ Fr No w w' := by
  by_cases hlen : l.length = l'.length
  · rw [← hlen]
    have LA := hid (fun w1 (h : Fr No w w1) => hl.fr h)
    have LB := hid (fun w1 (h : Fr No w w1) => hl'.fr h)
    have HLEN := hid hlen
    have SA := hid (fun s t e f w1 he hf => same_any s t e f w1 he hf)
    clear hl hl' hlen
    go_enter Tryd.func51, Tryd.ntmps51
    go_wp2_with fail
    go_loopg [17] l.length (fun k i wr => ∃ m : Nat, m ≤ l.length ∧ l.length ≤ m + k ∧ i = .int .i64 m ∧ Hid ((l.take m).map Prod.snd = (l'.take m).map Prod.snd) ∧ Fr No w wr)
    case atStart => exact ⟨0, Nat.zero_le _, by omega, rfl, hid rfl, Fr.refl _⟩
    case round =>
      obtain ⟨m, hm, hk, rfl, HB, hf⟩ := hrel
      by_cases hlt : m < l.length
      · obtain ⟨⟨s, e⟩, hp⟩ : ∃ p, l[m]? = some p := ⟨_, List.getElem?_eq_getElem hlt⟩
        obtain ⟨⟨s', e'⟩, hp'⟩ : ∃ p, l'[m]? = some p := ⟨_, List.getElem?_eq_getElem (by rw [← HLEN.out]; exact hlt)⟩
        obtain ⟨hE, b, o, hq, c0, c1, c2, c3⟩ := LA.out _ hf m s e hp
        obtain ⟨hE', b', o', hq', d0, d1, d2, d3⟩ := LB.out _ hf m s' e' hp'
        subst hq hq'
        have i1 : (m : Int) < (l.length : Int) := by omega
        have i2 : (0 : Int) ≤ (m : Int) := by omega
        have i4 : (m : Int) + 1 ≤ 9000000000000000001 := by omega
        have bl : b' < wr.heap.size := World.block_lt_of_cell? wr _ d0
        have HF0 : Fr No wr ((wr.alloc (.cells #[.int .u8 e.v, .int .u8 e.kind, .slice s.qn e.nums.length s.cn, .slice s.qt e.texts.length s.ct] 34)).alloc (.cells #[.int .u8 e'.v, .int .u8 e'.kind, .slice s'.qn e'.nums.length s'.cn, .slice s'.qt e'.texts.length s'.ct] 34)) := ((Fr.refl wr).alloc _).alloc _
        have SE := hid (SA.out s s' e e' _ (hE.fr HF0) (hE'.fr HF0))
        have HF := hid HF0
        rcases hse : sameS e e' with _ | _
        · rw [hse] at SE
          have HNE : Hid (decide (l.map Prod.snd = l'.map Prod.snd) = false) := hid (decide_eq_false (snd_ne hp hp' (sameS_false hse)))
          clear hse hp hp' hE hE' HF0
          unfold evV at SE
          go_wp2_with (first | (go_at_call 52; (with_reducible refine SE.out.mono ?_); rintro e4 w4 ⟨rfl, hf4⟩) | fail)
          go_ret
          exact ⟨congrArg (fun z => Ending.returned (.bool z)) HNE.out.symm, (hf.trans HF.out).trans hf4⟩
        · rw [hse] at SE
          have HB2 : Hid ((l.take (m + 1)).map Prod.snd = (l'.take (m + 1)).map Prod.snd) := hid (by rw [snd_take hp, snd_take hp', HB.out, sameS_iff.1 hse])
          clear hse hp hp' hE hE' HF0
          unfold evV at SE
          go_wp2_with (first | (go_at_call 52; (with_reducible refine SE.out.mono ?_); rintro e4 w4 ⟨rfl, hf4⟩) | fail)
          go_roundg (gk - 1)
          case measure => omega
          case rel => exact ⟨m + 1, by omega, by omega, by go_num, HB2, (hf.trans HF.out).trans hf4⟩
      · obtain rfl : m = l.length := by omega
        have HEQ : Hid (decide (l.map Prod.snd = l'.map Prod.snd) = true) := hid (decide_eq_true (by have := HB.out; rw [List.take_length, HLEN.out, List.take_length] at this; exact this))
        clear HB
        go_wp2_with fail
        go_ret
        exact ⟨congrArg (fun z => Ending.returned (.bool z)) HEQ.out.symm, hf⟩
  · have HNE : Hid (decide (l.map Prod.snd = l'.map Prod.snd) = false) := hid (decide_eq_false (fun h => hlen (by have := congrArg List.length h; simpa using this)))
    have t1 : ((l.length : Int) != (l'.length : Int)) = true := by simp; omega
    clear hlen hl hl'
    go_enter Tryd.func51, Tryd.ntmps51
    go_wp2_with fail
    go_ret
    exact ⟨congrArg (fun z => Ending.returned (.bool z)) HNE.out.symm, Fr.refl _⟩
set_option maxHeartbeats 1000000 in
theorem bsame_any (l l' : List (EvP × Ev)) (q q' : Option Addr) (cap cap' : Nat) (w : World) (hl : LsAt w q l) (hl' : LsAt w q' l') (hn : l.length ≤ 9000000000000000000) :
    Calls Tryd.prog 25 #[.slice q l.length cap, .slice q' l'.length cap'] w fun en w' => en = .returned (.bool (decide (l.map Prod.snd = l'.map Prod.snd))) ∧ Fr No w w' := by
  have EF := hid (equalFunc_any l l' q q' cap cap' w hl hl' hn)
  generalize decide (l.map Prod.snd = l'.map Prod.snd) = B at EF ⊢
  clear hl hl' hn
  go_enter Tryd.func25, Tryd.ntmps25
  go_wp2_with (first | (go_at_call 51; (with_reducible refine EF.out.mono ?_); rintro e4 w4 ⟨rfl, hf4⟩) | fail)
  go_ret
  exact ⟨rfl, hf4⟩

set_option maxHeartbeats 4000000 in
set_option maxRecDepth 100000 in
theorem same8_any (l l' : List (EvP × Ev)) (q q' : Option Addr) (cap cap' : Nat) (w : World) (hl : LsAt w q l) (hl' : LsAt w q' l') (hn : l.length ≤ 9000000000000000000) :
    Calls Tryd.prog 14 #[.slice q l.length cap, .slice q' l'.length cap'] w fun en w' => en = .returned (.bool (decide (l.map Prod.snd = l'.map Prod.snd))) ∧ Fr No w w' := by
  by_cases hlen : l.length = l'.length
  · rw [← hlen]
    have LA := hid (fun w1 (h : Fr No w w1) => hl.fr h)
    have LB := hid (fun w1 (h : Fr No w w1) => hl'.fr h)
    have HLEN := hid hlen
    have SA := hid (fun s t e f w1 he hf => sameEvent8_any s t e f w1 he hf)
    clear hl hl' hlen
    go_enter Tryd.func14, Tryd.ntmps14
    go_wp2_with fail
    go_loopg [5] l.length (fun k i wr => ∃ m : Nat, m ≤ l.length ∧ l.length ≤ m + k ∧ i = .int .i64 m ∧ Hid ((l.take m).map Prod.snd = (l'.take m).map Prod.snd) ∧ Fr No w wr)
    case atStart => exact ⟨0, Nat.zero_le _, by omega, rfl, hid rfl, Fr.refl _⟩
    case round =>
      obtain ⟨m, hm, hk, rfl, HB, hf⟩ := hrel
      by_cases hlt : m < l.length
      · obtain ⟨⟨s, e⟩, hp⟩ : ∃ p, l[m]? = some p := ⟨_, List.getElem?_eq_getElem hlt⟩
        obtain ⟨⟨s', e'⟩, hp'⟩ : ∃ p, l'[m]? = some p := ⟨_, List.getElem?_eq_getElem (by rw [← HLEN.out]; exact hlt)⟩
        obtain ⟨hE, b, o, hq, c0, c1, c2, c3⟩ := LA.out _ hf m s e hp
        obtain ⟨hE', b', o', hq', d0, d1, d2, d3⟩ := LB.out _ hf m s' e' hp'
        subst hq hq'
        have i1 : (m : Int) < (l.length : Int) := by omega
        have i2 : (0 : Int) ≤ (m : Int) := by omega
        have i4 : (m : Int) + 1 ≤ 9000000000000000001 := by omega
        have SE := hid (fun (y : Aft wr) => SA.out s s' e e' y.val (hE.fr y.h) (hE'.fr y.h))
        go_upto_region 6 with fail
        have m0 := fun (y : Aft wr) => y.h.cell0 c0
        have m1 := fun (y : Aft wr) => y.h.cell0 c1
        have m2 := fun (y : Aft wr) => y.h.cell0 c2
        have m3 := fun (y : Aft wr) => y.h.cell0 c3
        have n0 := fun (y : Aft wr) => y.h.cell0 d0
        have n1 := fun (y : Aft wr) => y.h.cell0 d1
        have n2 := fun (y : Aft wr) => y.h.cell0 d2
        have n3 := fun (y : Aft wr) => y.h.cell0 d3
        clear c0 c1 c2 c3 d0 d1 d2 d3
        rcases hse : sameS e e' with _ | _
        · rw [hse] at SE
          have HNE : Hid (decide (l.map Prod.snd = l'.map Prod.snd) = false) := hid (decide_eq_false (snd_ne hp hp' (sameS_false hse)))
          clear hse hp hp' hE hE'
          unfold evV at SE
          refine wp_region_aft (by kernel_rfl) (by kernel_rfl) ?_
          repeat (go_big_quiet_step (first | (go_at_call 37; exact calls_aft (SE.out _))))
          refine wpQuiet_nil ?_
          rintro _ ⟨⟨w9, hf9⟩, rfl⟩
          clear m0 m1 m2 m3 n0 n1 n2 n3
          go_wp2_with fail
          go_ret
          exact ⟨congrArg (fun z => Ending.returned (.bool z)) HNE.out.symm, hf.trans hf9⟩
        · rw [hse] at SE
          have HB2 : Hid ((l.take (m + 1)).map Prod.snd = (l'.take (m + 1)).map Prod.snd) := hid (by rw [snd_take hp, snd_take hp', HB.out, sameS_iff.1 hse])
          clear hse hp hp' hE hE'
          unfold evV at SE
          refine wp_region_aft (by kernel_rfl) (by kernel_rfl) ?_
          repeat (go_big_quiet_step (first | (go_at_call 37; exact calls_aft (SE.out _))))
          refine wpQuiet_nil ?_
          rintro _ ⟨⟨w9, hf9⟩, rfl⟩
          clear m0 m1 m2 m3 n0 n1 n2 n3
          go_wp2_with fail
          go_roundg (gk - 1)
          case measure => omega
          case rel => exact ⟨m + 1, by omega, by omega, by go_num, HB2, hf.trans hf9⟩
      · obtain rfl : m = l.length := by omega
        have HEQ : Hid (decide (l.map Prod.snd = l'.map Prod.snd) = true) := hid (decide_eq_true (by have := HB.out; rw [List.take_length, HLEN.out, List.take_length] at this; exact this))
        clear HB
        go_wp2_with fail
        go_ret
        exact ⟨congrArg (fun z => Ending.returned (.bool z)) HEQ.out.symm, hf⟩
  · have HNE : Hid (decide (l.map Prod.snd = l'.map Prod.snd) = false) := hid (decide_eq_false (fun h => hlen (by have := congrArg List.length h; simpa using this)))
    have t1 : ((l.length : Int) != (l'.length : Int)) = true := by simp; omega
    clear hlen hl hl'
    go_enter Tryd.func14, Tryd.ntmps14
    go_wp2_with fail
    go_ret
    exact ⟨congrArg (fun z => Ending.returned (.bool z)) HNE.out.symm, Fr.refl _⟩

def HeavyPost (w : World) (l : List (EvP × Ev)) (en : Ending) (w' : World) : Prop := ∃ b, en = .returned (.bool b) ∧ (b = false → l.length ≤ 4000) ∧ Fr No w w'
set_option maxHeartbeats 4000000 in
set_option maxRecDepth 100000 in
theorem heavy_any (l : List (EvP × Ev)) (q : Option Addr) (cap : Nat) (w : World) (hl : LsAt w q l) (hn : l.length ≤ 9000000000000000000) :
    Calls Tryd.prog 16 #[.slice q l.length cap] w (HeavyPost w l) := by
  have LA := hid (fun w1 (h : Fr No w w1) => hl.fr h)
  have WE := hid (fun s e w1 he => weight_any s e w1 he)
  unfold WeightPost at WE
  unfold HeavyPost
  clear hl
  go_enter Tryd.func16, Tryd.ntmps16
  go_wp2_with fail
  go_loopg [3, 4] l.length (fun k nv i wr => ∃ m N : Nat, m ≤ l.length ∧ l.length ≤ m + k ∧ nv = .int .i64 N ∧ i = .int .i64 m ∧ m ≤ N ∧ N ≤ 6000 ∧ Fr No w wr)
  case atStart => exact ⟨0, 0, Nat.zero_le _, by omega, rfl, rfl, Nat.le_refl _, by omega, Fr.refl _⟩
  case round =>
    obtain ⟨m, N, hm, hk, rfl, rfl, hmN, hN, hf⟩ := hrel
    by_cases hlt : m < l.length
    · have i1 : (m : Int) < (l.length : Int) := by omega
      by_cases hN4 : N < 4000
      · obtain ⟨⟨s, e⟩, hp⟩ : ∃ p, l[m]? = some p := ⟨_, List.getElem?_eq_getElem hlt⟩
        obtain ⟨hE, b, o, hq, c0, c1, c2, c3⟩ := LA.out _ hf m s e hp
        subst hq
        have i2 : (0 : Int) ≤ (m : Int) := by omega
        have i4 : (m : Int) + 1 ≤ 9000000000000000001 := by omega
        have i5 : (N : Int) < 4000 := by omega
        have i6 : (0 : Int) ≤ (N : Int) := by omega
        have WP := hid (WE.out s e wr hE)
        clear hE hp
        unfold evV at WP
        go_wp2_with (first | (go_at_call 38; (with_reducible refine WP.out.mono ?_); rintro e4 w4 ⟨n, rfl, hn1, hn2, _, hf4⟩; have j1 : (N : Int) + (n : Int) ≤ 6000 := (by omega); have j2 : (0 : Int) ≤ (N : Int) + (n : Int) := (by omega)) | fail)
        go_roundg (gk - 1)
        case measure => omega
        case rel => exact ⟨m + 1, N + n, by omega, by omega, by go_num, by go_num, by omega, by omega, hf.trans hf4⟩
      · have i5 : decide ((N : Int) < 4000) = false := by simp; omega
        have i6 : (4000 : Int) ≤ (N : Int) := by omega
        clear hN4
        go_wp2_with fail
        go_ret
        exact ⟨true, by simp, fun h => (by cases h), hf⟩
    · have i1 : decide (m < l.length) = false := by simp; omega
      obtain rfl : m = l.length := by omega
      go_wp2_with fail
      go_ret
      refine ⟨decide (4000 ≤ (N : Int)), rfl, fun h => ?_, hf⟩
      have := of_decide_eq_false h
      omega

theorem slat_lit {w : World} {b : Nat} {cs : Array Value} {t : TypeId} {xs : List Value} (h : w.heap[b]? = some (.cells cs t (0, 0))) (hx : cs.toList = xs) : SlAt w (some ⟨b, 0, none⟩) xs := fun i x hi => by
  refine ⟨b, 0, rfl, ?_⟩
  rw [cell_of_row w b (0 + i) cs t (0, 0) h, Nat.zero_add]
  subst hx
  simpa using hi
theorem evC_at : ∀ (l : List (EvP × Ev)) (i : Nat) (r : EvP × Ev), l[i]? = some r → ∀ j, j < 4 → (l.flatMap evC)[i * 4 + j]? = (evC r)[j]? := by
  intro l
  induction l with
  | nil => intro i r h; simp at h
  | cons x l ih =>
    intro i r h j hj
    have hx : (evC x).length = 4 := rfl
    rcases i with _ | i
    · simp only [List.getElem?_cons_zero, Option.some.injEq] at h
      subst h
      rw [List.flatMap_cons, List.getElem?_append_left (by omega)]
      simp
    · rw [List.flatMap_cons, List.getElem?_append_right (by omega), hx, show (i + 1) * 4 + j - 4 = i * 4 + j by omega]
      exact ih i r (by simpa using h) j hj
/-- A row of events that lies in a block of its own. -/
theorem ls_lit {W : World} {g : Nat} {cs : Array Value} (l : List (EvP × Ev)) (h : W.heap[g]? = some (.cells cs 34 (0, 0))) (hc : cs.toList = l.flatMap evC) (he : ∀ p, p ∈ l → EvAt W p.1 p.2) : LsAt W (some ⟨g, 0, none⟩) l := fun i s e hi => by
  have key : ∀ j u, j < 4 → (evC (s, e))[j]? = some u → W.cell? ⟨g, 0 + i * 4 + j, none⟩ = some u := fun j u hj hu => by
    rw [cell_of_row W g _ cs _ (0, 0) h, Nat.zero_add]
    have := evC_at l i (s, e) hi j hj
    rw [← hc, hu] at this
    simpa using this
  exact ⟨he _ (List.mem_of_getElem? hi), g, 0, rfl, key 0 _ (by decide) rfl, key 1 _ (by decide) rfl, key 2 _ (by decide) rfl, key 3 _ (by decide) rfl⟩
theorem LsAt.nil (w : World) (q : Option Addr) : LsAt w q [] := fun i s e h => by simp at h

theorem event8_any (v k : Int) (x : Value) (q : Option Addr) (n cap : Nat) (hx : x = .slice q n cap) (w : World) :
    Calls Tryd.prog 23 #[.int .u8 v, .int .u8 k, x] w fun en w' => en = .returned (.agg #[.int .u8 v, .int .u8 k, .slice q n cap, .slice none 0 0]) ∧ Fr No w w' := by
  subst hx
  go_enter Tryd.func23, Tryd.ntmps23
  go_wp2
  refine bodyPost_ret (Go.results_cell_row rfl _ _ w.heap.size 34 _ (0, 0) _ rfl (Go.heap_alloc_new _ _) Tryd.underlying34 rfl (by kernel_rfl)) rfl ⟨rfl, (Fr.refl w).alloc _⟩
theorem list8_any (q : Option Addr) (n cap : Nat) (w : World) :
    Calls Tryd.prog 24 #[.slice q n cap] w fun en w' => en = .returned (.slice q n cap) ∧ Fr No w w' := by
  go_enter Tryd.func24, Tryd.ntmps24
  go_wp2
  go_ret
  exact ⟨rfl, Fr.refl _⟩

theorem newL_err {s : List UInt8} {k : Nat} (hd : decL s = ([], k)) (hk : k ≠ 0) : newL s = ([], k) := by
  unfold newL
  rw [hd, if_neg hk]
set_option maxHeartbeats 4000000 in
set_option maxRecDepth 100000 in
theorem refused8_any (s : List UInt8) (k : Nat) (w : World) (hkt : KT w) (hs : s.length ≤ 9000000000000000000) (hd : decL s = ([], k)) (hk : k ≠ 0) :
    Calls Tryd.prog 22 #[strV s, .int .i64 k] w fun en w' => en = .returned (.bool true) ∧ Fr No w w' := by
  have DE0 := bdecode_any s w hkt hs
  rw [hd] at DE0
  have DE : Hid (Calls Tryd.prog 12 #[strV s] w fun en w' => ∃ (q : Option Addr) (cap : Nat), en = .returned (.tuple #[.slice q 0 cap, .int .i64 k]) ∧ Fr No w w') := hid (DE0.mono fun en w' ⟨L, q, cap, h1, h2, _, h4⟩ => by
    obtain rfl : L = [] := List.map_eq_nil_iff.1 h2
    exact ⟨q, cap, h1, h4⟩)
  have NE := hid (fun w1 (h : Fr No w w1) => bnewest_any s w1 (hkt.fr h) hs)
  rw [newL_err hd hk] at NE
  have t1 : ((k : Int) == (k : Int)) = true := by simp
  clear DE0 hkt hs hd hk
  unfold strV at *
  go_enter Tryd.func22, Tryd.ntmps22
  go_wp2_with (first
    | (go_at_call 12; (with_reducible refine DE.out.mono ?_); rintro e1 w1 ⟨q, cap, rfl, hf1⟩)
    | (go_at_call 10; (with_reducible refine (NE.out _ hf1).mono ?_); rintro e2 w2 ⟨rfl, hf2⟩)
    | fail)
  go_ret
  exact ⟨rfl, hf1.trans hf2⟩
set_option maxHeartbeats 4000000 in
set_option maxRecDepth 100000 in
theorem says8_any (l : List (EvP × Ev)) (q : Option Addr) (cap v : Nat) (t : List UInt8) (w : World) (hl : LsAt w q l) (hkt : KT w) (hn : l.length ≤ 1000000) (hv : v ≤ 255) (hs : sayL (l.map Prod.snd) v = (t, 0)) :
    Calls Tryd.prog 26 #[.slice q l.length cap, .int .u8 v, strV t] w fun en w' => en = .returned (.bool true) ∧ Fr No w w' := by
  have SA := hid (bsay_any l q cap v w hl hkt hn hv)
  rw [hs] at SA
  clear hl hkt hn hv hs
  unfold strV at *
  go_enter Tryd.func26, Tryd.ntmps26
  go_wp2_with (first
    | (go_at_call 20; (with_reducible refine SA.out.mono ?_); rintro e1 w1 ⟨rfl, hf1⟩)
    | fail)
  go_ret
  exact ⟨rfl, hf1⟩

def ev50 : Ev := ⟨3, 20, [50], []⟩
def ev55 : Ev := ⟨3, 20, [55], []⟩
theorem works8_plain : encL [ev50] = ([3, 1, 20, 50], 0) ∧ encL [] = ([], 4) ∧ sayL [ev50] 1 = ([1, 1, 20, 5], 0) ∧ sayL [ev55] 1 = ([3, 1, 20, 55], 0) ∧ decL [3, 0] = ([], 4) ∧ decL [3, 41] = ([], 40) := by decide +kernel
theorem one_ev (w0 w1 w2 : World) (n : Int) (hn : -9223372036854775808 ≤ n ∧ n ≤ 9223372036854775807) (h1 : Fr No (w0.alloc (.cells #[.int .i64 n] 2)) w1)
    (h2 : Fr No (w1.alloc (.cells #[.int .u8 3, .int .u8 20, .slice (some ⟨w0.heap.size, 0, none⟩) 1 1, .slice none 0 0] 34)) w2) :
    LsAt w2 (some ⟨w1.heap.size, 0, none⟩) [(⟨some ⟨w0.heap.size, 0, none⟩, 1, none, 0⟩, ⟨3, 20, [n], []⟩)] := by
  refine ls_lit _ (h2.heap0 (Go.heap_alloc_new _ _)) rfl (fun p hp => ?_)
  obtain rfl : p = _ := by simpa using hp
  have hs : SlAt w2 (some ⟨w0.heap.size, 0, none⟩) [.int .i64 n] := slat_lit (((h1.trans ((Fr.refl w1).alloc _)).trans h2).heap0 (Go.heap_alloc_new w0 _)) rfl
  exact ⟨(by decide : (3 : Nat) ≤ 255), (by decide : (20 : Nat) ≤ 255), hs, SlAt.nil _ _, (by decide : (1 : Nat) ≤ 9223372036854775807), (by decide : (0 : Nat) ≤ 9223372036854775807), by simp, by simpa using hn⟩

set_option maxHeartbeats 8000000 in
set_option maxRecDepth 100000 in
theorem works8_any (w : World) (hkt : KT w) : Calls Tryd.prog 9 #[] w fun en w' => en = .returned (.bool true) ∧ Fr No w w' := by
  obtain ⟨p1, p2, p3, p4, p5, p6⟩ := works8_plain
  have EV := hid (fun (v k : Int) (q : Option Addr) (n cap : Nat) w1 => event8_any v k _ q n cap rfl w1)
  have LI := hid (fun (q : Option Addr) (n cap : Nat) w1 => list8_any q n cap w1)
  have OE := hid one_ev
  have E1 : Hid (∀ (q : Option Addr) (s : EvP) w1, LsAt w1 q [(s, ev50)] → Fr No w w1 → Calls Tryd.prog 17 #[.slice q 1 1] w1 fun en w' => en = .returned (.tuple #[.string ⟨#[3, 1, 20, 50]⟩, .int .i64 0]) ∧ Fr No w1 w') := hid (fun q s w1 h hf => by
    have := bencode_any [(s, ev50)] q 1 w1 h (hkt.fr hf) (by simp)
    rw [show [(s, ev50)].map Prod.snd = [ev50] from rfl, p1] at this
    exact this)
  have E2 : Hid (∀ w1, Fr No w w1 → Calls Tryd.prog 17 #[.slice none 0 0] w1 fun en w' => en = .returned (.tuple #[.string ⟨#[]⟩, .int .i64 4]) ∧ Fr No w1 w') := hid (fun w1 hf => by
    have := bencode_any [] none 0 w1 (LsAt.nil _ _) (hkt.fr hf) (by decide)
    rw [show ([] : List (EvP × Ev)).map Prod.snd = [] from rfl, p2] at this
    exact this)
  have S1 : Hid (∀ (q : Option Addr) (s : EvP) w1, LsAt w1 q [(s, ev50)] → Fr No w w1 → Calls Tryd.prog 26 #[.slice q 1 1, .int .u8 1, .string ⟨#[1, 1, 20, 5]⟩] w1 fun en w' => en = .returned (.bool true) ∧ Fr No w1 w') := hid (fun q s w1 h hf =>
    says8_any [(s, ev50)] q 1 1 [1, 1, 20, 5] w1 h (hkt.fr hf) (by simp) (by decide) p3)
  have S2 : Hid (∀ (q : Option Addr) (s : EvP) w1, LsAt w1 q [(s, ev55)] → Fr No w w1 → Calls Tryd.prog 26 #[.slice q 1 1, .int .u8 1, .string ⟨#[3, 1, 20, 55]⟩] w1 fun en w' => en = .returned (.bool true) ∧ Fr No w1 w') := hid (fun q s w1 h hf =>
    says8_any [(s, ev55)] q 1 1 [3, 1, 20, 55] w1 h (hkt.fr hf) (by simp) (by decide) p4)
  have R1 : Hid (∀ w1, Fr No w w1 → Calls Tryd.prog 22 #[.string ⟨#[3, 0]⟩, .int .i64 4] w1 fun en w' => en = .returned (.bool true) ∧ Fr No w1 w') := hid (fun w1 hf => refused8_any [3, 0] 4 w1 (hkt.fr hf) (by decide) p5 (by decide))
  have R2 : Hid (∀ w1, Fr No w w1 → Calls Tryd.prog 22 #[.string ⟨#[3, 41]⟩, .int .i64 40] w1 fun en w' => en = .returned (.bool true) ∧ Fr No w1 w') := hid (fun w1 hf => refused8_any [3, 41] 40 w1 (hkt.fr hf) (by decide) p6 (by decide))
  clear hkt p1 p2 p3 p4 p5 p6
  go_enter Tryd.func9, Tryd.ntmps9
  go_upto_region 4 with (first
    | (go_at_call 23; (with_reducible refine (EV.out _ _ _ _ _ _).mono ?_); rintro e1 w1 ⟨rfl, hf1⟩)
    | (go_at_call 24; (with_reducible refine (LI.out _ _ _ _).mono ?_); rintro e2 w2 ⟨rfl, hf2⟩; have hl2 := OE.out w w1 w2 50 (by decide) hf1 hf2; have F2 := (((Fr.refl w).alloc _).trans hf1).trans (((Fr.refl w1).alloc _).trans hf2))
    | (go_at_call 17; (with_reducible refine (E1.out _ _ _ hl2 F2).mono ?_); rintro e3 w3 ⟨rfl, hf3⟩; have F3 := F2.trans hf3)
    | (go_at_call 17; (with_reducible refine (E2.out _ F3).mono ?_); rintro e4 w4 ⟨rfl, hf4⟩; have F4 := F3.trans hf4; have hl4 := hl2.fr (hf3.trans hf4))
    | fail)
  clear hl2 hf1 hf2 hf3 hf4
  go_wp2_with (first
    | (go_at_call 26; (with_reducible refine (S1.out _ _ _ hl4 F4).mono ?_); rintro e5 w5 ⟨rfl, hf5⟩; have F5 := F4.trans hf5)
    | (go_at_call 23; (with_reducible refine (EV.out _ _ _ _ _ _).mono ?_); rintro e6 w6 ⟨rfl, hf6⟩)
    | (go_at_call 24; (with_reducible refine (LI.out _ _ _ _).mono ?_); rintro e7 w7 ⟨rfl, hf7⟩; have hl7 := OE.out w5 w6 w7 55 (by decide) hf6 hf7; have F7 := (F5.trans (((Fr.refl w5).alloc _).trans hf6)).trans (((Fr.refl w6).alloc _).trans hf7))
    | (go_at_call 26; (with_reducible refine (S2.out _ _ _ hl7 F7).mono ?_); rintro e8 w8 ⟨rfl, hf8⟩; have F8 := F7.trans hf8)
    | (go_at_call 22; (with_reducible refine (R1.out _ F8).mono ?_); rintro e9 w9 ⟨rfl, hf9⟩; have F9 := F8.trans hf9)
    | (go_at_call 22; (with_reducible refine (R2.out _ F9).mono ?_); rintro e10 w10 ⟨rfl, hf10⟩; have F10 := F9.trans hf10)
    | fail)
  go_ret
  exact ⟨rfl, F10⟩
end Go.Proofs.YtnmfmedoocnofaaDoor
