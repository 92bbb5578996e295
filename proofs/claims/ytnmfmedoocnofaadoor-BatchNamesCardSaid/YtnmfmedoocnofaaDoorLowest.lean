/-
  Lists of events; the functions that Lowest hands on. No statement of the seat is proved here. upcast's each: a list said in a version. No statement of the seat is proved here. upcast.Lowest: the walk. No statement of the seat is proved here.
-/
import Derived.Test.YtnmfmedoocnofaaDoorNewest
namespace Go.Proofs.YtnmfmedoocnofaaDoor
open Go.RowKit

/-- A slice of events, wherever it lies. -/
def LsAt (w : World) (q : Option Addr) (l : List (EvP × Ev)) : Prop :=
  ∀ i s e, l[i]? = some (s, e) → EvAt w s e ∧ ∃ b o, q = some ⟨b, o, none⟩ ∧ w.cell? ⟨b, o + i * 4, none⟩ = some (.int .u8 e.v) ∧ w.cell? ⟨b, o + i * 4 + 1, none⟩ = some (.int .u8 e.kind) ∧
    w.cell? ⟨b, o + i * 4 + 2, none⟩ = some (.slice s.qn e.nums.length s.cn) ∧ w.cell? ⟨b, o + i * 4 + 3, none⟩ = some (.slice s.qt e.texts.length s.ct)
theorem LsAt.fr {w w' : World} {q : Option Addr} {l : List (EvP × Ev)} (h : LsAt w q l) (hf : Fr No w w') : LsAt w' q l := fun i s e hi => by
  obtain ⟨h0, b, o, hq, h1, h2, h3, h4⟩ := h i s e hi
  exact ⟨h0.fr hf, b, o, hq, hf.cell0 h1, hf.cell0 h2, hf.cell0 h3, hf.cell0 h4⟩
def evC (p : EvP × Ev) : List Value := [.int .u8 p.2.v, .int .u8 p.2.kind, .slice p.1.qn p.2.nums.length p.1.cn, .slice p.1.qt p.2.texts.length p.1.ct]
/-- The blocks that an event's rows lie in. -/
def inB (p : EvP × Ev) (k : Nat) : Prop := (p.2.nums ≠ [] ∧ ∃ o, p.1.qn = some ⟨k, o, none⟩) ∨ (p.2.texts ≠ [] ∧ ∃ o, p.1.qt = some ⟨k, o, none⟩)
theorem Rs.inBlock {B : Nat} {w : World} {t : TypeId} {q : Option Addr} {n cap k o : Nat} {xs : List Value} (h : Rs B w t (.slice q n cap) xs) (hne : xs ≠ []) (hq : q = some ⟨k, o, none⟩) : B ≤ k ∧ k < w.heap.size := by
  have hl : 0 < xs.length := List.length_pos_iff.2 hne
  obtain ⟨b, cur, h1, h2, h3, _⟩ := h.cell_at hl
  rw [hq] at h1
  obtain rfl : k = b := by simp at h1; exact h1.1
  exact ⟨h2, lt_of_block h3⟩
theorem EvNew.inB {B : Nat} {w : World} {p : EvP × Ev} (h : EvNew B w p.1 p.2) {k : Nat} (hk : inB p k) : B ≤ k ∧ k < w.heap.size := by
  rcases hk with ⟨h1, o, h2⟩ | ⟨h1, o, h2⟩
  · exact h.nums.inBlock (by simpa using h1) h2
  · exact h.texts.inBlock (by simpa using h1) h2
/-- A row of events that a call made. -/
structure LsRow (B : Nat) (w : World) (v : Value) (l : List (EvP × Ev)) : Prop where
  own : Own w 34 4 v l.length (l.flatMap evC)
  new : ∀ k, v.ownBlock = some k → B ≤ k
  evs : ∀ p, p ∈ l → EvNew B w p.1 p.2
  lt : ∀ p, p ∈ l → ∀ k, inB p k → k < w.heap.size
  ap : ∀ (i j : Nat) (p p' : EvP × Ev), i < j → l[i]? = some p → l[j]? = some p' → ∀ k, inB p k → ¬ inB p' k
theorem LsRow.nil (B : Nat) (w : World) : LsRow B w (.slice none 0 0) [] := ⟨Own.nil _ _ _, fun _ h => (by cases h), fun _ h => (by cases h), fun _ h => (by cases h), fun i j p p' _ h => (by simp at h)⟩
theorem LsRow.fr {B : Nat} {w w' : World} {v : Value} {l : List (EvP × Ev)} (h : LsRow B w v l) (hf : Fr No w w') : LsRow B w' v l := ⟨h.own.fr hf (fun _ _ => id), h.new, fun p hp => (h.evs p hp).fr hf, fun p hp k hk => Nat.lt_of_lt_of_le (h.lt p hp k hk) hf.size, h.ap⟩
theorem LsRow.mono {B B' : Nat} {w : World} {v : Value} {l : List (EvP × Ev)} (h : LsRow B w v l) (hB : B' ≤ B) : LsRow B' w v l := ⟨h.own, fun k hk => Nat.le_trans hB (h.new k hk), fun p hp => (h.evs p hp).mono hB, h.lt, h.ap⟩
theorem LsRow.shape {B : Nat} {w : World} {v : Value} {l : List (EvP × Ev)} (h : LsRow B w v l) : ∃ q cap, v = .slice q l.length cap := h.own.shape
theorem LsRow.cells {B : Nat} {w : World} {q : Option Addr} {n cap : Nat} {l : List (EvP × Ev)} (h : LsRow B w (.slice q n cap) l) {i : Nat} {s : EvP} {e : Ev} (hr : l[i]? = some (s, e)) :
    ∃ b, q = some ⟨b, 0, none⟩ ∧ w.cell? ⟨b, 0 + i * 4, none⟩ = some (.int .u8 e.v) ∧ w.cell? ⟨b, 0 + i * 4 + 1, none⟩ = some (.int .u8 e.kind) ∧
    w.cell? ⟨b, 0 + i * 4 + 2, none⟩ = some (.slice s.qn e.nums.length s.cn) ∧ w.cell? ⟨b, 0 + i * 4 + 3, none⟩ = some (.slice s.qt e.texts.length s.ct) := by
  have hi := (List.getElem?_eq_some_iff.1 hr).1
  rcases h.own.2 with ⟨h1, h2⟩ | ⟨g, cap', cur, h1, _, hg, h3, h4, h5, h6⟩
  · omega
  · have hq : q = some ⟨g, 0, none⟩ := by injection h1
    have hc := h.own.cells (g := g) (by rw [hq]; rfl)
    have key : ∀ (l : List (EvP × Ev)) (i : Nat) (r : EvP × Ev), l[i]? = some r → ∀ j, j < 4 → (l.flatMap evC)[i * 4 + j]? = (evC r)[j]? := by
      intro l
      induction l with
      | nil => intro i r h; simp at h
      | cons x l ih =>
        intro i r h j hj
        have hx : (evC x).length = 4 := rfl
        rcases i with _ | i
        · simp only [List.getElem?_cons_zero, Option.some.injEq] at h
          subst h
          rw [List.flatMap_cons, List.getElem?_append_left (by omega)]
          simp
        · rw [List.flatMap_cons, List.getElem?_append_right (by omega), hx, show (i + 1) * 4 + j - 4 = i * 4 + j by omega]
          exact ih i r (by simpa using h) j hj
    have g0 := hc (i * 4 + 0) (.int .u8 e.v) (by rw [key l i _ hr 0 (by decide)]; rfl)
    have g1 := hc (i * 4 + 1) (.int .u8 e.kind) (by rw [key l i _ hr 1 (by decide)]; rfl)
    have g2 := hc (i * 4 + 2) (.slice s.qn e.nums.length s.cn) (by rw [key l i _ hr 2 (by decide)]; rfl)
    have g3 := hc (i * 4 + 3) (.slice s.qt e.texts.length s.ct) (by rw [key l i _ hr 3 (by decide)]; rfl)
    rw [Go.WideShapes.add_plain] at g0 g1 g2 g3
    exact ⟨g, hq, g0, g1, g2, g3⟩
/-- A row of events, each of which may be. -/
theorem LsRow.at_ {B : Nat} {w : World} {q : Option Addr} {n cap : Nat} {l : List (EvP × Ev)} (h : LsRow B w (.slice q n cap) l) (hm : ∀ p, p ∈ l → mayS p.2 = true ∧ p.2.kind ≤ 255) : LsAt w q l := fun i s e hi => by
  obtain ⟨b, hq, h1, h2, h3, h4⟩ := h.cells hi
  have hmem := List.mem_of_getElem? hi
  exact ⟨(h.evs _ hmem).may (hm _ hmem).1 (hm _ hmem).2, b, 0, hq, h1, h2, h3, h4⟩
theorem infoEv : (Tryd.prog.info? 34).map (fun i => (i.zero, i.size, i.bytes)) = some (some (.agg #[.int .u8 0, .int .u8 0, .slice none 0 0, .slice none 0 0]), 4, 56) := by kernel_rfl
theorem EvNew.onlyS {B : Nat} {w w' : World} {s : EvP} {e : Ev} {v : Value} {n : Nat} {xs : List Value} (h : EvNew B w s e) (ho : Own w 34 4 v n xs) (hf : Fr (OnlyS v.ownBlock) w w') : EvNew B w' s e := by
  rcases ho.2 with ⟨rfl, _⟩ | ⟨g, cap, cur, rfl, _, hg, _⟩
  · exact h.fr (hf.mono (fun k _ hx => by cases hx))
  · exact h.only hg (hf.mono (fun k _ hx => by
      have hx : some g = some k := hx
      exact (Option.some.inj hx).symm))
theorem LsRow.more {wr w4 w5 : World} {B B2 : Nat} {o o' : Value} {l : List (EvP × Ev)} {p : EvP × Ev} (h : LsRow B wr o l) (hB : B ≤ w4.heap.size) (hf : ∀ x, x ∈ l ++ [p] → EvNew B w5 x.1 x.2)
    (ho : Own w5 34 4 o' (l.length + 1) (l.flatMap evC ++ evC p)) (hn : o'.ownBlock = o.ownBlock ∨ o'.ownBlock = some w4.heap.size) (hp : EvNew B2 w5 p.1 p.2) (hB2 : wr.heap.size ≤ B2) : LsRow B w5 o' (l ++ [p]) := by
  refine ⟨?_, fun k hk => ?_, hf, fun x hx k hk => ((hf x hx).inB hk).2, fun i j x y hij hi hj k hk hk' => ?_⟩
  · rw [List.length_append, List.flatMap_append]
    simpa using ho
  · rcases hn with hn | hn
    · exact h.new k (hn ▸ hk)
    · rw [hn] at hk
      have : w4.heap.size = k := by simpa using hk
      omega
  · have hjl := (List.getElem?_eq_some_iff.1 hj).1
    rw [List.length_append, List.length_singleton] at hjl
    rw [List.getElem?_append_left (by omega)] at hi
    by_cases hjj : j < l.length
    · rw [List.getElem?_append_left hjj] at hj
      exact h.ap i j x y hij hi hj k hk hk'
    · have hj0 : j = l.length := by omega
      subst hj0
      simp at hj
      subst hj
      have h1 := h.lt x (List.mem_of_getElem? hi) k hk
      have h2 := (hp.inB hk').1
      omega

set_option maxHeartbeats 1000000 in
theorem low1_any (s : EvP) (e : Ev) (w : World) (he : EvAt w s e) (hkt : KT w) : Calls Tryd.prog 76 #[evV s e] w fun en w' => en = .returned (.bool (!mayS e)) ∧ Fr No w w' := by
  have ME := hid (fun w1 (h : Fr No w w1) => may_any s e w1 (he.fr h) (hkt.fr h))
  have HF0 : Fr No w (w.alloc (.cells #[.int .u8 e.v, .int .u8 e.kind, .slice s.qn e.nums.length s.cn, .slice s.qt e.texts.length s.ct] 34)) := (Fr.refl w).alloc _
  generalize mayS e = m at ME ⊢
  clear he hkt
  unfold evV at *
  go_enter Tryd.func76, Tryd.ntmps76
  go_wp2_with (first
    | (go_at_call 44; (with_reducible refine (ME.out _ HF0).mono ?_); rintro e1 w1 ⟨rfl, hf1⟩))
  go_ret
  exact ⟨rfl, HF0.trans hf1⟩

set_option maxHeartbeats 4000000 in
set_option maxRecDepth 100000 in
theorem low2_any (s : EvP) (e : Ev) (bv v : Nat) (w : World) (he : EvAt w s e) (hkt : KT w) (hc : w.cell? ⟨bv, 0, none⟩ = some (.int .u8 v)) :
    Calls Tryd.prog 78 #[evV s e, .pointer (some ⟨bv, 0, none⟩)] w (UpPost w (toR e v)) := by
  have TE := hid (fun w1 (h : Fr No w w1) => to_any s e v w1 (he.fr h) (hkt.fr h))
  generalize toR e v = R at TE ⊢
  unfold UpPost at *
  have HF0 : Fr No w ((w.alloc (.cells #[.int .u8 e.v, .int .u8 e.kind, .slice s.qn e.nums.length s.cn, .slice s.qt e.texts.length s.ct] 34)).alloc (.cells #[.int .u8 0, .int .u8 0, .slice none 0 0, .slice none 0 0] 34)) := ((Fr.refl w).alloc _).alloc _
  have g1 := Go.heap_alloc_new (w.alloc (.cells #[.int .u8 e.v, .int .u8 e.kind, .slice s.qn e.nums.length s.cn, .slice s.qt e.texts.length s.ct] 34)) (.cells #[.int .u8 0, .int .u8 0, .slice none 0 0, .slice none 0 0] 34)
  simp only [World.size_alloc] at g1
  have HG := hid g1
  have bl : bv < w.heap.size := World.block_lt_of_cell? w _ hc
  clear g1 he hkt
  unfold evV at *
  go_enter Tryd.func78, Tryd.ntmps78
  go_wp2_with (first
    | (go_at_call 21; (with_reducible refine (TE.out _ HF0).mono ?_); rintro e1 w1 ⟨s1, rfl, hn1, hf1⟩; obtain ⟨k0, k1, k2, k3, z0, z1, z2, z3⟩ := Go.Proofs.YtnmfmedoocnofaaDoor.cells4 (hf1.heap0 HG.out)))
  have hst := BoxAt.fill (w1 := w1) (b := w.heap.size + 1) (B := w.heap.size) (s := s1) (e := R.1) (hf1.heap0 HG.out) (Nat.le_succ _) (hn1.mono HF0.size)
  refine bodyPost_ret (results_row_tmp rfl _ _ (w.heap.size + 1) 34 _ (0, 0) _ (.int .i64 R.2) rfl hst.1.cells rfl Tryd.underlying34 rfl (by kernel_rfl)) rfl ⟨s1, rfl, hst.1.new, (HF0.trans hf1).newOnly (Nat.le_succ _) hst.2⟩

def anyBad (l : List (EvP × Ev)) : Bool := l.any fun p => !mayS p.2
def IdxPost (w : World) (l : List (EvP × Ev)) (en : Ending) (w' : World) : Prop := ∃ r : Int, en = .returned (.int .i64 r) ∧ decide (0 ≤ r) = anyBad l ∧ Fr No w w'
set_option maxHeartbeats 4000000 in
set_option maxRecDepth 100000 in
theorem index_any (l : List (EvP × Ev)) (q : Option Addr) (cap : Nat) (w : World) (hl : LsAt w q l) (hkt : KT w) (hn : l.length ≤ 1000000) :
    Calls Tryd.prog 75 #[.slice q l.length cap, .func (.func 76) #[] #[]] w (IdxPost w l) := by
  have LA := hid (fun w1 (h : Fr No w w1) => hl.fr h)
  have L1 := hid (fun s e w1 (h : EvAt w1 s e) (hf : Fr No w w1) => low1_any s e w1 h (hkt.fr hf))
  unfold IdxPost
  clear hl hkt
  go_enter Tryd.func75, Tryd.ntmps75
  go_wp2_with fail
  go_loopg [8] l.length (fun k i wr => ∃ m : Nat, m ≤ l.length ∧ l.length ≤ m + k ∧ i = .int .i64 m ∧ Hid (anyBad (l.take m) = false) ∧ Fr No w wr)
  case atStart => exact ⟨0, Nat.zero_le _, by omega, rfl, hid rfl, Fr.refl _⟩
  case round =>
    obtain ⟨m, hm, hk, rfl, HB, hf⟩ := hrel
    by_cases hlt : m < l.length
    · obtain ⟨p, hp⟩ : ∃ p, l[m]? = some p := ⟨_, List.getElem?_eq_getElem hlt⟩
      obtain ⟨s, e⟩ := p
      obtain ⟨hE, b, o, hq, c0, c1, c2, c3⟩ := LA.out _ hf m s e hp
      subst hq
      have i1 : (m : Int) < (l.length : Int) := by omega
      have i2 : (0 : Int) ≤ (m : Int) := by omega
      have i4 : (m : Int) + 1 ≤ 1000001 := by omega
      have ht : l.take (m + 1) = l.take m ++ [(s, e)] := by rw [List.take_succ_eq_append_getElem hlt, (List.getElem?_eq_some_iff.1 hp).2]
      have L1e := hid (L1.out s e wr hE hf)
      have HE := hid (And.intro hp ht)
      clear hp ht hE
      rcases hme : mayS e with _ | _
      · rw [hme] at L1e
        have HBAD : Hid (anyBad l = true) := hid (List.any_eq_true.2 ⟨(s, e), List.mem_of_getElem? HE.out.1, by simp [hme]⟩)
        clear hme
        unfold evV at L1e
        go_wp2_with (first | (go_at_call 76; (with_reducible refine L1e.out.mono ?_); rintro e1 w1 ⟨rfl, hf1⟩))
        go_ret
        exact ⟨m, rfl, by rw [HBAD.out]; simp, hf.trans hf1⟩
      · rw [hme] at L1e
        have HOK : Hid (anyBad (l.take (m + 1)) = false) := hid (by rw [HE.out.2]; unfold anyBad at HB ⊢; rw [List.any_append, HB.out]; simp [hme])
        clear hme
        unfold evV at L1e
        go_wp2_with (first | (go_at_call 76; (with_reducible refine L1e.out.mono ?_); rintro e1 w1 ⟨rfl, hf1⟩))
        go_roundg (gk - 1)
        case measure => omega
        case rel => exact ⟨m + 1, by omega, by omega, by go_num, HOK, hf.trans hf1⟩
    · obtain rfl : m = l.length := by omega
      rw [List.take_length] at HB
      go_wp2_with fail
      go_ret
      exact ⟨-1, rfl, by rw [HB.out]; rfl, hf⟩
set_option maxHeartbeats 1000000 in
theorem contains_any (l : List (EvP × Ev)) (q : Option Addr) (cap : Nat) (w : World) (hl : LsAt w q l) (hkt : KT w) (hn : l.length ≤ 1000000) :
    Calls Tryd.prog 45 #[.slice q l.length cap, .func (.func 76) #[] #[]] w fun en w' => en = .returned (.bool (anyBad l)) ∧ Fr No w w' := by
  have IX := hid (index_any l q cap w hl hkt hn)
  unfold IdxPost at IX
  generalize anyBad l = A at IX ⊢
  clear hl hkt hn
  go_enter Tryd.func45, Tryd.ntmps45
  go_wp2_with (first | (go_at_call 75; (with_reducible refine IX.out.mono ?_); rintro e1 w1 ⟨r, rfl, hr, hf1⟩; have HR := hid hr; clear hr))
  go_ret
  exact ⟨congrArg (fun z => Ending.returned (.bool z)) HR.out, hf1⟩

def allOK (l : List (EvP × Ev)) (v : Nat) : Bool := l.all fun p => decide ((toR p.2 v).2 = 0)
def EachPost (w : World) (l : List (EvP × Ev)) (v : Nat) (en : Ending) (w' : World) : Prop :=
  (allOK l v = true ∧ ∃ (L : List (EvP × Ev)) (q : Option Addr) (cap : Nat), en = .returned (.tuple #[.slice q L.length cap, .int .i64 0]) ∧ L.map Prod.snd = l.map (fun p => (toR p.2 v).1) ∧ LsRow w.heap.size w' (.slice q L.length cap) L ∧ Fr No w w') ∨
  (allOK l v = false ∧ ∃ f : Int, f ≠ 0 ∧ en = .returned (.tuple #[.slice none 0 0, .int .i64 f]) ∧ Fr No w w')
set_option maxHeartbeats 8000000 in
set_option maxRecDepth 100000 in
theorem each_any (l : List (EvP × Ev)) (q : Option Addr) (cap bv v : Nat) (w : World) (hl : LsAt w q l) (hkt : KT w) (hn : l.length ≤ 1000000) (hc : w.cell? ⟨bv, 0, none⟩ = some (.int .u8 v)) :
    Calls Tryd.prog 77 #[.slice q l.length cap, .func (.func 78) #[] #[.pointer (some ⟨bv, 0, none⟩)]] w (EachPost w l v) := by
  have LA := hid (fun w1 (h : Fr No w w1) => hl.fr h)
  have L2 := hid (fun s e w1 (h : EvAt w1 s e) (hf : Fr No w w1) => low2_any s e bv v w1 h (hkt.fr hf) (hf.cell0 hc))
  clear hl hkt hc
  go_enter Tryd.func77, Tryd.ntmps77
  go_wp2_with fail
  go_loopg [6, 13] l.length (fun k ov i wr => ∃ (m : Nat) (L : List (EvP × Ev)), m ≤ l.length ∧ l.length ≤ m + k ∧ i = .int .i64 m ∧ Hid (L.length = m ∧ allOK (l.take m) v = true ∧ L.map Prod.snd = (l.take m).map (fun p => (toR p.2 v).1)) ∧ LsRow w.heap.size wr ov L ∧ Fr No w wr)
  case atStart => exact ⟨0, [], Nat.zero_le _, by omega, rfl, hid ⟨rfl, rfl, rfl⟩, LsRow.nil _ _, Fr.refl _⟩
  case round =>
    rename Value => ov
    obtain ⟨m, L, hm, hk, rfl, HL, hrow, hf⟩ := hrel
    by_cases hlt : m < l.length
    · obtain ⟨p, hp⟩ : ∃ p, l[m]? = some p := ⟨_, List.getElem?_eq_getElem hlt⟩
      obtain ⟨s, e⟩ := p
      obtain ⟨hE, b, o, hq, c0, c1, c2, c3⟩ := LA.out _ hf m s e hp
      subst hq
      have i1 : (m : Int) < (l.length : Int) := by omega
      have i2 : (0 : Int) ≤ (m : Int) := by omega
      have i4 : (m : Int) + 1 ≤ 1000001 := by omega
      have ht : l.take (m + 1) = l.take m ++ [(s, e)] := by rw [List.take_succ_eq_append_getElem hlt, (List.getElem?_eq_some_iff.1 hp).2]
      have HE := hid (And.intro hp ht)
      have LE := hid (fun w1 (h : Fr No wr w1) => L2.out s e w1 (hE.fr h) (hf.trans h))
      unfold UpPost at LE
      generalize hR : toR e v = R at LE
      have HR := hid hR
      have HF1 : Fr No wr (wr.alloc (.cells #[.int .u8 e.v, .int .u8 e.kind, .slice s.qn e.nums.length s.cn, .slice s.qt e.texts.length s.ct] 34)) := (Fr.refl _).alloc _
      have HROW := hid hrow
      clear hp ht hE hR hrow
      unfold evV at LE
      by_cases hz : R.2 = 0
      · have z1 : (R.2 == 0) = true := by rw [hz]; rfl
        have z2 : (R.2 != 0) = false := by rw [hz]; rfl
        obtain ⟨i0, hi, hz0, hz1, hz2⟩ := info_parts infoEv
        have hLl := HL.out.1
        have HZ := hid hz
        have HLL := hid hLl
        clear hz hLl
        go_wp2_with (first
          | (go_at_call 78; (with_reducible refine (LE.out _ HF1).mono ?_); rintro e5 w5 ⟨s5, rfl, hn5, hf5⟩; have hown := (HROW.out.fr (((HF1.trans hf5).alloc (.cells #[.int .u8 R.1.v, .int .u8 R.1.kind, .slice s5.qn R.1.nums.length s5.cn, .slice s5.qt R.1.texts.length s5.ct] 34)).alloc (.cells #[.int .u8 R.1.v, .int .u8 R.1.kind, .slice s5.qn R.1.nums.length s5.cn, .slice s5.qt R.1.texts.length s5.ct] 34))).own)
          | (at_builtin; refine wpList_append_fr _ rfl _ _ 26 rfl 34 i0 (.agg #[.int .u8 0, .int .u8 0, .slice none 0 0, .slice none 0 0]) 4 56 Tryd.underlying26 hi hz0 hz1 hz2 rfl (by decide) _ _ _ rfl hown ⟨w5.heap.size + 1, 0, none⟩ 1 1 (evC (s5, R.1)) rfl rfl ?c1 ?c2 ?c3 ?c4 ?_))
        case c1 => intro j u hu; have h := cells_new (w5.alloc (.cells #[.int .u8 R.1.v, .int .u8 R.1.kind, .slice s5.qn R.1.nums.length s5.cn, .slice s5.qt R.1.texts.length s5.ct] 34)) (evC (s5, R.1)) 34 j u hu; simp only [World.size_alloc] at h; exact h
        case c2 => intro u hu; simp [evC] at hu; rcases hu with rfl | rfl | rfl | rfl <;> rfl
        case c3 => have := HLL.out; unfold maxLen; omega
        case c4 => have := HLL.out; omega
        intro v' w6 ho hf6 hn6
        have hA : Fr No w5 ((w5.alloc (.cells #[.int .u8 R.1.v, .int .u8 R.1.kind, .slice s5.qn R.1.nums.length s5.cn, .slice s5.qt R.1.texts.length s5.ct] 34)).alloc (.cells #[.int .u8 R.1.v, .int .u8 R.1.kind, .slice s5.qn R.1.nums.length s5.cn, .slice s5.qt R.1.texts.length s5.ct] 34)) := ((Fr.refl w5).alloc _).alloc _
        have hfW := (HF1.trans hf5).trans hA
        have hnew := (hn5.fr hA).onlyS hown hf6
        have hle1 : wr.heap.size ≤ (wr.alloc (.cells #[.int .u8 e.v, .int .u8 e.kind, .slice s.qn e.nums.length s.cn, .slice s.qt e.texts.length s.ct] 34)).heap.size := HF1.size
        have hall : ∀ x, x ∈ L ++ [(s5, R.1)] → EvNew w.heap.size w6 x.1 x.2 := fun x hx => by
          rcases List.mem_append.1 hx with hx | hx
          · exact ((HROW.out.evs x hx).fr hfW).onlyS hown hf6
          · obtain rfl : x = (s5, R.1) := by simpa using hx
            exact hnew.mono (Nat.le_trans hf.size hle1)
        have hrow := HROW.out.more (w4 := (w5.alloc (.cells #[.int .u8 R.1.v, .int .u8 R.1.kind, .slice s5.qn R.1.nums.length s5.cn, .slice s5.qt R.1.texts.length s5.ct] 34)).alloc (.cells #[.int .u8 R.1.v, .int .u8 R.1.kind, .slice s5.qn R.1.nums.length s5.cn, .slice s5.qt R.1.texts.length s5.ct] 34)) (p := (s5, R.1)) (Nat.le_trans hf.size hfW.size) hall ho (by simpa using hn6) hnew hle1
        have HNR := hid hrow
        have HFE := hid ((hf.trans hfW).newOnlyS (fun g hg => HROW.out.new g hg) hf6)
        have HOK : Hid ((L ++ [(s5, R.1)]).length = m + 1 ∧ allOK (l.take (m + 1)) v = true ∧ (L ++ [(s5, R.1)]).map Prod.snd = (l.take (m + 1)).map (fun p => (toR p.2 v).1)) := hid (by
          obtain ⟨h1, h2, h3⟩ := HL.out
          rw [HE.out.2]
          refine ⟨by simp [h1], ?_, by simp [h3, HR.out]⟩
          unfold allOK at h2 ⊢
          rw [List.all_append, h2]
          simp [HR.out, HZ.out])
        clear ho hf6 hn6 hown hA hfW hnew hall hrow
        go_wp2_with fail
        go_roundg (gk - 1)
        case measure => omega
        case rel => exact ⟨m + 1, _, by omega, by omega, by go_num, HOK, HNR.out, HFE.out⟩
      · have z1 : (R.2 == 0) = false := by rw [beq_eq_false_iff_ne]; exact hz
        have z2 : (R.2 != 0) = true := by rw [bne, z1]; rfl
        have HBAD : Hid (allOK l v = false ∧ R.2 ≠ 0) := hid ⟨by
          unfold allOK
          rw [List.all_eq_false]
          exact ⟨(s, e), List.mem_of_getElem? HE.out.1, by simp [HR.out, hz]⟩, hz⟩
        clear hz
        go_wp2_with (first
          | (go_at_call 78; (with_reducible refine (LE.out _ HF1).mono ?_); rintro e5 w5 ⟨s5, rfl, hn5, hf5⟩))
        go_ret2
        exact .inr ⟨HBAD.out.1, R.2, HBAD.out.2, rfl, (hf.trans (HF1.trans hf5)).alloc _⟩
    · obtain rfl : m = l.length := by omega
      rw [List.take_length] at HL
      obtain ⟨qo, co, rfl⟩ := hrow.shape
      have HROW := hid hrow
      clear hrow
      go_wp2_with fail
      go_ret2
      exact .inl ⟨HL.out.2.1, L, qo, co, rfl, HL.out.2.2, HROW.out, hf⟩

/-- The least version, from v on, in which a list can be said. -/
def lowO (l : List (EvP × Ev)) (v : Nat) : Option Nat := if v < 1 then none else (List.range' v (4 - v)).find? (allOK l)
theorem lowO_zero (l : List (EvP × Ev)) : lowO l 0 = none := rfl
theorem lowO_big {l : List (EvP × Ev)} {v : Nat} (h : 3 < v) : lowO l v = none := by
  unfold lowO
  rw [if_neg (by omega), show 4 - v = 0 by omega]
  rfl
theorem lowO_step {l : List (EvP × Ev)} {v : Nat} (h1 : 1 ≤ v) (h3 : v ≤ 3) : lowO l v = if allOK l v then some v else lowO l (v + 1) := by
  unfold lowO
  obtain ⟨n, hn⟩ : ∃ n, 4 - v = n + 1 := ⟨3 - v, by omega⟩
  rw [if_neg (show ¬ v < 1 by omega), if_neg (show ¬ v + 1 < 1 by omega), hn, List.range'_succ, List.find?_cons, show 4 - (v + 1) = n by omega]
  cases allOK l v <;> rfl
def LowPost (w : World) (l : List (EvP × Ev)) (v : Nat) (en : Ending) (w' : World) : Prop :=
  Fr No w w' ∧ ((anyBad l = true ∧ en = .returned (.tuple #[.int .u8 0, .slice none 0 0, .int .i64 4])) ∨
  (anyBad l = false ∧ lowO l v = none ∧ en = .returned (.tuple #[.int .u8 0, .slice none 0 0, .int .i64 43])) ∨
  (anyBad l = false ∧ ∃ (u : Nat) (L : List (EvP × Ev)) (q : Option Addr) (cap : Nat), lowO l v = some u ∧ en = .returned (.tuple #[.int .u8 u, .slice q L.length cap, .int .i64 0]) ∧
    L.map Prod.snd = l.map (fun p => (toR p.2 u).1) ∧ LsRow w.heap.size w' (.slice q L.length cap) L))
theorem cell1 {w : World} {b : Nat} {v : Value} {t : TypeId} (h : w.heap[b]? = some (.cells #[v] t (0, 0))) : w.cell? ⟨b, 0, none⟩ = some v ∧ w.frozen? ⟨b, 0, none⟩ = false := by
  refine ⟨?_, ?_⟩ <;> simp [World.cell?, World.frozen?, h]

set_option maxHeartbeats 8000000 in
set_option maxRecDepth 100000 in
theorem lowest_any (l : List (EvP × Ev)) (q : Option Addr) (cap v : Nat) (w : World) (hl : LsAt w q l) (hkt : KT w) (hn : l.length ≤ 1000000) (hv : v ≤ 255) :
    Calls Tryd.prog 46 #[.slice q l.length cap, .int .u8 v] w (LowPost w l v) := by
  have hmf : ∀ (fn : Fn) (first cp : Array Value) (w : World), (Instr.makeFunc fn first cp).run Tryd.prog w = .ok (.func fn first cp) w := fun _ _ _ _ => rfl
  have CA := hid (fun w1 (h : Fr No w w1) => contains_any l q cap w1 (hl.fr h) (hkt.fr h) hn)
  have EA := hid (fun u w1 (h : Fr No w w1) (hc : w1.cell? ⟨w.heap.size, 0, none⟩ = some (.int .u8 (u : Nat))) => each_any l q cap w.heap.size u w1 (hl.fr h) (hkt.fr h) hn hc)
  have g0 := Go.heap_alloc_new w (.cells #[.int .u8 v] 5)
  have HF0 : Fr No w (w.alloc (.cells #[.int .u8 v] 5)) := (Fr.refl w).alloc _
  have HG := hid g0
  clear g0 hl hkt
  rcases hbad : anyBad l with _ | _
  · rw [hbad] at CA
    have HBAD := hid hbad
    clear hbad
    go_enter Tryd.func46, Tryd.ntmps46
    go_wp2_with (first | (go_at_call 45; (with_reducible refine (CA.out _ HF0).mono ?_); rintro e1 w1 ⟨rfl, hf1⟩))
    clear CA
    go_loopg [] 4 (fun k wr => ∃ u : Nat, Hid (lowO l u = lowO l v) ∧ u ≤ 255 ∧ (1 ≤ u → u ≤ 3 → 4 ≤ u + k) ∧ wr.heap[w.heap.size]? = some (.cells #[.int .u8 u] 5 (0, 0)) ∧ Fr No w wr)
    case atStart => exact ⟨v, hid rfl, hv, by omega, hf1.heap0 HG.out, HF0.trans hf1⟩
    case round =>
      obtain ⟨u, HU, hu, hk, hg, hf⟩ := hrel
      obtain ⟨k0, f0⟩ := cell1 hg
      have HGu := hid hg
      clear hg
      by_cases h1 : u < 1
      · have d1 : decide ((1 : Int) ≤ (u : Int)) = false := by simp; omega
        have HN : Hid (lowO l v = none) := hid (by rw [← HU.out, show u = 0 by omega]; rfl)
        clear h1 hk
        go_wp2_with fail
        go_ret3
        exact ⟨hf, .inr (.inl ⟨HBAD.out, HN.out, rfl⟩)⟩
      · by_cases h3 : 3 < u
        · have d1 : decide ((1 : Int) ≤ (u : Int)) = true := by simp; omega
          have d2 : decide ((u : Int) ≤ 3) = false := by simp; omega
          have HN : Hid (lowO l v = none) := hid (by rw [← HU.out]; exact lowO_big h3)
          clear h1 hk
          go_wp2_with fail
          go_ret3
          exact ⟨hf, .inr (.inl ⟨HBAD.out, HN.out, rfl⟩)⟩
        · have d1 : decide ((1 : Int) ≤ (u : Int)) = true := by simp; omega
          have d2 : decide ((u : Int) ≤ 3) = true := by simp; omega
          have EU := hid (EA.out u wr hf k0)
          have hu1 : 1 ≤ u := by omega
          have hu3 : u ≤ 3 := by omega
          have hk4 := hk hu1 hu3
          clear hk
          have hst := lowO_step (l := l) (v := u) (by omega) (by omega)
          rw [HU.out] at hst
          have HST := hid hst
          clear hst
          rcases hok : allOK l u with _ | _
          · have EF : Hid (Calls Tryd.prog 77 #[.slice q l.length cap, .func (.func 78) #[] #[.pointer (some ⟨w.heap.size, 0, none⟩)]] wr (fun en w' => ∃ f : Int, f ≠ 0 ∧ en = .returned (.tuple #[.slice none 0 0, .int .i64 f]) ∧ Fr No wr w')) := hid (EU.out.mono (fun en w' h => by
              rcases h with ⟨h, _⟩ | ⟨_, f, h1, h2, h3⟩
              · rw [hok] at h; cases h
              · exact ⟨f, h1, h2, h3⟩))
            rw [hok] at HST
            have HST2 : Hid (lowO l (u + 1) = lowO l v) := hid (by have := HST.out; simpa using this.symm)
            have i1 : (u : Int) + 1 ≤ 255 := by omega
            have i2 : (0 : Int) ≤ (u : Int) + 1 := by omega
            clear hok EU h1 h3
            go_wp2_with (first | (go_at_call 77; (with_reducible refine EF.out.mono ?_); rintro e2 w2 ⟨f, hf0, rfl, hfE⟩; have z1 : (f == 0) = false := (by rw [beq_eq_false_iff_ne]; exact hf0); clear k0 f0 hf0; obtain ⟨k0, f0⟩ := cell1 (hfE.heap0 HGu.out)))
            have hgn := heap_setCell_at (i := 0) (.int .u8 ((u + 1 : Nat) : Int)) (hfE.heap0 HGu.out)
            have HGN := hid hgn
            have hlt : 0 < gk := by omega
            clear hgn
            go_roundg (gk - 1)
            case measure => omega
            case rel => exact ⟨u + 1, HST2, by omega, by omega, by simpa using HGN.out, (hf.trans hfE).newOnly (Nat.le_refl _) ((Fr.refl _).set_only _ _)⟩
          · have EF : Hid (Calls Tryd.prog 77 #[.slice q l.length cap, .func (.func 78) #[] #[.pointer (some ⟨w.heap.size, 0, none⟩)]] wr (fun en w' => ∃ (L : List (EvP × Ev)) (q : Option Addr) (cap : Nat), en = .returned (.tuple #[.slice q L.length cap, .int .i64 0]) ∧ L.map Prod.snd = l.map (fun p => (toR p.2 u).1) ∧ LsRow wr.heap.size w' (.slice q L.length cap) L ∧ Fr No wr w')) := hid (EU.out.mono (fun en w' h => by
              rcases h with ⟨_, L, q', cap', h1, h2, h3, h4⟩ | ⟨h, _⟩
              · exact ⟨L, q', cap', h1, h2, h3, h4⟩
              · rw [hok] at h; cases h))
            rw [hok, if_pos rfl] at HST
            clear hok EU h1 h3
            go_wp2_with (first | (go_at_call 77; (with_reducible refine EF.out.mono ?_); rintro e2 w2 ⟨L, q2, c2, rfl, hL, hrow, hfE⟩; have HL := hid hL; have HROW := hid hrow; clear k0 f0 hL hrow; obtain ⟨k0, f0⟩ := cell1 (hfE.heap0 HGu.out)))
            go_ret3
            exact ⟨hf.trans hfE, .inr (.inr ⟨HBAD.out, u, L, q2, c2, HST.out, rfl, HL.out, HROW.out.mono hf.size⟩)⟩
  · rw [hbad] at CA
    have HBAD := hid hbad
    clear hbad
    go_enter Tryd.func46, Tryd.ntmps46
    go_wp2_with (first | (go_at_call 45; (with_reducible refine (CA.out _ HF0).mono ?_); rintro e1 w1 ⟨rfl, hf1⟩))
    go_ret3
    exact ⟨HF0.trans hf1, .inl ⟨HBAD.out, rfl⟩⟩
end Go.Proofs.YtnmfmedoocnofaaDoor
