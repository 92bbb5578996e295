/-
  BatchNames: the walk. No statement of the seat is proved here.
-/
import Derived.Test.YtnmfmedoocnofaaDoorBCut
namespace Go.Proofs.YtnmfmedoocnofaaDoor
open Go.RowKit

section
variable {P : Program} (w : World)
/-- append onto an owned slice: the old value owns its cells as before. -/
theorem run_append_two (t tx ty e : TypeId) (i : TypeInfo) (z : Value) (size bytes : Nat) (ht : P.underlying t = some (.slice e)) (hi : P.info? e = some i) (hz : i.zero = some z)
    (hsize : i.size = size) (hby : i.bytes = bytes) (hzs : z.cells.size = size)
    (v : Value) (n : Nat) (xs : List Value) (hown : Own w e size v n xs)
    (x : Value) (m : Nat) (news : List Value) (hx : Src P size tx x m news w)
    (h63 : n + m ≤ maxLen) (hbytes : (n + m) * bytes ≤ 140737488355328) :
    ∃ v' w', (Builtin.append_ #[t, tx] ty #[v, x]).run P w = .ok v' w' ∧ Own w' e size v' (n + m) (xs ++ news) ∧ Fr (OnlyS v.ownBlock) w w' ∧
      (v'.ownBlock = v.ownBlock ∨ v'.ownBlock = some w.heap.size) ∧ Own w' e size v n xs := by
  subst hsize hby
  have hsmall : n + m ≤ 9223372036854775807 := by simp only [maxLen] at h63; omega
  have hlen : (xs ++ news).length = (n + m) * i.size := by rw [List.length_append, hown.1, hx.newsLen, Nat.add_mul]
  have grown : ∀ (old : Nat), old < n + m → ∀ (row : Option Nat),
      Own (w.drew.alloc (.cells ((xs ++ news).toArray ++ Builtin.zeroCells z.cells (grownCap w (n + m) old e - (n + m))) e)) e i.size
        (.slice (some ⟨w.heap.size, 0, none⟩) (n + m) (grownCap w (n + m) old e)) (n + m) (xs ++ news) ∧
      Fr (OnlyS row) w (w.drew.alloc (.cells ((xs ++ news).toArray ++ Builtin.zeroCells z.cells (grownCap w (n + m) old e - (n + m))) e)) ∧
      Own (w.drew.alloc (.cells ((xs ++ news).toArray ++ Builtin.zeroCells z.cells (grownCap w (n + m) old e - (n + m))) e)) e i.size v n xs := by
    intro old ho row
    have hge := grownCap_ge w (n + m) old e
    have hcm : grownCap w (n + m) old e ≤ maxLen := grownCap_le_maxLen w (n + m) old e h63
    refine ⟨⟨hlen, .inr ⟨w.heap.size, _, _, rfl, Nat.zero_le _, Go.heap_alloc_new w.drew _, hge, hcm, ?_, ?_⟩⟩, ((Fr.refl w).drew).alloc _, hown.fr (((Fr.refl (X := No) w).drew).alloc _) (fun _ _ => id)⟩
    · simp only [Array.size_append, List.size_toArray, size_zeroCells, hzs, hlen, ← Nat.add_mul]
      congr 1
      omega
    · simp only [Array.toList_append]
      rw [← hlen]
      exact List.take_left
  have hown0 := hown
  rcases hown.2 with ⟨rfl, rfl⟩ | ⟨g, cap, cur, rfl, hbg, hg, hnc, hcm, hcs, htake⟩
  · have hx0 : xs = [] := List.eq_nil_of_length_eq_zero (by simpa using hown.1)
    subst hx0
    by_cases hm : m = 0
    · subst hm
      have hn : news = [] := List.eq_nil_of_length_eq_zero (by simpa using hx.newsLen)
      subst hn
      refine ⟨.slice none 0 0, w, ?_, World.ownsRow_nil _ _ _ _, Fr.refl _, .inl rfl, World.ownsRow_nil _ _ _ _⟩
      rcases hx.kind with ⟨e', hk⟩ | hk <;>
        simp [Builtin.append_, run_underlying ht, run_underlying hk, sizeOf, typeInfo, hi, hx.len, hx.cells]
    · have hr := run_append_grow_src (P := P) w t tx ty e i z ht hi hz none 0 0 [] (by simp [run_firstCells_none]) x m news hx (by omega) (by omega) (growslice_fits (by omega) hbytes)
      obtain ⟨g1, g2, g3⟩ := grown 0 (by omega) (Value.ownBlock (.slice none 0 0))
      exact ⟨_, _, hr, g1, g2, .inr rfl, g3⟩
  · by_cases hroom : n + m ≤ cap
    · have hfit : n * i.size + news.length ≤ cur.size := by rw [hx.newsLen, hcs, ← Nat.add_mul]; exact Nat.mul_le_mul_right _ hroom
      have hcell : ∀ o, w.cell? ⟨g, o, none⟩ = cur[o]? := fun o => cell_of_row w g o cur e (0, 0) hg
      have hr := run_append_room_src (P := P) w t tx ty e i ht hi g 0 n cap x m news hx hroom
        (fun j hj => by rw [hcell]; have : 0 + n * i.size + j < cur.size := by omega
                        simp; omega)
        (fun j _ => frozen_of_row w g _ cur e hg)
      simp only [Nat.zero_add] at hr
      obtain ⟨cur', h2, h3, h4⟩ := heap_setCells g e news (n * i.size) cur w hg hfit
      refine ⟨_, _, hr, ⟨hlen, .inr ⟨g, cap, cur', rfl, Nat.zero_le _, h2, hroom, hcm, h3.trans hcs, ?_⟩⟩, ?_, .inl rfl, ⟨hown.1, .inr ⟨g, cap, cur', rfl, Nat.zero_le _, h2, hnc, hcm, h3.trans hcs, ?_⟩⟩⟩
      · rw [Nat.add_mul, ← hx.newsLen, h4, htake]
      · have hk := World.keptBut_setCells g (may := fun _ => True) news (n * i.size) w (fun _ _ => trivial)
        refine ⟨hk.1, ?_, hk.2.1, ?_, ?_⟩
        · exact setCells_tape g news (n * i.size) w
        · exact Nat.le_of_eq (setCells_size g news (n * i.size) w).symm
        · intro k hk1 hk2
          exact heap_setCells_other g (fun h => hk2 (by subst h; rfl)) news (n * i.size) w
      · have h5 : List.take (n * i.size) (List.take (n * i.size + news.length) cur'.toList) = xs := by
          rw [h4, htake, List.take_append_of_le_length (by rw [hown.1]; exact Nat.le_refl _), List.take_of_length_le (by rw [hown.1]; exact Nat.le_refl _)]
        rw [List.take_take, Nat.min_eq_left (Nat.le_add_right _ _)] at h5
        exact h5
    · have hold : (Builtin.firstCells i.size n (.slice (some ⟨g, 0, none⟩) n cap)).run P w.drew = .ok xs.toArray w.drew :=
        run_firstCells_some w.drew i.size n _ n cap xs hown.1 (by simpa using hown.cells (g := g) rfl)
      have hr := run_append_grow_src (P := P) w t tx ty e i z ht hi hz (some ⟨g, 0, none⟩) n cap xs hold x m news hx (by omega) (by omega) (growslice_fits (by omega) hbytes)
      obtain ⟨g1, g2, g3⟩ := grown cap (by omega) (Value.ownBlock (.slice (some ⟨g, 0, none⟩) n cap))
      exact ⟨_, _, hr, g1, g2, .inr rfl, g3⟩
theorem wpList_append_two {ops : Array Oper} {rest : List Oper} {o : Oper} {a : Act} {Q : Exit → Act → World → Prop} (hgd : o.guard = none) (s x : Operand) (t : TypeId)
    (ho : o.op = .call { callee := .builtin .append, args := #[s, x], argTypes := #[t, t] })
    (e : TypeId) (i : TypeInfo) (z : Value) (size bytes : Nat) (ht : P.underlying t = some (.slice e)) (hi : P.info? e = some i) (hz : i.zero = some z)
    (hsize : i.size = size) (hby : i.bytes = bytes) (hzs : z.cells.size = size)
    (_hsz : 0 < size)
    (v : Value) (n : Nat) (xs : List Value) (hs : a.eval s = v) (hown : Own w e size v n xs)
    (ad : Addr) (m c : Nat) (news : List Value) (hx : a.eval x = .slice (some ad) m c) (hl : news.length = m * size) (hnews : ∀ j u, news[j]? = some u → w.cell? (ad.add j) = some u) (h1 : ∀ u ∈ news, u.oneCell' = true)
    (h63 : n + m ≤ maxLen) (hbytes : (n + m) * bytes ≤ 140737488355328)
    (h : ∀ v' w', Own w' e size v' (n + m) (xs ++ news) → Fr (OnlyS v.ownBlock) w w' → (v'.ownBlock = v.ownBlock ∨ v'.ownBlock = some w.heap.size) → Own w' e size v n xs → wpList P ops Q rest (a.put o.dst v') w') : wpList P ops Q (o :: rest) a w :=
  wpList_plain hgd fun K hK => by
    obtain ⟨v', w', hr, h2, h3, h4, h5⟩ := run_append_two (P := P) w t t o.type e i z size bytes ht hi hz hsize hby hzs v n xs hown _ m news (Src.ofSlice w ht ad m c news hl hnews h1) h63 hbytes
    unfold Oper.wp execOp
    simp only [ho, resolve, invoke, builtin, Sem.run_bind, Sem.run_pure, Result.andThen_ok, List.map_toArray, List.map_cons, List.map_nil, hs, hx, hr]
    exact hK _ _ (h v' w' h2 h3 h4 h5)
end

/-- A row of events that a slice owns. -/
theorem own_at {w : World} {q : Option Addr} {cap : Nat} {l : List (EvP × Ev)} (h : Own w 34 4 (.slice q l.length cap) l.length (l.flatMap evC)) (he : ∀ p, p ∈ l → EvAt w p.1 p.2) : LsAt w q l := fun i s e hi => by
  have hlt := (List.getElem?_eq_some_iff.1 hi).1
  rcases h.2 with ⟨h1, h2⟩ | ⟨g, cap', cur, h1, _, hg, h3, h4, h5, h6⟩
  · omega
  · have hq : q = some ⟨g, 0, none⟩ := by injection h1
    have hc := h.cells (g := g) (by rw [hq]; rfl)
    have key : ∀ j u, j < 4 → (evC (s, e))[j]? = some u → w.cell? ⟨g, 0 + i * 4 + j, none⟩ = some u := fun j u hj hu => by
      have := hc (i * 4 + j) u (by rw [evC_at l i (s, e) hi j hj]; exact hu)
      rw [Go.WideShapes.add_plain] at this
      rw [show 0 + i * 4 + j = 0 + (i * 4 + j) by omega]
      exact this
    exact ⟨he _ (List.mem_of_getElem? hi), g, 0, hq, key 0 _ (by decide) rfl, key 1 _ (by decide) rfl, key 2 _ (by decide) rfl, key 3 _ (by decide) rfl⟩
/-- An event whose numbers lie in a block of their own. -/
theorem lit_ev (w0 w1 : World) (v k : Nat) (ns : List Int) (cs : Array Value) (hc : cs.toList = ns.map numV) (hf : Fr No (w0.alloc (.cells cs 2)) w1) (hv : v ≤ 255) (hk : k ≤ 255) (hl : ns.length ≤ 9) (hn : ∀ n, n ∈ ns → -9223372036854775808 ≤ n ∧ n ≤ 9223372036854775807) :
    EvAt w1 ⟨some ⟨w0.heap.size, 0, none⟩, ns.length, none, 0⟩ ⟨v, k, ns, []⟩ :=
  ⟨hv, hk, slat_lit (hf.heap0 (Go.heap_alloc_new w0 _)) hc, SlAt.nil _ _, (by show ns.length ≤ _; omega), (by show (0 : Nat) ≤ _; omega), by simp, hn⟩
theorem lit_new (w0 w1 : World) (v k : Nat) (ns : List Int) (cs : Array Value) (hc : cs.toList = ns.map numV) (hf : Fr No (w0.alloc (.cells cs 2)) w1) (hl : ns.length ≤ 9) :
    EvNew w0.heap.size w1 ⟨some ⟨w0.heap.size, 0, none⟩, ns.length, none, 0⟩ ⟨v, k, ns, []⟩ := by
  have hsz : cs.size = ns.length := by rw [← Array.length_toList, hc, List.length_map]
  refine ⟨.inr ⟨⟨by simp, .inr ⟨w0.heap.size, ns.length, cs, by simp, Nat.zero_le _, hf.heap0 (Go.heap_alloc_new w0 _), by simp, by unfold maxLen; omega, by rw [hsz]; simp, ?_⟩⟩, fun i hi => ?_⟩, Rs.nil _ _ _ _⟩
  · rw [hc, List.take_of_length_le (by simp)]
  · have : some w0.heap.size = some i := hi
    exact Nat.le_of_eq (Option.some.inj this)

def fullE : Ev := ⟨3, 14, [1099511627776, 64, 16, 1048576, 1125899906842624, 1125899906842624, 1099511627776], []⟩
def fullL : List Ev := List.replicate 40 fullE
theorem full_plain : mayS fullE = true ∧ mayL fullL = true := by decide +kernel
theorem full_enc : encL (fullL ++ [fullE]) = ([], 40) ∧ sayL fullL 0 = ([], 43) ∧ sayL fullL 4 = ([], 43) ∧ sayL ([] : List Ev) 9 = ([], 4) ∧ sayL (fullL ++ [fullE]) 9 = ([], 40) := by decide +kernel
theorem names_plain : encL [⟨3, 20, [5], []⟩, ⟨2, 20, [5], []⟩] = ([], 4) ∧ encL [⟨3, 20, [0], []⟩] = ([], 4) ∧ sayL [⟨3, 6, [1, 500], []⟩, ⟨3, 20, [70], []⟩, ⟨3, 21, [1, 2, 300], []⟩] 1 = ([2, 3, 6, 1, 244, 3, 20, 7, 21, 1, 2, 172, 2], 0) ∧ sayL [⟨1, 10, [3], []⟩, ⟨1, 13, [2, 1, 5, 6], []⟩] 1 = ([1, 2, 10, 3, 13, 2, 1, 5, 6], 0) ∧
    newL [1, 2, 10, 3, 13, 2, 1, 5, 6] = ([3, 2, 10, 172, 2, 13, 2, 1, 244, 3, 6, 0], 0) ∧ encL [⟨3, 10, [300], []⟩, ⟨3, 13, [2, 1, 500, 6, 0], []⟩] = ([3, 2, 10, 172, 2, 13, 2, 1, 244, 3, 6, 0], 0) := by decide +kernel
theorem refused_plain : decL [] = ([], 8) ∧ decL [0, 1] = ([], 43) ∧ decL [4] = ([], 43) ∧ decL [3] = ([], 8) ∧ decL [3, 1] = ([], 8) ∧ decL [3, 1, 20] = ([], 8) ∧ decL [3, 1, 20, 50, 0] = ([], 4) ∧ decL [3, 129, 0, 20, 50] = ([], 4) ∧ decL [3, 1, 0, 50] = ([], 4) := by decide +kernel
theorem LsRow.kept {B : Nat} {w w' : World} {v : Value} {L : List (EvP × Ev)} (h : LsRow B w v L) (ho : Own w' 34 4 v L.length (L.flatMap evC)) (hf : Fr (OnlyS v.ownBlock) w w') : LsRow B w' v L :=
  ⟨ho, h.new, fun p hp => (h.evs p hp).onlyS h.own hf, fun p hp k hk => Nat.lt_of_lt_of_le (h.lt p hp k hk) hf.size, h.ap⟩
theorem LsRow.frB {X : Nat → Prop} {B : Nat} {w w' : World} {v : Value} {L : List (EvP × Ev)} (h : LsRow B w v L) (hf : Fr X w w') (hx : ∀ k, B ≤ k → ¬ X k) : LsRow B w' v L :=
  ⟨h.own.fr hf (fun k hk => hx k (h.new k hk)), h.new, fun p hp => ⟨(h.evs p hp).nums.fr hf (fun k _ hB => hx k hB), (h.evs p hp).texts.fr hf (fun k _ hB => hx k hB)⟩, fun p hp k hk => Nat.lt_of_lt_of_le (h.lt p hp k hk) hf.size, h.ap⟩
theorem full_may : ∀ e, e ∈ fullL → mayS e = true := fun e he => by rw [List.eq_of_mem_replicate he]; exact full_plain.1

set_option maxHeartbeats 32000000 in
set_option maxRecDepth 100000 in
theorem names8_any (w : World) (hkt : KT w) : Calls Tryd.prog 7 #[] w fun en w' => en = .returned (.bool true) ∧ Fr No w w' := by
  have WK := hid (fun w1 (h : Fr No w w1) => works8_any w1 (hkt.fr h))
  have EV := hid (fun (v k : Int) (q : Option Addr) (n cap : Nat) w1 => event8_any v k _ q n cap rfl w1)
  have LI := hid (fun (q : Option Addr) (n cap : Nat) w1 => list8_any q n cap w1)
  have EN := hid (fun (l : List (EvP × Ev)) (q : Option Addr) (cap : Nat) w1 (h : LsAt w1 q l) (hf : Fr No w w1) (hn : l.length ≤ 1000000) => bencode_any l q cap w1 h (hkt.fr hf) hn)
  have SY := hid (fun (l : List (EvP × Ev)) (q : Option Addr) (cap v : Nat) w1 (h : LsAt w1 q l) (hf : Fr No w w1) (hn : l.length ≤ 1000000) (hv : v ≤ 255) => bsay_any l q cap v w1 h (hkt.fr hf) hn hv)
  have SS := hid (fun (l : List (EvP × Ev)) (q : Option Addr) (cap v : Nat) (t : List UInt8) w1 (h : LsAt w1 q l) (hf : Fr No w w1) (hn : l.length ≤ 1000000) (hv : v ≤ 255) (hs : sayL (l.map Prod.snd) v = (t, 0)) => says8_any l q cap v t w1 h (hkt.fr hf) hn hv hs)
  have DE := hid (fun (s : List UInt8) w1 (hf : Fr No w w1) (hs : s.length ≤ 9000000000000000000) => bdecode_any s w1 (hkt.fr hf) hs)
  have NE := hid (fun (s : List UInt8) w1 (hf : Fr No w w1) (hs : s.length ≤ 9000000000000000000) => bnewest_any s w1 (hkt.fr hf) hs)
  have MA := hid (fun (l : List (EvP × Ev)) (q : Option Addr) (cap : Nat) w1 (h : LsAt w1 q l) (hf : Fr No w w1) (hn : l.length ≤ 1000000) => bmay_any l q cap w1 h (hkt.fr hf) hn)
  have RF := hid (fun (s : List UInt8) (k : Nat) w1 (hf : Fr No w w1) (hs : s.length ≤ 9000000000000000000) (hd : decL s = ([], k)) (hk : k ≠ 0) => refused8_any s k w1 (hkt.fr hf) hs hd hk)
  have BS := hid (fun (l l' : List (EvP × Ev)) (q q' : Option Addr) (c c' : Nat) w1 (h : LsAt w1 q l) (h' : LsAt w1 q' l') (hn : l.length ≤ 9000000000000000000) => bsame_any l l' q q' c c' w1 h h' hn)
  unfold strV at EN SY SS DE NE RF
  clear hkt
  go_enter Tryd.func7, Tryd.ntmps7
  go_upto_region 3 with (first
    | (go_at_call 9; (with_reducible refine (WK.out _ (Fr.refl w)).mono ?_); rintro e0 w0 ⟨rfl, hf0⟩)
    | fail)
  go_wp2_with fail
  go_loopg [1, 2] 40 (fun k ov iv wr => ∃ (m : Nat) (L : List (EvP × Ev)), m ≤ 40 ∧ 40 ≤ m + k ∧ iv = .int .i64 m ∧ Hid (L.length = m ∧ L.map Prod.snd = List.replicate m fullE) ∧ LsRow w.heap.size wr ov L ∧ Fr No w wr)
  case atStart => exact ⟨0, [], by omega, by omega, rfl, hid ⟨rfl, rfl⟩, LsRow.nil _ _, hf0⟩
  case round =>
    clear hf0
    rename Value => ov
    obtain ⟨m, L, hm, hk, rfl, HL, hrow, hf⟩ := hrel
    by_cases hlt : m < 40
    · have i1 : (m : Int) < 40 := by omega
      have i2 : (0 : Int) ≤ (m : Int) := by omega
      have i3 : (m : Int) + 1 ≤ 40 := by omega
      obtain ⟨i0, hi0, hz0', hz1, hz2⟩ := info_parts infoEv
      have HROW := hid hrow
      have HLL := hid HL.out.1
      clear hrow
      go_wp2_with (first
        | (go_at_call 23; (with_reducible refine (EV.out _ _ _ _ _ _).mono ?_); rintro e5 w5 ⟨rfl, hf5⟩; have hA : Fr No w5 (w5.alloc (.cells #[.int .u8 3, .int .u8 14, .slice (some ⟨wr.heap.size, 0, none⟩) 7 7, .slice none 0 0] 34)) := (Fr.refl w5).alloc _; have hf05 : Fr No wr w5 := ((Fr.refl wr).alloc _).trans hf5; have hrow5 := HROW.out.fr hf05; have hown := hrow5.own.fr hA (fun _ _ => id); have HNEW := hid (cells_new w5 [.int .u8 3, .int .u8 14, .slice (some ⟨wr.heap.size, 0, none⟩) 7 7, .slice none 0 0] 34))
        | (at_builtin; refine wpList_append_fr _ rfl _ _ 26 rfl 34 i0 (.agg #[.int .u8 0, .int .u8 0, .slice none 0 0, .slice none 0 0]) 4 56 Tryd.underlying26 hi0 hz0' hz1 hz2 rfl (by decide) _ _ _ rfl hown ⟨w5.heap.size, 0, none⟩ 1 1 [.int .u8 3, .int .u8 14, .slice (some ⟨wr.heap.size, 0, none⟩) 7 7, .slice none 0 0] rfl rfl HNEW.out ?c2 ?c3 ?c4 ?_)
        | fail)
      case c2 => intro u hu; simp at hu; rcases hu with rfl | rfl | rfl | rfl <;> rfl
      case c3 => have := HLL.out; unfold maxLen; omega
      case c4 => have := HLL.out; omega
      intro v' w6 ho hf6 hn6
      have hn5 : EvNew wr.heap.size w5 ⟨some ⟨wr.heap.size, 0, none⟩, 7, none, 0⟩ fullE := lit_new wr w5 3 14 [1099511627776, 64, 16, 1048576, 1125899906842624, 1125899906842624, 1099511627776] #[.int .i64 1099511627776, .int .i64 64, .int .i64 16, .int .i64 1048576, .int .i64 1125899906842624, .int .i64 1125899906842624, .int .i64 1099511627776] rfl hf5 (by decide)
      have hrow6 := LsRow.app (p := (⟨some ⟨wr.heap.size, 0, none⟩, 7, none, 0⟩, fullE)) HROW.out hrow5 hf.size hf05.size hn5 hA ho hf6 (by simpa using hn6)
      have hf66 := (hf.trans (hf05.trans hA)).newOnlyS (fun g hg => HROW.out.new g hg) hf6
      have H6 := hid (And.intro hrow6 hf66)
      have HOK : Hid ((L ++ [((⟨some ⟨wr.heap.size, 0, none⟩, 7, none, 0⟩ : EvP), fullE)]).length = m + 1 ∧ (L ++ [((⟨some ⟨wr.heap.size, 0, none⟩, 7, none, 0⟩ : EvP), fullE)]).map Prod.snd = List.replicate (m + 1) fullE) := hid ⟨by simp [HLL.out], by rw [List.map_append, HL.out.2, List.replicate_succ']; rfl⟩
      clear ho hf6 hn6 hn5 hrow6 hf66 hown HNEW hrow5 hf05 hA hf5
      go_wp2_with fail
      go_roundg (gk - 1)
      case measure => omega
      case rel => exact ⟨m + 1, _, by omega, by omega, by go_num, HOK, H6.out.1, H6.out.2⟩
    · obtain rfl : m = 40 := by omega
      obtain ⟨qf, cf, rfl⟩ := hrow.shape
      have hml : L.map Prod.snd = fullL := HL.out.2
      have hll : L.length = 40 := HL.out.1
      have HROW := hid hrow
      have HML := hid hml
      have HLL := hid hll
      clear hrow hml hll hk hm hlt HL

      have hLl : L.length ≤ 40 := Nat.le_of_eq HLL.out
      have hP := payB_short full_plain.2
      have hPd := dec_pay full_plain.2 []
      rw [if_pos rfl, List.append_nil] at hPd
      have E8 : Hid (Calls Tryd.prog 17 #[.slice qf L.length cf] wr fun en w' => en = .returned (.tuple #[.string ⟨(payB fullL).toArray⟩, .int .i64 0]) ∧ Fr No wr w') := hid (by
        have h := EN.out L qf cf wr (ls_may HROW.out (fun e he => full_may e (by rw [← HML.out]; exact he))) hf (by omega)
        rw [HML.out, encL_ok full_plain.2] at h
        exact h)
      generalize payB fullL = P at hP hPd E8
      have HPD := hid hPd
      have hPs : decide ((4096 : Int) < (P.length : Int)) = false := by simp; omega
      clear hPd
      go_upto_region 9 with (first
        | (go_at_call 17; (with_reducible refine E8.out.mono ?_); rintro e8 w8 ⟨rfl, hf8⟩)
        | fail)
      have F8 := hf.trans hf8
      have D9 : Hid (Calls Tryd.prog 12 #[.string ⟨P.toArray⟩] w8 fun en w' => ∃ (L9 : List (EvP × Ev)) (q9 : Option Addr) (c9 : Nat), en = .returned (.tuple #[.slice q9 L9.length c9, .int .i64 0]) ∧ L9.map Prod.snd = fullL ∧ LsRow w8.heap.size w' (.slice q9 L9.length c9) L9 ∧ Fr No w8 w') := hid (by
        have h := DE.out P w8 F8 (by omega)
        rw [HPD.out] at h
        exact h)
      clear E8 hP
      go_upto_region 10 with (first
        | (go_at_call 12; (with_reducible refine D9.out.mono ?_); rintro e9 w9 ⟨L9, q9, c9, rfl, hm9, hrow9, hf9⟩)
        | fail)
      have F9 := F8.trans hf9
      have H9 := hid (And.intro hm9 hrow9)
      have hrow := HROW.out.fr (hf8.trans hf9)
      have R9 := hid hrow
      have Q9 := hid hrow9
      have HM9 := hid hm9
      have HLT := hid (fun k hk => Nat.lt_of_lt_of_le (HROW.out.own.lt k hk) hf8.size)
      have hl9 : L9.length ≤ 40 := by
        have := congrArg List.length hm9
        rw [List.length_map] at this
        rw [this]
        exact Nat.le_refl 40
      have HL9 := hid hl9
      clear hm9 hrow9 hrow D9 HROW hl9
      obtain ⟨⟨s0, e0⟩, hp0⟩ : ∃ p, L[0]? = some p := ⟨_, List.getElem?_eq_getElem (by rw [HLL.out]; decide)⟩
      have he0 : e0 = fullE := by
        have h1 := snd_at hp0
        rw [HML.out] at h1
        exact List.eq_of_mem_replicate (List.mem_of_getElem? h1)
      have HE0 := hid he0
      have HP0 := hid hp0
      clear he0
      obtain ⟨gf, hqf, c0, c1, c2, c3⟩ := R9.out.cells hp0
      subst hqf
      have hgf : gf < w8.heap.size := HLT.out gf rfl
      have HGF := hid hgf
      clear hgf HLT
      rw [Nat.zero_mul, Nat.zero_add] at c0 c1 c2 c3
      have i1 : (0 : Int) < (L.length : Int) := by rw [HLL.out]; decide
      obtain ⟨i0, hi0, hz0', hz1, hz2⟩ := info_parts infoEv
      have APP := hid (fun (w10 : World) (q' : Option Addr) (c' : Nat) (wb : World) (hr : LsRow w.heap.size wb (.slice (some ⟨gf, 0, none⟩) L.length cf) L) (hF : Fr No w wb) (ho : Own w10 34 4 (.slice q' (L.length + 1) c') (L.length + 1) (L.flatMap evC ++ evC (s0, e0))) (hold : Own w10 34 4 (.slice (some ⟨gf, 0, none⟩) L.length cf) L.length (L.flatMap evC)) (hf : Fr (OnlyS (Value.ownBlock (.slice (some ⟨gf, 0, none⟩) L.length cf))) wb w10) => (by
        have hk := hr.kept hold hf
        refine ⟨hk, ?_, hF.newOnlyS (fun g hg => hr.new g hg) hf⟩
        have hcat : (L ++ [(s0, e0)]).length = L.length + 1 := by simp
        have ho2 : Own w10 34 4 (.slice q' (L ++ [(s0, e0)]).length c') (L ++ [(s0, e0)]).length ((L ++ [(s0, e0)]).flatMap evC) := by
          rw [hcat, List.flatMap_append]
          simpa using ho
        refine own_at ho2 (fun p hp => ?_)
        have hp2 : p ∈ L := by
          rcases List.mem_append.1 hp with hp | hp
          · exact hp
          · obtain rfl : p = (s0, e0) := by simpa using hp
            exact List.mem_of_getElem? HP0.out
        have hme := full_may p.2 (by rw [← HML.out]; exact List.mem_map.2 ⟨p, hp2, rfl⟩)
        exact (hk.evs p hp2).may hme (may_kind hme) : LsRow w.heap.size w10 (.slice (some ⟨gf, 0, none⟩) L.length cf) L ∧ LsAt w10 q' (L ++ [(s0, e0)]) ∧ Fr No w w10))
      have hM1 : (L ++ [(s0, e0)]).map Prod.snd = fullL ++ [fullE] := by rw [List.map_append, HML.out, ← HE0.out]; rfl
      have HM1 := hid hM1
      have hlen1 : (L ++ [(s0, e0)]).length = L.length + 1 := by simp
      have HLEN1 := hid hlen1
      clear hM1 hlen1 hp0
      have hown := R9.out.own.fr ((Fr.refl (X := No) w9).alloc (.cells #[.int .u8 e0.v, .int .u8 e0.kind, .slice s0.qn e0.nums.length s0.cn, .slice s0.qt e0.texts.length s0.ct] 34)) (fun _ _ => id)
      have HNEW := hid (cells_new w9 (evC (s0, e0)) 34)
      go_wp2_with (first
        | (at_builtin; refine wpList_append_two _ rfl _ _ 26 rfl 34 i0 (.agg #[.int .u8 0, .int .u8 0, .slice none 0 0, .slice none 0 0]) 4 56 Tryd.underlying26 hi0 hz0' hz1 hz2 rfl (by decide) _ _ _ rfl hown ⟨w9.heap.size, 0, none⟩ 1 1 (evC (s0, e0)) rfl rfl HNEW.out ?c2 ?c3 ?c4 ?_)
        | fail)
      case c2 => intro u hu; simp [evC] at hu; rcases hu with rfl | rfl | rfl | rfl <;> rfl
      case c3 => have := HLL.out; unfold maxLen; omega
      case c4 => have := HLL.out; omega
      intro v' w10 ho hf10 _ hold
      obtain ⟨q', c', rfl⟩ := ho.shape
      obtain ⟨r10, at10, F10⟩ := APP.out w10 q' c' _ (R9.out.fr ((Fr.refl (X := No) w9).alloc _)) (F9.trans ((Fr.refl w9).alloc _)) ho hold hf10
      have E10 : Hid (Calls Tryd.prog 17 #[.slice q' (L.length + 1) c'] w10 fun en w' => en = .returned (.tuple #[.string ⟨#[]⟩, .int .i64 40]) ∧ Fr No w10 w') := hid (by
        have h := EN.out (L ++ [(s0, e0)]) q' c' w10 at10 F10 (by rw [HLEN1.out]; omega)
        rw [HM1.out, full_enc.1, HLEN1.out] at h
        exact h)
      have R10 := hid r10
      have Q10 := hid ((Q9.out.fr ((Fr.refl (X := No) w9).alloc _)).frB hf10 (fun k hk hx => by obtain rfl : gf = k := Option.some.inj hx; have := HGF.out; omega))
      clear Q9 hown HNEW ho hold hf10 at10 r10 R9 c0 c1 c2 c3 hf8 hf9 F8
      go_upto_region 11 with (first
        | (go_at_call 17; (with_reducible refine E10.out.mono ?_); rintro e11 w11 ⟨rfl, hf11⟩)
        | fail)
      have F11 := F10.trans hf11
      have R11 := hid (R10.out.fr hf11)
      have Q11 := hid (Q10.out.fr hf11)
      clear Q10 E10 R10 F10 hf11
      have EV21 := EV
      have EV22 := EV
      go_upto_region 12 with (first
        | (go_at_call 23; (with_reducible refine (EV21.out _ _ _ _ _ _).mono ?_); rintro e21 w21 ⟨rfl, hf21⟩; clear EV21)
        | (go_at_call 23; (with_reducible refine (EV22.out _ _ _ _ _ _).mono ?_); rintro e22 w22 ⟨rfl, hf22⟩; clear EV22)
        | (go_at_call 24; (with_reducible refine (LI.out _ _ _ _).mono ?_); rintro e23 w23 ⟨rfl, hf23⟩; have a23_0 : EvAt w23 ⟨some ⟨w11.heap.size, 0, none⟩, 1, none, 0⟩ ⟨3, 20, [5], []⟩ := lit_ev w11 w23 3 20 [5] #[.int .i64 5] rfl ((hf21.trans (((Fr.refl w21).alloc _).trans hf22)).trans (((Fr.refl w22).alloc _).trans hf23)) (by decide) (by decide) (by decide) (by decide); have a23_1 : EvAt w23 ⟨some ⟨w21.heap.size, 0, none⟩, 1, none, 0⟩ ⟨2, 20, [5], []⟩ := lit_ev w21 w23 2 20 [5] #[.int .i64 5] rfl (hf22.trans (((Fr.refl w22).alloc _).trans hf23)) (by decide) (by decide) (by decide) (by decide); have at23 : LsAt w23 (some ⟨w22.heap.size, 0, none⟩) [((⟨some ⟨w11.heap.size, 0, none⟩, 1, none, 0⟩ : EvP), (⟨3, 20, [5], []⟩ : Ev)), ((⟨some ⟨w21.heap.size, 0, none⟩, 1, none, 0⟩ : EvP), (⟨2, 20, [5], []⟩ : Ev))] := ls_lit _ (hf23.heap0 (Go.heap_alloc_new w22 _)) rfl (fun p hp => by simp only [List.mem_cons, List.not_mem_nil, or_false] at hp; rcases hp with rfl | rfl; all_goals first | exact a23_0 | exact a23_1); have F23 : Fr No w w23 := ((((((F11.trans ((Fr.refl w11).alloc _)).trans hf21).trans ((Fr.refl w21).alloc _)).trans hf22).trans ((Fr.refl w22).alloc _)).trans hf23); have X23 : Hid (Calls Tryd.prog 17 #[.slice (some ⟨w22.heap.size, 0, none⟩) 2 2] w23 fun en w' => en = .returned (.tuple #[.string ⟨#[]⟩, .int .i64 4]) ∧ Fr No w23 w') := hid (by have h := EN.out [((⟨some ⟨w11.heap.size, 0, none⟩, 1, none, 0⟩ : EvP), (⟨3, 20, [5], []⟩ : Ev)), ((⟨some ⟨w21.heap.size, 0, none⟩, 1, none, 0⟩ : EvP), (⟨2, 20, [5], []⟩ : Ev))] (some ⟨w22.heap.size, 0, none⟩) 2 w23 at23 F23 (by simp); rw [show [((⟨some ⟨w11.heap.size, 0, none⟩, 1, none, 0⟩ : EvP), (⟨3, 20, [5], []⟩ : Ev)), ((⟨some ⟨w21.heap.size, 0, none⟩, 1, none, 0⟩ : EvP), (⟨2, 20, [5], []⟩ : Ev))].map Prod.snd = [⟨3, 20, [5], []⟩, ⟨2, 20, [5], []⟩] from rfl, names_plain.1] at h; exact h))
        | (go_at_call 17; (with_reducible refine X23.out.mono ?_); rintro e24 w24 ⟨rfl, hf24⟩)
        | fail)
      have F24 := F23.trans hf24
      have G24 : Fr No w11 w24 := ((((((((Fr.refl w11).alloc _).trans hf21).alloc _).trans hf22).alloc _).trans hf23).trans hf24)
      have R24 := hid (R11.out.fr G24)
      have Q24 := hid (Q11.out.fr G24)
      clear Q11
      clear hf21 hf22 hf23 hf24 X23 at23 F23 a23_0 a23_1 G24 R11 F11
      have EV25 := EV
      go_upto_region 13 with (first
        | (go_at_call 23; (with_reducible refine (EV25.out _ _ _ _ _ _).mono ?_); rintro e25 w25 ⟨rfl, hf25⟩; clear EV25)
        | (go_at_call 24; (with_reducible refine (LI.out _ _ _ _).mono ?_); rintro e26 w26 ⟨rfl, hf26⟩; have a26_0 : EvAt w26 ⟨some ⟨w24.heap.size, 0, none⟩, 1, none, 0⟩ ⟨3, 20, [0], []⟩ := lit_ev w24 w26 3 20 [0] #[.int .i64 0] rfl (hf25.trans (((Fr.refl w25).alloc _).trans hf26)) (by decide) (by decide) (by decide) (by decide); have at26 : LsAt w26 (some ⟨w25.heap.size, 0, none⟩) [((⟨some ⟨w24.heap.size, 0, none⟩, 1, none, 0⟩ : EvP), (⟨3, 20, [0], []⟩ : Ev))] := ls_lit _ (hf26.heap0 (Go.heap_alloc_new w25 _)) rfl (fun p hp => by simp only [List.mem_cons, List.not_mem_nil, or_false] at hp; rcases hp with rfl; exact a26_0); have F26 : Fr No w w26 := ((((F24.trans ((Fr.refl w24).alloc _)).trans hf25).trans ((Fr.refl w25).alloc _)).trans hf26); have X26 : Hid (Calls Tryd.prog 17 #[.slice (some ⟨w25.heap.size, 0, none⟩) 1 1] w26 fun en w' => en = .returned (.tuple #[.string ⟨#[]⟩, .int .i64 4]) ∧ Fr No w26 w') := hid (by have h := EN.out [((⟨some ⟨w24.heap.size, 0, none⟩, 1, none, 0⟩ : EvP), (⟨3, 20, [0], []⟩ : Ev))] (some ⟨w25.heap.size, 0, none⟩) 1 w26 at26 F26 (by simp); rw [show [((⟨some ⟨w24.heap.size, 0, none⟩, 1, none, 0⟩ : EvP), (⟨3, 20, [0], []⟩ : Ev))].map Prod.snd = [⟨3, 20, [0], []⟩] from rfl, names_plain.2.1] at h; exact h))
        | (go_at_call 17; (with_reducible refine X26.out.mono ?_); rintro e27 w27 ⟨rfl, hf27⟩)
        | fail)
      have F27 := F26.trans hf27
      have G27 : Fr No w24 w27 := ((((((Fr.refl w24).alloc _).trans hf25).alloc _).trans hf26).trans hf27)
      have R27 := hid (R24.out.fr G27)
      have Q27 := hid (Q24.out.fr G27)
      clear Q24
      clear hf25 hf26 hf27 X26 at26 F26 a26_0 G27 R24 F24
      have X28 : Hid (Calls Tryd.prog 20 #[.slice (some ⟨gf, 0, none⟩) L.length cf, .int .u8 0] w27 fun en w' => en = .returned (.tuple #[.string ⟨#[]⟩, .int .i64 43]) ∧ Fr No w27 w') := hid (by
        have h := SY.out L (some ⟨gf, 0, none⟩) cf 0 w27 (ls_may R27.out (fun e he => full_may e (by rw [← HML.out]; exact he))) F27 (by omega) (by decide)
        rw [HML.out, full_enc.2.1] at h
        exact h)
      go_upto_region 14 with (first
        | (go_at_call 20; (with_reducible refine X28.out.mono ?_); rintro e28 w28 ⟨rfl, hf28⟩)
        | fail)
      have F28 := F27.trans hf28
      have R28 := hid (R27.out.fr hf28)
      have Q28 := hid (Q27.out.fr hf28)
      clear Q27
      clear X28 hf28 R27 F27
      have X29 : Hid (Calls Tryd.prog 20 #[.slice (some ⟨gf, 0, none⟩) L.length cf, .int .u8 4] w28 fun en w' => en = .returned (.tuple #[.string ⟨#[]⟩, .int .i64 43]) ∧ Fr No w28 w') := hid (by
        have h := SY.out L (some ⟨gf, 0, none⟩) cf 4 w28 (ls_may R28.out (fun e he => full_may e (by rw [← HML.out]; exact he))) F28 (by omega) (by decide)
        rw [HML.out, full_enc.2.2.1] at h
        exact h)
      go_upto_region 15 with (first
        | (go_at_call 20; (with_reducible refine X29.out.mono ?_); rintro e29 w29 ⟨rfl, hf29⟩)
        | fail)
      have F29 := F28.trans hf29
      have R29 := hid (R28.out.fr hf29)
      have Q29 := hid (Q28.out.fr hf29)
      clear Q28
      clear X29 hf29 R28 F28
      have X30 : Hid (Calls Tryd.prog 20 #[.slice none 0 0, .int .u8 9] w29 fun en w' => en = .returned (.tuple #[.string ⟨#[]⟩, .int .i64 4]) ∧ Fr No w29 w') := hid (by
        have h := SY.out [] none 0 9 w29 (LsAt.nil _ _) F29 (by decide) (by decide)
        rw [show ([] : List (EvP × Ev)).map Prod.snd = [] from rfl, full_enc.2.2.2.1] at h
        exact h)
      go_upto_region 16 with (first
        | (go_at_call 20; (with_reducible refine X30.out.mono ?_); rintro e30 w30 ⟨rfl, hf30⟩)
        | fail)
      have F30 := F29.trans hf30
      have R30 := hid (R29.out.fr hf30)
      have Q30 := hid (Q29.out.fr hf30)
      clear Q29
      clear X30 hf30 R29 F29
      obtain ⟨gf2, hqf2, c0, c1, c2, c3⟩ := R30.out.cells HP0.out
      obtain rfl : gf = gf2 := by simpa using hqf2
      rw [Nat.zero_mul, Nat.zero_add] at c0 c1 c2 c3
      have hown := R30.out.own.fr ((Fr.refl (X := No) w30).alloc (.cells #[.int .u8 e0.v, .int .u8 e0.kind, .slice s0.qn e0.nums.length s0.cn, .slice s0.qt e0.texts.length s0.ct] 34)) (fun _ _ => id)
      have HNEW := hid (cells_new w30 (evC (s0, e0)) 34)
      clear hqf2
      go_wp2_with (first
        | (at_builtin; refine wpList_append_two _ rfl _ _ 26 rfl 34 i0 (.agg #[.int .u8 0, .int .u8 0, .slice none 0 0, .slice none 0 0]) 4 56 Tryd.underlying26 hi0 hz0' hz1 hz2 rfl (by decide) _ _ _ rfl hown ⟨w30.heap.size, 0, none⟩ 1 1 (evC (s0, e0)) rfl rfl HNEW.out ?d2 ?d3 ?d4 ?_)
        | fail)
      case d2 => intro u hu; simp [evC] at hu; rcases hu with rfl | rfl | rfl | rfl <;> rfl
      case d3 => have := HLL.out; unfold maxLen; omega
      case d4 => have := HLL.out; omega
      intro v2 w50 ho hf50 _ hold
      obtain ⟨q2, c2', rfl⟩ := ho.shape
      obtain ⟨r50, at50, F50⟩ := APP.out w50 q2 c2' _ (R30.out.fr ((Fr.refl (X := No) w30).alloc _)) (F30.trans ((Fr.refl w30).alloc _)) ho hold hf50
      have E50 : Hid (Calls Tryd.prog 20 #[.slice q2 (L.length + 1) c2', .int .u8 9] w50 fun en w' => en = .returned (.tuple #[.string ⟨#[]⟩, .int .i64 40]) ∧ Fr No w50 w') := hid (by
        have h := SY.out (L ++ [(s0, e0)]) q2 c2' 9 w50 at50 F50 (by rw [HLEN1.out]; omega) (by decide)
        rw [HM1.out, full_enc.2.2.2.2, HLEN1.out] at h
        exact h)
      have R50 := hid r50
      have Q50 := hid ((Q30.out.fr ((Fr.refl (X := No) w30).alloc _)).frB hf50 (fun k hk hx => by obtain rfl : gf = k := Option.some.inj hx; have := HGF.out; omega))
      clear Q30 hown HNEW ho hold hf50 at50 r50 c0 c1 c2 c3 R30 F30 APP
      go_upto_region 17 with (first
        | (go_at_call 20; (with_reducible refine E50.out.mono ?_); rintro e51 w51 ⟨rfl, hf51⟩)
        | fail)
      have F51 := F50.trans hf51
      have R51 := hid (R50.out.fr hf51)
      have Q51 := hid (Q50.out.fr hf51)
      clear E50 R50 Q50 F50 hf51
      have X52 : Hid (Calls Tryd.prog 25 #[.slice q9 L9.length c9, .slice (some ⟨gf, 0, none⟩) L.length cf] w51 fun en w' => en = .returned (.bool true) ∧ Fr No w51 w') := hid (by
        have h := BS.out L9 L q9 (some ⟨gf, 0, none⟩) c9 cf w51 (ls_may Q51.out (fun e he => full_may e (by rw [← HM9.out]; exact he))) (ls_may R51.out (fun e he => full_may e (by rw [← HML.out]; exact he))) (by have := HL9.out; omega)
        rw [decide_eq_true (HM9.out.trans HML.out.symm)] at h
        exact h)
      clear Q51 HM9 H9
      go_upto_region 19 with (first
        | (go_at_call 25; (with_reducible refine X52.out.mono ?_); rintro e52 w52 ⟨rfl, hf52⟩)
        | fail)
      have F52 := F51.trans hf52
      have A52 := hid ((ls_may R51.out (fun e he => full_may e (by rw [← HML.out]; exact he))).fr hf52)
      clear X52 R51 F51 hf52
      have EV31 := EV
      have EV32 := EV
      have EV33 := EV
      go_upto_region 20 with (first
        | (go_at_call 23; (with_reducible refine (EV31.out _ _ _ _ _ _).mono ?_); rintro e31 w31 ⟨rfl, hf31⟩; clear EV31)
        | (go_at_call 23; (with_reducible refine (EV32.out _ _ _ _ _ _).mono ?_); rintro e32 w32 ⟨rfl, hf32⟩; clear EV32)
        | (go_at_call 23; (with_reducible refine (EV33.out _ _ _ _ _ _).mono ?_); rintro e33 w33 ⟨rfl, hf33⟩; clear EV33)
        | (go_at_call 24; (with_reducible refine (LI.out _ _ _ _).mono ?_); rintro e34 w34 ⟨rfl, hf34⟩; have a34_0 : EvAt w34 ⟨some ⟨w52.heap.size, 0, none⟩, 2, none, 0⟩ ⟨3, 6, [1, 500], []⟩ := lit_ev w52 w34 3 6 [1, 500] #[.int .i64 1, .int .i64 500] rfl (((hf31.trans (((Fr.refl w31).alloc _).trans hf32)).trans (((Fr.refl w32).alloc _).trans hf33)).trans (((Fr.refl w33).alloc _).trans hf34)) (by decide) (by decide) (by decide) (by decide); have a34_1 : EvAt w34 ⟨some ⟨w31.heap.size, 0, none⟩, 1, none, 0⟩ ⟨3, 20, [70], []⟩ := lit_ev w31 w34 3 20 [70] #[.int .i64 70] rfl ((hf32.trans (((Fr.refl w32).alloc _).trans hf33)).trans (((Fr.refl w33).alloc _).trans hf34)) (by decide) (by decide) (by decide) (by decide); have a34_2 : EvAt w34 ⟨some ⟨w32.heap.size, 0, none⟩, 3, none, 0⟩ ⟨3, 21, [1, 2, 300], []⟩ := lit_ev w32 w34 3 21 [1, 2, 300] #[.int .i64 1, .int .i64 2, .int .i64 300] rfl (hf33.trans (((Fr.refl w33).alloc _).trans hf34)) (by decide) (by decide) (by decide) (by decide); have at34 : LsAt w34 (some ⟨w33.heap.size, 0, none⟩) [((⟨some ⟨w52.heap.size, 0, none⟩, 2, none, 0⟩ : EvP), (⟨3, 6, [1, 500], []⟩ : Ev)), ((⟨some ⟨w31.heap.size, 0, none⟩, 1, none, 0⟩ : EvP), (⟨3, 20, [70], []⟩ : Ev)), ((⟨some ⟨w32.heap.size, 0, none⟩, 3, none, 0⟩ : EvP), (⟨3, 21, [1, 2, 300], []⟩ : Ev))] := ls_lit _ (hf34.heap0 (Go.heap_alloc_new w33 _)) rfl (fun p hp => by simp only [List.mem_cons, List.not_mem_nil, or_false] at hp; rcases hp with rfl | rfl | rfl; all_goals first | exact a34_0 | exact a34_1 | exact a34_2); have F34 : Fr No w w34 := ((((((((F52.trans ((Fr.refl w52).alloc _)).trans hf31).trans ((Fr.refl w31).alloc _)).trans hf32).trans ((Fr.refl w32).alloc _)).trans hf33).trans ((Fr.refl w33).alloc _)).trans hf34))
        | fail)
      have G34 : Fr No w52 w34 := (((((((((Fr.refl w52).alloc _).trans hf31).alloc _).trans hf32).alloc _).trans hf33).alloc _).trans hf34)
      have A34 := hid (A52.out.fr G34)
      clear A52 F52
      have M34 := hid at34
      clear hf31 hf32 hf33 hf34 at34 G34 a34_0 a34_1 a34_2
      have EV35 := EV
      have EV36 := EV
      go_upto_region 21 with (first
        | (go_at_call 23; (with_reducible refine (EV35.out _ _ _ _ _ _).mono ?_); rintro e35 w35 ⟨rfl, hf35⟩; clear EV35)
        | (go_at_call 23; (with_reducible refine (EV36.out _ _ _ _ _ _).mono ?_); rintro e36 w36 ⟨rfl, hf36⟩; clear EV36)
        | (go_at_call 24; (with_reducible refine (LI.out _ _ _ _).mono ?_); rintro e37 w37 ⟨rfl, hf37⟩; have a37_0 : EvAt w37 ⟨some ⟨w34.heap.size, 0, none⟩, 1, none, 0⟩ ⟨1, 10, [3], []⟩ := lit_ev w34 w37 1 10 [3] #[.int .i64 3] rfl ((hf35.trans (((Fr.refl w35).alloc _).trans hf36)).trans (((Fr.refl w36).alloc _).trans hf37)) (by decide) (by decide) (by decide) (by decide); have a37_1 : EvAt w37 ⟨some ⟨w35.heap.size, 0, none⟩, 4, none, 0⟩ ⟨1, 13, [2, 1, 5, 6], []⟩ := lit_ev w35 w37 1 13 [2, 1, 5, 6] #[.int .i64 2, .int .i64 1, .int .i64 5, .int .i64 6] rfl (hf36.trans (((Fr.refl w36).alloc _).trans hf37)) (by decide) (by decide) (by decide) (by decide); have at37 : LsAt w37 (some ⟨w36.heap.size, 0, none⟩) [((⟨some ⟨w34.heap.size, 0, none⟩, 1, none, 0⟩ : EvP), (⟨1, 10, [3], []⟩ : Ev)), ((⟨some ⟨w35.heap.size, 0, none⟩, 4, none, 0⟩ : EvP), (⟨1, 13, [2, 1, 5, 6], []⟩ : Ev))] := ls_lit _ (hf37.heap0 (Go.heap_alloc_new w36 _)) rfl (fun p hp => by simp only [List.mem_cons, List.not_mem_nil, or_false] at hp; rcases hp with rfl | rfl; all_goals first | exact a37_0 | exact a37_1); have F37 : Fr No w w37 := ((((((F34.trans ((Fr.refl w34).alloc _)).trans hf35).trans ((Fr.refl w35).alloc _)).trans hf36).trans ((Fr.refl w36).alloc _)).trans hf37))
        | fail)
      have G37 : Fr No w34 w37 := (((((((Fr.refl w34).alloc _).trans hf35).alloc _).trans hf36).alloc _).trans hf37)
      have A37 := hid (A34.out.fr G37)
      have M37 := hid (M34.out.fr G37)
      clear A34 M34 F34
      have O37 := hid at37
      clear hf35 hf36 hf37 at37 G37 a37_0 a37_1
      have X38 : Hid (Calls Tryd.prog 10 #[.string ⟨#[1, 2, 10, 3, 13, 2, 1, 5, 6]⟩] w37 fun en w' => en = .returned (.tuple #[.string ⟨#[3, 2, 10, 172, 2, 13, 2, 1, 244, 3, 6, 0]⟩, .int .i64 0]) ∧ Fr No w37 w') := hid (by
        have h := NE.out [1, 2, 10, 3, 13, 2, 1, 5, 6] w37 F37 (by decide)
        rw [names_plain.2.2.2.2.1] at h
        exact h)
      go_upto_region 22 with (first
        | (go_at_call 10; (with_reducible refine X38.out.mono ?_); rintro e38 w38 ⟨rfl, hf38⟩)
        | fail)
      have F38 := F37.trans hf38
      have A38 := hid (A37.out.fr hf38)
      have M38 := hid (M37.out.fr hf38)
      have O38 := hid (O37.out.fr hf38)
      clear A37 M37 O37 F37
      clear X38 hf38
      have EV39 := EV
      have EV40 := EV
      go_upto_region 23 with (first
        | (go_at_call 23; (with_reducible refine (EV39.out _ _ _ _ _ _).mono ?_); rintro e39 w39 ⟨rfl, hf39⟩; clear EV39)
        | (go_at_call 23; (with_reducible refine (EV40.out _ _ _ _ _ _).mono ?_); rintro e40 w40 ⟨rfl, hf40⟩; clear EV40)
        | (go_at_call 24; (with_reducible refine (LI.out _ _ _ _).mono ?_); rintro e41 w41 ⟨rfl, hf41⟩; have a41_0 : EvAt w41 ⟨some ⟨w38.heap.size, 0, none⟩, 1, none, 0⟩ ⟨3, 10, [300], []⟩ := lit_ev w38 w41 3 10 [300] #[.int .i64 300] rfl ((hf39.trans (((Fr.refl w39).alloc _).trans hf40)).trans (((Fr.refl w40).alloc _).trans hf41)) (by decide) (by decide) (by decide) (by decide); have a41_1 : EvAt w41 ⟨some ⟨w39.heap.size, 0, none⟩, 5, none, 0⟩ ⟨3, 13, [2, 1, 500, 6, 0], []⟩ := lit_ev w39 w41 3 13 [2, 1, 500, 6, 0] #[.int .i64 2, .int .i64 1, .int .i64 500, .int .i64 6, .int .i64 0] rfl (hf40.trans (((Fr.refl w40).alloc _).trans hf41)) (by decide) (by decide) (by decide) (by decide); have at41 : LsAt w41 (some ⟨w40.heap.size, 0, none⟩) [((⟨some ⟨w38.heap.size, 0, none⟩, 1, none, 0⟩ : EvP), (⟨3, 10, [300], []⟩ : Ev)), ((⟨some ⟨w39.heap.size, 0, none⟩, 5, none, 0⟩ : EvP), (⟨3, 13, [2, 1, 500, 6, 0], []⟩ : Ev))] := ls_lit _ (hf41.heap0 (Go.heap_alloc_new w40 _)) rfl (fun p hp => by simp only [List.mem_cons, List.not_mem_nil, or_false] at hp; rcases hp with rfl | rfl; all_goals first | exact a41_0 | exact a41_1); have F41 : Fr No w w41 := ((((((F38.trans ((Fr.refl w38).alloc _)).trans hf39).trans ((Fr.refl w39).alloc _)).trans hf40).trans ((Fr.refl w40).alloc _)).trans hf41); have X41 : Hid (Calls Tryd.prog 17 #[.slice (some ⟨w40.heap.size, 0, none⟩) 2 2] w41 fun en w' => en = .returned (.tuple #[.string ⟨#[3, 2, 10, 172, 2, 13, 2, 1, 244, 3, 6, 0]⟩, .int .i64 0]) ∧ Fr No w41 w') := hid (by have h := EN.out [((⟨some ⟨w38.heap.size, 0, none⟩, 1, none, 0⟩ : EvP), (⟨3, 10, [300], []⟩ : Ev)), ((⟨some ⟨w39.heap.size, 0, none⟩, 5, none, 0⟩ : EvP), (⟨3, 13, [2, 1, 500, 6, 0], []⟩ : Ev))] (some ⟨w40.heap.size, 0, none⟩) 2 w41 at41 F41 (by simp); rw [show [((⟨some ⟨w38.heap.size, 0, none⟩, 1, none, 0⟩ : EvP), (⟨3, 10, [300], []⟩ : Ev)), ((⟨some ⟨w39.heap.size, 0, none⟩, 5, none, 0⟩ : EvP), (⟨3, 13, [2, 1, 500, 6, 0], []⟩ : Ev))].map Prod.snd = [⟨3, 10, [300], []⟩, ⟨3, 13, [2, 1, 500, 6, 0], []⟩] from rfl, names_plain.2.2.2.2.2] at h; exact h))
        | (go_at_call 17; (with_reducible refine X41.out.mono ?_); rintro e42 w42 ⟨rfl, hf42⟩)
        | fail)
      have F42 := F41.trans hf42
      have G42 : Fr No w38 w42 := ((((((((Fr.refl w38).alloc _).trans hf39).alloc _).trans hf40).alloc _).trans hf41).trans hf42)
      have A42 := hid (A38.out.fr G42)
      have M42 := hid (M38.out.fr G42)
      have O42 := hid (O38.out.fr G42)
      clear A38 M38 O38 F38
      clear hf39 hf40 hf41 hf42 X41 at41 F41 a41_0 a41_1 G42
      have MS : Hid (∀ w', Fr No w42 w' → Calls Tryd.prog 26 #[.slice (some ⟨w33.heap.size, 0, none⟩) 3 3, .int .u8 1, .string ⟨#[2, 3, 6, 1, 244, 3, 20, 7, 21, 1, 2, 172, 2]⟩] w' fun en w2 => en = .returned (.bool true) ∧ Fr No w' w2) := hid (fun w' h => by
        have h := SS.out _ (some ⟨w33.heap.size, 0, none⟩) 3 1 [2, 3, 6, 1, 244, 3, 20, 7, 21, 1, 2, 172, 2] w' (M42.out.fr h) (F42.trans h) (by simp) (by decide) (by rw [show [((⟨some ⟨w52.heap.size, 0, none⟩, 2, none, 0⟩ : EvP), (⟨3, 6, [1, 500], []⟩ : Ev)), ((⟨some ⟨w31.heap.size, 0, none⟩, 1, none, 0⟩ : EvP), (⟨3, 20, [70], []⟩ : Ev)), ((⟨some ⟨w32.heap.size, 0, none⟩, 3, none, 0⟩ : EvP), (⟨3, 21, [1, 2, 300], []⟩ : Ev))].map Prod.snd = [⟨3, 6, [1, 500], []⟩, ⟨3, 20, [70], []⟩, ⟨3, 21, [1, 2, 300], []⟩] from rfl]; exact names_plain.2.2.1)
        exact h)
      have OS : Hid (∀ w', Fr No w42 w' → Calls Tryd.prog 26 #[.slice (some ⟨w36.heap.size, 0, none⟩) 2 2, .int .u8 1, .string ⟨#[1, 2, 10, 3, 13, 2, 1, 5, 6]⟩] w' fun en w2 => en = .returned (.bool true) ∧ Fr No w' w2) := hid (fun w' h => by
        have h := SS.out _ (some ⟨w36.heap.size, 0, none⟩) 2 1 [1, 2, 10, 3, 13, 2, 1, 5, 6] w' (O42.out.fr h) (F42.trans h) (by simp) (by decide) (by rw [show [((⟨some ⟨w34.heap.size, 0, none⟩, 1, none, 0⟩ : EvP), (⟨1, 10, [3], []⟩ : Ev)), ((⟨some ⟨w35.heap.size, 0, none⟩, 4, none, 0⟩ : EvP), (⟨1, 13, [2, 1, 5, 6], []⟩ : Ev))].map Prod.snd = [⟨1, 10, [3], []⟩, ⟨1, 13, [2, 1, 5, 6], []⟩] from rfl]; exact names_plain.2.2.2.1)
        exact h)
      have RJ0 : Hid (∀ w', Fr No w42 w' → Calls Tryd.prog 22 #[.string ⟨#[]⟩, .int .i64 8] w' fun en w2 => en = .returned (.bool true) ∧ Fr No w' w2) := hid (fun w' h => RF.out [] 8 w' (F42.trans h) (by decide) refused_plain.1 (by decide))
      have RJ1 : Hid (∀ w', Fr No w42 w' → Calls Tryd.prog 22 #[.string ⟨#[0, 1]⟩, .int .i64 43] w' fun en w2 => en = .returned (.bool true) ∧ Fr No w' w2) := hid (fun w' h => RF.out [0, 1] 43 w' (F42.trans h) (by decide) refused_plain.2.1 (by decide))
      have RJ2 : Hid (∀ w', Fr No w42 w' → Calls Tryd.prog 22 #[.string ⟨#[4]⟩, .int .i64 43] w' fun en w2 => en = .returned (.bool true) ∧ Fr No w' w2) := hid (fun w' h => RF.out [4] 43 w' (F42.trans h) (by decide) refused_plain.2.2.1 (by decide))
      have RJ3 : Hid (∀ w', Fr No w42 w' → Calls Tryd.prog 22 #[.string ⟨#[3]⟩, .int .i64 8] w' fun en w2 => en = .returned (.bool true) ∧ Fr No w' w2) := hid (fun w' h => RF.out [3] 8 w' (F42.trans h) (by decide) refused_plain.2.2.2.1 (by decide))
      have RJ4 : Hid (∀ w', Fr No w42 w' → Calls Tryd.prog 22 #[.string ⟨#[3, 1]⟩, .int .i64 8] w' fun en w2 => en = .returned (.bool true) ∧ Fr No w' w2) := hid (fun w' h => RF.out [3, 1] 8 w' (F42.trans h) (by decide) refused_plain.2.2.2.2.1 (by decide))
      have RJ5 : Hid (∀ w', Fr No w42 w' → Calls Tryd.prog 22 #[.string ⟨#[3, 1, 20]⟩, .int .i64 8] w' fun en w2 => en = .returned (.bool true) ∧ Fr No w' w2) := hid (fun w' h => RF.out [3, 1, 20] 8 w' (F42.trans h) (by decide) refused_plain.2.2.2.2.2.1 (by decide))
      have RJ6 : Hid (∀ w', Fr No w42 w' → Calls Tryd.prog 22 #[.string ⟨#[3, 1, 20, 50, 0]⟩, .int .i64 4] w' fun en w2 => en = .returned (.bool true) ∧ Fr No w' w2) := hid (fun w' h => RF.out [3, 1, 20, 50, 0] 4 w' (F42.trans h) (by decide) refused_plain.2.2.2.2.2.2.1 (by decide))
      have RJ7 : Hid (∀ w', Fr No w42 w' → Calls Tryd.prog 22 #[.string ⟨#[3, 129, 0, 20, 50]⟩, .int .i64 4] w' fun en w2 => en = .returned (.bool true) ∧ Fr No w' w2) := hid (fun w' h => RF.out [3, 129, 0, 20, 50] 4 w' (F42.trans h) (by decide) refused_plain.2.2.2.2.2.2.2.1 (by decide))
      have RJ8 : Hid (∀ w', Fr No w42 w' → Calls Tryd.prog 22 #[.string ⟨#[3, 1, 0, 50]⟩, .int .i64 4] w' fun en w2 => en = .returned (.bool true) ∧ Fr No w' w2) := hid (fun w' h => RF.out [3, 1, 0, 50] 4 w' (F42.trans h) (by decide) refused_plain.2.2.2.2.2.2.2.2 (by decide))
      have MN : Hid (∀ w', Fr No w42 w' → Calls Tryd.prog 18 #[.slice none 0 0] w' fun en w2 => en = .returned (.bool false) ∧ Fr No w' w2) := hid (fun w' h => MA.out [] none 0 w' (LsAt.nil _ _) (F42.trans h) (by decide))
      have MF : Hid (∀ w', Fr No w42 w' → Calls Tryd.prog 18 #[.slice (some ⟨gf, 0, none⟩) L.length cf] w' fun en w2 => en = .returned (.bool true) ∧ Fr No w' w2) := hid (fun w' h => by
        have h := MA.out L (some ⟨gf, 0, none⟩) cf w' (A42.out.fr h) (F42.trans h) (by omega)
        rw [HML.out, full_plain.2] at h
        exact h)
      have SN : Hid (∀ w', Fr No w42 w' → Calls Tryd.prog 25 #[.slice none 0 0, .slice none 0 0] w' fun en w2 => en = .returned (.bool true) ∧ Fr No w' w2) := hid (fun w' h => BS.out [] [] none none 0 0 w' (LsAt.nil _ _) (LsAt.nil _ _) (by decide))
      have SF : Hid (∀ w', Fr No w42 w' → Calls Tryd.prog 25 #[.slice none 0 0, .slice (some ⟨gf, 0, none⟩) L.length cf] w' fun en w2 => en = .returned (.bool false) ∧ Fr No w' w2) := hid (fun w' h => by
        have h := BS.out [] L none (some ⟨gf, 0, none⟩) 0 cf w' (LsAt.nil _ _) (A42.out.fr h) (by decide)
        rw [HML.out, decide_eq_false (show ¬ ([] : List (EvP × Ev)).map Prod.snd = fullL by decide)] at h
        exact h)
      have K0 : Fr No w42 w42 := Fr.refl _
      go_wp2_with (first
        | (go_at_call 26; (with_reducible refine (MS.out _ K0).mono ?_); rintro ez0 wz0 ⟨rfl, hz0⟩; have K1 := K0.trans hz0; clear MS)
        | (go_at_call 26; (with_reducible refine (OS.out _ K1).mono ?_); rintro ez1 wz1 ⟨rfl, hz1⟩; have K2 := K1.trans hz1; clear OS)
        | (go_at_call 22; (with_reducible refine (RJ0.out _ K2).mono ?_); rintro ez2 wz2 ⟨rfl, hz2⟩; have K3 := K2.trans hz2; clear RJ0)
        | (go_at_call 22; (with_reducible refine (RJ1.out _ K3).mono ?_); rintro ez3 wz3 ⟨rfl, hz3⟩; have K4 := K3.trans hz3; clear RJ1)
        | (go_at_call 22; (with_reducible refine (RJ2.out _ K4).mono ?_); rintro ez4 wz4 ⟨rfl, hz4⟩; have K5 := K4.trans hz4; clear RJ2)
        | (go_at_call 22; (with_reducible refine (RJ3.out _ K5).mono ?_); rintro ez5 wz5 ⟨rfl, hz5⟩; have K6 := K5.trans hz5; clear RJ3)
        | (go_at_call 22; (with_reducible refine (RJ4.out _ K6).mono ?_); rintro ez6 wz6 ⟨rfl, hz6⟩; have K7 := K6.trans hz6; clear RJ4)
        | (go_at_call 22; (with_reducible refine (RJ5.out _ K7).mono ?_); rintro ez7 wz7 ⟨rfl, hz7⟩; have K8 := K7.trans hz7; clear RJ5)
        | (go_at_call 22; (with_reducible refine (RJ6.out _ K8).mono ?_); rintro ez8 wz8 ⟨rfl, hz8⟩; have K9 := K8.trans hz8; clear RJ6)
        | (go_at_call 22; (with_reducible refine (RJ7.out _ K9).mono ?_); rintro ez9 wz9 ⟨rfl, hz9⟩; have K10 := K9.trans hz9; clear RJ7)
        | (go_at_call 22; (with_reducible refine (RJ8.out _ K10).mono ?_); rintro ez10 wz10 ⟨rfl, hz10⟩; have K11 := K10.trans hz10; clear RJ8)
        | (go_at_call 18; (with_reducible refine (MN.out _ K11).mono ?_); rintro ez11 wz11 ⟨rfl, hz11⟩; have K12 := K11.trans hz11; clear MN)
        | (go_at_call 18; (with_reducible refine (MF.out _ K12).mono ?_); rintro ez12 wz12 ⟨rfl, hz12⟩; have K13 := K12.trans hz12; clear MF)
        | (go_at_call 25; (with_reducible refine (SN.out _ K13).mono ?_); rintro ez13 wz13 ⟨rfl, hz13⟩; have K14 := K13.trans hz13; clear SN)
        | (go_at_call 25; (with_reducible refine (SF.out _ K14).mono ?_); rintro ez14 wz14 ⟨rfl, hz14⟩; have K15 := K14.trans hz14; clear SF)
        | fail)
      go_ret
      exact ⟨rfl, F42.trans K15⟩
end Go.Proofs.YtnmfmedoocnofaaDoor
