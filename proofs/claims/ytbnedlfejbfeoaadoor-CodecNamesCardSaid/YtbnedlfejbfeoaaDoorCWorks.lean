/-
  refused, both, works of the statements: the walks. No statement of the seat is proved here.
-/
import Derived.Test.YtbnedlfejbfeoaaDoorCodecPlain
import Derived.Test.YtbnedlfejbfeoaaDoorCRDec
import Derived.Test.YtbnedlfejbfeoaaDoorSameEvent6
import Derived.Laws.EntriesVeiled
namespace Go.Proofs.YtbnedlfejbfeoaaDoor
open Go.RowKit

theorem zeroAt (w : World) (s : EvP) : EvAt w s zeroE := ⟨by decide, by decide, SlAt.nil _ _, SlAt.nil _ _, by decide, by decide, by simp [zeroE], by simp [zeroE]⟩
theorem slat_lit {w : World} {b : Nat} {cs : Array Value} {t : TypeId} {xs : List Value} (h : w.heap[b]? = some (.cells cs t (0, 0))) (hx : cs.toList = xs) : SlAt w (some ⟨b, 0, none⟩) xs := fun i x hi => by
  refine ⟨b, 0, rfl, ?_⟩
  rw [cell_of_row w b (0 + i) cs t (0, 0) h, Nat.zero_add]
  subst hx
  simpa using hi
theorem sameS_self6 (a : Ev) : sameS a a = true := sameS_all rfl rfl rfl rfl

set_option maxHeartbeats 4000000 in
set_option maxRecDepth 100000 in
theorem refused_any (s : List UInt8) (k : Nat) (w : World) (hs : s.length ≤ 9223372036854775807) (hkt : KT w) (hd : decT s = (zeroE, k)) :
    Calls Tryd.prog 17 #[strV s, .int .i64 k] w fun en w' => en = .returned (.bool true) ∧ Fr No w w' := by
  have DE := hid (decode_any s w hs hkt)
  rw [hd] at DE
  have SM := hid (fun p w1 => (by
    have := sameEvent6_any p ⟨none, 0, none, 0⟩ zeroE zeroE w1 (zeroAt _ _) (zeroAt _ _)
    rwa [sameS_self6] at this : Calls Tryd.prog 23 #[evV p zeroE, evV ⟨none, 0, none, 0⟩ zeroE] w1 fun en w' => en = .returned (.bool true) ∧ Fr No w1 w'))
  have SM2 : Hid (∀ (p : EvP) w1, Calls Tryd.prog 23 #[.agg #[.int .u8 0, .int .u8 0, .slice p.qn 0 p.cn, .slice p.qt 0 p.ct], .agg #[.int .u8 0, .int .u8 0, .slice none 0 0, .slice none 0 0]] w1 fun en w' => en = .returned (.bool true) ∧ Fr No w1 w') := hid (fun p w1 => SM.out p w1)
  clear hs hkt hd SM
  unfold DecPost at DE
  unfold evV zeroE strV at *
  go_enter Tryd.func17, Tryd.ntmps17
  go_wp2_with (first
    | (go_at_call 24; (with_reducible refine DE.out.mono ?_); rintro e1 w1 ⟨p, rfl, hn1, hf1⟩)
    | (go_at_call 23; (with_reducible refine (SM2.out p _).mono ?_); rintro e2 w2 ⟨rfl, hf2⟩)
    | fail)
  go_ret
  exact ⟨rfl, (hf1.alloc _).trans hf2⟩

set_option maxHeartbeats 8000000 in
set_option maxRecDepth 100000 in
theorem both_any (s : EvP) (e : Ev) (t : List UInt8) (w : World) (he : EvAt w s e) (hkt : KT w) (hm : mayS e = true) (ht : encB e = t) :
    Calls Tryd.prog 14 #[evV s e, strV t] w fun en w' => en = .returned (.bool true) ∧ Fr No w w' := by
  have HF0 : Fr No w (w.alloc (.cells #[.int .u8 e.v, .int .u8 e.kind, .slice s.qn e.nums.length s.cn, .slice s.qt e.texts.length s.ct] 26)) := (Fr.refl w).alloc _
  have g0 := Go.heap_alloc_new w (.cells #[.int .u8 e.v, .int .u8 e.kind, .slice s.qn e.nums.length s.cn, .slice s.qt e.texts.length s.ct] 26)
  have HG0 := hid g0
  have hl := evB_length hm
  have htl : t.length ≤ 201 := by rw [← ht]; simp [encB]; omega
  have EN := hid (fun w1 (h : Fr No w w1) => encode_any s e w1 (he.fr h) (hkt.fr h))
  have SZ := hid (fun w1 (h : Fr No w w1) => size_any s e w1 (he.fr h) (hkt.fr h))
  rw [hm] at EN SZ
  simp only [if_true] at EN SZ
  have hd : decT t = (e, 0) := by
    have := dec_enc hm []
    rw [List.append_nil, if_pos rfl, ht] at this
    exact this
  have DE := hid (fun w1 (h : Fr No w w1) => decode_any t w1 (by omega) (hkt.fr h))
  rw [hd] at DE
  rw [ht] at EN SZ
  have SM := hid (fun B p w1 (hn : EvNew B w1 p e) (h : Fr No w w1) => (by
    have := sameEvent6_any p s e e w1 (hn.may hm (may_kind hm)) (he.fr h)
    rwa [sameS_self6] at this : Calls Tryd.prog 23 #[evV p e, evV s e] w1 fun en w' => en = .returned (.bool true) ∧ Fr No w1 w'))
  clear hl hd he hkt hm ht g0
  unfold DecPost at DE
  unfold evV strV at *
  go_enter Tryd.func14, Tryd.ntmps14
  go_wp2_with (first
    | (go_at_call 13; (with_reducible refine (EN.out _ HF0).mono ?_); rintro e1 w1 ⟨rfl, hf1⟩)
    | (go_at_call 24; (with_reducible refine (DE.out _ (HF0.trans hf1)).mono ?_); rintro e2 w2 ⟨p, rfl, hn2, hf2⟩; obtain ⟨c0, c1, c2, c3, _, _, _, _⟩ := Go.Proofs.YtbnedlfejbfeoaaDoor.cells4 (hf2.heap0 (hf1.heap0 HG0.out)); have zl : w.heap.size < w2.heap.size := World.block_lt_of_cell? w2 _ c0)
    | (go_at_call 23; (with_reducible refine (SM.out _ p _ (hn2.fr ((Fr.refl _).alloc _)) (((HF0.trans hf1).trans hf2).alloc _)).mono ?_); rintro e3 w3 ⟨rfl, hf3⟩; have hd0 := ((Fr.refl w2).alloc _ |>.trans hf3).cell0 c0; have hd1 := ((Fr.refl w2).alloc _ |>.trans hf3).cell0 c1; have hd2 := ((Fr.refl w2).alloc _ |>.trans hf3).cell0 c2; have hd3 := ((Fr.refl w2).alloc _ |>.trans hf3).cell0 c3; clear c0 c1 c2 c3)
    | (go_at_call 15; (with_reducible refine (SZ.out _ ((((HF0.trans hf1).trans hf2).alloc _).trans hf3)).mono ?_); rintro e4 w4 ⟨rfl, hf4⟩)
    | fail)
  go_ret
  exact ⟨rfl, ((((HF0.trans hf1).trans hf2).alloc _).trans hf3).trans hf4⟩

theorem event6_any (v k : Int) (x : Value) (q : Option Addr) (n cap : Nat) (hx : x = .slice q n cap) (w : World) :
    Calls Tryd.prog 11 #[.int .u8 v, .int .u8 k, x] w fun en w' => en = .returned (.agg #[.int .u8 v, .int .u8 k, .slice q n cap, .slice none 0 0]) ∧ Fr No w w' := by
  subst hx
  go_enter Tryd.func11, Tryd.ntmps11
  go_wp2
  refine bodyPost_ret (Go.results_cell_row rfl _ _ w.heap.size 26 _ (0, 0) _ rfl (Go.heap_alloc_new _ _) Tryd.underlying26 rfl (by kernel_rfl)) rfl ⟨rfl, (Fr.refl w).alloc _⟩
theorem named6_any (v k : Int) (t : List UInt8) (q : Option Addr) (n cap : Nat) (w : World) :
    Calls Tryd.prog 12 #[.int .u8 v, .int .u8 k, strV t, .slice q n cap] w fun en w' => ∃ g, en = .returned (.agg #[.int .u8 v, .int .u8 k, .slice q n cap, .slice (some ⟨g, 0, none⟩) 1 1]) ∧ SlAt w' (some ⟨g, 0, none⟩) [strV t] ∧ Fr No w w' := by
  unfold strV
  go_enter Tryd.func12, Tryd.ntmps12
  go_wp2
  have g0 : ((w.alloc (.cells #[.int .u8 v, .int .u8 k, .slice q n cap, .slice (some ⟨w.heap.size + 1, 0, none⟩) 1 1] 26)).alloc (.cells #[.string ⟨t.toArray⟩] 9)).heap[w.heap.size]? = some (.cells #[.int .u8 v, .int .u8 k, .slice q n cap, .slice (some ⟨w.heap.size + 1, 0, none⟩) 1 1] 26 (0, 0)) := by
    rw [Below.heap_alloc _ _ _ (by simp)]; exact Go.heap_alloc_new _ _
  have g1 := Go.heap_alloc_new (w.alloc (.cells #[.int .u8 v, .int .u8 k, .slice q n cap, .slice (some ⟨w.heap.size + 1, 0, none⟩) 1 1] 26)) (.cells #[.string ⟨t.toArray⟩] 9)
  simp only [World.size_alloc] at g1
  refine bodyPost_ret (Go.results_cell_row rfl _ _ w.heap.size 26 _ (0, 0) _ rfl g0 Tryd.underlying26 rfl (by kernel_rfl)) rfl ⟨w.heap.size + 1, rfl, slat_lit g1 rfl, ((Fr.refl w).alloc _).alloc _⟩

def evA : Ev := ⟨3, 6, [1, 500], []⟩
def evB2 : Ev := ⟨3, 1, [2], [[97, 98]]⟩
theorem works_plain : (mayS evA = true ∧ encB evA = [3, 6, 1, 244, 3]) ∧ (mayS evB2 = true ∧ encB evB2 = [3, 1, 2, 2, 97, 98]) ∧ decT [3, 6, 0, 5] = (zeroE, 4) ∧ decT [4, 6, 1, 5] = (zeroE, 43) ∧ decT [1, 21, 1, 2, 3] = (zeroE, 4) := by decide +kernel

set_option maxHeartbeats 8000000 in
set_option maxRecDepth 100000 in
theorem works_any (w : World) (hkt : KT w) : Calls Tryd.prog 10 #[] w fun en w' => en = .returned (.bool true) ∧ Fr No w w' := by
  obtain ⟨⟨p1, p2⟩, ⟨p3, p4⟩, p5, p6, p7⟩ := works_plain
  have EV := hid (fun (v k : Int) (q : Option Addr) (n cap : Nat) w1 => event6_any v k _ q n cap rfl w1)
  have NM : Hid (∀ (q : Option Addr) (n cap : Nat) w1, Calls Tryd.prog 12 #[.int .u8 3, .int .u8 1, .string ⟨#[97, 98]⟩, .slice q n cap] w1 fun en w' => ∃ g, en = .returned (.agg #[.int .u8 3, .int .u8 1, .slice q n cap, .slice (some ⟨g, 0, none⟩) 1 1]) ∧ SlAt w' (some ⟨g, 0, none⟩) [strV [97, 98]] ∧ Fr No w1 w') := hid (fun q n cap w1 => named6_any 3 1 [97, 98] q n cap w1)
  have B1 : Hid (∀ (q : Option Addr) w1, SlAt w1 q [.int .i64 1, .int .i64 500] → Fr No w w1 → Calls Tryd.prog 14 #[.agg #[.int .u8 3, .int .u8 6, .slice q 2 2, .slice none 0 0], .string ⟨#[3, 6, 1, 244, 3]⟩] w1 fun en w' => en = .returned (.bool true) ∧ Fr No w1 w') := hid (fun q w1 h hf =>
    both_any ⟨q, 2, none, 0⟩ evA [3, 6, 1, 244, 3] w1 ⟨by decide, by decide, h, SlAt.nil _ _, by decide, by decide, by decide, by decide⟩ (hkt.fr hf) p1 p2)
  have B2 : Hid (∀ (q g : Option Addr) w1, SlAt w1 q [.int .i64 2] → SlAt w1 g [strV [97, 98]] → Fr No w w1 → Calls Tryd.prog 14 #[.agg #[.int .u8 3, .int .u8 1, .slice q 1 1, .slice g 1 1], .string ⟨#[3, 1, 2, 2, 97, 98]⟩] w1 fun en w' => en = .returned (.bool true) ∧ Fr No w1 w') := hid (fun q g w1 h h2 hf =>
    both_any ⟨q, 1, g, 1⟩ evB2 [3, 1, 2, 2, 97, 98] w1 ⟨by decide, by decide, h, h2, by decide, by decide, by decide, by decide⟩ (hkt.fr hf) p3 p4)
  have R1 : Hid (∀ w1, Fr No w w1 → Calls Tryd.prog 17 #[.string ⟨#[3, 6, 0, 5]⟩, .int .i64 4] w1 fun en w' => en = .returned (.bool true) ∧ Fr No w1 w') := hid (fun w1 hf => refused_any [3, 6, 0, 5] 4 w1 (by decide) (hkt.fr hf) p5)
  have R2 : Hid (∀ w1, Fr No w w1 → Calls Tryd.prog 17 #[.string ⟨#[4, 6, 1, 5]⟩, .int .i64 43] w1 fun en w' => en = .returned (.bool true) ∧ Fr No w1 w') := hid (fun w1 hf => refused_any [4, 6, 1, 5] 43 w1 (by decide) (hkt.fr hf) p6)
  have R3 : Hid (∀ w1, Fr No w w1 → Calls Tryd.prog 17 #[.string ⟨#[1, 21, 1, 2, 3]⟩, .int .i64 4] w1 fun en w' => en = .returned (.bool true) ∧ Fr No w1 w') := hid (fun w1 hf => refused_any [1, 21, 1, 2, 3] 4 w1 (by decide) (hkt.fr hf) p7)
  have S1 := hid (fun w1 (h : Fr No (w.alloc (.cells #[.int .i64 1, .int .i64 500] 2)) w1) => slat_lit (xs := [.int .i64 1, .int .i64 500]) (h.heap0 (Go.heap_alloc_new _ _)) rfl)
  have S2 := hid (fun w3 w1 (h : Fr No (w3.alloc (.cells #[.int .i64 2] 2)) w1) => slat_lit (xs := [.int .i64 2]) (h.heap0 (Go.heap_alloc_new w3 _)) rfl)
  clear hkt p1 p2 p3 p4 p5 p6 p7
  unfold strV at *
  go_enter Tryd.func10, Tryd.ntmps10
  go_wp2_with (first
    | (go_at_call 11; (with_reducible refine (EV.out _ _ _ _ _ _).mono ?_); rintro e1 w1 ⟨rfl, hf1⟩)
    | (go_at_call 14; (with_reducible refine (B1.out _ _ (S1.out _ hf1) (((Fr.refl w).alloc _).trans hf1)).mono ?_); rintro e2 w2 ⟨rfl, hf2⟩; have F2 := (((Fr.refl w).alloc (.cells #[.int .i64 1, .int .i64 500] 2)).trans hf1).trans hf2)
    | (go_at_call 12; (with_reducible refine (NM.out _ _ _ _).mono ?_); rintro e3 w3 ⟨g, rfl, hs3, hf3⟩; have hq3 := S2.out w2 w3 hf3; have F3 := (F2.alloc (.cells #[.int .i64 2] 2)).trans hf3)
    | (go_at_call 14; (with_reducible refine (B2.out _ _ _ hq3 hs3 F3).mono ?_); rintro e4 w4 ⟨rfl, hf4⟩; have F4 := F3.trans hf4)
    | (go_at_call 17; (with_reducible refine (R1.out _ F4).mono ?_); rintro e5 w5 ⟨rfl, hf5⟩; have F5 := F4.trans hf5)
    | (go_at_call 17; (with_reducible refine (R2.out _ F5).mono ?_); rintro e6 w6 ⟨rfl, hf6⟩; have F6 := F5.trans hf6)
    | (go_at_call 17; (with_reducible refine (R3.out _ F6).mono ?_); rintro e7 w7 ⟨rfl, hf7⟩; have F7 := F6.trans hf7)
    | fail)
  go_ret
  exact ⟨rfl, F7⟩
end Go.Proofs.YtbnedlfejbfeoaaDoor
