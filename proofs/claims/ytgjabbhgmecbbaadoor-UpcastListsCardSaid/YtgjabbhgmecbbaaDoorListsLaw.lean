/-
  UpcastLists: the walk.
-/
import Derived.Test.YtgjabbhgmecbbaaDoorAwake7
import Derived.Test.YtgjabbhgmecbbaaDoorOpenEs
import Derived.Test.YtgjabbhgmecbbaaDoorSameL
import Derived.Test.YtgjabbhgmecbbaaDoorListsPlain
import Derived.Test.YtgjabbhgmecbbaaDoorOneLaw7
namespace Go.Proofs.YtgjabbhgmecbbaaDoor
open Go.RowKit

theorem lwrap_u64 (n : Int) : ∃ A : Nat, IntKind.u64.wrap n = (A : Int) ∧ A ≤ 18446744073709551615 := by
  have h : IntKind.u64.wrap n = n % 18446744073709551616 := by simp [IntKind.wrap, IntKind.signed, IntKind.bits]
  refine ⟨(n % 18446744073709551616).toNat, ?_, by omega⟩
  rw [h]; omega
/-- Lowest, where it tells a list. -/
theorem low_good {l : List (EvP × Ev)} {q : Option Addr} {cap v u : Nat} {w : World} (hl : LsAt w q l) (hkt : KT w) (hn : l.length ≤ 1000000) (hv : v ≤ 255) (hb : anyBad l = false) (ho : lowO l v = some u) :
    Calls Tryd.prog 16 #[.slice q l.length cap, .int .u8 v] w fun en w' => ∃ (L : List (EvP × Ev)) (q' : Option Addr) (cap' : Nat), en = .returned (.tuple #[.int .u8 u, .slice q' L.length cap', .int .i64 0]) ∧ Told l L u ∧ L.map Prod.snd = l.map (fun p => (toR p.2 u).1) ∧ LsAt w' q' L ∧ Fr No w w' := by
  refine (lowest_any l q cap v w hl hkt hn hv).mono fun en w' hp => ?_
  obtain ⟨hf, hp⟩ := hp
  rcases hp with ⟨h1, _⟩ | ⟨_, h2, _⟩ | ⟨_, u', L, q', cap', h3, h4, h5, h6⟩
  · rw [hb] at h1; cases h1
  · rw [ho] at h2; cases h2
  · rw [ho] at h3
    obtain rfl := Option.some.inj h3
    have ht := told_of h5 (lowO_some ho).2.2.2.1
    exact ⟨L, q', cap', h4, ht, h5, h6.at_ (fun p hp => ⟨ht.may hp, may_kind (ht.may hp)⟩), hf⟩
theorem low_none {l : List (EvP × Ev)} {q : Option Addr} {cap v : Nat} {w : World} (hl : LsAt w q l) (hkt : KT w) (hn : l.length ≤ 1000000) (hv : v ≤ 255) (hb : anyBad l = true ∨ lowO l v = none) :
    Calls Tryd.prog 16 #[.slice q l.length cap, .int .u8 v] w fun en w' => ∃ k : Int, k ≠ 0 ∧ en = .returned (.tuple #[.int .u8 0, .slice none 0 0, .int .i64 k]) ∧ Fr No w w' := by
  refine (lowest_any l q cap v w hl hkt hn hv).mono fun en w' hp => ?_
  obtain ⟨hf, hp⟩ := hp
  rcases hp with ⟨h1, h2⟩ | ⟨_, h1, h2⟩ | ⟨h1, u', L, q', cap', h3, _⟩
  · exact ⟨4, by decide, h2, hf⟩
  · exact ⟨43, by decide, h2, hf⟩
  · rcases hb with hb | hb
    · rw [hb] at h1; cases h1
    · rw [hb] at h3; cases h3

set_option maxHeartbeats 8000000 in
set_option maxRecDepth 100000 in
theorem lists_long (l : List (EvP × Ev)) (q : Option Addr) (cap v : Nat) (n : Int) (w : World) (hl : LsAt w q l) (hn : l.length ≤ 17592186044416) (hs : ∀ p, p ∈ l → p.2.nums.length ≤ 17592186044416 ∧ p.2.texts.length ≤ 8796093022208) (hkt : KT w) (h60 : 60 < l.length) :
    Calls Tryd.prog 6 #[.slice q l.length cap, .int .u8 v, .int .i64 n] w fun en w' => en = .returned (.bool true) ∧ Fr No w w' := by
  have AW := hid (fun w1 (h : Fr No w w1) => awake7_any w1 (hkt.fr h))
  have MA := hid ((many_any l q cap w hl hn hs).mono (fun en w' h => (by
    obtain ⟨b, h1, h2, h3⟩ := h
    cases b
    · exact absurd (h2 rfl) (by omega)
    · exact ⟨h1, h3⟩ : en = .returned (.bool true) ∧ Fr No w w')))
  clear hl hs hkt h60
  go_enter Tryd.func6, Tryd.ntmps6
  go_wp2_with (first
    | (go_at_call 8; (with_reducible refine MA.out.mono ?_); rintro e1 w1 ⟨rfl, hf1⟩)
    | (go_at_call 9; (with_reducible refine (AW.out _ hf1).mono ?_); rintro e2 w2 ⟨rfl, hf2⟩))
  go_ret
  exact ⟨rfl, hf1.trans hf2⟩

set_option maxHeartbeats 8000000 in
set_option maxRecDepth 100000 in
theorem lists_none (l : List (EvP × Ev)) (q : Option Addr) (cap v : Nat) (n : Int) (w : World) (hl : LsAt w q l) (hv : v ≤ 255) (hs : ∀ p, p ∈ l → p.2.nums.length ≤ 17592186044416 ∧ p.2.texts.length ≤ 8796093022208) (hkt : KT w) (h60 : l.length ≤ 60)
    (hb : anyBad l = true ∨ lowO l v = none) :
    Calls Tryd.prog 6 #[.slice q l.length cap, .int .u8 v, .int .i64 n] w fun en w' => en = .returned (.bool true) ∧ Fr No w w' := by
  have AW := hid (fun w1 (h : Fr No w w1) => awake7_any w1 (hkt.fr h))
  have MA := hid (many_any l q cap w hl (by omega) hs)
  have LO := hid (fun w1 (h : Fr No w w1) => low_none (cap := cap) (hl.fr h) (hkt.fr h) (by omega) hv hb)
  clear hl hs hkt hb
  go_enter Tryd.func6, Tryd.ntmps6
  go_wp2_with (first
    | (go_at_call 8; (with_reducible refine MA.out.mono ?_); intro e1 w1 h1; obtain ⟨b, rfl, _, hf1⟩ := h1; cases b)
    | (go_at_call 9; (with_reducible refine (AW.out _ hf1).mono ?_); rintro e2 w2 ⟨rfl, hf2⟩)
    | (go_at_call 16; (with_reducible refine (LO.out _ (hf1.trans hf2)).mono ?_); rintro e3 w3 ⟨k, hk, rfl, hf3⟩; have z1 : (k != 0) = true := (by rw [bne, beq_eq_false_iff_ne.2 hk]; rfl); clear hk))
  all_goals
    go_ret
    first | exact ⟨rfl, hf1.trans hf2⟩ | exact ⟨rfl, (hf1.trans hf2).trans hf3⟩
theorem LsAt.take {w : World} {q : Option Addr} {l : List (EvP × Ev)} (h : LsAt w q l) (k : Nat) : LsAt w q (l.take k) := fun i s e hi => by
  rw [List.getElem?_take] at hi
  split at hi
  · exact h i s e hi
  · cases hi
set_option maxHeartbeats 32000000 in
set_option maxRecDepth 100000 in
theorem lists_ok (l : List (EvP × Ev)) (q : Option Addr) (cap v : Nat) (n : Int) (w : World) (hl : LsAt w q l) (hcap : l.length ≤ cap) (hv : v ≤ 255) (hs : ∀ p, p ∈ l → p.2.nums.length ≤ 17592186044416 ∧ p.2.texts.length ≤ 8796093022208) (hkt : KT w) (h60 : l.length ≤ 60)
    (hb : anyBad l = false) (u : Nat) (ho : lowO l v = some u) :
    Calls Tryd.prog 6 #[.slice q l.length cap, .int .u8 v, .int .i64 n] w fun en w' => en = .returned (.bool true) ∧ Fr No w w' := by
  have AW := hid (fun w1 (h : Fr No w w1) => awake7_any w1 (hkt.fr h))
  have MA := hid (many_any l q cap w hl (by omega) hs)
  have LO := hid (fun w1 (h : Fr No w w1) => low_good (cap := cap) (hl.fr h) (hkt.fr h) (by omega) hv hb ho)
  obtain ⟨p1, p2, p3, p4, p5⟩ := lowO_some ho
  have LA := hid (fun w1 (h : Fr No w w1) => hl.fr h)
  have NW := hid (fun s e w1 (hE : EvAt w1 s e) (hm : mayS e = true) (h : Fr No w w1) => (by
    have h1 := newest_any s e w1 hE (hkt.fr h)
    unfold newestR at h1
    rwa [if_pos hm] at h1 : Calls Tryd.prog 23 #[evV s e] w1 (UpPost w1 (topS e, 0))))
  have TW := hid (fun s e x w1 (hE : EvAt w1 s e) (h : Fr No w w1) => to_any s e x w1 hE (hkt.fr h))
  have LK := hid (fun k w1 (hk : k ≤ l.length) (h : Fr No w w1) => (by
    obtain ⟨x, hx, hxu⟩ := lowO_of p1 p2 p3 (allOK_take (k := k) p4)
    have h1 := low_good (cap := cap) ((hl.take k).fr h) (hkt.fr h) (by rw [List.length_take]; omega) hv (anyBad_take hb) hx
    have hlk : (l.take k).length = k := by rw [List.length_take]; omega
    rw [hlk] at h1
    refine h1.mono fun en w' hp => ?_
    obtain ⟨L, q', cap', h2, h3, _, _, h4⟩ := hp
    exact ⟨x, L, q', cap', hxu, h2, h3.len.trans hlk, h4⟩ : Calls Tryd.prog 16 #[.slice q k cap, .int .u8 v] w1 fun en w' => ∃ (x : Nat) (L : List (EvP × Ev)) (q' : Option Addr) (cap' : Nat), x ≤ u ∧ en = .returned (.tuple #[.int .u8 x, .slice q' L.length cap', .int .i64 0]) ∧ L.length = k ∧ Fr No w1 w'))
  have LG := hid (fun (L : List (EvP × Ev)) (qL : Option Addr) (cL : Nat) w1 (hT : Told l L u) (hL : LsAt w1 qL L) (h : Fr No w w1) => (by
    have h1 := low_good (cap := cL) hL (hkt.fr h) (by rw [hT.len]; omega) hv hT.bad ((hT.low v).trans ho)
    refine h1.mono fun en w' hp => ?_
    obtain ⟨L2, q', cap', h2, h3, h4, h5, h6⟩ := hp
    exact ⟨L2, q', cap', h2, h3.len.trans hT.len, hT.again h4, h5, h6⟩ : Calls Tryd.prog 16 #[.slice qL L.length cL, .int .u8 v] w1 fun en w' => ∃ (L2 : List (EvP × Ev)) (q' : Option Addr) (cap' : Nat), en = .returned (.tuple #[.int .u8 u, .slice q' L2.length cap', .int .i64 0]) ∧ L2.length = l.length ∧ L2.map Prod.snd = L.map Prod.snd ∧ LsAt w' q' L2 ∧ Fr No w1 w'))
  have HB := hid hb
  have HOK := hid p4
  have H5 := hid p5
  have e1 : decide (u < v) = false := by simp; omega
  have e2 : decide ((3 : Int) < (u : Int)) = false := by simp; omega
  clear hl hs hkt hb ho p4 p5
  go_enter Tryd.func6, Tryd.ntmps6
  go_upto_region 8 with (first
    | (go_at_call 8; (with_reducible refine MA.out.mono ?_); intro e1 w1 h1; obtain ⟨b, rfl, _, hf1⟩ := h1; cases b)
    | (go_at_call 9; (with_reducible refine (AW.out _ hf1).mono ?_); rintro e2 w2 ⟨rfl, hf2⟩)
    | (go_at_call 16; (with_reducible refine (LO.out _ (hf1.trans hf2)).mono ?_); rintro e3 w3 ⟨L, qL, cL, rfl, hT, hmap, hLA, hf3⟩; have zl : ((L.length : Int) != (l.length : Int)) = false := (by simp [hT.len]); have HL := hid (And.intro hT hmap); have HLA := hid (fun w1 (h : Fr No w3 w1) => hLA.fr h); clear hT hmap hLA))
  all_goals first | (go_ret; exact ⟨rfl, hf1.trans hf2⟩) | skip
  have F3 := (hf1.trans hf2).trans hf3
  clear hf1 hf2 hf3 MA AW LO zl e1 e2
  have hLl : L.length ≤ 60 := by rw [HL.out.1.len]; exact h60
  have HLEN := hid HL.out.1.len
  go_wp2_with fail
  go_loopg [10] l.length (fun k i wr => ∃ m : Nat, m ≤ l.length ∧ l.length ≤ m + k ∧ i = .int .i64 m ∧ Fr No w3 wr)
  case atStart => exact ⟨0, Nat.zero_le _, by omega, rfl, Fr.refl _⟩
  case round =>
    obtain ⟨m, hm, hk, rfl, hf⟩ := hrel
    have FW := F3.trans hf
    by_cases hlt : m < l.length
    · obtain ⟨⟨s, e⟩, hp⟩ : ∃ p, l[m]? = some p := ⟨_, List.getElem?_eq_getElem hlt⟩
      obtain ⟨⟨t, x⟩, hx⟩ : ∃ p, L[m]? = some p := ⟨_, List.getElem?_eq_getElem (by have := HLEN.out; omega)⟩
      obtain ⟨hE, b, o, hq1, c0, c1, c2, c3⟩ := LA.out _ FW m s e hp
      obtain ⟨hX, g, z, hq2, d0, d1, d2, d3⟩ := HLA.out _ hf m t x hx
      subst hq1 hq2
      obtain ⟨s', e', hp', hx0, hz0⟩ := HL.out.1.each m t x hx
      rw [hp] at hp'
      obtain ⟨rfl, rfl⟩ : s = s' ∧ e = e' := by simpa using hp'
      obtain ⟨k1, _, _, k4, k5, k6, _, _⟩ := toR_told hz0
      rw [← hx0] at k4 k5 k6
      have i1 : (m : Int) < (l.length : Int) := by omega
      have i1' : (m : Int) < (L.length : Int) := by have := HLEN.out; omega
      have i2 : (0 : Int) ≤ (m : Int) := by omega
      have i4 : (m : Int) + 1 ≤ 1000001 := by omega
      have NE := hid (NW.out s e wr hE k1 FW)
      have NX := hid (fun w1 (h : Fr No wr w1) => NW.out t x w1 (hX.fr h) k4 (FW.trans h))
      have htm : mayS (topS e) = true := upTo_may _ _ k1 (by have := may_is k1; omega)
      have ST := hid (fun (s' t' : EvP) w1 (h1 : EvNew wr.heap.size w1 s' (topS e)) (h2 : EvNew wr.heap.size w1 t' (topS e)) => same_any s' t' (topS e) (topS e) w1 (h1.may htm (may_kind htm)) (h2.may htm (may_kind htm)))
      rw [sameS_refl] at ST
      rw [k6] at NX
      generalize topS e = T at NE NX ST
      unfold UpPost evV at NE NX
      unfold evV at ST
      rw [k5] at NX d0
      clear hp hx hE hX hx0 hz0 hp' k1 k4 k5 k6 htm
      go_wp2_with (first
        | (go_at_call 23; (with_reducible refine NE.out.mono ?_); rintro e8 w8 ⟨s8, rfl, hn8, hf8⟩; replace d0 := hf8.cell0 d0; replace d1 := hf8.cell0 d1; replace d2 := hf8.cell0 d2; replace d3 := hf8.cell0 d3; have zl8 : g < w8.heap.size := World.block_lt_of_cell? w8 _ d0; clear c0 c1 c2 c3)
        | (go_at_call 23; (with_reducible refine (NX.out _ (hf8.alloc _)).mono ?_); rintro e9 w9 ⟨s9, rfl, hn9, hf9⟩; have hD0 := ((Fr.refl w8).alloc _ |>.trans hf9).cell0 d0; clear d0 d1 d2 d3; obtain ⟨k0, k1, k2, k3, _, _, _, _⟩ := Go.Proofs.YtgjabbhgmecbbaaDoor.cells4 (hf9.heap0 (Go.heap_alloc_new w8 (.cells #[.int .u8 T.v, .int .u8 T.kind, .slice s8.qn T.nums.length s8.cn, .slice s8.qt T.texts.length s8.ct] 25))); have zl9 : w8.heap.size < w9.heap.size := World.block_lt_of_cell? w9 _ k0)
        | (go_at_call 22; (with_reducible refine (ST.out s8 s9 _ ((hn8.fr ((Fr.refl _).alloc _)).fr (hf9.alloc _)) ((hn9.mono (hf8.alloc _).size).fr ((Fr.refl _).alloc _))).mono ?_); rintro eA wA ⟨rfl, hfA⟩; have hDA := ((Fr.refl w9).alloc _ |>.trans hfA).cell0 hD0; clear hD0 k0 k1 k2 k3))
      go_roundg (gk - 1)
      case measure => omega
      case rel => exact ⟨m + 1, by omega, by omega, by go_num, (hf.trans (hf8.alloc _)).trans ((hf9.alloc _).trans hfA)⟩
    · obtain rfl : m = l.length := by omega
      clear hlt hk hm NW
      go_wp2_with fail
      go_loopg [15] 4 (fun k i wq => ∃ y : Nat, v ≤ y ∧ y ≤ u ∧ u ≤ y + k ∧ i = .int .u8 y ∧ Fr No w3 wq)
      case atStart => exact ⟨v, by omega, by omega, by omega, rfl, hf⟩
      case round =>
        rename World => wq
        obtain ⟨y, hy1, hy2, hyk, rfl, hfq⟩ := hrel
        have FQ := F3.trans hfq
        by_cases hyu : y < u
        · have d1 : decide (y < u) = true := by simpa using hyu
          have HNO : Hid (allOK l y = false) := hid (H5.out y hy1 hyu)
          have j1 : (y : Int) + 1 ≤ 255 := by omega
          have j2 : (0 : Int) ≤ (y : Int) + 1 := by omega
          obtain ⟨go, hgo⟩ : ∃ g, g = gk := ⟨gk, rfl⟩
          have hyk2 : u ≤ y + go := by omega
          have HGO := hid hgo
          clear hgo hyk
          go_wp2_with fail
          go_loopg [16, 17] l.length (fun k b i wz => ∃ (m : Nat) (B : Bool), m ≤ l.length ∧ l.length ≤ m + k ∧ i = .int .i64 m ∧ b = .bool B ∧ Hid (B = allOK (l.take m) y) ∧ Fr No w3 wz)
          case atStart => exact ⟨0, true, Nat.zero_le _, by omega, rfl, rfl, hid rfl, hfq⟩
          case round =>
            rename World => wz
            obtain ⟨m, B, hm, hk2, rfl, rfl, HBm, hfz⟩ := hrel
            have FZ := F3.trans hfz
            by_cases hlt : m < l.length
            · obtain ⟨⟨s, e⟩, hp⟩ : ∃ p, l[m]? = some p := ⟨_, List.getElem?_eq_getElem hlt⟩
              obtain ⟨hE, b, o, hq1, c0, c1, c2, c3⟩ := LA.out _ FZ m s e hp
              subst hq1
              have i1 : (m : Int) < (l.length : Int) := by omega
              have i2 : (0 : Int) ≤ (m : Int) := by omega
              have i4 : (m : Int) + 1 ≤ 1000001 := by omega
              have TE := hid (TW.out s e y wz hE FZ)
              have HNX : Hid (allOK (l.take (m + 1)) y = (B && decide ((toR e y).2 = 0))) := hid (by
                rw [List.take_succ_eq_append_getElem hlt, (List.getElem?_eq_some_iff.1 hp).2, HBm.out]
                unfold allOK
                rw [List.all_append]
                simp)
              generalize toR e y = R at TE HNX
              clear hp hE
              unfold UpPost evV at TE
              cases B
              · go_wp2_with (first
                  | (go_at_call 14; (with_reducible refine TE.out.mono ?_); rintro e8 w8 ⟨s8, rfl, hn8, hf8⟩))
                go_roundg (gk - 1)
                case measure => omega
                case rel => exact ⟨m + 1, false, by omega, by omega, by go_num, rfl, hid (by rw [HNX.out]; rfl), hfz.trans (hf8.alloc _)⟩
              · by_cases hz : R.2 = 0
                · have z1 : (R.2 == 0) = true := by rw [hz]; rfl
                  have HZ : Hid (allOK (l.take (m + 1)) y = true) := hid (by rw [HNX.out, hz]; rfl)
                  clear hz
                  go_wp2_with (first
                    | (go_at_call 14; (with_reducible refine TE.out.mono ?_); rintro e8 w8 ⟨s8, rfl, hn8, hf8⟩))
                  go_roundg (gk - 1)
                  case measure => omega
                  case rel => exact ⟨m + 1, true, by omega, by omega, by go_num, rfl, hid HZ.out.symm, hfz.trans (hf8.alloc _)⟩
                · have z1 : (R.2 == 0) = false := by rw [beq_eq_false_iff_ne]; exact hz
                  have HZ : Hid (allOK (l.take (m + 1)) y = false) := hid (by rw [HNX.out]; simp [hz])
                  clear hz
                  go_wp2_with (first
                    | (go_at_call 14; (with_reducible refine TE.out.mono ?_); rintro e8 w8 ⟨s8, rfl, hn8, hf8⟩))
                  go_roundg (gk - 1)
                  case measure => omega
                  case rel => exact ⟨m + 1, false, by omega, by omega, by go_num, rfl, hid HZ.out.symm, hfz.trans (hf8.alloc _)⟩
            · obtain rfl : m = l.length := by omega
              rw [List.take_length] at HBm
              have hBf : B = false := HBm.out.trans HNO.out
              clear hlt hm hk2 HBm
              subst hBf
              go_wp2_with fail
              go_roundg (go - 1)
              case measure => have := HGO.out; omega
              case rel => exact ⟨y + 1, by omega, by omega, by omega, by go_num, hfz⟩
        · obtain rfl : y = u := by omega
          clear hyu hyk H5 TW
          go_upto_region 26 with fail
          go_cut [20] from 27 (fun x w' => w' = wq ∧ ∃ k : Nat, x = .int .i64 k ∧ k ≤ l.length)
          case first =>
            obtain ⟨A, hA, hA2⟩ := lwrap_u64 n
            have hL : IntKind.u64.wrap ((l.length : Int) + 1) = ((l.length + 1 : Nat) : Int) := by rw [IntWalk.u64_in _ (by omega)]; omega
            have hR : (A : Int).tmod ((l.length + 1 : Nat) : Int) = ((A % (l.length + 1) : Nat) : Int) := rfl
            have hlt : A % (l.length + 1) < l.length + 1 := Nat.mod_lt _ (by omega)
            have hK : IntKind.i64.wrap ((A % (l.length + 1) : Nat) : Int) = ((A % (l.length + 1) : Nat) : Int) := IntWalk.i64_in _ (by omega)
            have hne0 : ((l.length + 1 : Nat) : Int) ≠ 0 := by omega
            generalize A % (l.length + 1) = k at hR hlt hK
            generalize ((l.length + 1 : Nat) : Int) = N at hL hR hne0
            go_wp2_with fail
            go_meet
            case rel => exact ⟨rfl, k, rfl, by omega⟩
          obtain ⟨rfl, k, rfl, hk⟩ := hcut
          have s1 : (0 : Int) ≤ (k : Int) := by omega
          have s2 : (k : Int) ≤ (cap : Int) := by omega
          have s3 : (k : Int) ≤ (l.length : Int) := by omega
          have LKk := hid (LK.out k _ hk FQ)
          clear LK hk
          go_wp2_with (first
            | (go_at_call 16; (with_reducible refine LKk.out.mono ?_); rintro e5 w5 ⟨x, L1, q1, c1, hxu, rfl, hL1, hf5⟩; have zx : decide (x ≤ y) = true := (by simpa using hxu); subst hL1)
            | (go_at_call 16; (with_reducible refine (LG.out L qL cL _ HL.out.1 (HLA.out _ (hfq.trans hf5)) (FQ.trans hf5)).mono ?_); rintro e6 w6 ⟨L2, q2, c2, rfl, hl2, hm2, hA2, hf6⟩; have hRS := rsameL_any L2 L q2 qL c2 cL w6 hA2 (HLA.out _ ((hfq.trans hf5).trans hf6)) (by omega); have hsl : sameL L2 L = true := (by unfold sameL; rw [hm2]; simp); rw [hsl] at hRS; have HRS := hid hRS; clear hRS hsl hl2 hm2 hA2)
            | (go_at_call 18; (with_reducible refine HRS.out.mono ?_); rintro e7 w7 ⟨rfl, hf7⟩))
          go_ret
          exact ⟨rfl, ((FQ.trans hf5).trans hf6).trans hf7⟩
/-- UpcastLists answers true. -/
theorem lists_any (l : List (EvP × Ev)) (q : Option Addr) (cap v : Nat) (n : Int) (w : World) (hl : LsAt w q l) (hcap : l.length ≤ cap) (hv : v ≤ 255) (hn : l.length ≤ 17592186044416) (hs : ∀ p, p ∈ l → p.2.nums.length ≤ 17592186044416 ∧ p.2.texts.length ≤ 8796093022208) (hkt : KT w) :
    Calls Tryd.prog 6 #[.slice q l.length cap, .int .u8 v, .int .i64 n] w fun en w' => en = .returned (.bool true) ∧ Fr No w w' := by
  by_cases h60 : 60 < l.length
  · exact lists_long l q cap v n w hl hn hs hkt h60
  · rcases hb : anyBad l with _ | _
    · rcases ho : lowO l v with _ | u
      · exact lists_none l q cap v n w hl hv hs hkt (by omega) (.inr ho)
      · exact lists_ok l q cap v n w hl hcap hv hs hkt (by omega) hb u ho
    · exact lists_none l q cap v n w hl hv hs hkt (by omega) (.inl hb)
end Go.Proofs.YtgjabbhgmecbbaaDoor
