/-
  CodecAmong: the walk. No statement of the seat is proved here.
-/
import Derived.Test.YtbnedlfejbfeoaaDoorCPuts
namespace Go.Proofs.YtbnedlfejbfeoaaDoor
open Go.RowKit

set_option maxHeartbeats 16000000 in
set_option maxRecDepth 100000 in
theorem among_any (l : List (EvP × Ev)) (q : Option Addr) (cap : Nat) (ah bh : List UInt8) (w : World) (hl : LsAt w q l) (hn : l.length ≤ 17592186044416) (ha : ah.length ≤ 281474976710656) (hb : bh.length ≤ 281474976710656) (hkt : KT w) :
    Calls Tryd.prog 8 #[.slice q l.length cap, strV ah, strV bh] w fun en w' => en = .returned (.bool true) ∧ Fr No w w' := by
  have WK := hid (fun w1 (h : Fr No w w1) => works_any w1 (hkt.fr h))
  have LA := hid (fun w1 (h : Fr No w w1) => hl.fr h)
  have WE := hid (fun (s : EvP) (e : Ev) w1 (hx : EvAt w1 s e) => weight_any s e w1 hx)
  have HKT := hid hkt
  have PN := hid (fun B (s : EvP) (e : Ev) w1 (he : EvAt w s e) (h : Fr No w w1) (hm : mayS e = false) => put_no B s e w w1 he hkt h hm)
  have PO := hid (fun B o (s : EvP) (e : Ev) (bs : List UInt8) w1 (he : EvAt w s e) (h : Fr No w w1) (hB : w.heap.size ≤ B) (ho : ∀ g, o = some g → w.heap.size ≤ g) (hw : WrAt w1 B o bs) (hbs : bs.length ≤ 100000000) (hm : mayS e = true) => put_ok B o s e bs w w1 he hkt h hB ho hw hbs hm)
  have SZ := hid (fun (s : EvP) (e : Ev) w1 (he : EvAt w1 s e) (h : Fr No w w1) => size_any s e w1 he (hkt.fr h))
  clear hl hkt
  unfold strV at *
  go_enter Tryd.func8, Tryd.ntmps8
  go_wp2_with fail
  go_loopg [7, 8] l.length (fun k n i wr => ∃ (m N : Nat), m ≤ l.length ∧ l.length ≤ m + k ∧ n = .int .i64 N ∧ i = .int .i64 m ∧ Hid (ah.length + bh.length + m ≤ N ∧ (N ≤ ah.length + bh.length ∨ N ≤ 4000)) ∧ Fr No w wr)
  case atStart => exact ⟨0, ah.length + bh.length, Nat.zero_le _, by omega, by go_num, rfl, hid ⟨by omega, .inl (Nat.le_refl _)⟩, Fr.refl _⟩
  case round =>
    obtain ⟨m, N, hm, hk, rfl, rfl, HN, hf⟩ := hrel
    obtain ⟨hn1, hn2⟩ := HN.out
    by_cases hlt : m < l.length
    · have i1 : (m : Int) < (l.length : Int) := by omega
      by_cases hN : N < 2000
      · have dN : decide ((N : Int) < 2000) = true := by simp; omega
        obtain ⟨⟨s, e⟩, hp⟩ : ∃ p, l[m]? = some p := ⟨_, List.getElem?_eq_getElem hlt⟩
        obtain ⟨hE, b, o, hq, c0, c1, c2, c3⟩ := LA.out _ hf m s e hp
        subst hq
        have i2 : (0 : Int) ≤ (m : Int) := by omega
        have i4 : (m : Int) + 1 ≤ 17592186044417 := by omega
        have W1 := hid (WE.out s e wr hE)
        clear hp hE
        unfold evV at W1
        go_wp2_with (first
          | (go_at_call 20; (with_reducible refine W1.out.mono ?_); intro e1 w1 h1; obtain ⟨n, rfl, hw1, hw2, hlt2, hf1⟩ := h1; (have n1 : (N : Int) + (n : Int) ≤ 4000 := by omega))
          | fail)
        go_roundg (gk - 1)
        case measure => omega
        case rel => exact ⟨m + 1, N + n, by omega, by omega, by go_num, by go_num, hid ⟨by omega, .inr (by omega)⟩, hf.trans hf1⟩
      · have dN : decide ((N : Int) < 2000) = false := by simp; omega
        have dG : decide ((2000 : Int) ≤ (N : Int)) = true := by simp; omega
        go_wp2_with (first
          | (go_at_call 10; (with_reducible refine (WK.out _ hf).mono ?_); rintro e1 w1 ⟨rfl, hf1⟩)
          | (go_at_call 10; (with_reducible refine (WK.out _ (hf.trans hf1)).mono ?_); rintro e2 w2 ⟨rfl, hf2⟩)
          | fail)
        go_ret
        exact ⟨rfl, (hf.trans hf1).trans hf2⟩
    · obtain rfl : m = l.length := by omega
      by_cases hN : N < 2000
      · have dN : decide ((N : Int) < 2000) = true := by simp; omega
        have dG : decide ((2000 : Int) ≤ (N : Int)) = false := by simp; omega
        have HSM : Hid (ah.length + bh.length + l.length < 2000) := hid (by omega)
        clear hn1 hn2 HN hN
        go_upto_region 9 with (first
          | (go_at_call 10; (with_reducible refine (WK.out _ hf).mono ?_); rintro e1 w1 ⟨rfl, hf1⟩)
          | fail)
        have FA : Fr No w (w1.alloc (.cells #[.slice none 0 0] 41)) := (hf.trans hf1).alloc _
        have hB : w.heap.size ≤ w1.heap.size := (hf.trans hf1).size
        have hw0 : WrAt (w1.alloc (.cells #[.slice none 0 0] 41)) w1.heap.size none [] := ⟨.slice none 0 0, Go.heap_alloc_new _ _, rfl, Own.nil _ _ _⟩
        have RW := hid (raw_any w1.heap.size none ⟨ah.toArray⟩ [] _ hw0 (by have := HSM.out; simp [ByteArray.size]; omega))
        generalize w1.heap.size = B at hB hw0 RW
        clear hw0
        go_upto_region 12 with (first
          | (go_at_call 27; (with_reducible refine RW.out.mono ?_); rintro e2 w2 ⟨rfl, hq2⟩)
          | fail)
        obtain ⟨o2, hw2, hfr2, hno2⟩ := hq2
        have F2 : Fr No w w2 := FA.newOnlyO hB (fun g hg => by cases hg) hfr2
        have ho2 : ∀ g, o2 = some g → w.heap.size ≤ g := fun g hg => by
          rcases hno2 with rfl | h
          · cases hg
          · exact Nat.le_trans FA.size (h g hg)
        rw [List.nil_append] at hw2
        have hw2 : WrAt w2 B o2 (ah ++ putsB (l.take 0)) := by simpa [putsB] using hw2
        have HW2 := hid (And.intro hw2 (And.intro ho2 F2))
        clear hw2 ho2 F2 hfr2 hno2 FA RW hf hf1 hlt
        go_wp2_with fail
        go_loopg [10, 11] l.length (fun k gv i wr => ∃ (m : Nat) (o : Option Nat), m ≤ l.length ∧ l.length ≤ m + k ∧ i = .int .i64 m ∧ Hid (WrAt wr B o (ah ++ putsB (l.take m)) ∧ (∀ g, o = some g → w.heap.size ≤ g) ∧ Own wr 26 4 gv (goods (l.take m)).length ((goods (l.take m)).flatMap evC) ∧ (∀ k, gv.ownBlock = some k → w.heap.size ≤ k)) ∧ Fr No w wr)
        case atStart => exact ⟨0, o2, Nat.zero_le _, by omega, rfl, hid ⟨HW2.out.1, HW2.out.2.1, Own.nil _ _ _, fun _ h => by cases h⟩, HW2.out.2.2⟩
        case round =>
          rename Value => gv
          clear HW2
          obtain ⟨m, o, hm, hk, rfl, HR, hf⟩ := hrel
          have gkk := gk
          by_cases hlt : m < l.length
          · obtain ⟨⟨s, e⟩, hp⟩ : ∃ p, l[m]? = some p := ⟨_, List.getElem?_eq_getElem hlt⟩
            obtain ⟨hE, b, ob, hq, c0, c1, c2, c3⟩ := LA.out _ hf m s e hp
            have hE0 := (LA.out _ (Fr.refl _) m s e hp).1
            subst hq
            have i1 : (m : Int) < (l.length : Int) := by omega
            have i2 : (0 : Int) ≤ (m : Int) := by omega
            have i4 : (m : Int) + 1 ≤ 17592186044417 := by omega
            have ht : l.take (m + 1) = l.take m ++ [(s, e)] := by rw [List.take_succ_eq_append_getElem hlt, (List.getElem?_eq_some_iff.1 hp).2]
            have LN := hid (fun (bs : List UInt8) o w1 (h : WrAt w1 B o bs) => len_any B o bs w1 h)
            have hpl := putsB_length (l.take m)
            rw [List.length_take] at hpl
            have LC := hid (fun w1 (h : Fr No w w1) => LA.out w1 h m s e hp)
            rcases hme : mayS e with _ | _
            · have P1 := hid (fun w1 (h : Fr No w w1) => PN.out B s e w1 hE0 h hme)
              have HT : Hid (putsB (l.take (m + 1)) = putsB (l.take m) ∧ goods (l.take (m + 1)) = goods (l.take m)) := hid (by
                rw [ht, putsB_snoc, goods_snoc]
                simp [hme])
              have L1 := hid (LN.out _ _ _ HR.out.1)
              have L2 := hid (fun w1 (h : Fr No wr w1) => LN.out _ _ w1 (HR.out.1.fr h id (fun _ _ => id)))
              generalize (ah ++ putsB (l.take m)).length = NB at L1 L2
              clear hp hE hE0 ht hpl hme
              unfold evV at P1
              go_upto_region 18 with (first
                | (go_at_call 28; (with_reducible refine L1.out.mono ?_); rintro e3 w3 ⟨rfl, rfl⟩)
                | (go_at_call 16; (with_reducible refine (P1.out _ hf).mono ?_); rintro e4 w4 ⟨rfl, hf4⟩)
                | fail)
              have X1 := hid (fun (x : Aft w4) => (L2.out x.val (hf4.trans x.h)).mono (fun _ w' (h : _ ∧ x.val = w') => (⟨h.1, h.2 ▸ Fr.refl _⟩ : _ ∧ Fr No x.val w')))
              clear c0 c1 c2 c3
              refine wp_region_aft (by kernel_rfl) (by kernel_rfl) ?_
              repeat (go_big_quiet_step (first | (go_at_call 28; exact calls_aft (X1.out _))))
              refine wpQuiet_nil ?_
              rintro _ ⟨⟨w9, hf9⟩, rfl⟩
              replace hf4 := hf4.trans hf9
              go_wp2_with fail
              go_roundg (gk - 1)
              case measure => omega
              case rel =>
                refine ⟨m + 1, o, by omega, by omega, by go_num, hid ?_, hf.trans hf4⟩
                rw [HT.out.1, HT.out.2]
                exact ⟨HR.out.1.fr hf4 id (fun _ _ => id), HR.out.2.1, HR.out.2.2.1.fr hf4 (fun _ _ => id), HR.out.2.2.2⟩
            · have hel := evB_length hme
              have P1 := hid (fun (h : Fr No w wr) => PO.out B o s e _ wr hE0 h hB HR.out.2.1 HR.out.1 (by have := HSM.out; rw [List.length_append]; omega) hme)
              have HT : Hid (putsB (l.take (m + 1)) = putsB (l.take m) ++ evB e ∧ goods (l.take (m + 1)) = goods (l.take m) ++ [(s, e)]) := hid (by
                rw [ht, putsB_snoc, goods_snoc]
                simp [hme])
              have L1 := hid (LN.out _ _ _ HR.out.1)
              have ZS := hid (fun w1 (he : EvAt w1 s e) (h : Fr No w w1) => SZ.out s e w1 he h)
              rw [hme] at ZS
              simp only [if_true] at ZS
              have hszl : (encB e).length = (evB e).length + 1 := by simp [encB]
              rw [hszl] at ZS
              have hnl : (ah ++ putsB (l.take m)).length ≤ 1000000 := by have := HSM.out; rw [List.length_append]; omega
              have hnl2 : (ah ++ putsB (l.take m) ++ evB e).length = (ah ++ putsB (l.take m)).length + (evB e).length := List.length_append
              have L2 := hid (fun o' w1 (h : WrAt w1 B o' (ah ++ putsB (l.take m) ++ evB e)) => LN.out _ o' w1 h)
              rw [hnl2] at L2
              have hgl := goods_length (l.take m)
              rw [List.length_take] at hgl
              obtain ⟨i0, hi, hz0, hz1, hz2⟩ := info_parts infoEv
              have HHT := hid (And.intro hnl2 hszl)
              generalize hNB : (ah ++ putsB (l.take m)).length = NB at L1 L2 hnl
              generalize (evB e).length = NE at L2 ZS hel
              clear hp hE hE0 ht hpl hme hnl2 hszl hNB HHT
              unfold evV at P1 ZS
              go_upto_region 17 with (first
                | (go_at_call 28; (with_reducible refine L1.out.mono ?_); rintro e3 w3 ⟨rfl, rfl⟩)
                | (go_at_call 16; (with_reducible refine (P1.out hf).mono ?_); rintro e4 w4 ⟨rfl, hq4⟩)
                | fail)
              obtain ⟨o4, hw4, hfr4, hno4⟩ := hq4
              have F4 : Fr No w w4 := hf.newOnlyO hB HR.out.2.1 hfr4
              have ho4 : ∀ g, o4 = some g → w.heap.size ≤ g := fun g hg => by
                rcases hno4 with rfl | h
                · exact HR.out.2.1 g hg
                · exact Nat.le_trans hf.size (h g hg)
              have own4 := HR.out.2.2.1.fr hfr4 (own_apart HR.out.1 HR.out.2.2.1)
              have hA : Fr No w4 (w4.alloc (.cells #[.int .u8 e.v, .int .u8 e.kind, .slice s.qn e.nums.length s.cn, .slice s.qt e.texts.length s.ct] 26)) := (Fr.refl w4).alloc _
              have hown := own4.fr hA (fun _ _ => id)
              have hap := own_apart hw4 own4
              have HO4 := hid (And.intro hw4 (And.intro ho4 (And.intro F4 hap)))
              clear c0 c1 c2 c3
              obtain ⟨_, b', ob', hqq, c0, c1, c2, c3⟩ := LC.out _ F4
              obtain ⟨rfl, rfl⟩ : b = b' ∧ ob = ob' := by simpa using hqq
              have HGL := hid (And.intro hgl hm)
              clear hqq hw4 ho4 F4 hap own4 hfr4 hno4 hgl P1 L1
              go_upto_region 18 with (first
                | (at_builtin; refine wpList_append_fr _ rfl _ _ 35 rfl 26 i0 (.agg #[.int .u8 0, .int .u8 0, .slice none 0 0, .slice none 0 0]) 4 56 Tryd.underlying35 hi hz0 hz1 hz2 rfl (by decide) _ _ _ rfl hown ⟨w4.heap.size, 0, none⟩ 1 1 (evC (s, e)) rfl rfl ?c1 ?c2 ?c3 ?c4 ?_)
                | fail)
              case c1 => intro j u hu; have h := cells_new w4 (evC (s, e)) 26 j u hu; exact h
              case c2 => intro u hu; simp [evC] at hu; rcases hu with rfl | rfl | rfl | rfl <;> rfl
              case c3 => have := HGL.out; have := HSM.out; unfold maxLen; omega
              case c4 => have := HGL.out; have := HSM.out; omega
              intro v' w6 ho hf6 hn6
              have F6 : Fr No w w6 := (HO4.out.2.2.1.trans hA).newOnlyS HR.out.2.2.2 hf6
              have hw6 : WrAt w6 B o4 (ah ++ putsB (l.take m) ++ evB e) := (HO4.out.1.fr hA id (fun _ _ => id)).fr hf6 (fun hx => HO4.out.2.2.2 _ hx (.inl rfl)) (fun g hg hx => HO4.out.2.2.2 _ hx (.inr hg))
              clear c0 c1 c2 c3
              obtain ⟨hE6, b', ob', hqq, c0, c1, c2, c3⟩ := LC.out _ F6
              obtain ⟨rfl, rfl⟩ : b = b' ∧ ob = ob' := by simpa using hqq
              clear hqq
              generalize hNT : NB + NE = NT at L2
              generalize hNS : NE + 1 = NS at ZS
              have t1 : ((NT : Int) != (NB : Int) + (NS : Int) - 1) = false := by simp; omega
              have hNS2 : NS ≤ 201 := by omega
              have X1 := hid (fun (x : Aft w6) => (L2.out o4 x.val (hw6.fr x.h id (fun _ _ => id))).mono (fun _ w' (h : _ ∧ x.val = w') => (⟨h.1, h.2 ▸ Fr.refl _⟩ : _ ∧ Fr No x.val w')))
              have X2 := hid (fun (x : Aft w6) => ZS.out x.val (hE6.fr x.h) (F6.trans x.h))
              have m0 := fun (x : Aft w6) => x.h.cell0 c0
              have m1 := fun (x : Aft w6) => x.h.cell0 c1
              have m2 := fun (x : Aft w6) => x.h.cell0 c2
              have m3 := fun (x : Aft w6) => x.h.cell0 c3
              have HO6 := hid (And.intro hw6 (And.intro HO4.out.2.1 (And.intro ho F6)))
              have HN6 := hid (And.intro hn6 (Nat.le_trans HO4.out.2.2.1.size hA.size))
              clear c0 c1 c2 c3 hNT hNS hown hA hf6 hn6 hw6 ho F6 hE6 HO4 LC ZS
              go_wp2_with fail
              refine wp_region_aft (by kernel_rfl) (by kernel_rfl) ?_
              repeat (go_big_quiet_step (first | (go_at_call 28; exact calls_aft (X1.out _)) | (go_at_call 15; exact calls_aft (X2.out _))))
              refine wpQuiet_nil ?_
              rintro _ ⟨⟨w9, hf9⟩, rfl⟩
              clear m0 m1 m2 m3
              go_wp2_with fail
              go_roundg (gk - 1)
              case measure => omega
              case rel =>
                refine ⟨m + 1, o4, by omega, by omega, by go_num, hid ?_, HO6.out.2.2.2.trans hf9⟩
                rw [HT.out.1, HT.out.2, ← List.append_assoc]
                refine ⟨HO6.out.1.fr hf9 id (fun _ _ => id), HO6.out.2.1, ?_, fun k hk => ?_⟩
                · rw [List.length_append, List.flatMap_append]
                  simpa using HO6.out.2.2.1.fr hf9 (fun _ _ => id)
                · rcases HN6.out.1 with h | h
                  · exact HR.out.2.2.2 k (h ▸ hk)
                  · rw [h] at hk
                    have h2 := HN6.out.2
                    have hk' := Option.some.inj hk
                    try simp only [World.size_alloc] at h2
                    try simp only [World.size_alloc] at hk'
                    show w.heap.size ≤ k
                    omega
          · obtain rfl : m = l.length := by omega
            rw [List.take_length] at HR
            have RB := hid (raw_any B o ⟨bh.toArray⟩ _ wr HR.out.1 (by have := HSM.out; have := putsB_length l; simp [ByteArray.size]; omega))
            go_upto_region 21 with (first
              | (go_at_call 27; (with_reducible refine RB.out.mono ?_); rintro e2 w2 ⟨rfl, hq2⟩)
              | fail)
            obtain ⟨o9, hw2, hfr2, _⟩ := hq2
            have hw2 : WrAt w2 B o9 (ah ++ (putsB l ++ bh)) := by simpa using hw2
            have F2 : Fr No w w2 := hf.newOnlyO hB HR.out.2.1 hfr2
            have own2 := HR.out.2.2.1.fr hfr2 (own_apart HR.out.1 HR.out.2.2.1)
            have hal : (ah ++ (putsB l ++ bh)).length ≤ 1000000 := by have := HSM.out; have := putsB_length l; simp only [List.length_append]; omega
            have BY := hid (bytes_any B o9 _ w2 hw2)
            have NW := hid (fun w1 => new_any (ah ++ (putsB l ++ bh)) w1 (by omega))
            have RA := hid (fun br w1 (h : RdIs w1 br ⟨ah ++ (putsB l ++ bh), 0, 0, 0⟩) => rawR br ⟨ah ++ (putsB l ++ bh), 0, 0, 0⟩ ah.length w1 h)
            have hra := rRaw_at ⟨ah ++ (putsB l ++ bh), 0, 0, 0⟩ ah (putsB l ++ bh) rfl (by simp)
            rw [hra] at RA
            have HF2 := hid (And.intro F2 own2)
            generalize hT : ah ++ (putsB l ++ bh) = T at BY NW RA
            have HT := hid hT
            clear hT hw2 hfr2 own2 F2 hal RB hk hra
            unfold strV at BY NW RA
            go_upto_region 23 with (first
              | (go_at_call 29; (with_reducible refine BY.out.mono ?_); rintro e3 w3 ⟨rfl, rfl⟩)
              | (go_at_call 19; (with_reducible refine (NW.out _).mono ?_); rintro e4 w4 ⟨br, rfl, hr4', hbr, hf4⟩; have hr4 : RdIs w4 br ⟨T, 0, 0, 0⟩ := hr4')
              | (go_at_call 30; (with_reducible refine (RA.out br _ hr4).mono ?_); rintro e5 w5 ⟨rfl, hr5, hf5⟩)
              | fail)
            have GA := hid (fun w1 (h : Fr No w w1) (p : EvP × Ev) (hp : p ∈ goods l) => (by
              obtain ⟨i, hi⟩ := List.mem_iff_getElem?.1 (goods_may hp).2
              exact ⟨(LA.out w1 h i p.1 p.2 hi).1, (goods_may hp).1⟩ : EvAt w1 p.1 p.2 ∧ mayS p.2 = true))
            have F5 : Fr No w w5 := (HF2.out.1.trans hf4).newOnly (Nat.le_trans HF2.out.1.size hbr) hf5
            have own5 := (HF2.out.2.fr hf4 (fun _ _ => id)).fr hf5 (fun k hk hx => by
              rcases HF2.out.2.2 with ⟨rfl, _⟩ | ⟨g, cap', cur, rfl, _, hg, _⟩
              · cases hk
              · obtain rfl : g = k := by simpa [Value.ownBlock] using hk
                have h1 := lt_of_block hg
                have h2 : g = br := hx
                omega)
            have hdr : T.drop (0 + ah.length) = ((goods l).drop 0).flatMap (fun p => evB p.2) ++ bh := by
              rw [← HT.out, putsB_goods, Nat.zero_add, List.drop_zero, List.drop_left]
            have hgl := goods_length l
            generalize goods l = G at GA own5 hdr hgl
            obtain ⟨qg, cg, rfl⟩ := own5.shape
            have GL := hid hgl
            have hle2 : w.heap.size ≤ w2.heap.size := HF2.out.1.size
            have H5 := hid (And.intro hr5 (And.intro hdr (And.intro own5 F5)))
            clear hr5 hdr own5 F5 hf5 hf4 hr4 hr4' HF2 BY NW RA HT LA hf HR hgl
            go_wp2_with fail
            go_loopg [15] G.length (fun k i wr => ∃ (m : Nat) (r : Rd), m ≤ G.length ∧ G.length ≤ m + k ∧ i = .int .i64 m ∧ Hid (RdIs wr br r ∧ r.e = 0 ∧ r.s.drop r.at_ = (G.drop m).flatMap (fun p => evB p.2) ++ bh ∧ Own wr 26 4 (.slice qg G.length cg) G.length (G.flatMap evC)) ∧ Fr No w wr)
            case atStart => exact ⟨0, _, Nat.zero_le _, by omega, rfl, hid ⟨H5.out.1, rfl, H5.out.2.1, H5.out.2.2.1⟩, H5.out.2.2.2⟩
            case round =>
              clear H5
              obtain ⟨m, r, hm, hk, rfl, HR, hf⟩ := hrel
              by_cases hlt : m < G.length
              · obtain ⟨⟨s, e⟩, hp⟩ : ∃ p, G[m]? = some p := ⟨_, List.getElem?_eq_getElem hlt⟩
                obtain ⟨hE, hme⟩ := GA.out _ hf (s, e) (List.mem_of_getElem? hp)
                obtain ⟨bq, hq, c0, c1, c2, c3⟩ := grow_cells HR.out.2.2.2 hp
                rw [Nat.zero_add] at c0 c1 c2 c3
                subst hq
                have hdc : r.s.drop r.at_ = evB e ++ ((G.drop (m + 1)).flatMap (fun p => evB p.2) ++ bh) := by
                  rw [HR.out.2.2.1, List.drop_eq_getElem_cons hlt, (List.getElem?_eq_some_iff.1 hp).2, List.flatMap_cons, List.append_assoc]
                have GE := hid (get_any br r e.v wr HR.out.1 (HKT.out.fr hf))
                rw [getT_at hme r _ HR.out.2.1 hdc] at GE
                have hdn := drop_at hdc
                have EA := hid (fun w1 (h : Fr No w w1) => (GA.out w1 h (s, e) (List.mem_of_getElem? hp)).1)
                have SMV := hid (fun (B6 : Nat) (p6 : EvP) w1 (hn : EvNew B6 w1 p6 e) (h : Fr No w w1) => (by
                  have := sameEvent6_any p6 s e e w1 (hn.may hme (may_kind hme)) (EA.out w1 h)
                  rwa [sameS_self6] at this : Calls Tryd.prog 23 #[evV p6 e, evV s e] w1 fun en w' => en = .returned (.bool true) ∧ Fr No w1 w'))
                have HDN := hid hdn
                have HP := hid hp
                have i1 : (m : Int) < (G.length : Int) := by omega
                have i2 : (0 : Int) ≤ (m : Int) := by omega
                have i4 : (m : Int) + 1 ≤ 17592186044417 := by have := GL.out; have := HSM.out; omega
                clear hdc hdn hE hme hp
                unfold GetPost at GE
                unfold evV at GE SMV
                go_upto_region 28 with (first
                  | (go_at_call 18; (with_reducible refine GE.out.mono ?_); rintro e6 w6 ⟨p6, rfl, hn6, hr6, hf6⟩)
                  | fail)
                have hF6 : Fr No w w6 := hf.newOnly (Nat.le_trans hle2 hbr) hf6
                have A6 : Fr No w6 (w6.alloc (.cells #[.int .u8 e.v, .int .u8 e.kind, .slice p6.qn e.nums.length p6.cn, .slice p6.qt e.texts.length p6.ct] 26)) := (Fr.refl w6).alloc _
                have own6 := (HR.out.2.2.2.fr hf6 (fun k hk hx => by
                  obtain ⟨v0, h1, _⟩ := HR.out.1
                  rcases HR.out.2.2.2.2 with ⟨h0, _⟩ | ⟨g, cap', cur, h0, _, hg, _⟩
                  · rw [h0] at hk; cases hk
                  · rw [h0] at hk
                    obtain rfl : g = k := by simpa [Value.ownBlock] using hk
                    have hx : g = br := hx
                    subst hx
                    rw [hg] at v0
                    simp at v0)).fr A6 (fun _ _ => id)
                have hn6' : EvNew wr.heap.size w6 p6 e := hn6
                clear c0 c1 c2 c3
                obtain ⟨bq', hqq, c0, c1, c2, c3⟩ := grow_cells own6 HP.out
                obtain rfl : bq = bq' := by simpa using hqq
                rw [Nat.zero_add] at c0 c1 c2 c3
                obtain ⟨n0, n1, n2, n3, _, _, _, _⟩ := Go.Proofs.YtbnedlfejbfeoaaDoor.cells4 (Go.heap_alloc_new w6 (.cells #[.int .u8 e.v, .int .u8 e.kind, .slice p6.qn e.nums.length p6.cn, .slice p6.qt e.texts.length p6.ct] 26))
                have X1 := hid (fun (x : Aft (w6.alloc (.cells #[.int .u8 e.v, .int .u8 e.kind, .slice p6.qn e.nums.length p6.cn, .slice p6.qt e.texts.length p6.ct] 26))) => SMV.out wr.heap.size p6 x.val (hn6'.fr (A6.trans x.h)) ((hF6.trans A6).trans x.h))
                have m0 := fun (y : Aft (w6.alloc (.cells #[.int .u8 e.v, .int .u8 e.kind, .slice p6.qn e.nums.length p6.cn, .slice p6.qt e.texts.length p6.ct] 26))) => y.h.cell0 c0
                have m1 := fun (y : Aft (w6.alloc (.cells #[.int .u8 e.v, .int .u8 e.kind, .slice p6.qn e.nums.length p6.cn, .slice p6.qt e.texts.length p6.ct] 26))) => y.h.cell0 c1
                have m2 := fun (y : Aft (w6.alloc (.cells #[.int .u8 e.v, .int .u8 e.kind, .slice p6.qn e.nums.length p6.cn, .slice p6.qt e.texts.length p6.ct] 26))) => y.h.cell0 c2
                have m3 := fun (y : Aft (w6.alloc (.cells #[.int .u8 e.v, .int .u8 e.kind, .slice p6.qn e.nums.length p6.cn, .slice p6.qt e.texts.length p6.ct] 26))) => y.h.cell0 c3
                have x0 := fun (y : Aft (w6.alloc (.cells #[.int .u8 e.v, .int .u8 e.kind, .slice p6.qn e.nums.length p6.cn, .slice p6.qt e.texts.length p6.ct] 26))) => y.h.cell0 n0
                have x1 := fun (y : Aft (w6.alloc (.cells #[.int .u8 e.v, .int .u8 e.kind, .slice p6.qn e.nums.length p6.cn, .slice p6.qt e.texts.length p6.ct] 26))) => y.h.cell0 n1
                have x2 := fun (y : Aft (w6.alloc (.cells #[.int .u8 e.v, .int .u8 e.kind, .slice p6.qn e.nums.length p6.cn, .slice p6.qt e.texts.length p6.ct] 26))) => y.h.cell0 n2
                have x3 := fun (y : Aft (w6.alloc (.cells #[.int .u8 e.v, .int .u8 e.kind, .slice p6.qn e.nums.length p6.cn, .slice p6.qt e.texts.length p6.ct] 26))) => y.h.cell0 n3
                have HH6 := hid (And.intro hr6 (And.intro own6 (And.intro hF6 A6)))
                clear c0 c1 c2 c3 n0 n1 n2 n3 hn6 hn6' hr6 own6 hF6 A6 hf6
                go_wp2_with fail
                refine wp_region_aft (by kernel_rfl) (by kernel_rfl) ?_
                repeat (go_big_quiet_step (first | (go_at_call 23; exact calls_aft (X1.out _))))
                refine wpQuiet_nil ?_
                rintro _ ⟨⟨w9, hf9⟩, rfl⟩
                clear m0 m1 m2 m3 x0 x1 x2 x3
                go_wp2_with fail
                go_roundg (gk - 1)
                case measure => omega
                case rel =>
                  refine ⟨m + 1, _, by omega, by omega, by go_num, hid ⟨(HH6.out.1.fr HH6.out.2.2.2 id).fr hf9 id, HR.out.2.1, HDN.out, HH6.out.2.1.fr hf9 (fun _ _ => id)⟩, (HH6.out.2.2.1.trans HH6.out.2.2.2).trans hf9⟩
              · obtain rfl : m = G.length := by omega
                have hdr : r.s.drop r.at_ = bh := by
                  rw [HR.out.2.2.1, List.drop_of_length_le (Nat.le_refl _)]
                  simp
                have hlen : r.s.length - r.at_ = bh.length := by
                  have := congrArg List.length hdr
                  simpa using this
                have LF := hid (left_any br r.s r.at_ r.e r.to wr HR.out.1)
                rw [hlen] at LF
                have RR := hid (fun w1 (h : Fr No wr w1) => rawR br r bh.length w1 (HR.out.1.fr h id))
                rw [rRaw_at r bh [] HR.out.2.1 (by rw [hdr, List.append_nil])] at RR
                clear hdr hlen
                unfold strV at RR
                go_wp2_with (first
                  | (go_at_call 31; (with_reducible refine LF.out.mono ?_); rintro e7 w7 ⟨rfl, hf7⟩)
                  | (go_at_call 30; (with_reducible refine (RR.out _ hf7).mono ?_); rintro e8 w8 ⟨rfl, _, hf8⟩)
                  | fail)
                go_ret
                exact ⟨rfl, (hf.trans hf7).newOnly (Nat.le_trans hle2 hbr) hf8⟩
      · have dN : decide ((N : Int) < 2000) = false := by simp; omega
        have dG : decide ((2000 : Int) ≤ (N : Int)) = true := by simp; omega
        go_wp2_with (first
          | (go_at_call 10; (with_reducible refine (WK.out _ hf).mono ?_); rintro e1 w1 ⟨rfl, hf1⟩)
          | (go_at_call 10; (with_reducible refine (WK.out _ (hf.trans hf1)).mono ?_); rintro e2 w2 ⟨rfl, hf2⟩)
          | fail)
        go_ret
        exact ⟨rfl, (hf.trans hf1).trans hf2⟩
end Go.Proofs.YtbnedlfejbfeoaaDoor
