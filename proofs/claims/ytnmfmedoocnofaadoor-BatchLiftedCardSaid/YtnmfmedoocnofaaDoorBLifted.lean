/-
  lifted of the statements of batches. No statement of the seat is proved here.
-/
import Derived.Test.YtnmfmedoocnofaaDoorBBack
namespace Go.Proofs.YtnmfmedoocnofaaDoor
open Go.RowKit

set_option maxHeartbeats 8000000 in
set_option maxRecDepth 100000 in
theorem lifted8_any (l l' : List (EvP × Ev)) (q q' : Option Addr) (cap cap' : Nat) (w : World) (hl : LsAt w q l) (hl' : LsAt w q' l') (hkt : KT w) (hn : l.length ≤ 1000000) (hm : ∀ p, p ∈ l → mayS p.2 = true) :
    Calls Tryd.prog 19 #[.slice q l.length cap, .slice q' l'.length cap'] w fun en w' => en = .returned (.bool (decide ((l.map Prod.snd).map topS = l'.map Prod.snd))) ∧ Fr No w w' := by
  by_cases hlen : l.length = l'.length
  · rw [← hlen]
    have LA := hid (fun w1 (h : Fr No w w1) => hl.fr h)
    have LB := hid (fun w1 (h : Fr No w w1) => hl'.fr h)
    have HLEN := hid hlen
    have HM := hid hm
    have SA := hid (fun s t e f w1 he hf => sameEvent8_any s t e f w1 he hf)
    have NE := hid (fun s e w1 (he : EvAt w1 s e) (hf : Fr No w w1) (hme : mayS e = true) => (by
      have h := newest_any s e w1 he (hkt.fr hf)
      unfold UpPost newestR at h
      rw [if_pos hme] at h
      exact h : Calls Tryd.prog 31 #[evV s e] w1 fun en w' => ∃ s5, en = .returned (.tuple #[evV s5 (topS e), .int .i64 0]) ∧ EvNew w1.heap.size w' s5 (topS e) ∧ Fr No w1 w'))
    clear hl hl' hlen hm hkt
    go_enter Tryd.func19, Tryd.ntmps19
    go_wp2_with fail
    go_loopg [5] l.length (fun k i wr => ∃ m : Nat, m ≤ l.length ∧ l.length ≤ m + k ∧ i = .int .i64 m ∧ Hid (((l.take m).map Prod.snd).map topS = (l'.take m).map Prod.snd) ∧ Fr No w wr)
    case atStart => exact ⟨0, Nat.zero_le _, by omega, rfl, hid rfl, Fr.refl _⟩
    case round =>
      obtain ⟨m, hm, hk, rfl, HB, hf⟩ := hrel
      by_cases hlt : m < l.length
      · obtain ⟨⟨s, e⟩, hp⟩ : ∃ p, l[m]? = some p := ⟨_, List.getElem?_eq_getElem hlt⟩
        obtain ⟨⟨s', e'⟩, hp'⟩ : ∃ p, l'[m]? = some p := ⟨_, List.getElem?_eq_getElem (by rw [← HLEN.out]; exact hlt)⟩
        obtain ⟨hE, b, o, hq, c0, c1, c2, c3⟩ := LA.out _ hf m s e hp
        obtain ⟨hE', b', o', hq', d0, d1, d2, d3⟩ := LB.out _ hf m s' e' hp'
        subst hq hq'
        have hme := HM.out _ (List.mem_of_getElem? hp)
        have i1 : (m : Int) < (l.length : Int) := by omega
        have i2 : (0 : Int) ≤ (m : Int) := by omega
        have i4 : (m : Int) + 1 ≤ 1000001 := by omega
        have N1 := hid (NE.out s e wr hE hf hme)
        have HP := hid (And.intro hp hp')
        have htm := (topS_may hme).1
        have HC := hid (And.intro d0 (And.intro d1 (And.intro d2 d3)))
        have HE' := hid hE'
        generalize hT : topS e = T at N1 htm
        have HTE := hid hT.symm
        clear hT
        have HTM := hid htm
        clear hp hp' hE hE' hme htm d0 d1 d2 d3
        unfold evV at N1
        go_upto_region 7 with (first
          | (go_at_call 31; (with_reducible refine N1.out.mono ?_); rintro e5 w5 ⟨s5, rfl, hn5, hf5⟩)
          | fail)
        have hA := (Fr.refl (X := No) w5).alloc (.cells #[.int .u8 T.v, .int .u8 T.kind, .slice s5.qn T.nums.length s5.cn, .slice s5.qt T.texts.length s5.ct] 34)
        have hg := Go.heap_alloc_new w5 (.cells #[.int .u8 T.v, .int .u8 T.kind, .slice s5.qn T.nums.length s5.cn, .slice s5.qt T.texts.length s5.ct] 34)
        have h57 := hf5.trans hA
        have hT5 : EvAt _ s5 T := (hn5.fr hA).may HTM.out (may_kind HTM.out)
        generalize (w5.alloc (.cells #[.int .u8 T.v, .int .u8 T.kind, .slice s5.qn T.nums.length s5.cn, .slice s5.qt T.texts.length s5.ct] 34)) = w7 at hg h57 hT5 ⊢
        generalize w5.heap.size = B at hg ⊢
        obtain ⟨b0, b1, b2, b3, _, _, _, _⟩ := Go.Proofs.YtnmfmedoocnofaaDoor.cells4 hg
        obtain ⟨d0, d1, d2, d3⟩ := HC.out
        have SE := hid (fun (y : Aft w7) => SA.out s5 s' T e' y.val (hT5.fr y.h) ((HE'.out.fr h57).fr y.h))
        have F7 := hf.trans h57
        have k0 := fun (y : Aft w7) => y.h.cell0 b0
        have k1 := fun (y : Aft w7) => y.h.cell0 b1
        have k2 := fun (y : Aft w7) => y.h.cell0 b2
        have k3 := fun (y : Aft w7) => y.h.cell0 b3
        have n0 := fun (y : Aft w7) => y.h.cell0 (h57.cell0 d0)
        have n1 := fun (y : Aft w7) => y.h.cell0 (h57.cell0 d1)
        have n2 := fun (y : Aft w7) => y.h.cell0 (h57.cell0 d2)
        have n3 := fun (y : Aft w7) => y.h.cell0 (h57.cell0 d3)
        clear b0 b1 b2 b3 d0 d1 d2 d3 c0 c1 c2 c3 HC hT5 hg hn5 hf5 hA
        rcases hse : sameS T e' with _ | _
        · rw [hse] at SE
          have HNE : Hid (decide ((l.map Prod.snd).map topS = l'.map Prod.snd) = false) := hid (decide_eq_false (fun hh => by
            have h1 : ((l.map Prod.snd).map topS)[m]? = some (topS e) := by rw [List.getElem?_map, snd_at HP.out.1]; rfl
            rw [hh, snd_at HP.out.2] at h1
            exact sameS_false hse (HTE.out.trans (Option.some.inj h1).symm)))
          clear hse
          unfold evV at SE
          refine wp_region_aft (by kernel_rfl) (by kernel_rfl) ?_
          repeat (go_big_quiet_step (first | (go_at_call 37; exact calls_aft (SE.out _))))
          refine wpQuiet_nil ?_
          rintro _ ⟨⟨w9, hf9⟩, rfl⟩
          clear k0 k1 k2 k3 n0 n1 n2 n3
          go_wp2_with fail
          go_ret
          exact ⟨congrArg (fun z => Ending.returned (.bool z)) HNE.out.symm, F7.trans hf9⟩
        · rw [hse] at SE
          have HB2 : Hid (((l.take (m + 1)).map Prod.snd).map topS = (l'.take (m + 1)).map Prod.snd) := hid (by rw [snd_take HP.out.1, snd_take HP.out.2, List.map_append, HB.out, ← sameS_iff.1 hse, HTE.out]; rfl)
          clear hse
          unfold evV at SE
          refine wp_region_aft (by kernel_rfl) (by kernel_rfl) ?_
          repeat (go_big_quiet_step (first | (go_at_call 37; exact calls_aft (SE.out _))))
          refine wpQuiet_nil ?_
          rintro _ ⟨⟨w9, hf9⟩, rfl⟩
          clear k0 k1 k2 k3 n0 n1 n2 n3
          go_wp2_with fail
          go_roundg (gk - 1)
          case measure => omega
          case rel => exact ⟨m + 1, by omega, by omega, by go_num, HB2, F7.trans hf9⟩
      · obtain rfl : m = l.length := by omega
        have HEQ : Hid (decide ((l.map Prod.snd).map topS = l'.map Prod.snd) = true) := hid (decide_eq_true (by have := HB.out; rw [List.take_length, HLEN.out, List.take_length] at this; exact this))
        clear HB
        go_wp2_with fail
        go_ret
        exact ⟨congrArg (fun z => Ending.returned (.bool z)) HEQ.out.symm, hf⟩
  · have HNE : Hid (decide ((l.map Prod.snd).map topS = l'.map Prod.snd) = false) := hid (decide_eq_false (fun h => hlen (by have := congrArg List.length h; simpa using this)))
    have t1 : ((l.length : Int) != (l'.length : Int)) = true := by simp; omega
    clear hlen hl hl'
    go_enter Tryd.func19, Tryd.ntmps19
    go_wp2_with fail
    go_ret
    exact ⟨congrArg (fun z => Ending.returned (.bool z)) HNE.out.symm, Fr.refl _⟩
end Go.Proofs.YtnmfmedoocnofaaDoor
