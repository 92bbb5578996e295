/-
  The document's batches: May, said, Encode: the walks. No statement of the seat is proved here. The document's Encode of batches: the walk. No statement of the seat is proved here.
-/
import Derived.Test.YtnmfmedoocnofaaDoorBPlain
import Derived.Test.YtnmfmedoocnofaaDoorBRLowest
import Derived.Test.YtnmfmedoocnofaaDoorBRef
import Derived.Test.YtnmfmedoocnofaaDoorBEncode
namespace Go.Proofs.YtnmfmedoocnofaaDoor
open Go.RowKit

def SaidPost (w : World) (l : List (EvP × Ev)) (v : Nat) (en : Ending) (w' : World) : Prop :=
  (allOK l v = true ∧ ∃ (L : List (EvP × Ev)) (q : Option Addr) (cap : Nat), en = .returned (.tuple #[.slice q L.length cap, .bool true]) ∧ L.map Prod.snd = l.map (fun p => (toR p.2 v).1) ∧ LsRow w.heap.size w' (.slice q L.length cap) L ∧ Fr No w w') ∨
  (allOK l v = false ∧ en = .returned (.tuple #[.slice none 0 0, .bool false]) ∧ Fr No w w')
set_option maxHeartbeats 8000000 in
set_option maxRecDepth 100000 in
theorem rsaid_any (l : List (EvP × Ev)) (q : Option Addr) (cap v : Nat) (w : World) (hl : LsAt w q l) (hn : l.length ≤ 1000000) :
    Calls Tryd.prog 32 #[.slice q l.length cap, .int .u8 v] w (SaidPost w l v) := by
  have LA := hid (fun w1 (h : Fr No w w1) => hl.fr h)
  have L2 := hid (fun s e w1 (h : EvAt w1 s e) (_ : Fr No w w1) => rto_any s e v w1 h)
  unfold SaidPost
  clear hl
  go_enter Tryd.func32, Tryd.ntmps32
  go_wp2_with fail
  go_loopg [6, 7] l.length (fun k ov i wr => ∃ (m : Nat) (L : List (EvP × Ev)), m ≤ l.length ∧ l.length ≤ m + k ∧ i = .int .i64 m ∧ Hid (L.length = m ∧ allOK (l.take m) v = true ∧ L.map Prod.snd = (l.take m).map (fun p => (toR p.2 v).1)) ∧ LsRow w.heap.size wr ov L ∧ Fr No w wr)
  case atStart => exact ⟨0, [], Nat.zero_le _, by omega, rfl, hid ⟨rfl, rfl, rfl⟩, LsRow.nil _ _, Fr.refl _⟩
  case round =>
    rename Value => ov
    obtain ⟨m, L, hm, hk, rfl, HL, hrow, hf⟩ := hrel
    by_cases hlt : m < l.length
    · obtain ⟨p, hp⟩ : ∃ p, l[m]? = some p := ⟨_, List.getElem?_eq_getElem hlt⟩
      obtain ⟨s, e⟩ := p
      obtain ⟨hE, b, o, hq, c0, c1, c2, c3⟩ := LA.out _ hf m s e hp
      subst hq
      have i1 : (m : Int) < (l.length : Int) := by omega
      have i2 : (0 : Int) ≤ (m : Int) := by omega
      have i4 : (m : Int) + 1 ≤ 1000001 := by omega
      have ht : l.take (m + 1) = l.take m ++ [(s, e)] := by rw [List.take_succ_eq_append_getElem hlt, (List.getElem?_eq_some_iff.1 hp).2]
      have HE := hid (And.intro hp ht)
      have LE := hid (fun w1 (h : Fr No wr w1) => L2.out s e w1 (hE.fr h) (hf.trans h))
      unfold UpPost at LE
      generalize hR : toR e v = R at LE
      have HR := hid hR
      have HF1 : Fr No wr wr := Fr.refl _
      have HROW := hid hrow
      clear hp ht hE hR hrow
      unfold evV at LE
      by_cases hz : R.2 = 0
      · have z1 : (R.2 == 0) = true := by rw [hz]; rfl
        have z2 : (R.2 != 0) = false := by rw [hz]; rfl
        obtain ⟨i0, hi, hz0, hz1, hz2⟩ := info_parts infoEv
        have hLl := HL.out.1
        have HZ := hid hz
        have HLL := hid hLl
        clear hz hLl
        go_wp2_with (first
          | (go_at_call 57; (with_reducible refine (LE.out _ HF1).mono ?_); rintro e5 w5 ⟨s5, rfl, hn5, hf5⟩; have hown := (HROW.out.fr (((HF1.trans hf5).alloc (.cells #[.int .u8 R.1.v, .int .u8 R.1.kind, .slice s5.qn R.1.nums.length s5.cn, .slice s5.qt R.1.texts.length s5.ct] 34)).alloc (.cells #[.int .u8 R.1.v, .int .u8 R.1.kind, .slice s5.qn R.1.nums.length s5.cn, .slice s5.qt R.1.texts.length s5.ct] 34))).own)
          | (at_builtin; refine wpList_append_fr _ rfl _ _ 26 rfl 34 i0 (.agg #[.int .u8 0, .int .u8 0, .slice none 0 0, .slice none 0 0]) 4 56 Tryd.underlying26 hi hz0 hz1 hz2 rfl (by decide) _ _ _ rfl hown ⟨w5.heap.size + 1, 0, none⟩ 1 1 (evC (s5, R.1)) rfl rfl ?c1 ?c2 ?c3 ?c4 ?_))
        case c1 => intro j u hu; have h := cells_new (w5.alloc (.cells #[.int .u8 R.1.v, .int .u8 R.1.kind, .slice s5.qn R.1.nums.length s5.cn, .slice s5.qt R.1.texts.length s5.ct] 34)) (evC (s5, R.1)) 34 j u hu; simp only [World.size_alloc] at h; exact h
        case c2 => intro u hu; simp [evC] at hu; rcases hu with rfl | rfl | rfl | rfl <;> rfl
        case c3 => have := HLL.out; unfold maxLen; omega
        case c4 => have := HLL.out; omega
        intro v' w6 ho hf6 hn6
        have hA : Fr No w5 ((w5.alloc (.cells #[.int .u8 R.1.v, .int .u8 R.1.kind, .slice s5.qn R.1.nums.length s5.cn, .slice s5.qt R.1.texts.length s5.ct] 34)).alloc (.cells #[.int .u8 R.1.v, .int .u8 R.1.kind, .slice s5.qn R.1.nums.length s5.cn, .slice s5.qt R.1.texts.length s5.ct] 34)) := ((Fr.refl w5).alloc _).alloc _
        have hfW := (HF1.trans hf5).trans hA
        have hnew := (hn5.fr hA).onlyS hown hf6
        have hle1 : wr.heap.size ≤ wr.heap.size := Nat.le_refl _
        have hall : ∀ x, x ∈ L ++ [(s5, R.1)] → EvNew w.heap.size w6 x.1 x.2 := fun x hx => by
          rcases List.mem_append.1 hx with hx | hx
          · exact ((HROW.out.evs x hx).fr hfW).onlyS hown hf6
          · obtain rfl : x = (s5, R.1) := by simpa using hx
            exact hnew.mono (Nat.le_trans hf.size hle1)
        have hrow := HROW.out.more (w4 := (w5.alloc (.cells #[.int .u8 R.1.v, .int .u8 R.1.kind, .slice s5.qn R.1.nums.length s5.cn, .slice s5.qt R.1.texts.length s5.ct] 34)).alloc (.cells #[.int .u8 R.1.v, .int .u8 R.1.kind, .slice s5.qn R.1.nums.length s5.cn, .slice s5.qt R.1.texts.length s5.ct] 34)) (p := (s5, R.1)) (Nat.le_trans hf.size hfW.size) hall ho (by simpa using hn6) hnew hle1
        have HNR := hid hrow
        have HFE := hid ((hf.trans hfW).newOnlyS (fun g hg => HROW.out.new g hg) hf6)
        have HOK : Hid ((L ++ [(s5, R.1)]).length = m + 1 ∧ allOK (l.take (m + 1)) v = true ∧ (L ++ [(s5, R.1)]).map Prod.snd = (l.take (m + 1)).map (fun p => (toR p.2 v).1)) := hid (by
          obtain ⟨h1, h2, h3⟩ := HL.out
          rw [HE.out.2]
          refine ⟨by simp [h1], ?_, by simp [h3, HR.out]⟩
          unfold allOK at h2 ⊢
          rw [List.all_append, h2]
          simp [HR.out, HZ.out])
        clear ho hf6 hn6 hown hA hfW hnew hall hrow
        go_wp2_with fail
        go_roundg (gk - 1)
        case measure => omega
        case rel => exact ⟨m + 1, _, by omega, by omega, by go_num, HOK, HNR.out, HFE.out⟩
      · have z1 : (R.2 == 0) = false := by rw [beq_eq_false_iff_ne]; exact hz
        have z2 : (R.2 != 0) = true := by rw [bne, z1]; rfl
        have HBAD : Hid (allOK l v = false ∧ R.2 ≠ 0) := hid ⟨by
          unfold allOK
          rw [List.all_eq_false]
          exact ⟨(s, e), List.mem_of_getElem? HE.out.1, by simp [HR.out, hz]⟩, hz⟩
        clear hz
        go_wp2_with (first
          | (go_at_call 57; (with_reducible refine (LE.out _ HF1).mono ?_); rintro e5 w5 ⟨s5, rfl, hn5, hf5⟩))
        go_ret2
        exact .inr ⟨HBAD.out.1, rfl, (hf.trans (HF1.trans hf5)).alloc _⟩
    · obtain rfl : m = l.length := by omega
      rw [List.take_length] at HL
      obtain ⟨qo, co, rfl⟩ := hrow.shape
      have HROW := hid hrow
      clear hrow
      go_wp2_with fail
      go_ret2
      exact .inl ⟨HL.out.2.1, L, qo, co, rfl, HL.out.2.2, HROW.out, hf⟩


/-- May those that have come be a batch with the first one's version? -/
def okTo (v0 : Nat) (l : List (EvP × Ev)) : Bool := l.all fun p => mayS p.2 && decide (p.2.v = v0)
theorem mayL_okTo (sx : EvP) (x : Ev) (l : List (EvP × Ev)) (h : ((sx, x) :: l).length ≤ 40) : mayL (((sx, x) :: l).map Prod.snd) = okTo x.v ((sx, x) :: l) := by
  unfold mayL okTo
  rw [decide_eq_true (show 0 < (((sx, x) :: l).map Prod.snd).length by simp), decide_eq_true (p := (((sx, x) :: l).map Prod.snd).length ≤ 40) (by simpa using h), Bool.true_and, Bool.true_and, List.all_map]
  congr 1
  funext p
  simp [Bool.and_comm]
set_option maxHeartbeats 8000000 in
set_option maxRecDepth 100000 in
theorem rmay8_any (l : List (EvP × Ev)) (q : Option Addr) (cap : Nat) (w : World) (hl : LsAt w q l) (hn : l.length ≤ 1000000) :
    Calls Tryd.prog 30 #[.slice q l.length cap] w fun en w' => en = .returned (.bool (mayL (l.map Prod.snd))) ∧ Fr No w w' := by
  rcases l with _ | ⟨⟨sx, x⟩, l'⟩
  · have HM : Hid (mayL (([] : List (EvP × Ev)).map Prod.snd) = false) := hid rfl
    simp only [List.length_nil]
    go_enter Tryd.func30, Tryd.ntmps30
    go_wp2_with fail
    go_ret
    exact ⟨congrArg (fun z => Ending.returned (.bool z)) HM.out.symm, Fr.refl _⟩
  · by_cases h40 : ((sx, x) :: l').length ≤ 40
    · have HM := hid (mayL_okTo sx x l' h40)
      rw [HM.out]
      obtain ⟨_, b0, o0, hq0, c00, _, _, _⟩ := hl 0 sx x rfl
      have c00' : w.cell? ⟨b0, o0, none⟩ = some (.int .u8 x.v) := by simpa using c00
      subst hq0
      have LA := hid (fun w1 (h : Fr No w w1) => hl.fr h)
      have i0 : ((sx, x) :: l').length = l'.length + 1 := rfl
      generalize ((sx, x) :: l') = l at *
      have i1 : decide ((l.length : Int) < 1) = false := by simp; omega
      have i2 : decide ((40 : Int) < (l.length : Int)) = false := by simp; omega
      have i3 : (0 : Int) < (l.length : Int) := by omega
      have HL := hid i0
      have HV0 := hid c00'
      clear hl c00 hn HM i0 c00'
      go_enter Tryd.func30, Tryd.ntmps30
      go_wp2_with fail
      go_loopg [3] l.length (fun k i wr => ∃ m : Nat, m ≤ l.length ∧ l.length ≤ m + k ∧ i = .int .i64 m ∧ Hid (okTo x.v (l.take m) = true) ∧ Fr No w wr)
      case atStart => exact ⟨0, Nat.zero_le _, by omega, rfl, hid rfl, Fr.refl _⟩
      case round =>
        obtain ⟨m, hm, hk, rfl, HB, hf⟩ := hrel
        by_cases hlt : m < l.length
        · obtain ⟨⟨s, e⟩, hp⟩ : ∃ p, l[m]? = some p := ⟨_, List.getElem?_eq_getElem hlt⟩
          obtain ⟨hE, b, o, hq, c0, c1, c2, c3⟩ := LA.out _ hf m s e hp
          obtain ⟨rfl, rfl⟩ : b0 = b ∧ o0 = o := by simpa using hq
          have i4 : (m : Int) < (l.length : Int) := by omega
          have i5 : (0 : Int) ≤ (m : Int) := by omega
          have i6 : (m : Int) + 1 ≤ 1000001 := by omega
          have ht : l.take (m + 1) = l.take m ++ [(s, e)] := by rw [List.take_succ_eq_append_getElem hlt, (List.getElem?_eq_some_iff.1 hp).2]
          have HOK : Hid (okTo x.v (l.take (m + 1)) = (mayS e && decide (e.v = x.v))) := hid (by rw [ht]; unfold okTo at HB ⊢; rw [List.all_append, HB.out]; simp)
          have HNO : Hid ((mayS e && decide (e.v = x.v)) = false → okTo x.v l = false) := hid (fun h => by unfold okTo; rw [List.all_eq_false]; exact ⟨(s, e), List.mem_of_getElem? hp, by simpa using h⟩)
          have RM := hid (fun w1 (h : Fr No wr w1) => rMay_any s e w1 (hE.fr h))
          have cv := hf.cell0 HV0.out
          clear hp ht hE hq
          unfold evV at RM
          go_upto_region 6 with fail
          have X1 := hid (fun (y : Aft wr) => RM.out y.val y.h)
          have m0 := fun (y : Aft wr) => y.h.cell0 c0
          have m1 := fun (y : Aft wr) => y.h.cell0 c1
          have m2 := fun (y : Aft wr) => y.h.cell0 c2
          have m3 := fun (y : Aft wr) => y.h.cell0 c3
          have mv := fun (y : Aft wr) => y.h.cell0 cv
          clear c0 c1 c2 c3 cv RM
          rcases hme : mayS e with _ | _
          · rw [hme] at X1
            have HR := hid (HNO.out (by rw [hme]; rfl))
            clear HOK HNO hme
            refine wp_region_aft (by kernel_rfl) (by kernel_rfl) ?_
            repeat (go_big_quiet_step (first | (go_at_call 56; exact calls_aft (X1.out _))))
            refine wpQuiet_nil ?_
            rintro _ ⟨⟨w9, hf9⟩, rfl⟩
            clear m0 m1 m2 m3 mv
            go_wp2_with fail
            go_ret
            exact ⟨congrArg (fun z => Ending.returned (.bool z)) HR.out.symm, hf.trans hf9⟩
          · rw [hme] at X1
            by_cases hv : e.v = x.v
            · have t1 : ((e.v : Int) != (x.v : Int)) = false := by simp [hv]
              have HR : Hid (okTo x.v (l.take (m + 1)) = true) := hid (by rw [HOK.out, hme]; simp [hv])
              clear HOK HNO hme hv
              refine wp_region_aft (by kernel_rfl) (by kernel_rfl) ?_
              repeat (go_big_quiet_step (first | (go_at_call 56; exact calls_aft (X1.out _))))
              refine wpQuiet_nil ?_
              rintro _ ⟨⟨w9, hf9⟩, rfl⟩
              clear m0 m1 m2 m3 mv
              go_wp2_with fail
              go_roundg (gk - 1)
              case measure => omega
              case rel => exact ⟨m + 1, by omega, by omega, by go_num, HR, hf.trans hf9⟩
            · have t1 : ((e.v : Int) != (x.v : Int)) = true := by simp; omega
              have HR := hid (HNO.out (by rw [hme]; simp [hv]))
              clear HOK HNO hme hv
              refine wp_region_aft (by kernel_rfl) (by kernel_rfl) ?_
              repeat (go_big_quiet_step (first | (go_at_call 56; exact calls_aft (X1.out _))))
              refine wpQuiet_nil ?_
              rintro _ ⟨⟨w9, hf9⟩, rfl⟩
              clear m0 m1 m2 m3 mv
              go_wp2_with fail
              go_ret
              exact ⟨congrArg (fun z => Ending.returned (.bool z)) HR.out.symm, hf.trans hf9⟩
        · obtain rfl : m = l.length := by omega
          rw [List.take_length] at HB
          go_wp2_with fail
          go_ret
          exact ⟨congrArg (fun z => Ending.returned (.bool z)) HB.out.symm, hf⟩
    · have HM : Hid (mayL (((sx, x) :: l').map Prod.snd) = false) := hid (by unfold mayL; rw [decide_eq_false (p := (((sx, x) :: l').map Prod.snd).length ≤ 40) (by simpa using h40)]; simp)
      rw [HM.out]
      have i1 : decide ((((sx, x) :: l').length : Int) < 1) = false := by simp; omega
      have i2 : decide ((40 : Int) < (((sx, x) :: l').length : Int)) = true := by simp at h40 ⊢; omega
      generalize ((sx, x) :: l') = l at *
      clear hl hn h40 HM
      go_enter Tryd.func30, Tryd.ntmps30
      go_wp2_with fail
      go_ret
      exact ⟨rfl, Fr.refl _⟩

section
attribute [local go_sem ↓] run_one_new run_one_drew run_one_ad

set_option maxHeartbeats 8000000 in
set_option maxRecDepth 100000 in
theorem rencode8_any (l : List (EvP × Ev)) (q : Option Addr) (cap : Nat) (w : World) (hl : LsAt w q l) (hn : l.length ≤ 1000000) :
    Calls Tryd.prog 28 #[.slice q l.length cap] w fun en w' => en = .returned (.tuple #[strV (encL (l.map Prod.snd)).1, .int .i64 (encL (l.map Prod.snd)).2]) ∧ Fr No w w' := by
  by_cases h40 : l.length ≤ 40
  · have MA := hid (rmay8_any l q cap w hl hn)
    have i1 : decide ((40 : Int) < (l.length : Int)) = false := by simp; omega
    rcases hm : mayL (l.map Prod.snd) with _ | _
    · have HE : Hid (encL (l.map Prod.snd) = ([], 4)) := hid (by unfold encL; rw [if_neg (by simpa using h40), hm]; rfl)
      rw [hm] at MA
      rw [HE.out]
      unfold strV
      clear hl hn h40 hm HE
      go_enter Tryd.func28, Tryd.ntmps28
      go_wp2_with (first | (go_at_call 30; (with_reducible refine MA.out.mono ?_); rintro e1 w1 ⟨rfl, hf1⟩) | fail)
      go_ret2
      exact ⟨rfl, hf1⟩
    · have HE : Hid (encL (l.map Prod.snd) = (payB (l.map Prod.snd), 0)) := hid (by unfold encL; rw [if_neg (by simpa using h40), if_pos hm])
      rw [hm] at MA
      rw [HE.out]
      obtain ⟨p0, p40, pall⟩ := mayL_parts hm
      obtain ⟨⟨sx, x⟩, l', rfl⟩ : ∃ p l', l = p :: l' := by
        rcases l with _ | ⟨p, l'⟩
        · simp at p0
        · exact ⟨p, l', rfl⟩
      have hx : (((sx, x) :: l').map Prod.snd).headD zeroE = x := rfl
      rw [hx] at pall
      have hPB : payB (((sx, x) :: l').map Prod.snd) = [byteN x.v] ++ shortB ((sx, x) :: l').length ++ evsB (((sx, x) :: l').map Prod.snd) := by
        unfold payB; rw [hx, List.length_map]; rfl
      obtain ⟨_, b0, o0, hq0, c00, _, _, _⟩ := hl 0 sx x rfl
      subst hq0
      have hlen : 0 < ((sx, x) :: l').length := by simp
      generalize ((sx, x) :: l') = L at *
      have LA := hid (fun w1 (h : Fr No w w1) => hl.fr h)
      have LM : Hid (∀ p, p ∈ L → mayS p.2 = true) := hid (fun p hp => (pall p.2 (List.mem_map.2 ⟨p, hp, rfl⟩)).2)
      have i2 : (0 : Int) < (L.length : Int) := by omega
      have hLl : L.length ≤ 40 := h40
      have HPB := hid hPB
      have c00' : w.cell? ⟨b0, o0, none⟩ = some (.int .u8 x.v) := by simpa using c00
      have SB := hid (fun w1 => refShort_any L.length w1 (by omega))
      have hwr : IntKind.u64.wrap (L.length : Int) = (L.length : Int) := IntWalk.u64_in _ (by omega)
      have SB2 := SB
      rw [← hwr] at SB2
      clear hwr
      have hsl := shortB_length_le L.length
      have hcat := hid (cat_two [byteN x.v] (shortB L.length))
      have hHl : ([byteN x.v] ++ shortB L.length).length ≤ 11 := by simp; omega
      generalize shortB L.length = T at SB SB2 hcat hsl HPB hHl
      clear hl hn hm HE p0 p40 pall hPB hx c00 hlen
      unfold strV at *
      go_enter Tryd.func28, Tryd.ntmps28
      go_upto_region 5 with (first | (go_at_call 30; (with_reducible refine MA.out.mono ?_); rintro e1 w1 ⟨rfl, hf1⟩) | fail)
      have cx := hf1.cell0 c00'
      have zl : b0 < w1.heap.size := World.block_lt_of_cell? w1 _ cx
      go_cut [4] from 12 (fun u w' => u = .string ⟨([byteN x.v] ++ T).toArray⟩ ∧ Fr No w1 w')
      case first =>
        have C1 := hid (fun w5 (h : Fr No w1 w5) => h.cell0 cx)
        have HB := hid (fun w6 (hf : Fr No (w1.alloc (.cells #[.int .u8 x.v] 5)).drew w6) => run_one_text w6 w1.heap.size _ (hf.heap0 (Go.heap_alloc_new w1 _)))
        go_region_with (first
          | (go_at_call 54; (first | (with_reducible refine (SB.out _).mono ?_) | (with_reducible refine (SB2.out _).mono ?_)); rintro e6 w6 ⟨rfl, hf6⟩; have hd := C1.out w6 (Fr.trans (by repeat (first | exact Fr.refl _ | refine Fr.drew ?_ | refine Fr.alloc ?_ _)) hf6); first | (have hh := HB.out _ hf6) | skip))
        all_goals go_wp2
        all_goals go_meet
        all_goals refine ⟨congrArg Value.string hcat.out, ?_⟩
        all_goals first
          | exact Fr.trans (by repeat (first | exact Fr.refl _ | refine Fr.drew ?_ | refine Fr.alloc ?_ _)) hf6
          | exact (Fr.trans (by repeat (first | exact Fr.refl _ | refine Fr.drew ?_ | refine Fr.alloc ?_ _)) hf6).alloc _
      case rest =>
        rename World => w7
        obtain ⟨rfl, hf7⟩ := hcut
        have HF7 := hid (hf1.trans hf7)
        have RB := hid (fun s e w1 (h : EvAt w1 s e) (hm : mayS e = true) => refBare_any s e w1 h hm)
        generalize [byteN x.v] ++ T = H at HPB hHl ⊢
        clear SB SB2 hcat hsl cx zl hf7 hf1 c00'
        go_wp2_with fail
        go_loopg [4, 5] L.length (fun k sv i wr => ∃ (m : Nat) (B : List UInt8), m ≤ L.length ∧ L.length ≤ m + k ∧ i = .int .i64 m ∧ sv = .string ⟨B.toArray⟩ ∧ Hid (B = H ++ evsB ((L.take m).map Prod.snd)) ∧ Fr No w wr)
        case atStart => exact ⟨0, H, Nat.zero_le _, by omega, rfl, rfl, hid (by simp [evsB]), HF7.out⟩
        case round =>
          obtain ⟨m, B, hm, hk, rfl, rfl, HB, hf⟩ := hrel
          by_cases hlt : m < L.length
          · obtain ⟨⟨s, e⟩, hp⟩ : ∃ p, L[m]? = some p := ⟨_, List.getElem?_eq_getElem hlt⟩
            obtain ⟨hE, b, ob, hq, c0, c1, c2, c3⟩ := LA.out _ hf m s e hp
            have hme := LM.out _ (List.mem_of_getElem? hp)
            obtain ⟨rfl, rfl⟩ : b0 = b ∧ o0 = ob := by simpa using hq
            have HT : Hid (B ++ evB e = H ++ evsB ((L.take (m + 1)).map Prod.snd)) := hid (by rw [evsB_take hp, HB.out]; simp)
            have hle := evsB_le LM.out hLl m
            have hBl : B.length ≤ 4000 := by rw [HB.out, List.length_append]; omega
            have hEl : (evB e).length ≤ 91 := evB_short hme
            have i3 : (m : Int) < (L.length : Int) := by omega
            have i4 : (0 : Int) ≤ (m : Int) := by omega
            have i5 : (m : Int) + 1 ≤ 41 := by omega
            have R1 := hid (fun w1 (h : Fr No wr w1) => RB.out s e w1 (hE.fr h) hme)
            generalize evB e = E at R1 hEl HT
            have hcat := hid (cat_two B E)
            clear hp hE hme hle hq
            unfold evV strV at R1
            go_wp2_with (first
              | (go_at_call 55; (with_reducible refine (R1.out _ (by repeat (first | exact Fr.refl _ | refine Fr.drew ?_ | refine Fr.alloc ?_ _))).mono ?_); rintro e4 w4 ⟨rfl, hf4⟩)
              | fail)
            go_roundg (gk - 1)
            case measure => omega
            case rel => exact ⟨m + 1, B ++ E, by omega, by omega, by go_num, congrArg Value.string hcat.out, HT, hf.trans (Fr.trans (by repeat (first | exact Fr.refl _ | refine Fr.drew ?_ | refine Fr.alloc ?_ _)) hf4)⟩
          · obtain rfl : m = L.length := by omega
            rw [List.take_length] at HB
            clear hk LA LM
            go_wp2_with fail
            go_ret2
            refine ⟨?_, hf⟩
            rw [HB.out, HPB.out]
            rfl
  · have i1 : decide ((40 : Int) < (l.length : Int)) = true := by simp; omega
    have HE : Hid (encL (l.map Prod.snd) = ([], 40)) := hid (by unfold encL; rw [if_pos (by simp; omega)])
    rw [HE.out]
    unfold strV
    clear hl hn h40 HE
    go_enter Tryd.func28, Tryd.ntmps28
    go_wp2_with fail
    go_ret2
    exact ⟨rfl, Fr.refl _⟩
end
end Go.Proofs.YtnmfmedoocnofaaDoor
