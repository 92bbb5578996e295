/-
  batch.May: the walk. No statement of the seat is proved here.
-/
import Derived.Test.YtnmfmedoocnofaaDoorBPlain
import Derived.Test.YtnmfmedoocnofaaDoorLowest
import Derived.Laws.EntriesVeiled
namespace Go.Proofs.YtnmfmedoocnofaaDoor
open Go.RowKit

/-- Another version than the first one's, or none that may be? -/
def otherP (v0 : Nat) (e : Ev) : Bool := decide (e.v ≠ v0) || !mayS e

set_option maxHeartbeats 4000000 in
set_option maxRecDepth 100000 in
theorem other_any (s : EvP) (e x : Ev) (q : Option Addr) (n cap bl : Nat) (w : World) (he : EvAt w s e) (hkt : KT w) (hc : w.cell? ⟨bl, 0, none⟩ = some (.slice q (n + 1) cap)) (hq : ∃ b o, q = some ⟨b, o, none⟩ ∧ w.cell? ⟨b, o, none⟩ = some (.int .u8 x.v)) :
    Calls Tryd.prog 43 #[evV s e, .pointer (some ⟨bl, 0, none⟩)] w fun en w' => en = .returned (.bool (otherP x.v e)) ∧ Fr No w w' := by
  obtain ⟨b, o, rfl, hv⟩ := hq
  have HF0 : Fr No w (w.alloc (.cells #[.int .u8 e.v, .int .u8 e.kind, .slice s.qn e.nums.length s.cn, .slice s.qt e.texts.length s.ct] 34)) := (Fr.refl w).alloc _
  have ME := hid (fun w1 (h : Fr No w w1) => may_any s e w1 (he.fr h) (hkt.fr h))
  have g0 := Go.heap_alloc_new w (.cells #[.int .u8 e.v, .int .u8 e.kind, .slice s.qn e.nums.length s.cn, .slice s.qt e.texts.length s.ct] 34)
  obtain ⟨n0, n1, n2, n3, _, _, _, _⟩ := Go.Proofs.YtnmfmedoocnofaaDoor.cells4 g0
  have hc1 := HF0.cell0 hc
  have hv1 := HF0.cell0 hv
  have HB := hid HF0
  have hsz : w.heap.size < (w.alloc (.cells #[.int .u8 e.v, .int .u8 e.kind, .slice s.qn e.nums.length s.cn, .slice s.qt e.texts.length s.ct] 34)).heap.size := by simp
  have OP : Hid (otherP x.v e = (decide (e.v ≠ x.v) || !mayS e)) := hid rfl
  have hn : (0 : Int) < (n : Int) + 1 := by omega
  clear he hkt hc hv g0
  unfold evV at *
  go_enter Tryd.func43, Tryd.ntmps43
  go_upto_region 1 with fail
  generalize (w.alloc (.cells #[.int .u8 e.v, .int .u8 e.kind, .slice s.qn e.nums.length s.cn, .slice s.qt e.texts.length s.ct] 34)) = W1 at n0 n1 n2 n3 hc1 hv1 HB hsz HF0 ⊢
  have X1 := hid (fun (x : Aft W1) => ME.out x.val (HB.out.trans x.h))
  have m0 := fun (y : Aft W1) => y.h.cell0 n0
  have m1 := fun (y : Aft W1) => y.h.cell0 n1
  have m2 := fun (y : Aft W1) => y.h.cell0 n2
  have m3 := fun (y : Aft W1) => y.h.cell0 n3
  have mc := fun (y : Aft W1) => y.h.cell0 hc1
  have mv := fun (y : Aft W1) => y.h.cell0 hv1
  clear n0 n1 n2 n3 hc1 hv1 ME
  by_cases hev : e.v = x.v
  · have OP2 : Hid (otherP x.v e = !mayS e) := hid (by rw [OP.out]; simp [hev])
    have t1 : ((e.v : Int) != (x.v : Int)) = false := by simp [hev]
    generalize mayS e = M at X1 OP2
    clear OP hev
    refine wp_region_aft (by kernel_rfl) (by kernel_rfl) ?_
    repeat (go_big_quiet_step (first | (go_at_call 44; exact calls_aft (X1.out _))))
    refine wpQuiet_nil ?_
    rintro _ ⟨⟨w9, hf9⟩, rfl⟩
    go_wp2_with fail
    go_ret
    exact ⟨congrArg (fun z => Ending.returned (.bool z)) OP2.out.symm, HB.out.trans hf9⟩
  · have OP2 : Hid (otherP x.v e = true) := hid (by rw [OP.out]; simp [hev])
    have t1 : ((e.v : Int) != (x.v : Int)) = true := by simp; omega
    clear OP hev
    refine wp_region_aft (by kernel_rfl) (by kernel_rfl) ?_
    repeat (go_big_quiet_step (first | (go_at_call 44; exact calls_aft (X1.out _))))
    refine wpQuiet_nil ?_
    rintro _ ⟨⟨w9, hf9⟩, rfl⟩
    go_wp2_with fail
    go_ret
    exact ⟨congrArg (fun z => Ending.returned (.bool z)) OP2.out.symm, HB.out.trans hf9⟩

def anyOther (v0 : Nat) (l : List (EvP × Ev)) : Bool := l.any fun p => otherP v0 p.2
def IdxPost2 (w : World) (v0 : Nat) (l : List (EvP × Ev)) (en : Ending) (w' : World) : Prop := ∃ r : Int, en = .returned (.int .i64 r) ∧ decide (0 ≤ r) = anyOther v0 l ∧ Fr No w w'
set_option maxHeartbeats 4000000 in
set_option maxRecDepth 100000 in
theorem index2_any (v0 bl : Nat) (l : List (EvP × Ev)) (q : Option Addr) (cap : Nat) (w : World) (hl : LsAt w q l) (hn : l.length ≤ 1000000)
    (h1 : ∀ s e w1, EvAt w1 s e → Fr No w w1 → Calls Tryd.prog 43 #[evV s e, .pointer (some ⟨bl, 0, none⟩)] w1 fun en w' => en = .returned (.bool (otherP v0 e)) ∧ Fr No w1 w') :
    Calls Tryd.prog 75 #[.slice q l.length cap, .func (.func 43) #[] #[.pointer (some ⟨bl, 0, none⟩)]] w (IdxPost2 w v0 l) := by
  have LA := hid (fun w1 (h : Fr No w w1) => hl.fr h)
  have L1 := hid h1
  unfold IdxPost2
  clear hl h1
  go_enter Tryd.func75, Tryd.ntmps75
  go_wp2_with fail
  go_loopg [8] l.length (fun k i wr => ∃ m : Nat, m ≤ l.length ∧ l.length ≤ m + k ∧ i = .int .i64 m ∧ Hid (anyOther v0 (l.take m) = false) ∧ Fr No w wr)
  case atStart => exact ⟨0, Nat.zero_le _, by omega, rfl, hid rfl, Fr.refl _⟩
  case round =>
    obtain ⟨m, hm, hk, rfl, HB, hf⟩ := hrel
    by_cases hlt : m < l.length
    · obtain ⟨p, hp⟩ : ∃ p, l[m]? = some p := ⟨_, List.getElem?_eq_getElem hlt⟩
      obtain ⟨s, e⟩ := p
      obtain ⟨hE, b, o, hq, c0, c1, c2, c3⟩ := LA.out _ hf m s e hp
      subst hq
      have i1 : (m : Int) < (l.length : Int) := by omega
      have i2 : (0 : Int) ≤ (m : Int) := by omega
      have i4 : (m : Int) + 1 ≤ 1000001 := by omega
      have ht : l.take (m + 1) = l.take m ++ [(s, e)] := by rw [List.take_succ_eq_append_getElem hlt, (List.getElem?_eq_some_iff.1 hp).2]
      have L1e := hid (L1.out s e wr hE hf)
      have HE := hid (And.intro hp ht)
      clear hp ht hE
      rcases hme : otherP v0 e with _ | _
      · rw [hme] at L1e
        have HOK : Hid (anyOther v0 (l.take (m + 1)) = false) := hid (by rw [HE.out.2]; unfold anyOther at HB ⊢; rw [List.any_append, HB.out]; simp [hme])
        clear hme
        unfold evV at L1e
        go_wp2_with (first | (go_at_call 43; (with_reducible refine L1e.out.mono ?_); rintro e1 w1 ⟨rfl, hf1⟩))
        go_roundg (gk - 1)
        case measure => omega
        case rel => exact ⟨m + 1, by omega, by omega, by go_num, HOK, hf.trans hf1⟩
      · rw [hme] at L1e
        have HBAD : Hid (anyOther v0 l = true) := hid (List.any_eq_true.2 ⟨(s, e), List.mem_of_getElem? HE.out.1, by simp [hme]⟩)
        clear hme
        unfold evV at L1e
        go_wp2_with (first | (go_at_call 43; (with_reducible refine L1e.out.mono ?_); rintro e1 w1 ⟨rfl, hf1⟩))
        go_ret
        exact ⟨m, rfl, by rw [HBAD.out]; simp, hf.trans hf1⟩
    · obtain rfl : m = l.length := by omega
      rw [List.take_length] at HB
      go_wp2_with fail
      go_ret
      exact ⟨-1, rfl, by rw [HB.out]; rfl, hf⟩
set_option maxHeartbeats 1000000 in
theorem contains2_any (v0 bl : Nat) (l : List (EvP × Ev)) (q : Option Addr) (cap : Nat) (w : World) (hl : LsAt w q l) (hn : l.length ≤ 1000000)
    (h1 : ∀ s e w1, EvAt w1 s e → Fr No w w1 → Calls Tryd.prog 43 #[evV s e, .pointer (some ⟨bl, 0, none⟩)] w1 fun en w' => en = .returned (.bool (otherP v0 e)) ∧ Fr No w1 w') :
    Calls Tryd.prog 45 #[.slice q l.length cap, .func (.func 43) #[] #[.pointer (some ⟨bl, 0, none⟩)]] w fun en w' => en = .returned (.bool (anyOther v0 l)) ∧ Fr No w w' := by
  have IX := hid (index2_any v0 bl l q cap w hl hn h1)
  unfold IdxPost2 at IX
  generalize anyOther v0 l = A at IX ⊢
  clear hl h1 hn
  go_enter Tryd.func45, Tryd.ntmps45
  go_wp2_with (first | (go_at_call 75; (with_reducible refine IX.out.mono ?_); rintro e1 w1 ⟨r, rfl, hr, hf1⟩; have HR := hid hr; clear hr))
  go_ret
  exact ⟨congrArg (fun z => Ending.returned (.bool z)) HR.out, hf1⟩

theorem all_other (v0 : Nat) : ∀ l : List Ev, (l.all fun e => decide (e.v = v0) && mayS e) = !(l.any fun e => otherP v0 e)
  | [] => rfl
  | e :: l => by
    rw [List.all_cons, List.any_cons, all_other v0 l, Bool.not_or]
    congr 1
    unfold otherP
    by_cases h : e.v = v0 <;> simp [h]
theorem mayL_other (x : Ev) (l : List Ev) (h : (x :: l).length ≤ 40) : mayL (x :: l) = !((x :: l).any fun e => otherP x.v e) := by
  unfold mayL
  rw [decide_eq_true (show 0 < (x :: l).length by simp), decide_eq_true h, Bool.true_and, Bool.true_and]
  exact all_other x.v (x :: l)

set_option maxHeartbeats 4000000 in
set_option maxRecDepth 100000 in
theorem bmay_any (l : List (EvP × Ev)) (q : Option Addr) (cap : Nat) (w : World) (hl : LsAt w q l) (hkt : KT w) (hn : l.length ≤ 1000000) :
    Calls Tryd.prog 18 #[.slice q l.length cap] w fun en w' => en = .returned (.bool (mayL (l.map Prod.snd))) ∧ Fr No w w' := by
  have hmf : ∀ (fn : Fn) (first cp : Array Value) (w : World), (Instr.makeFunc fn first cp).run Tryd.prog w = .ok (.func fn first cp) w := fun _ _ _ _ => rfl
  have HF0 : Fr No w (w.alloc (.cells #[.slice q l.length cap] 26)) := (Fr.refl w).alloc _
  have g0 := Go.heap_alloc_new w (.cells #[.slice q l.length cap] 26)
  obtain ⟨k0, _⟩ := cell1 g0
  have HB := hid HF0
  rcases l with _ | ⟨⟨sx, x⟩, l⟩
  · have HM : Hid (mayL (([] : List (EvP × Ev)).map Prod.snd) = false) := hid rfl
    clear hl hkt hn g0
    go_enter Tryd.func18, Tryd.ntmps18
    simp only [List.length_nil] at *
    go_wp2_with fail
    go_ret
    exact ⟨congrArg (fun z => Ending.returned (.bool z)) HM.out.symm, HB.out⟩
  · by_cases h40 : ((sx, x) :: l).length ≤ 40
    · have HM := hid (mayL_other x (l.map Prod.snd) (by simpa using h40))
      have CA : Hid (Calls Tryd.prog 45 #[.slice q ((sx, x) :: l).length cap, .func (.func 43) #[] #[.pointer (some ⟨w.heap.size, 0, none⟩)]] (w.alloc (.cells #[.slice q ((sx, x) :: l).length cap] 26)) fun en w' => en = .returned (.bool (anyOther x.v ((sx, x) :: l))) ∧ Fr No (w.alloc (.cells #[.slice q ((sx, x) :: l).length cap] 26)) w') := hid (by
        refine contains2_any x.v w.heap.size ((sx, x) :: l) q cap _ (hl.fr HB.out) hn (fun s e w1 he hf => ?_)
        obtain ⟨_, b, o, hq, c0, _⟩ := hl 0 sx x rfl
        exact other_any s e x q l.length cap w.heap.size w1 he (hkt.fr (HB.out.trans hf)) (hf.cell0 k0) ⟨b, o, hq, (HB.out.trans hf).cell0 (by simpa using c0)⟩)
      have HA : Hid (anyOther x.v ((sx, x) :: l) = ((x :: l.map Prod.snd).any fun e => otherP x.v e)) := hid (by unfold anyOther; rw [List.any_cons, List.any_cons, List.any_map]; rfl)
      rw [HA.out] at CA
      rw [List.map_cons, HM.out]
      generalize ((x :: l.map Prod.snd).any fun e => otherP x.v e) = A at CA ⊢
      generalize hL : ((sx, x) :: l).length = L at *
      have i1 : (0 : Int) < (L : Int) := by rw [← hL]; simp
      have i2 : decide ((L : Int) ≤ 40) = true := by simp; omega
      clear hl hkt hn g0 HM HA h40 hL
      go_enter Tryd.func18, Tryd.ntmps18
      go_wp2_with (first | (go_at_call 45; (with_reducible refine CA.out.mono ?_); rintro e1 w1 ⟨rfl, hf1⟩) | fail)
      go_ret
      exact ⟨rfl, HB.out.trans hf1⟩
    · have HM : Hid (mayL (((sx, x) :: l).map Prod.snd) = false) := hid (by unfold mayL; rw [decide_eq_false (p := (((sx, x) :: l).map Prod.snd).length ≤ 40) (by simpa using h40)]; simp)
      generalize hL : ((sx, x) :: l).length = L at *
      have i1 : (0 : Int) < (L : Int) := by rw [← hL]; simp
      have i2 : decide ((L : Int) ≤ 40) = false := by simp; omega
      clear hl hkt hn g0 h40 hL
      go_enter Tryd.func18, Tryd.ntmps18
      go_wp2_with fail
      go_ret
      exact ⟨congrArg (fun z => Ending.returned (.bool z)) HM.out.symm, HB.out⟩
end Go.Proofs.YtnmfmedoocnofaaDoor
