/-
  The document's Up and Down in plain words: what they compute is what the rules say. No statement of the seat is proved here. soukref07: more, Up: the walks. No statement of the seat is proved here. The document's Down in plain words: the numbers fit the rules just if what is let down, lifted, is the event. No statement of the seat is proved here. soukref07.Down: the walk. No statement of the seat is proved here.
-/
import Derived.Test.YtnmfmedoocnofaaDoorUpOk
import Derived.Test.YtnmfmedoocnofaaDoorNewest
import Derived.Test.YtnmfmedoocnofaaDoorRMay2
import Derived.Deep.RegionHeld3
import Derived.Deep.LoopGhost
import Derived.Deep.Cut
namespace Go.Proofs.YtnmfmedoocnofaaDoor
open Go.RowKit

/-- At which place version 2 has a field more, and what it is. -/
def moreS (k : Nat) : Int × Int := if k = 3 then (1, 100) else if k = 13 then (4, 0) else if k = 14 then (5, 100) else if k = 18 then (3, 0) else (-1, 0)
def refC (v : Nat) (c : UInt8) : Int × Int := if v = 1 ∧ (c = 109 ∨ c = 112 ∨ c = 98) then (100, 0) else if v = 2 ∧ c = 116 then (10, 0) else if v = 2 ∧ c = 115 then (1, 1) else (1, 0)
def refRule (v : Nat) (j : Nat) (c : UInt8) : RuleS := ⟨j, (refC v c).1, (refC v c).2⟩
def baseR (v : Nat) (l : List UInt8) : List RuleS := l.zipIdx.map fun p => refRule v p.2 p.1
/-- The rules by the document. -/
def rulesD (v k : Nat) : List RuleS :=
  if v = 1 ∧ 0 ≤ (moreS k).1 then (baseR v (fieldsS v k).1).take (moreS k).1.toNat ++ ⟨-1, 0, (moreS k).2⟩ :: (baseR v (fieldsS v k).1).drop (moreS k).1.toNat else baseR v (fieldsS v k).1
def rulesDOk (v k : Nat) : Bool := !(fieldsS v k).2.2 || (decide (rulesL v k = rulesD v k) && (!(decide (v = 1 ∧ 0 ≤ (moreS k).1)) || decide ((moreS k).1.toNat ≤ (fieldsS v k).1.length)))
theorem rulesD_all : ((List.range 24).all fun k => rulesDOk 1 k && rulesDOk 2 k) = true := by decide +kernel
theorem rulesD_eq {v k : Nat} (h : rulesIs v k = true) : rulesL v k = rulesD v k ∧ (v = 1 → 0 ≤ (moreS k).1 → (moreS k).1.toNat ≤ (fieldsS v k).1.length) := by
  obtain ⟨hv, h1, h2, h3⟩ := rulesIs_range h
  have hg := List.all_eq_true.1 rulesD_all k (List.mem_range.2 (by omega))
  rw [Bool.and_eq_true] at hg
  have hk : rulesDOk v k = true := by
    rcases hv with rfl | rfl
    · exact hg.1
    · exact hg.2
  unfold rulesDOk at hk
  rw [h3] at hk
  simp only [Bool.not_true, Bool.false_or, Bool.and_eq_true, decide_eq_true_eq, Bool.or_eq_true, Bool.not_eq_true', decide_eq_false_iff_not] at hk
  refine ⟨hk.1, fun a b => ?_⟩
  rcases hk.2 with h | h
  · exact absurd ⟨a, b⟩ h
  · exact h
def refNum (v : Nat) (c : UInt8) (x : Int) : Int := (refC v c).2 + (refC v c).1 * x
def refN (v : Nat) (l : List UInt8) (ns : List Int) : List Int := (l.zip ns).map fun p => refNum v p.1 p.2
theorem refN_length (v : Nat) (l : List UInt8) (ns : List Int) : (refN v l ns).length = min l.length ns.length := by simp [refN]
theorem refN_snoc {v : Nat} {l : List UInt8} {ns : List Int} {m : Nat} {c : UInt8} {x : Int} (h1 : l[m]? = some c) (h2 : ns[m]? = some x) : refN v (l.take (m + 1)) ns = refN v (l.take m) ns ++ [refNum v c x] := by
  have a := (List.getElem?_eq_some_iff.1 h1).1
  have b := (List.getElem?_eq_some_iff.1 h2).1
  apply List.ext_getElem?
  intro i
  have e0 : ∀ q : List UInt8, (refN v q ns)[i]? = ((q.zip ns)[i]?).map fun p => refNum v p.1 p.2 := fun q => by unfold refN; rw [List.getElem?_map]
  by_cases hi : i < m
  · rw [List.getElem?_append_left (by rw [refN_length, List.length_take]; omega), e0, e0]
    congr 1
    apply Option.ext
    rintro ⟨p1, p2⟩
    rw [List.getElem?_zip_eq_some, List.getElem?_zip_eq_some]
    simp only
    rw [List.getElem?_take_of_lt (by omega), List.getElem?_take_of_lt hi]
  · by_cases hi2 : i = m
    · subst hi2
      have hlen : (refN v (l.take i) ns).length = i := by rw [refN_length, List.length_take]; omega
      rw [List.getElem?_append_right (by omega), hlen, Nat.sub_self, List.getElem?_cons_zero, e0]
      have : ((l.take (i + 1)).zip ns)[i]? = some (c, x) := by
        rw [List.getElem?_zip_eq_some]
        exact ⟨by rw [List.getElem?_take_of_lt (by omega)]; exact h1, h2⟩
      rw [this]
      rfl
    · rw [List.getElem?_eq_none (by rw [refN_length, List.length_take]; omega), List.getElem?_eq_none (by rw [List.length_append, refN_length, List.length_take]; simp; omega)]
theorem upN_base {v : Nat} {l : List UInt8} {ns : List Int} (hl : l.length = ns.length) : upN (baseR v l) ns = refN v l ns := by
  apply List.ext_getElem?
  intro i
  unfold upN baseR refN
  rw [List.map_map, List.getElem?_map, List.getElem?_map]
  by_cases hi : i < l.length
  · have h1 : l.zipIdx[i]? = some (l[i], i) := by rw [List.getElem?_zipIdx, List.getElem?_eq_getElem hi]; simp
    have h2 : (l.zip ns)[i]? = some (l[i], ns[i]'(by omega)) := by rw [List.getElem?_zip_eq_some]; exact ⟨List.getElem?_eq_getElem hi, List.getElem?_eq_getElem (by omega)⟩
    rw [h1, h2]
    simp only [Option.map_some, Function.comp, Option.some.injEq]
    unfold upNum refRule refNum
    simp only
    rw [if_pos (Int.natCast_nonneg i), Int.toNat_natCast, List.getElem?_eq_getElem (show i < ns.length by omega)]
    rfl
  · rw [List.getElem?_eq_none (by simp; omega), List.getElem?_eq_none (by simp; omega)]
    rfl
/-- What the document's Up makes of the numbers. -/
def refUpN (v k : Nat) (ns : List Int) : List Int :=
  if v = 1 ∧ 0 ≤ (moreS k).1 then (refN v (fieldsS v k).1 ns).take (moreS k).1.toNat ++ (moreS k).2 :: (refN v (fieldsS v k).1 ns).drop (moreS k).1.toNat else refN v (fieldsS v k).1 ns
theorem refUp_eq {v k : Nat} {ns : List Int} (h : rulesIs v k = true) (hl : (fieldsS v k).1.length = ns.length) : upN (rulesL v k) ns = refUpN v k ns := by
  rw [(rulesD_eq h).1]
  unfold rulesD refUpN
  by_cases hp : v = 1 ∧ 0 ≤ (moreS k).1
  · rw [if_pos hp, if_pos hp, ← upN_base hl]
    unfold upN
    rw [List.map_append, List.map_cons, List.map_take, List.map_drop]
    rfl
  · rw [if_neg hp, if_neg hp, upN_base hl]

theorem more_any (k : Nat) (w : World) : Calls Tryd.prog 103 #[.int .u8 k] w fun en w' => en = .returned (.tuple #[.int .i64 (moreS k).1, .int .i64 (moreS k).2]) ∧ w = w' := by
  unfold moreS
  by_cases h3 : k = 3
  · subst h3
    go_enter Tryd.func103, Tryd.ntmps103
    go_wp2_with fail
    go_ret2
    exact ⟨rfl, rfl⟩
  have b3 : ((k : Int) == 3) = false := by rw [beq_eq_false_iff_ne]; omega
  by_cases h13 : k = 13
  · subst h13
    go_enter Tryd.func103, Tryd.ntmps103
    go_wp2_with fail
    go_ret2
    exact ⟨rfl, rfl⟩
  have b13 : ((k : Int) == 13) = false := by rw [beq_eq_false_iff_ne]; omega
  by_cases h14 : k = 14
  · subst h14
    go_enter Tryd.func103, Tryd.ntmps103
    go_wp2_with fail
    go_ret2
    exact ⟨rfl, rfl⟩
  have b14 : ((k : Int) == 14) = false := by rw [beq_eq_false_iff_ne]; omega
  by_cases h18 : k = 18
  · subst h18
    go_enter Tryd.func103, Tryd.ntmps103
    go_wp2_with fail
    go_ret2
    exact ⟨rfl, rfl⟩
  have b18 : ((k : Int) == 18) = false := by rw [beq_eq_false_iff_ne]; omega
  rw [if_neg h3, if_neg h13, if_neg h14, if_neg h18]
  clear h3 h13 h14 h18
  go_enter Tryd.func103, Tryd.ntmps103
  go_wp2_with fail
  go_ret2
  exact ⟨rfl, rfl⟩

theorem moreS_pos (k : Nat) (h : 0 ≤ (moreS k).1) : 1 ≤ (moreS k).1 := by
  unfold moreS at h ⊢
  split
  · decide
  split
  · decide
  split
  · decide
  split
  · decide
  · simp_all
theorem cell_new1 {w : World} {b : Nat} {v : Value} {t : TypeId} (h : w.heap[b]? = some (.cells #[v] t (0, 0))) : ∀ (j : Nat) (u : Value), [v][j]? = some u → w.cell? ((⟨b, 0, none⟩ : Addr).add j) = some u := fun j u hu => by
  rw [Go.WideShapes.add_plain, cell_of_row w b (0 + j) _ _ (0, 0) h, Nat.zero_add]
  simpa using hu
theorem two_heap (X : World) (c1 c2 : Array Value) (t1 t2 : TypeId) : ((X.alloc (.cells c1 t1)).alloc (.cells c2 t2)).heap[X.heap.size]? = some (.cells c1 t1 (0, 0)) ∧ ((X.alloc (.cells c1 t1)).alloc (.cells c2 t2)).heap[X.heap.size + 1]? = some (.cells c2 t2 (0, 0)) := by
  refine ⟨((Fr.refl _).alloc _).heap0 (Go.heap_alloc_new _ _), ?_⟩
  have h := Go.heap_alloc_new (X.alloc (.cells c1 t1)) (.cells c2 t2)
  simp only [World.size_alloc] at h
  exact h
section
variable {P : Program}
theorem step_append_any {w W : World} {ops : Array Oper} {o : Oper} {a : Act} {K : Act → World → Prop} {Q : Exit → Act → World → Prop} {E : Prop} (hgd : o.guard = none) (s x : Operand) (t tx : TypeId)
    (ho : o.op = .call { callee := .builtin .append, args := #[s, x], argTypes := #[t, tx] }) (e : TypeId) (i : TypeInfo) (z : Value) (bytes : Nat) (ht : P.underlying t = some (.slice e)) (hi : P.info? e = some i) (hz : i.zero = some z)
    (hsize : i.size = 1) (hby : i.bytes = bytes) (hzs : z.cells.size = 1) (v : Value) (xs : List Value) (hs : a.eval s = v) (hr : Rs W.heap.size w e v xs)
    (xv : Value) (m : Nat) (news : List Value) (hxv : a.eval x = xv) (hx : Src P 1 tx xv m news w) (h63 : xs.length + m ≤ maxLen) (hbytes : (xs.length + m) * bytes ≤ 140737488355328) (hF : Fr No W w)
    (h : ∀ q cap w', Rs W.heap.size w' e (.slice q (xs ++ news).length cap) (xs ++ news) → Fr (RsT w W.heap.size e) w w' → Fr No W w' → K (a.put o.dst (.slice q (xs ++ news).length cap)) w') :
    if Region.wanted o (yielded ops a.tmps) = true then Oper.wp P o a w K Q else E := by
  have hw : Region.wanted o (yielded ops a.tmps) = true := by simp [Region.wanted, hgd]
  rw [if_pos hw]
  obtain ⟨v', w', hrun, h2, h3⟩ := run_append_rt (P := P) (B := W.heap.size) t tx o.type e i z bytes ht hi hz hsize hby hzs hr hF.size hx h63 hbytes
  unfold Oper.wp execOp
  simp only [ho, resolve, invoke, builtin, Sem.run_bind, Sem.run_pure, Result.andThen_ok, List.map_toArray, List.map_cons, List.map_nil, hs, hxv, hrun]
  obtain ⟨q, cap, rfl⟩ := h2.shape
  exact h q cap w' h2 h3 (hF.newT (Nat.le_refl _) h3)
end

set_option maxHeartbeats 8000000 in
set_option maxRecDepth 100000 in
theorem rup_no (s : EvP) (e : Ev) (w : World) (he : EvAt w s e) (k : Int) (h : (mayS e = false ∧ k = 4) ∨ (mayS e = true ∧ e.v = 3 ∧ k = 43)) :
    Calls Tryd.prog 84 #[evV s e] w (UpPost w (zeroE, k)) := by
  have ME := hid (fun w1 (h : Fr No w w1) => rMay_any s e w1 (he.fr h))
  unfold UpPost
  have HF0 : Fr No w ((w.alloc (.cells #[.int .u8 e.v, .int .u8 e.kind, .slice s.qn e.nums.length s.cn, .slice s.qt e.texts.length s.ct] 34)).alloc (.cells #[.int .u8 0, .int .u8 0, .slice none 0 0, .slice none 0 0] 34)) := ((Fr.refl w).alloc _).alloc _
  have g1 := Go.heap_alloc_new (w.alloc (.cells #[.int .u8 e.v, .int .u8 e.kind, .slice s.qn e.nums.length s.cn, .slice s.qt e.texts.length s.ct] 34)) (.cells #[.int .u8 0, .int .u8 0, .slice none 0 0, .slice none 0 0] 34)
  simp only [World.size_alloc] at g1
  have HG := hid g1
  clear g1
  have g0 : ((w.alloc (.cells #[.int .u8 e.v, .int .u8 e.kind, .slice s.qn e.nums.length s.cn, .slice s.qt e.texts.length s.ct] 34)).alloc (.cells #[.int .u8 0, .int .u8 0, .slice none 0 0, .slice none 0 0] 34)).heap[w.heap.size]? = some (.cells #[.int .u8 e.v, .int .u8 e.kind, .slice s.qn e.nums.length s.cn, .slice s.qt e.texts.length s.ct] 34 (0, 0)) := by
    rw [Below.heap_alloc _ _ _ (by simp)]; exact Go.heap_alloc_new _ _
  have HG0 := hid g0
  clear g0 he
  unfold evV at *
  rcases h with ⟨hm, rfl⟩ | ⟨hm, h3, rfl⟩
  · rw [hm] at ME
    clear hm
    go_enter Tryd.func84, Tryd.ntmps84
    go_wp2_with (first
      | (go_at_call 56; (with_reducible refine (ME.out _ HF0).mono ?_); rintro e1 w1 ⟨rfl, hf1⟩; obtain ⟨k0, k1, k2, k3, z0, z1, z2, z3⟩ := Go.Proofs.YtnmfmedoocnofaaDoor.cells4 (hf1.heap0 HG.out)))
    obtain ⟨hst, hfr⟩ := store4 (hf1.heap0 HG.out) (.int .u8 0) (.int .u8 0) (.slice none 0 0) (.slice none 0 0)
    refine bodyPost_ret (results_row_tmp rfl _ _ (w.heap.size + 1) 34 _ (0, 0) _ (.int .i64 4) rfl hst rfl Tryd.underlying34 rfl (by kernel_rfl)) rfl ⟨⟨none, 0, none, 0⟩, rfl, EvNew.zero _ _, (HF0.trans hf1).newOnly (Nat.le_succ _) hfr⟩
  · rw [hm] at ME
    have b3 : ((e.v : Int) == 3) = true := by rw [h3]; rfl
    clear hm h3
    go_enter Tryd.func84, Tryd.ntmps84
    go_wp2_with (first
      | (go_at_call 56; (with_reducible refine (ME.out _ HF0).mono ?_); rintro e1 w1 ⟨rfl, hf1⟩; obtain ⟨k0, k1, k2, k3, z0, z1, z2, z3⟩ := Go.Proofs.YtnmfmedoocnofaaDoor.cells4 (hf1.heap0 HG.out); obtain ⟨c0, c1, c2, c3, _, _, _, _⟩ := Go.Proofs.YtnmfmedoocnofaaDoor.cells4 (hf1.heap0 HG0.out)))
    obtain ⟨hst, hfr⟩ := store4 (hf1.heap0 HG.out) (.int .u8 0) (.int .u8 0) (.slice none 0 0) (.slice none 0 0)
    refine bodyPost_ret (results_row_tmp rfl _ _ (w.heap.size + 1) 34 _ (0, 0) _ (.int .i64 43) rfl hst rfl Tryd.underlying34 rfl (by kernel_rfl)) rfl ⟨⟨none, 0, none, 0⟩, rfl, EvNew.zero _ _, (HF0.trans hf1).newOnly (Nat.le_succ _) hfr⟩

set_option maxHeartbeats 16000000 in
set_option maxRecDepth 100000 in
theorem rup_ok (s : EvP) (e : Ev) (w : World) (he : EvAt w s e) (hm : mayS e = true) (h3 : e.v < 3) :
    Calls Tryd.prog 84 #[evV s e] w (UpPost w (upS e, 0)) := by
  have ME := hid (fun w1 (h : Fr No w w1) => rMay_any s e w1 (he.fr h))
  rw [hm] at ME
  have hr := may_rules hm h3
  obtain ⟨hl7, hn7, ht1, hnr, htr⟩ := may_small hm
  have hup : upS e = ⟨e.v + 1, e.kind, refUpN e.v e.kind e.nums, e.texts⟩ := by unfold upS; rw [refUp_eq hr hl7.symm]
  rw [hup]
  have hpl := (rulesD_eq hr).2
  have hv1 := (may_is hm).2.1
  have RF := hid (rfields_any e.v e.kind)
  unfold RFieldsIs at RF
  have MO := hid (more_any e.kind)
  unfold refUpN
  generalize hold : (fieldsS e.v e.kind).1 = old at RF hl7 hpl ⊢
  generalize (fieldsS e.v e.kind).2.1 = fx at RF
  generalize (fieldsS e.v e.kind).2.2 = fi at RF
  have hpl1 := moreS_pos e.kind
  generalize moreS e.kind = mo at MO hpl hpl1 ⊢
  obtain ⟨pl, ps⟩ := mo
  simp only at MO hpl hpl1 ⊢
  generalize hres : (if e.v = 1 ∧ 0 ≤ pl then (refN e.v old e.nums).take pl.toNat ++ ps :: (refN e.v old e.nums).drop pl.toNat else refN e.v old e.nums) = res
  have HRES := hid hres
  have HL7 := hid hl7
  unfold UpPost
  have HF0 : Fr No w ((w.alloc (.cells #[.int .u8 e.v, .int .u8 e.kind, .slice s.qn e.nums.length s.cn, .slice s.qt e.texts.length s.ct] 34)).alloc (.cells #[.int .u8 0, .int .u8 0, .slice none 0 0, .slice none 0 0] 34)) := ((Fr.refl w).alloc _).alloc _
  have g1 := Go.heap_alloc_new (w.alloc (.cells #[.int .u8 e.v, .int .u8 e.kind, .slice s.qn e.nums.length s.cn, .slice s.qt e.texts.length s.ct] 34)) (.cells #[.int .u8 0, .int .u8 0, .slice none 0 0, .slice none 0 0] 34)
  simp only [World.size_alloc] at g1
  have HG := hid g1
  clear g1
  have g0 : ((w.alloc (.cells #[.int .u8 e.v, .int .u8 e.kind, .slice s.qn e.nums.length s.cn, .slice s.qt e.texts.length s.ct] 34)).alloc (.cells #[.int .u8 0, .int .u8 0, .slice none 0 0, .slice none 0 0] 34)).heap[w.heap.size]? = some (.cells #[.int .u8 e.v, .int .u8 e.kind, .slice s.qn e.nums.length s.cn, .slice s.qt e.texts.length s.ct] 34 (0, 0)) := by
    rw [Below.heap_alloc _ _ _ (by simp)]; exact Go.heap_alloc_new _ _
  have HG0 := hid g0
  have NU := hid (fun w5 (h : Fr No w w5) m x (hx : e.nums[m]? = some x) => (by
    obtain ⟨bn, on, h1, h2⟩ := he.nums m (numV x) (by simp [hx])
    exact ⟨bn, on, h1, h.cell0 h2⟩ : ∃ bn on, s.qn = some ⟨bn, on, none⟩ ∧ w5.cell? ⟨bn, on + m, none⟩ = some (numV x)))
  have HNR := hid hnr
  have HE := hid he
  have b3 : ((e.v : Int) == 3) = false := by rw [beq_eq_false_iff_ne]; omega
  clear g0 hm hr hl7 hnr htr he hup hold hres
  unfold evV at *
  unfold strV at RF
  go_enter Tryd.func84, Tryd.ntmps84
  go_upto_region 7 with (first
    | (go_at_call 56; (with_reducible refine (ME.out _ HF0).mono ?_); rintro e1 w2 ⟨rfl, hf1⟩; obtain ⟨c0, c1, c2, c3, _, _, _, _⟩ := Go.Proofs.YtnmfmedoocnofaaDoor.cells4 (hf1.heap0 HG0.out))
    | (go_at_call 66; (with_reducible refine (RF.out _).mono ?_); rintro e2 w3 ⟨rfl, rfl⟩))
  have HW : Fr No w w2 := HF0.trans hf1
  have C2 := hid (fun w5 (h : Fr No w2 w5) => (⟨h.cell0 c0, h.cell0 c1, h.cell0 c2, h.cell0 c3⟩ : _ ∧ _ ∧ _ ∧ _))
  clear c0 c1 c2 c3
  go_wp2_with fail
  go_loopg [7, 8] old.length (fun k nv i wr => ∃ (m : Nat) (L : List Int), m ≤ old.length ∧ old.length ≤ m + k ∧ i = .int .i64 m ∧ Hid (L = refN e.v (old.take m) e.nums) ∧ Rs w2.heap.size wr 2 nv (L.map numV) ∧ Fr No w2 wr)
  case atStart => exact ⟨0, [], Nat.zero_le _, by omega, rfl, hid rfl, Rs.nil _ _ _ _, Fr.refl _⟩
  case round =>
    rename Value => nv
    obtain ⟨m, L, hmo, hk, rfl, HL, hR, hf⟩ := hrel
    have hLl : L.length = m := by rw [HL.out, refN_length, List.length_take]; have := HL7.out; omega
    obtain ⟨qv, cv, rfl⟩ := hR.shape
    simp only [List.length_map] at hR ⊢
    obtain ⟨c0, c1, c2, c3⟩ := C2.out _ hf
    by_cases hlt : m < old.length
    · obtain ⟨c, hc⟩ : ∃ c, old[m]? = some c := ⟨_, List.getElem?_eq_getElem hlt⟩
      obtain ⟨x, hx⟩ : ∃ x, e.nums[m]? = some x := ⟨_, List.getElem?_eq_getElem (by have := HL7.out; omega)⟩
      obtain ⟨bn, on, hqn, kn⟩ := NU.out wr (HW.trans hf) m x hx
      have hx0 := HNR.out x (List.mem_of_getElem? hx)
      have hsz : m < ({ data := old.toArray } : ByteArray).size := hlt
      have hix : (({ data := old.toArray } : ByteArray)[m]'hsz).toNat = c.toNat := by
        have := (List.getElem?_eq_some_iff.1 hc).2
        rw [← this]; rfl
      have HT := hid (refN_snoc (v := e.v) hc hx)
      have i1 : (m : Int) < (old.length : Int) := by omega
      have i1' : (m : Int) < (e.nums.length : Int) := by have := HL7.out; omega
      have i2 : (0 : Int) ≤ (m : Int) := by omega
      have i4 : (m : Int) + 1 ≤ 100 := by have := HL7.out; omega
      obtain ⟨i0, hi, hz0, hz1, hz2⟩ := info_parts infoI64
      have HR := hid hR
      unfold numV at kn
      rw [hqn] at c2
      subst hLl
      clear hc hx hR hqn
      have hv12 : e.v = 1 ∨ e.v = 2 := by omega
      rcases hv12 with hv | hv
      · have b1 : ((e.v : Int) == 1) = true := by rw [hv]; rfl
        have b2 : ((e.v : Int) == 2) = false := by rw [hv]; rfl
        by_cases h109 : c = 109
        · have hN : refNum e.v c x = 100 * x := by unfold refNum refC; rw [hv]; simp [h109]
          rw [hN] at HT
          have f109 : ((c.toNat : Int) == 109) = true := by rw [h109]; rfl
          have w1q : IntKind.i64.wrap (x * 100) = 100 * x := by rw [IntWalk.i64_in _ (by omega)]; omega
          clear hN hv h109
          go_wp2_with (first
            | (at_builtin; refine wpList_append_rt rfl _ _ 31 _ rfl w2.heap.size 2 i0 (.int .i64 0) 8 Tryd.underlying31 hi hz0 hz1 hz2 rfl (.slice qv L.length cv) (L.map numV) (by rfl) ?c1 ?c2 _ 1 [numV (100 * x)] rfl ?c5 ?c3 ?c4 ?_))
          case c1 => exact HR.out.fr0 ((Fr.refl _).alloc _)
          case c5 => exact Src.ofSlice _ Tryd.underlying31 ⟨_, 0, none⟩ 1 1 [numV (100 * x)] rfl (cells_new wr [numV (100 * x)] 2) (by intro u hu; simp at hu; subst hu; rfl)
          case c2 => have := hf.size; simp; omega
          case c3 => simp only [List.length_map]; unfold maxLen; omega
          case c4 => simp only [List.length_map]; omega
          intro v' wA hr' hfT
          have e9 : L.map numV ++ [numV (100 * x)] = (L ++ [100 * x]).map numV := by simp
          rw [e9] at hr'
          have hFE : Fr No w2 wA := (hf.alloc (.cells #[.int .i64 (100 * x)] 2)).newT (Nat.le_refl _) hfT
          have HRN := hid hr'
          clear e9 hr' hfT
          go_wp2_with fail
          go_roundg (gk - 1)
          case measure => omega
          case rel => exact ⟨L.length + 1, L ++ [100 * x], by omega, by omega, by go_num, hid (by rw [HT.out, ← HL.out]), HRN.out, hFE⟩
        · by_cases h112 : c = 112
          · have hN : refNum e.v c x = 100 * x := by unfold refNum refC; rw [hv]; simp [h112]
            rw [hN] at HT
            have f109 : ((c.toNat : Int) == 109) = false := by rw [beq_eq_false_iff_ne]; intro h; exact h109 (UInt8.toNat_inj.1 (show c.toNat = (109 : UInt8).toNat by simp; omega))
            have f112 : ((c.toNat : Int) == 112) = true := by rw [h112]; rfl
            have w1q : IntKind.i64.wrap (x * 100) = 100 * x := by rw [IntWalk.i64_in _ (by omega)]; omega
            clear hN hv h109 h112
            go_wp2_with (first
              | (at_builtin; refine wpList_append_rt rfl _ _ 31 _ rfl w2.heap.size 2 i0 (.int .i64 0) 8 Tryd.underlying31 hi hz0 hz1 hz2 rfl (.slice qv L.length cv) (L.map numV) (by rfl) ?c1 ?c2 _ 1 [numV (100 * x)] rfl ?c5 ?c3 ?c4 ?_))
            case c1 => exact HR.out.fr0 ((Fr.refl _).alloc _)
            case c5 => exact Src.ofSlice _ Tryd.underlying31 ⟨_, 0, none⟩ 1 1 [numV (100 * x)] rfl (cells_new wr [numV (100 * x)] 2) (by intro u hu; simp at hu; subst hu; rfl)
            case c2 => have := hf.size; simp; omega
            case c3 => simp only [List.length_map]; unfold maxLen; omega
            case c4 => simp only [List.length_map]; omega
            intro v' wA hr' hfT
            have e9 : L.map numV ++ [numV (100 * x)] = (L ++ [100 * x]).map numV := by simp
            rw [e9] at hr'
            have hFE : Fr No w2 wA := (hf.alloc (.cells #[.int .i64 (100 * x)] 2)).newT (Nat.le_refl _) hfT
            have HRN := hid hr'
            clear e9 hr' hfT
            go_wp2_with fail
            go_roundg (gk - 1)
            case measure => omega
            case rel => exact ⟨L.length + 1, L ++ [100 * x], by omega, by omega, by go_num, hid (by rw [HT.out, ← HL.out]), HRN.out, hFE⟩
          · by_cases h98 : c = 98
            · have hN : refNum e.v c x = 100 * x := by unfold refNum refC; rw [hv]; simp [h98]
              rw [hN] at HT
              have f109 : ((c.toNat : Int) == 109) = false := by rw [beq_eq_false_iff_ne]; intro h; exact h109 (UInt8.toNat_inj.1 (show c.toNat = (109 : UInt8).toNat by simp; omega))
              have f112 : ((c.toNat : Int) == 112) = false := by rw [beq_eq_false_iff_ne]; intro h; exact h112 (UInt8.toNat_inj.1 (show c.toNat = (112 : UInt8).toNat by simp; omega))
              have f98 : ((c.toNat : Int) == 98) = true := by rw [h98]; rfl
              have w1q : IntKind.i64.wrap (x * 100) = 100 * x := by rw [IntWalk.i64_in _ (by omega)]; omega
              clear hN hv h109 h112 h98
              go_wp2_with (first
                | (at_builtin; refine wpList_append_rt rfl _ _ 31 _ rfl w2.heap.size 2 i0 (.int .i64 0) 8 Tryd.underlying31 hi hz0 hz1 hz2 rfl (.slice qv L.length cv) (L.map numV) (by rfl) ?c1 ?c2 _ 1 [numV (100 * x)] rfl ?c5 ?c3 ?c4 ?_))
              case c1 => exact HR.out.fr0 ((Fr.refl _).alloc _)
              case c5 => exact Src.ofSlice _ Tryd.underlying31 ⟨_, 0, none⟩ 1 1 [numV (100 * x)] rfl (cells_new wr [numV (100 * x)] 2) (by intro u hu; simp at hu; subst hu; rfl)
              case c2 => have := hf.size; simp; omega
              case c3 => simp only [List.length_map]; unfold maxLen; omega
              case c4 => simp only [List.length_map]; omega
              intro v' wA hr' hfT
              have e9 : L.map numV ++ [numV (100 * x)] = (L ++ [100 * x]).map numV := by simp
              rw [e9] at hr'
              have hFE : Fr No w2 wA := (hf.alloc (.cells #[.int .i64 (100 * x)] 2)).newT (Nat.le_refl _) hfT
              have HRN := hid hr'
              clear e9 hr' hfT
              go_wp2_with fail
              go_roundg (gk - 1)
              case measure => omega
              case rel => exact ⟨L.length + 1, L ++ [100 * x], by omega, by omega, by go_num, hid (by rw [HT.out, ← HL.out]), HRN.out, hFE⟩
            · have hN : refNum e.v c x = x := by unfold refNum refC; rw [hv]; simp [h109, h112, h98]
              rw [hN] at HT
              have f109 : ((c.toNat : Int) == 109) = false := by rw [beq_eq_false_iff_ne]; intro h; exact h109 (UInt8.toNat_inj.1 (show c.toNat = (109 : UInt8).toNat by simp; omega))
              have f112 : ((c.toNat : Int) == 112) = false := by rw [beq_eq_false_iff_ne]; intro h; exact h112 (UInt8.toNat_inj.1 (show c.toNat = (112 : UInt8).toNat by simp; omega))
              have f98 : ((c.toNat : Int) == 98) = false := by rw [beq_eq_false_iff_ne]; intro h; exact h98 (UInt8.toNat_inj.1 (show c.toNat = (98 : UInt8).toNat by simp; omega))
              clear hN hv h109 h112 h98
              go_wp2_with (first
                | (at_builtin; refine wpList_append_rt rfl _ _ 31 _ rfl w2.heap.size 2 i0 (.int .i64 0) 8 Tryd.underlying31 hi hz0 hz1 hz2 rfl (.slice qv L.length cv) (L.map numV) (by rfl) ?c1 ?c2 _ 1 [numV (x)] rfl ?c5 ?c3 ?c4 ?_))
              case c1 => exact HR.out.fr0 ((Fr.refl _).alloc _)
              case c5 => exact Src.ofSlice _ Tryd.underlying31 ⟨_, 0, none⟩ 1 1 [numV (x)] rfl (cells_new wr [numV (x)] 2) (by intro u hu; simp at hu; subst hu; rfl)
              case c2 => have := hf.size; simp; omega
              case c3 => simp only [List.length_map]; unfold maxLen; omega
              case c4 => simp only [List.length_map]; omega
              intro v' wA hr' hfT
              have e9 : L.map numV ++ [numV (x)] = (L ++ [x]).map numV := by simp
              rw [e9] at hr'
              have hFE : Fr No w2 wA := (hf.alloc (.cells #[.int .i64 (x)] 2)).newT (Nat.le_refl _) hfT
              have HRN := hid hr'
              clear e9 hr' hfT
              go_wp2_with fail
              go_roundg (gk - 1)
              case measure => omega
              case rel => exact ⟨L.length + 1, L ++ [x], by omega, by omega, by go_num, hid (by rw [HT.out, ← HL.out]), HRN.out, hFE⟩
      · have b1 : ((e.v : Int) == 1) = false := by rw [hv]; rfl
        have b2 : ((e.v : Int) == 2) = true := by rw [hv]; rfl
        by_cases h116 : c = 116
        · have hN : refNum e.v c x = 10 * x := by unfold refNum refC; rw [hv]; simp [h116]
          rw [hN] at HT
          have f116 : ((c.toNat : Int) == 116) = true := by rw [h116]; rfl
          have w1q : IntKind.i64.wrap (x * 10) = 10 * x := by rw [IntWalk.i64_in _ (by omega)]; omega
          clear hN hv h116
          go_wp2_with (first
            | (at_builtin; refine wpList_append_rt rfl _ _ 31 _ rfl w2.heap.size 2 i0 (.int .i64 0) 8 Tryd.underlying31 hi hz0 hz1 hz2 rfl (.slice qv L.length cv) (L.map numV) (by rfl) ?c1 ?c2 _ 1 [numV (10 * x)] rfl ?c5 ?c3 ?c4 ?_))
          case c1 => exact HR.out.fr0 ((Fr.refl _).alloc _)
          case c5 => exact Src.ofSlice _ Tryd.underlying31 ⟨_, 0, none⟩ 1 1 [numV (10 * x)] rfl (cells_new wr [numV (10 * x)] 2) (by intro u hu; simp at hu; subst hu; rfl)
          case c2 => have := hf.size; simp; omega
          case c3 => simp only [List.length_map]; unfold maxLen; omega
          case c4 => simp only [List.length_map]; omega
          intro v' wA hr' hfT
          have e9 : L.map numV ++ [numV (10 * x)] = (L ++ [10 * x]).map numV := by simp
          rw [e9] at hr'
          have hFE : Fr No w2 wA := (hf.alloc (.cells #[.int .i64 (10 * x)] 2)).newT (Nat.le_refl _) hfT
          have HRN := hid hr'
          clear e9 hr' hfT
          go_wp2_with fail
          go_roundg (gk - 1)
          case measure => omega
          case rel => exact ⟨L.length + 1, L ++ [10 * x], by omega, by omega, by go_num, hid (by rw [HT.out, ← HL.out]), HRN.out, hFE⟩
        · by_cases h115 : c = 115
          · have hN : refNum e.v c x = 1 + x := by unfold refNum refC; rw [hv]; simp [h115]
            rw [hN] at HT
            have f116 : ((c.toNat : Int) == 116) = false := by rw [beq_eq_false_iff_ne]; intro h; exact h116 (UInt8.toNat_inj.1 (show c.toNat = (116 : UInt8).toNat by simp; omega))
            have f115 : ((c.toNat : Int) == 115) = true := by rw [h115]; rfl
            have w1q : IntKind.i64.wrap (x + 1) = 1 + x := by rw [IntWalk.i64_in _ (by omega)]; omega
            clear hN hv h116 h115
            go_wp2_with (first
              | (at_builtin; refine wpList_append_rt rfl _ _ 31 _ rfl w2.heap.size 2 i0 (.int .i64 0) 8 Tryd.underlying31 hi hz0 hz1 hz2 rfl (.slice qv L.length cv) (L.map numV) (by rfl) ?c1 ?c2 _ 1 [numV (1 + x)] rfl ?c5 ?c3 ?c4 ?_))
            case c1 => exact HR.out.fr0 ((Fr.refl _).alloc _)
            case c5 => exact Src.ofSlice _ Tryd.underlying31 ⟨_, 0, none⟩ 1 1 [numV (1 + x)] rfl (cells_new wr [numV (1 + x)] 2) (by intro u hu; simp at hu; subst hu; rfl)
            case c2 => have := hf.size; simp; omega
            case c3 => simp only [List.length_map]; unfold maxLen; omega
            case c4 => simp only [List.length_map]; omega
            intro v' wA hr' hfT
            have e9 : L.map numV ++ [numV (1 + x)] = (L ++ [1 + x]).map numV := by simp
            rw [e9] at hr'
            have hFE : Fr No w2 wA := (hf.alloc (.cells #[.int .i64 (1 + x)] 2)).newT (Nat.le_refl _) hfT
            have HRN := hid hr'
            clear e9 hr' hfT
            go_wp2_with fail
            go_roundg (gk - 1)
            case measure => omega
            case rel => exact ⟨L.length + 1, L ++ [1 + x], by omega, by omega, by go_num, hid (by rw [HT.out, ← HL.out]), HRN.out, hFE⟩
          · have hN : refNum e.v c x = x := by unfold refNum refC; rw [hv]; simp [h116, h115]
            rw [hN] at HT
            have f116 : ((c.toNat : Int) == 116) = false := by rw [beq_eq_false_iff_ne]; intro h; exact h116 (UInt8.toNat_inj.1 (show c.toNat = (116 : UInt8).toNat by simp; omega))
            have f115 : ((c.toNat : Int) == 115) = false := by rw [beq_eq_false_iff_ne]; intro h; exact h115 (UInt8.toNat_inj.1 (show c.toNat = (115 : UInt8).toNat by simp; omega))
            clear hN hv h116 h115
            go_wp2_with (first
              | (at_builtin; refine wpList_append_rt rfl _ _ 31 _ rfl w2.heap.size 2 i0 (.int .i64 0) 8 Tryd.underlying31 hi hz0 hz1 hz2 rfl (.slice qv L.length cv) (L.map numV) (by rfl) ?c1 ?c2 _ 1 [numV (x)] rfl ?c5 ?c3 ?c4 ?_))
            case c1 => exact HR.out.fr0 ((Fr.refl _).alloc _)
            case c5 => exact Src.ofSlice _ Tryd.underlying31 ⟨_, 0, none⟩ 1 1 [numV (x)] rfl (cells_new wr [numV (x)] 2) (by intro u hu; simp at hu; subst hu; rfl)
            case c2 => have := hf.size; simp; omega
            case c3 => simp only [List.length_map]; unfold maxLen; omega
            case c4 => simp only [List.length_map]; omega
            intro v' wA hr' hfT
            have e9 : L.map numV ++ [numV (x)] = (L ++ [x]).map numV := by simp
            rw [e9] at hr'
            have hFE : Fr No w2 wA := (hf.alloc (.cells #[.int .i64 (x)] 2)).newT (Nat.le_refl _) hfT
            have HRN := hid hr'
            clear e9 hr' hfT
            go_wp2_with fail
            go_roundg (gk - 1)
            case measure => omega
            case rel => exact ⟨L.length + 1, L ++ [x], by omega, by omega, by go_num, hid (by rw [HT.out, ← HL.out]), HRN.out, hFE⟩
    · obtain rfl : m = old.length := by omega
      rw [List.take_length] at HL
      have HLl := hid hLl
      clear hmo hk hlt hLl
      have hle := hR.cap_le
      have HR := hid hR
      have hp1 : 0 ≤ pl → 1 ≤ pl := hpl1
      have hwr : IntKind.u8.wrap ((e.v : Int) + 1) = ((e.v + 1 : Nat) : Int) := by rw [IntWalk.u8_in _ (by omega)]; omega
      obtain ⟨j0, hj, hy0, hy1, hy2⟩ := info_parts infoStr
      have HGr := hid (fun w5 (h : Fr No w2 w5) => h.heap0 (hf1.heap0 HG.out))
      have TX := hid (fun w5 (h : Fr No w2 w5) => (by
        have := Src.ofSl (P := Tryd.prog) (c := s.ct) Tryd.underlying32 (HE.out.texts.fr (HW.trans h)) (str_one e.texts)
        simpa using this : Src Tryd.prog 1 32 (.slice s.qt e.texts.length s.ct) e.texts.length (e.texts.map strV) w5))
      have tl1 : e.texts.length ≤ maxLen := by unfold maxLen; omega
      have tl2 : e.texts.length * 16 ≤ 140737488355328 := by omega
      by_cases hp : e.v = 1 ∧ 0 ≤ pl
      · obtain ⟨h1, h0⟩ := hp
        obtain ⟨p, rfl⟩ := Int.eq_ofNat_of_zero_le h0
        have hp2 : p ≤ L.length := by have := hpl h1 h0; have := HLl.out; simp at *; omega
        have hp3 : 1 ≤ p := by have := hp1 h0; omega
        have hres : res = L.take p ++ ps :: L.drop p := by rw [← HRES.out, if_pos ⟨h1, h0⟩, HL.out]; rfl
        have HRS := hid hres
        obtain ⟨g, cur, hqg, _, _, _⟩ := HR.out.cell_at (i := 0) (by simp; omega)
        have b1 : ((e.v : Int) == 1) = true := by rw [h1]; rfl
        have b0 : decide ((0 : Int) ≤ (p : Int)) = true := by simp
        subst hqg
        have hat := HR.out.at_
        have s1 : (0 : Int) ≤ (p : Int) := by omega
        have s2 : (p : Int) ≤ (cv : Int) := by omega
        have s3 : (p : Int) ≤ (L.length : Int) := by omega
        have s4 : (L.length : Int) ≤ (cv : Int) := by omega
        have HS1 := hid (fun w5 (h : Fr No wr w5) => (by
          have ha : SlAt w5 (some ⟨g, 0, none⟩) ((L.take p).map numV) := fun i x hi => (hat.fr h) i x (by
            rw [List.getElem?_map, List.getElem?_take] at hi
            split at hi
            · rw [List.getElem?_map]; exact hi
            · cases hi)
          have := Src.ofSl (P := Tryd.prog) (c := cv) Tryd.underlying31 ha (num_one _)
          rw [List.length_map, List.length_take, Nat.min_eq_left hp2] at this
          exact this : Src Tryd.prog 1 31 (.slice (some ⟨g, 0, none⟩) p cv) p ((L.take p).map numV) w5))
        have m1 : p ≤ maxLen := by unfold maxLen; have := HLl.out; have := HL7.out; omega
        have m2 : p * 8 ≤ 140737488355328 := by have := HLl.out; have := HL7.out; omega
        have m3 : ((L.take p).map numV).length + 1 ≤ maxLen := by simp only [List.length_map, List.length_take]; unfold maxLen; have := HLl.out; have := HL7.out; omega
        have m4 : (((L.take p).map numV).length + 1) * 8 ≤ 140737488355328 := by simp only [List.length_map, List.length_take]; have := HLl.out; have := HL7.out; omega
        have m5 : ((L.take p).map numV ++ [numV ps]).length + (L.length - p) ≤ maxLen := by simp only [List.length_map, List.length_take, List.length_append, List.length_cons, List.length_nil]; unfold maxLen; have := HLl.out; have := HL7.out; omega
        have m6 : (((L.take p).map numV ++ [numV ps]).length + (L.length - p)) * 8 ≤ 140737488355328 := by simp only [List.length_map, List.length_take, List.length_append, List.length_cons, List.length_nil]; have := HLl.out; have := HL7.out; omega
        have HS3 := hid (fun w5 (h : Fr No wr w5) => (by
          have ha : SlAt w5 (some (if cv = p then (⟨g, 0, none⟩ : Addr) else ⟨g, p, none⟩)) ((L.drop p).map numV) := fun i x hi => by
            rw [List.getElem?_map, List.getElem?_drop] at hi
            by_cases hc : cv = p
            · have : L.length ≤ p + i := by omega
              rw [List.getElem?_eq_none this] at hi
              cases hi
            · rw [if_neg hc]
              obtain ⟨b, o, hbo, hcc⟩ := (hat.fr h) (p + i) x (by rw [List.getElem?_map]; exact hi)
              simp at hbo
              obtain ⟨rfl, rfl⟩ := hbo
              exact ⟨g, p, rfl, by simpa using hcc⟩
          have := Src.ofSl (P := Tryd.prog) (c := cv - p) Tryd.underlying31 ha (num_one _)
          rw [List.length_map, List.length_drop] at this
          exact this : Src Tryd.prog 1 31 (.slice (some (if cv = p then (⟨g, 0, none⟩ : Addr) else ⟨g, p, none⟩)) (L.length - p) (cv - p)) (L.length - p) ((L.drop p).map numV) w5))
        clear hpl h1 h0 hp1 hpl1 hres hat
        obtain ⟨i0, hi, hz0, hz1, hz2⟩ := info_parts infoI64
        go_upto_region 21 with (first | (go_at_call 103; (with_reducible refine (MO.out _).mono ?_); rintro e5 w5 ⟨rfl, rfl⟩))
        go_cut [7] from 96 (fun x w' => Fr No wr w' ∧ ∃ q' c', x = .slice q' res.length c' ∧ Rs wr.heap.size w' 2 (.slice q' res.length c') (res.map numV))
        case first =>
          have hcT : (cv = p) = True ∨ (cv = p) = False := (Classical.em (cv = p)).imp eq_true eq_false
          rcases hcT with hcT | hcT
          all_goals
            simp only [hcT, if_true, if_false] at HS3
            go_region_held3 (fun w' => Fr No wr w') ((repeat (first | exact Fr.refl _ | assumption | refine Fr.drew ?_ | refine Fr.alloc ?_ _)))
              (first
                | (((refine step_append0 (by rfl) _ _ _ _ (by rfl) 2 i0 _ 8 Tryd.underlying31 hi hz0 hz1 hz2 (by rfl) _ (by rfl) (.slice (some ⟨g, 0, none⟩) p cv) p ((L.take p).map numV) (by rfl) HS1.out m1 m2 ?_ ?_; · (repeat (first | exact Fr.refl _ | assumption | refine Fr.drew ?_ | refine Fr.alloc ?_ _))); intro q1 p1 wA hr1 hg1 hF1))
                | (((refine step_append_any (W := wr) (by rfl) _ _ _ _ (by rfl) 2 i0 _ 8 Tryd.underlying31 hi hz0 hz1 hz2 (by rfl) (.slice q1 p p1) ((L.take p).map numV) (by rfl) (hr1.fr0 (by repeat (first | exact Fr.refl _ | refine Fr.drew ?_ | refine Fr.alloc ?_ _))) _ 1 [numV ps] (by rfl) ?_ m3 m4 ?_ ?_); (· (refine (show Src Tryd.prog 1 31 (.slice (some ⟨_, 0, none⟩) 1 1) 1 [numV ps] _ from Src.ofSlice _ Tryd.underlying31 ⟨_, 0, none⟩ 1 1 [numV ps] rfl (cell_new1 (t := 2) (by first | exact Go.heap_alloc_new _ _ | exact hg1.heap0 (two_heap wr _ _ _ _).1 | exact hg1.heap0 (two_heap wr _ _ _ _).2)) (by intro u hu; simp at hu; subst hu; rfl)))); (· (repeat (first | exact Fr.refl _ | assumption | refine Fr.drew ?_ | refine Fr.alloc ?_ _)))); intro q2 p2 wB hr2 hg2 hF2)
                | (((refine step_append_any (W := wr) (by rfl) _ _ _ _ (by rfl) 2 i0 _ 8 Tryd.underlying31 hi hz0 hz1 hz2 (by rfl) (.slice q2 ((L.take p).map numV ++ [numV ps]).length p2) ((L.take p).map numV ++ [numV ps]) (by rfl) hr2 _ (L.length - p) ((L.drop p).map numV) (by rfl) ?_ m5 m6 ?_ ?_); (· (exact HS3.out _ hF2)); (· (repeat (first | exact Fr.refl _ | assumption | refine Fr.drew ?_ | refine Fr.alloc ?_ _)))); intro q3 p3 wC hr3 hg3 hF3)
                | fail)
          all_goals
            have e9 : (L.take p).map numV ++ [numV ps] ++ (L.drop p).map numV = res.map numV := by rw [HRS.out]; simp
            rw [e9] at hr3 ⊢
            simp only [List.length_map] at hr3 ⊢
            have HR3 := hid hr3
            have HRL := hid (show p + (L.length - p + 1) = res.length by rw [HRS.out]; simp; omega)
            clear e9 hr3 hr1 hg1 hF1 hr2 hg2 hF2 hg3 hcT m1 m2 m3 m4 m5 m6 s1 s2 s3 s4 b0
            go_wp2_with fail
            go_meet
            case rel => exact ⟨hF3, q3, p3, by rw [HRL.out], HR3.out⟩
        obtain ⟨hF3, q3, p3, rfl, hr3⟩ := hcut
        rename World => wC
        have hf3 := hf.trans hF3
        have HR3 := hid (hr3.mono hf.size)
        clear m1 m2 m3 m4 m5 m6 s1 s2 s3 s4 b0 HS1 HS3 hF3 hr3
        go_wp2_with fail
        obtain ⟨c0, c1, c2, c3⟩ := C2.out _ hf3
        have TXw := hid (fun w5 (h : Fr No wC w5) => TX.out w5 (hf3.trans h))
        have hgr := HGr.out _ hf3
        have HGR := hid hgr
        have HNR2 := hid HR3.out
        clear hgr
        go_region_held3 (fun w' => Fr (Only (w.heap.size + 1)) wC w' ∧ w'.cell? ⟨w.heap.size, 0, none⟩ = some (.int .u8 e.v) ∧ w'.cell? ⟨w.heap.size, 1, none⟩ = some (.int .u8 e.kind) ∧ w'.cell? ⟨w.heap.size, 2, none⟩ = some (.slice s.qn e.nums.length s.cn) ∧ w'.cell? ⟨w.heap.size, 3, none⟩ = some (.slice s.qt e.texts.length s.ct))
          ((go_split_ands; refine five_keep c0 c1 c2 c3 (by omega) ?_; (try (refine Fr.set_only ?_ _ _; refine Fr.set_only ?_ _ _; refine Fr.set_only ?_ _ _; refine Fr.set_only ?_ _ _)); refine Fr.of0 ?_; repeat (first | exact Fr.refl _ | assumption | refine Fr.drew ?_ | refine Fr.alloc ?_ _)))
          (((refine step_append0 (by rfl) _ _ _ _ (by rfl) 9 j0 _ 16 Tryd.underlying32 hj hy0 hy1 hy2 (by rfl) _ (by rfl) (.slice s.qt e.texts.length s.ct) e.texts.length (e.texts.map strV) (by rfl) TXw.out tl1 tl2 ?_ ?_; · (repeat (first | exact Fr.refl _ | assumption | refine Fr.drew ?_ | refine Fr.alloc ?_ _))); intro q9 p9 w9 hr9 hf9 hF9; obtain ⟨k0, k1, k2, k3, f0, f1, f2, f3⟩ := Go.Proofs.YtnmfmedoocnofaaDoor.cells4 (hF9.heap0 HGR.out)))
        have hst := BoxAt.fill (w1 := w9) (b := w.heap.size + 1) (B := w.heap.size) (s := ⟨q3, p3, q9, p9⟩) (e := ⟨e.v + 1, e.kind, res, e.texts⟩) (hF9.heap0 HGR.out) (Nat.le_succ _) ⟨(HNR2.out.fr0 hF9).mono (by have := HW.size; omega), hr9.mono (HW.trans hf3).size⟩
        have HST := hid hst
        clear hst k0 k1 k2 k3 f0 f1 f2 f3 hr9 c0 c1 c2 c3
        go_wp2_with fail
        refine bodyPost_ret (results_row_tmp rfl _ _ (w.heap.size + 1) 34 _ (0, 0) _ (.int .i64 0) rfl HST.out.1.cells rfl Tryd.underlying34 rfl (by kernel_rfl)) rfl ⟨_, rfl, HST.out.1.new, ((HW.trans hf3).trans hF9).newOnly (Nat.le_succ _) HST.out.2⟩
      · have hres : res = L := by rw [← HRES.out, if_neg hp, HL.out]
        have hC : ((e.v : Int) == 1) = false ∨ (((e.v : Int) == 1) = true ∧ decide (0 ≤ pl) = false) := by
          by_cases h1 : e.v = 1
          · exact .inr ⟨by rw [h1]; rfl, by simpa [h1] using hp⟩
          · exact .inl (by rw [beq_eq_false_iff_ne]; omega)
        subst hres
        clear hp
        rcases hC with b1 | ⟨b1, b0⟩
        all_goals
          go_wp2_with (first | (go_at_call 103; (with_reducible refine (MO.out _).mono ?_); rintro e5 w5 ⟨rfl, rfl⟩))
          obtain ⟨c0, c1, c2, c3⟩ := C2.out _ hf
          have TXw := hid (fun w5 (h : Fr No wr w5) => TX.out w5 (hf.trans h))
          have hgr := HGr.out _ hf
          have HGR := hid hgr
          have HNR2 := hid HR.out
          clear hgr
          go_region_held3 (fun w' => Fr (Only (w.heap.size + 1)) wr w' ∧ w'.cell? ⟨w.heap.size, 0, none⟩ = some (.int .u8 e.v) ∧ w'.cell? ⟨w.heap.size, 1, none⟩ = some (.int .u8 e.kind) ∧ w'.cell? ⟨w.heap.size, 2, none⟩ = some (.slice s.qn e.nums.length s.cn) ∧ w'.cell? ⟨w.heap.size, 3, none⟩ = some (.slice s.qt e.texts.length s.ct))
            ((go_split_ands; refine five_keep c0 c1 c2 c3 (by omega) ?_; (try (refine Fr.set_only ?_ _ _; refine Fr.set_only ?_ _ _; refine Fr.set_only ?_ _ _; refine Fr.set_only ?_ _ _)); refine Fr.of0 ?_; repeat (first | exact Fr.refl _ | assumption | refine Fr.drew ?_ | refine Fr.alloc ?_ _)))
            (((refine step_append0 (by rfl) _ _ _ _ (by rfl) 9 j0 _ 16 Tryd.underlying32 hj hy0 hy1 hy2 (by rfl) _ (by rfl) (.slice s.qt e.texts.length s.ct) e.texts.length (e.texts.map strV) (by rfl) TXw.out tl1 tl2 ?_ ?_; · (repeat (first | exact Fr.refl _ | assumption | refine Fr.drew ?_ | refine Fr.alloc ?_ _))); intro q9 p9 w9 hr9 hf9 hF9; obtain ⟨k0, k1, k2, k3, f0, f1, f2, f3⟩ := Go.Proofs.YtnmfmedoocnofaaDoor.cells4 (hF9.heap0 HGR.out)))
          have hst := BoxAt.fill (w1 := w9) (b := w.heap.size + 1) (B := w.heap.size) (s := ⟨qv, cv, q9, p9⟩) (e := ⟨e.v + 1, e.kind, res, e.texts⟩) (hF9.heap0 HGR.out) (Nat.le_succ _) ⟨(HNR2.out.fr0 hF9).mono (by have := HW.size; omega), hr9.mono (HW.trans hf).size⟩
          have HST := hid hst
          clear hst k0 k1 k2 k3 f0 f1 f2 f3 hr9 c0 c1 c2 c3
          go_wp2_with fail
          refine bodyPost_ret (results_row_tmp rfl _ _ (w.heap.size + 1) 34 _ (0, 0) _ (.int .i64 0) rfl HST.out.1.cells rfl Tryd.underlying34 rfl (by kernel_rfl)) rfl ⟨_, rfl, HST.out.1.new, ((HW.trans hf).trans hF9).newOnly (Nat.le_succ _) HST.out.2⟩

/-- The document's Up, whatever event it is given. -/
theorem rup_any (s : EvP) (e : Ev) (w : World) (he : EvAt w s e) : Calls Tryd.prog 84 #[evV s e] w (UpPost w (upR e)) := by
  unfold upR
  rcases hm : mayS e with _ | _
  · rw [if_neg (by simp)]
    exact rup_no s e w he 4 (.inl ⟨hm, rfl⟩)
  · rw [if_pos rfl]
    obtain ⟨_, h1, h3⟩ := may_is hm
    by_cases h : e.v = 3
    · have hr : rulesIs e.v e.kind = false := by
        rcases hr : rulesIs e.v e.kind with _ | _
        · rfl
        · have := (rulesIs_range hr).1; omega
      rw [hr, if_neg (by simp)]
      exact rup_no s e w he 43 (.inr ⟨hm, h, rfl⟩)
    · rw [may_rules hm (by omega), if_pos rfl]
      exact rup_ok s e w he hm (by omega)

/-- Is a number what a rule makes of some number? -/
def downOk (r : RuleS) (x : Int) : Bool := if 0 ≤ r.fr then decide ((x - r.plus).tmod r.times = 0) else decide (x = r.plus)
def frO (r : RuleS) : Option Nat := if 0 ≤ r.fr then some r.fr.toNat else none
theorem downN_cons (r : RuleS) (x : Int) (rs : List RuleS) (ns : List Int) : downN (r :: rs) (x :: ns) = (if 0 ≤ r.fr then [(x - r.plus).tdiv r.times] else []) ++ downN rs ns := by
  unfold downN downNum
  by_cases hf : 0 ≤ r.fr <;> simp [hf]
theorem down_at' {r : RuleS} {x : Int} (hf : 0 ≤ r.fr) : ∀ (rs : List RuleS) (ns : List Int) (n a m : Nat), rs.filterMap frO = List.range' a n → rs[m]? = some r → ns[m]? = some x →
    a ≤ r.fr.toNat ∧ (downN rs ns)[r.fr.toNat - a]? = some ((x - r.plus).tdiv r.times) := by
  intro rs
  induction rs with
  | nil => intro ns n a m _ h; simp at h
  | cons q rs ih =>
    intro ns n a m hr h1 h2
    rcases ns with _ | ⟨y, ns⟩
    · simp at h2
    · rw [downN_cons]
      rw [List.filterMap_cons] at hr
      by_cases hq : 0 ≤ q.fr
      · have e1 : frO q = some q.fr.toNat := by unfold frO; rw [if_pos hq]
        rw [e1] at hr
        simp only at hr
        rcases n with _ | n
        · simp at hr
        · rw [List.range'_succ, List.cons.injEq] at hr
          rw [if_pos hq]
          rcases m with _ | m
          · simp only [List.getElem?_cons_zero, Option.some.injEq] at h1 h2
            subst h1 h2
            exact ⟨by omega, by rw [hr.1, Nat.sub_self]; rfl⟩
          · obtain ⟨i1, i2⟩ := ih ns n (a + 1) m hr.2 (by simpa using h1) (by simpa using h2)
            refine ⟨by omega, ?_⟩
            rw [show r.fr.toNat - a = (r.fr.toNat - (a + 1)) + 1 by omega]
            simpa using i2
      · have e1 : frO q = none := by unfold frO; rw [if_neg hq]
        rw [e1] at hr
        simp only at hr
        rw [if_neg hq]
        rcases m with _ | m
        · simp only [List.getElem?_cons_zero, Option.some.injEq] at h1
          subst h1
          exact absurd hf hq
        · simpa using ih ns n a m hr (by simpa using h1) (by simpa using h2)
theorem downOk_all {rs : List RuleS} {ns : List Int} {n : Nat} (hr : rs.filterMap (fun r => if 0 ≤ r.fr then some r.fr.toNat else none) = List.range n) (hl : rs.length = ns.length) :
    upN rs (downN rs ns) = ns ↔ ∀ (m : Nat) (r : RuleS) (x : Int), rs[m]? = some r → ns[m]? = some x → downOk r x = true := by
  have hr' : rs.filterMap frO = List.range' 0 n := by rw [← List.range_eq_range']; exact hr
  have key : ∀ (m : Nat) (r : RuleS) (x : Int), rs[m]? = some r → ns[m]? = some x → (upNum (downN rs ns) r = x ↔ downOk r x = true) := by
    intro m r x h1 h2
    unfold upNum downOk
    by_cases hf : 0 ≤ r.fr
    · rw [if_pos hf, if_pos hf]
      have := (down_at' hf rs ns n 0 m hr' h1 h2).2
      rw [Nat.sub_zero] at this
      rw [this, Option.getD_some, decide_eq_true_eq]
      have h3 := Int.mul_tdiv_add_tmod (x - r.plus) r.times
      omega
    · rw [if_neg hf, if_neg hf, decide_eq_true_eq]
      exact eq_comm
  constructor
  · intro h m r x h1 h2
    refine (key m r x h1 h2).1 ?_
    have h3 : (upN rs (downN rs ns))[m]? = some (upNum (downN rs ns) r) := by unfold upN; rw [List.getElem?_map, h1]; rfl
    rw [h, h2] at h3
    exact (Option.some.inj h3).symm
  · intro h
    apply List.ext_getElem?
    intro m
    unfold upN
    rw [List.getElem?_map]
    by_cases hm : m < ns.length
    · have h1 := List.getElem?_eq_getElem (show m < rs.length by omega)
      have h2 := List.getElem?_eq_getElem hm
      rw [h1, h2, Option.map_some, (key m _ _ h1 h2).2 (h m _ _ h1 h2)]
    · rw [List.getElem?_eq_none (show rs.length ≤ m by omega), List.getElem?_eq_none (by omega)]
      rfl
/-- What rule stands at a place. -/
def fromCount (rs : List RuleS) : Nat := rs.countP fun r => decide (0 ≤ r.fr)
theorem downN_count : ∀ (rs : List RuleS) (ns : List Int), rs.length ≤ ns.length → (downN rs ns).length = fromCount rs
  | [], _, _ => by simp [downN, fromCount]
  | r :: rs, [], h => by simp at h
  | r :: rs, x :: ns, h => by
    have ih := downN_count rs ns (by simpa using h)
    rw [downN_cons, List.length_append, ih]
    unfold fromCount
    rw [List.countP_cons]
    by_cases hf : 0 ≤ r.fr
    · simp [hf]; omega
    · simp [hf]
def rdAt (v k m : Nat) : Bool :=
  if v = 1 ∧ (m : Int) = (moreS k).1 then decide ((rulesL v k)[m]? = some ⟨-1, 0, (moreS k).2⟩)
  else match (fieldsS v k).1[fromCount ((rulesL v k).take m)]? with
    | some c => decide ((rulesL v k)[m]? = some (refRule v (fromCount ((rulesL v k).take m)) c))
    | none => false
theorem rdAt_all : ((List.range 24).all fun k => (List.range 2).all fun v => !(fieldsS (v + 1) k).2.2 || (List.range (rulesL (v + 1) k).length).all fun m => rdAt (v + 1) k m) = true := by decide +kernel
theorem rd_at {v k m : Nat} (h : rulesIs v k = true) (hm : m < (rulesL v k).length) : rdAt v k m = true := by
  obtain ⟨hv, h1, h2, h3⟩ := rulesIs_range h
  have hg := List.all_eq_true.1 rdAt_all k (List.mem_range.2 (by omega))
  have hg2 := List.all_eq_true.1 hg (v - 1) (List.mem_range.2 (by omega))
  rw [show v - 1 + 1 = v by omega, h3] at hg2
  exact List.all_eq_true.1 hg2 m (List.mem_range.2 hm)
/-- The rule where version 2 has a field more. -/
theorem rd_more {v k m : Nat} (h : rulesIs v k = true) (hm : m < (rulesL v k).length) (hc : v = 1 ∧ (m : Int) = (moreS k).1) : (rulesL v k)[m]? = some ⟨-1, 0, (moreS k).2⟩ := by
  have := rd_at h hm
  unfold rdAt at this
  rw [if_pos hc] at this
  simpa using this
theorem rd_from {v k m : Nat} (h : rulesIs v k = true) (hm : m < (rulesL v k).length) (hc : ¬ (v = 1 ∧ (m : Int) = (moreS k).1)) :
    ∃ c, (fieldsS v k).1[fromCount ((rulesL v k).take m)]? = some c ∧ (rulesL v k)[m]? = some (refRule v (fromCount ((rulesL v k).take m)) c) := by
  have := rd_at h hm
  unfold rdAt at this
  rw [if_neg hc] at this
  split at this
  · rename_i c hcc
    exact ⟨c, hcc, by simpa using this⟩
  · cases this
/-- What Down tells, by whether the numbers fit. -/
theorem downR_bad {e : Ev} (hm : mayS e = true) (_hr : rulesIs (e.v - 1) e.kind = true) {m : Nat} {r : RuleS} {x : Int} (h1 : (rulesL (e.v - 1) e.kind)[m]? = some r) (h2 : e.nums[m]? = some x) (hb : downOk r x = false) : downR e = (zeroE, 43) := by
  unfold downR
  rw [if_pos hm]
  have hd : downIs e = false := by
    rcases hd : downIs e with _ | _
    · rfl
    · obtain ⟨d, g1, g2, g3⟩ := downIs_iff.1 hd
      have hv : e.v - 1 = d.v := by rw [← g3]; exact Nat.add_sub_cancel ..
      have hk : e.kind = d.kind := by rw [← g3]; rfl
      have hr1 := may_rules g1 g2
      have hf := rules_fact hr1
      have hmp := mayS_parts (e := d) (l := (fieldsS d.v d.kind).1) (t := (fieldsS d.v d.kind).2.1) (i := (fieldsS d.v d.kind).2.2) rfl g1
      have hE := downOk_all (rs := rulesL d.v d.kind) (ns := e.nums) hf.2.2.1 (by rw [← g3]; show _ = (upN _ _).length; unfold upN; simp)
      rw [hv, hk] at h1
      have hup : upN (rulesL d.v d.kind) (downN (rulesL d.v d.kind) e.nums) = e.nums := by
        have hdu := down_of g1 g2 g3
        have hn : downN (rulesL d.v d.kind) e.nums = d.nums := by
          have := congrArg Ev.nums hdu
          unfold downE at this
          rw [hv, hk] at this
          exact this
        rw [hn]
        exact congrArg Ev.nums g3
      have := hE.1 hup m r x h1 h2
      rw [hb] at this
      cases this
  rw [hd]
  rfl
theorem downR_good {e : Ev} (hm : mayS e = true) (hr : rulesIs (e.v - 1) e.kind = true) (hl : (rulesL (e.v - 1) e.kind).length = e.nums.length) (h : ∀ (m : Nat) (r : RuleS) (x : Int), (rulesL (e.v - 1) e.kind)[m]? = some r → e.nums[m]? = some x → downOk r x = true) :
    downR e = if mayS (downE e) then (downE e, 0) else (zeroE, 43) := by
  unfold downR
  rw [if_pos hm]
  have hf := rules_fact hr
  have hup := (downOk_all hf.2.2.1 hl).2 h
  have hv := may_is hm
  have hs : upS (downE e) = e := by
    unfold upS downE
    simp only
    rw [hup, show e.v - 1 + 1 = e.v by omega]
  unfold downIs downIs.sameS'
  rw [hm, hr, hs]
  simp
theorem downR_rules {e : Ev} (hm : mayS e = true) (hr : rulesIs (e.v - 1) e.kind = false) : downR e = (zeroE, 43) := by
  unfold downR
  rw [if_pos hm, downIs_rules hr]
  rfl

set_option maxHeartbeats 8000000 in
set_option maxRecDepth 100000 in
theorem rdown_form (s : EvP) (e : Ev) (w : World) (he : EvAt w s e) (hm : mayS e = false) :
    Calls Tryd.prog 85 #[evV s e] w (UpPost w (zeroE, 4)) := by
  have ME := hid (fun w1 (h : Fr No w w1) => rMay_any s e w1 (he.fr h))
  unfold UpPost
  have HF0 : Fr No w ((w.alloc (.cells #[.int .u8 e.v, .int .u8 e.kind, .slice s.qn e.nums.length s.cn, .slice s.qt e.texts.length s.ct] 34)).alloc (.cells #[.int .u8 0, .int .u8 0, .slice none 0 0, .slice none 0 0] 34)) := ((Fr.refl w).alloc _).alloc _
  have g1 := Go.heap_alloc_new (w.alloc (.cells #[.int .u8 e.v, .int .u8 e.kind, .slice s.qn e.nums.length s.cn, .slice s.qt e.texts.length s.ct] 34)) (.cells #[.int .u8 0, .int .u8 0, .slice none 0 0, .slice none 0 0] 34)
  simp only [World.size_alloc] at g1
  have HG := hid g1
  clear g1
  have g0 : ((w.alloc (.cells #[.int .u8 e.v, .int .u8 e.kind, .slice s.qn e.nums.length s.cn, .slice s.qt e.texts.length s.ct] 34)).alloc (.cells #[.int .u8 0, .int .u8 0, .slice none 0 0, .slice none 0 0] 34)).heap[w.heap.size]? = some (.cells #[.int .u8 e.v, .int .u8 e.kind, .slice s.qn e.nums.length s.cn, .slice s.qt e.texts.length s.ct] 34 (0, 0)) := by
    rw [Below.heap_alloc _ _ _ (by simp)]; exact Go.heap_alloc_new _ _
  have HG0 := hid g0
  clear g0 he
  unfold evV at *
  rw [hm] at ME
  clear hm
  go_enter Tryd.func85, Tryd.ntmps85
  go_wp2_with (first
    | (go_at_call 56; (with_reducible refine (ME.out _ HF0).mono ?_); rintro e1 w1 ⟨rfl, hf1⟩; obtain ⟨k0, k1, k2, k3, z0, z1, z2, z3⟩ := Go.Proofs.YtnmfmedoocnofaaDoor.cells4 (hf1.heap0 HG.out)))
  obtain ⟨hst, hfr⟩ := store4 (hf1.heap0 HG.out) (.int .u8 0) (.int .u8 0) (.slice none 0 0) (.slice none 0 0)
  refine bodyPost_ret (results_row_tmp rfl _ _ (w.heap.size + 1) 34 _ (0, 0) _ (.int .i64 4) rfl hst rfl Tryd.underlying34 rfl (by kernel_rfl)) rfl ⟨⟨none, 0, none, 0⟩, rfl, EvNew.zero _ _, (HF0.trans hf1).newOnly (Nat.le_succ _) hfr⟩

set_option maxHeartbeats 8000000 in
set_option maxRecDepth 100000 in
theorem rdown_version (s : EvP) (e : Ev) (w : World) (he : EvAt w s e) (hm : mayS e = true) (hr : rulesIs (e.v - 1) e.kind = false) :
    Calls Tryd.prog 85 #[evV s e] w (UpPost w (zeroE, 43)) := by
  have ME := hid (fun w1 (h : Fr No w w1) => rMay_any s e w1 (he.fr h))
  rw [hm] at ME
  obtain ⟨_, hv1, hv3⟩ := may_is hm
  obtain ⟨d, hd⟩ : ∃ d, e.v = d + 1 := ⟨e.v - 1, by omega⟩
  have hwr : IntKind.u8.wrap ((e.v : Int) - 1) = (d : Int) := by rw [IntWalk.u8_in _ (by omega)]; omega
  have hfi : (fieldsS d e.kind).2.2 = false := by
    unfold rulesIs at hr
    rw [show e.v - 1 = d by omega] at hr
    rcases h : (fieldsS d e.kind).2.2 with _ | _
    · rfl
    · rw [h, Bool.true_and, decide_eq_false_iff_not] at hr; omega
  have RF := hid (rfields_any d e.kind)
  unfold RFieldsIs at RF
  rw [hfi] at RF
  generalize (fieldsS d e.kind).1 = old at RF
  generalize (fieldsS d e.kind).2.1 = fx at RF
  unfold UpPost
  have HF0 : Fr No w ((w.alloc (.cells #[.int .u8 e.v, .int .u8 e.kind, .slice s.qn e.nums.length s.cn, .slice s.qt e.texts.length s.ct] 34)).alloc (.cells #[.int .u8 0, .int .u8 0, .slice none 0 0, .slice none 0 0] 34)) := ((Fr.refl w).alloc _).alloc _
  have g1 := Go.heap_alloc_new (w.alloc (.cells #[.int .u8 e.v, .int .u8 e.kind, .slice s.qn e.nums.length s.cn, .slice s.qt e.texts.length s.ct] 34)) (.cells #[.int .u8 0, .int .u8 0, .slice none 0 0, .slice none 0 0] 34)
  simp only [World.size_alloc] at g1
  have HG := hid g1
  clear g1
  have g0 : ((w.alloc (.cells #[.int .u8 e.v, .int .u8 e.kind, .slice s.qn e.nums.length s.cn, .slice s.qt e.texts.length s.ct] 34)).alloc (.cells #[.int .u8 0, .int .u8 0, .slice none 0 0, .slice none 0 0] 34)).heap[w.heap.size]? = some (.cells #[.int .u8 e.v, .int .u8 e.kind, .slice s.qn e.nums.length s.cn, .slice s.qt e.texts.length s.ct] 34 (0, 0)) := by
    rw [Below.heap_alloc _ _ _ (by simp)]; exact Go.heap_alloc_new _ _
  have HG0 := hid g0
  clear g0 he hm hr hfi hd hv1 hv3
  unfold evV at *
  unfold strV at RF
  go_enter Tryd.func85, Tryd.ntmps85
  go_wp2_with (first
    | (go_at_call 56; (with_reducible refine (ME.out _ HF0).mono ?_); rintro e1 w1 ⟨rfl, hf1⟩; obtain ⟨k0, k1, k2, k3, z0, z1, z2, z3⟩ := Go.Proofs.YtnmfmedoocnofaaDoor.cells4 (hf1.heap0 HG.out); obtain ⟨c0, c1, c2, c3, _, _, _, _⟩ := Go.Proofs.YtnmfmedoocnofaaDoor.cells4 (hf1.heap0 HG0.out))
    | (go_at_call 66; (with_reducible refine (RF.out _).mono ?_); rintro e2 w3 ⟨rfl, rfl⟩))
  obtain ⟨hst, hfr⟩ := store4 (hf1.heap0 HG.out) (.int .u8 0) (.int .u8 0) (.slice none 0 0) (.slice none 0 0)
  refine bodyPost_ret (results_row_tmp rfl _ _ (w.heap.size + 1) 34 _ (0, 0) _ (.int .i64 43) rfl hst rfl Tryd.underlying34 rfl (by kernel_rfl)) rfl ⟨⟨none, 0, none, 0⟩, rfl, EvNew.zero _ _, (HF0.trans hf1).newOnly (Nat.le_succ _) hfr⟩

/-- All numbers so far fit. -/
def FitsTo (rs : List RuleS) (ns : List Int) (m : Nat) : Prop := ∀ j r x, j < m → rs[j]? = some r → ns[j]? = some x → downOk r x = true
theorem FitsTo.snoc {rs : List RuleS} {ns : List Int} {m : Nat} {r : RuleS} {x : Int} (h : FitsTo rs ns m) (h1 : rs[m]? = some r) (h2 : ns[m]? = some x) (h3 : downOk r x = decide ((0 : Int) = 0)) : FitsTo rs ns (m + 1) := fun j r' x' hj g1 g2 => by
  by_cases hjm : j < m
  · exact h j r' x' hjm g1 g2
  · obtain rfl : j = m := by omega
    rw [h1] at g1
    rw [h2] at g2
    obtain rfl := Option.some.inj g1
    obtain rfl := Option.some.inj g2
    rw [h3]
    rfl

theorem box_two1 {w w' : World} {v0 v1 v2 v3 : Value} {c2 : Array Value} {t2 : TypeId} (h : Fr No ((w.drew.alloc (.cells #[v0, v1, v2, v3] 34)).alloc (.cells c2 t2)) w') :
    w'.cell? ⟨w.heap.size, 0, none⟩ = some v0 ∧ w'.cell? ⟨w.heap.size, 1, none⟩ = some v1 ∧ w'.cell? ⟨w.heap.size, 2, none⟩ = some v2 ∧ w'.cell? ⟨w.heap.size, 3, none⟩ = some v3 ∧
    w'.frozen? ⟨w.heap.size, 0, none⟩ = false ∧ w'.frozen? ⟨w.heap.size, 1, none⟩ = false ∧ w'.frozen? ⟨w.heap.size, 2, none⟩ = false ∧ w'.frozen? ⟨w.heap.size, 3, none⟩ = false :=
  Go.Proofs.YtnmfmedoocnofaaDoor.cells4 (b := w.heap.size) (h.heap0 (two_heap w.drew _ _ _ _).1)
theorem box_two2 {w w' : World} {v0 v1 v2 v3 : Value} {c2 : Array Value} {t2 : TypeId} (h : Fr No ((w.drew.alloc (.cells c2 t2)).alloc (.cells #[v0, v1, v2, v3] 34)) w') :
    w'.cell? ⟨w.heap.size + 1, 0, none⟩ = some v0 ∧ w'.cell? ⟨w.heap.size + 1, 1, none⟩ = some v1 ∧ w'.cell? ⟨w.heap.size + 1, 2, none⟩ = some v2 ∧ w'.cell? ⟨w.heap.size + 1, 3, none⟩ = some v3 ∧
    w'.frozen? ⟨w.heap.size + 1, 0, none⟩ = false ∧ w'.frozen? ⟨w.heap.size + 1, 1, none⟩ = false ∧ w'.frozen? ⟨w.heap.size + 1, 2, none⟩ = false ∧ w'.frozen? ⟨w.heap.size + 1, 3, none⟩ = false :=
  Go.Proofs.YtnmfmedoocnofaaDoor.cells4 (b := w.heap.size + 1) (h.heap0 (two_heap w.drew _ _ _ _).2)

/-- The ways that a new box comes by. -/
theorem boxes {B : Nat} {wr w9 : World} {s : EvP} {e : Ev} (hB : B ≤ wr.heap.size) (hF : Fr No wr w9) (hn : EvNew B w9 s e) :
    BoxAt B (w9.alloc (.cells (eCells s e) 34)) w9.heap.size s e ∧
    (∀ {c0 c1 c2 c3 : Value}, w9.heap[wr.heap.size]? = some (.cells #[c0, c1, c2, c3] 34 (0, 0)) →
      BoxAt B ((((w9.setCell ⟨wr.heap.size, 0, none⟩ (.int .u8 e.v)).setCell ⟨wr.heap.size, 1, none⟩ (.int .u8 e.kind)).setCell ⟨wr.heap.size, 2, none⟩ (.slice s.qn e.nums.length s.cn)).setCell ⟨wr.heap.size, 3, none⟩ (.slice s.qt e.texts.length s.ct)) wr.heap.size s e ∧
      Fr No wr ((((w9.setCell ⟨wr.heap.size, 0, none⟩ (.int .u8 e.v)).setCell ⟨wr.heap.size, 1, none⟩ (.int .u8 e.kind)).setCell ⟨wr.heap.size, 2, none⟩ (.slice s.qn e.nums.length s.cn)).setCell ⟨wr.heap.size, 3, none⟩ (.slice s.qt e.texts.length s.ct))) ∧
    (∀ {c0 c1 c2 c3 : Value}, w9.heap[wr.heap.size + 1]? = some (.cells #[c0, c1, c2, c3] 34 (0, 0)) →
      BoxAt B ((((w9.setCell ⟨wr.heap.size + 1, 0, none⟩ (.int .u8 e.v)).setCell ⟨wr.heap.size + 1, 1, none⟩ (.int .u8 e.kind)).setCell ⟨wr.heap.size + 1, 2, none⟩ (.slice s.qn e.nums.length s.cn)).setCell ⟨wr.heap.size + 1, 3, none⟩ (.slice s.qt e.texts.length s.ct)) (wr.heap.size + 1) s e ∧
      Fr No wr ((((w9.setCell ⟨wr.heap.size + 1, 0, none⟩ (.int .u8 e.v)).setCell ⟨wr.heap.size + 1, 1, none⟩ (.int .u8 e.kind)).setCell ⟨wr.heap.size + 1, 2, none⟩ (.slice s.qn e.nums.length s.cn)).setCell ⟨wr.heap.size + 1, 3, none⟩ (.slice s.qt e.texts.length s.ct))) := by
  refine ⟨⟨Nat.le_trans hB hF.size, Go.heap_alloc_new _ _, hn.fr ((Fr.refl w9).alloc _)⟩, fun h => ?_, fun h => ?_⟩
  · have := BoxAt.fill h hB hn
    exact ⟨this.1, hF.newOnly (Nat.le_refl _) this.2⟩
  · have := BoxAt.fill h (Nat.le_succ_of_le hB) hn
    exact ⟨this.1, hF.newOnly (Nat.le_succ _) this.2⟩

set_option maxHeartbeats 16000000 in
set_option maxRecDepth 100000 in
theorem rdown_ok (s : EvP) (e : Ev) (w : World) (he : EvAt w s e) (hm : mayS e = true) (hr : rulesIs (e.v - 1) e.kind = true) :
    Calls Tryd.prog 85 #[evV s e] w (UpPost w (downR e)) := by
  have ME := hid (fun w1 (h : Fr No w w1) => rMay_any s e w1 (he.fr h))
  rw [hm] at ME
  obtain ⟨_, hv1, hv3⟩ := may_is hm
  obtain ⟨d, hd⟩ : ∃ d, e.v = d + 1 := ⟨e.v - 1, by omega⟩
  have hwr : IntKind.u8.wrap ((e.v : Int) - 1) = (d : Int) := by rw [IntWalk.u8_in _ (by omega)]; omega
  have hd1 : e.v - 1 = d := by omega
  obtain ⟨hl7, hn7, ht1, hnr, htr⟩ := may_small hm
  have hBAD : ∀ m r x, (rulesL d e.kind)[m]? = some r → e.nums[m]? = some x → downOk r x = false → (zeroE, (43 : Int)) = downR e := fun m r x h1 h2 h3 => (downR_bad hm hr (by rw [hd1]; exact h1) h2 h3).symm
  have hrl : (rulesL d e.kind).length = e.nums.length := by rw [hd1] at hr; rw [(rules_fact hr).2.2.2.1, hl7, hd]
  have hGOOD : FitsTo (rulesL d e.kind) e.nums e.nums.length → (if mayS (downE e) then (downE e, (0 : Int)) else (zeroE, 43)) = downR e := fun h => (downR_good hm hr (by rw [hd1]; exact hrl) (fun m r x h1 h2 => by
    rw [hd1] at h1
    exact h m r x (List.getElem?_eq_some_iff.1 h2).1 h1 h2)).symm
  have hde : downE e = ⟨d, e.kind, downN (rulesL d e.kind) e.nums, e.texts⟩ := by unfold downE; rw [hd1]
  rw [hde] at hGOOD
  rw [hd1] at hr
  have hrd := rulesIs_range hr
  have hd12 := hrd.1
  have hfi := hrd.2.2.2
  have hrs := fun r (h : r ∈ rulesL d e.kind) => rules_small hr h
  have hrt := fun r (h : r ∈ rulesL d e.kind) hf => rules_times hr h hf
  have hrng := downN_range (rs := rulesL d e.kind) (ns := e.nums) (fun r h hf => ⟨hrt r h hf, (hrs r h).2.2.2.2⟩) hnr
  have hdl := downN_length (rulesL d e.kind) e.nums
  have MAYR := hid (fun (s' : EvP) w1 (hn : EvNew w.heap.size w1 s' ⟨d, e.kind, downN (rulesL d e.kind) e.nums, e.texts⟩) => rMay_any s' ⟨d, e.kind, downN (rulesL d e.kind) e.nums, e.texts⟩ w1
    ⟨by show d ≤ 255; omega, he.k8, hn.nums.at_, hn.texts.at_, by show (downN _ _).length ≤ _; omega, he.tl, he.tx, hrng⟩)
  have MORE := hid (fun m (hm : m < (rulesL d e.kind).length) hc => rd_more (v := d) (k := e.kind) hr hm hc)
  have FROM := hid (fun m (hm : m < (rulesL d e.kind).length) hc => rd_from (v := d) (k := e.kind) hr hm hc)
  have CNT := hid (fun m => downN_count ((rulesL d e.kind).take m) e.nums (by rw [List.length_take]; omega))
  have TAKE := hid (fun m r x h1 h2 => @downN_take (rulesL d e.kind) e.nums m r x h1 h2)
  have RF := hid (rfields_any d e.kind)
  unfold RFieldsIs at RF
  rw [hfi] at RF
  have MO := hid (more_any e.kind)
  generalize (fieldsS d e.kind).1 = old at RF FROM
  generalize (fieldsS d e.kind).2.1 = fx at RF
  generalize moreS e.kind = mo at MO MORE FROM
  obtain ⟨pl, ps⟩ := mo
  simp only at MO MORE FROM
  generalize rulesL d e.kind = rs at hBAD hGOOD hrl hrng hdl MAYR MORE FROM CNT TAKE
  generalize hDR : downR e = DR at hBAD hGOOD ⊢
  have BAD := hid hBAD
  have GOOD := hid hGOOD
  have HRL := hid hrl
  unfold UpPost
  have HF0 : Fr No w ((w.alloc (.cells #[.int .u8 e.v, .int .u8 e.kind, .slice s.qn e.nums.length s.cn, .slice s.qt e.texts.length s.ct] 34)).alloc (.cells #[.int .u8 0, .int .u8 0, .slice none 0 0, .slice none 0 0] 34)) := ((Fr.refl w).alloc _).alloc _
  have g1 := Go.heap_alloc_new (w.alloc (.cells #[.int .u8 e.v, .int .u8 e.kind, .slice s.qn e.nums.length s.cn, .slice s.qt e.texts.length s.ct] 34)) (.cells #[.int .u8 0, .int .u8 0, .slice none 0 0, .slice none 0 0] 34)
  simp only [World.size_alloc] at g1
  have HG := hid g1
  clear g1
  have g0 : ((w.alloc (.cells #[.int .u8 e.v, .int .u8 e.kind, .slice s.qn e.nums.length s.cn, .slice s.qt e.texts.length s.ct] 34)).alloc (.cells #[.int .u8 0, .int .u8 0, .slice none 0 0, .slice none 0 0] 34)).heap[w.heap.size]? = some (.cells #[.int .u8 e.v, .int .u8 e.kind, .slice s.qn e.nums.length s.cn, .slice s.qt e.texts.length s.ct] 34 (0, 0)) := by
    rw [Below.heap_alloc _ _ _ (by simp)]; exact Go.heap_alloc_new _ _
  have HG0 := hid g0
  have NU := hid (fun w5 (h : Fr No w w5) m x (hx : e.nums[m]? = some x) => (by
    obtain ⟨bn, on, h1, h2⟩ := he.nums m (numV x) (by simp [hx])
    exact ⟨bn, on, h1, h.cell0 h2⟩ : ∃ bn on, s.qn = some ⟨bn, on, none⟩ ∧ w5.cell? ⟨bn, on + m, none⟩ = some (numV x)))
  have HNR := hid hnr
  have HE := hid he
  clear g0 hm hr hl7 hnr htr he hd hd1 hv1 hv3 hDR hBAD hGOOD hrl hrng hdl hrs hrt hrd hfi hde
  unfold evV at *
  unfold strV at RF
  go_enter Tryd.func85, Tryd.ntmps85
  go_upto_region 8 with (first
    | (go_at_call 56; (with_reducible refine (ME.out _ HF0).mono ?_); rintro e1 w2 ⟨rfl, hf1⟩; obtain ⟨c0, c1, c2, c3, _, _, _, _⟩ := Go.Proofs.YtnmfmedoocnofaaDoor.cells4 (hf1.heap0 HG0.out))
    | (go_at_call 66; (with_reducible refine (RF.out _).mono ?_); rintro e2 w3 ⟨rfl, rfl⟩)
    | (go_at_call 103; (with_reducible refine (MO.out _).mono ?_); rintro e5 w5 ⟨rfl, rfl⟩))
  have HW : Fr No w w2 := HF0.trans hf1
  have C2 := hid (fun w5 (h : Fr No w2 w5) => (⟨h.cell0 c0, h.cell0 c1, h.cell0 c2, h.cell0 c3⟩ : _ ∧ _ ∧ _ ∧ _))
  have HG2 := hid (fun w5 (h : Fr No w2 w5) => h.heap0 (hf1.heap0 HG.out))
  clear c0 c1 c2 c3
  go_wp2_with fail
  go_loopg [10, 11] e.nums.length (fun k nv i wr => ∃ (m : Nat) (L : List Int), m ≤ e.nums.length ∧ e.nums.length ≤ m + k ∧ i = .int .i64 m ∧ Hid (L = downN (rs.take m) e.nums) ∧ Hid (FitsTo rs e.nums m) ∧ Rs w2.heap.size wr 2 nv (L.map numV) ∧ Fr No w2 wr)
  case atStart => exact ⟨0, [], Nat.zero_le _, by omega, rfl, hid (by simp [downN]), hid (fun j r x hj => absurd hj (by omega)), Rs.nil _ _ _ _, Fr.refl _⟩
  case round =>
    rename Value => nv
    obtain ⟨m, L, hmo, hk, rfl, HL, HOK, hR, hf⟩ := hrel
    have hLc : L.length = fromCount (rs.take m) := by rw [HL.out]; exact CNT.out m
    have hL7 : L.length ≤ 7 := by rw [HL.out]; have := downN_length (rs.take m) e.nums; omega
    obtain ⟨qv, cv, rfl⟩ := hR.shape
    simp only [List.length_map] at hR ⊢
    obtain ⟨c0, c1, c2, c3⟩ := C2.out _ hf
    by_cases hlt : m < e.nums.length
    · obtain ⟨x, hx⟩ : ∃ x, e.nums[m]? = some x := ⟨_, List.getElem?_eq_getElem hlt⟩
      have hmr : m < rs.length := by have := HRL.out; omega
      obtain ⟨bn, on, hqn, kn⟩ := NU.out wr (HW.trans hf) m x hx
      have hx0 := HNR.out x (List.mem_of_getElem? hx)
      have i1 : (m : Int) < (e.nums.length : Int) := by omega
      have i2 : (0 : Int) ≤ (m : Int) := by omega
      have i4 : (m : Int) + 1 ≤ 100 := by omega
      unfold numV at kn
      rw [hqn] at c2
      have HR := hid hR
      have HX := hid hx
      clear hx hR hqn
      by_cases hc : d = 1 ∧ (m : Int) = pl
      · obtain ⟨hv, rfl⟩ := hc
        have hrm := MORE.out m hmr ⟨hv, rfl⟩
        have hT := TAKE.out m _ x hrm HX.out
        rw [if_neg (by show ¬ (0 : Int) ≤ -1; decide), List.append_nil, ← HL.out] at hT
        have HT := hid hT
        have HRM := hid hrm
        have b1 : ((d : Int) == 1) = true := by rw [hv]; rfl
        have bp : ((m : Int) == (m : Int)) = true := by simp
        clear hv hT hrm hLc hmr
        by_cases hxe : x = ps
        · subst hxe
          have z1 : (x != x) = false := by simp
          go_wp2_with fail
          go_roundg (gk - 1)
          case measure => omega
          case rel => exact ⟨m + 1, L, by omega, by omega, by go_num, hid HT.out.symm, hid (HOK.out.snoc HRM.out HX.out (by simp [downOk])), HR.out, hf⟩
        · have z1 : (x != ps) = true := by simpa using hxe
          have HB := hid (show downOk ⟨-1, 0, ps⟩ x = false by simpa [downOk] using hxe)
          have HGr := HG2.out _ hf
          have HGH := hid HGr
          obtain ⟨k0, k1, k2, k3, z6, z7, z8, z9⟩ := Go.Proofs.YtnmfmedoocnofaaDoor.cells4 HGr
          clear HGr hxe
          go_wp2_with fail
          obtain ⟨hst, hfr⟩ := store4 (HGH.out) (.int .u8 0) (.int .u8 0) (.slice none 0 0) (.slice none 0 0)
          obtain rfl := BAD.out m _ x HRM.out HX.out HB.out
          refine bodyPost_ret (results_row_tmp rfl _ _ (w.heap.size + 1) 34 _ (0, 0) _ (.int .i64 43) rfl hst rfl Tryd.underlying34 rfl (by kernel_rfl)) rfl ⟨⟨none, 0, none, 0⟩, rfl, EvNew.zero _ _, (HW.trans hf).newOnly (Nat.le_succ _) hfr⟩
      · obtain ⟨c, hcc, hrm⟩ := FROM.out m hmr hc
        rw [← hLc] at hcc hrm
        have hT := TAKE.out m _ x hrm HX.out
        have hlo : L.length < old.length := (List.getElem?_eq_some_iff.1 hcc).1
        have hsz : L.length < ({ data := old.toArray } : ByteArray).size := hlo
        have hix : (({ data := old.toArray } : ByteArray)[L.length]'hsz).toNat = c.toNat := by
          have := (List.getElem?_eq_some_iff.1 hcc).2
          rw [← this]; rfl
        have j1 : (L.length : Int) < (old.length : Int) := by omega
        have j2 : (0 : Int) ≤ (L.length : Int) := by omega
        rw [← HL.out] at hT
        have HT := hid hT
        have HRX := hid (And.intro hrm HX.out)
        obtain ⟨i0, hi, hz0, hz1, hz2⟩ := info_parts infoI64
        have hdv : (d = 1 ∧ (m : Int) ≠ pl) ∨ d = 2 := by
          rcases hd12 with h | h
          · exact .inl ⟨h, fun h2 => hc ⟨h, h2⟩⟩
          · exact .inr h
        clear hc hcc hrm hT hmr hlo hLc hd12
        rcases hdv with ⟨hv, hne⟩ | hv
        · have b1 : ((d : Int) == 1) = true := by rw [hv]; rfl
          have b2 : ((d : Int) == 2) = false := by rw [hv]; rfl
          have bp : ((m : Int) == pl) = false := by rw [beq_eq_false_iff_ne]; exact hne
          clear hne
          by_cases h109 : c = 109
          · have hrr : refRule d L.length c = ⟨L.length, 100, 0⟩ := by unfold refRule refC; rw [hv]; simp [h109]
            have hok : downOk (refRule d L.length c) x = decide (x % 100 = 0) := by rw [hrr]; unfold downOk; simp [Int.tmod_eq_emod_of_nonneg hx0.1]
            rw [hrr] at HT
            have HT2 : Hid (downN (rs.take (m + 1)) e.nums = L ++ [x / 100]) := hid (by rw [HT.out]; simp [Int.tdiv_eq_ediv_of_nonneg hx0.1])
            have f109 : ((c.toNat : Int) == 109) = true := by rw [h109]; rfl
            have w1q : IntKind.i64.wrap (x / 100) = x / 100 := IntWalk.i64_in _ (by omega)
            have w2q : IntKind.i64.wrap (x % 100) = x % 100 := IntWalk.i64_in _ (by omega)
            clear hrr hv h109
            by_cases hz : x % 100 = 0
            · have z1 : (x % 100 != 0) = false := by rw [hz]; rfl
              rw [hz] at hok
              have HOKn := hid hok
              have hz0' : x % 100 = 0 := hz
              clear hok hz
              go_wp2_with (first
                | (at_builtin; refine wpList_append_rt rfl _ _ 31 _ rfl w2.heap.size 2 i0 (.int .i64 0) 8 Tryd.underlying31 hi hz0 hz1 hz2 rfl (.slice qv L.length cv) (L.map numV) (by rfl) ?c1 ?c2 _ 1 [numV (x / 100)] rfl ?c5 ?c3 ?c4 ?_))
              case c1 => exact HR.out.fr0 ((Fr.refl _).alloc _)
              case c5 => exact Src.ofSlice _ Tryd.underlying31 ⟨_, 0, none⟩ 1 1 [numV (x / 100)] rfl (cells_new wr [numV (x / 100)] 2) (by intro u hu; simp at hu; subst hu; rfl)
              case c2 => have := hf.size; simp; omega
              case c3 => unfold maxLen; omega
              case c4 => omega
              intro v' wA hr' hfT
              have e9 : L.map numV ++ [numV (x / 100)] = (L ++ [x / 100]).map numV := by simp
              rw [e9] at hr'
              have hFE : Fr No w2 wA := (hf.alloc (.cells #[.int .i64 (x / 100)] 2)).newT (Nat.le_refl _) hfT
              have HRN := hid hr'
              clear e9 hr' hfT
              go_wp2_with fail
              go_roundg (gk - 1)
              case measure => omega
              case rel => exact ⟨m + 1, L ++ [x / 100], by omega, by omega, by go_num, hid HT2.out.symm, hid (HOK.out.snoc HRX.out.1 HRX.out.2 HOKn.out), HRN.out, hFE⟩
            · have z1 : (x % 100 != 0) = true := by simpa using hz
              have HB := hid (show downOk (refRule d L.length c) x = false by rw [hok]; simpa using hz)
              clear hz hok
              have HGr := HG2.out _ hf
              have HGH := hid HGr
              obtain ⟨k0, k1, k2, k3, z6, z7, z8, z9⟩ := Go.Proofs.YtnmfmedoocnofaaDoor.cells4 HGr
              clear HGr
              go_wp2_with fail
              obtain ⟨hst, hfr⟩ := store4 (HGH.out) (.int .u8 0) (.int .u8 0) (.slice none 0 0) (.slice none 0 0)
              obtain rfl := BAD.out m _ x HRX.out.1 HRX.out.2 HB.out
              refine bodyPost_ret (results_row_tmp rfl _ _ (w.heap.size + 1) 34 _ (0, 0) _ (.int .i64 43) rfl hst rfl Tryd.underlying34 rfl (by kernel_rfl)) rfl ⟨⟨none, 0, none, 0⟩, rfl, EvNew.zero _ _, (HW.trans hf).newOnly (Nat.le_succ _) hfr⟩
          · by_cases h112 : c = 112
            · have hrr : refRule d L.length c = ⟨L.length, 100, 0⟩ := by unfold refRule refC; rw [hv]; simp [h112]
              have hok : downOk (refRule d L.length c) x = decide (x % 100 = 0) := by rw [hrr]; unfold downOk; simp [Int.tmod_eq_emod_of_nonneg hx0.1]
              rw [hrr] at HT
              have HT2 : Hid (downN (rs.take (m + 1)) e.nums = L ++ [x / 100]) := hid (by rw [HT.out]; simp [Int.tdiv_eq_ediv_of_nonneg hx0.1])
              have f109 : ((c.toNat : Int) == 109) = false := by rw [beq_eq_false_iff_ne]; intro h; exact h109 (UInt8.toNat_inj.1 (show c.toNat = (109 : UInt8).toNat by simp; omega))
              have f112 : ((c.toNat : Int) == 112) = true := by rw [h112]; rfl
              have w1q : IntKind.i64.wrap (x / 100) = x / 100 := IntWalk.i64_in _ (by omega)
              have w2q : IntKind.i64.wrap (x % 100) = x % 100 := IntWalk.i64_in _ (by omega)
              clear hrr hv h109 h112
              by_cases hz : x % 100 = 0
              · have z1 : (x % 100 != 0) = false := by rw [hz]; rfl
                rw [hz] at hok
                have HOKn := hid hok
                have hz0' : x % 100 = 0 := hz
                clear hok hz
                go_wp2_with (first
                  | (at_builtin; refine wpList_append_rt rfl _ _ 31 _ rfl w2.heap.size 2 i0 (.int .i64 0) 8 Tryd.underlying31 hi hz0 hz1 hz2 rfl (.slice qv L.length cv) (L.map numV) (by rfl) ?c1 ?c2 _ 1 [numV (x / 100)] rfl ?c5 ?c3 ?c4 ?_))
                case c1 => exact HR.out.fr0 ((Fr.refl _).alloc _)
                case c5 => exact Src.ofSlice _ Tryd.underlying31 ⟨_, 0, none⟩ 1 1 [numV (x / 100)] rfl (cells_new wr [numV (x / 100)] 2) (by intro u hu; simp at hu; subst hu; rfl)
                case c2 => have := hf.size; simp; omega
                case c3 => unfold maxLen; omega
                case c4 => omega
                intro v' wA hr' hfT
                have e9 : L.map numV ++ [numV (x / 100)] = (L ++ [x / 100]).map numV := by simp
                rw [e9] at hr'
                have hFE : Fr No w2 wA := (hf.alloc (.cells #[.int .i64 (x / 100)] 2)).newT (Nat.le_refl _) hfT
                have HRN := hid hr'
                clear e9 hr' hfT
                go_wp2_with fail
                go_roundg (gk - 1)
                case measure => omega
                case rel => exact ⟨m + 1, L ++ [x / 100], by omega, by omega, by go_num, hid HT2.out.symm, hid (HOK.out.snoc HRX.out.1 HRX.out.2 HOKn.out), HRN.out, hFE⟩
              · have z1 : (x % 100 != 0) = true := by simpa using hz
                have HB := hid (show downOk (refRule d L.length c) x = false by rw [hok]; simpa using hz)
                clear hz hok
                have HGr := HG2.out _ hf
                have HGH := hid HGr
                obtain ⟨k0, k1, k2, k3, z6, z7, z8, z9⟩ := Go.Proofs.YtnmfmedoocnofaaDoor.cells4 HGr
                clear HGr
                go_wp2_with fail
                obtain ⟨hst, hfr⟩ := store4 (HGH.out) (.int .u8 0) (.int .u8 0) (.slice none 0 0) (.slice none 0 0)
                obtain rfl := BAD.out m _ x HRX.out.1 HRX.out.2 HB.out
                refine bodyPost_ret (results_row_tmp rfl _ _ (w.heap.size + 1) 34 _ (0, 0) _ (.int .i64 43) rfl hst rfl Tryd.underlying34 rfl (by kernel_rfl)) rfl ⟨⟨none, 0, none, 0⟩, rfl, EvNew.zero _ _, (HW.trans hf).newOnly (Nat.le_succ _) hfr⟩
            · by_cases h98 : c = 98
              · have hrr : refRule d L.length c = ⟨L.length, 100, 0⟩ := by unfold refRule refC; rw [hv]; simp [h98]
                have hok : downOk (refRule d L.length c) x = decide (x % 100 = 0) := by rw [hrr]; unfold downOk; simp [Int.tmod_eq_emod_of_nonneg hx0.1]
                rw [hrr] at HT
                have HT2 : Hid (downN (rs.take (m + 1)) e.nums = L ++ [x / 100]) := hid (by rw [HT.out]; simp [Int.tdiv_eq_ediv_of_nonneg hx0.1])
                have f109 : ((c.toNat : Int) == 109) = false := by rw [beq_eq_false_iff_ne]; intro h; exact h109 (UInt8.toNat_inj.1 (show c.toNat = (109 : UInt8).toNat by simp; omega))
                have f112 : ((c.toNat : Int) == 112) = false := by rw [beq_eq_false_iff_ne]; intro h; exact h112 (UInt8.toNat_inj.1 (show c.toNat = (112 : UInt8).toNat by simp; omega))
                have f98 : ((c.toNat : Int) == 98) = true := by rw [h98]; rfl
                have w1q : IntKind.i64.wrap (x / 100) = x / 100 := IntWalk.i64_in _ (by omega)
                have w2q : IntKind.i64.wrap (x % 100) = x % 100 := IntWalk.i64_in _ (by omega)
                clear hrr hv h109 h112 h98
                by_cases hz : x % 100 = 0
                · have z1 : (x % 100 != 0) = false := by rw [hz]; rfl
                  rw [hz] at hok
                  have HOKn := hid hok
                  have hz0' : x % 100 = 0 := hz
                  clear hok hz
                  go_wp2_with (first
                    | (at_builtin; refine wpList_append_rt rfl _ _ 31 _ rfl w2.heap.size 2 i0 (.int .i64 0) 8 Tryd.underlying31 hi hz0 hz1 hz2 rfl (.slice qv L.length cv) (L.map numV) (by rfl) ?c1 ?c2 _ 1 [numV (x / 100)] rfl ?c5 ?c3 ?c4 ?_))
                  case c1 => exact HR.out.fr0 ((Fr.refl _).alloc _)
                  case c5 => exact Src.ofSlice _ Tryd.underlying31 ⟨_, 0, none⟩ 1 1 [numV (x / 100)] rfl (cells_new wr [numV (x / 100)] 2) (by intro u hu; simp at hu; subst hu; rfl)
                  case c2 => have := hf.size; simp; omega
                  case c3 => unfold maxLen; omega
                  case c4 => omega
                  intro v' wA hr' hfT
                  have e9 : L.map numV ++ [numV (x / 100)] = (L ++ [x / 100]).map numV := by simp
                  rw [e9] at hr'
                  have hFE : Fr No w2 wA := (hf.alloc (.cells #[.int .i64 (x / 100)] 2)).newT (Nat.le_refl _) hfT
                  have HRN := hid hr'
                  clear e9 hr' hfT
                  go_wp2_with fail
                  go_roundg (gk - 1)
                  case measure => omega
                  case rel => exact ⟨m + 1, L ++ [x / 100], by omega, by omega, by go_num, hid HT2.out.symm, hid (HOK.out.snoc HRX.out.1 HRX.out.2 HOKn.out), HRN.out, hFE⟩
                · have z1 : (x % 100 != 0) = true := by simpa using hz
                  have HB := hid (show downOk (refRule d L.length c) x = false by rw [hok]; simpa using hz)
                  clear hz hok
                  have HGr := HG2.out _ hf
                  have HGH := hid HGr
                  obtain ⟨k0, k1, k2, k3, z6, z7, z8, z9⟩ := Go.Proofs.YtnmfmedoocnofaaDoor.cells4 HGr
                  clear HGr
                  go_wp2_with fail
                  obtain ⟨hst, hfr⟩ := store4 (HGH.out) (.int .u8 0) (.int .u8 0) (.slice none 0 0) (.slice none 0 0)
                  obtain rfl := BAD.out m _ x HRX.out.1 HRX.out.2 HB.out
                  refine bodyPost_ret (results_row_tmp rfl _ _ (w.heap.size + 1) 34 _ (0, 0) _ (.int .i64 43) rfl hst rfl Tryd.underlying34 rfl (by kernel_rfl)) rfl ⟨⟨none, 0, none, 0⟩, rfl, EvNew.zero _ _, (HW.trans hf).newOnly (Nat.le_succ _) hfr⟩
              · have hrr : refRule d L.length c = ⟨L.length, 1, 0⟩ := by unfold refRule refC; rw [hv]; simp [h109, h112, h98]
                have hok : downOk (refRule d L.length c) x = decide ((0 : Int) = 0) := by rw [hrr]; unfold downOk; simp
                rw [hrr] at HT
                have HT2 : Hid (downN (rs.take (m + 1)) e.nums = L ++ [x]) := hid (by rw [HT.out]; simp)
                have f109 : ((c.toNat : Int) == 109) = false := by rw [beq_eq_false_iff_ne]; intro h; exact h109 (UInt8.toNat_inj.1 (show c.toNat = (109 : UInt8).toNat by simp; omega))
                have f112 : ((c.toNat : Int) == 112) = false := by rw [beq_eq_false_iff_ne]; intro h; exact h112 (UInt8.toNat_inj.1 (show c.toNat = (112 : UInt8).toNat by simp; omega))
                have f98 : ((c.toNat : Int) == 98) = false := by rw [beq_eq_false_iff_ne]; intro h; exact h98 (UInt8.toNat_inj.1 (show c.toNat = (98 : UInt8).toNat by simp; omega))
                have w1q : IntKind.i64.wrap (x) = x := IntWalk.i64_in _ (by omega)
                clear hrr hv h109 h112 h98
                have HOKn := hid hok
                clear hok
                go_wp2_with (first
                  | (at_builtin; refine wpList_append_rt rfl _ _ 31 _ rfl w2.heap.size 2 i0 (.int .i64 0) 8 Tryd.underlying31 hi hz0 hz1 hz2 rfl (.slice qv L.length cv) (L.map numV) (by rfl) ?c1 ?c2 _ 1 [numV (x)] rfl ?c5 ?c3 ?c4 ?_))
                case c1 => exact HR.out.fr0 ((Fr.refl _).alloc _)
                case c5 => exact Src.ofSlice _ Tryd.underlying31 ⟨_, 0, none⟩ 1 1 [numV (x)] rfl (cells_new wr [numV (x)] 2) (by intro u hu; simp at hu; subst hu; rfl)
                case c2 => have := hf.size; simp; omega
                case c3 => unfold maxLen; omega
                case c4 => omega
                intro v' wA hr' hfT
                have e9 : L.map numV ++ [numV (x)] = (L ++ [x]).map numV := by simp
                rw [e9] at hr'
                have hFE : Fr No w2 wA := (hf.alloc (.cells #[.int .i64 (x)] 2)).newT (Nat.le_refl _) hfT
                have HRN := hid hr'
                clear e9 hr' hfT
                go_wp2_with fail
                go_roundg (gk - 1)
                case measure => omega
                case rel => exact ⟨m + 1, L ++ [x], by omega, by omega, by go_num, hid HT2.out.symm, hid (HOK.out.snoc HRX.out.1 HRX.out.2 HOKn.out), HRN.out, hFE⟩
        · have b1 : ((d : Int) == 1) = false := by rw [hv]; rfl
          have b2 : ((d : Int) == 2) = true := by rw [hv]; rfl
          by_cases h116 : c = 116
          · have hrr : refRule d L.length c = ⟨L.length, 10, 0⟩ := by unfold refRule refC; rw [hv]; simp [h116]
            have hok : downOk (refRule d L.length c) x = decide (x % 10 = 0) := by rw [hrr]; unfold downOk; simp [Int.tmod_eq_emod_of_nonneg hx0.1]
            rw [hrr] at HT
            have HT2 : Hid (downN (rs.take (m + 1)) e.nums = L ++ [x / 10]) := hid (by rw [HT.out]; simp [Int.tdiv_eq_ediv_of_nonneg hx0.1])
            have f116 : ((c.toNat : Int) == 116) = true := by rw [h116]; rfl
            have w1q : IntKind.i64.wrap (x / 10) = x / 10 := IntWalk.i64_in _ (by omega)
            have w2q : IntKind.i64.wrap (x % 10) = x % 10 := IntWalk.i64_in _ (by omega)
            clear hrr hv h116
            by_cases hz : x % 10 = 0
            · have z1 : (x % 10 != 0) = false := by rw [hz]; rfl
              rw [hz] at hok
              have HOKn := hid hok
              have hz0' : x % 10 = 0 := hz
              clear hok hz
              go_wp2_with (first
                | (at_builtin; refine wpList_append_rt rfl _ _ 31 _ rfl w2.heap.size 2 i0 (.int .i64 0) 8 Tryd.underlying31 hi hz0 hz1 hz2 rfl (.slice qv L.length cv) (L.map numV) (by rfl) ?c1 ?c2 _ 1 [numV (x / 10)] rfl ?c5 ?c3 ?c4 ?_))
              case c1 => exact HR.out.fr0 ((Fr.refl _).alloc _)
              case c5 => exact Src.ofSlice _ Tryd.underlying31 ⟨_, 0, none⟩ 1 1 [numV (x / 10)] rfl (cells_new wr [numV (x / 10)] 2) (by intro u hu; simp at hu; subst hu; rfl)
              case c2 => have := hf.size; simp; omega
              case c3 => unfold maxLen; omega
              case c4 => omega
              intro v' wA hr' hfT
              have e9 : L.map numV ++ [numV (x / 10)] = (L ++ [x / 10]).map numV := by simp
              rw [e9] at hr'
              have hFE : Fr No w2 wA := (hf.alloc (.cells #[.int .i64 (x / 10)] 2)).newT (Nat.le_refl _) hfT
              have HRN := hid hr'
              clear e9 hr' hfT
              go_wp2_with fail
              go_roundg (gk - 1)
              case measure => omega
              case rel => exact ⟨m + 1, L ++ [x / 10], by omega, by omega, by go_num, hid HT2.out.symm, hid (HOK.out.snoc HRX.out.1 HRX.out.2 HOKn.out), HRN.out, hFE⟩
            · have z1 : (x % 10 != 0) = true := by simpa using hz
              have HB := hid (show downOk (refRule d L.length c) x = false by rw [hok]; simpa using hz)
              clear hz hok
              have HGr := HG2.out _ hf
              have HGH := hid HGr
              obtain ⟨k0, k1, k2, k3, z6, z7, z8, z9⟩ := Go.Proofs.YtnmfmedoocnofaaDoor.cells4 HGr
              clear HGr
              go_wp2_with fail
              obtain ⟨hst, hfr⟩ := store4 (HGH.out) (.int .u8 0) (.int .u8 0) (.slice none 0 0) (.slice none 0 0)
              obtain rfl := BAD.out m _ x HRX.out.1 HRX.out.2 HB.out
              refine bodyPost_ret (results_row_tmp rfl _ _ (w.heap.size + 1) 34 _ (0, 0) _ (.int .i64 43) rfl hst rfl Tryd.underlying34 rfl (by kernel_rfl)) rfl ⟨⟨none, 0, none, 0⟩, rfl, EvNew.zero _ _, (HW.trans hf).newOnly (Nat.le_succ _) hfr⟩
          · by_cases h115 : c = 115
            · have hrr : refRule d L.length c = ⟨L.length, 1, 1⟩ := by unfold refRule refC; rw [hv]; simp [h115]
              have hok : downOk (refRule d L.length c) x = decide ((0 : Int) = 0) := by rw [hrr]; unfold downOk; simp
              rw [hrr] at HT
              have HT2 : Hid (downN (rs.take (m + 1)) e.nums = L ++ [x - 1]) := hid (by rw [HT.out]; simp)
              have f116 : ((c.toNat : Int) == 116) = false := by rw [beq_eq_false_iff_ne]; intro h; exact h116 (UInt8.toNat_inj.1 (show c.toNat = (116 : UInt8).toNat by simp; omega))
              have f115 : ((c.toNat : Int) == 115) = true := by rw [h115]; rfl
              have w1q : IntKind.i64.wrap (x - 1) = x - 1 := IntWalk.i64_in _ (by omega)
              clear hrr hv h116 h115
              have HOKn := hid hok
              clear hok
              go_wp2_with (first
                | (at_builtin; refine wpList_append_rt rfl _ _ 31 _ rfl w2.heap.size 2 i0 (.int .i64 0) 8 Tryd.underlying31 hi hz0 hz1 hz2 rfl (.slice qv L.length cv) (L.map numV) (by rfl) ?c1 ?c2 _ 1 [numV (x - 1)] rfl ?c5 ?c3 ?c4 ?_))
              case c1 => exact HR.out.fr0 ((Fr.refl _).alloc _)
              case c5 => exact Src.ofSlice _ Tryd.underlying31 ⟨_, 0, none⟩ 1 1 [numV (x - 1)] rfl (cells_new wr [numV (x - 1)] 2) (by intro u hu; simp at hu; subst hu; rfl)
              case c2 => have := hf.size; simp; omega
              case c3 => unfold maxLen; omega
              case c4 => omega
              intro v' wA hr' hfT
              have e9 : L.map numV ++ [numV (x - 1)] = (L ++ [x - 1]).map numV := by simp
              rw [e9] at hr'
              have hFE : Fr No w2 wA := (hf.alloc (.cells #[.int .i64 (x - 1)] 2)).newT (Nat.le_refl _) hfT
              have HRN := hid hr'
              clear e9 hr' hfT
              go_wp2_with fail
              go_roundg (gk - 1)
              case measure => omega
              case rel => exact ⟨m + 1, L ++ [x - 1], by omega, by omega, by go_num, hid HT2.out.symm, hid (HOK.out.snoc HRX.out.1 HRX.out.2 HOKn.out), HRN.out, hFE⟩
            · have hrr : refRule d L.length c = ⟨L.length, 1, 0⟩ := by unfold refRule refC; rw [hv]; simp [h116, h115]
              have hok : downOk (refRule d L.length c) x = decide ((0 : Int) = 0) := by rw [hrr]; unfold downOk; simp
              rw [hrr] at HT
              have HT2 : Hid (downN (rs.take (m + 1)) e.nums = L ++ [x]) := hid (by rw [HT.out]; simp)
              have f116 : ((c.toNat : Int) == 116) = false := by rw [beq_eq_false_iff_ne]; intro h; exact h116 (UInt8.toNat_inj.1 (show c.toNat = (116 : UInt8).toNat by simp; omega))
              have f115 : ((c.toNat : Int) == 115) = false := by rw [beq_eq_false_iff_ne]; intro h; exact h115 (UInt8.toNat_inj.1 (show c.toNat = (115 : UInt8).toNat by simp; omega))
              have w1q : IntKind.i64.wrap (x) = x := IntWalk.i64_in _ (by omega)
              clear hrr hv h116 h115
              have HOKn := hid hok
              clear hok
              go_wp2_with (first
                | (at_builtin; refine wpList_append_rt rfl _ _ 31 _ rfl w2.heap.size 2 i0 (.int .i64 0) 8 Tryd.underlying31 hi hz0 hz1 hz2 rfl (.slice qv L.length cv) (L.map numV) (by rfl) ?c1 ?c2 _ 1 [numV (x)] rfl ?c5 ?c3 ?c4 ?_))
              case c1 => exact HR.out.fr0 ((Fr.refl _).alloc _)
              case c5 => exact Src.ofSlice _ Tryd.underlying31 ⟨_, 0, none⟩ 1 1 [numV (x)] rfl (cells_new wr [numV (x)] 2) (by intro u hu; simp at hu; subst hu; rfl)
              case c2 => have := hf.size; simp; omega
              case c3 => unfold maxLen; omega
              case c4 => omega
              intro v' wA hr' hfT
              have e9 : L.map numV ++ [numV (x)] = (L ++ [x]).map numV := by simp
              rw [e9] at hr'
              have hFE : Fr No w2 wA := (hf.alloc (.cells #[.int .i64 (x)] 2)).newT (Nat.le_refl _) hfT
              have HRN := hid hr'
              clear e9 hr' hfT
              go_wp2_with fail
              go_roundg (gk - 1)
              case measure => omega
              case rel => exact ⟨m + 1, L ++ [x], by omega, by omega, by go_num, hid HT2.out.symm, hid (HOK.out.snoc HRX.out.1 HRX.out.2 HOKn.out), HRN.out, hFE⟩
    · obtain rfl : m = e.nums.length := by omega
      have hRLL := HRL.out
      rw [List.take_of_length_le (by omega)] at HL
      have HGO := hid (GOOD.out HOK.out)
      have hle := hR.cap_le
      have HR := hid hR
      clear hmo hk hlt hLc hR hRLL
      obtain ⟨j0, hj, hy0, hy1, hy2⟩ := info_parts infoStr
      have TX := hid (fun w5 (h : Fr No wr w5) => (by
        have := Src.ofSl (P := Tryd.prog) (c := s.ct) Tryd.underlying32 (HE.out.texts.fr ((HW.trans hf).trans h)) (str_one e.texts)
        simpa using this : Src Tryd.prog 1 32 (.slice s.qt e.texts.length s.ct) e.texts.length (e.texts.map strV) w5))
      have tl1 : e.texts.length ≤ maxLen := by unfold maxLen; omega
      have tl2 : e.texts.length * 16 ≤ 140737488355328 := by omega
      rw [← HL.out] at MAYR HGO
      clear HL
      go_upto_region 26 with fail
      go_cut [15] from 110 (fun x w' => Fr No wr w' ∧ ∃ b s', x = .pointer (some ⟨b, 0, none⟩) ∧ BoxAt w2.heap.size w' b s' ⟨d, e.kind, L, e.texts⟩)
      case first =>
        go_region_held3 (fun w' => Fr No wr w' ∧ w'.cell? ⟨w.heap.size, 0, none⟩ = some (.int .u8 e.v) ∧ w'.cell? ⟨w.heap.size, 1, none⟩ = some (.int .u8 e.kind) ∧ w'.cell? ⟨w.heap.size, 2, none⟩ = some (.slice s.qn e.nums.length s.cn) ∧ w'.cell? ⟨w.heap.size, 3, none⟩ = some (.slice s.qt e.texts.length s.ct))
          ((go_split_ands; refine two_keep c0 c1 c2 c3 ?_; repeat (first | exact Fr.refl _ | assumption | refine Fr.drew ?_ | refine Fr.alloc ?_ _ | refine Fr.setNew ?_ (by first | exact Nat.le_refl _ | exact Nat.le_succ _ | exact hF9.size) _)))
          (((refine step_append0 (by rfl) _ _ _ _ (by rfl) 9 j0 _ 16 Tryd.underlying32 hj hy0 hy1 hy2 (by rfl) _ (by rfl) (.slice s.qt e.texts.length s.ct) e.texts.length (e.texts.map strV) (by rfl) TX.out tl1 tl2 ?_ ?_; · (repeat (first | exact Fr.refl _ | assumption | refine Fr.drew ?_ | refine Fr.alloc ?_ _))); intro q9 p9 w9 hr9 hf9 hF9; (first | (have hg3 := box_two1 hf9; obtain ⟨k0, k1, k2, k3, f0, f1, f2, f3⟩ := hg3) | (have hg3 := box_two2 hf9; obtain ⟨k0, k1, k2, k3, f0, f1, f2, f3⟩ := hg3) | skip)))
        all_goals
          have hn9 : EvNew w2.heap.size w9 ⟨qv, cv, q9, p9⟩ ⟨d, e.kind, L, e.texts⟩ := ⟨HR.out.fr0 hF9, hr9.mono hf.size⟩
          have HB := hid (boxes hf.size hF9 hn9)
          have HF9 := hid hF9
          have HG9 := hid hf9
          clear hn9 hr9 hF9 hf9
        all_goals (try clear k0 k1 k2 k3 f0 f1 f2 f3)
        all_goals
          go_wp2_with fail
          go_meet
          case rel => first
            | exact ⟨HF9.out.alloc _, _, _, rfl, HB.out.1⟩
            | exact ⟨(HB.out.2.1 (HG9.out.heap0 (two_heap wr.drew _ _ _ _).1)).2, _, _, rfl, (HB.out.2.1 (HG9.out.heap0 (two_heap wr.drew _ _ _ _).1)).1⟩
            | exact ⟨(HB.out.2.2 (HG9.out.heap0 (two_heap wr.drew _ _ _ _).2)).2, _, _, rfl, (HB.out.2.2 (HG9.out.heap0 (two_heap wr.drew _ _ _ _).2)).1⟩
      obtain ⟨hF3, b, s', rfl, hB⟩ := hcut
      rename World => wC
      have hfC := hf.trans hF3
      obtain ⟨k0, k1, k2, k3, f0, f1, f2, f3⟩ := hB.cells4
      have blt := hB.lt
      have HGC := hid (fun w6 (h : Fr No wC w6) => HG2.out _ (hfC.trans h))
      have HNW := hid (hB.new.mono HW.size)
      have HWC := hid (HW.trans hfC)
      have HBX := hid hB
      clear hB hF3 TX tl1 tl2
      have MY := hid (MAYR.out s' wC HNW.out)
      rcases hmd : mayS ⟨d, e.kind, L, e.texts⟩ with _ | _
      · rw [hmd] at MY HGO
        obtain rfl : (zeroE, (43 : Int)) = DR := HGO.out
        clear hmd
        go_wp2_with (first
          | (go_at_call 56; (with_reducible refine MY.out.mono ?_); rintro e5 w5 ⟨rfl, hf5⟩; obtain ⟨y0, y1, y2, y3, z6, z7, z8, z9⟩ := Go.Proofs.YtnmfmedoocnofaaDoor.cells4 (HGC.out _ hf5)))
        obtain ⟨hst, hfr⟩ := store4 (HGC.out _ hf5) (.int .u8 0) (.int .u8 0) (.slice none 0 0) (.slice none 0 0)
        refine bodyPost_ret (results_row_tmp rfl _ _ (w.heap.size + 1) 34 _ (0, 0) _ (.int .i64 43) rfl hst rfl Tryd.underlying34 rfl (by kernel_rfl)) rfl ⟨⟨none, 0, none, 0⟩, rfl, EvNew.zero _ _, (HWC.out.trans hf5).newOnly (Nat.le_succ _) hfr⟩
      · rw [hmd] at MY HGO
        obtain rfl : ((⟨d, e.kind, L, e.texts⟩ : Ev), (0 : Int)) = DR := HGO.out
        clear hmd
        go_wp2_with (first
          | (go_at_call 56; (with_reducible refine MY.out.mono ?_); rintro e5 w5 ⟨rfl, hf5⟩; clear k0 k1 k2 k3 f0 f1 f2 f3; obtain ⟨k0, k1, k2, k3, f0, f1, f2, f3⟩ := (HBX.out.fr hf5).cells4; obtain ⟨y0, y1, y2, y3, z6, z7, z8, z9⟩ := Go.Proofs.YtnmfmedoocnofaaDoor.cells4 (HGC.out _ hf5)))
        have hst := BoxAt.fill (w1 := w5) (b := w.heap.size + 1) (B := w.heap.size) (s := s') (e := ⟨d, e.kind, L, e.texts⟩) (HGC.out _ hf5) (Nat.le_succ _) (HNW.out.fr hf5)
        refine bodyPost_ret (results_row_tmp rfl _ _ (w.heap.size + 1) 34 _ (0, 0) _ (.int .i64 0) rfl hst.1.cells rfl Tryd.underlying34 rfl (by kernel_rfl)) rfl ⟨_, rfl, hst.1.new, (HWC.out.trans hf5).newOnly (Nat.le_succ _) hst.2⟩

/-- The document's Down, whatever event it is given. -/
theorem rdown_any (s : EvP) (e : Ev) (w : World) (he : EvAt w s e) : Calls Tryd.prog 85 #[evV s e] w (UpPost w (downR e)) := by
  rcases hm : mayS e with _ | _
  · have : downR e = (zeroE, 4) := by unfold downR; rw [hm]; rfl
    rw [this]
    exact rdown_form s e w he hm
  · rcases hr : rulesIs (e.v - 1) e.kind with _ | _
    · rw [downR_rules hm hr]
      exact rdown_version s e w he hm hr
    · exact rdown_ok s e w he hm hr
end Go.Proofs.YtnmfmedoocnofaaDoor
