/-
  upcast.Down: the refusals, and what the letting down of numbers comes to. No statement of the seat is proved here. upcast.Down: the walk. No statement of the seat is proved here. upcast.To: the walk. No statement of the seat is proved here. upcast.To, Newest: the walk. No statement of the seat is proved here. upcast.To whole; upcast.Newest: the walk. No statement of the seat is proved here.
-/
import Derived.Test.YtnmfmedoocnofaaDoorUpOk
import Derived.Deep.RegionHeld3
import Derived.Test.YtnmfmedoocnofaaDoorBase
import Derived.Deep.LoopGhost
namespace Go.Proofs.YtnmfmedoocnofaaDoor
open Go.RowKit

/-- What Down tells. -/
def downR (e : Ev) : Ev × Int := if mayS e then (if downIs e then (downE e, 0) else (zeroE, 43)) else (zeroE, 4)
theorem downIs_rules {e : Ev} (hr : rulesIs (e.v - 1) e.kind = false) : downIs e = false := by unfold downIs; rw [hr]; simp
theorem downIs_may {e : Ev} (hm : mayS (downE e) = false) : downIs e = false := by unfold downIs; rw [hm]; simp
theorem downIs_same {e : Ev} (h : mayS e = true) (hr : rulesIs (e.v - 1) e.kind = true) (hm : mayS (downE e) = true) : downIs e = sameS (upS (downE e)) e := by
  unfold downIs downIs.sameS'
  rw [h, hr, hm, Bool.true_and, Bool.true_and, Bool.true_and]
  rw [Bool.eq_iff_iff, decide_eq_true_eq]
  unfold sameS
  simp only [Bool.and_eq_true, decide_eq_true_eq]
  constructor
  · intro h; rw [h]; exact ⟨rfl, rfl, rfl, rfl⟩
  · rintro ⟨h1, h2, h3, h4⟩
    rcases hx : upS (downE e) with ⟨a, b, c, d⟩
    rcases e with ⟨a', b', c', d'⟩
    rw [hx] at h1 h2 h3 h4
    simp only at h1 h2 h3 h4
    subst h1 h2 h3 h4
    rfl
/-- A number, let down, is small. -/
theorem tdiv_small {a t : Int} (h0 : -100 ≤ a) (h1 : a ≤ 1125899906842624) : -9223372036854775808 ≤ a.tdiv t ∧ a.tdiv t ≤ 9223372036854775807 := by
  have h2 : (a.tdiv t).natAbs ≤ a.natAbs := by rw [Int.natAbs_tdiv]; exact Nat.div_le_self _ _
  omega
theorem downN_range {rs : List RuleS} {ns : List Int} (hr : ∀ r, r ∈ rs → 0 ≤ r.fr → 0 < r.times ∧ 0 ≤ r.plus ∧ r.plus ≤ 100) (hn : ∀ n, n ∈ ns → 0 ≤ n ∧ n ≤ 1125899906842624) :
    ∀ n, n ∈ downN rs ns → -9223372036854775808 ≤ n ∧ n ≤ 9223372036854775807 := by
  intro n h
  unfold downN at h
  obtain ⟨⟨r, x⟩, h1, h2⟩ := List.mem_filterMap.1 h
  obtain ⟨h3, h4⟩ := List.of_mem_zip h1
  unfold downNum at h2
  split at h2
  · rename_i hf
    obtain rfl := Option.some.inj h2
    have a := hr r h3 hf
    have b := hn x h4
    simp only at a b ⊢
    exact tdiv_small (by omega) (by omega)
  · cases h2
theorem downN_length (rs : List RuleS) (ns : List Int) : (downN rs ns).length ≤ ns.length := by
  unfold downN
  refine Nat.le_trans (List.length_filterMap_le _ _) ?_
  rw [List.length_zip]
  omega
theorem downN_take {rs : List RuleS} {ns : List Int} {m : Nat} {r : RuleS} {x : Int} (h1 : rs[m]? = some r) (h2 : ns[m]? = some x) :
    downN (rs.take (m + 1)) ns = downN (rs.take m) ns ++ (if 0 ≤ r.fr then [(x - r.plus).tdiv r.times] else []) := by
  have key : ∀ (rs : List RuleS) (ns : List Int) (m : Nat), rs[m]? = some r → ns[m]? = some x → downN (rs.take (m + 1)) ns = downN (rs.take m) ns ++ (if 0 ≤ r.fr then [(x - r.plus).tdiv r.times] else []) := by
    intro rs
    induction rs with
    | nil => intro ns m h; simp at h
    | cons a rs ih =>
      intro ns m h1 h2
      rcases ns with _ | ⟨b, ns⟩
      · simp at h2
      · rcases m with _ | m
        · simp only [List.getElem?_cons_zero, Option.some.injEq] at h1 h2
          subst h1 h2
          unfold downN downNum
          by_cases hf : 0 ≤ a.fr <;> simp [hf]
        · have := ih ns m (by simpa using h1) (by simpa using h2)
          unfold downN at this ⊢
          simp only [List.take_succ_cons, List.zip_cons_cons, List.filterMap_cons] at this ⊢
          rw [this]
          split <;> simp
  exact key rs ns m h1 h2

set_option maxHeartbeats 4000000 in
set_option maxRecDepth 100000 in
theorem down_form (s : EvP) (e : Ev) (w : World) (he : EvAt w s e) (hkt : KT w) (hm : mayS e = false) :
    Calls Tryd.prog 50 #[evV s e] w (UpPost w (zeroE, 4)) := by
  have ME := hid (fun w1 (h : Fr No w w1) => may_any s e w1 (he.fr h) (hkt.fr h))
  rw [hm] at ME
  unfold UpPost
  have HF0 : Fr No w ((w.alloc (.cells #[.int .u8 e.v, .int .u8 e.kind, .slice s.qn e.nums.length s.cn, .slice s.qt e.texts.length s.ct] 34)).alloc (.cells #[.int .u8 0, .int .u8 0, .slice none 0 0, .slice none 0 0] 34)) := ((Fr.refl w).alloc _).alloc _
  have g1 := Go.heap_alloc_new (w.alloc (.cells #[.int .u8 e.v, .int .u8 e.kind, .slice s.qn e.nums.length s.cn, .slice s.qt e.texts.length s.ct] 34)) (.cells #[.int .u8 0, .int .u8 0, .slice none 0 0, .slice none 0 0] 34)
  simp only [World.size_alloc] at g1
  have HG := hid g1
  clear g1
  unfold evV at *
  go_enter Tryd.func50, Tryd.ntmps50
  go_wp2_with (first
    | (go_at_call 44; (with_reducible refine (ME.out _ HF0).mono ?_); rintro e1 w1 ⟨rfl, hf1⟩; obtain ⟨k0, k1, k2, k3, z0, z1, z2, z3⟩ := Go.Proofs.YtnmfmedoocnofaaDoor.cells4 (hf1.heap0 HG.out)))
  obtain ⟨hst, hfr⟩ := store4 (hf1.heap0 HG.out) (.int .u8 0) (.int .u8 0) (.slice none 0 0) (.slice none 0 0)
  refine bodyPost_ret (results_row_tmp rfl _ _ (w.heap.size + 1) 34 _ (0, 0) _ (.int .i64 4) rfl hst rfl Tryd.underlying34 rfl (by kernel_rfl)) rfl ⟨⟨none, 0, none, 0⟩, rfl, EvNew.zero _ _, (HF0.trans hf1).newOnly (Nat.le_succ _) hfr⟩
set_option maxHeartbeats 4000000 in
set_option maxRecDepth 100000 in
theorem down_version (s : EvP) (e : Ev) (w : World) (he : EvAt w s e) (hkt : KT w) (hm : mayS e = true) (hr : rulesIs (e.v - 1) e.kind = false) :
    Calls Tryd.prog 50 #[evV s e] w (UpPost w (zeroE, 43)) := by
  have ME := hid (fun w1 (h : Fr No w w1) => may_any s e w1 (he.fr h) (hkt.fr h))
  rw [hm] at ME
  obtain ⟨_, hv1, hv3⟩ := may_is hm
  obtain ⟨d, hd⟩ : ∃ d, e.v = d + 1 := ⟨e.v - 1, by omega⟩
  have hwr : IntKind.u8.wrap ((e.v : Int) - 1) = (d : Int) := by rw [IntWalk.u8_in _ (by omega)]; omega
  have hd1 : e.v - 1 = d := by omega
  rw [hd1] at hr
  have RE := hid (fun w1 (h : Fr No w w1) => rules_any d e.kind w1 (by omega) he.k8 (hkt.fr h))
  unfold RulesPost at RE
  rw [hr] at RE
  unfold UpPost
  have HF0 : Fr No w ((w.alloc (.cells #[.int .u8 e.v, .int .u8 e.kind, .slice s.qn e.nums.length s.cn, .slice s.qt e.texts.length s.ct] 34)).alloc (.cells #[.int .u8 0, .int .u8 0, .slice none 0 0, .slice none 0 0] 34)) := ((Fr.refl w).alloc _).alloc _
  have g1 := Go.heap_alloc_new (w.alloc (.cells #[.int .u8 e.v, .int .u8 e.kind, .slice s.qn e.nums.length s.cn, .slice s.qt e.texts.length s.ct] 34)) (.cells #[.int .u8 0, .int .u8 0, .slice none 0 0, .slice none 0 0] 34)
  simp only [World.size_alloc] at g1
  have HG := hid g1
  clear g1
  have g0 : ((w.alloc (.cells #[.int .u8 e.v, .int .u8 e.kind, .slice s.qn e.nums.length s.cn, .slice s.qt e.texts.length s.ct] 34)).alloc (.cells #[.int .u8 0, .int .u8 0, .slice none 0 0, .slice none 0 0] 34)).heap[w.heap.size]? = some (.cells #[.int .u8 e.v, .int .u8 e.kind, .slice s.qn e.nums.length s.cn, .slice s.qt e.texts.length s.ct] 34 (0, 0)) := by
    rw [Below.heap_alloc _ _ _ (by simp)]; exact Go.heap_alloc_new _ _
  have HG0 := hid g0
  clear g0 hd hd1 hv1 hv3
  unfold evV at *
  go_enter Tryd.func50, Tryd.ntmps50
  go_wp2_with (first
    | (go_at_call 44; (with_reducible refine (ME.out _ HF0).mono ?_); rintro e1 w1 ⟨rfl, hf1⟩; obtain ⟨c0, c1, c2, c3, _, _, _, _⟩ := Go.Proofs.YtnmfmedoocnofaaDoor.cells4 (hf1.heap0 HG0.out))
    | (go_at_call 79; (with_reducible refine (RE.out _ (HF0.trans hf1)).mono ?_); rintro e2 w2 ⟨q2, p2, rfl, _, hf2⟩; replace hf1 := hf1.trans hf2; clear c0 c1 c2 c3; obtain ⟨k0, k1, k2, k3, z0, z1, z2, z3⟩ := Go.Proofs.YtnmfmedoocnofaaDoor.cells4 (hf1.heap0 HG.out)))
  obtain ⟨hst, hfr⟩ := store4 (hf1.heap0 HG.out) (.int .u8 0) (.int .u8 0) (.slice none 0 0) (.slice none 0 0)
  refine bodyPost_ret (results_row_tmp rfl _ _ (w.heap.size + 1) 34 _ (0, 0) _ (.int .i64 43) rfl hst rfl Tryd.underlying34 rfl (by kernel_rfl)) rfl ⟨⟨none, 0, none, 0⟩, rfl, EvNew.zero _ _, (HF0.trans hf1).newOnly (Nat.le_succ _) hfr⟩

/-- Rows of numbers made from block B on may turn. -/
theorem Fr.rtT {W w5 w6 : World} {B : Nat} {t : TypeId} (h : Fr (RsT W B t) W w5) (k : Fr (RsT w5 B t) w5 w6) : Fr (RsT W B t) W w6 :=
  h.trans' k (fun i hi ⟨hy, cur, hc⟩ => by
    by_cases hx : RsT W B t i
    · exact hx
    · exact ⟨hy, cur, by rw [← h.block i hi hx]; exact hc⟩)
theorem RsT.ofLt {W : World} {B k : Nat} {t : TypeId} (hk : k < B) : ¬ RsT W B t k := fun ⟨h, _⟩ => by omega
theorem RsT.ofT {W : World} {B k : Nat} {cs : Array Value} {t te : TypeId} (hk : W.heap[k]? = some (.cells cs te (0, 0))) (ht : te ≠ t) : ¬ RsT W B t k := fun ⟨_, cur, hc⟩ => by
  rw [hk] at hc
  simp at hc
  exact ht hc.2
section
variable {P : Program}
theorem wp_append_rtn {w : World} {o : Oper} {a : Act} {K : Act → World → Prop} {Q : Exit → Act → World → Prop} (s x : Operand) (t tx : TypeId)
    (ho : o.op = .call { callee := .builtin .append, args := #[s, x], argTypes := #[t, tx] }) (B : Nat) (e : TypeId) (i : TypeInfo) (z : Value) (bytes : Nat) (ht : P.underlying t = some (.slice e)) (hi : P.info? e = some i) (hz : i.zero = some z)
    (hsize : i.size = 1) (hby : i.bytes = bytes) (hzs : z.cells.size = 1) (v : Value) (xs : List Value) (hs : a.eval s = v) (hr : Rs B w e v xs) (hB : B ≤ w.heap.size)
    (xv : Value) (m : Nat) (news : List Value) (hxv : a.eval x = xv) (hx : Src P 1 tx xv m news w) (h63 : xs.length + m ≤ maxLen) (hbytes : (xs.length + m) * bytes ≤ 140737488355328)
    (h : ∀ q cap w', Rs B w' e (.slice q (xs ++ news).length cap) (xs ++ news) → Fr (RsT w B e) w w' → K (a.put o.dst (.slice q (xs ++ news).length cap)) w') : o.wp P a w K Q := by
  obtain ⟨v', w', hrun, h2, h3⟩ := run_append_rt (P := P) t tx o.type e i z bytes ht hi hz hsize hby hzs hr hB hx h63 hbytes
  unfold Oper.wp execOp
  simp only [ho, resolve, invoke, builtin, Sem.run_bind, Sem.run_pure, Result.andThen_ok, List.map_toArray, List.map_cons, List.map_nil, hs, hxv, hrun]
  obtain ⟨q, cap, rfl⟩ := h2.shape
  exact h q cap w' h2 h3
end
theorem five_held {W w' : World} {X : Nat → Prop} {k0 k1 k3 o3 k4 : Nat} {v0 v1 v2 v3 v4 v5 : Value} (h0 : W.cell? ⟨k0, 2, none⟩ = some v0) (h1 : W.cell? ⟨k1, 0, none⟩ = some v1) (h2 : W.cell? ⟨k1, 1, none⟩ = some v2) (h3 : W.cell? ⟨k1, 2, none⟩ = some v3) (h4 : W.cell? ⟨k3, o3, none⟩ = some v4) (h5 : W.cell? ⟨k4, 2, none⟩ = some v5)
    (n0 : ¬ X k0) (n1 : ¬ X k1) (n3 : ¬ X k3) (n4 : ¬ X k4) (hF : Fr X W w') :
    Fr X W w' ∧ w'.cell? ⟨k0, 2, none⟩ = some v0 ∧ w'.cell? ⟨k1, 0, none⟩ = some v1 ∧ w'.cell? ⟨k1, 1, none⟩ = some v2 ∧ w'.cell? ⟨k1, 2, none⟩ = some v3 ∧ w'.cell? ⟨k3, o3, none⟩ = some v4 ∧ w'.cell? ⟨k4, 2, none⟩ = some v5 :=
  ⟨hF, hF.cell h0 n0, hF.cell h1 n1, hF.cell h2 n1, hF.cell h3 n1, hF.cell h4 n3, hF.cell h5 n4⟩

set_option maxHeartbeats 8000000 in
set_option maxRecDepth 100000 in
theorem down_ok (s : EvP) (e : Ev) (w : World) (he : EvAt w s e) (hkt : KT w) (hm : mayS e = true) (hr : rulesIs (e.v - 1) e.kind = true) :
    Calls Tryd.prog 50 #[evV s e] w (UpPost w (if mayS (downE e) && sameS (upS (downE e)) e then (downE e, 0) else (zeroE, 43))) := by
  have ME := hid (fun w1 (h : Fr No w w1) => may_any s e w1 (he.fr h) (hkt.fr h))
  rw [hm] at ME
  obtain ⟨_, hv1, hv3⟩ := may_is hm
  obtain ⟨d, hd⟩ : ∃ d, e.v = d + 1 := ⟨e.v - 1, by omega⟩
  have hwr : IntKind.u8.wrap ((e.v : Int) - 1) = (d : Int) := by rw [IntWalk.u8_in _ (by omega)]; omega
  have hd1 : e.v - 1 = d := by omega
  have hde : downE e = ⟨d, e.kind, downN (rulesL d e.kind) e.nums, e.texts⟩ := by unfold downE; rw [hd1]
  rw [hd1] at hr
  rw [hde]
  have RE := hid (fun w1 (h : Fr No w w1) => rules_any d e.kind w1 (by omega) he.k8 (hkt.fr h))
  unfold RulesPost rulesR at RE
  rw [hr, if_pos rfl] at RE
  obtain ⟨hl7, hn7, ht1, hnr, htr⟩ := may_small hm
  have CT := hid (fun w1 (h : Fr No w w1) => cloneT s.qt e.texts s.ct w1 (he.texts.fr h) (by omega))
  have hrs := fun r (h : r ∈ rulesL d e.kind) => rules_small hr h
  have hrt := fun r (h : r ∈ rulesL d e.kind) hf => rules_times hr h hf
  have hrl : (rulesL d e.kind).length = e.nums.length := by rw [(rules_fact hr).2.2.2.1, hl7, hd]
  have hrng := downN_range (rs := rulesL d e.kind) (ns := e.nums) (fun r h hf => ⟨hrt r h hf, (hrs r h).2.2.2.2⟩) hnr
  have hdl := downN_length (rulesL d e.kind) e.nums
  have UPR := hid (fun (s' : EvP) w1 (hn : EvNew w.heap.size w1 s' ⟨d, e.kind, downN (rulesL d e.kind) e.nums, e.texts⟩) (h : Fr No w w1) => up_any s' ⟨d, e.kind, downN (rulesL d e.kind) e.nums, e.texts⟩ w1
    ⟨by show d ≤ 255; omega, he.k8, hn.nums.at_, hn.texts.at_, by show (downN _ _).length ≤ _; omega, he.tl, he.tx, hrng⟩ (hkt.fr h))
  have SAM := hid (fun (s' : EvP) w1 (hD : mayS ⟨d, e.kind, downN (rulesL d e.kind) e.nums, e.texts⟩ = true) (hn : EvNew w.heap.size w1 s' (upS ⟨d, e.kind, downN (rulesL d e.kind) e.nums, e.texts⟩)) (h : Fr No w w1) =>
    same_any s' s (upS ⟨d, e.kind, downN (rulesL d e.kind) e.nums, e.texts⟩) e w1 (hn.may (may_up hD hr) he.k8) (he.fr h))
  have HUR : Hid (upR ⟨d, e.kind, downN (rulesL d e.kind) e.nums, e.texts⟩ = if mayS ⟨d, e.kind, downN (rulesL d e.kind) e.nums, e.texts⟩ then (upS ⟨d, e.kind, downN (rulesL d e.kind) e.nums, e.texts⟩, 0) else (zeroE, 4)) := by
    refine hid ?_
    unfold upR
    rw [show rulesIs (Ev.mk d e.kind (downN (rulesL d e.kind) e.nums) e.texts).v (Ev.mk d e.kind (downN (rulesL d e.kind) e.nums) e.texts).kind = true from hr]
    simp
  have HRS := hid hrs
  have HRT := hid hrt
  have HDT := hid (fun m r x h1 h2 => @downN_take (rulesL d e.kind) e.nums m r x h1 h2)
  generalize rulesL d e.kind = rs at RE HRS HRT HDT UPR SAM HUR hrl hdl ⊢
  have HRL := hid hrl
  unfold UpPost
  generalize hres : (if (mayS ⟨d, e.kind, downN rs e.nums, e.texts⟩ && sameS (upS ⟨d, e.kind, downN rs e.nums, e.texts⟩) e) = true then ((⟨d, e.kind, downN rs e.nums, e.texts⟩ : Ev), (0 : Int)) else (zeroE, 43)) = R
  have HRES := hid hres
  clear hres
  have HF0 : Fr No w ((w.alloc (.cells #[.int .u8 e.v, .int .u8 e.kind, .slice s.qn e.nums.length s.cn, .slice s.qt e.texts.length s.ct] 34)).alloc (.cells #[.int .u8 0, .int .u8 0, .slice none 0 0, .slice none 0 0] 34)) := ((Fr.refl w).alloc _).alloc _
  have g1 := Go.heap_alloc_new (w.alloc (.cells #[.int .u8 e.v, .int .u8 e.kind, .slice s.qn e.nums.length s.cn, .slice s.qt e.texts.length s.ct] 34)) (.cells #[.int .u8 0, .int .u8 0, .slice none 0 0, .slice none 0 0] 34)
  simp only [World.size_alloc] at g1
  have HG := hid g1
  clear g1
  have g0 : ((w.alloc (.cells #[.int .u8 e.v, .int .u8 e.kind, .slice s.qn e.nums.length s.cn, .slice s.qt e.texts.length s.ct] 34)).alloc (.cells #[.int .u8 0, .int .u8 0, .slice none 0 0, .slice none 0 0] 34)).heap[w.heap.size]? = some (.cells #[.int .u8 e.v, .int .u8 e.kind, .slice s.qn e.nums.length s.cn, .slice s.qt e.texts.length s.ct] 34 (0, 0)) := by
    rw [Below.heap_alloc _ _ _ (by simp)]; exact Go.heap_alloc_new _ _
  have HG0 := hid g0
  have HNR := hid hnr
  have HE := hid he
  have HM := hid hm
  clear g0 hm hl7 hnr htr he hkt hd hd1 hv1 hv3 hde hr hrs hrt hrl hrng
  unfold evV at *
  go_enter Tryd.func50, Tryd.ntmps50
  go_upto_region 6 with (first
    | (go_at_call 44; (with_reducible refine (ME.out _ HF0).mono ?_); rintro e1 w1 ⟨rfl, hf1⟩; obtain ⟨c0, c1, c2, c3, _, _, _, _⟩ := Go.Proofs.YtnmfmedoocnofaaDoor.cells4 (hf1.heap0 HG0.out))
    | (go_at_call 79; (with_reducible refine (RE.out _ (HF0.trans hf1)).mono ?_); rintro e2 w2 ⟨q2, p2, rfl, hR2, hf2⟩; replace hf1 := hf1.trans hf2; clear c0 c1 c2 c3; obtain ⟨c0, c1, c2, c3, _, _, _, _⟩ := Go.Proofs.YtnmfmedoocnofaaDoor.cells4 (hf1.heap0 HG0.out)))
  have HW : Fr No w w2 := HF0.trans hf1
  have hRR := hR2
  go_cut [6] from 27 (fun x w' => Fr No w2 w' ∧ ∃ b s', x = .pointer (some ⟨b, 0, none⟩) ∧ BoxAt w2.heap.size w' b s' ⟨d, e.kind, [], e.texts⟩)
  case first =>
    go_region_held3 (fun w' => Fr No w2 w' ∧ w'.cell? ⟨w.heap.size, 0, none⟩ = some (.int .u8 e.v) ∧ w'.cell? ⟨w.heap.size, 1, none⟩ = some (.int .u8 e.kind) ∧ w'.cell? ⟨w.heap.size, 2, none⟩ = some (.slice s.qn e.nums.length s.cn) ∧ w'.cell? ⟨w.heap.size, 3, none⟩ = some (.slice s.qt e.texts.length s.ct))
      ((go_split_ands; refine two_keep c0 c1 c2 c3 ?_; repeat (first | exact Fr.refl _ | assumption | refine Fr.drew ?_ | refine Fr.alloc ?_ _ | refine Fr.setNew ?_ (by first | exact Nat.le_refl _ | exact hF3.size) _)))
      (first | (go_at_call 48; (with_reducible refine (CT.out _ (HW.trans (by repeat (first | exact Fr.refl _ | assumption | refine Fr.drew ?_ | refine Fr.alloc ?_ _)))).mono ?_); rintro e3 w3 ⟨q3, p3, rfl, hr3, hf3⟩; have hF3 : Fr No w2 w3 := Fr.trans (by repeat (first | exact Fr.refl _ | assumption | refine Fr.drew ?_ | refine Fr.alloc ?_ _)) hf3; (first | (have hg3 := box_cells hf3; obtain ⟨k0, k1, k2, k3, f0, f1, f2, f3⟩ := hg3) | skip)))
    · have hB := BoxAt.made (w := w2) (s := ⟨none, 0, q3, p3⟩) (e := ⟨d, e.kind, [], e.texts⟩) hF3 ⟨Rs.nil _ _ _ _, hr3.mono (Nat.le_refl _)⟩
      have HB := hid hB
      clear hB hr3
      go_wp2_with fail
      go_meet
      case rel => exact ⟨HB.out.2, _, _, rfl, HB.out.1⟩
    · have hB := BoxAt.fill (w1 := w3) (b := w2.heap.size) (B := w2.heap.size) (s := ⟨none, 0, q3, p3⟩) (e := ⟨d, e.kind, [], e.texts⟩) (hf3.heap0 (Go.heap_alloc_new w2.drew _)) (Nat.le_refl _) ⟨Rs.nil _ _ _ _, hr3.mono (by simp)⟩
      have HB := hid hB
      clear hB hr3
      go_wp2_with fail
      go_meet
      case rel => exact ⟨hF3.newOnly (Nat.le_refl _) HB.out.2, _, _, rfl, HB.out.1⟩
  obtain ⟨h23, b, s', rfl, hB⟩ := hcut
  rename World => w4
  have HW4 : Fr No w w4 := HW.trans h23
  have C4 := hid (fun w5 (h : Fr No w2 w5) => (⟨h.cell0 c0, h.cell0 c1, h.cell0 c2, h.cell0 c3⟩ : _ ∧ _ ∧ _ ∧ _))
  have NU := hid (fun w5 (h : Fr No w2 w5) m x (hx : e.nums[m]? = some x) => (by
    obtain ⟨bn, on, h1, h2⟩ := HE.out.nums m (numV x) (by simp [hx])
    exact ⟨bn, on, h1, World.block_lt_of_cell? w _ h2, (HW.trans h).cell0 h2⟩ : ∃ bn on, s.qn = some ⟨bn, on, none⟩ ∧ bn < w.heap.size ∧ w5.cell? ⟨bn, on + m, none⟩ = some (numV x)))
  have RR := hid (fun w5 (h : Fr No w2 w5) i r (hr : rs[i]? = some r) => (hRR.fr h).at_ hr)
  have wlt : w.heap.size < w2.heap.size := by have := World.block_lt_of_cell? w2 _ c0; exact this
  clear c0 c1 c2 c3 hRR hR2
  go_wp2_with fail
  go_loopw [38] (fun i wr => ∃ (m : Nat) (s2 : EvP), m ≤ rs.length ∧ i = .int .i64 m ∧ BoxAt w2.heap.size wr b s2 ⟨d, e.kind, downN (rs.take m) e.nums, e.texts⟩ ∧ Fr No w2 wr) (fun i _ => rs.length - (intOf i).toNat)
  case atStart => exact ⟨0, _, Nat.zero_le _, rfl, by simpa [downN] using hB, h23⟩
  case round =>
    obtain ⟨m, s2, hm, rfl, hbx, hf⟩ := hrel
    by_cases hlt : m < rs.length
    · obtain ⟨r, hr⟩ : ∃ r, rs[m]? = some r := ⟨_, List.getElem?_eq_getElem hlt⟩
      obtain ⟨br, hq, r0, r1, r2⟩ := RR.out _ hf m r hr
      subst hq
      obtain ⟨b1, b2, b3, b4, b5, b6⟩ := HRS.out r (List.mem_of_getElem? hr)
      have hbt := HRT.out r (List.mem_of_getElem? hr)
      have hml : m < e.nums.length := by have := HRL.out; omega
      obtain ⟨x, hx⟩ : ∃ x, e.nums[m]? = some x := ⟨_, List.getElem?_eq_getElem hml⟩
      have hT := HDT.out m r x hr hx
      have hLl : (downN (rs.take m) e.nums).length ≤ e.nums.length := downN_length _ _
      generalize downN (rs.take m) e.nums = L at hT hbx hLl
      have HT := hid hT
      clear hT hr
      have i1 : (m : Int) < (rs.length : Int) := by omega
      have i2 : (0 : Int) ≤ (m : Int) := by omega
      have i4 : (m : Int) + 1 ≤ 100 := by have := HRL.out; omega
      have HBX := hid hbx
      have blt := hbx.lt
      have blo := hbx.lo
      clear hbx
      by_cases hfr : 0 ≤ r.fr
      · rw [if_pos hfr] at HT
        have hfd : decide ((0 : Int) ≤ r.fr) = true := by simpa using hfr
        have hx0 := HNR.out x (List.mem_of_getElem? hx)
        have hti := (hbt hfr)
        obtain ⟨bn, on, hqn, nbn, kn⟩ := NU.out wr hf m x hx
        obtain ⟨d0, d1, d2, d3⟩ := C4.out _ hf
        rw [hqn] at d2
        unfold numV at kn
        have w1q : IntKind.i64.wrap (x - r.plus) = x - r.plus := IntWalk.i64_in _ (by omega)
        have w2q : IntKind.i64.wrap ((x - r.plus).tdiv r.times) = (x - r.plus).tdiv r.times := IntWalk.i64_in _ (tdiv_small (by omega) (by omega))
        have hz : (r.times == 0) = false := by rw [beq_eq_false_iff_ne]; omega
        have hz' : r.times ≠ 0 := by omega
        have j1 : (m : Int) < (e.nums.length : Int) := by omega
        obtain ⟨i0, hi, hz0, hz1, hz2⟩ := info_parts infoI64
        have hll : L.length ≤ 7 := by omega
        clear hx hqn b1 b2 b3 b4 b5 b6 hbt hx0 hfr hti
        go_upto_region 11 with fail
        generalize hN : (x - r.plus).tdiv r.times = N at HT w2q
        generalize hW : wr.alloc (.cells #[.int .i64 r.fr, .int .i64 r.times, .int .i64 r.plus] 110) = W11
        have hF11 : Fr No wr W11 := by subst hW; exact (Fr.refl wr).alloc _
        have gr : W11.heap[wr.heap.size]? = some (.cells #[.int .i64 r.fr, .int .i64 r.times, .int .i64 r.plus] 110 (0, 0)) := by subst hW; exact Go.heap_alloc_new _ _
        have e0 : W11.cell? ⟨wr.heap.size, 0, none⟩ = some (.int .i64 r.fr) := cell_of_row W11 _ 0 _ _ (0, 0) gr
        have e1 : W11.cell? ⟨wr.heap.size, 1, none⟩ = some (.int .i64 r.times) := cell_of_row W11 _ 1 _ _ (0, 0) gr
        have e2 : W11.cell? ⟨wr.heap.size, 2, none⟩ = some (.int .i64 r.plus) := cell_of_row W11 _ 2 _ _ (0, 0) gr
        have ee : W11.cell? ⟨w.heap.size, 2, none⟩ = some (.slice (some ⟨bn, on, none⟩) e.nums.length s.cn) := hF11.cell0 d2
        have en : W11.cell? ⟨bn, on + m, none⟩ = some (.int .i64 x) := hF11.cell0 kn
        have hbx := HBX.out.fr hF11
        obtain ⟨k0, k1, k2, k3, f0, f1, f2, f3⟩ := hbx.cells4
        have blt2 := hbx.lt
        have n0 : ¬ RsT W11 w2.heap.size 2 w.heap.size := RsT.ofLt wlt
        have n1 : ¬ RsT W11 w2.heap.size 2 wr.heap.size := RsT.ofT gr (by decide)
        have nbn2 : bn < w2.heap.size := by omega
        have n3 : ¬ RsT W11 w2.heap.size 2 bn := RsT.ofLt nbn2
        have HBX2 := hid hbx
        have hle : w2.heap.size ≤ W11.heap.size := Nat.le_trans hf.size hF11.size
        have HFW : Fr No w2 W11 := hf.trans hF11
        clear hW r0 r1 r2 d0 d1 d2 d3 kn hbx
        have n4 : ¬ RsT W11 w2.heap.size 2 b := RsT.ofT HBX2.out.cells (by decide)
        have SK := hid (fun w' (h : Fr (RsT W11 w2.heap.size 2) W11 w') => five_held ee e0 e1 e2 en k2 n0 n1 n3 n4 h)
        have hS0 := SK.out W11.drew (Fr.refl _).drew
        refine wp_region_but (fun w' => Fr (RsT W11 w2.heap.size 2) W11 w' ∧ w'.cell? ⟨w.heap.size, 2, none⟩ = some (.slice (some ⟨bn, on, none⟩) e.nums.length s.cn) ∧ w'.cell? ⟨wr.heap.size, 0, none⟩ = some (.int .i64 r.fr) ∧ w'.cell? ⟨wr.heap.size, 1, none⟩ = some (.int .i64 r.times) ∧ w'.cell? ⟨wr.heap.size, 2, none⟩ = some (.int .i64 r.plus) ∧ w'.cell? ⟨bn, on + m, none⟩ = some (.int .i64 x) ∧ w'.cell? ⟨b, 2, none⟩ = some (.slice s2.qn L.length s2.cn)) 16 (by kernel_rfl) ?_
        refine wpAnyL_take (i := 0) (v := ?_) rfl (by kernel_rfl) (by kernel_rfl) (by kernel_rfl) (by kernel_rfl) (fun _ _ _ h => h) hS0 (Or.inl ⟨by rfl, ?_⟩) ?_
        rotate_left
        · intro w hSw; obtain ⟨_, _, _, _, _, _, _⟩ := hSw; go_simp; first | done | (with_reducible rfl)
        go_simp
        refine wpAnyL_take (i := 1) (v := ?_) rfl (by kernel_rfl) (by kernel_rfl) (by kernel_rfl) (by kernel_rfl) (fun _ _ _ h => h) hS0 (Or.inl ⟨by rfl, ?_⟩) ?_
        rotate_left
        · intro w hSw; obtain ⟨_, _, _, _, _, _, _⟩ := hSw; go_simp; first | done | (with_reducible rfl)
        go_simp
        refine wpAnyL_take (i := 2) (v := ?_) rfl (by kernel_rfl) (by kernel_rfl) (by kernel_rfl) (by kernel_rfl) (fun _ _ _ h => h) hS0 (Or.inl ⟨by rfl, ?_⟩) ?_
        rotate_left
        · intro w hSw; obtain ⟨_, _, _, _, _, _, _⟩ := hSw; go_simp; first | done | (with_reducible rfl)
        go_simp
        refine wpAnyL_take (i := 3) (v := ?_) rfl (by kernel_rfl) (by kernel_rfl) (by kernel_rfl) (by kernel_rfl) (fun _ _ _ h => h) hS0 (Or.inl ⟨by rfl, ?_⟩) ?_
        rotate_left
        · intro w hSw; obtain ⟨_, _, _, _, _, _, _⟩ := hSw; go_simp; first | done | (with_reducible rfl)
        go_simp
        refine wpAnyL_take (i := 4) (v := ?_) rfl (by kernel_rfl) (by kernel_rfl) (by kernel_rfl) (by kernel_rfl) (fun _ _ _ h => h) hS0 (Or.inl ⟨by rfl, ?_⟩) ?_
        rotate_left
        · intro w hSw; obtain ⟨_, _, _, _, _, _, _⟩ := hSw; go_simp; first | done | (with_reducible rfl)
        go_simp
        refine wpAnyL_take (i := 5) (v := ?_) rfl (by kernel_rfl) (by kernel_rfl) (by kernel_rfl) (by kernel_rfl) (fun _ _ _ h => h) hS0 (Or.inl ⟨by rfl, ?_⟩) ?_
        rotate_left
        · intro w hSw; obtain ⟨_, _, _, _, _, _, _⟩ := hSw; go_simp; first | done | (with_reducible rfl)
        go_simp
        refine wpAnyL_take (i := 6) (v := ?_) rfl (by kernel_rfl) (by kernel_rfl) (by kernel_rfl) (by kernel_rfl) (fun _ _ _ h => h) hS0 (Or.inl ⟨by rfl, ?_⟩) ?_
        rotate_left
        · intro w hSw; obtain ⟨_, _, _, _, _, _, _⟩ := hSw; go_simp; first | done | (with_reducible rfl)
        go_simp
        refine wpAnyL_take (i := 7) (v := ?_) rfl (by kernel_rfl) (by kernel_rfl) (by kernel_rfl) (by kernel_rfl) (fun _ _ _ h => h) hS0 (Or.inl ⟨by rfl, ?_⟩) ?_
        rotate_left
        · intro w hSw; obtain ⟨_, _, _, _, _, _, _⟩ := hSw; go_simp; first | done | (with_reducible rfl)
        go_simp
        refine wpAnyL_take (i := 8) (v := ?_) rfl (by kernel_rfl) (by kernel_rfl) (by kernel_rfl) (by kernel_rfl) (fun _ _ _ h => h) hS0 (Or.inl ⟨by rfl, ?_⟩) ?_
        rotate_left
        · intro w hSw; obtain ⟨_, _, _, _, _, _, _⟩ := hSw; go_simp; first | done | (with_reducible rfl)
        go_simp
        refine wpAnyL_take (i := 9) (v := ?_) rfl (by kernel_rfl) (by kernel_rfl) (by kernel_rfl) (by kernel_rfl) (fun _ _ _ h => h) hS0 (Or.inl ⟨by rfl, ?_⟩) ?_
        rotate_left
        · intro w hSw; obtain ⟨_, _, _, _, _, _, _⟩ := hSw; go_simp; first | done | (with_reducible rfl)
        go_simp
        refine wpAnyL_take (i := 10) (v := ?_) rfl (by kernel_rfl) (by kernel_rfl) (by kernel_rfl) (by kernel_rfl) (fun _ _ _ h => h) hS0 (Or.inl ⟨by rfl, ?_⟩) ?_
        rotate_left
        · intro w hSw; obtain ⟨_, _, _, _, _, _, _⟩ := hSw; go_simp; first | done | (with_reducible rfl)
        go_simp
        refine wpAnyL_take (i := 11) (v := ?_) rfl (by kernel_rfl) (by kernel_rfl) (by kernel_rfl) (by kernel_rfl) (fun _ _ _ h => h) hS0 (Or.inl ⟨by rfl, ?_⟩) ?_
        rotate_left
        · intro w hSw; obtain ⟨_, _, _, _, _, _, _⟩ := hSw; go_simp; first | done | (with_reducible rfl)
        go_simp
        refine wpAnyL_take (i := 12) (v := ?_) rfl (by kernel_rfl) (by kernel_rfl) (by kernel_rfl) (by kernel_rfl) (fun _ _ _ h => h) hS0 (Or.inl ⟨by rfl, ?_⟩) ?_
        rotate_left
        · intro w hSw; obtain ⟨_, _, _, _, _, _, _⟩ := hSw; go_simp; first | done | (with_reducible rfl)
        go_simp
        refine wpAnyL_one 13 (by kernel_rfl) rfl rfl (fun K hK => ?_)
        go_simp
        refine hK _ _ (fun _ => SK.out _ (((Fr.refl _).drew).alloc _)) ?_
        clear hK K
        refine wpAnyL_one 14 (by kernel_rfl) rfl rfl (fun K hK => ?_)
        refine wp_append_rtn _ _ _ _ rfl w2.heap.size 2 i0 (.int .i64 0) 8 Tryd.underlying31 hi hz0 hz1 hz2 rfl _ (L.map numV) rfl (HBX2.out.new.nums.fr0 (((Fr.refl _).drew).alloc _)) (by simp; omega) _ 1 [numV N] rfl (Src.ofSlice _ Tryd.underlying31 ⟨W11.heap.size, 0, none⟩ 1 1 [numV N] rfl (cells_new W11.drew [numV N] 2) (by intro u hu; simp at hu; subst hu; rfl)) (by simp only [List.length_map]; unfold maxLen; omega) (by simp only [List.length_map]; omega) ?_
        intro q' cp' wA hr' hfT
        have hXS : Fr (RsT W11 w2.heap.size 2) W11 wA := Fr.rtT (((Fr.refl _).drew).alloc _) hfT
        obtain ⟨y0, y1, y2, y3, g0, g1, g2, g3⟩ := Go.Proofs.YtnmfmedoocnofaaDoor.cells4 (hfT.heapT (by decide) (HBX2.out.fr (w' := W11.drew.alloc (.cells #[.int .i64 N] 2)) (((Fr.refl _).drew).alloc _)).cells)
        refine hK _ _ (fun _ => SK.out _ hXS) ?_
        clear hK K
        go_simp
        refine wpAnyL_take (i := 15) (v := ?_) rfl (by kernel_rfl) (by kernel_rfl) (by kernel_rfl) (by kernel_rfl) (fun _ _ _ h => h) (SK.out _ hXS) (Or.inl ⟨by rfl, ?_⟩) ?_
        rotate_left
        · intro w hSw; obtain ⟨_, _, _, _, _, _, _⟩ := hSw; go_simp; first | done | (with_reducible rfl)
        go_simp
        refine wpAnyL_one 16 (by kernel_rfl) rfl rfl (fun K hK => ?_)
        go_simp
        refine hK _ _ (fun h => absurd rfl h) ?_
        clear hK K
        refine wpAnyL_done (by kernel_rfl) ?_ _
        · have e9 : L.map numV ++ [numV N] = (L ++ [N]).map numV := by simp
          rw [e9] at hr'
          have hA := HBX2.out.fr (w' := W11.drew.alloc (.cells #[.int .i64 N] 2)) (by repeat (first | exact Fr.refl _ | refine Fr.drew ?_ | refine Fr.alloc ?_ _))
          have hS := hA.setN hfT (by simp) hr'
          have HS := hid hS
          have hFE := hid (HFW.newT (Nat.le_refl _) hXS)
          simp only [List.length_map, List.length_append, List.length_cons, List.length_nil, Nat.zero_add] at HS ⊢
          clear e9 hr' hfT hA hS k0 k1 k2 k3 f0 f1 f2 f3 y0 y1 y2 y3 g0 g1 g2 g3 hXS e0 e1 e2 ee en
          go_wp2_with fail
          go_roundw
          case rel => exact ⟨m + 1, _, by omega, by go_num, by rw [HT.out]; exact HS.out, hFE.out.newOnly blo ((Fr.refl _).set_only _ _)⟩
          case measure => simp [intOf]; omega
      · have hfd : decide ((0 : Int) ≤ r.fr) = false := by simpa using hfr
        rw [if_neg hfr, List.append_nil] at HT
        clear hfr
        go_wp2_with fail
        go_roundw
        case rel => exact ⟨m + 1, s2, by omega, by go_num, by rw [HT.out]; exact HBX.out.fr ((Fr.refl _).alloc _), hf.alloc _⟩
        case measure => simp [intOf]; omega
    · have hd : decide (m < rs.length) = false := by simp; omega
      obtain rfl : m = rs.length := by omega
      rw [List.take_length] at hbx
      obtain ⟨k0, k1, k2, k3, f0, f1, f2, f3⟩ := hbx.cells4
      have HBX := hid hbx
      have HWR := hid (HW.trans hf)
      have HNW := hid (hbx.new.mono HW.size)
      have HGB := hid (fun w6 (h : Fr No wr w6) => Fr.heap0 (hf.trans h) (hf1.heap0 HG.out))
      clear hlt hbx hd
      rcases hD : mayS ⟨d, e.kind, downN rs e.nums, e.texts⟩ with _ | _
      · rw [hD] at HUR
        simp only [Bool.false_eq_true, if_false] at HUR
        rw [HUR.out] at UPR
        unfold UpPost evV zeroE at UPR
        obtain rfl : (zeroE, 43) = R := by rw [← HRES.out, hD]; rfl
        go_wp2_with (first
          | (go_at_call 49; (with_reducible refine (UPR.out s2 _ HNW.out HWR.out).mono ?_); rintro e5 w5 ⟨s5, rfl, hn5, hf5⟩; obtain ⟨y0, y1, y2, y3, g0, g1, g2, g3⟩ := Go.Proofs.YtnmfmedoocnofaaDoor.cells4 (HGB.out _ hf5); have z5 : w.heap.size + 1 < w5.heap.size := World.block_lt_of_cell? w5 _ y0))
        obtain ⟨hst, hfr⟩ := store4 (HGB.out _ hf5) (.int .u8 0) (.int .u8 0) (.slice none 0 0) (.slice none 0 0)
        refine bodyPost_ret (results_row_tmp rfl _ _ (w.heap.size + 1) 34 _ (0, 0) _ (.int .i64 43) rfl (((Fr.refl _).alloc _).heap0 hst) rfl Tryd.underlying34 rfl (by kernel_rfl)) rfl ⟨⟨none, 0, none, 0⟩, rfl, EvNew.zero _ _, ((HWR.out.trans hf5).newOnly (Nat.le_succ _) hfr).alloc _⟩
      · rw [hD] at HUR
        simp only [if_true] at HUR
        rw [HUR.out] at UPR
        unfold UpPost evV at UPR
        have SA := hid (fun s' w1 => SAM.out s' w1 hD)
        rw [hD, Bool.true_and] at HRES
        generalize upS ⟨d, e.kind, downN rs e.nums, e.texts⟩ = U at UPR SA HRES
        rcases hS : sameS U e with _ | _
        all_goals rw [hS] at SA HRES
        · obtain rfl : (zeroE, 43) = R := HRES.out
          go_wp2_with (first
            | (go_at_call 49; (with_reducible refine (UPR.out s2 _ HNW.out HWR.out).mono ?_); rintro e5 w5 ⟨s5, rfl, hn5, hf5⟩; obtain ⟨c0, c1, c2, c3⟩ := C4.out _ (hf.trans hf5); have z4 : w.heap.size < w5.heap.size := World.block_lt_of_cell? w5 _ c0)
            | (go_at_call 52; (with_reducible refine (SA.out s5 _ ((hn5.mono HWR.out.size).fr ((Fr.refl w5).alloc _)) ((HWR.out.trans hf5).alloc _)).mono ?_); rintro e6 w6 ⟨rfl, hf6⟩; clear c0 c1 c2 c3 k0 k1 k2 k3 f0 f1 f2 f3; replace hf6 := (hf5.alloc (.cells #[.int .u8 U.v, .int .u8 U.kind, .slice s5.qn U.nums.length s5.cn, .slice s5.qt U.texts.length s5.ct] 34)).trans hf6; obtain ⟨y0, y1, y2, y3, g0, g1, g2, g3⟩ := Go.Proofs.YtnmfmedoocnofaaDoor.cells4 (HGB.out _ hf6); obtain ⟨k0, k1, k2, k3, f0, f1, f2, f3⟩ := (HBX.out.fr hf6).cells4))
          obtain ⟨hst, hfr⟩ := store4 (HGB.out _ hf6) (.int .u8 0) (.int .u8 0) (.slice none 0 0) (.slice none 0 0)
          refine bodyPost_ret (results_row_tmp rfl _ _ (w.heap.size + 1) 34 _ (0, 0) _ (.int .i64 43) rfl hst rfl Tryd.underlying34 rfl (by kernel_rfl)) rfl ⟨⟨none, 0, none, 0⟩, rfl, EvNew.zero _ _, (HWR.out.trans hf6).newOnly (Nat.le_succ _) hfr⟩
        · obtain rfl : ((⟨d, e.kind, downN rs e.nums, e.texts⟩ : Ev), (0 : Int)) = R := HRES.out
          go_wp2_with (first
            | (go_at_call 49; (with_reducible refine (UPR.out s2 _ HNW.out HWR.out).mono ?_); rintro e5 w5 ⟨s5, rfl, hn5, hf5⟩; obtain ⟨c0, c1, c2, c3⟩ := C4.out _ (hf.trans hf5); have z4 : w.heap.size < w5.heap.size := World.block_lt_of_cell? w5 _ c0)
            | (go_at_call 52; (with_reducible refine (SA.out s5 _ ((hn5.mono HWR.out.size).fr ((Fr.refl w5).alloc _)) ((HWR.out.trans hf5).alloc _)).mono ?_); rintro e6 w6 ⟨rfl, hf6⟩; clear c0 c1 c2 c3 k0 k1 k2 k3 f0 f1 f2 f3; replace hf6 := (hf5.alloc (.cells #[.int .u8 U.v, .int .u8 U.kind, .slice s5.qn U.nums.length s5.cn, .slice s5.qt U.texts.length s5.ct] 34)).trans hf6; obtain ⟨y0, y1, y2, y3, g0, g1, g2, g3⟩ := Go.Proofs.YtnmfmedoocnofaaDoor.cells4 (HGB.out _ hf6); obtain ⟨k0, k1, k2, k3, f0, f1, f2, f3⟩ := (HBX.out.fr hf6).cells4))
          have hst := BoxAt.fill (w1 := w6) (b := w.heap.size + 1) (B := w.heap.size) (s := s2) (e := ⟨d, e.kind, downN rs e.nums, e.texts⟩) (HGB.out _ hf6) (Nat.le_succ _) (HNW.out.fr hf6)
          refine bodyPost_ret (results_row_tmp rfl _ _ (w.heap.size + 1) 34 _ (0, 0) _ (.int .i64 0) rfl hst.1.cells rfl Tryd.underlying34 rfl (by kernel_rfl)) rfl ⟨s2, rfl, hst.1.new, (HWR.out.trans hf6).newOnly (Nat.le_succ _) hst.2⟩
/-- Down, whatever event it is given. -/
theorem down_any (s : EvP) (e : Ev) (w : World) (he : EvAt w s e) (hkt : KT w) : Calls Tryd.prog 50 #[evV s e] w (UpPost w (downR e)) := by
  unfold downR
  rcases hm : mayS e with _ | _
  · rw [if_neg (by simp)]
    exact down_form s e w he hkt hm
  · rw [if_pos rfl]
    rcases hr : rulesIs (e.v - 1) e.kind with _ | _
    · rw [downIs_rules hr, if_neg (by simp)]
      exact down_version s e w he hkt hm hr
    · rcases hD : mayS (downE e) with _ | _
      · rw [downIs_may hD, if_neg (by simp)]
        have := down_ok s e w he hkt hm hr
        rwa [hD, Bool.false_and, if_neg (by simp)] at this
      · rw [downIs_same hm hr hD]
        have := down_ok s e w he hkt hm hr
        rwa [hD, Bool.true_and] at this

/-- What To tells. -/
def toR (e : Ev) (v : Nat) : Ev × Int := if mayS e then (if v < 1 ∨ 3 < v then (zeroE, 43) else match toS e v with | some x => (x, 0) | none => (zeroE, 43)) else (zeroE, 4)
theorem toS_up {x : Ev} {v : Nat} (h : x.v < v) : toS (upS x) v = toS x v := by
  unfold toS
  have e1 : (upS x).v = x.v + 1 := rfl
  rw [e1, if_pos (by omega), if_pos (by omega)]
  obtain ⟨n, hn⟩ : ∃ n, v - x.v = n + 1 := ⟨v - x.v - 1, by omega⟩
  rw [hn, show v - (x.v + 1) = n by omega]
  rfl
theorem toS_down {x : Ev} {v : Nat} (h : v < x.v) (hd : downIs x = true) : toS (downE x) v = toS x v := by
  unfold toS
  have e1 : (downE x).v = x.v - 1 := rfl
  obtain ⟨n, hn⟩ : ∃ n, x.v - v = n + 1 := ⟨x.v - v - 1, by omega⟩
  rw [e1, if_neg (show ¬ x.v ≤ v by omega), hn]
  show _ = (if downIs x then downTo n (downE x) else none)
  rw [if_pos hd]
  by_cases hx : x.v - 1 ≤ v
  · rw [if_pos hx]
    have : n = 0 := by omega
    subst this
    rw [show v - (x.v - 1) = 0 by omega]
    rfl
  · rw [if_neg hx]
    congr 1
    omega
theorem toS_none {x : Ev} {v : Nat} (h : v < x.v) (hd : downIs x = false) : toS x v = none := by
  unfold toS
  obtain ⟨n, hn⟩ : ∃ n, x.v - v = n + 1 := ⟨x.v - v - 1, by omega⟩
  rw [if_neg (show ¬ x.v ≤ v by omega), hn]
  show (if downIs x then downTo n (downE x) else none) = none
  rw [hd]
  rfl
theorem toS_self {x : Ev} {v : Nat} (h : x.v = v) : toS x v = some x := by
  unfold toS
  rw [if_pos (by omega), show v - x.v = 0 by omega]
  rfl
theorem downIs_down {x : Ev} (hd : downIs x = true) : mayS (downE x) = true ∧ (downE x).v + 1 = x.v := by
  obtain ⟨d, h1, h2, h3⟩ := downIs_iff.1 hd
  rw [down_of h1 h2 h3]
  exact ⟨h1, by rw [← h3]; rfl⟩

set_option maxHeartbeats 4000000 in
set_option maxRecDepth 100000 in
theorem to_form (s : EvP) (e : Ev) (v : Nat) (w : World) (he : EvAt w s e) (hkt : KT w) (hm : mayS e = false) :
    Calls Tryd.prog 21 #[evV s e, .int .u8 v] w (UpPost w (zeroE, 4)) := by
  have ME := hid (fun w1 (h : Fr No w w1) => may_any s e w1 (he.fr h) (hkt.fr h))
  rw [hm] at ME
  unfold UpPost
  have HF0 : Fr No w ((w.alloc (.cells #[.int .u8 e.v, .int .u8 e.kind, .slice s.qn e.nums.length s.cn, .slice s.qt e.texts.length s.ct] 34)).alloc (.cells #[.int .u8 0, .int .u8 0, .slice none 0 0, .slice none 0 0] 34)) := ((Fr.refl w).alloc _).alloc _
  have g1 := Go.heap_alloc_new (w.alloc (.cells #[.int .u8 e.v, .int .u8 e.kind, .slice s.qn e.nums.length s.cn, .slice s.qt e.texts.length s.ct] 34)) (.cells #[.int .u8 0, .int .u8 0, .slice none 0 0, .slice none 0 0] 34)
  simp only [World.size_alloc] at g1
  have HG := hid g1
  clear g1
  unfold evV at *
  go_enter Tryd.func21, Tryd.ntmps21
  go_wp2_with (first
    | (go_at_call 44; (with_reducible refine (ME.out _ HF0).mono ?_); rintro e1 w1 ⟨rfl, hf1⟩; obtain ⟨k0, k1, k2, k3, z0, z1, z2, z3⟩ := Go.Proofs.YtnmfmedoocnofaaDoor.cells4 (hf1.heap0 HG.out)))
  obtain ⟨hst, hfr⟩ := store4 (hf1.heap0 HG.out) (.int .u8 0) (.int .u8 0) (.slice none 0 0) (.slice none 0 0)
  refine bodyPost_ret (results_row_tmp rfl _ _ (w.heap.size + 1) 34 _ (0, 0) _ (.int .i64 4) rfl hst rfl Tryd.underlying34 rfl (by kernel_rfl)) rfl ⟨⟨none, 0, none, 0⟩, rfl, EvNew.zero _ _, (HF0.trans hf1).newOnly (Nat.le_succ _) hfr⟩

set_option maxHeartbeats 4000000 in
set_option maxRecDepth 100000 in
theorem to_version (s : EvP) (e : Ev) (v : Nat) (w : World) (he : EvAt w s e) (hkt : KT w) (hm : mayS e = true) (hv : v < 1 ∨ 3 < v) :
    Calls Tryd.prog 21 #[evV s e, .int .u8 v] w (UpPost w (zeroE, 43)) := by
  have ME := hid (fun w1 (h : Fr No w w1) => may_any s e w1 (he.fr h) (hkt.fr h))
  rw [hm] at ME
  unfold UpPost
  have HF0 : Fr No w ((w.alloc (.cells #[.int .u8 e.v, .int .u8 e.kind, .slice s.qn e.nums.length s.cn, .slice s.qt e.texts.length s.ct] 34)).alloc (.cells #[.int .u8 0, .int .u8 0, .slice none 0 0, .slice none 0 0] 34)) := ((Fr.refl w).alloc _).alloc _
  have g1 := Go.heap_alloc_new (w.alloc (.cells #[.int .u8 e.v, .int .u8 e.kind, .slice s.qn e.nums.length s.cn, .slice s.qt e.texts.length s.ct] 34)) (.cells #[.int .u8 0, .int .u8 0, .slice none 0 0, .slice none 0 0] 34)
  simp only [World.size_alloc] at g1
  have HG := hid g1
  clear g1
  have hC : decide ((v : Int) < 1) = true ∨ (decide ((v : Int) < 1) = false ∧ decide ((3 : Int) < (v : Int)) = true) := by
    by_cases h : v < 1
    · exact .inl (by simp; omega)
    · exact .inr ⟨by simp; omega, by simp; omega⟩
  clear hv
  unfold evV at *
  rcases hC with d1 | ⟨d1, d2⟩
  all_goals
    go_enter Tryd.func21, Tryd.ntmps21
    go_wp2_with (first
      | (go_at_call 44; (with_reducible refine (ME.out _ HF0).mono ?_); rintro e1 w1 ⟨rfl, hf1⟩; obtain ⟨k0, k1, k2, k3, z0, z1, z2, z3⟩ := Go.Proofs.YtnmfmedoocnofaaDoor.cells4 (hf1.heap0 HG.out)))
    obtain ⟨hst, hfr⟩ := store4 (hf1.heap0 HG.out) (.int .u8 0) (.int .u8 0) (.slice none 0 0) (.slice none 0 0)
    refine bodyPost_ret (results_row_tmp rfl _ _ (w.heap.size + 1) 34 _ (0, 0) _ (.int .i64 43) rfl hst rfl Tryd.underlying34 rfl (by kernel_rfl)) rfl ⟨⟨none, 0, none, 0⟩, rfl, EvNew.zero _ _, (HF0.trans hf1).newOnly (Nat.le_succ _) hfr⟩

theorem box_heap {w w' : World} {v0 v1 v2 v3 : Value} (h : Fr No (w.drew.alloc (.cells #[v0, v1, v2, v3] 34)) w') : w'.heap[w.heap.size]? = some (.cells #[v0, v1, v2, v3] 34 (0, 0)) := h.heap0 (Go.heap_alloc_new w.drew _)
theorem box_heap' {w w' : World} {v0 v1 v2 v3 : Value} (h : Fr No (w.alloc (.cells #[v0, v1, v2, v3] 34)) w') : w'.heap[w.heap.size]? = some (.cells #[v0, v1, v2, v3] 34 (0, 0)) := h.heap0 (Go.heap_alloc_new w _)
def toO (o : Option Ev) : Ev × Int := match o with | some x => (x, 0) | none => (zeroE, 43)
set_option maxHeartbeats 8000000 in
set_option maxRecDepth 100000 in
theorem to_ok (s : EvP) (e : Ev) (v : Nat) (w : World) (he : EvAt w s e) (hkt : KT w) (hm : mayS e = true) (hv1 : 1 ≤ v) (hv3 : v ≤ 3) :
    Calls Tryd.prog 21 #[evV s e, .int .u8 v] w (UpPost w (toO (toS e v))) := by
  have ME := hid (fun w1 (h : Fr No w w1) => may_any s e w1 (he.fr h) (hkt.fr h))
  rw [hm] at ME
  obtain ⟨hl7, hn7, ht1, hnr, htr⟩ := may_small hm
  have hk8 := he.k8
  have CN := hid (fun w1 (h : Fr No w w1) => cloneN s.qn e.nums s.cn w1 (he.nums.fr h) (by omega))
  have CT := hid (fun w1 (h : Fr No w w1) => cloneT s.qt e.texts s.ct w1 (he.texts.fr h) (by omega))
  have UPR := hid (fun (x : Ev) (s' : EvP) w1 (hn : EvNew w.heap.size w1 s' x) (hx : mayS x = true) (hk : x.kind = e.kind) (hlt : x.v < v) (h : Fr No w w1) => (by
    have h1 := up_any s' x w1 (hn.may hx (by omega)) (hkt.fr h)
    unfold upR at h1
    rwa [if_pos hx, if_pos (may_rules hx (by omega))] at h1 : Calls Tryd.prog 49 #[evV s' x] w1 (UpPost w1 (upS x, 0))))
  have DNR := hid (fun (x : Ev) (s' : EvP) w1 (hn : EvNew w.heap.size w1 s' x) (hx : mayS x = true) (hk : x.kind = e.kind) (h : Fr No w w1) => (by
    have h1 := down_any s' x w1 (hn.may hx (by omega)) (hkt.fr h)
    unfold downR at h1
    rwa [if_pos hx] at h1 : Calls Tryd.prog 50 #[evV s' x] w1 (UpPost w1 (if downIs x then (downE x, 0) else (zeroE, 43)))))
  unfold UpPost
  generalize hres : toO (toS e v) = R
  have HRES := hid hres
  have HF0 : Fr No w ((w.alloc (.cells #[.int .u8 e.v, .int .u8 e.kind, .slice s.qn e.nums.length s.cn, .slice s.qt e.texts.length s.ct] 34)).alloc (.cells #[.int .u8 0, .int .u8 0, .slice none 0 0, .slice none 0 0] 34)) := ((Fr.refl w).alloc _).alloc _
  have g1 := Go.heap_alloc_new (w.alloc (.cells #[.int .u8 e.v, .int .u8 e.kind, .slice s.qn e.nums.length s.cn, .slice s.qt e.texts.length s.ct] 34)) (.cells #[.int .u8 0, .int .u8 0, .slice none 0 0, .slice none 0 0] 34)
  simp only [World.size_alloc] at g1
  have HG := hid g1
  clear g1
  have g0 : ((w.alloc (.cells #[.int .u8 e.v, .int .u8 e.kind, .slice s.qn e.nums.length s.cn, .slice s.qt e.texts.length s.ct] 34)).alloc (.cells #[.int .u8 0, .int .u8 0, .slice none 0 0, .slice none 0 0] 34)).heap[w.heap.size]? = some (.cells #[.int .u8 e.v, .int .u8 e.kind, .slice s.qn e.nums.length s.cn, .slice s.qt e.texts.length s.ct] 34 (0, 0)) := by
    rw [Below.heap_alloc _ _ _ (by simp)]; exact Go.heap_alloc_new _ _
  have HG0 := hid g0
  have HM := hid hm
  have d1 : decide ((v : Int) < 1) = false := by simp; omega
  have d2 : decide ((3 : Int) < (v : Int)) = false := by simp; omega
  clear g0 hm hl7 hnr htr he hkt hres
  unfold evV at *
  go_enter Tryd.func21, Tryd.ntmps21
  go_upto_region 5 with (first
    | (go_at_call 44; (with_reducible refine (ME.out _ HF0).mono ?_); rintro e1 w2 ⟨rfl, hf1⟩; obtain ⟨c0, c1, c2, c3, _, _, _, _⟩ := Go.Proofs.YtnmfmedoocnofaaDoor.cells4 (hf1.heap0 HG0.out)))
  have HW : Fr No w w2 := HF0.trans hf1
  go_cut [6] from 19 (fun x w' => Fr No w2 w' ∧ ∃ b s', x = .pointer (some ⟨b, 0, none⟩) ∧ BoxAt w2.heap.size w' b s' e)
  case first =>
    go_region_held3 (fun w' => Fr No w2 w' ∧ w'.cell? ⟨w.heap.size, 0, none⟩ = some (.int .u8 e.v) ∧ w'.cell? ⟨w.heap.size, 1, none⟩ = some (.int .u8 e.kind) ∧ w'.cell? ⟨w.heap.size, 2, none⟩ = some (.slice s.qn e.nums.length s.cn) ∧ w'.cell? ⟨w.heap.size, 3, none⟩ = some (.slice s.qt e.texts.length s.ct))
      ((go_split_ands; refine two_keep c0 c1 c2 c3 ?_; repeat (first | exact Fr.refl _ | assumption | refine Fr.drew ?_ | refine Fr.alloc ?_ _ | refine Fr.setNew ?_ (by first | exact Nat.le_refl _ | exact hF3.size | exact hF4.size | exact hF3.size) _)))
      (first
        | (go_at_call 47; (with_reducible refine (CN.out _ (HW.trans (by repeat (first | exact Fr.refl _ | assumption | refine Fr.drew ?_ | refine Fr.alloc ?_ _)))).mono ?_); rintro e3 w3 ⟨q3, p3, rfl, hr3, hf3⟩; have hF3 : Fr No w2 w3 := Fr.trans (by repeat (first | exact Fr.refl _ | assumption | refine Fr.drew ?_ | refine Fr.alloc ?_ _)) hf3; (first | (have hb3 := box_heap hf3; obtain ⟨k0, k1, k2, k3, f0, f1, f2, f3⟩ := Go.Proofs.YtnmfmedoocnofaaDoor.cells4 hb3; have HB3 := hid hb3; clear hb3) | skip))
        | (go_at_call 48; (with_reducible refine (CT.out _ (HW.trans (by repeat (first | exact Fr.refl _ | assumption | refine Fr.drew ?_ | refine Fr.alloc ?_ _)))).mono ?_); rintro e4 w4 ⟨q4, p4, rfl, hr4, hf4⟩; have hF4 : Fr No w2 w4 := Fr.trans (by repeat (first | exact Fr.refl _ | assumption | refine Fr.drew ?_ | refine Fr.alloc ?_ _)) hf4; have hN4 : EvNew w2.heap.size w4 ⟨q3, p3, q4, p4⟩ e := ⟨(hr3.fr0 (Fr.trans (by repeat (first | exact Fr.refl _ | refine Fr.drew ?_ | refine Fr.alloc ?_ _)) hf4)).mono (by first | exact Nat.le_refl _ | (simp; done) | (simp; omega)), hr4.mono (by have h := hF3.size; first | exact h | (simp; omega))⟩; have HN4 := hid hN4; clear hN4 hr3 hr4; (first | (have hb4 := hf4.heap0 HB3.out; obtain ⟨m0, m1, m2, m3, g0, g1, g2, g3⟩ := Go.Proofs.YtnmfmedoocnofaaDoor.cells4 hb4; have HB4 := hid hb4; clear hb4) | (have hb4 := box_heap' hf4; obtain ⟨m0, m1, m2, m3, g0, g1, g2, g3⟩ := Go.Proofs.YtnmfmedoocnofaaDoor.cells4 hb4; have HB4 := hid hb4; clear hb4) | skip)))
    · have hB := BoxAt.made (w := w2) hF4 HN4.out
      have HB := hid hB
      clear hB
      go_wp2_with fail
      go_meet
      case rel => exact ⟨HB.out.2, _, _, rfl, HB.out.1⟩
    · have hB := BoxAt.fill (B := w2.heap.size) HB4.out hF3.size HN4.out
      have HB := hid hB
      have hle := hF3.size
      clear hB
      go_wp2_with fail
      go_meet
      case rel => exact ⟨hF4.newOnly hle HB.out.2, _, _, rfl, HB.out.1⟩
    · have hB := BoxAt.fill (B := w2.heap.size) HB4.out (Nat.le_refl _) HN4.out
      have HB := hid hB
      clear hB
      go_wp2_with fail
      go_meet
      case rel => exact ⟨hF4.newOnly (Nat.le_refl _) HB.out.2, _, _, rfl, HB.out.1⟩
  obtain ⟨h23, b, s', rfl, hB⟩ := hcut
  rename World => w4
  have wlt : w.heap.size + 1 < w2.heap.size := lt_of_block (hf1.heap0 HG.out)
  have HGB := hid (fun w6 (h : Fr No w2 w6) => Fr.heap0 h (hf1.heap0 HG.out))
  have hblo := hB.lo
  clear c0 c1 c2 c3 CN CT ME HG HG0 d1 d2
  go_wp2_with fail
  go_loopg [7] v (fun k f wr => f = .int .i64 0 ∧ ∃ (x : Ev) (s2 : EvP), Hid (mayS x = true ∧ x.kind = e.kind ∧ toS x v = toS e v) ∧ v ≤ x.v + k ∧ BoxAt w2.heap.size wr b s2 x ∧ Fr No w2 wr)
  case atStart => exact ⟨rfl, e, s', hid ⟨HM.out, rfl, rfl⟩, by omega, hB, h23⟩
  case round =>
    obtain ⟨rfl, x, s2, HX, hk, hbx, hf⟩ := hrel
    obtain ⟨k0, k1, k2, k3, f0, f1, f2, f3⟩ := hbx.cells4
    have HBX := hid hbx
    have HWR := hid (HW.trans hf)
    have HNW := hid (hbx.new.mono HW.size)
    have hle := hf.size
    have hblt := hbx.lt
    clear hbx
    by_cases hlt : x.v < v
    · have i1 : (x.v : Int) < (v : Int) := by omega
      have UP1 := hid (UPR.out x s2 wr HNW.out HX.out.1 HX.out.2.1 hlt HWR.out)
      have HU : Hid (mayS (upS x) = true ∧ (upS x).kind = e.kind ∧ toS (upS x) v = toS e v) := hid ⟨may_up HX.out.1 (may_rules HX.out.1 (by omega)), HX.out.2.1, (toS_up hlt).trans HX.out.2.2⟩
      have hUv : v ≤ (upS x).v + (gk - 1) := by show v ≤ x.v + 1 + _; omega
      have hgk : 0 < gk := by omega
      clear hlt
      generalize upS x = U at UP1 HU hUv
      go_wp2_with (first
        | (go_at_call 49; (with_reducible refine UP1.out.mono ?_); rintro e5 w5 ⟨s5, rfl, hn5, hf5⟩; unfold evV; clear k0 k1 k2 k3 f0 f1 f2 f3; obtain ⟨k0, k1, k2, k3, f0, f1, f2, f3⟩ := (HBX.out.fr hf5).cells4))
      obtain ⟨hO, hfO⟩ := HBX.out.over hf5 hn5 hle
      have HO := hid hO
      clear hO
      go_roundg (gk - 1)
      case measure => omega
      case rel => exact ⟨rfl, U, s5, HU, hUv, HO.out, (hf.trans hf5).newOnly hblo hfO⟩
    · have hd0 : decide (x.v < v) = false := by simpa using hlt
      have hge : v ≤ x.v := by omega
      clear k0 k1 k2 k3 f0 f1 f2 f3 hlt hk UPR
      obtain ⟨k0, k1, k2, k3, f0, f1, f2, f3⟩ := HBX.out.cells4
      go_wp2_with fail
      clear k0 k1 k2 k3 f0 f1 f2 f3
      go_loopg [7] x.v (fun k f wq => f = .int .i64 0 ∧ ∃ (y : Ev) (s3 : EvP), Hid (mayS y = true ∧ y.kind = e.kind ∧ toS y v = toS e v) ∧ v ≤ y.v ∧ y.v ≤ v + k ∧ BoxAt w2.heap.size wq b s3 y ∧ Fr No w2 wq)
      case atStart => exact ⟨rfl, x, s2, HX, hge, by omega, HBX.out, hf⟩
      case round =>
        rename World => wq
        obtain ⟨rfl, y, s3, HY, hyv, hyk, hby, hfq⟩ := hrel
        obtain ⟨k0, k1, k2, k3, f0, f1, f2, f3⟩ := hby.cells4
        have HBY := hid hby
        have HWQ := hid (HW.trans hfq)
        have HNQ := hid (hby.new.mono HW.size)
        have hleq := hfq.size
        have hbltq := hby.lt
        clear hby
        by_cases hlt : v < y.v
        · have i1 : (v : Int) < (y.v : Int) := by omega
          have DN1 := hid (DNR.out y s3 wq HNQ.out HY.out.1 HY.out.2.1 HWQ.out)
          rcases hdn : downIs y with _ | _
          · rw [hdn] at DN1
            simp only [Bool.false_eq_true, if_false] at DN1
            have hR : (zeroE, 43) = R := by rw [← HRES.out, ← HY.out.2.2, toS_none hlt hdn]; rfl
            unfold UpPost evV zeroE at DN1
            clear hlt hdn
            obtain rfl := hR
            go_wp2_with (first
              | (go_at_call 50; (with_reducible refine DN1.out.mono ?_); rintro e5 w5 ⟨s5, rfl, hn5, hf5⟩; clear k0 k1 k2 k3 f0 f1 f2 f3; obtain ⟨k0, k1, k2, k3, f0, f1, f2, f3⟩ := (HBY.out.fr hf5).cells4; obtain ⟨y0, y1, y2, y3, g0, g1, g2, g3⟩ := Go.Proofs.YtnmfmedoocnofaaDoor.cells4 (HGB.out _ (hfq.trans hf5))))
            obtain ⟨_, hfO⟩ := HBY.out.over hf5 hn5 hleq
            obtain ⟨hst, hfr⟩ := store4 (hfO.heap (HGB.out _ (hfq.trans hf5)) (show w.heap.size + 1 ≠ b by omega)) (.int .u8 0) (.int .u8 0) (.slice none 0 0) (.slice none 0 0)
            refine bodyPost_ret (results_row_tmp rfl _ _ (w.heap.size + 1) 34 _ (0, 0) _ (.int .i64 43) rfl hst rfl Tryd.underlying34 rfl (by kernel_rfl)) rfl ⟨⟨none, 0, none, 0⟩, rfl, EvNew.zero _ _, ((HWQ.out.trans hf5).newOnly (by omega) hfO).newOnly (Nat.le_succ _) hfr⟩
          · obtain ⟨hd1, hd2⟩ := downIs_down hdn
            rw [hdn] at DN1
            simp only [if_true] at DN1
            have HU : Hid (mayS (downE y) = true ∧ (downE y).kind = e.kind ∧ toS (downE y) v = toS e v) := hid ⟨hd1, HY.out.2.1, (toS_down hlt hdn).trans HY.out.2.2⟩
            have hUv : v ≤ (downE y).v := by omega
            have hUk : (downE y).v ≤ v + (gk - 1) := by omega
            have hgk : 0 < gk := by omega
            clear hlt hdn hd1 hd2
            generalize downE y = U at DN1 HU hUv hUk
            go_wp2_with (first
              | (go_at_call 50; (with_reducible refine DN1.out.mono ?_); rintro e5 w5 ⟨s5, rfl, hn5, hf5⟩; unfold evV; clear k0 k1 k2 k3 f0 f1 f2 f3; obtain ⟨k0, k1, k2, k3, f0, f1, f2, f3⟩ := (HBY.out.fr hf5).cells4))
            obtain ⟨hO, hfO⟩ := HBY.out.over hf5 hn5 hleq
            have HO := hid hO
            clear hO
            go_roundg (gk - 1)
            case measure => omega
            case rel => exact ⟨rfl, U, s5, HU, hUv, hUk, HO.out, (hfq.trans hf5).newOnly hblo hfO⟩
        · have hd0 : decide (v < y.v) = false := by simpa using hlt
          have hR : (y, 0) = R := by rw [← HRES.out, ← HY.out.2.2, toS_self (by omega)]; rfl
          obtain ⟨y0, y1, y2, y3, g0, g1, g2, g3⟩ := Go.Proofs.YtnmfmedoocnofaaDoor.cells4 (HGB.out _ hfq)
          clear hlt
          obtain rfl := hR
          go_wp2_with fail
          have hst := BoxAt.fill (w1 := wq) (b := w.heap.size + 1) (B := w.heap.size) (s := s3) (e := y) (HGB.out _ hfq) (Nat.le_succ _) HNQ.out
          refine bodyPost_ret (results_row_tmp rfl _ _ (w.heap.size + 1) 34 _ (0, 0) _ (.int .i64 0) rfl hst.1.cells rfl Tryd.underlying34 rfl (by kernel_rfl)) rfl ⟨s3, rfl, hst.1.new, HWQ.out.newOnly (Nat.le_succ _) hst.2⟩

/-- To, whatever it is given. -/
theorem to_any (s : EvP) (e : Ev) (v : Nat) (w : World) (he : EvAt w s e) (hkt : KT w) : Calls Tryd.prog 21 #[evV s e, .int .u8 v] w (UpPost w (toR e v)) := by
  unfold toR
  rcases hm : mayS e with _ | _
  · rw [if_neg (by simp)]
    exact to_form s e v w he hkt hm
  · rw [if_pos rfl]
    by_cases hv : v < 1 ∨ 3 < v
    · rw [if_pos hv]
      exact to_version s e v w he hkt hm hv
    · rw [if_neg hv]
      exact to_ok s e v w he hkt hm (by omega) (by omega)
/-- What Newest tells. -/
def newestR (e : Ev) : Ev × Int := if mayS e then (topS e, 0) else (zeroE, 4)
theorem toR_self {e : Ev} (hm : mayS e = true) : toR e e.v = (e, 0) := by
  obtain ⟨_, h1, h3⟩ := may_is hm
  unfold toR
  rw [if_pos hm, if_neg (by omega), toS_self rfl]

set_option maxHeartbeats 4000000 in
set_option maxRecDepth 100000 in
theorem newest_form (s : EvP) (e : Ev) (w : World) (he : EvAt w s e) (hkt : KT w) (hm : mayS e = false) :
    Calls Tryd.prog 31 #[evV s e] w (UpPost w (zeroE, 4)) := by
  have TE := hid (fun w1 (h : Fr No w w1) => to_any s e e.v w1 (he.fr h) (hkt.fr h))
  have htr : toR e e.v = (zeroE, 4) := by unfold toR; rw [hm]; rfl
  rw [htr] at TE
  clear htr
  unfold UpPost at *
  have HF0 : Fr No w ((w.alloc (.cells #[.int .u8 e.v, .int .u8 e.kind, .slice s.qn e.nums.length s.cn, .slice s.qt e.texts.length s.ct] 34)).alloc (.cells #[.int .u8 0, .int .u8 0, .slice none 0 0, .slice none 0 0] 34)) := ((Fr.refl w).alloc _).alloc _
  have g1 := Go.heap_alloc_new (w.alloc (.cells #[.int .u8 e.v, .int .u8 e.kind, .slice s.qn e.nums.length s.cn, .slice s.qt e.texts.length s.ct] 34)) (.cells #[.int .u8 0, .int .u8 0, .slice none 0 0, .slice none 0 0] 34)
  simp only [World.size_alloc] at g1
  have HG := hid g1
  clear g1
  unfold evV zeroE at TE
  unfold evV
  go_enter Tryd.func31, Tryd.ntmps31
  go_wp2_with (first
    | (go_at_call 21; (with_reducible refine (TE.out _ HF0).mono ?_); rintro e1 w1 ⟨s1, rfl, hn1, hf1⟩; obtain ⟨k0, k1, k2, k3, z0, z1, z2, z3⟩ := Go.Proofs.YtnmfmedoocnofaaDoor.cells4 (hf1.heap0 HG.out); have zl : w.heap.size + 1 < w1.heap.size := World.block_lt_of_cell? w1 _ k0))
  obtain ⟨hst, hfr⟩ := store4 (hf1.heap0 HG.out) (.int .u8 0) (.int .u8 0) (.slice none 0 0) (.slice none 0 0)
  refine bodyPost_ret (results_row_tmp rfl _ _ (w.heap.size + 1) 34 _ (0, 0) _ (.int .i64 4) rfl (((Fr.refl _).alloc _).heap0 hst) rfl Tryd.underlying34 rfl (by kernel_rfl)) rfl ⟨⟨none, 0, none, 0⟩, rfl, EvNew.zero _ _, ((HF0.trans hf1).newOnly (Nat.le_succ _) hfr).alloc _⟩

set_option maxHeartbeats 4000000 in
set_option maxRecDepth 100000 in
theorem newest_ok (s : EvP) (e : Ev) (w : World) (he : EvAt w s e) (hkt : KT w) (hm : mayS e = true) :
    Calls Tryd.prog 31 #[evV s e] w (UpPost w (topS e, 0)) := by
  have TE := hid (fun w1 (h : Fr No w w1) => to_any s e e.v w1 (he.fr h) (hkt.fr h))
  rw [toR_self hm] at TE
  obtain ⟨_, hv1, hv3⟩ := may_is hm
  have hk8 := he.k8
  have UPR := hid (fun (x : Ev) (s' : EvP) w1 (hn : EvNew w.heap.size w1 s' x) (hx : mayS x = true) (hk : x.kind = e.kind) (hlt : x.v < 3) (h : Fr No w w1) => (by
    have h1 := up_any s' x w1 (hn.may hx (by omega)) (hkt.fr h)
    unfold upR at h1
    rwa [if_pos hx, if_pos (may_rules hx (by omega))] at h1 : Calls Tryd.prog 49 #[evV s' x] w1 (UpPost w1 (upS x, 0))))
  have HF0 : Fr No w ((w.alloc (.cells #[.int .u8 e.v, .int .u8 e.kind, .slice s.qn e.nums.length s.cn, .slice s.qt e.texts.length s.ct] 34)).alloc (.cells #[.int .u8 0, .int .u8 0, .slice none 0 0, .slice none 0 0] 34)) := ((Fr.refl w).alloc _).alloc _
  have g1 := Go.heap_alloc_new (w.alloc (.cells #[.int .u8 e.v, .int .u8 e.kind, .slice s.qn e.nums.length s.cn, .slice s.qt e.texts.length s.ct] 34)) (.cells #[.int .u8 0, .int .u8 0, .slice none 0 0, .slice none 0 0] 34)
  simp only [World.size_alloc] at g1
  have HG := hid g1
  have g0 : ((w.alloc (.cells #[.int .u8 e.v, .int .u8 e.kind, .slice s.qn e.nums.length s.cn, .slice s.qt e.texts.length s.ct] 34)).alloc (.cells #[.int .u8 0, .int .u8 0, .slice none 0 0, .slice none 0 0] 34)).heap[w.heap.size]? = some (.cells #[.int .u8 e.v, .int .u8 e.kind, .slice s.qn e.nums.length s.cn, .slice s.qt e.texts.length s.ct] 34 (0, 0)) := by
    rw [Below.heap_alloc _ _ _ (by simp)]; exact Go.heap_alloc_new _ _
  have HG0 := hid g0
  have HM := hid hm
  clear g0 g1 he hkt
  have hC : e.v = 3 ∨ e.v = 2 ∨ e.v = 1 := by omega
  unfold UpPost at *
  generalize hT : topS e = T
  rcases hC with h3 | h2 | h1
  · have hTe : e = T := by rw [← hT]; unfold topS; rw [h3]; rfl
    have b1 : ((e.v : Int) == 1) = false := by rw [h3]; rfl
    have b2 : ((e.v : Int) == 2) = false := by rw [h3]; rfl
    clear h3 hT
    obtain rfl := hTe
    unfold evV at *
    go_enter Tryd.func31, Tryd.ntmps31
    go_wp2_with (first
      | (go_at_call 21; (with_reducible refine (TE.out _ HF0).mono ?_); rintro e1 w1 ⟨s1, rfl, hn1, hf1⟩; obtain ⟨k0, k1, k2, k3, z0, z1, z2, z3⟩ := Go.Proofs.YtnmfmedoocnofaaDoor.cells4 (hf1.heap0 HG.out); have zl : w.heap.size + 1 < w1.heap.size := World.block_lt_of_cell? w1 _ k0; obtain ⟨c0, c1, c2, c3, _, _, _, _⟩ := Go.Proofs.YtnmfmedoocnofaaDoor.cells4 (hf1.heap0 HG0.out); have zl0 : w.heap.size < w1.heap.size := World.block_lt_of_cell? w1 _ c0))
    have hst := BoxAt.fill (w1 := w1) (b := w.heap.size + 1) (B := w.heap.size) (s := s1) (e := e) (hf1.heap0 HG.out) (Nat.le_succ _) (hn1.mono HF0.size)
    refine bodyPost_ret (results_row_tmp rfl _ _ (w.heap.size + 1) 34 _ (0, 0) _ (.int .i64 0) rfl (((Fr.refl _).alloc _).heap0 hst.1.cells) rfl Tryd.underlying34 rfl (by kernel_rfl)) rfl ⟨s1, rfl, hst.1.new.fr ((Fr.refl _).alloc _), ((HF0.trans hf1).newOnly (Nat.le_succ _) hst.2).alloc _⟩
  · have hTe : upS e = T := by rw [← hT]; unfold topS; rw [h2]; rfl
    have b1 : ((e.v : Int) == 1) = false := by rw [h2]; rfl
    have b2 : ((e.v : Int) == 2) = true := by rw [h2]; rfl
    have UP1 := hid (fun s' w1 hn h => UPR.out e s' w1 hn HM.out rfl (by omega) h)
    clear h2 hT UPR
    rw [hTe] at UP1
    clear hTe
    have HFX := hid (fun w6 (h : Fr No _ w6) => Go.Proofs.YtnmfmedoocnofaaDoor.cells4 (Fr.heap0 h HG.out))
    unfold evV at *
    go_enter Tryd.func31, Tryd.ntmps31
    go_wp2_with (first
      | (go_at_call 21; (with_reducible refine (TE.out _ HF0).mono ?_); rintro e1 w1 ⟨s1, rfl, hn1, hf1⟩; obtain ⟨c0, c1, c2, c3, _, _, _, _⟩ := Go.Proofs.YtnmfmedoocnofaaDoor.cells4 (hf1.heap0 HG0.out); have zl0 : w.heap.size < w1.heap.size := World.block_lt_of_cell? w1 _ c0; have zl1 : w.heap.size + 1 < w1.heap.size := lt_of_block (hf1.heap0 HG.out); obtain ⟨hB1, hF1⟩ := BoxAt.made hf1 hn1; unfold eCells at hB1 hF1; have HB1 := hid hB1; have HF1 := hid hF1; clear hB1 hF1)
      | (go_at_call 49; (with_reducible refine (UP1.out s1 _ (HB1.out.new.mono HF0.size) (HF0.trans HF1.out)).mono ?_); rintro e5 w5 ⟨s5, rfl, hn5, hf5⟩; clear c0 c1 c2 c3; obtain ⟨k0, k1, k2, k3, f0, f1, f2, f3⟩ := (HB1.out.fr hf5).cells4; obtain ⟨hB5, hF5⟩ := HB1.out.over hf5 hn5 HF1.out.size; have HB5 := hid hB5; have HF5 := hid ((HF1.out.trans hf5).newOnly HB1.out.lo hF5); clear hB5 hF5; obtain ⟨y0, y1, y2, y3, g0, g1, g2, g3⟩ := HFX.out w5 (HF1.out.trans hf5))
      )
    have hst := BoxAt.fill (b := w.heap.size + 1) (B := w.heap.size) (HF5.out.heap0 HG.out) (Nat.le_succ _) (HB5.out.new.mono HF0.size)
    refine bodyPost_ret (results_row_tmp rfl _ _ (w.heap.size + 1) 34 _ (0, 0) _ (.int .i64 0) rfl hst.1.cells rfl Tryd.underlying34 rfl (by kernel_rfl)) rfl ⟨s5, rfl, hst.1.new, (HF0.trans HF5.out).newOnly (Nat.le_succ _) hst.2⟩
  · have hTe : upS (upS e) = T := by rw [← hT]; unfold topS; rw [h1]; rfl
    have b1 : ((e.v : Int) == 1) = true := by rw [h1]; rfl
    have UP1 := hid (fun s' w1 hn h => UPR.out e s' w1 hn HM.out rfl (by omega) h)
    have UP2 := hid (fun s' w1 hn h => UPR.out (upS e) s' w1 hn (may_up HM.out (may_rules HM.out (by omega))) rfl (by show e.v + 1 < 3; omega) h)
    clear h1 hT UPR
    rw [hTe] at UP2
    clear hTe
    generalize upS e = U at UP1 UP2
    have HFX := hid (fun w6 (h : Fr No _ w6) => Go.Proofs.YtnmfmedoocnofaaDoor.cells4 (Fr.heap0 h HG.out))
    unfold evV at *
    go_enter Tryd.func31, Tryd.ntmps31
    go_wp2_with (first
      | (go_at_call 21; (with_reducible refine (TE.out _ HF0).mono ?_); rintro e1 w1 ⟨s1, rfl, hn1, hf1⟩; obtain ⟨c0, c1, c2, c3, _, _, _, _⟩ := Go.Proofs.YtnmfmedoocnofaaDoor.cells4 (hf1.heap0 HG0.out); have zl0 : w.heap.size < w1.heap.size := World.block_lt_of_cell? w1 _ c0; have zl1 : w.heap.size + 1 < w1.heap.size := lt_of_block (hf1.heap0 HG.out); obtain ⟨hB1, hF1⟩ := BoxAt.made hf1 hn1; unfold eCells at hB1 hF1; have HB1 := hid hB1; have HF1 := hid hF1; clear hB1 hF1)
      | (go_at_call 49; (with_reducible refine (UP1.out s1 _ (HB1.out.new.mono HF0.size) (HF0.trans HF1.out)).mono ?_); rintro e5 w5 ⟨s5, rfl, hn5, hf5⟩; clear c0 c1 c2 c3; obtain ⟨k0, k1, k2, k3, f0, f1, f2, f3⟩ := (HB1.out.fr hf5).cells4; obtain ⟨hB5, hF5⟩ := HB1.out.over hf5 hn5 HF1.out.size; have HB5 := hid hB5; have HF5 := hid ((HF1.out.trans hf5).newOnly HB1.out.lo hF5); clear hB5 hF5; obtain ⟨y0, y1, y2, y3, g0, g1, g2, g3⟩ := HFX.out w5 (HF1.out.trans hf5))
      | (go_at_call 49; (with_reducible refine (UP2.out s5 _ (HB5.out.new.mono HF0.size) (HF0.trans HF5.out)).mono ?_); rintro e6 w6 ⟨s6, rfl, hn6, hf6⟩; clear k0 k1 k2 k3 f0 f1 f2 f3 y0 y1 y2 y3 g0 g1 g2 g3; obtain ⟨k0, k1, k2, k3, f0, f1, f2, f3⟩ := (HB5.out.fr hf6).cells4; obtain ⟨hB6, hF6⟩ := HB5.out.over hf6 hn6 HF5.out.size; have HB6 := hid hB6; have HF6 := hid ((HF5.out.trans hf6).newOnly HB5.out.lo hF6); clear hB6 hF6; obtain ⟨y0, y1, y2, y3, g0, g1, g2, g3⟩ := HFX.out w6 (HF5.out.trans hf6))
      )
    have hst := BoxAt.fill (b := w.heap.size + 1) (B := w.heap.size) (HF6.out.heap0 HG.out) (Nat.le_succ _) (HB6.out.new.mono HF0.size)
    refine bodyPost_ret (results_row_tmp rfl _ _ (w.heap.size + 1) 34 _ (0, 0) _ (.int .i64 0) rfl hst.1.cells rfl Tryd.underlying34 rfl (by kernel_rfl)) rfl ⟨s6, rfl, hst.1.new, (HF0.trans HF6.out).newOnly (Nat.le_succ _) hst.2⟩
/-- Newest, whatever event it is given. -/
theorem newest_any (s : EvP) (e : Ev) (w : World) (he : EvAt w s e) (hkt : KT w) : Calls Tryd.prog 31 #[evV s e] w (UpPost w (newestR e)) := by
  unfold newestR
  rcases hm : mayS e with _ | _
  · rw [if_neg (by simp)]
    exact newest_form s e w he hkt hm
  · rw [if_pos rfl]
    exact newest_ok s e w he hkt hm
end Go.Proofs.YtnmfmedoocnofaaDoor
