/-
  upcast.Down: the refusals, and what the letting down of numbers comes to. No statement of the seat is proved here.
-/
import Derived.Test.YtgjabbhgmecbbaaDoorUpOk
namespace Go.Proofs.YtgjabbhgmecbbaaDoor
open Go.RowKit

/-- What Down tells. -/
def downR (e : Ev) : Ev × Int := if mayS e then (if downIs e then (downE e, 0) else (zeroE, 43)) else (zeroE, 4)
theorem downIs_rules {e : Ev} (hr : rulesIs (e.v - 1) e.kind = false) : downIs e = false := by unfold downIs; rw [hr]; simp
theorem downIs_may {e : Ev} (hm : mayS (downE e) = false) : downIs e = false := by unfold downIs; rw [hm]; simp
theorem downIs_same {e : Ev} (h : mayS e = true) (hr : rulesIs (e.v - 1) e.kind = true) (hm : mayS (downE e) = true) : downIs e = sameS (upS (downE e)) e := by
  unfold downIs downIs.sameS'
  rw [h, hr, hm, Bool.true_and, Bool.true_and, Bool.true_and]
  rw [Bool.eq_iff_iff, decide_eq_true_eq]
  unfold sameS
  simp only [Bool.and_eq_true, decide_eq_true_eq]
  constructor
  · intro h; rw [h]; exact ⟨rfl, rfl, rfl, rfl⟩
  · rintro ⟨h1, h2, h3, h4⟩
    rcases hx : upS (downE e) with ⟨a, b, c, d⟩
    rcases e with ⟨a', b', c', d'⟩
    rw [hx] at h1 h2 h3 h4
    simp only at h1 h2 h3 h4
    subst h1 h2 h3 h4
    rfl
/-- A number, let down, is small. -/
theorem tdiv_small {a t : Int} (h0 : -100 ≤ a) (h1 : a ≤ 1125899906842624) : -9223372036854775808 ≤ a.tdiv t ∧ a.tdiv t ≤ 9223372036854775807 := by
  have h2 : (a.tdiv t).natAbs ≤ a.natAbs := by rw [Int.natAbs_tdiv]; exact Nat.div_le_self _ _
  omega
theorem downN_range {rs : List RuleS} {ns : List Int} (hr : ∀ r, r ∈ rs → 0 ≤ r.fr → 0 < r.times ∧ 0 ≤ r.plus ∧ r.plus ≤ 100) (hn : ∀ n, n ∈ ns → 0 ≤ n ∧ n ≤ 1125899906842624) :
    ∀ n, n ∈ downN rs ns → -9223372036854775808 ≤ n ∧ n ≤ 9223372036854775807 := by
  intro n h
  unfold downN at h
  obtain ⟨⟨r, x⟩, h1, h2⟩ := List.mem_filterMap.1 h
  obtain ⟨h3, h4⟩ := List.of_mem_zip h1
  unfold downNum at h2
  split at h2
  · rename_i hf
    obtain rfl := Option.some.inj h2
    have a := hr r h3 hf
    have b := hn x h4
    simp only at a b ⊢
    exact tdiv_small (by omega) (by omega)
  · cases h2
theorem downN_length (rs : List RuleS) (ns : List Int) : (downN rs ns).length ≤ ns.length := by
  unfold downN
  refine Nat.le_trans (List.length_filterMap_le _ _) ?_
  rw [List.length_zip]
  omega
theorem downN_take {rs : List RuleS} {ns : List Int} {m : Nat} {r : RuleS} {x : Int} (h1 : rs[m]? = some r) (h2 : ns[m]? = some x) :
    downN (rs.take (m + 1)) ns = downN (rs.take m) ns ++ (if 0 ≤ r.fr then [(x - r.plus).tdiv r.times] else []) := by
  have key : ∀ (rs : List RuleS) (ns : List Int) (m : Nat), rs[m]? = some r → ns[m]? = some x → downN (rs.take (m + 1)) ns = downN (rs.take m) ns ++ (if 0 ≤ r.fr then [(x - r.plus).tdiv r.times] else []) := by
    intro rs
    induction rs with
    | nil => intro ns m h; simp at h
    | cons a rs ih =>
      intro ns m h1 h2
      rcases ns with _ | ⟨b, ns⟩
      · simp at h2
      · rcases m with _ | m
        · simp only [List.getElem?_cons_zero, Option.some.injEq] at h1 h2
          subst h1 h2
          unfold downN downNum
          by_cases hf : 0 ≤ a.fr <;> simp [hf]
        · have := ih ns m (by simpa using h1) (by simpa using h2)
          unfold downN at this ⊢
          simp only [List.take_succ_cons, List.zip_cons_cons, List.filterMap_cons] at this ⊢
          rw [this]
          split <;> simp
  exact key rs ns m h1 h2

set_option maxHeartbeats 4000000 in
set_option maxRecDepth 100000 in
theorem down_form (s : EvP) (e : Ev) (w : World) (he : EvAt w s e) (hkt : KT w) (hm : mayS e = false) :
    Calls Tryd.prog 20 #[evV s e] w (UpPost w (zeroE, 4)) := by
  have ME := hid (fun w1 (h : Fr No w w1) => may_any s e w1 (he.fr h) (hkt.fr h))
  rw [hm] at ME
  unfold UpPost
  have HF0 : Fr No w ((w.alloc (.cells #[.int .u8 e.v, .int .u8 e.kind, .slice s.qn e.nums.length s.cn, .slice s.qt e.texts.length s.ct] 25)).alloc (.cells #[.int .u8 0, .int .u8 0, .slice none 0 0, .slice none 0 0] 25)) := ((Fr.refl w).alloc _).alloc _
  have g1 := Go.heap_alloc_new (w.alloc (.cells #[.int .u8 e.v, .int .u8 e.kind, .slice s.qn e.nums.length s.cn, .slice s.qt e.texts.length s.ct] 25)) (.cells #[.int .u8 0, .int .u8 0, .slice none 0 0, .slice none 0 0] 25)
  simp only [World.size_alloc] at g1
  have HG := hid g1
  clear g1
  unfold evV at *
  go_enter Tryd.func20, Tryd.ntmps20
  go_wp2_with (first
    | (go_at_call 24; (with_reducible refine (ME.out _ HF0).mono ?_); rintro e1 w1 ⟨rfl, hf1⟩; obtain ⟨k0, k1, k2, k3, z0, z1, z2, z3⟩ := Go.Proofs.YtgjabbhgmecbbaaDoor.cells4 (hf1.heap0 HG.out)))
  obtain ⟨hst, hfr⟩ := store4 (hf1.heap0 HG.out) (.int .u8 0) (.int .u8 0) (.slice none 0 0) (.slice none 0 0)
  refine bodyPost_ret (results_row_tmp rfl _ _ (w.heap.size + 1) 25 _ (0, 0) _ (.int .i64 4) rfl hst rfl Tryd.underlying25 rfl (by kernel_rfl)) rfl ⟨⟨none, 0, none, 0⟩, rfl, EvNew.zero _ _, (HF0.trans hf1).newOnly (Nat.le_succ _) hfr⟩
set_option maxHeartbeats 4000000 in
set_option maxRecDepth 100000 in
theorem down_version (s : EvP) (e : Ev) (w : World) (he : EvAt w s e) (hkt : KT w) (hm : mayS e = true) (hr : rulesIs (e.v - 1) e.kind = false) :
    Calls Tryd.prog 20 #[evV s e] w (UpPost w (zeroE, 43)) := by
  have ME := hid (fun w1 (h : Fr No w w1) => may_any s e w1 (he.fr h) (hkt.fr h))
  rw [hm] at ME
  obtain ⟨_, hv1, hv3⟩ := may_is hm
  obtain ⟨d, hd⟩ : ∃ d, e.v = d + 1 := ⟨e.v - 1, by omega⟩
  have hwr : IntKind.u8.wrap ((e.v : Int) - 1) = (d : Int) := by rw [IntWalk.u8_in _ (by omega)]; omega
  have hd1 : e.v - 1 = d := by omega
  rw [hd1] at hr
  have RE := hid (fun w1 (h : Fr No w w1) => rules_any d e.kind w1 (by omega) he.k8 (hkt.fr h))
  unfold RulesPost at RE
  rw [hr] at RE
  unfold UpPost
  have HF0 : Fr No w ((w.alloc (.cells #[.int .u8 e.v, .int .u8 e.kind, .slice s.qn e.nums.length s.cn, .slice s.qt e.texts.length s.ct] 25)).alloc (.cells #[.int .u8 0, .int .u8 0, .slice none 0 0, .slice none 0 0] 25)) := ((Fr.refl w).alloc _).alloc _
  have g1 := Go.heap_alloc_new (w.alloc (.cells #[.int .u8 e.v, .int .u8 e.kind, .slice s.qn e.nums.length s.cn, .slice s.qt e.texts.length s.ct] 25)) (.cells #[.int .u8 0, .int .u8 0, .slice none 0 0, .slice none 0 0] 25)
  simp only [World.size_alloc] at g1
  have HG := hid g1
  clear g1
  have g0 : ((w.alloc (.cells #[.int .u8 e.v, .int .u8 e.kind, .slice s.qn e.nums.length s.cn, .slice s.qt e.texts.length s.ct] 25)).alloc (.cells #[.int .u8 0, .int .u8 0, .slice none 0 0, .slice none 0 0] 25)).heap[w.heap.size]? = some (.cells #[.int .u8 e.v, .int .u8 e.kind, .slice s.qn e.nums.length s.cn, .slice s.qt e.texts.length s.ct] 25 (0, 0)) := by
    rw [Below.heap_alloc _ _ _ (by simp)]; exact Go.heap_alloc_new _ _
  have HG0 := hid g0
  clear g0 hd hd1 hv1 hv3
  unfold evV at *
  go_enter Tryd.func20, Tryd.ntmps20
  go_wp2_with (first
    | (go_at_call 24; (with_reducible refine (ME.out _ HF0).mono ?_); rintro e1 w1 ⟨rfl, hf1⟩; obtain ⟨c0, c1, c2, c3, _, _, _, _⟩ := Go.Proofs.YtgjabbhgmecbbaaDoor.cells4 (hf1.heap0 HG0.out))
    | (go_at_call 35; (with_reducible refine (RE.out _ (HF0.trans hf1)).mono ?_); rintro e2 w2 ⟨q2, p2, rfl, _, hf2⟩; replace hf1 := hf1.trans hf2; clear c0 c1 c2 c3; obtain ⟨k0, k1, k2, k3, z0, z1, z2, z3⟩ := Go.Proofs.YtgjabbhgmecbbaaDoor.cells4 (hf1.heap0 HG.out)))
  obtain ⟨hst, hfr⟩ := store4 (hf1.heap0 HG.out) (.int .u8 0) (.int .u8 0) (.slice none 0 0) (.slice none 0 0)
  refine bodyPost_ret (results_row_tmp rfl _ _ (w.heap.size + 1) 25 _ (0, 0) _ (.int .i64 43) rfl hst rfl Tryd.underlying25 rfl (by kernel_rfl)) rfl ⟨⟨none, 0, none, 0⟩, rfl, EvNew.zero _ _, (HF0.trans hf1).newOnly (Nat.le_succ _) hfr⟩
end Go.Proofs.YtgjabbhgmecbbaaDoor
