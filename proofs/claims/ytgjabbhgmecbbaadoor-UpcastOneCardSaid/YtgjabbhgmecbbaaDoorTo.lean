/-
  upcast.To: the walk. No statement of the seat is proved here.
-/
import Derived.Test.YtgjabbhgmecbbaaDoorDown2
import Derived.Deep.LoopGhost
namespace Go.Proofs.YtgjabbhgmecbbaaDoor
open Go.RowKit

/-- What To tells. -/
def toR (e : Ev) (v : Nat) : Ev × Int := if mayS e then (if v < 1 ∨ 3 < v then (zeroE, 43) else match toS e v with | some x => (x, 0) | none => (zeroE, 43)) else (zeroE, 4)
theorem toS_up {x : Ev} {v : Nat} (h : x.v < v) : toS (upS x) v = toS x v := by
  unfold toS
  have e1 : (upS x).v = x.v + 1 := rfl
  rw [e1, if_pos (by omega), if_pos (by omega)]
  obtain ⟨n, hn⟩ : ∃ n, v - x.v = n + 1 := ⟨v - x.v - 1, by omega⟩
  rw [hn, show v - (x.v + 1) = n by omega]
  rfl
theorem toS_down {x : Ev} {v : Nat} (h : v < x.v) (hd : downIs x = true) : toS (downE x) v = toS x v := by
  unfold toS
  have e1 : (downE x).v = x.v - 1 := rfl
  obtain ⟨n, hn⟩ : ∃ n, x.v - v = n + 1 := ⟨x.v - v - 1, by omega⟩
  rw [e1, if_neg (show ¬ x.v ≤ v by omega), hn]
  show _ = (if downIs x then downTo n (downE x) else none)
  rw [if_pos hd]
  by_cases hx : x.v - 1 ≤ v
  · rw [if_pos hx]
    have : n = 0 := by omega
    subst this
    rw [show v - (x.v - 1) = 0 by omega]
    rfl
  · rw [if_neg hx]
    congr 1
    omega
theorem toS_none {x : Ev} {v : Nat} (h : v < x.v) (hd : downIs x = false) : toS x v = none := by
  unfold toS
  obtain ⟨n, hn⟩ : ∃ n, x.v - v = n + 1 := ⟨x.v - v - 1, by omega⟩
  rw [if_neg (show ¬ x.v ≤ v by omega), hn]
  show (if downIs x then downTo n (downE x) else none) = none
  rw [hd]
  rfl
theorem toS_self {x : Ev} {v : Nat} (h : x.v = v) : toS x v = some x := by
  unfold toS
  rw [if_pos (by omega), show v - x.v = 0 by omega]
  rfl
theorem downIs_down {x : Ev} (hd : downIs x = true) : mayS (downE x) = true ∧ (downE x).v + 1 = x.v := by
  obtain ⟨d, h1, h2, h3⟩ := downIs_iff.1 hd
  rw [down_of h1 h2 h3]
  exact ⟨h1, by rw [← h3]; rfl⟩

set_option maxHeartbeats 4000000 in
set_option maxRecDepth 100000 in
theorem to_form (s : EvP) (e : Ev) (v : Nat) (w : World) (he : EvAt w s e) (hkt : KT w) (hm : mayS e = false) :
    Calls Tryd.prog 14 #[evV s e, .int .u8 v] w (UpPost w (zeroE, 4)) := by
  have ME := hid (fun w1 (h : Fr No w w1) => may_any s e w1 (he.fr h) (hkt.fr h))
  rw [hm] at ME
  unfold UpPost
  have HF0 : Fr No w ((w.alloc (.cells #[.int .u8 e.v, .int .u8 e.kind, .slice s.qn e.nums.length s.cn, .slice s.qt e.texts.length s.ct] 25)).alloc (.cells #[.int .u8 0, .int .u8 0, .slice none 0 0, .slice none 0 0] 25)) := ((Fr.refl w).alloc _).alloc _
  have g1 := Go.heap_alloc_new (w.alloc (.cells #[.int .u8 e.v, .int .u8 e.kind, .slice s.qn e.nums.length s.cn, .slice s.qt e.texts.length s.ct] 25)) (.cells #[.int .u8 0, .int .u8 0, .slice none 0 0, .slice none 0 0] 25)
  simp only [World.size_alloc] at g1
  have HG := hid g1
  clear g1
  unfold evV at *
  go_enter Tryd.func14, Tryd.ntmps14
  go_wp2_with (first
    | (go_at_call 24; (with_reducible refine (ME.out _ HF0).mono ?_); rintro e1 w1 ⟨rfl, hf1⟩; obtain ⟨k0, k1, k2, k3, z0, z1, z2, z3⟩ := Go.Proofs.YtgjabbhgmecbbaaDoor.cells4 (hf1.heap0 HG.out)))
  obtain ⟨hst, hfr⟩ := store4 (hf1.heap0 HG.out) (.int .u8 0) (.int .u8 0) (.slice none 0 0) (.slice none 0 0)
  refine bodyPost_ret (results_row_tmp rfl _ _ (w.heap.size + 1) 25 _ (0, 0) _ (.int .i64 4) rfl hst rfl Tryd.underlying25 rfl (by kernel_rfl)) rfl ⟨⟨none, 0, none, 0⟩, rfl, EvNew.zero _ _, (HF0.trans hf1).newOnly (Nat.le_succ _) hfr⟩

set_option maxHeartbeats 4000000 in
set_option maxRecDepth 100000 in
theorem to_version (s : EvP) (e : Ev) (v : Nat) (w : World) (he : EvAt w s e) (hkt : KT w) (hm : mayS e = true) (hv : v < 1 ∨ 3 < v) :
    Calls Tryd.prog 14 #[evV s e, .int .u8 v] w (UpPost w (zeroE, 43)) := by
  have ME := hid (fun w1 (h : Fr No w w1) => may_any s e w1 (he.fr h) (hkt.fr h))
  rw [hm] at ME
  unfold UpPost
  have HF0 : Fr No w ((w.alloc (.cells #[.int .u8 e.v, .int .u8 e.kind, .slice s.qn e.nums.length s.cn, .slice s.qt e.texts.length s.ct] 25)).alloc (.cells #[.int .u8 0, .int .u8 0, .slice none 0 0, .slice none 0 0] 25)) := ((Fr.refl w).alloc _).alloc _
  have g1 := Go.heap_alloc_new (w.alloc (.cells #[.int .u8 e.v, .int .u8 e.kind, .slice s.qn e.nums.length s.cn, .slice s.qt e.texts.length s.ct] 25)) (.cells #[.int .u8 0, .int .u8 0, .slice none 0 0, .slice none 0 0] 25)
  simp only [World.size_alloc] at g1
  have HG := hid g1
  clear g1
  have hC : decide ((v : Int) < 1) = true ∨ (decide ((v : Int) < 1) = false ∧ decide ((3 : Int) < (v : Int)) = true) := by
    by_cases h : v < 1
    · exact .inl (by simp; omega)
    · exact .inr ⟨by simp; omega, by simp; omega⟩
  clear hv
  unfold evV at *
  rcases hC with d1 | ⟨d1, d2⟩
  all_goals
    go_enter Tryd.func14, Tryd.ntmps14
    go_wp2_with (first
      | (go_at_call 24; (with_reducible refine (ME.out _ HF0).mono ?_); rintro e1 w1 ⟨rfl, hf1⟩; obtain ⟨k0, k1, k2, k3, z0, z1, z2, z3⟩ := Go.Proofs.YtgjabbhgmecbbaaDoor.cells4 (hf1.heap0 HG.out)))
    obtain ⟨hst, hfr⟩ := store4 (hf1.heap0 HG.out) (.int .u8 0) (.int .u8 0) (.slice none 0 0) (.slice none 0 0)
    refine bodyPost_ret (results_row_tmp rfl _ _ (w.heap.size + 1) 25 _ (0, 0) _ (.int .i64 43) rfl hst rfl Tryd.underlying25 rfl (by kernel_rfl)) rfl ⟨⟨none, 0, none, 0⟩, rfl, EvNew.zero _ _, (HF0.trans hf1).newOnly (Nat.le_succ _) hfr⟩
end Go.Proofs.YtgjabbhgmecbbaaDoor
