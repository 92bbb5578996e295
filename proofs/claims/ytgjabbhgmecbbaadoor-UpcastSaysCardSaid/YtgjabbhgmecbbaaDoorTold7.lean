/-
  event and told of souklaw07; events of literals. No statement of the seat is proved here.
-/
import Derived.Test.YtgjabbhgmecbbaaDoorLowest
namespace Go.Proofs.YtgjabbhgmecbbaaDoor
open Go.RowKit

theorem event7_any (v k : Int) (x : Value) (q : Option Addr) (n cap : Nat) (hx : x = .slice q n cap) (w : World) :
    Calls Tryd.prog 25 #[.int .u8 v, .int .u8 k, x] w fun en w' => en = .returned (.agg #[.int .u8 v, .int .u8 k, .slice q n cap, .slice none 0 0]) ∧ Fr No w w' := by
  subst hx
  go_enter Tryd.func25, Tryd.ntmps25
  go_wp2
  refine bodyPost_ret (Go.results_cell_row rfl _ _ w.heap.size 25 _ (0, 0) _ rfl (Go.heap_alloc_new _ _) Tryd.underlying25 rfl (by kernel_rfl)) rfl ⟨rfl, (Fr.refl w).alloc _⟩

set_option maxHeartbeats 2000000 in
set_option maxRecDepth 100000 in
theorem told7_any (s t : EvP) (e f : Ev) (n : Int) (w : World) (hf : n = 0 → EvAt w s e ∧ EvAt w t f) :
    Calls Tryd.prog 21 #[evV s e, .int .i64 n, evV t f] w fun en w' => en = .returned (.bool (decide (n = 0) && sameS e f)) ∧ Fr No w w' := by
  have HF0 : Fr No w ((w.alloc (.cells #[.int .u8 e.v, .int .u8 e.kind, .slice s.qn e.nums.length s.cn, .slice s.qt e.texts.length s.ct] 25)).alloc (.cells #[.int .u8 f.v, .int .u8 f.kind, .slice t.qn f.nums.length t.cn, .slice t.qt f.texts.length t.ct] 25)) := ((Fr.refl w).alloc _).alloc _
  by_cases hn : n = 0
  · subst hn
    have SA := hid (fun w1 (h : Fr No w w1) => same_any s t e f w1 ((hf rfl).1.fr h) ((hf rfl).2.fr h))
    rw [decide_eq_true rfl, Bool.true_and]
    generalize sameS e f = A at SA ⊢
    clear hf
    unfold evV at *
    go_enter Tryd.func21, Tryd.ntmps21
    go_wp2_with (first | (go_at_call 22; (with_reducible refine (SA.out _ HF0).mono ?_); rintro e1 w1 ⟨rfl, hf1⟩))
    go_ret
    exact ⟨rfl, HF0.trans hf1⟩
  · have z1 : (n == 0) = false := by rw [beq_eq_false_iff_ne]; exact hn
    rw [decide_eq_false hn, Bool.false_and]
    clear hn hf
    unfold evV at *
    go_enter Tryd.func21, Tryd.ntmps21
    go_wp2_with fail
    go_ret
    exact ⟨rfl, HF0⟩

theorem slat_lit {w : World} {b : Nat} {cs : Array Value} {t : TypeId} {xs : List Value} (h : w.heap[b]? = some (.cells cs t (0, 0))) (hx : cs.toList = xs) : SlAt w (some ⟨b, 0, none⟩) xs := fun i x hi => by
  refine ⟨b, 0, rfl, ?_⟩
  rw [cell_of_row w b (0 + i) cs t (0, 0) h, Nat.zero_add]
  subst hx
  simpa using hi
theorem evAt_lit {w : World} {s : EvP} {v k : Nat} {ns : List Int} {ts : List (List UInt8)} (hv : v ≤ 255) (hk : k ≤ 255) (h1 : SlAt w s.qn (ns.map numV)) (h2 : SlAt w s.qt (ts.map strV))
    (hn : (decide (ns.length ≤ 100) && (decide (ts.length ≤ 100) && ((ns.all fun n => decide (0 ≤ n) && decide (n ≤ 1000000)) && ts.all fun s => decide (s.length ≤ 100)))) = true) : EvAt w s ⟨v, k, ns, ts⟩ := by
  simp only [Bool.and_eq_true, decide_eq_true_eq, List.all_eq_true] at hn
  obtain ⟨a, b, c, d⟩ := hn
  exact ⟨hv, hk, h1, h2, by show ns.length ≤ _; omega, by show ts.length ≤ _; omega, fun s hs => by have := d s hs; omega, fun n hn => by have := c n hn; omega⟩
end Go.Proofs.YtgjabbhgmecbbaaDoor
