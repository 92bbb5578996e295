/-
  An event in new memory: own of the statements.
-/
import Derived.Test.YtgjabbhgmecbbaaDoorMay
import Derived.Test.YtgjabbhgmecbbaaDoorRs
import Derived.Deep.RegionHeld3
import Derived.Deep.DrawnRows
import Derived.Laws.Rows
namespace Go.Proofs.YtgjabbhgmecbbaaDoor
open Go.RowKit

theorem infoI64 : (Tryd.prog.info? 2).map (fun i => (i.zero, i.size, i.bytes)) = some (some (.int .i64 0), 1, 8) := by kernel_rfl
theorem infoStr : (Tryd.prog.info? 9).map (fun i => (i.zero, i.size, i.bytes)) = some (some (.string ⟨#[]⟩), 1, 16) := by kernel_rfl
/-- An event whose slices lie in new memory. -/
structure EvNew (B : Nat) (w : World) (s : EvP) (e : Ev) : Prop where
  nums : Rs B w 2 (.slice s.qn e.nums.length s.cn) (e.nums.map numV)
  texts : Rs B w 9 (.slice s.qt e.texts.length s.ct) (e.texts.map strV)
theorem EvNew.fr {B : Nat} {w w' : World} {s : EvP} {e : Ev} (h : EvNew B w s e) (hf : Fr No w w') : EvNew B w' s e := ⟨h.nums.fr0 hf, h.texts.fr0 hf⟩
theorem EvNew.mono {B B' : Nat} {w : World} {s : EvP} {e : Ev} (h : EvNew B w s e) (hB : B' ≤ B) : EvNew B' w s e := ⟨h.nums.mono hB, h.texts.mono hB⟩
theorem EvNew.at_ {B : Nat} {w w0 : World} {s s0 : EvP} {e : Ev} (h : EvNew B w s e) (h0 : EvAt w0 s0 e) : EvAt w s e := ⟨h0.v8, h0.k8, h.nums.at_, h.texts.at_, h0.nl, h0.tl, h0.tx, h0.nr⟩
def OwnPost (w : World) (e : Ev) (en : Ending) (w' : World) : Prop := ∃ s, en = .returned (evV s e) ∧ EvNew w.heap.size w' s e ∧ Fr No w w'
theorem num_one (l : List Int) : ∀ u, u ∈ l.map numV → u.oneCell' = true := by
  intro u hu
  obtain ⟨n, _, rfl⟩ := List.mem_map.1 hu
  rfl
theorem str_one (l : List (List UInt8)) : ∀ u, u ∈ l.map strV → u.oneCell' = true := by
  intro u hu
  obtain ⟨n, _, rfl⟩ := List.mem_map.1 hu
  rfl

theorem cells4 {w : World} {b : Nat} {v0 v1 v2 v3 : Value} {t : TypeId} (h : w.heap[b]? = some (.cells #[v0, v1, v2, v3] t (0, 0))) :
    w.cell? ⟨b, 0, none⟩ = some v0 ∧ w.cell? ⟨b, 1, none⟩ = some v1 ∧ w.cell? ⟨b, 2, none⟩ = some v2 ∧ w.cell? ⟨b, 3, none⟩ = some v3 ∧
    w.frozen? ⟨b, 0, none⟩ = false ∧ w.frozen? ⟨b, 1, none⟩ = false ∧ w.frozen? ⟨b, 2, none⟩ = false ∧ w.frozen? ⟨b, 3, none⟩ = false := by
  refine ⟨?_, ?_, ?_, ?_, ?_, ?_, ?_, ?_⟩ <;> simp [World.cell?, World.frozen?, h]
theorem five_keep {W w' : World} {R b : Nat} {v0 v1 v2 v3 : Value} (c0 : W.cell? ⟨b, 0, none⟩ = some v0) (c1 : W.cell? ⟨b, 1, none⟩ = some v1) (c2 : W.cell? ⟨b, 2, none⟩ = some v2) (c3 : W.cell? ⟨b, 3, none⟩ = some v3) (hne : b ≠ R) (hF : Fr (Only R) W w') :
    Fr (Only R) W w' ∧ w'.cell? ⟨b, 0, none⟩ = some v0 ∧ w'.cell? ⟨b, 1, none⟩ = some v1 ∧ w'.cell? ⟨b, 2, none⟩ = some v2 ∧ w'.cell? ⟨b, 3, none⟩ = some v3 := ⟨hF, hF.cell c0 hne, hF.cell c1 hne, hF.cell c2 hne, hF.cell c3 hne⟩

theorem own_end {w W w1 w2 : World} {v k : Nat} {ns : List Int} {ts : List (List UInt8)} {q1 q2 : Option Addr} {p1 p2 : Nat} (HF : Fr No w W) (hsz : W.heap.size = w.heap.size + 2)
    (hr1 : Rs W.heap.size w1 2 (.slice q1 ns.length p1) (ns.map numV)) (h12 : Fr No w1 w2) (hr2 : Rs W.heap.size w2 9 (.slice q2 ts.length p2) (ts.map strV)) (hF2 : Fr No W w2)
    (g2 : W.heap[w.heap.size + 1]? = some (.cells #[.int .u8 0, .int .u8 0, .slice none 0 0, .slice none 0 0] 25 (0, 0))) :
    ((((w2.setCell ⟨w.heap.size + 1, 0, none⟩ (.int .u8 v)).setCell ⟨w.heap.size + 1, 1, none⟩ (.int .u8 k)).setCell ⟨w.heap.size + 1, 2, none⟩ (.slice q1 ns.length p1)).setCell ⟨w.heap.size + 1, 3, none⟩ (.slice q2 ts.length p2)).heap[w.heap.size + 1]? =
        some (.cells #[.int .u8 v, .int .u8 k, .slice q1 ns.length p1, .slice q2 ts.length p2] 25 (0, 0)) ∧
    OwnPost w ⟨v, k, ns, ts⟩ (.returned (.agg #[.int .u8 v, .int .u8 k, .slice q1 ns.length p1, .slice q2 ts.length p2]))
      ((((w2.setCell ⟨w.heap.size + 1, 0, none⟩ (.int .u8 v)).setCell ⟨w.heap.size + 1, 1, none⟩ (.int .u8 k)).setCell ⟨w.heap.size + 1, 2, none⟩ (.slice q1 ns.length p1)).setCell ⟨w.heap.size + 1, 3, none⟩ (.slice q2 ts.length p2)) := by
  have hO : Fr (Only (w.heap.size + 1)) w2 ((((w2.setCell ⟨w.heap.size + 1, 0, none⟩ (.int .u8 v)).setCell ⟨w.heap.size + 1, 1, none⟩ (.int .u8 k)).setCell ⟨w.heap.size + 1, 2, none⟩ (.slice q1 ns.length p1)).setCell ⟨w.heap.size + 1, 3, none⟩ (.slice q2 ts.length p2)) :=
    ((((Fr.refl _).set_only _ _).set_only _ _).set_only _ _).set_only _ _
  refine ⟨?_, ⟨⟨q1, p1, q2, p2⟩, rfl, ⟨?_, ?_⟩, ?_⟩⟩
  · have e0 := hF2.heap0 g2
    have e1 := heap_setCell_at (i := 0) (.int .u8 v) e0
    have e2 := heap_setCell_at (i := 1) (.int .u8 k) e1
    have e3 := heap_setCell_at (i := 2) (.slice q1 ns.length p1) e2
    have e4 := heap_setCell_at (i := 3) (.slice q2 ts.length p2) e3
    exact e4
  · exact ((hr1.fr0 h12).fr hO (fun k _ hk e => by have e : k = w.heap.size + 1 := e; omega)).mono (by omega)
  · exact (hr2.fr hO (fun k _ hk e => by have e : k = w.heap.size + 1 := e; omega)).mono (by omega)
  · exact (HF.trans hF2).newOnly (by omega) hO

attribute [local go_sem ↓] Go.wp_at_zero Go.wp_at_succ
set_option maxHeartbeats 4000000 in
set_option maxRecDepth 100000 in
theorem own5_any (s : EvP) (e : Ev) (w : World) (he : EvAt w s e) (hn : e.nums.length ≤ 1000) (ht : e.texts.length ≤ 1000) :
    Calls Tryd.prog 10 #[evV s e] w (OwnPost w e) := by
  obtain ⟨qn, cn, qt, ct⟩ := s
  obtain ⟨v, k, ns, ts⟩ := e
  obtain ⟨h1, h2, h3, h4, h5, h6, h7, h8⟩ := he
  simp only at h1 h2 h3 h4 h5 h6 h7 hn ht
  obtain ⟨i0, hi, hz0, hz1, hz2⟩ := info_parts infoI64
  obtain ⟨j0, hj, hy0, hy1, hy2⟩ := info_parts infoStr
  unfold evV
  simp only
  go_enter Tryd.func10, Tryd.ntmps10
  go_wp2_with fail
  generalize hW : (w.alloc (.cells #[.int .u8 v, .int .u8 k, .slice qn ns.length cn, .slice qt ts.length ct] 25)).alloc (.cells #[.int .u8 0, .int .u8 0, .slice none 0 0, .slice none 0 0] 25) = W
  have HF : Fr No w W := by subst hW; exact ((Fr.refl w).alloc _).alloc _
  have hsz : W.heap.size = w.heap.size + 2 := by subst hW; simp
  have g1 : W.heap[w.heap.size]? = some (.cells #[.int .u8 v, .int .u8 k, .slice qn ns.length cn, .slice qt ts.length ct] 25 (0, 0)) := by
    subst hW; rw [Below.heap_alloc _ _ _ (by simp)]; exact Go.heap_alloc_new _ _
  have g2 : W.heap[w.heap.size + 1]? = some (.cells #[.int .u8 0, .int .u8 0, .slice none 0 0, .slice none 0 0] 25 (0, 0)) := by
    subst hW
    have := Go.heap_alloc_new (w.alloc (.cells #[.int .u8 v, .int .u8 k, .slice qn ns.length cn, .slice qt ts.length ct] 25)) (.cells #[.int .u8 0, .int .u8 0, .slice none 0 0, .slice none 0 0] 25)
    simpa using this
  have C0 : W.cell? ⟨w.heap.size, 0, none⟩ = some (.int .u8 v) := cell_of_row W _ 0 _ _ (0, 0) g1
  have C1 : W.cell? ⟨w.heap.size, 1, none⟩ = some (.int .u8 k) := cell_of_row W _ 1 _ _ (0, 0) g1
  have C2 : W.cell? ⟨w.heap.size, 2, none⟩ = some (.slice qn ns.length cn) := cell_of_row W _ 2 _ _ (0, 0) g1
  have C3 : W.cell? ⟨w.heap.size, 3, none⟩ = some (.slice qt ts.length ct) := cell_of_row W _ 3 _ _ (0, 0) g1
  have S1 : ∀ w', Fr No W w' → Src Tryd.prog 1 22 (.slice qn ns.length cn) ns.length (ns.map numV) w' := fun w' hf => by
    have := Src.ofSl (P := Tryd.prog) (c := cn) Tryd.underlying22 (h3.fr (HF.trans hf)) (num_one ns)
    simpa using this
  have S2 : ∀ w', Fr No W w' → Src Tryd.prog 1 23 (.slice qt ts.length ct) ts.length (ts.map strV) w' := fun w' hf => by
    have := Src.ofSl (P := Tryd.prog) (c := ct) Tryd.underlying23 (h4.fr (HF.trans hf)) (str_one ts)
    simpa using this
  have HS1 := hid S1
  have HS2 := hid S2
  have HG := hid g2
  have m1 : ns.length ≤ maxLen := by unfold maxLen; omega
  have m2 : ns.length * 8 ≤ 140737488355328 := by omega
  have m3 : ts.length ≤ maxLen := by unfold maxLen; omega
  have m4 : ts.length * 16 ≤ 140737488355328 := by omega
  have HSZ := hid hsz
  clear hW g1 g2 S1 S2 h1 h2 h3 h4 h5 h6 h7 h8 hsz
  go_region_held3 (fun w' => Fr (Only (w.heap.size + 1)) W w' ∧ w'.cell? ⟨w.heap.size, 0, none⟩ = some (.int .u8 v) ∧ w'.cell? ⟨w.heap.size, 1, none⟩ = some (.int .u8 k) ∧ w'.cell? ⟨w.heap.size, 2, none⟩ = some (.slice qn ns.length cn) ∧ w'.cell? ⟨w.heap.size, 3, none⟩ = some (.slice qt ts.length ct))
    ((go_split_ands; refine five_keep C0 C1 C2 C3 (by omega) ?_; (try (refine Fr.set_only ?_ _ _; refine Fr.set_only ?_ _ _; refine Fr.set_only ?_ _ _; refine Fr.set_only ?_ _ _)); refine Fr.of0 ?_; repeat (first | exact Fr.refl _ | assumption | refine Fr.drew ?_ | refine Fr.alloc ?_ _)))
    (first
      | ((refine step_append0 (by rfl) _ _ _ _ (by rfl) 2 i0 _ 8 Tryd.underlying22 hi hz0 hz1 hz2 (by rfl) _ (by rfl) (.slice qn ns.length cn) ns.length (ns.map numV) (by rfl) HS1.out m1 m2 ?_ ?_; · (repeat (first | exact Fr.refl _ | assumption | refine Fr.drew ?_ | refine Fr.alloc ?_ _))); intro q1 p1 w1 hr1 hf1 hF1)
      | ((refine step_append0 (by rfl) _ _ _ _ (by rfl) 9 j0 _ 16 Tryd.underlying23 hj hy0 hy1 hy2 (by rfl) _ (by rfl) (.slice qt ts.length ct) ts.length (ts.map strV) (by rfl) HS2.out m3 m4 ?_ ?_; · (repeat (first | exact Fr.refl _ | assumption | refine Fr.drew ?_ | refine Fr.alloc ?_ _))); intro q2 p2 w2 hr2 hf2 hF2; obtain ⟨k0, k1, k2, k3, f0, f1, f2, f3⟩ := cells4 (hF2.heap0 HG.out)))
  all_goals
    obtain ⟨E1, E2⟩ := own_end (v := v) (k := k) HF HSZ.out hr1 (by first | exact hf2 | exact ((Fr.refl _).alloc _).trans hf2 | exact ((Fr.refl _).drew).trans hf2 | exact (((Fr.refl _).alloc _).drew).trans hf2) hr2 hF2 HG.out
    have HE := hid E2
    clear E2 k0 k1 k2 k3 f0 f1 f2 f3 hr1 hr2 hf1 hf2 hF1 hF2 C0 C1 C2 C3
    go_wp2_with fail
    exact bodyPost_ret (Go.results_cell_row rfl _ _ (w.heap.size + 1) 25 _ (0, 0) _ rfl E1 Tryd.underlying25 rfl (by kernel_rfl)) rfl HE.out
end Go.Proofs.YtgjabbhgmecbbaaDoor
