/-
  upcast.Lowest: the walk. No statement of the seat is proved here.
-/
import Derived.Test.YtgjabbhgmecbbaaDoorEach
namespace Go.Proofs.YtgjabbhgmecbbaaDoor
open Go.RowKit

/-- The least version, from v on, in which a list can be said. -/
def lowO (l : List (EvP × Ev)) (v : Nat) : Option Nat := if v < 1 then none else (List.range' v (4 - v)).find? (allOK l)
theorem lowO_zero (l : List (EvP × Ev)) : lowO l 0 = none := rfl
theorem lowO_big {l : List (EvP × Ev)} {v : Nat} (h : 3 < v) : lowO l v = none := by
  unfold lowO
  rw [if_neg (by omega), show 4 - v = 0 by omega]
  rfl
theorem lowO_step {l : List (EvP × Ev)} {v : Nat} (h1 : 1 ≤ v) (h3 : v ≤ 3) : lowO l v = if allOK l v then some v else lowO l (v + 1) := by
  unfold lowO
  obtain ⟨n, hn⟩ : ∃ n, 4 - v = n + 1 := ⟨3 - v, by omega⟩
  rw [if_neg (show ¬ v < 1 by omega), if_neg (show ¬ v + 1 < 1 by omega), hn, List.range'_succ, List.find?_cons, show 4 - (v + 1) = n by omega]
  cases allOK l v <;> rfl
def LowPost (w : World) (l : List (EvP × Ev)) (v : Nat) (en : Ending) (w' : World) : Prop :=
  Fr No w w' ∧ ((anyBad l = true ∧ en = .returned (.tuple #[.int .u8 0, .slice none 0 0, .int .i64 4])) ∨
  (anyBad l = false ∧ lowO l v = none ∧ en = .returned (.tuple #[.int .u8 0, .slice none 0 0, .int .i64 43])) ∨
  (anyBad l = false ∧ ∃ (u : Nat) (L : List (EvP × Ev)) (q : Option Addr) (cap : Nat), lowO l v = some u ∧ en = .returned (.tuple #[.int .u8 u, .slice q L.length cap, .int .i64 0]) ∧
    L.map Prod.snd = l.map (fun p => (toR p.2 u).1) ∧ LsRow w.heap.size w' (.slice q L.length cap) L))
theorem cell1 {w : World} {b : Nat} {v : Value} {t : TypeId} (h : w.heap[b]? = some (.cells #[v] t (0, 0))) : w.cell? ⟨b, 0, none⟩ = some v ∧ w.frozen? ⟨b, 0, none⟩ = false := by
  refine ⟨?_, ?_⟩ <;> simp [World.cell?, World.frozen?, h]

set_option maxHeartbeats 8000000 in
set_option maxRecDepth 100000 in
theorem lowest_any (l : List (EvP × Ev)) (q : Option Addr) (cap v : Nat) (w : World) (hl : LsAt w q l) (hkt : KT w) (hn : l.length ≤ 1000000) (hv : v ≤ 255) :
    Calls Tryd.prog 16 #[.slice q l.length cap, .int .u8 v] w (LowPost w l v) := by
  have hmf : ∀ (fn : Fn) (first cp : Array Value) (w : World), (Instr.makeFunc fn first cp).run Tryd.prog w = .ok (.func fn first cp) w := fun _ _ _ _ => rfl
  have CA := hid (fun w1 (h : Fr No w w1) => contains_any l q cap w1 (hl.fr h) (hkt.fr h) hn)
  have EA := hid (fun u w1 (h : Fr No w w1) (hc : w1.cell? ⟨w.heap.size, 0, none⟩ = some (.int .u8 (u : Nat))) => each_any l q cap w.heap.size u w1 (hl.fr h) (hkt.fr h) hn hc)
  have g0 := Go.heap_alloc_new w (.cells #[.int .u8 v] 5)
  have HF0 : Fr No w (w.alloc (.cells #[.int .u8 v] 5)) := (Fr.refl w).alloc _
  have HG := hid g0
  clear g0 hl hkt
  rcases hbad : anyBad l with _ | _
  · rw [hbad] at CA
    have HBAD := hid hbad
    clear hbad
    go_enter Tryd.func16, Tryd.ntmps16
    go_wp2_with (first | (go_at_call 31; (with_reducible refine (CA.out _ HF0).mono ?_); rintro e1 w1 ⟨rfl, hf1⟩))
    clear CA
    go_loopg [] 4 (fun k wr => ∃ u : Nat, Hid (lowO l u = lowO l v) ∧ u ≤ 255 ∧ (1 ≤ u → u ≤ 3 → 4 ≤ u + k) ∧ wr.heap[w.heap.size]? = some (.cells #[.int .u8 u] 5 (0, 0)) ∧ Fr No w wr)
    case atStart => exact ⟨v, hid rfl, hv, by omega, hf1.heap0 HG.out, HF0.trans hf1⟩
    case round =>
      obtain ⟨u, HU, hu, hk, hg, hf⟩ := hrel
      obtain ⟨k0, f0⟩ := cell1 hg
      have HGu := hid hg
      clear hg
      by_cases h1 : u < 1
      · have d1 : decide ((1 : Int) ≤ (u : Int)) = false := by simp; omega
        have HN : Hid (lowO l v = none) := hid (by rw [← HU.out, show u = 0 by omega]; rfl)
        clear h1 hk
        go_wp2_with fail
        go_ret3
        exact ⟨hf, .inr (.inl ⟨HBAD.out, HN.out, rfl⟩)⟩
      · by_cases h3 : 3 < u
        · have d1 : decide ((1 : Int) ≤ (u : Int)) = true := by simp; omega
          have d2 : decide ((u : Int) ≤ 3) = false := by simp; omega
          have HN : Hid (lowO l v = none) := hid (by rw [← HU.out]; exact lowO_big h3)
          clear h1 hk
          go_wp2_with fail
          go_ret3
          exact ⟨hf, .inr (.inl ⟨HBAD.out, HN.out, rfl⟩)⟩
        · have d1 : decide ((1 : Int) ≤ (u : Int)) = true := by simp; omega
          have d2 : decide ((u : Int) ≤ 3) = true := by simp; omega
          have EU := hid (EA.out u wr hf k0)
          have hu1 : 1 ≤ u := by omega
          have hu3 : u ≤ 3 := by omega
          have hk4 := hk hu1 hu3
          clear hk
          have hst := lowO_step (l := l) (v := u) (by omega) (by omega)
          rw [HU.out] at hst
          have HST := hid hst
          clear hst
          rcases hok : allOK l u with _ | _
          · have EF : Hid (Calls Tryd.prog 33 #[.slice q l.length cap, .func (.func 34) #[] #[.pointer (some ⟨w.heap.size, 0, none⟩)]] wr (fun en w' => ∃ f : Int, f ≠ 0 ∧ en = .returned (.tuple #[.slice none 0 0, .int .i64 f]) ∧ Fr No wr w')) := hid (EU.out.mono (fun en w' h => by
              rcases h with ⟨h, _⟩ | ⟨_, f, h1, h2, h3⟩
              · rw [hok] at h; cases h
              · exact ⟨f, h1, h2, h3⟩))
            rw [hok] at HST
            have HST2 : Hid (lowO l (u + 1) = lowO l v) := hid (by have := HST.out; simpa using this.symm)
            have i1 : (u : Int) + 1 ≤ 255 := by omega
            have i2 : (0 : Int) ≤ (u : Int) + 1 := by omega
            clear hok EU h1 h3
            go_wp2_with (first | (go_at_call 33; (with_reducible refine EF.out.mono ?_); rintro e2 w2 ⟨f, hf0, rfl, hfE⟩; have z1 : (f == 0) = false := (by rw [beq_eq_false_iff_ne]; exact hf0); clear k0 f0 hf0; obtain ⟨k0, f0⟩ := cell1 (hfE.heap0 HGu.out)))
            have hgn := heap_setCell_at (i := 0) (.int .u8 ((u + 1 : Nat) : Int)) (hfE.heap0 HGu.out)
            have HGN := hid hgn
            have hlt : 0 < gk := by omega
            clear hgn
            go_roundg (gk - 1)
            case measure => omega
            case rel => exact ⟨u + 1, HST2, by omega, by omega, by simpa using HGN.out, (hf.trans hfE).newOnly (Nat.le_refl _) ((Fr.refl _).set_only _ _)⟩
          · have EF : Hid (Calls Tryd.prog 33 #[.slice q l.length cap, .func (.func 34) #[] #[.pointer (some ⟨w.heap.size, 0, none⟩)]] wr (fun en w' => ∃ (L : List (EvP × Ev)) (q : Option Addr) (cap : Nat), en = .returned (.tuple #[.slice q L.length cap, .int .i64 0]) ∧ L.map Prod.snd = l.map (fun p => (toR p.2 u).1) ∧ LsRow wr.heap.size w' (.slice q L.length cap) L ∧ Fr No wr w')) := hid (EU.out.mono (fun en w' h => by
              rcases h with ⟨_, L, q', cap', h1, h2, h3, h4⟩ | ⟨h, _⟩
              · exact ⟨L, q', cap', h1, h2, h3, h4⟩
              · rw [hok] at h; cases h))
            rw [hok, if_pos rfl] at HST
            clear hok EU h1 h3
            go_wp2_with (first | (go_at_call 33; (with_reducible refine EF.out.mono ?_); rintro e2 w2 ⟨L, q2, c2, rfl, hL, hrow, hfE⟩; have HL := hid hL; have HROW := hid hrow; clear k0 f0 hL hrow; obtain ⟨k0, f0⟩ := cell1 (hfE.heap0 HGu.out)))
            go_ret3
            exact ⟨hf.trans hfE, .inr (.inr ⟨HBAD.out, u, L, q2, c2, HST.out, rfl, HL.out, HROW.out.mono hf.size⟩)⟩
  · rw [hbad] at CA
    have HBAD := hid hbad
    clear hbad
    go_enter Tryd.func16, Tryd.ntmps16
    go_wp2_with (first | (go_at_call 31; (with_reducible refine (CA.out _ HF0).mono ?_); rintro e1 w1 ⟨rfl, hf1⟩))
    go_ret3
    exact ⟨HF0.trans hf1, .inl ⟨HBAD.out, rfl⟩⟩
end Go.Proofs.YtgjabbhgmecbbaaDoor
