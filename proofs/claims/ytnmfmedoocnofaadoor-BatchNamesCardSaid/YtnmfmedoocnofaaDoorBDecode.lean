/-
  batch.Decode: the walk: a range over the iterator. No statement of the seat is proved here.
-/
import Derived.Test.YtnmfmedoocnofaaDoorBRange
import Derived.Test.YtnmfmedoocnofaaDoorBMay
namespace Go.Proofs.YtnmfmedoocnofaaDoor
open Go.RowKit
attribute [local go_sem] Oper.semAt_some

theorem wpListIn_append_fr {F : Fence} {rm : Nat} {P : Program} (w : World) {ops : Array Oper} {rest : List Oper} {o : Oper} {a : Act} {Q : Exit → Act → World → Prop} (hgd : o.guard = none) (s x : Operand) (t : TypeId)
    (ho : o.op = .call { callee := .builtin .append, args := #[s, x], argTypes := #[t, t] })
    (e : TypeId) (i : TypeInfo) (z : Value) (size bytes : Nat) (ht : P.underlying t = some (.slice e)) (hi : P.info? e = some i) (hz : i.zero = some z)
    (hsize : i.size = size) (hby : i.bytes = bytes) (hzs : z.cells.size = size) (_hsz : 0 < size)
    (v : Value) (n : Nat) (xs : List Value) (hs : a.eval s = v) (hown : Own w e size v n xs)
    (ad : Addr) (m c : Nat) (news : List Value) (hx : a.eval x = .slice (some ad) m c) (hl : news.length = m * size) (hnews : ∀ j u, news[j]? = some u → w.cell? (ad.add j) = some u) (h1 : ∀ u ∈ news, u.oneCell' = true)
    (h63 : n + m ≤ maxLen) (hbytes : (n + m) * bytes ≤ 140737488355328)
    (h : ∀ v' w', Own w' e size v' (n + m) (xs ++ news) → Fr (OnlyS v.ownBlock) w w' → (v'.ownBlock = v.ownBlock ∨ v'.ownBlock = some w.heap.size) → wpListIn F rm P ops Q rest (a.put o.dst v') w') : wpListIn F rm P ops Q (o :: rest) a w := by
  refine wpListIn_plain hgd fun K hK => ?_
  obtain ⟨v', w', hr, h2, h3, h4⟩ := run_append_fr (P := P) w t t o.type e i z size bytes ht hi hz hsize hby hzs v n xs hown _ m news (Src.ofSlice w ht ad m c news hl hnews h1) h63 hbytes
  unfold Oper.wpIn
  refine ⟨?_, ?_⟩
  · simp [Oper.about, ho, resolve, Target.leads, Sem.run_pure]
  · rw [Oper.semAt_plain F _ _ (by rw [ho]; intro c hc'; cases hc')]
    simp [execOp, ho, resolve, invoke, builtin, hs, hx, hr, Result.andThen]
    exact hK _ _ (h v' w' h2 h3 h4)

/-- A row of events stays where no block of such a kind turns. -/
theorem LsRow.frTy {X : Nat → Prop} {B : Nat} {w w' : World} {v : Value} {l : List (EvP × Ev)} (h : LsRow B w v l) (hf : Fr X w w')
    (hx : ∀ k cur t, w.heap[k]? = some (.cells cur t (0, 0)) → (t = 2 ∨ t = 9 ∨ t = 34) → ¬ X k) : LsRow B w' v l := by
  refine ⟨h.own.fr hf (fun k hk => ?_), h.new, fun p hp => ⟨(h.evs p hp).nums.frTy hf (fun k cur hk => hx k cur _ hk (.inl rfl)), (h.evs p hp).texts.frTy hf (fun k cur hk => hx k cur _ hk (.inr (.inl rfl)))⟩, fun p hp k hk => Nat.lt_of_lt_of_le (h.lt p hp k hk) hf.size, h.ap⟩
  rcases h.own.2 with ⟨rfl, _⟩ | ⟨g, cap, cur, rfl, _, hg, _⟩
  · cases hk
  · obtain rfl : g = k := by simpa [Value.ownBlock] using hk
    exact hx g _ _ hg (.inr (.inr rfl))

set_option maxHeartbeats 1000000 in
theorem events_any (s : List UInt8) (w : World) :
    Calls Tryd.prog 33 #[strV s] w fun en w' => en = .returned (.func (.func 58) #[] #[.pointer (some ⟨w.heap.size, 0, none⟩)]) ∧ w' = w.alloc (.cells #[strV s] 9) := by
  have hmf : ∀ (fn : Fn) (first cp : Array Value) (w : World), (Instr.makeFunc fn first cp).run Tryd.prog w = .ok (.func fn first cp) w := fun _ _ _ _ => rfl
  unfold strV
  go_enter Tryd.func33, Tryd.ntmps33
  go_wp2_with fail
  go_ret
  exact ⟨rfl, rfl⟩

/-- What lies in the boxes of Decode between two rounds: both results, the row so far. -/
structure DecV (w W : World) (v : Value) (pre : List (EvP × Ev)) : Prop where
  r2 : W.heap[w.heap.size]? = some (.cells #[.slice none 0 0] 26 (0, 0))
  r3 : W.heap[w.heap.size + 1]? = some (.cells #[.int .i64 0] 23 (0, 0))
  r4 : W.heap[w.heap.size + 1 + 1]? = some (.cells #[v] 26 (0, 0))
  row : LsRow w.heap.size W v pre
  fr : Fr No w W
def DecJ (w W : World) (pre : List (EvP × Ev)) : Prop := ∃ v, DecV w W v pre
/-- Behind an error. -/
structure DecX (w W : World) (k : Nat) : Prop where
  r2 : W.heap[w.heap.size]? = some (.cells #[.slice none 0 0] 26 (0, 0))
  r3 : W.heap[w.heap.size + 1]? = some (.cells #[.int .i64 k] 23 (0, 0))
  fr : Fr No w W
/-- A block that is none of Decode's. -/
def Strange (W : World) (k : Nat) : Prop := ∀ cur t, W.heap[k]? = some (.cells cur t (0, 0)) → t = 116
theorem DecV.frX {X : Nat → Prop} {w W W' : World} {v : Value} {pre : List (EvP × Ev)} (h : DecV w W v pre) (hf : Fr X W W') (hx : ∀ k, X k → Strange W k) (hn : ∀ k, X k → w.heap.size ≤ k) : DecV w W' v pre := by
  refine ⟨hf.heap h.r2 (fun hX => ?_), hf.heap h.r3 (fun hX => ?_), hf.heap h.r4 (fun hX => ?_), h.row.frTy hf (fun k cur t hk ht hX => ?_), h.fr.trans' hf (fun i hi hX => ?_)⟩
  · exact absurd (hx _ hX _ _ h.r2) (by decide)
  · exact absurd (hx _ hX _ _ h.r3) (by decide)
  · exact absurd (hx _ hX _ _ h.r4) (by decide)
  · have := hx _ hX _ _ hk
    subst this
    exact absurd ht (by decide)
  · have := hn i hX
    omega
theorem DecJ.frX {X : Nat → Prop} {w W W' : World} {pre : List (EvP × Ev)} (h : DecJ w W pre) (hf : Fr X W W') (hx : ∀ k, X k → Strange W k) (hn : ∀ k, X k → w.heap.size ≤ k) : DecJ w W' pre := by
  obtain ⟨v, h⟩ := h
  exact ⟨v, h.frX hf hx hn⟩
theorem DecX.frX {X : Nat → Prop} {w W W' : World} {k : Nat} (h : DecX w W k) (hf : Fr X W W') (hx : ∀ k, X k → Strange W k) (hn : ∀ k, X k → w.heap.size ≤ k) : DecX w W' k := by
  refine ⟨hf.heap h.r2 (fun hX => ?_), hf.heap h.r3 (fun hX => ?_), h.fr.trans' hf (fun i hi hX => ?_)⟩
  · exact absurd (hx _ hX _ _ h.r2) (by decide)
  · exact absurd (hx _ hX _ _ h.r3) (by decide)
  · have := hn i hX
    omega
theorem fr_putObj (w : World) (r : Nat) (o : Obj) : Fr (Only r) w (w.putObj r o) := ⟨rfl, rfl, rfl, Nat.le_of_eq (World.putObj_size).symm, fun _ _ hn => World.putObj_heap_other hn⟩
theorem strange_of {W : World} {k : Nat} {o : Obj} (hk : W.heap[k]? = some o) (ho : o.isCells = false) : Strange W k := fun cur t h => by
  rw [hk] at h
  cases h
  cases ho

theorem strange_rd {W : World} {k b : Nat} {r : Rd} (h : RdIs W b r) (hk : k = b) : Strange W k := fun cur t hc => by
  subst hk
  rw [h.1] at hc
  simp at hc
  exact hc.2.symm

def evPost (I : List (EvP × Ev) → World → Prop) (xs : List (EvP × Ev)) (b : Nat) (r : Rd) (W : World) : Exit → Act → World → Prop
  | .normal, _, W' => I xs W' ∧ RdIs W' b r ∧ KeepsOthers W W'
  | _, _, _ => False
def evPostX (Ix : Nat → World → Prop) (k : Nat) (W : World) : Exit → Act → World → Prop
  | .ret, _, W' => Ix k W' ∧ KeepsOthers W W'
  | _, _, _ => False

set_option maxHeartbeats 4000000 in
/-- A range over a payload's events: the iterator's walk joined with the walk of whatever body keeps the caller's word. -/
theorem wpIn_events {g : Operand} {ps : Array Tmp} {assign body : Code} {Q : Exit → Act → World → Prop} {a : Act} {w : World} {n : Nat} (h1 : 2 ≤ n) (Bp : Nat) (s : List UInt8)
    (hg : a.eval g = .func (.func 58) #[] #[.pointer (some ⟨Bp, 0, none⟩)]) (hBp : w.cell? ⟨Bp, 0, none⟩ = some (strV s)) (hs : s.length ≤ 9000000000000000000) (hps : ps.size = 2)
    (I : List (EvP × Ev) → World → Prop) (Ix : Nat → World → Prop)
    (hI : ∀ (pre : List (EvP × Ev)) (X : Nat → Prop) (W W' : World), I pre W → Fr X W W' → (∀ k, X k → Strange W k) → (∀ k, X k → w.heap.size ≤ k) → I pre W')
    (hIx : ∀ (k : Nat) (X : Nat → Prop) (W W' : World), Ix k W → Fr X W W' → (∀ k, X k → Strange W k) → (∀ k, X k → w.heap.size ≤ k) → Ix k W')
    (hIk : ∀ pre W, I pre W → KT W) (h0 : I [] w)
    (hround : ∀ (l : Nat) (pre : List (EvP × Ev)) (p : EvP) (e : Ev) (Wa W : World) (b : Nat) (r r' : Rd), pre.length < 40 → w.heap.size ≤ l → w.heap.size ≤ b → I pre Wa → Fr (Only b) Wa W → RdIs Wa b r → RdIs W b r' → EvNew Wa.heap.size W p e → mayS e = true →
      ∀ K : Act → World → Prop, (∀ a₁ W₁, Fr No W W₁ → (∀ W₂ rec, W₁.heap[l]? = some (.loop rec) → I pre W₂ → Fr (Only l) W₁ W₂ → body.wpIn (Fence.wide.inRound l) (n - 1 - 1) Tryd.prog (evPost I (pre ++ [(p, e)]) b r' W₂) a₁ W₂) → K a₁ W₁) →
        assign.wpIn (Fence.wide.inRound l) (n - 1 - 1) Tryd.prog (Exit.then K (fun _ _ _ => False)) { tmps := (ps.zip #[evV p e, .int .i64 0]).foldl (fun t (p, v) => t.setIfInBounds p v) a.tmps, defers := [] } W)
    (hroundX : ∀ (l : Nat) (pre : List (EvP × Ev)) (k : Nat) (W : World), w.heap.size ≤ l → I pre W → k ≠ 0 →
      ∀ K : Act → World → Prop, (∀ a₁ W₁, Fr No W W₁ → (∀ W₂ rec, W₁.heap[l]? = some (.loop rec) → I pre W₂ → Fr (Only l) W₁ W₂ → body.wpIn (Fence.wide.inRound l) (n - 1 - 1) Tryd.prog (evPostX Ix k W₂) a₁ W₂) → K a₁ W₁) →
        assign.wpIn (Fence.wide.inRound l) (n - 1 - 1) Tryd.prog (Exit.then K (fun _ _ _ => False)) { tmps := (ps.zip #[zeroV, .int .i64 k]).foldl (fun t (p, v) => t.setIfInBounds p v) a.tmps, defers := [] } W)
    (hdone : ∀ (D : Nat) (xs : List (EvP × Ev)) (W : World), w.heap.size ≤ D → xs.map Prod.snd = (decL s).1 → (decL s).2 = 0 → I xs W → W.heap[D]? = some (.deferred (some [])) → Q .normal { a with defers := { target := .collected D, args := #[] } :: a.defers } W)
    (hstop : ∀ (D : Nat) (W : World), w.heap.size ≤ D → (decL s).2 ≠ 0 → Ix (decL s).2 W → W.heap[D]? = some (.deferred (some [])) → Code.ret.wpIn Fence.wide n Tryd.prog Q { a with defers := { target := .collected D, args := #[] } :: a.defers } W) :
    (Code.rangeFunc g ps assign body).wpIn Fence.wide n Tryd.prog Q a w := by
  refine wpIn_rangeFunc ?_
  intro fn hfn
  obtain ⟨rec, hrec⟩ : ∃ rec : LoopState → Option Code → Loop, rec = fun st pe => { state := st, pending := pe, fn, tmps := a.tmps, params := ps, assign, body, defers := w.heap.size } := ⟨_, rfl⟩
  obtain ⟨W1, hW1⟩ : ∃ W1, (w.alloc (.deferred (some []))).alloc (.loop (rec .ready none)) = W1 := ⟨_, rfl⟩
  have hL1 : W1.heap[w.heap.size + 1]? = some (.loop (rec .ready none)) := by
    rw [← hW1]; have := World.alloc_heap_new (w.alloc (.deferred (some []))) (.loop (rec .ready none)); rwa [World.size_alloc] at this
  have hK1 : W1.heap[w.heap.size]? = some (.deferred (some [])) := by
    rw [← hW1]; exact (Below.heap_alloc _ _ _ (by simp)).trans (World.alloc_heap_new w _)
  have hF1 : Fr No w W1 := by rw [← hW1]; exact ((Fr.refl w).alloc _).alloc _
  have hI1 : I [] W1 := hI _ _ _ _ h0 hF1 (fun _ h => h.elim) (fun _ h => h.elim)
  have hB1 : W1.cell? ⟨Bp, 0, none⟩ = some (strV s) := hF1.cell0 hBp
  have hsz1 : w.heap.size ≤ W1.heap.size := hF1.size
  refine ⟨w.heap.size + 1, [{ target := .collected w.heap.size, args := #[] }], W1, { target := .fn (.func 58) #[.pointer (some ⟨Bp, 0, none⟩)], args := #[.func (.yield (w.heap.size + 1)) #[] #[]] }, W1, 58,
    #[.func (.yield (w.heap.size + 1)) #[] #[], .pointer (some ⟨Bp, 0, none⟩)], W1, ?_, ?_, ?_, ?_, fun h => absurd h (by decide), ?_⟩
  · rw [← hW1, hrec]; exact run_enterLoop_outer _ _ _ _ _
  · simp only [resolve, hg]
    simp [go_sem]
  · intro f' _; exact trivial
  · simp [invoke, go_sem]
  · have notl : ∀ {W : World} {b : Nat} {r : Rd} {i : Nat} {o : Obj}, RdIs W b r → W.heap[i]? = some o → o.isCells = false → ¬ Only b i := fun {W b r i o} hr hi ho hx => by
      obtain rfl : i = b := hx
      rw [hr.1] at hi
      cases hi
      cases ho
    refine (iter_any (n - 1) (w.heap.size + 1) Bp (by omega) s W1
      (fun pre W => I pre W ∧ W.heap[w.heap.size + 1]? = some (.loop (rec .ready none)) ∧ W.heap[w.heap.size]? = some (.deferred (some [])))
      (fun k W => Ix k W ∧ W.heap[w.heap.size + 1]? = some (.loop (rec .done (some .ret))) ∧ W.heap[w.heap.size]? = some (.deferred (some [])))
      (fun pre W W' h hf => ⟨hI _ _ _ _ h.1 hf (fun _ hx => hx.elim) (fun _ hx => hx.elim), hf.heap0 h.2.1, hf.heap0 h.2.2⟩)
      (fun pre W W' b r hb h hr hf => ⟨hI pre (Only b) W W' h.1 hf (fun k hk => strange_rd hr hk) (fun k hk => by have hk : k = b := hk; omega), hf.heap h.2.1 (notl hr h.2.1 rfl), hf.heap h.2.2 (notl hr h.2.2 rfl)⟩)
      (fun pre W h => hIk pre W h.1) ?jy ?jx hB1 hs ⟨hI1, hL1, hK1⟩).mono ?_
    case jy =>
      rintro pre p e Wa W b r r' hpl hb ⟨hi, hl, hk⟩ hr hf hr' hn hm
      have hl' := hf.heap hl (notl hr hl rfl)
      have hk' := hf.heap hk (notl hr hk rfl)
      have hy := run_yield (P := Tryd.prog) (args := #[evV p e, .int .i64 0]) hl' (by rw [hrec]; exact hps.symm)
      rw [hrec] at hy
      refine ⟨fn, _, assign, body, hy, roundIn_of_wpIn hfn (hround (w.heap.size + 1) pre p e Wa W b r r' hpl (by omega) (by omega) hi hf hr hr' hn hm _ ?_)⟩
      intro a₁ W₁ hf1 hbody
      have hl1 := hf1.heap0 hl'
      have hk1 := hf1.heap0 hk'
      have hlt : w.heap.size + 1 < W₁.heap.size := (Array.getElem?_eq_some_iff.1 hl1).1
      refine ⟨_, run_beginRound hl1 (by rw [hrec]), ?_⟩
      have hl2 : (W₁.putObj (w.heap.size + 1) (.loop { rec .ready none with state := .busy })).heap[w.heap.size + 1]? = some (.loop { rec .ready none with state := .busy }) := World.putObj_heap_same hlt
      have hk2 : (W₁.putObj (w.heap.size + 1) (.loop { rec .ready none with state := .busy })).heap[w.heap.size]? = some (.deferred (some [])) := (World.putObj_heap_other (by omega)).trans hk1
      have hi1 : I pre W₁ := hI _ _ _ _ (hI pre (Only b) Wa W hi hf (fun k hk => strange_rd hr hk) (fun k hk => by have hk : k = b := hk; omega)) hf1 (fun _ hx => hx.elim) (fun _ hx => hx.elim)
      have hf2 := fr_putObj W₁ (w.heap.size + 1) (.loop { rec .ready none with state := .busy })
      have hi2 := hI pre _ _ _ hi1 hf2 (fun k hk => by obtain rfl : k = _ := hk; exact strange_of hl1 rfl) (fun k hk => by obtain rfl : k = _ := hk; omega)
      refine wpIn_mono (hbody _ _ hl1 hi2 hf2) ?_
      rintro e3 a3 W3 hp
      cases e3 with
      | normal =>
        obtain ⟨hi3, hr3, hk3⟩ := hp
        have hl3 := hk3.same _ _ hl2 rfl
        have hd3 := hk3.same _ _ hk2 rfl
        have hend := run_endRound (P := Tryd.prog) none hl3
        have hlt3 : w.heap.size + 1 < W3.heap.size := (Array.getElem?_eq_some_iff.1 hl3).1
        refine ⟨_, _, hend, rfl, ⟨?_, ?_, ?_⟩, ?_⟩
        · exact hI _ _ _ _ hi3 (fr_putObj _ _ _) (fun k hk => by obtain rfl : k = _ := hk; exact strange_of hl3 rfl) (fun k hk => by obtain rfl : k = _ := hk; omega)
        · rw [World.putObj_heap_same hlt3]; rw [hrec]; rfl
        · exact (World.putObj_heap_other (by omega)).trans hd3
        · exact hr3.fr (fr_putObj _ _ _) (fun hx => notl hr3 hl3 rfl hx.symm)
      | ret => exact hp.elim
      | exit id => exact hp.elim
      | goto t => exact hp.elim
      | panic ch => exact hp.elim
      | outgrown => exact hp.elim
    case jx =>
      rintro pre k W ⟨hi, hl, hk⟩ hk0
      have hy := run_yield (P := Tryd.prog) (args := #[zeroV, .int .i64 k]) hl (by rw [hrec]; exact hps.symm)
      rw [hrec] at hy
      refine ⟨fn, _, assign, body, hy, roundIn_of_wpIn hfn (hroundX (w.heap.size + 1) pre k W (by omega) hi hk0 _ ?_)⟩
      intro a₁ W₁ hf1 hbody
      have hl1 := hf1.heap0 hl
      have hk1 := hf1.heap0 hk
      have hlt : w.heap.size + 1 < W₁.heap.size := (Array.getElem?_eq_some_iff.1 hl1).1
      refine ⟨_, run_beginRound hl1 (by rw [hrec]), ?_⟩
      have hl2 : (W₁.putObj (w.heap.size + 1) (.loop { rec .ready none with state := .busy })).heap[w.heap.size + 1]? = some (.loop { rec .ready none with state := .busy }) := World.putObj_heap_same hlt
      have hk2 : (W₁.putObj (w.heap.size + 1) (.loop { rec .ready none with state := .busy })).heap[w.heap.size]? = some (.deferred (some [])) := (World.putObj_heap_other (by omega)).trans hk1
      have hi1 : I pre W₁ := hI _ _ _ _ hi hf1 (fun _ hx => hx.elim) (fun _ hx => hx.elim)
      have hf2 := fr_putObj W₁ (w.heap.size + 1) (.loop { rec .ready none with state := .busy })
      have hi2 := hI pre _ _ _ hi1 hf2 (fun k hk => by obtain rfl : k = _ := hk; exact strange_of hl1 rfl) (fun k hk => by obtain rfl : k = _ := hk; omega)
      refine wpIn_mono (hbody _ _ hl1 hi2 hf2) ?_
      rintro e3 a3 W3 hp
      cases e3 with
      | ret =>
        obtain ⟨hi3, hk3⟩ := hp
        have hl3 := hk3.same _ _ hl2 rfl
        have hd3 := hk3.same _ _ hk2 rfl
        have hend := run_endRound (P := Tryd.prog) (some .ret) hl3
        have hlt3 : w.heap.size + 1 < W3.heap.size := (Array.getElem?_eq_some_iff.1 hl3).1
        refine ⟨_, _, hend, rfl, ?_, ?_, ?_⟩
        · exact hIx _ _ _ _ hi3 (fr_putObj _ _ _) (fun k hk => by obtain rfl : k = _ := hk; exact strange_of hl3 rfl) (fun k hk => by obtain rfl : k = _ := hk; omega)
        · rw [World.putObj_heap_same hlt3]; rw [hrec]; rfl
        · exact (World.putObj_heap_other (by omega)).trans hd3
      | normal => exact hp.elim
      | exit id => exact hp.elim
      | goto t => exact hp.elim
      | panic ch => exact hp.elim
      | outgrown => exact hp.elim
    · rintro e W2 ⟨⟨v, rfl⟩, (⟨h0, xs, hxs, hi, hl, hk⟩ | ⟨hne, hi, hl, hk⟩)⟩
      · refine ⟨none, _, by have := run_endLoop (P := Tryd.prog) hl (by rw [hrec]; simp); rw [hrec] at this; exact this, hdone _ xs _ (Nat.le_refl _) hxs h0 ?_ ((World.putObj_heap_other (by omega)).trans hk)⟩
        exact hI _ _ _ _ hi (fr_putObj _ _ _) (fun k hk => by obtain rfl : k = _ := hk; exact strange_of hl rfl) (fun k hk => by obtain rfl : k = _ := hk; omega)
      · refine ⟨some .ret, _, by have := run_endLoop (P := Tryd.prog) hl (by rw [hrec]; simp); rw [hrec] at this; exact this, hstop _ _ (Nat.le_refl _) hne ?_ ((World.putObj_heap_other (by omega)).trans hk)⟩
        exact hIx _ _ _ _ hi (fr_putObj _ _ _) (fun k hk => by obtain rfl : k = _ := hk; exact strange_of hl rfl) (fun k hk => by obtain rfl : k = _ := hk; omega)

theorem set_cell1 {w : World} {b : Nat} {v : Value} {t : TypeId} (u : Value) (h : w.heap[b]? = some (.cells #[v] t (0, 0))) : (w.setCell ⟨b, 0, none⟩ u).heap[b]? = some (.cells #[u] t (0, 0)) := by
  simpa using heap_setCell_at (i := 0) u h
/-- Behind an append of an event and the store into the row's box. -/
theorem DecV.more {w Wa W₂ w6 : World} {pre : List (EvP × Ev)} {p : EvP} {e : Ev} {q q' : Option Addr} {cap cap' : Nat} {o : Obj} (ha : DecV w Wa (.slice q pre.length cap) pre) (h : DecV w W₂ (.slice q pre.length cap) pre) (hn : EvNew Wa.heap.size W₂ p e) (hWa : w.heap.size ≤ Wa.heap.size)
    (ho : Own w6 34 4 (.slice q' (pre.length + 1) cap') (pre.length + 1) (pre.flatMap evC ++ evC (p, e))) (hf : Fr (OnlyS (Value.ownBlock (.slice q pre.length cap))) (W₂.alloc o) w6)
    (hb : Value.ownBlock (.slice q' (pre.length + 1) cap') = Value.ownBlock (.slice q pre.length cap) ∨ Value.ownBlock (.slice q' (pre.length + 1) cap') = some (W₂.heap.size + 1)) :
    DecV w (w6.setCell ⟨w.heap.size + 1 + 1, 0, none⟩ (.slice q' (pre.length + 1) cap')) (.slice q' (pre.length + 1) cap') (pre ++ [(p, e)]) ∧ w6.heap[w.heap.size + 1 + 1]? = some (.cells #[.slice q pre.length cap] 26 (0, 0)) ∧ KeepsOthers W₂ (w6.setCell ⟨w.heap.size + 1 + 1, 0, none⟩ (.slice q' (pre.length + 1) cap')) ∧
      (∀ b r, RdIs W₂ b r → RdIs (w6.setCell ⟨w.heap.size + 1 + 1, 0, none⟩ (.slice q' (pre.length + 1) cap')) b r) := by
  have hA : Fr No W₂ (W₂.alloc o) := (Fr.refl _).alloc _
  have hown := h.row.own.fr hA (fun _ _ => id)
  have notown : ∀ {i : Nat} {ob : Obj}, (W₂.alloc o).heap[i]? = some ob → (∀ cur, ob ≠ .cells cur 34 (0, 0)) → ¬ OnlyS (Value.ownBlock (.slice q pre.length cap)) i := fun {i ob} hi hne hx => by
    rcases hown.2 with ⟨hq, _⟩ | ⟨g, cap0, cur, hq, _, hg, _⟩
    · rw [hq] at hx; cases hx
    · rw [hq] at hx
      obtain rfl : g = i := Option.some.inj hx
      rw [hi] at hg
      exact hne _ (Option.some.inj hg)
  have c2 := hf.heap (hA.heap0 h.r2) (notown (hA.heap0 h.r2) (fun cur hc => by cases hc))
  have c3 := hf.heap (hA.heap0 h.r3) (notown (hA.heap0 h.r3) (fun cur hc => by cases hc))
  have c4 := hf.heap (hA.heap0 h.r4) (notown (hA.heap0 h.r4) (fun cur hc => by cases hc))
  have hfr6 : Fr No w w6 := (h.fr.trans hA).newOnlyS (fun g hg => h.row.new g hg) hf
  have hev : ∀ x, x ∈ pre ++ [(p, e)] → EvNew w.heap.size w6 x.1 x.2 := fun x hx => by
    rcases List.mem_append.1 hx with hx | hx
    · exact ((h.row.evs x hx).fr hA).onlyS hown hf
    · obtain rfl : x = (p, e) := by simpa using hx
      exact ((hn.fr hA).onlyS hown hf).mono hWa
  have hrow6 := ha.row.more (w4 := W₂.alloc o) (w5 := w6) (p := (p, e)) (Nat.le_trans h.fr.size hA.size) hev ho (by simpa using hb) ((hn.fr hA).onlyS hown hf) (Nat.le_refl _)
  have hfs : Fr (Only (w.heap.size + 1 + 1)) w6 (w6.setCell ⟨w.heap.size + 1 + 1, 0, none⟩ (.slice q' (pre.length + 1) cap')) := (Fr.refl _).set_only 0 _
  refine ⟨⟨hfs.heap c2 (fun hx => ?_), hfs.heap c3 (fun hx => ?_), set_cell1 _ c4, hrow6.frTy hfs (fun k cur t hk ht hx => ?_), hfr6.setCell (p := ⟨w.heap.size + 1 + 1, 0, none⟩) (.inr (by simp; omega)) _⟩, c4, ⟨?_, fun i ob hi hob => ?_⟩, fun b r hr => ?_⟩
  · have : w.heap.size = w.heap.size + 1 + 1 := hx
    omega
  · have : w.heap.size + 1 = w.heap.size + 1 + 1 := hx
    omega
  · obtain rfl : k = w.heap.size + 1 + 1 := hx
    rw [c4] at hk
    cases hk
    exact absurd ht (by decide)
  · exact Nat.le_trans (Nat.le_trans hA.size hf.size) hfs.size
  · have h1 := hA.heap0 hi
    have h2 := hf.heap h1 (notown h1 (fun cur hc => by subst hc; cases hob))
    refine hfs.heap h2 (fun hx => ?_)
    obtain rfl : i = w.heap.size + 1 + 1 := hx
    rw [c4] at h2
    cases h2
    cases hob
  · have h1 : RdIs (W₂.alloc o) b r := hr.fr hA id
    have h2 : RdIs w6 b r := h1.fr hf (notown h1.1 (fun cur hc => by cases hc))
    refine h2.fr hfs (fun hx => ?_)
    obtain rfl : b = w.heap.size + 1 + 1 := hx
    rw [h2.1] at c4
    cases c4

set_option maxHeartbeats 16000000 in
set_option maxRecDepth 100000 in
theorem bdecode_any (s : List UInt8) (w : World) (hkt : KT w) (hs : s.length ≤ 9000000000000000000) :
    Calls Tryd.prog 12 #[strV s] w fun en w' => ∃ (L : List (EvP × Ev)) (q : Option Addr) (cap : Nat), en = .returned (.tuple #[.slice q L.length cap, .int .i64 (decL s).2]) ∧ L.map Prod.snd = (decL s).1 ∧ LsRow w.heap.size w' (.slice q L.length cap) L ∧ Fr No w w' := by
  have hmf : ∀ (fn : Fn) (first cp : Array Value) (w : World), (Instr.makeFunc fn first cp).run Tryd.prog w = .ok (.func fn first cp) w := fun _ _ _ _ => rfl
  refine (callsIn_wide (n := 5)).1 ?_
  have EV := hid (fun w1 => events_any s w1)
  unfold strV at EV
  unfold strV
  refine callsIn_of_wp_marks Tryd.func12 rfl trivial ?_ rfl
  simp only [Tryd.ntmps12, List.size_toArray, List.length_cons, List.length_nil, Nat.reduceAdd, Nat.reduceSub, Array.replicate_succ, Array.replicate_zero, List.push_toArray, List.append_toArray, List.nil_append, List.cons_append]
  gi_wp2_with (first
    | (refine ⟨trivial, ?_⟩; gi_at_call 33; (with_reducible refine (callsIn_wide.2 (EV.out _)).mono ?_); rintro e1 w1 ⟨rfl, rfl⟩)
    | fail)
  have hD0 : DecJ w ((((w.alloc (.cells #[.slice none 0 0] 26)).alloc (.cells #[.int .i64 0] 23)).alloc (.cells #[.slice none 0 0] 26)).alloc (.cells #[.string ⟨s.toArray⟩] 9)) [] := by
    have a1 := (Fr.refl (X := No) w).alloc (.cells #[.slice none 0 0] 26)
    have g1 := Go.heap_alloc_new w (.cells #[.slice none 0 0] 26)
    have g2 := Go.heap_alloc_new (w.alloc (.cells #[.slice none 0 0] 26)) (.cells #[.int .i64 0] 23)
    have g3 := Go.heap_alloc_new ((w.alloc (.cells #[.slice none 0 0] 26)).alloc (.cells #[.int .i64 0] 23)) (.cells #[.slice none 0 0] 26)
    simp only [World.size_alloc] at g1 g2 g3
    have k1 := ((((Fr.refl (X := No) (w.alloc (.cells #[.slice none 0 0] 26))).alloc (.cells #[.int .i64 0] 23)).alloc (.cells #[.slice none 0 0] 26)).alloc (.cells #[.string ⟨s.toArray⟩] 9))
    have k2 := (((Fr.refl (X := No) ((w.alloc (.cells #[.slice none 0 0] 26)).alloc (.cells #[.int .i64 0] 23))).alloc (.cells #[.slice none 0 0] 26)).alloc (.cells #[.string ⟨s.toArray⟩] 9))
    have k3 := ((Fr.refl (X := No) (((w.alloc (.cells #[.slice none 0 0] 26)).alloc (.cells #[.int .i64 0] 23)).alloc (.cells #[.slice none 0 0] 26))).alloc (.cells #[.string ⟨s.toArray⟩] 9))
    exact ⟨.slice none 0 0, k1.heap0 g1, k2.heap0 g2, k3.heap0 g3, LsRow.nil _ _, a1.trans k1⟩
  have hp0 : ((((w.alloc (.cells #[.slice none 0 0] 26)).alloc (.cells #[.int .i64 0] 23)).alloc (.cells #[.slice none 0 0] 26)).alloc (.cells #[.string ⟨s.toArray⟩] 9)).cell? ⟨w.heap.size + 1 + 1 + 1, 0, none⟩ = some (strV s) := by
    have g := Go.heap_alloc_new (((w.alloc (.cells #[.slice none 0 0] 26)).alloc (.cells #[.int .i64 0] 23)).alloc (.cells #[.slice none 0 0] 26)) (.cells #[.string ⟨s.toArray⟩] 9)
    simp only [World.size_alloc] at g
    exact (cell1 g).1
  have hz0 : w.heap.size ≤ ((((w.alloc (.cells #[.slice none 0 0] 26)).alloc (.cells #[.int .i64 0] 23)).alloc (.cells #[.slice none 0 0] 26)).alloc (.cells #[.string ⟨s.toArray⟩] 9)).heap.size := by simp; omega
  generalize ((((w.alloc (.cells #[.slice none 0 0] 26)).alloc (.cells #[.int .i64 0] 23)).alloc (.cells #[.slice none 0 0] 26)).alloc (.cells #[.string ⟨s.toArray⟩] 9)) = W0 at hD0 hp0 hz0 ⊢
  clear EV
  refine wpIn_events (by decide) (w.heap.size + 1 + 1 + 1) s rfl hp0 hs rfl (fun pre W => DecJ w W pre) (fun k W => DecX w W k)
    (fun pre X W W' h hf hx hn => h.frX hf hx (fun k hk => Nat.le_trans hz0 (hn k hk))) (fun k X W W' h hf hx hn => h.frX hf hx (fun k hk => Nat.le_trans hz0 (hn k hk))) (fun pre W ⟨v, h⟩ => hkt.fr h.fr) hD0 ?round ?roundX ?done ?stop
  case round =>
    intro l pre p e Wa W b r r' hpl hl hb hi hf hr hr' hn hm K hK
    obtain ⟨v, hv⟩ := hi
    have hF1 : Fr No W (W.alloc (.cells #[.int .u8 e.v, .int .u8 e.kind, .slice p.qn e.nums.length p.cn, .slice p.qt e.texts.length p.ct] 34)) := (Fr.refl W).alloc _
    have hg1 := Go.heap_alloc_new W (.cells #[.int .u8 e.v, .int .u8 e.kind, .slice p.qn e.nums.length p.cn, .slice p.qt e.texts.length p.ct] 34)
    have hv1 : DecV w (W.alloc (.cells #[.int .u8 e.v, .int .u8 e.kind, .slice p.qn e.nums.length p.cn, .slice p.qt e.texts.length p.ct] 34)) v pre :=
      (hv.frX hf (fun k hk => strange_rd hr hk) (fun k hk => by have hk : k = b := hk; omega)).frX hF1 (fun _ hx => hx.elim) (fun _ hx => hx.elim)
    have hHK := hid hK
    have HF1 := hid hF1
    have HG1 := hid hg1
    have HV1 := hid hv1
    have hWW : W.heap.size < (W.alloc (.cells #[.int .u8 e.v, .int .u8 e.kind, .slice p.qn e.nums.length p.cn, .slice p.qt e.texts.length p.ct] 34)).heap.size := by simp
    have HWW := hid hWW
    clear hK hF1 hg1 hv1 hWW
    unfold evV
    gi_wp2_with fail
    refine hHK.out _ _ HF1.out ?_
    intro W₂ rec hl1 _ hf2
    have hne : W.heap.size ≠ l := fun h => by subst h; rw [HG1.out] at hl1; cases hl1
    have hv2 := HV1.out.frX hf2 (fun k hk => by obtain rfl : k = l := hk; exact strange_of hl1 rfl) (fun k hk => by obtain rfl : k = l := hk; omega)
    have hg2 := hf2.heap HG1.out (fun h => hne h)
    have hr2 := (hr'.fr HF1.out id).fr hf2 (fun h => by obtain rfl : b = l := h; rw [(hr'.fr HF1.out id).1] at hl1; cases hl1)
    have hn2 : EvNew Wa.heap.size W₂ p e := ⟨(hn.fr HF1.out).nums.frTy hf2 (fun k cur hk hx => by obtain rfl : k = l := hx; rw [hl1] at hk; cases hk), (hn.fr HF1.out).texts.frTy hf2 (fun k cur hk hx => by obtain rfl : k = l := hx; rw [hl1] at hk; cases hk)⟩
    obtain ⟨q, cap, rfl⟩ := hv2.row.shape
    generalize W.heap.size = BE at hg2
    obtain ⟨c0, c1, c2, c3, _, _, _, _⟩ := Go.Proofs.YtnmfmedoocnofaaDoor.cells4 hg2
    obtain ⟨c4, f4⟩ := cell1 hv2.r4
    obtain ⟨i0, hi0, hz0', hz1, hz2⟩ := info_parts infoEv
    have HV2 := hid hv2
    have HN2 := hid hn2
    have HR2 := hid hr2
    have HPL := hid hpl
    have hown := hv2.row.own.fr ((Fr.refl (X := No) W₂).alloc (.cells #[.int .u8 e.v, .int .u8 e.kind, .slice p.qn e.nums.length p.cn, .slice p.qt e.texts.length p.ct] 34)) (fun _ _ => id)
    have HNEW := hid (cells_new W₂ (evC (p, e)) 34)
    clear hv2 hn2 hr2 hpl hr' hn hm hl1 hf2 hg2 hne hHK HF1 HG1 HV1 HWW
    gi_wp2_with (first
      | (gi_at_builtin; refine wpListIn_append_fr _ rfl _ _ 26 rfl 34 i0 (.agg #[.int .u8 0, .int .u8 0, .slice none 0 0, .slice none 0 0]) 4 56 Tryd.underlying26 hi0 hz0' hz1 hz2 rfl (by decide) _ _ _ rfl hown ⟨W₂.heap.size, 0, none⟩ 1 1 (evC (p, e)) rfl rfl HNEW.out ?c2 ?c3 ?c4 ?_)
      | fail)
    case c2 => intro u hu; simp [evC] at hu; rcases hu with rfl | rfl | rfl | rfl <;> rfl
    case c3 => have := HPL.out; unfold maxLen; omega
    case c4 => have := HPL.out; omega
    intro v' w6 ho hf6 hn6
    obtain ⟨q', cap', rfl⟩ := ho.shape
    obtain ⟨hv7, hc6, hk7, hr7⟩ := DecV.more hv HV2.out HN2.out hv.fr.size ho hf6 hn6
    obtain ⟨d4, g4⟩ := cell1 hc6
    have HR7 := hid (hr7 b r' HR2.out)
    have HV7 := hid hv7
    have HK7 := hid hk7
    clear hv hv7 hk7 hr7 hc6 ho hf6 hn6 hown HNEW c0 c1 c2 c3 c4 f4
    gi_wp2_with fail
    exact ⟨⟨_, HV7.out⟩, HR7.out, HK7.out⟩
  case roundX =>
    intro l pre k W hl hi hk0 K hK
    obtain ⟨v, hv⟩ := hi
    have hHK := hid hK
    have HK0 := hid hk0
    have hF1 : Fr No W (W.alloc (.cells #[.int .u8 0, .int .u8 0, .slice none 0 0, .slice none 0 0] 34)) := (Fr.refl W).alloc _
    have HV1 := hid (hv.frX hF1 (fun _ hx => hx.elim) (fun _ hx => hx.elim))
    have HF1 := hid hF1
    have t1 : ((k : Int) != 0) = true := by simpa using hk0
    clear hK hk0 hF1
    unfold zeroV
    gi_wp2_with fail
    refine hHK.out _ _ HF1.out ?_
    intro W₂ rec hl1 _ hf2
    have hv2 := HV1.out.frX hf2 (fun k hk => by obtain rfl : k = l := hk; exact strange_of hl1 rfl) (fun k hk => by obtain rfl : k = l := hk; omega)
    obtain ⟨c2, f2⟩ := cell1 hv2.r2
    obtain ⟨c3, f3⟩ := cell1 hv2.r3
    have HV2 := hid hv2
    clear hHK HV1 HF1 hv hv2 hl1
    gi_wp2_with fail
    exact ⟨⟨(heap_setCell_past (by simp)).trans (set_cell1 _ HV2.out.r2), set_cell1 _ ((heap_setCell_past (by simp)).trans HV2.out.r3),
      (HV2.out.fr.setCell (p := ⟨w.heap.size, 0, none⟩) (.inr (Nat.le_refl _)) _).setCell (p := ⟨w.heap.size + 1, 0, none⟩) (.inr (by simp)) _⟩, (KeepsOthers.setCell _ _ _).trans (KeepsOthers.setCell _ _ _)⟩
  case done =>
    intro D xs W hD hxs hok hi hdD
    obtain ⟨v, hv⟩ := hi
    obtain ⟨q, cap, rfl⟩ := hv.row.shape
    obtain ⟨c2, f2⟩ := cell1 hv.r2
    obtain ⟨c3, f3⟩ := cell1 hv.r3
    obtain ⟨c4, f4⟩ := cell1 hv.r4
    have HV := hid hv
    have HOK := hid hok
    clear hv hok
    gi_wp2_with fail
    have hk5 : KeepsOthers W ((W.setCell ⟨w.heap.size, 0, none⟩ (.slice q xs.length cap)).setCell ⟨w.heap.size + 1, 0, none⟩ (.int .i64 0)) := (KeepsOthers.setCell _ _ _).trans (KeepsOthers.setCell _ _ _)
    have hfx : Fr (fun k => k = w.heap.size ∨ k = w.heap.size + 1) W ((W.setCell ⟨w.heap.size, 0, none⟩ (.slice q xs.length cap)).setCell ⟨w.heap.size + 1, 0, none⟩ (.int .i64 0)) :=
      ((Fr.refl W).setCell (p := ⟨w.heap.size, 0, none⟩) (.inl (.inl rfl)) _).setCell (p := ⟨w.heap.size + 1, 0, none⟩) (.inl (.inr rfl)) _
    have r2 : ((W.setCell ⟨w.heap.size, 0, none⟩ (.slice q xs.length cap)).setCell ⟨w.heap.size + 1, 0, none⟩ (.int .i64 0)).heap[w.heap.size]? = some (.cells #[.slice q xs.length cap] 26 (0, 0)) := (heap_setCell_past (by simp)).trans (set_cell1 _ HV.out.r2)
    have r3 : ((W.setCell ⟨w.heap.size, 0, none⟩ (.slice q xs.length cap)).setCell ⟨w.heap.size + 1, 0, none⟩ (.int .i64 0)).heap[w.heap.size + 1]? = some (.cells #[.int .i64 0] 23 (0, 0)) := set_cell1 _ ((heap_setCell_past (by simp)).trans HV.out.r3)
    have hrow := HV.out.row.frTy hfx (fun k cur t hk ht hx => by
      rcases hx with rfl | rfl
      · have := HV.out.r2; rw [hk] at this; cases this; exact absurd ht (by decide)
      · have := HV.out.r3; rw [hk] at this; cases this; exact absurd ht (by decide))
    have hfr : Fr No w ((W.setCell ⟨w.heap.size, 0, none⟩ (.slice q xs.length cap)).setCell ⟨w.heap.size + 1, 0, none⟩ (.int .i64 0)) := (HV.out.fr.setCell (p := ⟨w.heap.size, 0, none⟩) (.inr (Nat.le_refl _)) _).setCell (p := ⟨w.heap.size + 1, 0, none⟩) (.inr (by simp)) _
    generalize ((W.setCell ⟨w.heap.size, 0, none⟩ (.slice q xs.length cap)).setCell ⟨w.heap.size + 1, 0, none⟩ (.int .i64 0)) = W5 at hk5 hfx r2 r3 hrow hfr ⊢
    have hdD5 := hk5.same _ _ hdD rfl
    refine ⟨by simp, .inl ⟨_, _, rfl, run_takeDeferred hdD5, ?_⟩⟩
    have hp := fr_putObj W5 D (.deferred none)
    have s2 := (cell1 (hp.heap r2 (fun h => by obtain rfl : w.heap.size = D := h; rw [hdD5] at r2; cases r2))).1
    have s3 := (cell1 (hp.heap r3 (fun h => by obtain rfl : w.heap.size + 1 = D := h; rw [hdD5] at r3; cases r3))).1
    have hrow2 := hrow.frTy hp (fun k cur t hk ht hx => by obtain rfl : k = D := hx; rw [hdD5] at hk; cases hk)
    refine ⟨.tuple #[.slice q xs.length cap, .int .i64 0], ?_, ⟨xs, q, cap, by rw [HOK.out]; rfl, hxs, hrow2, hfr.trans' hp (fun i hi hx => by have hx : i = D := hx; omega)⟩⟩
    simp [results, Tryd.f12, go_sem, s2, s3]
  case stop =>
    intro D W hD hne hi hdD
    gi_wp2_with fail
    refine ⟨by simp, .inl ⟨_, _, rfl, run_takeDeferred hdD, ?_⟩⟩
    have hi5 := hi.frX (fr_putObj W D (.deferred none)) (fun k hk => by obtain rfl : k = D := hk; exact strange_of hdD rfl) (fun k hk => by obtain rfl : k = D := hk; omega)
    have c2 := (cell1 hi5.r2).1
    have c3 := (cell1 hi5.r3).1
    refine ⟨.tuple #[.slice none 0 0, .int .i64 (decL s).2], ?_, ⟨[], none, 0, rfl, (dec_err hne).symm, LsRow.nil _ _, hi5.fr⟩⟩
    simp [results, Tryd.f12, go_sem, c2, c3]
    trace_state
end Go.Proofs.YtnmfmedoocnofaaDoor
