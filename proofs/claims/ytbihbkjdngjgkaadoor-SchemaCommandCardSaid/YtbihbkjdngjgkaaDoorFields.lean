/-
  The fields of events and commands, and their names: the contracts of schema's Fields, Command, Name, Word.
-/
import Derived.Test.YtbihbkjdngjgkaaDoorTold2
namespace Go.Proofs.YtbihbkjdngjgkaaDoor
open Go.RowKit

theorem RowsAt.fr {w w' : World} {g : Nat} {rows : List RowT} (h : RowsAt w g rows) (hf : Fr No w w') : RowsAt w' g rows := by
  intro i r hr j hj
  have hlen : (rowV r).length = 5 := rfl
  have := h i r hr j hj
  rw [List.getElem?_eq_getElem (by omega)] at this ⊢
  exact hf.cell0 this
abbrev KT (w : World) : Prop := RowsAt w 1 kindsT
abbrev CT (w : World) : Prop := RowsAt w 0 commandsT

theorem event_any (k : Nat) (w : World) (hk : k ≤ 255) (h : KT w) :
    Calls Tryd.prog 39 #[.int .u8 k] w fun e w' => e = .returned (rowA (eventT k)) ∧ Fr No w w' := by
  by_cases h0 : k = 0 ∨ 23 < k
  · have e : eventT k = noRow := by
      unfold eventT
      rcases h0 with rfl | h0
      · rfl
      · rw [if_neg (by omega), List.getElem?_eq_none (by simp [kindsT]; omega)]; rfl
    rw [e]
    exact event_out k w hk h0
  · obtain ⟨j, rfl⟩ : ∃ j, k = j + 1 := ⟨k - 1, by omega⟩
    have hj : j < kindsT.length := by simp [kindsT]; omega
    have e : kindsT[j]? = some (eventT (j + 1)) := by
      unfold eventT
      rw [if_neg (by omega), Nat.add_sub_cancel, List.getElem?_eq_getElem hj]; rfl
    have := event_in j _ w e (by omega) h
    simpa using this

set_option maxHeartbeats 1000000 in
theorem command_in (k : Nat) (r : RowT) (w : World) (hr : commandsT[k]? = some r) (hk : k < 20) (h : RowsAt w 0 commandsT) :
    Calls Tryd.prog 42 #[.int .u8 ((k : Int) + 1)] w fun e w' => e = .returned (rowA r) ∧ Fr No w w' := by
  have c0 : w.cell? ⟨0, k * 5, none⟩ = some (strV r.name) := h k r hr 0 (by decide)
  have c1 : w.cell? ⟨0, k * 5 + 1, none⟩ = some (strV r.f1) := h k r hr 1 (by decide)
  have c2 : w.cell? ⟨0, k * 5 + 2, none⟩ = some (strV r.f2) := h k r hr 2 (by decide)
  have c3 : w.cell? ⟨0, k * 5 + 3, none⟩ = some (strV r.f3) := h k r hr 3 (by decide)
  have c4 : w.cell? ⟨0, k * 5 + 4, none⟩ = some (.bool r.text) := h k r hr 4 (by decide)
  have hlt : 0 < w.heap.size := World.block_lt_of_cell? w _ c0
  unfold rowA
  unfold strV at *
  clear hr h
  go_enter Tryd.func42, Tryd.ntmps42
  go_wp2
  refine bodyPost_ret (Go.results_cell_row rfl _ _ w.heap.size 64 _ (0, 0) _ rfl (Go.heap_alloc_new _ _) Tryd.underlying64 rfl (by kernel_rfl)) rfl ⟨rfl, (Fr.refl w).alloc _⟩
set_option maxHeartbeats 1000000 in
theorem command_out (k : Nat) (w : World) (h8 : k ≤ 255) (hk : k = 0 ∨ 20 < k) :
    Calls Tryd.prog 42 #[.int .u8 k] w fun e w' => e = .returned (rowA noRow) ∧ Fr No w w' := by
  unfold rowA noRow strV
  rcases hk with rfl | hk
  all_goals
    go_enter Tryd.func42, Tryd.ntmps42
    go_wp2
    refine bodyPost_ret (Go.results_cell_row rfl _ _ w.heap.size 64 _ (0, 0) _ rfl (Go.heap_alloc_new _ _) Tryd.underlying64 rfl (by kernel_rfl)) rfl ⟨rfl, (Fr.refl w).alloc _⟩
theorem command_any (k : Nat) (w : World) (hk : k ≤ 255) (h : CT w) :
    Calls Tryd.prog 42 #[.int .u8 k] w fun e w' => e = .returned (rowA (commandT k)) ∧ Fr No w w' := by
  by_cases h0 : k = 0 ∨ 20 < k
  · have e : commandT k = noRow := by
      unfold commandT
      rcases h0 with rfl | h0
      · rfl
      · rw [if_neg (by omega), List.getElem?_eq_none (by simp [commandsT]; omega)]; rfl
    rw [e]
    exact command_out k w hk h0
  · obtain ⟨j, rfl⟩ : ∃ j, k = j + 1 := ⟨k - 1, by omega⟩
    have hj : j < commandsT.length := by simp [commandsT]; omega
    have e : commandsT[j]? = some (commandT (j + 1)) := by
      unfold commandT
      rw [if_neg (by omega), Nat.add_sub_cancel, List.getElem?_eq_getElem hj]; rfl
    have := command_in j _ w e (by omega) h
    simpa using this

theorem short_rows (rows : List RowT) (h : (rows.all fun r => decide (r.f1.length ≤ 7) && (decide (r.f2.length ≤ 7) && decide (r.f3.length ≤ 7))) = true) (k v : Nat) : (fieldT ((rows[k]?).getD noRow) v).length ≤ 7 := by
  have key : ∀ r : RowT, (decide (r.f1.length ≤ 7) && (decide (r.f2.length ≤ 7) && decide (r.f3.length ≤ 7))) = true → (fieldT r v).length ≤ 7 := by
    intro r hr
    simp only [Bool.and_eq_true, decide_eq_true_eq] at hr
    unfold fieldT
    split
    · exact hr.1
    · split
      · exact hr.2.1
      · exact hr.2.2
  rcases hx : rows[k]? with _ | r
  · exact key noRow (by decide)
  · exact key r (List.all_eq_true.1 h r (List.mem_of_getElem? hx))
theorem fieldT_event (k v : Nat) : (fieldT (eventT k) v).length ≤ 7 := by
  unfold eventT
  split
  · simpa using short_rows [] rfl 0 v
  · exact short_rows kindsT (by decide) _ v
theorem fieldT_command (k v : Nat) : (fieldT (commandT k) v).length ≤ 7 := by
  unfold commandT
  split
  · simpa using short_rows [] rfl 0 v
  · exact short_rows commandsT (by decide) _ v
theorem toldS_length (r : RowT) (v : Nat) (h : (fieldT r v).length ≤ 7) : (toldS r v).1.length ≤ 7 := by
  unfold toldS
  split
  · simp
  · split
    · simp
    · exact h
theorem fieldsS_length (v k : Nat) : (fieldsS v k).1.length ≤ 7 := toldS_length _ _ (fieldT_event k v)
theorem commandS_length (k : Nat) : (commandS k).1.length ≤ 7 := toldS_length _ _ (fieldT_command k 3)

theorem ToldPost.later {w w1 w' : World} {x : List UInt8 × Bool × Bool} {e : Ending} (hf : Fr No w w1) (h : ToldPost w1 x e w') : ToldPost w x e w' := by
  obtain ⟨L, he, hr, hf1⟩ := h
  exact ⟨L, he, hr.mono hf.size, hf.trans hf1⟩

set_option maxHeartbeats 1000000 in
theorem fields_any (v k : Nat) (w : World) (hv : v ≤ 255) (hk : k ≤ 255) (h : KT w) :
    Calls Tryd.prog 13 #[.int .u8 v, .int .u8 k] w (ToldPost w (fieldsS v k)) := by
  have H1 := hid (event_any k w hk h)
  have H2 := hid (fun w1 => told_any (eventT k) v w1 hv (rowOk_event k) (by have := fieldT_event k v; omega))
  unfold fieldsS
  generalize eventT k = r at H1 H2 ⊢
  generalize toldS r v = x at H2 ⊢
  clear h
  go_enter Tryd.func13, Tryd.ntmps13
  go_wp2_with (first
    | (go_at_call 39; refine (H1.out).mono ?_; rintro e1 w1 ⟨rfl, hf1⟩)
    | (go_at_call 40; refine (H2.out _).mono ?_; intro e2 w2 h2; have h3 := ToldPost.later hf1 h2; clear h2; obtain ⟨L, rfl, hr, hf⟩ := h3))
  go_ret3
  exact ⟨L, rfl, hr, hf⟩

set_option maxHeartbeats 1000000 in
theorem command_fields (k : Nat) (w : World) (hk : k ≤ 255) (h : CT w) :
    Calls Tryd.prog 18 #[.int .u8 k] w (ToldPost w (commandS k)) := by
  have H1 := hid (command_any k w hk h)
  have H2 : Hid (∀ w1, Calls Tryd.prog 40 #[rowA (commandT k), .int .u8 3] w1 (ToldPost w1 (toldS (commandT k) 3))) := hid (fun w1 => told_any (commandT k) 3 w1 (by decide) (rowOk_command k) (by have := fieldT_command k 3; omega))
  unfold commandS
  generalize commandT k = r at H1 H2 ⊢
  generalize toldS r 3 = x at H2 ⊢
  clear h
  go_enter Tryd.func18, Tryd.ntmps18
  go_wp2_with (first
    | (go_at_call 42; refine (H1.out).mono ?_; rintro e1 w1 ⟨rfl, hf1⟩)
    | (go_at_call 40; refine (H2.out _).mono ?_; intro e2 w2 h2; have h3 := ToldPost.later hf1 h2; clear h2; obtain ⟨L, rfl, hr, hf⟩ := h3))
  go_ret3
  exact ⟨L, rfl, hr, hf⟩

theorem run_row_name (a b c d : ByteArray) (t : Bool) (w : World) : (Instr.field 64 (.agg #[.string a, .string b, .string c, .string d, .bool t]) 0).run Tryd.prog w = .ok (.string a) w := by kernel_rfl
def nameS (k : Nat) : List UInt8 := (eventT k).name
def wordS (k : Nat) : List UInt8 := (commandT k).name
set_option maxRecDepth 100000 in
set_option maxHeartbeats 1000000 in
theorem name_any (k : Nat) (w : World) (hk : k ≤ 255) (h : KT w) :
    Calls Tryd.prog 33 #[.int .u8 k] w fun e w' => e = .returned (strV (nameS k)) ∧ Fr No w w' := by
  have H1 := hid (event_any k w hk h)
  unfold nameS
  generalize eventT k = r at H1 ⊢
  unfold rowA strV at H1
  unfold strV
  have hf0 := fun w => run_row_name ⟨r.name.toArray⟩ ⟨r.f1.toArray⟩ ⟨r.f2.toArray⟩ ⟨r.f3.toArray⟩ r.text w
  clear h
  go_enter Tryd.func33, Tryd.ntmps33
  go_wp2_with (first
    | (go_at_call 39; refine (H1.out).mono ?_; rintro e1 w1 ⟨rfl, hf1⟩))
  go_ret
  exact ⟨rfl, hf1⟩
set_option maxRecDepth 100000 in
set_option maxHeartbeats 1000000 in
theorem word_any (k : Nat) (w : World) (hk : k ≤ 255) (h : CT w) :
    Calls Tryd.prog 30 #[.int .u8 k] w fun e w' => e = .returned (strV (wordS k)) ∧ Fr No w w' := by
  have H1 := hid (command_any k w hk h)
  unfold wordS
  generalize commandT k = r at H1 ⊢
  unfold rowA strV at H1
  unfold strV
  have hf0 := fun w => run_row_name ⟨r.name.toArray⟩ ⟨r.f1.toArray⟩ ⟨r.f2.toArray⟩ ⟨r.f3.toArray⟩ r.text w
  clear h
  go_enter Tryd.func30, Tryd.ntmps30
  go_wp2_with (first
    | (go_at_call 42; refine (H1.out).mono ?_; rintro e1 w1 ⟨rfl, hf1⟩))
  go_ret
  exact ⟨rfl, hf1⟩
end Go.Proofs.YtbihbkjdngjgkaaDoor
