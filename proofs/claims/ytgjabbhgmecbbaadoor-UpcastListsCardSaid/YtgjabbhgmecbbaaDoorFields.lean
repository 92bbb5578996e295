/-
  The fields of events and commands, and their names: the contracts of schema's Fields, Command, Name, Word.
-/
import Derived.Test.YtgjabbhgmecbbaaDoorTold2
namespace Go.Proofs.YtgjabbhgmecbbaaDoor
open Go.RowKit

theorem RowsAt.fr {w w' : World} {g : Nat} {rows : List RowT} (h : RowsAt w g rows) (hf : Fr No w w') : RowsAt w' g rows := by
  intro i r hr j hj
  have hlen : (rowV r).length = 5 := rfl
  have := h i r hr j hj
  rw [List.getElem?_eq_getElem (by omega)] at this ⊢
  exact hf.cell0 this
abbrev KT (w : World) : Prop := RowsAt w 0 kindsT

theorem event_any (k : Nat) (w : World) (hk : k ≤ 255) (h : KT w) :
    Calls Tryd.prog 48 #[.int .u8 k] w fun e w' => e = .returned (rowA (eventT k)) ∧ Fr No w w' := by
  by_cases h0 : k = 0 ∨ 23 < k
  · have e : eventT k = noRow := by
      unfold eventT
      rcases h0 with rfl | h0
      · rfl
      · rw [if_neg (by omega), List.getElem?_eq_none (by simp [kindsT]; omega)]; rfl
    rw [e]
    exact event_out k w hk h0
  · obtain ⟨j, rfl⟩ : ∃ j, k = j + 1 := ⟨k - 1, by omega⟩
    have hj : j < kindsT.length := by simp [kindsT]; omega
    have e : kindsT[j]? = some (eventT (j + 1)) := by
      unfold eventT
      rw [if_neg (by omega), Nat.add_sub_cancel, List.getElem?_eq_getElem hj]; rfl
    have := event_in j _ w e (by omega) h
    simpa using this

theorem short_rows (rows : List RowT) (h : (rows.all fun r => decide (r.f1.length ≤ 7) && (decide (r.f2.length ≤ 7) && decide (r.f3.length ≤ 7))) = true) (k v : Nat) : (fieldT ((rows[k]?).getD noRow) v).length ≤ 7 := by
  have key : ∀ r : RowT, (decide (r.f1.length ≤ 7) && (decide (r.f2.length ≤ 7) && decide (r.f3.length ≤ 7))) = true → (fieldT r v).length ≤ 7 := by
    intro r hr
    simp only [Bool.and_eq_true, decide_eq_true_eq] at hr
    unfold fieldT
    split
    · exact hr.1
    · split
      · exact hr.2.1
      · exact hr.2.2
  rcases hx : rows[k]? with _ | r
  · exact key noRow (by decide)
  · exact key r (List.all_eq_true.1 h r (List.mem_of_getElem? hx))
theorem fieldT_event (k v : Nat) : (fieldT (eventT k) v).length ≤ 7 := by
  unfold eventT
  split
  · simpa using short_rows [] rfl 0 v
  · exact short_rows kindsT (by decide) _ v
theorem fieldT_command (k v : Nat) : (fieldT (commandT k) v).length ≤ 7 := by
  unfold commandT
  split
  · simpa using short_rows [] rfl 0 v
  · exact short_rows commandsT (by decide) _ v
theorem toldS_length (r : RowT) (v : Nat) (h : (fieldT r v).length ≤ 7) : (toldS r v).1.length ≤ 7 := by
  unfold toldS
  split
  · simp
  · split
    · simp
    · exact h
theorem fieldsS_length (v k : Nat) : (fieldsS v k).1.length ≤ 7 := toldS_length _ _ (fieldT_event k v)
theorem commandS_length (k : Nat) : (commandS k).1.length ≤ 7 := toldS_length _ _ (fieldT_command k 3)

theorem ToldPost.later {w w1 w' : World} {x : List UInt8 × Bool × Bool} {e : Ending} (hf : Fr No w w1) (h : ToldPost w1 x e w') : ToldPost w x e w' := by
  obtain ⟨L, he, hr, hf1⟩ := h
  exact ⟨L, he, hr.mono hf.size, hf.trans hf1⟩

set_option maxHeartbeats 1000000 in
theorem fields_any (v k : Nat) (w : World) (hv : v ≤ 255) (hk : k ≤ 255) (h : KT w) :
    Calls Tryd.prog 38 #[.int .u8 v, .int .u8 k] w (ToldPost w (fieldsS v k)) := by
  have H1 := hid (event_any k w hk h)
  have H2 := hid (fun w1 => told_any (eventT k) v w1 hv (rowOk_event k) (by have := fieldT_event k v; omega))
  unfold fieldsS
  generalize eventT k = r at H1 H2 ⊢
  generalize toldS r v = x at H2 ⊢
  clear h
  go_enter Tryd.func38, Tryd.ntmps38
  go_wp2_with (first
    | (go_at_call 48; refine (H1.out).mono ?_; rintro e1 w1 ⟨rfl, hf1⟩)
    | (go_at_call 49; refine (H2.out _).mono ?_; intro e2 w2 h2; have h3 := ToldPost.later hf1 h2; clear h2; obtain ⟨L, rfl, hr, hf⟩ := h3))
  go_ret3
  exact ⟨L, rfl, hr, hf⟩

end Go.Proofs.YtgjabbhgmecbbaaDoor
