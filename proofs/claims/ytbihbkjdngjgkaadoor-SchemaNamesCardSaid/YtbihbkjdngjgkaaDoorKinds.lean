/-
  The kinds of a version: schema's Kinds.
-/
import Derived.Test.YtbihbkjdngjgkaaDoorFields
import Derived.Test.YtbihbkjdngjgkaaDoorRs
namespace Go.Proofs.YtbihbkjdngjgkaaDoor
open Go.RowKit

theorem infoU8' : (Tryd.prog.info? 5).map (fun i => (i.zero, i.size, i.bytes)) = some (some (.int .u8 0), 1, 1) := by kernel_rfl
def u8V (n : Nat) : Value := .int .u8 n
def kindsUpTo (v i : Nat) : List Nat := ((List.range i).filter fun j => (fieldsS v (j + 1)).2.2).map (· + 1)
theorem kindsUpTo_yes {v i : Nat} (h : (fieldsS v (i + 1)).2.2 = true) : kindsUpTo v (i + 1) = kindsUpTo v i ++ [i + 1] := by
  unfold kindsUpTo; rw [List.range_succ]; simp [h]
theorem kindsUpTo_no {v i : Nat} (h : (fieldsS v (i + 1)).2.2 = false) : kindsUpTo v (i + 1) = kindsUpTo v i := by
  unfold kindsUpTo; rw [List.range_succ]; simp [h]
theorem kindsUpTo_length (v i : Nat) : (kindsUpTo v i).length ≤ i := by
  unfold kindsUpTo
  rw [List.length_map]
  exact Nat.le_trans (List.length_filter_le _ _) (by simp)

structure KindsRel (w : World) (v i : Nat) (L : Value) (wr : World) : Prop where
  row : Rs w.heap.size wr 5 L ((kindsUpTo v i).map u8V)
  fr : Fr No w wr
theorem KindsRel.more {w wr w1 w2 w3 : World} {v i : Nat} {L L' : Value} (h : KindsRel w v i L wr) (hy : (fieldsS v (i + 1)).2.2 = true) (h1 : Fr No wr w1)
    (h2 : Fr No w1 w2) (hr : Rs w.heap.size w3 5 L' ((kindsUpTo v i).map u8V ++ [u8V (i + 1)])) (hf : Fr (RsX w.heap.size L) w2 w3) : KindsRel w v (i + 1) L' w3 :=
  ⟨by rw [kindsUpTo_yes hy, List.map_append]; exact hr, ((h.fr.trans h1).trans h2).rsx (Nat.le_refl _) hf⟩

set_option maxHeartbeats 2000000 in
set_option maxRecDepth 100000 in
theorem kinds_any (v : Nat) (w : World) (hv : v ≤ 255) (hk : KT w) :
    Calls Tryd.prog 35 #[.int .u8 v] w fun e w' => ∃ q cap, e = .returned (.slice q (kindsUpTo v 23).length cap) ∧ Rs w.heap.size w' 5 (.slice q (kindsUpTo v 23).length cap) ((kindsUpTo v 23).map u8V) ∧ Fr No w w' := by
  obtain ⟨i0, hi, hz0, hz1, hz2⟩ := info_parts infoU8'
  have HK := hid hk
  clear hk
  have HR : KindsRel w v 0 (.slice none 0 0) w := ⟨Rs.nil _ _ _ _, Fr.refl _⟩
  go_enter Tryd.func35, Tryd.ntmps35
  go_wp2_with fail
  go_loopw [3, 8] (fun l c wr => ∃ i : Nat, i ≤ 23 ∧ c = .int .i64 i ∧ KindsRel w v i l wr) (fun _ c _ => 23 - (intOf c).toNat)
  case atStart => exact ⟨0, Nat.zero_le _, rfl, HR⟩
  case round =>
    clear HR
    obtain ⟨i, hi', rfl, hR⟩ := hrel
    by_cases hlt : i < 23
    · have hd : decide ((i : Int) < 23) = true := by simp; omega
      have hw8 : IntKind.u8.wrap ((i : Int) + 1) = ((i + 1 : Nat) : Int) := by rw [IntWalk.u8_in _ (by omega)]; omega
      have F := hid (fun w1 (hf : Fr No wr w1) => fields_any v (i + 1) w1 hv (by omega) ((HK.out.fr hR.fr).fr hf))
      have hlen := kindsUpTo_length v i
      obtain ⟨ql, cl, rfl⟩ := hR.row.shape
      simp only [List.length_map] at hR ⊢
      have HH := hid hR
      cases hy : (fieldsS v (i + 1)).2.2 with
      | false =>
        have HY := hid hy
        generalize fieldsS v (i + 1) = x at F hy
        obtain ⟨l, t, b⟩ := x
        simp only at hy
        subst hy
        clear hR
        go_wp2_with (first
          | (go_at_call 13; refine (F.out _ (Fr.refl _)).mono ?_; intro e2 w2 h2; obtain ⟨L, rfl, hr, hf⟩ := h2))
        go_roundw
        case rel => exact ⟨i + 1, by omega, by go_num, ⟨by rw [kindsUpTo_no HY.out]; exact HH.out.row.fr0 hf, HH.out.fr.trans hf⟩⟩
        case measure => simp [intOf]; omega
      | true =>
        have HY := hid hy
        generalize fieldsS v (i + 1) = x at F hy
        obtain ⟨l, t, b⟩ := x
        simp only at hy
        subst hy
        have hrow := hR.row
        have hsz := hR.fr.size
        clear hR
        go_wp2_with (first
          | (go_at_call 13; refine (F.out _ (Fr.refl _)).mono ?_; intro e2 w2 h2; obtain ⟨L, rfl, hr, hf⟩ := h2)
          | (at_builtin; refine wpList_append_rs (by rfl) _ _ _ _ (by rfl) w.heap.size 5 i0 (.int .u8 0) 1 Tryd.underlying55 hi hz0 hz1 hz2 (by rfl) _ ((kindsUpTo v i).map u8V) (by rfl) ((hrow.fr0 hf).fr0 ((Fr.refl _).alloc _)) ?c1 _ 1 [u8V (i + 1)] (by rfl) (Src.ofSlice _ Tryd.underlying55 _ 1 1 _ rfl (cells_new _ [u8V (i + 1)] _) ?c2) ?c3 ?c4 ?_))
        case c1 => have := hf.size; simp; omega
        case c2 => intro u hu; simp at hu; subst hu; rfl
        case c3 => simp only [List.length_map]; unfold maxLen; omega
        case c4 => simp only [List.length_map]; omega
        intro v' w3 hr3 hf3 _
        have HN := hid (KindsRel.more HH.out HY.out hf ((Fr.refl _).alloc _) hr3 hf3)
        obtain ⟨q3, c3, rfl⟩ := hr3.shape
        simp only [List.length_append, List.length_map, List.length_cons, List.length_nil] at HN ⊢
        clear hr3 hf3 hrow
        go_wp2_with fail
        go_roundw
        case rel => exact ⟨i + 1, by omega, by go_num, HN.out⟩
        case measure => simp [intOf]; omega
    · have hd : decide ((i : Int) < 23) = false := by simp; omega
      obtain rfl : i = 23 := by omega
      obtain ⟨ql, cl, rfl⟩ := hR.row.shape
      have hrow := hR.row
      simp only [List.length_map] at hrow ⊢
      have HF := hid hR.fr
      clear hR
      go_wp2_with fail
      go_ret
      exact ⟨ql, cl, rfl, hrow, HF.out⟩
end Go.Proofs.YtbihbkjdngjgkaaDoor
