/-
  Which kind, or command, is called so: schema's Kind and Worded.
-/
import Derived.Test.YtbihbkjdngjgkaaDoorFields
import Derived.Laws.Rows
namespace Go.Proofs.YtbihbkjdngjgkaaDoor
open Go.RowKit

def tableL (rows : List RowT) : List Value := rows.flatMap rowV
theorem tableL_cells {w : World} {g : Nat} : ∀ (rows : List RowT) (o : Nat), (∀ i r, rows[i]? = some r → ∀ j, j < 5 → w.cell? ⟨g, o + (i * 5 + j), none⟩ = (rowV r)[j]?) →
    ∀ p v, (tableL rows)[p]? = some v → w.cell? ⟨g, o + p, none⟩ = some v
  | [], _, _, p, v, hv => by simp [tableL] at hv
  | r :: rows, o, h, p, v, hv => by
    have hlen : (rowV r).length = 5 := rfl
    by_cases hp : p < 5
    · have h0 := h 0 r rfl p hp
      have : (tableL (r :: rows))[p]? = (rowV r)[p]? := by
        show (rowV r ++ tableL rows)[p]? = _
        rw [List.getElem?_append_left (by omega)]
      rw [this] at hv
      rw [hv] at h0
      simpa using h0
    · have ih := tableL_cells rows (o + 5) (fun i r' hr j hj => by
        have := h (i + 1) r' hr j hj
        rw [← this]
        congr 2
        omega) (p - 5) v (by
        have : (tableL (r :: rows))[p]? = (tableL rows)[p - 5]? := by
          show (rowV r ++ tableL rows)[p]? = _
          rw [List.getElem?_append_right (by omega), hlen]
        rw [← this]; exact hv)
      rw [← ih]
      congr 2
      omega
theorem tableL_row : ∀ (rows : List RowT) (i : Nat) (r : RowT), rows[i]? = some r → ((tableL rows).drop (i * 5)).take 5 = rowV r
  | [], _, _, h => by simp at h
  | r0 :: rows, 0, r, h => by
    obtain rfl : r0 = r := by simpa using h
    show ((rowV r0 ++ tableL rows).drop (0 * 5)).take 5 = _
    simp [rowV]
  | r0 :: rows, i + 1, r, h => by
    have ih := tableL_row rows i r (by simpa using h)
    show ((rowV r0 ++ tableL rows).drop ((i + 1) * 5)).take 5 = _
    have e : (i + 1) * 5 = (rowV r0).length + i * 5 := by have : (rowV r0).length = 5 := rfl; omega
    rw [e, List.drop_append]
    simp only [List.drop_eq_nil_of_le (Nat.le_add_right _ _), List.nil_append, Nat.add_sub_cancel_left]
    exact ih
theorem tableL_length : ∀ (rows : List RowT), (tableL rows).length = rows.length * 5
  | [] => rfl
  | r :: rows => by
    show (rowV r ++ tableL rows).length = _
    rw [List.length_append, tableL_length rows]
    simp [rowV]
    omega

section
variable {P : Program}
theorem run_loadVar_cells {w : World} {g : Nat} {ty : TypeId} {cs : List Value} {d : TypeDesc} (hc : ∀ p v, cs[p]? = some v → w.cell? ⟨g, p, none⟩ = some v)
    (hu : P.underlying ty = some d) (hd : (match d with | .struct _ | .array _ _ => true | _ => false) = true) (hi : (P.info? ty).map (·.size) = some cs.length) :
    (loadVar ty ⟨g, 0, none⟩).run P w = .ok (.agg cs.toArray) w := by
  have hl : (loadCells ⟨g, 0, none⟩ cs.length).run P w = .ok cs.toArray w :=
    run_loadCells_list (P := P) w ⟨g, 0, none⟩ cs (fun j v hv => by
      have hadd : (⟨g, 0, none⟩ : Addr).add j = ⟨g, j, none⟩ := by unfold Addr.add; split <;> simp_all
      rw [hadd]; exact hc j v hv)
  cases hq : P.info? ty with
  | none => simp [hq] at hi
  | some i =>
    have hs : i.size = cs.length := by simpa [hq] using hi
    have hagg : (isAgg ty).run P w = .ok true w := by
      unfold isAgg
      rw [Sem.run_bind, run_underlying hu w]
      cases d <;> simp_all
    simp [loadVar, Sem.run_bind, hagg, sizeOf, typeInfo, hq, hs, hl]
theorem wpList_load_cells {ops : Array Oper} {rest : List Oper} {o : Oper} {a : Act} {w : World} {Q : Exit → Act → World → Prop} (hgd : o.guard = none) (ty : TypeId) (x : Operand) (ho : o.op = .load ty x)
    (g : Nat) (hx : a.eval x = .pointer (some ⟨g, 0, none⟩)) (cs : List Value) (d : TypeDesc) (hc : ∀ p v, cs[p]? = some v → w.cell? ⟨g, p, none⟩ = some v)
    (hu : P.underlying ty = some d) (hd : (match d with | .struct _ | .array _ _ => true | _ => false) = true) (hi : (P.info? ty).map (·.size) = some cs.length)
    (h : wpList P ops Q rest (a.put o.dst (.agg cs.toArray)) w) : wpList P ops Q (o :: rest) a w :=
  wpList_plain hgd fun K hK => by
    unfold Oper.wp execOp
    simp only [ho, hx, Instr.loadAt, Instr.sureAddr, Sem.run_bind, Sem.run_pure, Result.andThen_ok, run_loadVar_cells hc hu hd hi]
    exact hK _ _ h
theorem run_index_table {t e : TypeId} {n : Nat} {rows : List RowT} {d : TypeDesc} {ie : TypeInfo} (ht : P.underlying t = some (.array n e)) (he : P.underlying e = some d)
    (hd : (match d with | .struct _ | .array _ _ => true | _ => false) = true) (hi : P.info? e = some ie) (hsz : ie.size = 5) {i : Nat} {r : RowT} (hr : rows[i]? = some r) (hin : i < n) (w : World) :
    (Instr.index t (.agg (tableL rows).toArray) (.int .i64 i)).run P w = .ok (rowA r) w := by
  have hagg : (isAgg e).run P w = .ok true w := by
    unfold isAgg
    rw [Sem.run_bind, run_underlying he w]
    cases d <;> simp_all
  have ht5 := tableL_row rows i r hr
  simp [Instr.index, asIntOf, run_underlying ht, part, hagg, sizeOf, typeInfo, hi, hsz]
  rw [if_pos hin, ht5]
  rfl
end

/-- Which row is called so: from 1 on; 0: none. -/
def placeOf (rows : List RowT) (s : List UInt8) : Nat := match rows.findIdx? (fun r => r.name == s) with | some i => i + 1 | none => 0
theorem placeOf_hit {rows : List RowT} {s : List UInt8} {i : Nat} {r : RowT} (hr : rows[i]? = some r) (hs : r.name = s) (hb : ∀ j r', j < i → rows[j]? = some r' → r'.name ≠ s) : placeOf rows s = i + 1 := by
  have : rows.findIdx? (fun r => r.name == s) = some i := by
    rw [List.findIdx?_eq_some_iff_getElem]
    obtain ⟨hi, rfl⟩ := List.getElem?_eq_some_iff.1 hr
    refine ⟨hi, by simp [hs], fun j hj => ?_⟩
    have := hb j _ hj (List.getElem?_eq_getElem (by omega))
    simpa using this
  unfold placeOf; rw [this]
theorem placeOf_miss {rows : List RowT} {s : List UInt8} (hb : ∀ (j : Nat) (r' : RowT), rows[j]? = some r' → r'.name ≠ s) : placeOf rows s = 0 := by
  have : rows.findIdx? (fun r => r.name == s) = none := by
    rw [List.findIdx?_eq_none_iff]
    intro r hr
    obtain ⟨j, hj⟩ := List.getElem?_of_mem hr
    simpa using hb j r hj
  unfold placeOf; rw [this]


set_option maxHeartbeats 2000000 in
set_option maxRecDepth 100000 in
theorem kind_any (s : List UInt8) (w : World) (hk : KT w) :
    Calls Tryd.prog 36 #[strV s] w fun e w' => e = .returned (.tuple #[.int .u8 (placeOf kindsT s), .bool (decide (0 < placeOf kindsT s))]) ∧ Fr No w w' := by
  have hcs := tableL_cells (w := w) (g := 1) kindsT 0 (fun i r hr j hj => by have := hk i r hr j hj; simpa using this)
  simp only [Nat.zero_add] at hcs
  have hlen : (tableL kindsT).length = 115 := by rw [tableL_length]; rfl
  have hix : ∀ (i : Nat) (r : RowT) (w1 : World), kindsT[i]? = some r → i < 23 → (Instr.index 71 (.agg (tableL kindsT).toArray) (.int .i64 i)).run Tryd.prog w1 = .ok (rowA r) w1 := by
    intro i r w1 hr hin
    obtain ⟨ie, hi, hsz⟩ : ∃ ie, Tryd.prog.info? 64 = some ie ∧ ie.size = 5 := Option.map_eq_some_iff.1 (by kernel_rfl)
    exact run_index_table (d := _) Tryd.underlying71 Tryd.underlying64 rfl hi hsz hr hin w1
  have hrl : kindsT.length = 23 := rfl
  have HP := hid (fun (i : Nat) (r : RowT) (a : kindsT[i]? = some r) (b : r.name = s) (c : ∀ (j : Nat) (r' : RowT), j < i → kindsT[j]? = some r' → r'.name ≠ s) => placeOf_hit a b c)
  have HM := hid (fun (c : ∀ (j : Nat) (r' : RowT), kindsT[j]? = some r' → r'.name ≠ s) => placeOf_miss c)
  have hsize : (Tryd.prog.info? 71).map (·.size) = some (tableL kindsT).length := by rw [hlen]; kernel_rfl
  unfold strV
  generalize placeOf kindsT s = N at HP HM ⊢
  generalize tableL kindsT = TB at hcs hix hsize
  have HX := hid hix
  have HC := hid hcs
  have HL := hid hrl
  have HZ := hid hsize
  have HS := hid (show ∀ (i : Nat) (r : RowT), kindsT[i]? = some r → i < 23 from fun i r h => by have := (List.getElem?_eq_some_iff.1 h).1; omega)
  clear hix hcs hrl hlen hk hsize
  generalize kindsT = RS at HP HM HX HL HS
  go_enter Tryd.func36, Tryd.ntmps36
  go_wp2_with (refine wpList_load_cells rfl 71 _ rfl 1 rfl TB _ HC.out Tryd.underlying71 rfl HZ.out ?_)
  go_loopw [7] (fun c wr => ∃ i : Nat, i ≤ 23 ∧ c = .int .i64 i ∧ Fr No w wr ∧ Hid (∀ (j : Nat) (r' : RowT), j < i → RS[j]? = some r' → r'.name ≠ s)) (fun c _ => 23 - (intOf c).toNat)
  case atStart => exact ⟨0, Nat.zero_le _, rfl, Fr.refl _, hid (fun j _ h => absurd h (Nat.not_lt_zero _))⟩
  case round =>
    obtain ⟨i, hi, rfl, hF, HA⟩ := hrel
    by_cases hlt : i < 23
    · have hd : decide ((i : Int) < 23) = true := by simp; omega
      obtain ⟨r, hr⟩ : ∃ r, RS[i]? = some r := ⟨_, List.getElem?_eq_getElem (by have := HL.out; omega)⟩
      have hx := fun w1 => HX.out i r w1 hr hlt
      unfold rowA strV at hx
      have HR := hid hr
      clear hr
      have hx1 : (⟨r.name.toArray⟩ : ByteArray).toList = r.name := by simp
      have hx2 : (⟨s.toArray⟩ : ByteArray).toList = s := by simp
      have hw8 : IntKind.u8.wrap ((i : Int) + 1) = ((i + 1 : Nat) : Int) := by rw [IntWalk.u8_in _ (by omega)]; omega
      have HF := hid (fun (o : Obj) => hF.alloc o)
      by_cases hb : r.name = s
      · have hbb : (r.name == s) = true := by simpa using hb
        have HBB := hid hb
        have HN := hid (HP.out i r HR.out hb HA.out)
        clear hb hF
        go_wp2_with fail
        go_ret2
        rw [HN.out]
        exact ⟨by simp, HF.out _⟩
      · have hbb : (r.name == s) = false := by simpa using hb
        have HBB := hid hb
        clear hb hF
        go_wp2_with fail
        go_roundw
        case rel =>
          refine ⟨i + 1, by omega, by go_num, HF.out _, hid ?_⟩
          intro j r' hj a
          by_cases hji : j = i
          · subst hji
            have e := HR.out
            rw [e] at a
            cases a
            exact HBB.out
          · exact HA.out j r' (by omega) a
        case measure => simp [intOf]; omega
    · have hd : decide ((i : Int) < 23) = false := by simp; omega
      have HN := hid (HM.out (fun j r' a => HA.out j r' (by have := HS.out j r' a; omega) a))
      go_wp2_with fail
      go_ret2
      rw [HN.out]
      exact ⟨rfl, hF⟩

set_option maxHeartbeats 2000000 in
set_option maxRecDepth 100000 in
theorem worded_any (s : List UInt8) (w : World) (hk : CT w) :
    Calls Tryd.prog 27 #[strV s] w fun e w' => e = .returned (.tuple #[.int .u8 (placeOf commandsT s), .bool (decide (0 < placeOf commandsT s))]) ∧ Fr No w w' := by
  have hcs := tableL_cells (w := w) (g := 0) commandsT 0 (fun i r hr j hj => by have := hk i r hr j hj; simpa using this)
  simp only [Nat.zero_add] at hcs
  have hlen : (tableL commandsT).length = 100 := by rw [tableL_length]; rfl
  have hix : ∀ (i : Nat) (r : RowT) (w1 : World), commandsT[i]? = some r → i < 20 → (Instr.index 70 (.agg (tableL commandsT).toArray) (.int .i64 i)).run Tryd.prog w1 = .ok (rowA r) w1 := by
    intro i r w1 hr hin
    obtain ⟨ie, hi, hsz⟩ : ∃ ie, Tryd.prog.info? 64 = some ie ∧ ie.size = 5 := Option.map_eq_some_iff.1 (by kernel_rfl)
    exact run_index_table (d := _) Tryd.underlying70 Tryd.underlying64 rfl hi hsz hr hin w1
  have hrl : commandsT.length = 20 := rfl
  have HP := hid (fun (i : Nat) (r : RowT) (a : commandsT[i]? = some r) (b : r.name = s) (c : ∀ (j : Nat) (r' : RowT), j < i → commandsT[j]? = some r' → r'.name ≠ s) => placeOf_hit a b c)
  have HM := hid (fun (c : ∀ (j : Nat) (r' : RowT), commandsT[j]? = some r' → r'.name ≠ s) => placeOf_miss c)
  have hsize : (Tryd.prog.info? 70).map (·.size) = some (tableL commandsT).length := by rw [hlen]; kernel_rfl
  unfold strV
  generalize placeOf commandsT s = N at HP HM ⊢
  generalize tableL commandsT = TB at hcs hix hsize
  have HX := hid hix
  have HC := hid hcs
  have HL := hid hrl
  have HZ := hid hsize
  have HS := hid (show ∀ (i : Nat) (r : RowT), commandsT[i]? = some r → i < 20 from fun i r h => by have := (List.getElem?_eq_some_iff.1 h).1; omega)
  clear hix hcs hrl hlen hk hsize
  generalize commandsT = RS at HP HM HX HL HS
  go_enter Tryd.func27, Tryd.ntmps27
  go_wp2_with (refine wpList_load_cells rfl 70 _ rfl 0 rfl TB _ HC.out Tryd.underlying70 rfl HZ.out ?_)
  go_loopw [7] (fun c wr => ∃ i : Nat, i ≤ 20 ∧ c = .int .i64 i ∧ Fr No w wr ∧ Hid (∀ (j : Nat) (r' : RowT), j < i → RS[j]? = some r' → r'.name ≠ s)) (fun c _ => 20 - (intOf c).toNat)
  case atStart => exact ⟨0, Nat.zero_le _, rfl, Fr.refl _, hid (fun j _ h => absurd h (Nat.not_lt_zero _))⟩
  case round =>
    obtain ⟨i, hi, rfl, hF, HA⟩ := hrel
    by_cases hlt : i < 20
    · have hd : decide ((i : Int) < 20) = true := by simp; omega
      obtain ⟨r, hr⟩ : ∃ r, RS[i]? = some r := ⟨_, List.getElem?_eq_getElem (by have := HL.out; omega)⟩
      have hx := fun w1 => HX.out i r w1 hr hlt
      unfold rowA strV at hx
      have HR := hid hr
      clear hr
      have hx1 : (⟨r.name.toArray⟩ : ByteArray).toList = r.name := by simp
      have hx2 : (⟨s.toArray⟩ : ByteArray).toList = s := by simp
      have hw8 : IntKind.u8.wrap ((i : Int) + 1) = ((i + 1 : Nat) : Int) := by rw [IntWalk.u8_in _ (by omega)]; omega
      have HF := hid (fun (o : Obj) => hF.alloc o)
      by_cases hb : r.name = s
      · have hbb : (r.name == s) = true := by simpa using hb
        have HBB := hid hb
        have HN := hid (HP.out i r HR.out hb HA.out)
        clear hb hF
        go_wp2_with fail
        go_ret2
        rw [HN.out]
        exact ⟨by simp, HF.out _⟩
      · have hbb : (r.name == s) = false := by simpa using hb
        have HBB := hid hb
        clear hb hF
        go_wp2_with fail
        go_roundw
        case rel =>
          refine ⟨i + 1, by omega, by go_num, HF.out _, hid ?_⟩
          intro j r' hj a
          by_cases hji : j = i
          · subst hji
            have e := HR.out
            rw [e] at a
            cases a
            exact HBB.out
          · exact HA.out j r' (by omega) a
        case measure => simp [intOf]; omega
    · have hd : decide ((i : Int) < 20) = false := by simp; omega
      have HN := hid (HM.out (fun j r' a => HA.out j r' (by have := HS.out j r' a; omega) a))
      go_wp2_with fail
      go_ret2
      rw [HN.out]
      exact ⟨rfl, hF⟩
end Go.Proofs.YtbihbkjdngjgkaaDoor
