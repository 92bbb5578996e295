/-
  The items of the statements of layer 2: fits, is, heavy.
-/
import Derived.Test.YtcggakegbdpdfaaItem
namespace Go.Proofs.Ytcggakegbdpdfaa
open Go.RowKit

structure IsP (x : It) (m : Nat) (t : List UInt8) : Prop where
  k0 : ((x.kind : Int) % 8 == 0) = true → m = x.n % 256
  k1 : ((x.kind : Int) % 8 == 1) = true → m = x.n % 65536
  k2 : ((x.kind : Int) % 8 == 2) = true → m = x.n % 4294967296
  k3 : ((x.kind : Int) % 8 == 3) = true → m = x.n
  k4 : ((x.kind : Int) % 8 == 4) = true → m = x.n
  k6 : ((x.kind : Int) % 8 == 6) = true → m = x.n % 4294967296
  kt : ((x.kind : Int) % 8 == 0) = false → ((x.kind : Int) % 8 == 1) = false → ((x.kind : Int) % 8 == 2) = false → ((x.kind : Int) % 8 == 3) = false → ((x.kind : Int) % 8 == 4) = false → ((x.kind : Int) % 8 == 6) = false → t = x.s

def boolEnd (z : Bool) : Ending := .returned (.bool z)

set_option maxHeartbeats 1000000 in
theorem is_yes (x : It) (m : Nat) (t : List UInt8) (w : World) (hx : x.Ok) (hp : IsP x m t) :
    Calls Try.prog 27 #[itV x, .int .u64 m, strV t] w fun e w' => e = .returned (.bool true) ∧ Fr No w w' := by
  obtain ⟨k, n, s, most⟩ := x
  obtain ⟨hk, hn, hs, h1, h2⟩ := hx
  obtain ⟨p0, p1, p2, p3, p4, p6, pt⟩ := hp
  simp only at hk hn hs h1 h2 p0 p1 p2 p3 p4 p6 pt
  replace p0 := hid p0
  replace p1 := hid p1
  replace p2 := hid p2
  replace p3 := hid p3
  replace p4 := hid p4
  replace p6 := hid p6
  replace pt := hid pt
  have hnn := hid hn
  unfold itV strV
  simp only
  clear h1 h2 hs hn
  go_enter Try.func27, Try.ntmps27
  go_wp2
  all_goals go_ret
  all_goals have F := (Fr.refl (X := No) w).alloc (.cells #[.int .u8 k, .int .u64 n, .string ⟨s.toArray⟩, .int .i64 most] 35)
  all_goals first
    | (have e := p0.out (by assumption); exact ⟨congrArg boolEnd (beq_iff_eq.2 (by omega)), F⟩)
    | (have e := p1.out (by assumption); exact ⟨congrArg boolEnd (by rw [wrap16, wrapU64 _ (by omega), e]; simp), F⟩)
    | (have e := p2.out (by assumption); exact ⟨congrArg boolEnd (beq_iff_eq.2 (by omega)), F⟩)
    | (have e := p3.out (by assumption); exact ⟨congrArg boolEnd (beq_iff_eq.2 (by omega)), F⟩)
    | (have e := p4.out (by assumption); exact ⟨congrArg boolEnd (beq_iff_eq.2 (by omega)), F⟩)
    | (have e := p6.out (by assumption); exact ⟨congrArg boolEnd (beq_iff_eq.2 (by omega)), F⟩)
    | (have e := pt.out (by assumption) (by assumption) (by assumption) (by assumption) (by assumption) (by assumption); exact ⟨congrArg boolEnd (beq_iff_eq.2 e), F⟩)
set_option maxHeartbeats 1000000 in
theorem fits_any (x : It) (w : World) (hx : x.Ok) :
    Calls Try.prog 26 #[itV x] w fun e w' => e = .returned (itV { x with most := if x.kind % 8 = 4 then x.most else x.s.length }) ∧ Fr No w w' := by
  obtain ⟨k, n, s, most⟩ := x
  obtain ⟨hk, hn, hs, h1, h2⟩ := hx
  simp only at hk hn hs h1 h2
  unfold itV strV
  simp only
  clear h1 h2 hs hn
  by_cases h4 : k % 8 = 4
  · rw [if_pos h4]
    have c : (((k : Int) % 8) != 4) = false := by simp; omega
    go_enter Try.func26, Try.ntmps26
    go_wp2
    refine bodyPost_ret (Go.results_cell_row rfl _ _ (w.heap.size + 1) 35 _ (0, 0) _ rfl (Go.heap_alloc2_new _ _ _) Try.underlying35 rfl (by kernel_rfl)) rfl ⟨rfl, ((Fr.refl w).alloc _).alloc _⟩
  · rw [if_neg h4]
    have c : (((k : Int) % 8) != 4) = true := by simp; omega
    go_enter Try.func26, Try.ntmps26
    go_wp2
    refine bodyPost_ret (Go.results_cell_row rfl _ _ (w.heap.size + 1) 35 _ (0, 0) _ rfl (Go.heap_alloc2_new _ _ _) Try.underlying35 rfl (by kernel_rfl)) rfl ⟨rfl, ((Fr.refl w).alloc _).alloc _⟩

/-- A slice of items. -/
structure ItsAt (w : World) (p : Option Addr) (l : List It) : Prop where
  ok : ∀ x ∈ l, x.Ok
  at_ : ∀ i x, l[i]? = some x → ∃ b o, p = some ⟨b, o, none⟩ ∧ w.cell? ⟨b, o + i * 4, none⟩ = some (.int .u8 x.kind) ∧ w.cell? ⟨b, o + i * 4 + 1, none⟩ = some (.int .u64 x.n) ∧
    w.cell? ⟨b, o + i * 4 + 2, none⟩ = some (strV x.s) ∧ w.cell? ⟨b, o + i * 4 + 3, none⟩ = some (.int .i64 x.most)
theorem ItsAt.fr {w w' : World} {p : Option Addr} {l : List It} (h : ItsAt w p l) (hf : Fr No w w') : ItsAt w' p l := by
  refine ⟨h.ok, fun i x hi => ?_⟩
  obtain ⟨b, o, e, h0, h1, h2, h3⟩ := h.at_ i x hi
  exact ⟨b, o, e, hf.cell0 h0, hf.cell0 h1, hf.cell0 h2, hf.cell0 h3⟩

def totL (s : List UInt8) (l : List It) : Nat := s.length + (l.map fun x => 20 + x.s.length).sum
theorem totL_snoc (s : List UInt8) (l : List It) (i : Nat) (x : It) (h : l[i]? = some x) : totL s (l.take (i + 1)) = totL s (l.take i) + 20 + x.s.length := by
  obtain ⟨hi, rfl⟩ := List.getElem?_eq_some_iff.1 h
  rw [List.take_succ_eq_append_getElem hi]
  unfold totL
  rw [List.map_append, List.sum_append]
  simp only [List.map_cons, List.map_nil, List.sum_cons, List.sum_nil]
  omega

set_option maxHeartbeats 1000000 in
theorem heavy_any (s : List UInt8) (p : Option Addr) (l : List It) (cap : Nat) (w : World) (hs : s.length ≤ 9223372036854775807) (hl : l.length ≤ 9223372036854775807) (h : ItsAt w p l) :
    Calls Try.prog 12 #[strV s, .slice p l.length cap] w fun e w' => (∃ hv : Bool, e = .returned (.bool hv) ∧ (hv = false → totL s l < 20000)) ∧ w = w' := by
  have h0 : totL s (l.take 0) = s.length := by simp [totL]
  have HS := hid hs
  have HL := hid hl
  have HI := hid h
  unfold strV
  clear hs hl h
  go_enter Try.func12, Try.ntmps12
  go_wp2_with fail
  go_loopw [5, 6] (fun n c wr => ∃ i acc : Nat, i ≤ l.length ∧ n = .int .i64 acc ∧ c = .int .i64 i ∧ (acc < 20000 → acc = totL s (l.take i)) ∧ acc ≤ 9223372036854775807 ∧ w = wr) (fun _ c _ => l.length - (intOf c).toNat)
  case atStart => exact ⟨0, s.length, Nat.zero_le _, rfl, rfl, fun _ => h0.symm, by have := HS.out; omega, rfl⟩
  case round =>
    obtain ⟨i, acc, hi, rfl, rfl, hacc, hab, rfl⟩ := hrel
    have HA := hid hacc
    have HB := hid hab
    clear hacc hab h0
    by_cases hlt : i < l.length
    · have hd : decide ((i : Int) < (l.length : Int)) = true := by simp; omega
      by_cases ha : acc < 20000
      · have hd2 : decide ((acc : Int) < 20000) = true := by simp; omega
        obtain ⟨x, hx⟩ : ∃ x, l[i]? = some x := ⟨_, List.getElem?_eq_getElem hlt⟩
        have hok := HI.out.ok x (List.mem_of_getElem? hx)
        have HX := hid (totL_snoc s l i x hx)
        obtain ⟨b, o, rfl, c0, c1, c2, c3⟩ := HI.out.at_ i x hx
        unfold strV at c2
        clear hx hok c0 c1 c3
        go_wp2_with fail
        go_roundw
        case rel =>
          refine ⟨i + 1, acc + 20 + min x.s.length 20000, by omega, congrArg (Value.int .i64) (by split <;> omega), congrArg (Value.int .i64) (IntWalk.wrap64_in _ (by have := HL.out; omega)), ?_, by have := HB.out; omega, by trivial⟩
          intro hlt2
          rw [HX.out, ← HA.out ha]
          omega
        case measure =>
          have := HL.out
          rw [IntWalk.wrap64_in _ (by omega)]
          simp [intOf]; omega
      · have hd2 : decide ((acc : Int) < 20000) = false := by simp; omega
        have hd3 : decide ((20000 : Int) ≤ (acc : Int)) = true := by simp; omega
        go_wp2_with fail
        go_ret
        exact ⟨⟨true, rfl, by simp⟩, rfl⟩
    · have hd : decide ((i : Int) < (l.length : Int)) = false := by simp; omega
      have HE := hid (List.take_of_length_le (l := l) (i := i) (by omega))
      go_wp2_with fail
      go_ret
      refine ⟨⟨_, rfl, fun hf => ?_⟩, rfl⟩
      simp at hf
      have := HA.out (by omega)
      rw [HE.out] at this
      omega
end Go.Proofs.Ytcggakegbdpdfaa
