/-
  WireOne: the walk.
-/
import Derived.Test.YtcggakegbdpdfaaOne
import Derived.Test.YtcggakegbdpdfaaBack
namespace Go.Proofs.Ytcggakegbdpdfaa
open Go.RowKit

theorem cut_text1 (l : List UInt8) (n : Nat) : ((⟨l.toArray⟩ : ByteArray).extract 0 n).toList = l.take n := by
  simp only [ByteArray.extract_mk]; simp

/-- The loop's state: what was taken is written. -/
def OneRel (w : World) (b B : Nat) (s : List UInt8) (r : Rd) (wr : World) : Prop :=
  ∃ o, RdIs wr b r ∧ r.s = s ∧ WrAt wr B o (s.take r.at_) ∧ Fr No w wr ∧ w.heap.size ≤ b ∧ w.heap.size ≤ B ∧ B ≠ b ∧ (∀ g, o = some g → w.heap.size ≤ g ∧ g ≠ b)

theorem one_read {w wr w2 : World} {b B : Nat} {s : List UInt8} {r' : Rd} {o : Option Nat} (h3 : WrAt wr B o s) (h4 : Fr No w wr) (h5 : w.heap.size ≤ b)
    (h7 : B ≠ b) (h8 : ∀ g, o = some g → w.heap.size ≤ g ∧ g ≠ b) (hr : ReadTo wr w2 b r') :
    RdIs w2 b r' ∧ WrAt w2 B o s ∧ Fr No w w2 :=
  ⟨hr.1, h3.only hr.2 h7 (fun g hg => (h8 g hg).2), h4.newOnly h5 hr.2⟩
theorem one_write {w w2 w3 w4 : World} {b B : Nat} {s : List UInt8} {r' : Rd} {a : Nat} {bs : List UInt8} {o : Option Nat} (h1 : RdIs w2 b r') (h2 : r'.s = s) (h3 : WrAt w2 B o (s.take a)) (h4 : Fr No w w2) (h5 : w.heap.size ≤ b)
    (h6 : w.heap.size ≤ B) (h7 : B ≠ b) (h8 : ∀ g, o = some g → w.heap.size ≤ g ∧ g ≠ b) (hq : Fr No w2 w3) (hw : Wrote w3 w4 B o (s.take a ++ bs)) (he : s.take r'.at_ = s.take a ++ bs) :
    OneRel w b B s r' w4 := by
  obtain ⟨o', ha, hf, hno⟩ := hw
  have hb3 : b < w3.heap.size := Nat.lt_of_lt_of_le h1.lt hq.size
  have h1' : RdIs w3 b r' := h1.fr hq id
  refine ⟨o', h1'.fr hf (fun hx => ?_), h2, by rw [he]; exact ha, (h4.trans hq).newOnlyO h6 (fun g hg => (h8 g hg).1) hf, h5, h6, h7, fun g hg => ?_⟩
  · rcases hx with hx | hx
    · exact h7 hx.symm
    · exact (h8 b hx).2 rfl
  · rcases hno with rfl | hno
    · exact h8 g hg
    · have := hno g hg
      have := (h4.trans hq).size
      exact ⟨by omega, by omega⟩

set_option maxHeartbeats 2000000 in
set_option maxRecDepth 100000 in
theorem wireOne_any (s : List UInt8) (p : Option Addr) (l : List It) (cap : Nat) (w : World) (hs : s.length ≤ 9223372036854775807) (hl : l.length ≤ 9223372036854775807) (h : ItsAt w p l) :
    Calls Try.prog 5 #[strV s, .slice p l.length cap] w fun e w' => e = .returned (.bool true) ∧ Fr No w w' := by
  have K := hid (fun w1 => works_any w1)
  have HV := hid (fun w1 (h1 : ItsAt w1 p l) => heavy_any s p l cap w1 hs hl h1)
  have HR0 := hid (fun w1 => new_any s w1 hs)
  have HI := hid h
  have HL := hid hl
  have HS := hid hs
  unfold strV at HV HR0 ⊢
  clear h hl hs
  go_enter Try.func5, Try.ntmps5
  go_wp2_with (first
    | (go_at_call 9; refine (K.out _).mono ?_; rintro e1 w1 ⟨rfl, hf1⟩)
    | (go_at_call 12; refine (HV.out _ (HI.out.fr hf1)).mono ?_; rintro e2 w2 ⟨⟨hv, rfl, htot⟩, rfl⟩; cases hv)
    | (go_at_call 18; refine (HR0.out _).mono ?_; rintro e3 w3 ⟨b, rfl, hb, hlt, hf3⟩))
  rotate_left 1
  · go_ret
    exact ⟨rfl, by (rename_i a c; exact c.trans hf1)⟩
  have ht : totL s l < 20000 := htot trivial
  have HT := hid ht
  clear htot ht
  have HO : OneRel w1 b w3.heap.size s ⟨s, 0, 0, 0⟩ (w3.alloc (.cells #[.slice none 0 0] 32)) := by
    have hb3 : b < w3.heap.size := RdAt.lt hb
    refine ⟨none, RdIs.fr (X := No) hb ((Fr.refl w3).alloc _) id, rfl, ?_, hf3.alloc _, hlt, hf3.size, by omega, fun _ hg => by cases hg⟩
    exact wr_new w3
  generalize w3.heap.size = B at HO ⊢
  clear hb hlt
  go_loopw [7] (fun c wr => ∃ (i : Nat) (r : Rd), i ≤ l.length ∧ c = .int .i64 i ∧ OneRel w1 b B s r wr) (fun c _ => l.length - (intOf c).toNat)
  case atStart => exact ⟨0, _, Nat.zero_le _, rfl, HO⟩
  case round =>
    clear HO
    obtain ⟨i, ⟨rs, a, er, to⟩, hi', rfl, o, g1, g2, g3, g4, g5, g6, g7, g8⟩ := hrel
    simp only at g2 g3
    subst g2
    by_cases hlt : i < l.length
    · have hd : decide ((i : Int) < (l.length : Int)) = true := by simp; omega
      obtain ⟨x, hx⟩ : ∃ x, l[i]? = some x := ⟨_, List.getElem?_eq_getElem hlt⟩
      have hok := HI.out.ok x (List.mem_of_getElem? hx)
      obtain ⟨bb, q, rfl, k0, k1, k2, k3⟩ := (HI.out.fr hf1).at_ i x hx
      have GX := hid (fun w1 (h : RdIs w1 b ⟨rs, a, er, to⟩) => get_any b _ x w1 hok h)
      have hts : rs.length ≤ totL rs l := by unfold totL; omega
      unfold itV strV at GX
      unfold strV at k2
      have hat : a ≤ rs.length := g1.2.1
      replace k0 := hid k0
      replace k1 := hid k1
      replace k2 := hid k2
      replace k3 := hid k3
      by_cases he : er = 0
      · subst he
        rcases itG_good x ⟨rs, a, 0, to⟩ rfl hat with hS | ⟨n, t, r', hG, hM⟩
        · generalize itG x ⟨rs, a, 0, to⟩ = gg at hS GX
          obtain ⟨⟨n, t⟩, ⟨s', a', e', to'⟩⟩ := gg
          obtain ⟨hz, z1, z2, z3, z4⟩ := hS
          simp only [Prod.mk.injEq] at hz z1 z2 z3 z4
          obtain ⟨rfl, rfl⟩ := hz
          subst z1 z2 z4
          have c4 : ((e' : Int) != 0) = true := by simp; omega
          have HT2 := hid hts
          clear hts z3
          go_wp2_with (first
            | (go_at_call 21; refine (GX.out _ hr6).mono ?_; rintro e7 w7 ⟨rfl, hr7⟩
               obtain ⟨s1, s2, s3⟩ := one_read (g3.fr (hf5.trans hf6) id (fun _ _ => id)) (g4.trans (hf5.trans hf6)) g5 g7 g8 ⟨hr7.1, hr7.2⟩)
            | (go_at_call 20; refine (at_any b _ _ _ _ _ hr8).mono ?_; rintro e9 w9 ⟨rfl, hf9⟩; have hr9 := hr8.fr hf9 id)
            | (go_at_call 20; refine (at_any b _ _ _ _ _ hr5).mono ?_; rintro e6 w6 ⟨rfl, hf6⟩; have hr6 := hr5.fr hf6 id
               have F6 := g4.trans (hf5.trans hf6)
               have c0 := F6.cell0 k0.out
               have c1 := F6.cell0 k1.out
               have c2 := F6.cell0 k2.out
               have c3 := F6.cell0 k3.out)
            | (go_at_call 19; refine (err_any b _ _ _ _ _ s1).mono ?_; rintro e8 w8 ⟨rfl, hf8⟩; have hr8 := s1.fr hf8 id)
            | (go_at_call 19; refine (err_any b _ _ _ _ _ g1).mono ?_; rintro e5 w5 ⟨rfl, hf5⟩; have hr5 := g1.fr hf5 id))
          go_roundw
          case rel => exact ⟨i + 1, _, by omega, congrArg (Value.int .i64) (IntWalk.wrap64_in _ (by have := HL.out; omega)), o, hr9, rfl, s2.fr (hf8.trans hf9) id (fun _ _ => id), s3.trans (hf8.trans hf9), g5, g6, g7, g8⟩
          case measure =>
            have := HL.out
            rw [IntWalk.wrap64_in _ (by omega)]
            simp [intOf]; omega
        · obtain ⟨s', a', e', to'⟩ := r'
          obtain ⟨z1, z2, z3, z4, z5, z6, z7⟩ := hM
          simp only at z1 z2 z3 z4 z6 z7
          subst z1 z2 z7
          rw [hG] at GX
          have HT2 := hid (And.intro hts (And.intro z4 (And.intro z5 z6)))
          have PX := hid (fun w1 o (h : WrAt w1 B o (s'.take a)) => put_any B o { x with n := n, s := t } (s'.take a) w1 ⟨hok.kind, by show n ≤ _; omega, by show t.length ≤ _; have := HS.out; omega, hok.lo, hok.hi⟩ h (by
            show _ + t.length + 20 ≤ _
            have := HT.out
            simp
            omega))
          unfold itV strV at PX
          simp only at PX
          clear hts z3 z4 z5 z6 hG
          go_wp2_with (first
            | (go_at_call 21; refine (GX.out _ hr6).mono ?_; rintro e7 w7 ⟨rfl, hr7⟩
               obtain ⟨s1, s2, s3⟩ := one_read (g3.fr (hf5.trans hf6) id (fun _ _ => id)) (g4.trans (hf5.trans hf6)) g5 g7 g8 ⟨hr7.1, hr7.2⟩)
            | (go_at_call 20; refine (at_any b _ _ _ _ _ hr5).mono ?_; rintro e6 w6 ⟨rfl, hf6⟩; have hr6 := hr5.fr hf6 id
               have F6 := g4.trans (hf5.trans hf6)
               have c0 := F6.cell0 k0.out
               have c1 := F6.cell0 k1.out
               have c2 := F6.cell0 k2.out
               have c3 := F6.cell0 k3.out)
            | (go_at_call 19; refine (err_any b _ _ _ _ _ s1).mono ?_; rintro e8 w8 ⟨rfl, hf8⟩; have hr8 := s1.fr hf8 id
               have d0 := (s3.trans hf8).cell0 k0.out
               have d1 := (s3.trans hf8).cell0 k1.out
               have d2 := (s3.trans hf8).cell0 k2.out
               have d3 := (s3.trans hf8).cell0 k3.out)
            | (go_at_call 19; refine (err_any b _ _ _ _ _ g1).mono ?_; rintro e5 w5 ⟨rfl, hf5⟩; have hr5 := g1.fr hf5 id)
            | (go_at_call 13; refine (PX.out _ _ (s2.fr (hf8.alloc _) id (fun _ _ => id))).mono ?_; rintro e9 w9 ⟨rfl, hq9⟩))
          go_roundw
          case rel => exact ⟨i + 1, _, by omega, congrArg (Value.int .i64) (IntWalk.wrap64_in _ (by have := HL.out; omega)), one_write s1 rfl s2 s3 g5 g6 g7 g8 (hf8.alloc _) hq9 HT2.out.2.1⟩
          case measure =>
            have := HL.out
            rw [IntWalk.wrap64_in _ (by omega)]
            simp [intOf]; omega
      · have hz := itG_bad x ⟨rs, a, er, to⟩ he
        have c4 : ((er : Int) != 0) = true := by simp; omega
        rw [hz] at GX
        have HT2 := hid hts
        clear hz hts
        go_wp2_with (first
          | (go_at_call 21; refine (GX.out _ hr6).mono ?_; rintro e7 w7 ⟨rfl, hr7⟩
             obtain ⟨s1, s2, s3⟩ := one_read (g3.fr (hf5.trans hf6) id (fun _ _ => id)) (g4.trans (hf5.trans hf6)) g5 g7 g8 ⟨hr7.1, hr7.2⟩)
          | (go_at_call 20; refine (at_any b _ _ _ _ _ hr9).mono ?_; rintro e10 w10 ⟨rfl, hf10⟩; have hr10 := hr9.fr hf10 id)
          | (go_at_call 20; refine (at_any b _ _ _ _ _ hr8).mono ?_; rintro e9 w9 ⟨rfl, hf9⟩; have hr9 := hr8.fr hf9 id)
          | (go_at_call 20; refine (at_any b _ _ _ _ _ hr5).mono ?_; rintro e6 w6 ⟨rfl, hf6⟩; have hr6 := hr5.fr hf6 id
             have F6 := g4.trans (hf5.trans hf6)
             have c0 := F6.cell0 k0.out
             have c1 := F6.cell0 k1.out
             have c2 := F6.cell0 k2.out
             have c3 := F6.cell0 k3.out)
          | (go_at_call 19; refine (err_any b _ _ _ _ _ s1).mono ?_; rintro e8 w8 ⟨rfl, hf8⟩; have hr8 := s1.fr hf8 id)
          | (go_at_call 19; refine (err_any b _ _ _ _ _ g1).mono ?_; rintro e5 w5 ⟨rfl, hf5⟩; have hr5 := g1.fr hf5 id))
        go_roundw
        case rel => exact ⟨i + 1, _, by omega, congrArg (Value.int .i64) (IntWalk.wrap64_in _ (by have := HL.out; omega)), o, hr10, rfl, s2.fr ((hf8.trans hf9).trans hf10) id (fun _ _ => id), s3.trans ((hf8.trans hf9).trans hf10), g5, g6, g7, g8⟩
        case measure =>
          have := HL.out
          rw [IntWalk.wrap64_in _ (by omega)]
          simp [intOf]; omega
    · have hd : decide ((i : Int) < (l.length : Int)) = false := by simp; omega
      have hat : a ≤ rs.length := g1.2.1
      have HBy : Hid (∀ w1, Fr No wr w1 → Calls Try.prog 17 #[.pointer (some ⟨B, 0, none⟩)] w1 fun e w' => e = .returned (.string ⟨(rs.take a).toArray⟩) ∧ w1 = w') :=
        hid (fun w1 hf => bytes_any B o _ w1 (g3.fr hf id (fun _ _ => id)))
      have hcmp : (rs.take a == ((⟨rs.toArray⟩ : ByteArray).extract 0 a).toList) = true := by rw [cut_text1]; simp
      go_wp2_with (first
        | (go_at_call 17; refine (HBy.out _ (Fr.refl _)).mono ?_; rintro e5 w5 ⟨rfl, rfl⟩)
        | (go_at_call 22; refine (left_any b _ _ _ _ _ hr6).mono ?_; rintro e7 w7 ⟨rfl, hf7⟩; have hr7 := hr6.fr hf7 id)
        | (go_at_call 20; refine (at_any b _ _ _ _ _ hr7).mono ?_; rintro e8 w8 ⟨rfl, hf8⟩)
        | (go_at_call 20; refine (at_any b _ _ _ _ _ g1).mono ?_; rintro e6 w6 ⟨rfl, hf6⟩; have hr6 := g1.fr hf6 id))
      go_ret
      exact ⟨congrArg boolEnd (by
        have := HS.out
        rw [IntWalk.wrap64_in _ (by omega), beq_iff_eq]
        omega), (hf1.trans g4).trans ((hf6.trans hf7).trans hf8)⟩
end Go.Proofs.Ytcggakegbdpdfaa
