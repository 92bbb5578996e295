/-
  SchemaNames: the plain law and the walk.
-/
import Derived.Test.YtbihbkjdngjgkaaDoorAwake5
import Derived.Test.YtbihbkjdngjgkaaDoorRNames
import Derived.Test.YtbihbkjdngjgkaaDoorRWords
import Derived.Test.YtbihbkjdngjgkaaDoorKinds
import Derived.Test.YtbihbkjdngjgkaaDoorMayCmd
import Derived.Test.YtbihbkjdngjgkaaDoorRBound
import Derived.Laws.BytesString
namespace Go.Proofs.YtbihbkjdngjgkaaDoor
open Go.RowKit

theorem cat_two5 (a b : List UInt8) : ((⟨a.toArray⟩ : ByteArray) ++ (⟨b.toArray⟩ : ByteArray)) = ⟨(a ++ b).toArray⟩ := by
  apply ByteArray.ext
  simp
theorem run_one_text5 (W : World) (g : Nat) (z : Int) (h : W.heap[g]? = some (.cells #[.int .u8 z] 5 (0, 0))) :
    (convert 55 9 (.slice (some ⟨g, 0, none⟩) 1 1)).run Tryd.prog W = .ok (.string ⟨#[UInt8.ofNat z.toNat]⟩) W := by
  have hown : Own W 5 1 (.slice (some ⟨g, 0, none⟩) 1 1) 1 [.int .u8 z] := ⟨rfl, .inr ⟨g, 1, _, rfl, Nat.zero_le _, h, by decide, by decide, rfl, rfl⟩⟩
  rw [run_convert_bytes_string W 55 9 5 _ _ _ Tryd.underlying55 Tryd.underlying5 Tryd.underlying9]
  have hload := run_loadCells_list (P := Tryd.prog) W ⟨g, 0, none⟩ [.int .u8 z] (hown.cells (g := g) rfl)
  rw [run_bytesToString W ⟨g, 0, none⟩ 1 1 [z] hload]
  rfl
theorem run_one_new5 (w : World) (z : Int) :
    (convert 55 9 (.slice (some ⟨w.heap.size, 0, none⟩) 1 1)).run Tryd.prog (w.alloc (.cells #[.int .u8 z] 5)) = .ok (.string ⟨#[UInt8.ofNat z.toNat]⟩) (w.alloc (.cells #[.int .u8 z] 5)) :=
  run_one_text5 _ _ _ (Go.heap_alloc_new _ _)
attribute [local go_sem ↓] run_one_new5

theorem xs_names : ((List.range 27).all fun i => mayNameS (List.replicate i 120) == (decide (1 ≤ i) && decide (i ≤ 24))) = true := by decide +kernel
theorem a_name (c : UInt8) : mayNameS [97, c] = mayNameS [c] := by
  simp [mayNameS, nameB]
theorem bound_facts (v c : Nat) : 0 ≤ (boundS v c).1 ∧ (boundS v c).1 ≤ 1 ∧ 0 ≤ (boundS v c).2.1 ∧ (boundS v c).2.1 ≤ 1125899906842624 ∧ ((boundS v c).2.2 = true → (boundS v c).1 ≤ (boundS v c).2.1) := by
  unfold boundS
  split <;> decide
theorem bound_fits {v c : Nat} {lo hi : Int} {is : Bool} (h : boundS v c = (lo, hi, is)) : fitsS v c (lo - 1) = false ∧ fitsS v c (hi + 1) = false ∧ fitsS v c lo = is ∧ fitsS v c hi = is := by
  have hb := (bound_facts v c).2.2.2.2
  rw [h] at hb
  simp only at hb
  unfold fitsS
  rw [h]
  simp only
  cases is
  · simp
  · have := hb rfl
    refine ⟨?_, ?_, ?_, ?_⟩ <;> simp <;> omega
theorem nbool_ne (b : Bool) : (b != b) = false := by cases b <;> rfl

set_option maxHeartbeats 8000000 in
set_option maxRecDepth 100000 in
theorem schemaNames_any (w : World) (hkt : KT w) (hct : CT w) :
    Calls Tryd.prog 8 #[] w fun e w' => e = .returned (.bool true) ∧ Fr No w w' := by
  have AW := hid (awake5_any w hkt hct)
  have MNX := hid (fun i (w1 : World) (h : i < 27) => mayName_any (List.replicate i 120) w1 (by simp; omega))
  have HX : Hid (∀ i, i < 27 → mayNameS (List.replicate i 120) = (decide (1 ≤ i) && decide (i ≤ 24))) := hid (fun i h => by simpa using List.all_eq_true.1 xs_names i (List.mem_range.2 h))
  unfold strV at MNX
  go_enter Tryd.func8, Tryd.ntmps8
  go_wp2_with (first | (go_at_call 12; (with_reducible refine AW.out.mono ?_); rintro e1 w1 ⟨rfl, hf1⟩))
  -- names of all lengths
  go_loopw [1, 2] (fun s j wr => ∃ (i : Nat) (nm : List UInt8), i ≤ 27 ∧ s = .string ⟨nm.toArray⟩ ∧ j = .int .i64 i ∧ Fr No w wr ∧ Hid (nm = List.replicate i 120)) (fun _ j _ => 27 - (intOf j).toNat)
  case atStart => exact ⟨0, [], Nat.zero_le _, rfl, rfl, hf1, hid rfl⟩
  case round =>
    obtain ⟨i, nm, hi, rfl, rfl, hF, HNM⟩ := hrel
    by_cases hlt : i < 27
    · have hd : decide ((i : Int) < 27) = true := by simp; omega
      have MN := hid (fun w1 => HNM.out ▸ MNX.out i w1 hlt)
      have hmn : mayNameS nm = (decide (1 ≤ i) && decide (i ≤ 24)) := by rw [HNM.out]; exact HX.out i hlt
      have HREP : Hid (nm ++ [120] = List.replicate (i + 1) 120) := hid (by rw [HNM.out, List.replicate_succ'])
      have hnl : nm.length ≤ 27 := by rw [HNM.out]; simp; omega
      have hC : (i = 0 ∧ mayNameS nm = false ∧ decide ((1 : Int) ≤ (i : Int)) = false) ∨ (decide ((1 : Int) ≤ (i : Int)) = true ∧ decide ((i : Int) ≤ 24) = true ∧ mayNameS nm = true) ∨ (decide ((1 : Int) ≤ (i : Int)) = true ∧ decide ((i : Int) ≤ 24) = false ∧ mayNameS nm = false) := by
        rw [hmn]
        by_cases h0 : i = 0
        · subst h0; exact .inl ⟨rfl, rfl, by decide⟩
        · by_cases h1 : i ≤ 24
          · exact .inr (.inl ⟨by simp; omega, by simp; omega, by simp; omega⟩)
          · exact .inr (.inr ⟨by simp; omega, by simp; omega, by simp; omega⟩)
      clear hmn
      generalize mayNameS nm = R at MN hC
      rcases hC with ⟨h0, rfl, g1⟩ | ⟨g1, g2, rfl⟩ | ⟨g1, g2, rfl⟩
      all_goals
        (try clear h0)
        go_wp2_with (first | (go_at_call 20; (with_reducible refine (MN.out _).mono ?_); rintro e2 w2 ⟨rfl, hf2⟩))
        go_roundw
        case rel => exact ⟨i + 1, nm ++ [120], by omega, by first | rfl | exact congrArg Value.string (cat_two5 nm [120]), by go_num, hF.trans hf2, HREP⟩
        case measure => simp [intOf]; omega
    · have hd : decide ((i : Int) < 27) = false := by simp; omega
      clear MNX HX hi HNM
      go_wp2_with fail
      -- names of each byte; the bounds of each class
      go_loopw [3] (fun j wr' => ∃ m : Nat, m ≤ 256 ∧ j = .int .i64 m ∧ Fr No w wr') (fun j _ => 256 - (intOf j).toNat)
      case atStart => exact ⟨0, Nat.zero_le _, rfl, hF⟩
      case round =>
        clear hF hd
        obtain ⟨m, hm, rfl, hF⟩ := hrel
        by_cases hmt : m < 256
        · have hd : decide ((m : Int) < 256) = true := by simp; omega
          have hw8 : IntKind.u8.wrap (m : Int) = (m : Int) := IntWalk.u8_in _ (by omega)
          have M1 : Hid (∀ w1, Calls Tryd.prog 20 #[.string ⟨#[UInt8.ofNat m]⟩] w1 fun e w' => e = .returned (.bool (mayNameS [UInt8.ofNat m])) ∧ Fr No w1 w') := hid (fun w1 => mayName_any [UInt8.ofNat m] w1 (by simp))
          have M2 : Hid (∀ w1, Calls Tryd.prog 22 #[.string ⟨#[UInt8.ofNat m]⟩] w1 fun e w' => e = .returned (.bool (mayNameS [UInt8.ofNat m])) ∧ w1 = w') := hid (fun w1 => rMayName_any [UInt8.ofNat m] w1)
          have M3 : Hid (∀ w1, Calls Tryd.prog 20 #[.string ((⟨#[97]⟩ : ByteArray) ++ (⟨#[UInt8.ofNat m]⟩ : ByteArray))] w1 fun e w' => e = .returned (.bool (mayNameS [UInt8.ofNat m])) ∧ Fr No w1 w') := hid (fun w1 => by
            have h := mayName_any [97, UInt8.ofNat m] w1 (by simp)
            rw [a_name] at h
            have e9 : ((⟨#[97]⟩ : ByteArray) ++ (⟨#[UInt8.ofNat m]⟩ : ByteArray)) = ⟨[97, UInt8.ofNat m].toArray⟩ := cat_two5 [97] [UInt8.ofNat m]
            rw [e9]
            exact h)
          generalize mayNameS [UInt8.ofNat m] = R at M1 M2 M3
          have hRR := nbool_ne R
          generalize hc8 : UInt8.ofNat m = c8 at M1 M2 M3
          have hc9 : UInt8.ofNat (m : Int).toNat = c8 := hc8
          have i8 : (m : Int) + 1 ≤ 1000 := by omega
          go_wp2_with (first
            | (go_at_call 20; (with_reducible refine (M1.out _).mono ?_); rintro e2 w2 ⟨rfl, hf2⟩)
            | (go_at_call 22; (with_reducible refine (M2.out _).mono ?_); rintro e3 w3 ⟨rfl, rfl⟩)
            | (go_at_call 20; (with_reducible refine (M3.out _).mono ?_); rintro e4 w4 ⟨rfl, hf4⟩))
          have hF4 : Fr No w w4 := (hF.alloc _).trans (hf2.trans hf4)
          have RBm := hid (fun u => rbound_any u m)
          have SBm := hid (fun u => bound_any u m)
          have FTm := hid (fun (u : Nat) (x : Int) w1 => fits_any u m x w1)
          have HBF := hid (fun u lo hi is (h : boundS u m = (lo, hi, is)) => bound_fits h)
          have HBD := hid (fun u => bound_facts u m)
          clear M1 M2 M3 hRR hc8 hc9 hf2 hf4 hF
          go_loopw [5] (fun j wr' => ∃ u : Nat, u ≤ 5 ∧ j = .int .u8 u ∧ Fr No w wr') (fun j _ => 5 - (intOf j).toNat)
          case atStart => exact ⟨0, Nat.zero_le _, rfl, hF4⟩
          case round =>
            clear hF4
            obtain ⟨u, hu, rfl, hF⟩ := hrel
            by_cases hut : u < 5
            · have hd5 : decide ((u : Int) < 5) = true := by simp; omega
              have RB := hid (RBm.out u)
              have SB := hid (SBm.out u)
              have hbd := HBD.out u
              have hbf := HBF.out u
              unfold RBoundIs at RB
              unfold BoundIs at SB
              rcases hy : boundS u m with ⟨lo, hi, is⟩
              obtain ⟨f1, f2, f3, f4⟩ := hbf lo hi is hy
              rw [hy] at RB SB hbd
              simp only at RB SB hbd
              obtain ⟨b1, b2, b3, b4, _⟩ := hbd
              have T1 := hid (fun w1 => FTm.out u (lo - 1) w1)
              have T2 := hid (fun w1 => FTm.out u (hi + 1) w1)
              have T3 := hid (fun w1 => FTm.out u lo w1)
              have T4 := hid (fun w1 => FTm.out u hi w1)
              rw [f1] at T1
              rw [f2] at T2
              rw [f3] at T3
              rw [f4] at T4
              have e1 : (lo != lo) = false := by simp
              have e2 : (hi != hi) = false := by simp
              have e3 := nbool_ne is
              have w1' : IntKind.i64.wrap (lo - 1) = lo - 1 := IntWalk.i64_in _ (by omega)
              have w2' : IntKind.i64.wrap (hi + 1) = hi + 1 := IntWalk.i64_in _ (by omega)
              have u8 : (u : Int) + 1 ≤ 255 := by omega
              clear hbf hy f1 f2 f3 f4 RBm SBm FTm HBF HBD
              go_wp2_with (first
                | (go_at_call 32; (with_reducible refine (RB.out _).mono ?_); rintro e5 w5 ⟨rfl, rfl⟩)
                | (go_at_call 16; (with_reducible refine (SB.out _).mono ?_); rintro e5 w5 ⟨rfl, rfl⟩)
                | (go_at_call 17; (with_reducible refine (T1.out _).mono ?_); rintro e5 w5 ⟨rfl, rfl⟩)
                | (go_at_call 17; (with_reducible refine (T2.out _).mono ?_); rintro e5 w5 ⟨rfl, rfl⟩)
                | (go_at_call 17; (with_reducible refine (T3.out _).mono ?_); rintro e5 w5 ⟨rfl, rfl⟩)
                | (go_at_call 17; (with_reducible refine (T4.out _).mono ?_); rintro e5 w5 ⟨rfl, rfl⟩))
              go_roundw
              case rel => exact ⟨u + 1, by omega, by go_num, hF⟩
              case measure => simp [intOf]; omega
            · have hd5 : decide ((u : Int) < 5) = false := by simp; omega
              clear RBm SBm FTm HBF HBD
              go_wp2_with fail
              go_roundw
              case rel => exact ⟨m + 1, by omega, by go_num, hF⟩
              case measure => simp [intOf]; omega
        · have hd : decide ((m : Int) < 256) = false := by simp; omega
          clear hm
          go_wp2_with fail
          -- the names of kinds and commands
          go_loopw [12] (fun j wr' => ∃ x : Nat, x ≤ 256 ∧ j = .int .i64 x ∧ Fr No w wr') (fun j _ => 256 - (intOf j).toNat)
          case atStart => exact ⟨0, Nat.zero_le _, rfl, hF⟩
          case round =>
            clear hF hd
            obtain ⟨x, hx, rfl, hF⟩ := hrel
            by_cases hxt : x < 256
            · have hd : decide ((x : Int) < 256) = true := by simp; omega
              have hw8 : IntKind.u8.wrap (x : Int) = (x : Int) := IntWalk.u8_in _ (by omega)
              have N1 := hid (fun w1 (h : Fr No w w1) => name_any x w1 (by omega) (hkt.fr h))
              have N2 := hid (rname_any x (by omega))
              have N3 := hid (fun w1 (h : Fr No w w1) => word_any x w1 (by omega) (hct.fr h))
              have N4 := hid (rword_any x (by omega))
              unfold RrnameIs at N2
              unfold RrwordIs at N4
              generalize nameS x = z at N1 N2
              generalize wordS x = y at N3 N4
              have ez : (z != z) = false := by simp
              have ey : (y != y) = false := by simp
              have hz1 : (⟨z.toArray⟩ : ByteArray).toList = z := by simp
              have hy1 : (⟨y.toArray⟩ : ByteArray).toList = y := by simp
              have i8 : (x : Int) + 1 ≤ 1000 := by omega
              unfold strV at *
              go_wp2_with (first
                | (go_at_call 33; (with_reducible refine (N1.out _ hF).mono ?_); rintro e5 w5 ⟨rfl, hf5⟩)
                | (go_at_call 34; (with_reducible refine (N2.out _).mono ?_); rintro e6 w6 ⟨rfl, hf6⟩)
                | (go_at_call 30; (with_reducible refine (N3.out _ (hF.trans (hf5.trans hf6))).mono ?_); rintro e7 w7 ⟨rfl, hf7⟩)
                | (go_at_call 31; (with_reducible refine (N4.out _).mono ?_); rintro e8 w8 ⟨rfl, hf8⟩))
              go_roundw
              case rel => exact ⟨x + 1, by omega, by go_num, hF.trans ((hf5.trans hf6).trans (hf7.trans hf8))⟩
              case measure => simp [intOf]; omega
            · have hd : decide ((x : Int) < 256) = false := by simp; omega
              clear hx
              have K1 : Hid (∀ w1, Fr No w w1 → Calls Tryd.prog 35 #[.int .u8 1] w1 fun e w' => ∃ q cap, e = .returned (.slice q 20 cap) ∧ Fr No w1 w') := hid (fun w1 h => (kinds_any 1 w1 (by decide) (hkt.fr h)).mono fun _ _ ⟨q, cap, h1, _, h3⟩ => ⟨q, cap, h1, h3⟩)
              have K2 : Hid (∀ w1, Fr No w w1 → Calls Tryd.prog 35 #[.int .u8 2] w1 fun e w' => ∃ q cap, e = .returned (.slice q 21 cap) ∧ Fr No w1 w') := hid (fun w1 h => (kinds_any 2 w1 (by decide) (hkt.fr h)).mono fun _ _ ⟨q, cap, h1, _, h3⟩ => ⟨q, cap, h1, h3⟩)
              have K3 : Hid (∀ w1, Fr No w w1 → Calls Tryd.prog 35 #[.int .u8 3] w1 fun e w' => ∃ q cap, e = .returned (.slice q 23 cap) ∧ Fr No w1 w') := hid (fun w1 h => (kinds_any 3 w1 (by decide) (hkt.fr h)).mono fun _ _ ⟨q, cap, h1, _, h3⟩ => ⟨q, cap, h1, h3⟩)
              have K0 : Hid (∀ w1, Fr No w w1 → Calls Tryd.prog 35 #[.int .u8 0] w1 fun e w' => ∃ q cap, e = .returned (.slice q 0 cap) ∧ Fr No w1 w') := hid (fun w1 h => (kinds_any 0 w1 (by decide) (hkt.fr h)).mono fun _ _ ⟨q, cap, h1, _, h3⟩ => ⟨q, cap, h1, h3⟩)
              have K4 : Hid (∀ w1, Fr No w w1 → Calls Tryd.prog 35 #[.int .u8 4] w1 fun e w' => ∃ q cap, e = .returned (.slice q 0 cap) ∧ Fr No w1 w') := hid (fun w1 h => (kinds_any 4 w1 (by decide) (hkt.fr h)).mono fun _ _ ⟨q, cap, h1, _, h3⟩ => ⟨q, cap, h1, h3⟩)
              have ME : Hid (∀ w1, Fr No w w1 → Calls Tryd.prog 14 #[.agg #[.int .u8 0, .int .u8 0, .slice none 0 0, .slice none 0 0]] w1 fun e w' => e = .returned (.bool false) ∧ Fr No w1 w') := hid (fun w1 h => may_any ⟨none, 0, none, 0⟩ ⟨0, 0, [], []⟩ w1 ⟨by decide, by decide, SlAt.nil _ _, SlAt.nil _ _, by decide, by decide, by simp, by simp⟩ (hkt.fr h))
              have MC : Hid (∀ w1, Fr No w w1 → Calls Tryd.prog 19 #[.agg #[.int .u8 0, .slice none 0 0, .string ⟨#[]⟩]] w1 fun e w' => e = .returned (.bool false) ∧ Fr No w1 w') := hid (fun w1 h => mayCmd_any none 0 ⟨0, [], []⟩ w1 ⟨by decide, SlAt.nil _ _, by decide, by decide⟩ (hct.fr h))
              go_wp2_with (first
                | (go_at_call 35; (with_reducible refine (K1.out _ hF).mono ?_); rintro e5 w5 ⟨q1, p1, rfl, hf⟩; replace hF := hF.trans hf; clear hf)
                | (go_at_call 35; (with_reducible refine (K2.out _ hF).mono ?_); rintro e5 w5 ⟨q1, p1, rfl, hf⟩; replace hF := hF.trans hf; clear hf)
                | (go_at_call 35; (with_reducible refine (K3.out _ hF).mono ?_); rintro e5 w5 ⟨q1, p1, rfl, hf⟩; replace hF := hF.trans hf; clear hf)
                | (go_at_call 35; (with_reducible refine (K0.out _ hF).mono ?_); rintro e5 w5 ⟨q1, p1, rfl, hf⟩; replace hF := hF.trans hf; clear hf)
                | (go_at_call 35; (with_reducible refine (K4.out _ hF).mono ?_); rintro e5 w5 ⟨q1, p1, rfl, hf⟩; replace hF := hF.trans hf; clear hf)
                | (go_at_call 14; (with_reducible refine (ME.out _ hF).mono ?_); rintro e5 w5 ⟨rfl, hf⟩; replace hF := hF.trans hf; clear hf)
                | (go_at_call 19; (with_reducible refine (MC.out _ hF).mono ?_); rintro e5 w5 ⟨rfl, hf⟩; replace hF := hF.trans hf; clear hf))
              go_ret
              exact ⟨by first | rfl | simp, hF⟩
end Go.Proofs.YtbihbkjdngjgkaaDoor
