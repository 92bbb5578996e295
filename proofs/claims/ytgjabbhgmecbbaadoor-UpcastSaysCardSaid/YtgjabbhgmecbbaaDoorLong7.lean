/-
  Whether an event has more than a statement goes over.
-/
import Derived.Test.YtgjabbhgmecbbaaDoorLong0
namespace Go.Proofs.YtgjabbhgmecbbaaDoor
open Go.RowKit

set_option maxHeartbeats 2000000 in
set_option maxRecDepth 100000 in
theorem long7_any (s : EvP) (e : Ev) (w : World) (he : EvAt w s e) (hn : e.nums.length ≤ 4611686018427387904) (ht : e.texts.length ≤ 4611686018427387000) :
    Calls Tryd.prog 7 #[evV s e] w (LongPost w e) := by
  obtain ⟨qn, cn, qt, ct⟩ := s
  obtain ⟨v, k, ns, ts⟩ := e
  obtain ⟨h1, h2, h3, h4, h5, h6, h7, h8⟩ := he
  simp only at h1 h2 h3 h4 h5 h6 h7 hn ht
  have HF : Fr No w (w.alloc (.cells #[.int .u8 v, .int .u8 k, .slice qn ns.length cn, .slice qt ts.length ct] 25)) := (Fr.refl w).alloc _
  have H4 := hid (h4.fr HF)
  have H7 := hid h7
  unfold evV
  simp only
  clear h1 h2 h3 h4 h5 h6 h7 h8
  go_enter Tryd.func7, Tryd.ntmps7
  go_wp2_with fail
  go_loop [3, 4] (fun n c => ∃ i m : Nat, c = .int .i64 i ∧ n = .int .i64 m ∧ Hid (LongRel ns.length ts i m)) (fun _ c => ts.length - (intOf c).toNat)
  case atStart => exact ⟨0, ns.length + ts.length, rfl, by go_num, hid ⟨Nat.zero_le _, Nat.le_refl _, .inl (Nat.le_refl _), fun j _ h => absurd h (Nat.not_lt_zero _)⟩⟩
  case round =>
    obtain ⟨i, m, rfl, rfl, HR⟩ := hrel
    have hm1 : (m : Int) ≤ 9223372036854775000 := by have := HR.out.up; omega
    have hi1 : i ≤ ts.length := HR.out.le
    by_cases hlt : i < ts.length
    · have hd : decide ((i : Int) < (ts.length : Int)) = true := by simp; omega
      by_cases hm : m ≤ 300
      · have hd2 : (m : Int) ≤ 300 := by omega
        obtain ⟨t, hx⟩ : ∃ t, ts[i]? = some t := ⟨_, List.getElem?_eq_getElem hlt⟩
        obtain ⟨b, o, rfl, hc⟩ := H4.out i (strV t) (by simp [hx])
        unfold strV at hc
        have hi2 : (i : Int) < (ts.length : Int) := by omega
        have HN := hid (HR.out.next hx hm)
        have htl := H7.out t (List.mem_of_getElem? hx)
        clear hx
        by_cases h3 : t.length ≤ 300
        · have hmin : min t.length 300 = t.length := by omega
          rw [hmin] at HN
          have hmm : min (t.length : Int) 300 = (t.length : Int) := by omega
          go_wp2_with fail
          all_goals go_round
          case rel => exact ⟨i + 1, m + t.length, by go_num, by go_num, HN⟩
          case measure => simp [intOf]; omega
        · have hmin : min t.length 300 = 300 := by omega
          rw [hmin] at HN
          have hmm : min (t.length : Int) 300 = 300 := by omega
          go_wp2_with fail
          all_goals go_round
          case rel => exact ⟨i + 1, m + 300, by go_num, by go_num, HN⟩
          case measure => simp [intOf]; omega
      · have hd2 : decide ((m : Int) ≤ 300) = false := by simp; omega
        have hd4 : decide ((300 : Int) < (m : Int)) = true := by simp; omega
        go_wp2_with fail
        go_ret
        exact ⟨true, rfl, (fun h => by cases h), HF⟩
    · have hd : decide ((i : Int) < (ts.length : Int)) = false := by simp; omega
      obtain rfl : i = ts.length := by omega
      have HE : Hid (∀ b : Bool, b = decide ((300 : Int) < (m : Int)) → (b = false → Small ⟨v, k, ns, ts⟩)) := hid (fun b hb h => HR.out.small (by subst hb; simp at h; omega))
      go_wp2_with fail
      go_ret
      exact ⟨_, rfl, HE.out _ rfl, HF⟩
end Go.Proofs.YtgjabbhgmecbbaaDoor
