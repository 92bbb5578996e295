/-
  SchemaWords: the walk.
-/
import Derived.Test.YtbihbkjdngjgkaaDoorWords
namespace Go.Proofs.YtbihbkjdngjgkaaDoor
open Go.RowKit

set_option maxHeartbeats 4000000 in
set_option maxRecDepth 100000 in
theorem schemaWords_any (a b : Nat) (s : List UInt8) (w : World) (ha : a ≤ 255) (hb : b ≤ 255) (hkt : KT w) (hct : CT w) :
    Calls Tryd.prog 9 #[.int .u8 a, .int .u8 b, strV s] w fun e w' => e = .returned (.bool true) ∧ Fr No w w' := by
  have AW := hid (fun w1 (h : Fr No w w1) => awake5_any w1 (hkt.fr h) (hct.fr h))
  have NA := hid (fun w1 (h : Fr No w w1) => name_any a w1 ha (hkt.fr h))
  have NB := hid (fun w1 (h : Fr No w w1) => name_any b w1 hb (hkt.fr h))
  have WA := hid (fun w1 (h : Fr No w w1) => word_any a w1 ha (hct.fr h))
  have WB := hid (fun w1 (h : Fr No w w1) => word_any b w1 hb (hct.fr h))
  have KA := hid (fun w1 (h : Fr No w w1) => kind_any (nameS a) w1 (hkt.fr h))
  have CA := hid (fun w1 (h : Fr No w w1) => worded_any (wordS a) w1 (hct.fr h))
  have KS := hid (fun w1 (h : Fr No w w1) => kind_any s w1 (hkt.fr h))
  have CS := hid (fun w1 (h : Fr No w w1) => worded_any s w1 (hct.fr h))
  have hpk := placeOf_lt kindsT s
  have hpc := placeOf_lt commandsT s
  have hlk : kindsT.length = 23 := rfl
  have hlc : commandsT.length = 20 := rfl
  have NS := hid (fun w1 (h : Fr No w w1) => name_any (placeOf kindsT s) w1 (by omega) (hkt.fr h))
  have WS := hid (fun w1 (h : Fr No w w1) => word_any (placeOf commandsT s) w1 (by omega) (hct.fr h))
  have HF0 : Fr No w w := Fr.refl w
  by_cases hl : 300 < s.length
  · have d1 : decide ((300 : Int) < (s.length : Int)) = true := by simp; omega
    unfold strV
    go_enter Tryd.func9, Tryd.ntmps9
    go_wp2_with (first | (go_at_call 12; refine (AW.out _ HF0).mono ?_; rintro e1 w1 ⟨rfl, hf⟩))
    go_ret
    exact ⟨rfl, hf⟩
  have d1 : decide ((300 : Int) < (s.length : Int)) = false := by simp; omega
  have Z : (nameS a = [] ∧ placeOf kindsT (nameS a) = 0) ∨ (nameS a ≠ [] ∧ (nameS a == []) = false ∧ (nameS a != []) = true ∧ placeOf kindsT (nameS a) = a ∧ 0 < a ∧ (nameS a == nameS b) = ((a : Int) == (b : Int))) := by
    by_cases hz : nameS a = []
    · exact .inl ⟨hz, by rw [hz]; exact place_nil _ (by decide)⟩
    · exact .inr ⟨hz, by simpa using hz, by simpa using hz, (place_name hz).1, (place_name hz).2, nameS_eq2 hz⟩
  have Y : (wordS a = [] ∧ placeOf commandsT (wordS a) = 0) ∨ (wordS a ≠ [] ∧ (wordS a == []) = false ∧ (wordS a != []) = true ∧ placeOf commandsT (wordS a) = a ∧ 0 < a ∧ (wordS a == wordS b) = ((a : Int) == (b : Int))) := by
    by_cases hz : wordS a = []
    · exact .inl ⟨hz, by rw [hz]; exact place_nil _ (by decide)⟩
    · exact .inr ⟨hz, by simpa using hz, by simpa using hz, (place_word hz).1, (place_word hz).2, wordS_eq2 hz⟩
  have T3 : placeOf kindsT s = 0 ∨ (0 < placeOf kindsT s ∧ nameS (placeOf kindsT s) = s) := by
    by_cases h : 0 < placeOf kindsT s
    · exact .inr ⟨h, name_place h⟩
    · exact .inl (by omega)
  have T4 : placeOf commandsT s = 0 ∨ (0 < placeOf commandsT s ∧ wordS (placeOf commandsT s) = s) := by
    by_cases h : 0 < placeOf commandsT s
    · exact .inr ⟨h, word_place h⟩
    · exact .inl (by omega)
  have hpk2 : placeOf kindsT s ≤ 23 := by omega
  have hpc2 : placeOf commandsT s ≤ 20 := by omega
  clear hkt hct hl hpk hpc hlk hlc
  generalize placeOf kindsT (nameS a) = P1 at *
  generalize placeOf commandsT (wordS a) = P2 at *
  generalize placeOf kindsT s = P3 at *
  generalize placeOf commandsT s = P4 at *
  generalize nameS a = z1 at *
  generalize nameS b = z2 at *
  generalize wordS a = y1 at *
  generalize wordS b = y2 at *
  generalize nameS P3 = z3 at *
  generalize wordS P4 = y4 at *
  generalize hBd : ((a : Int) == (b : Int)) = B at *
  have hBB : (B != B) = false := by cases B <;> rfl
  have hsa : (⟨s.toArray⟩ : ByteArray).toList = s := by simp
  have hss : (s == s) = true := by simp
  unfold strV at *
  rcases Z with ⟨rfl, rfl⟩ | ⟨hz9, hz8, hz, rfl, h0, he⟩ <;> rcases Y with ⟨rfl, hy⟩ | ⟨hy9, hy8, hy, hy0, h1, hyf⟩ <;> (try subst hy) <;> (try subst hy0) <;> rcases T3 with rfl | ⟨h3, rfl⟩ <;> rcases T4 with rfl | ⟨h4, h5⟩ <;> (try subst h5)
  all_goals
    go_enter Tryd.func9, Tryd.ntmps9
    go_wp2_with (first
      | (go_at_call 12; (with_reducible refine (AW.out _ HF0).mono ?_); rintro e1 w1 ⟨rfl, hf⟩; replace HF0 := HF0.trans hf; clear hf)
      | (go_at_call 33; (with_reducible refine (NA.out _ HF0).mono ?_); rintro e1 w1 ⟨rfl, hf⟩; replace HF0 := HF0.trans hf; clear hf)
      | (go_at_call 33; (with_reducible refine (NB.out _ HF0).mono ?_); rintro e1 w1 ⟨rfl, hf⟩; replace HF0 := HF0.trans hf; clear hf)
      | (go_at_call 33; (with_reducible refine (NS.out _ HF0).mono ?_); rintro e1 w1 ⟨rfl, hf⟩; replace HF0 := HF0.trans hf; clear hf)
      | (go_at_call 30; (with_reducible refine (WA.out _ HF0).mono ?_); rintro e1 w1 ⟨rfl, hf⟩; replace HF0 := HF0.trans hf; clear hf)
      | (go_at_call 30; (with_reducible refine (WB.out _ HF0).mono ?_); rintro e1 w1 ⟨rfl, hf⟩; replace HF0 := HF0.trans hf; clear hf)
      | (go_at_call 30; (with_reducible refine (WS.out _ HF0).mono ?_); rintro e1 w1 ⟨rfl, hf⟩; replace HF0 := HF0.trans hf; clear hf)
      | (go_at_call 36; (with_reducible refine (KA.out _ HF0).mono ?_); rintro e1 w1 ⟨rfl, hf⟩; replace HF0 := HF0.trans hf; clear hf)
      | (go_at_call 36; (with_reducible refine (KS.out _ HF0).mono ?_); rintro e1 w1 ⟨rfl, hf⟩; replace HF0 := HF0.trans hf; clear hf)
      | (go_at_call 27; (with_reducible refine (CA.out _ HF0).mono ?_); rintro e1 w1 ⟨rfl, hf⟩; replace HF0 := HF0.trans hf; clear hf)
      | (go_at_call 27; (with_reducible refine (CS.out _ HF0).mono ?_); rintro e1 w1 ⟨rfl, hf⟩; replace HF0 := HF0.trans hf; clear hf))
    go_ret
    exact ⟨by first | rfl | simp, HF0⟩
end Go.Proofs.YtbihbkjdngjgkaaDoor
