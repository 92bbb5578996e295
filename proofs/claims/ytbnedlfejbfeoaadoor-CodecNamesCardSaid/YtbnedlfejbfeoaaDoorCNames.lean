/-
  CodecNames: the walk. No statement of the seat is proved here.
-/
import Derived.Test.YtbnedlfejbfeoaaDoorCLit
namespace Go.Proofs.YtbnedlfejbfeoaaDoor
open Go.RowKit

def okL : List (Ev × List UInt8) := [(⟨1, 6, [64, 11258999068426], []⟩, []), (⟨3, 6, [64, 1125899906842624], []⟩, []), (⟨1, 11, [1, 2, 3, 0, 5, 6], []⟩, [1, 11, 1, 2, 3, 0, 5, 6]), (⟨3, 11, [1, 2, 3, 1, 5, 6], []⟩, [3, 11, 1, 2, 3, 1, 5, 6]), (⟨1, 13, [2, 1, 5, 6], []⟩, [1, 13, 2, 1, 5, 6]), (⟨2, 13, [2, 1, 5, 6, 0], []⟩, [2, 13, 2, 1, 5, 6, 0]), (⟨1, 3, [3], [[120]]⟩, [1, 3, 3, 1, 120]), (⟨2, 3, [3, 128], [[120, 45, 57, 95, 122]]⟩, [2, 3, 3, 128, 1, 5, 120, 45, 57, 95, 122]), (⟨2, 21, [1, 2, 3], []⟩, [2, 21, 1, 2, 3]), (⟨3, 22, [7], [[113]]⟩, [3, 22, 7, 1, 113]), (⟨3, 23, [1, 2], []⟩, [3, 23, 1, 2]), (⟨1, 10, [10], []⟩, [1, 10, 10]), (⟨3, 10, [1000], []⟩, [3, 10, 232, 7]), (⟨3, 20, [1099511627776], []⟩, []), (⟨3, 14, [1099511627776, 64, 16, 1048576, 1125899906842624, 1125899906842624, 1099511627776], []⟩, [])]
def noL : List Ev := [⟨0, 0, [], []⟩, ⟨0, 20, [5], []⟩, ⟨4, 20, [5], []⟩, ⟨3, 0, [], []⟩, ⟨3, 24, [1], []⟩, ⟨1, 21, [1, 2, 3], []⟩, ⟨2, 22, [1], []⟩, ⟨3, 20, [], []⟩, ⟨3, 20, [1, 2], []⟩, ⟨3, 20, [0], []⟩, ⟨3, 20, [1099511627777], []⟩, ⟨2, 20, [109951162778], []⟩, ⟨3, 6, [65, 1], []⟩, ⟨1, 6, [1, 11258999068427], []⟩, ⟨3, 11, [1, 2, 3, 0, 5, 6], []⟩, ⟨2, 11, [1, 2, 3, 2, 5, 6], []⟩, ⟨3, 1, [1], [[]]⟩, ⟨3, 1, [1], [[65]]⟩, ⟨3, 1, [1], [[97, 98, 99, 100, 101, 102, 103, 104, 105, 106, 107, 108, 109, 110, 111, 112, 113, 114, 115, 116, 117, 118, 119, 120, 121]]⟩, ⟨3, 20, [5], [[97]]⟩, ⟨3, 1, [1], []⟩, ⟨3, 1, [1], [[97], [98]]⟩]
def refL : List (List UInt8 × Nat) := [([], 8), ([0], 43), ([3], 8), ([3, 0], 4), ([3, 24], 4), ([3, 6, 1], 8), ([3, 6, 65, 5], 40), ([3, 6, 129, 0, 5], 4), ([3, 6, 1, 5, 0], 4), ([3, 10, 233, 7], 40), ([1, 10, 11], 40), ([3, 1, 1, 0], 4), ([3, 1, 1, 25], 40), ([3, 1, 1, 2, 97], 8), ([3, 1, 1, 1, 65], 4), ([3, 11, 1, 2, 3, 0, 5, 6], 4), ([2, 22, 7, 1, 113], 4)]
def lits3 : List Lit := [.ints [64, 11258999068426], .ev ⟨1, 6, [64, 11258999068426], []⟩, .pair ⟨1, 6, [64, 11258999068426], []⟩ [], .ints [64, 1125899906842624], .ev ⟨3, 6, [64, 1125899906842624], []⟩, .pair ⟨3, 6, [64, 1125899906842624], []⟩ [], .ints [1, 2, 3, 0, 5, 6], .ev ⟨1, 11, [1, 2, 3, 0, 5, 6], []⟩, .pair ⟨1, 11, [1, 2, 3, 0, 5, 6], []⟩ [1, 11, 1, 2, 3, 0, 5, 6], .ints [1, 2, 3, 1, 5, 6], .ev ⟨3, 11, [1, 2, 3, 1, 5, 6], []⟩, .pair ⟨3, 11, [1, 2, 3, 1, 5, 6], []⟩ [3, 11, 1, 2, 3, 1, 5, 6], .ints [2, 1, 5, 6], .ev ⟨1, 13, [2, 1, 5, 6], []⟩, .pair ⟨1, 13, [2, 1, 5, 6], []⟩ [1, 13, 2, 1, 5, 6], .ints [2, 1, 5, 6, 0], .ev ⟨2, 13, [2, 1, 5, 6, 0], []⟩, .pair ⟨2, 13, [2, 1, 5, 6, 0], []⟩ [2, 13, 2, 1, 5, 6, 0], .ints [3], .ev ⟨1, 3, [3], [[120]]⟩, .pair ⟨1, 3, [3], [[120]]⟩ [1, 3, 3, 1, 120], .ints [3, 128], .ev ⟨2, 3, [3, 128], [[120, 45, 57, 95, 122]]⟩, .pair ⟨2, 3, [3, 128], [[120, 45, 57, 95, 122]]⟩ [2, 3, 3, 128, 1, 5, 120, 45, 57, 95, 122], .ints [1, 2, 3], .ev ⟨2, 21, [1, 2, 3], []⟩, .pair ⟨2, 21, [1, 2, 3], []⟩ [2, 21, 1, 2, 3], .ints [7], .ev ⟨3, 22, [7], [[113]]⟩, .pair ⟨3, 22, [7], [[113]]⟩ [3, 22, 7, 1, 113], .ints [1, 2], .ev ⟨3, 23, [1, 2], []⟩, .pair ⟨3, 23, [1, 2], []⟩ [3, 23, 1, 2], .ints [10], .ev ⟨1, 10, [10], []⟩, .pair ⟨1, 10, [10], []⟩ [1, 10, 10], .ints [1000], .ev ⟨3, 10, [1000], []⟩, .pair ⟨3, 10, [1000], []⟩ [3, 10, 232, 7], .ints [1099511627776], .ev ⟨3, 20, [1099511627776], []⟩, .pair ⟨3, 20, [1099511627776], []⟩ [], .ints [1099511627776, 64, 16, 1048576, 1125899906842624, 1125899906842624, 1099511627776], .ev ⟨3, 14, [1099511627776, 64, 16, 1048576, 1125899906842624, 1125899906842624, 1099511627776], []⟩, .pair ⟨3, 14, [1099511627776, 64, 16, 1048576, 1125899906842624, 1125899906842624, 1099511627776], []⟩ [], .pairs okL, .num 15, .num 0]
def lits10 : List Lit := [.ev ⟨0, 0, [], []⟩, .ints [5], .ev ⟨0, 20, [5], []⟩, .ints [5], .ev ⟨4, 20, [5], []⟩, .ev ⟨3, 0, [], []⟩, .ints [1], .ev ⟨3, 24, [1], []⟩, .ints [1, 2, 3], .ev ⟨1, 21, [1, 2, 3], []⟩, .ints [1], .ev ⟨2, 22, [1], []⟩, .ev ⟨3, 20, [], []⟩, .ints [1, 2], .ev ⟨3, 20, [1, 2], []⟩, .ints [0], .ev ⟨3, 20, [0], []⟩, .ints [1099511627777], .ev ⟨3, 20, [1099511627777], []⟩, .ints [109951162778], .ev ⟨2, 20, [109951162778], []⟩, .ints [65, 1], .ev ⟨3, 6, [65, 1], []⟩, .ints [1, 11258999068427], .ev ⟨1, 6, [1, 11258999068427], []⟩, .ints [1, 2, 3, 0, 5, 6], .ev ⟨3, 11, [1, 2, 3, 0, 5, 6], []⟩, .ints [1, 2, 3, 2, 5, 6], .ev ⟨2, 11, [1, 2, 3, 2, 5, 6], []⟩, .ints [1], .ev ⟨3, 1, [1], [[]]⟩, .ints [1], .ev ⟨3, 1, [1], [[65]]⟩, .ints [1], .ev ⟨3, 1, [1], [[97, 98, 99, 100, 101, 102, 103, 104, 105, 106, 107, 108, 109, 110, 111, 112, 113, 114, 115, 116, 117, 118, 119, 120, 121]]⟩, .ints [5], .ev ⟨3, 20, [5], [[97]]⟩, .ints [1], .ev ⟨3, 1, [1], []⟩, .ints [1], .strs [[97], [98]], .ev ⟨3, 1, [1], [[97], [98]]⟩, .evs noL, .num 22, .num 0]
def lits17 : List Lit := [.sk [] 8, .sk [0] 43, .sk [3] 8, .sk [3, 0] 4, .sk [3, 24] 4, .sk [3, 6, 1] 8, .sk [3, 6, 65, 5] 40, .sk [3, 6, 129, 0, 5] 4, .sk [3, 6, 1, 5, 0] 4, .sk [3, 10, 233, 7] 40, .sk [1, 10, 11] 40, .sk [3, 1, 1, 0] 4, .sk [3, 1, 1, 25] 40, .sk [3, 1, 1, 2, 97] 8, .sk [3, 1, 1, 1, 65] 4, .sk [3, 11, 1, 2, 3, 0, 5, 6] 4, .sk [2, 22, 7, 1, 113] 4, .sks refL, .num 17, .num 0]

theorem ok_plain : ∀ p ∈ okL, mayS p.1 = true ∧ (p.2 = [] ∨ encB p.1 = p.2) := by decide +kernel
theorem no_plain : ∀ e ∈ noL, mayS e = false := by decide +kernel
theorem ref_plain : ∀ p ∈ refL, p.1.length ≤ 8 ∧ decT p.1 = (zeroE, p.2) := by decide +kernel
theorem wp_buildTo {P : Program} {o : Oper} {a : Act} {w : World} {K : Act → World → Prop} {Q : Exit → Act → World → Prop} (t : TypeId) (parts : Array (Nat × Operand)) (ho : o.op = .build t parts) (cells : Array Value)
    (hf : P.built t (parts.toList.map fun (i, x) => (i, a.eval x)) = some cells) (h : K (a.put o.dst (.agg cells)) w) : o.wp P a w K Q := by
  rw [← Array.toList_map] at hf
  refine wp_build t parts ho (by rw [hf]; rfl) ?_
  rw [hf]
  exact h

set_option maxHeartbeats 16000000 in
set_option maxRecDepth 100000 in
theorem names_any (w : World) (hkt : KT w) : Calls Tryd.prog 3 #[] w fun en w' => en = .returned (.bool true) ∧ Fr No w w' := by
  have WK := hid (fun w1 (h : Fr No w w1) => works_any w1 (hkt.fr h))
  have HKT := hid hkt
  clear hkt
  go_enter Tryd.func3, Tryd.ntmps3
  go_upto_region 3 with (first
    | (go_at_call 10; (with_reducible refine (WK.out _ (Fr.refl _)).mono ?_); rintro e1 w1 ⟨rfl, hf1⟩)
    | fail)
  refine wp_region_seq [19, 20, 21, 22, 23, 24, 25, 26, 27, 28, 29, 30, 31, 32, 33, 34, 35, 36, 37, 38, 39, 40, 41, 42, 43, 44, 45, 46, 47, 48, 49, 50, 51, 52, 53, 54, 55, 56, 57, 58, 59, 60, 61, 62, 63, 64, 65, 66] (litAt 28 42 lits3) ?hds ?hnd ?hlt ?hg ?mono ?steps ?done
  case hds => kernel_rfl
  case hnd => decide
  case hlt => kernel_rfl
  case hg => kernel_rfl
  case mono => exact fun i w w' v h hf => Lit.fr _ w w' v h hf
  case steps =>
    refine ⟨?_, ?_, ?_, ?_, ?_, ?_, ?_, ?_, ?_, ?_, ?_, ?_, ?_, ?_, ?_, ?_, ?_, ?_, ?_, ?_, ?_, ?_, ?_, ?_, ?_, ?_, ?_, ?_, ?_, ?_, ?_, ?_, ?_, ?_, ?_, ?_, ?_, ?_, ?_, ?_, ?_, ?_, ?_, ?_, ?_, ?_, ?_, ?_, trivial⟩
    · intro a w2 K hf hd hK
      go_simp
      exact hK _ _ ((Fr.refl w2).alloc _) ⟨_, rfl, slat_lit (xs := [numV 64, numV 11258999068426]) (Go.heap_alloc_new _ _) rfl⟩
    · intro a w2 K hf hd hK
      obtain ⟨q, h0, hs⟩ : IntsAt [64, 11258999068426] w2 (a.eval (.tmp 19)) := hd 0 19 (by decide) rfl
      rw [← act_tmp] at h0
      replace h0 := hid h0
      go_simp
      refine (event6_any 1 6 _ q 2 2 h0.out w2).mono ?_
      rintro _ w3 ⟨rfl, hf3⟩
      exact hK _ _ hf3 ⟨⟨q, 2, none, 0⟩, rfl, ⟨by decide, by decide, (hs).fr hf3, SlAt.nil _ _, by decide, by decide, by decide, by decide⟩⟩
    · intro a w2 K hf hd hK
      obtain ⟨s, h0, hE⟩ : LEv ⟨1, 6, [64, 11258999068426], []⟩ w2 (a.eval (.tmp 20)) := hd 1 20 (by decide) rfl
      refine wp_buildTo 28 _ rfl #[.int .u8 1, .int .u8 6, .slice s.qn 2 s.cn, .slice s.qt 0 s.ct, .string ⟨#[]⟩] ?_ (hK _ _ (Fr.refl _) ⟨s, rfl, hE⟩)
      show Tryd.prog.built 28 [(0, a.eval (.tmp 20)), (1, .string ⟨#[]⟩)] = _
      rw [h0]
      kernel_rfl
    · intro a w2 K hf hd hK
      go_simp
      exact hK _ _ ((Fr.refl w2).alloc _) ⟨_, rfl, slat_lit (xs := [numV 64, numV 1125899906842624]) (Go.heap_alloc_new _ _) rfl⟩
    · intro a w2 K hf hd hK
      obtain ⟨q, h0, hs⟩ : IntsAt [64, 1125899906842624] w2 (a.eval (.tmp 22)) := hd 3 22 (by decide) rfl
      rw [← act_tmp] at h0
      replace h0 := hid h0
      go_simp
      refine (event6_any 3 6 _ q 2 2 h0.out w2).mono ?_
      rintro _ w3 ⟨rfl, hf3⟩
      exact hK _ _ hf3 ⟨⟨q, 2, none, 0⟩, rfl, ⟨by decide, by decide, (hs).fr hf3, SlAt.nil _ _, by decide, by decide, by decide, by decide⟩⟩
    · intro a w2 K hf hd hK
      obtain ⟨s, h0, hE⟩ : LEv ⟨3, 6, [64, 1125899906842624], []⟩ w2 (a.eval (.tmp 23)) := hd 4 23 (by decide) rfl
      refine wp_buildTo 28 _ rfl #[.int .u8 3, .int .u8 6, .slice s.qn 2 s.cn, .slice s.qt 0 s.ct, .string ⟨#[]⟩] ?_ (hK _ _ (Fr.refl _) ⟨s, rfl, hE⟩)
      show Tryd.prog.built 28 [(0, a.eval (.tmp 23)), (1, .string ⟨#[]⟩)] = _
      rw [h0]
      kernel_rfl
    · intro a w2 K hf hd hK
      go_simp
      exact hK _ _ ((Fr.refl w2).alloc _) ⟨_, rfl, slat_lit (xs := [numV 1, numV 2, numV 3, numV 0, numV 5, numV 6]) (Go.heap_alloc_new _ _) rfl⟩
    · intro a w2 K hf hd hK
      obtain ⟨q, h0, hs⟩ : IntsAt [1, 2, 3, 0, 5, 6] w2 (a.eval (.tmp 25)) := hd 6 25 (by decide) rfl
      rw [← act_tmp] at h0
      replace h0 := hid h0
      go_simp
      refine (event6_any 1 11 _ q 6 6 h0.out w2).mono ?_
      rintro _ w3 ⟨rfl, hf3⟩
      exact hK _ _ hf3 ⟨⟨q, 6, none, 0⟩, rfl, ⟨by decide, by decide, (hs).fr hf3, SlAt.nil _ _, by decide, by decide, by decide, by decide⟩⟩
    · intro a w2 K hf hd hK
      obtain ⟨s, h0, hE⟩ : LEv ⟨1, 11, [1, 2, 3, 0, 5, 6], []⟩ w2 (a.eval (.tmp 26)) := hd 7 26 (by decide) rfl
      refine wp_buildTo 28 _ rfl #[.int .u8 1, .int .u8 11, .slice s.qn 6 s.cn, .slice s.qt 0 s.ct, .string ⟨#[1, 11, 1, 2, 3, 0, 5, 6]⟩] ?_ (hK _ _ (Fr.refl _) ⟨s, rfl, hE⟩)
      show Tryd.prog.built 28 [(0, a.eval (.tmp 26)), (1, .string ⟨#[1, 11, 1, 2, 3, 0, 5, 6]⟩)] = _
      rw [h0]
      kernel_rfl
    · intro a w2 K hf hd hK
      go_simp
      exact hK _ _ ((Fr.refl w2).alloc _) ⟨_, rfl, slat_lit (xs := [numV 1, numV 2, numV 3, numV 1, numV 5, numV 6]) (Go.heap_alloc_new _ _) rfl⟩
    · intro a w2 K hf hd hK
      obtain ⟨q, h0, hs⟩ : IntsAt [1, 2, 3, 1, 5, 6] w2 (a.eval (.tmp 28)) := hd 9 28 (by decide) rfl
      rw [← act_tmp] at h0
      replace h0 := hid h0
      go_simp
      refine (event6_any 3 11 _ q 6 6 h0.out w2).mono ?_
      rintro _ w3 ⟨rfl, hf3⟩
      exact hK _ _ hf3 ⟨⟨q, 6, none, 0⟩, rfl, ⟨by decide, by decide, (hs).fr hf3, SlAt.nil _ _, by decide, by decide, by decide, by decide⟩⟩
    · intro a w2 K hf hd hK
      obtain ⟨s, h0, hE⟩ : LEv ⟨3, 11, [1, 2, 3, 1, 5, 6], []⟩ w2 (a.eval (.tmp 29)) := hd 10 29 (by decide) rfl
      refine wp_buildTo 28 _ rfl #[.int .u8 3, .int .u8 11, .slice s.qn 6 s.cn, .slice s.qt 0 s.ct, .string ⟨#[3, 11, 1, 2, 3, 1, 5, 6]⟩] ?_ (hK _ _ (Fr.refl _) ⟨s, rfl, hE⟩)
      show Tryd.prog.built 28 [(0, a.eval (.tmp 29)), (1, .string ⟨#[3, 11, 1, 2, 3, 1, 5, 6]⟩)] = _
      rw [h0]
      kernel_rfl
    · intro a w2 K hf hd hK
      go_simp
      exact hK _ _ ((Fr.refl w2).alloc _) ⟨_, rfl, slat_lit (xs := [numV 2, numV 1, numV 5, numV 6]) (Go.heap_alloc_new _ _) rfl⟩
    · intro a w2 K hf hd hK
      obtain ⟨q, h0, hs⟩ : IntsAt [2, 1, 5, 6] w2 (a.eval (.tmp 31)) := hd 12 31 (by decide) rfl
      rw [← act_tmp] at h0
      replace h0 := hid h0
      go_simp
      refine (event6_any 1 13 _ q 4 4 h0.out w2).mono ?_
      rintro _ w3 ⟨rfl, hf3⟩
      exact hK _ _ hf3 ⟨⟨q, 4, none, 0⟩, rfl, ⟨by decide, by decide, (hs).fr hf3, SlAt.nil _ _, by decide, by decide, by decide, by decide⟩⟩
    · intro a w2 K hf hd hK
      obtain ⟨s, h0, hE⟩ : LEv ⟨1, 13, [2, 1, 5, 6], []⟩ w2 (a.eval (.tmp 32)) := hd 13 32 (by decide) rfl
      refine wp_buildTo 28 _ rfl #[.int .u8 1, .int .u8 13, .slice s.qn 4 s.cn, .slice s.qt 0 s.ct, .string ⟨#[1, 13, 2, 1, 5, 6]⟩] ?_ (hK _ _ (Fr.refl _) ⟨s, rfl, hE⟩)
      show Tryd.prog.built 28 [(0, a.eval (.tmp 32)), (1, .string ⟨#[1, 13, 2, 1, 5, 6]⟩)] = _
      rw [h0]
      kernel_rfl
    · intro a w2 K hf hd hK
      go_simp
      exact hK _ _ ((Fr.refl w2).alloc _) ⟨_, rfl, slat_lit (xs := [numV 2, numV 1, numV 5, numV 6, numV 0]) (Go.heap_alloc_new _ _) rfl⟩
    · intro a w2 K hf hd hK
      obtain ⟨q, h0, hs⟩ : IntsAt [2, 1, 5, 6, 0] w2 (a.eval (.tmp 34)) := hd 15 34 (by decide) rfl
      rw [← act_tmp] at h0
      replace h0 := hid h0
      go_simp
      refine (event6_any 2 13 _ q 5 5 h0.out w2).mono ?_
      rintro _ w3 ⟨rfl, hf3⟩
      exact hK _ _ hf3 ⟨⟨q, 5, none, 0⟩, rfl, ⟨by decide, by decide, (hs).fr hf3, SlAt.nil _ _, by decide, by decide, by decide, by decide⟩⟩
    · intro a w2 K hf hd hK
      obtain ⟨s, h0, hE⟩ : LEv ⟨2, 13, [2, 1, 5, 6, 0], []⟩ w2 (a.eval (.tmp 35)) := hd 16 35 (by decide) rfl
      refine wp_buildTo 28 _ rfl #[.int .u8 2, .int .u8 13, .slice s.qn 5 s.cn, .slice s.qt 0 s.ct, .string ⟨#[2, 13, 2, 1, 5, 6, 0]⟩] ?_ (hK _ _ (Fr.refl _) ⟨s, rfl, hE⟩)
      show Tryd.prog.built 28 [(0, a.eval (.tmp 35)), (1, .string ⟨#[2, 13, 2, 1, 5, 6, 0]⟩)] = _
      rw [h0]
      kernel_rfl
    · intro a w2 K hf hd hK
      go_simp
      exact hK _ _ ((Fr.refl w2).alloc _) ⟨_, rfl, slat_lit (xs := [numV 3]) (Go.heap_alloc_new _ _) rfl⟩
    · intro a w2 K hf hd hK
      obtain ⟨q, h0, hs⟩ : IntsAt [3] w2 (a.eval (.tmp 37)) := hd 18 37 (by decide) rfl
      rw [← act_tmp] at h0
      replace h0 := hid h0
      go_simp
      rw [h0.out]
      refine (named6_any 1 3 [120] q 1 1 w2).mono ?_
      rintro _ w3 ⟨g, rfl, hg, hf3⟩
      exact hK _ _ hf3 ⟨⟨q, 1, some ⟨g, 0, none⟩, 1⟩, rfl, ⟨by decide, by decide, (hs).fr hf3, hg, by decide, by decide, by decide, by decide⟩⟩
    · intro a w2 K hf hd hK
      obtain ⟨s, h0, hE⟩ : LEv ⟨1, 3, [3], [[120]]⟩ w2 (a.eval (.tmp 38)) := hd 19 38 (by decide) rfl
      refine wp_buildTo 28 _ rfl #[.int .u8 1, .int .u8 3, .slice s.qn 1 s.cn, .slice s.qt 1 s.ct, .string ⟨#[1, 3, 3, 1, 120]⟩] ?_ (hK _ _ (Fr.refl _) ⟨s, rfl, hE⟩)
      show Tryd.prog.built 28 [(0, a.eval (.tmp 38)), (1, .string ⟨#[1, 3, 3, 1, 120]⟩)] = _
      rw [h0]
      kernel_rfl
    · intro a w2 K hf hd hK
      go_simp
      exact hK _ _ ((Fr.refl w2).alloc _) ⟨_, rfl, slat_lit (xs := [numV 3, numV 128]) (Go.heap_alloc_new _ _) rfl⟩
    · intro a w2 K hf hd hK
      obtain ⟨q, h0, hs⟩ : IntsAt [3, 128] w2 (a.eval (.tmp 40)) := hd 21 40 (by decide) rfl
      rw [← act_tmp] at h0
      replace h0 := hid h0
      go_simp
      rw [h0.out]
      refine (named6_any 2 3 [120, 45, 57, 95, 122] q 2 2 w2).mono ?_
      rintro _ w3 ⟨g, rfl, hg, hf3⟩
      exact hK _ _ hf3 ⟨⟨q, 2, some ⟨g, 0, none⟩, 1⟩, rfl, ⟨by decide, by decide, (hs).fr hf3, hg, by decide, by decide, by decide, by decide⟩⟩
    · intro a w2 K hf hd hK
      obtain ⟨s, h0, hE⟩ : LEv ⟨2, 3, [3, 128], [[120, 45, 57, 95, 122]]⟩ w2 (a.eval (.tmp 41)) := hd 22 41 (by decide) rfl
      refine wp_buildTo 28 _ rfl #[.int .u8 2, .int .u8 3, .slice s.qn 2 s.cn, .slice s.qt 1 s.ct, .string ⟨#[2, 3, 3, 128, 1, 5, 120, 45, 57, 95, 122]⟩] ?_ (hK _ _ (Fr.refl _) ⟨s, rfl, hE⟩)
      show Tryd.prog.built 28 [(0, a.eval (.tmp 41)), (1, .string ⟨#[2, 3, 3, 128, 1, 5, 120, 45, 57, 95, 122]⟩)] = _
      rw [h0]
      kernel_rfl
    · intro a w2 K hf hd hK
      go_simp
      exact hK _ _ ((Fr.refl w2).alloc _) ⟨_, rfl, slat_lit (xs := [numV 1, numV 2, numV 3]) (Go.heap_alloc_new _ _) rfl⟩
    · intro a w2 K hf hd hK
      obtain ⟨q, h0, hs⟩ : IntsAt [1, 2, 3] w2 (a.eval (.tmp 43)) := hd 24 43 (by decide) rfl
      rw [← act_tmp] at h0
      replace h0 := hid h0
      go_simp
      refine (event6_any 2 21 _ q 3 3 h0.out w2).mono ?_
      rintro _ w3 ⟨rfl, hf3⟩
      exact hK _ _ hf3 ⟨⟨q, 3, none, 0⟩, rfl, ⟨by decide, by decide, (hs).fr hf3, SlAt.nil _ _, by decide, by decide, by decide, by decide⟩⟩
    · intro a w2 K hf hd hK
      obtain ⟨s, h0, hE⟩ : LEv ⟨2, 21, [1, 2, 3], []⟩ w2 (a.eval (.tmp 44)) := hd 25 44 (by decide) rfl
      refine wp_buildTo 28 _ rfl #[.int .u8 2, .int .u8 21, .slice s.qn 3 s.cn, .slice s.qt 0 s.ct, .string ⟨#[2, 21, 1, 2, 3]⟩] ?_ (hK _ _ (Fr.refl _) ⟨s, rfl, hE⟩)
      show Tryd.prog.built 28 [(0, a.eval (.tmp 44)), (1, .string ⟨#[2, 21, 1, 2, 3]⟩)] = _
      rw [h0]
      kernel_rfl
    · intro a w2 K hf hd hK
      go_simp
      exact hK _ _ ((Fr.refl w2).alloc _) ⟨_, rfl, slat_lit (xs := [numV 7]) (Go.heap_alloc_new _ _) rfl⟩
    · intro a w2 K hf hd hK
      obtain ⟨q, h0, hs⟩ : IntsAt [7] w2 (a.eval (.tmp 46)) := hd 27 46 (by decide) rfl
      rw [← act_tmp] at h0
      replace h0 := hid h0
      go_simp
      rw [h0.out]
      refine (named6_any 3 22 [113] q 1 1 w2).mono ?_
      rintro _ w3 ⟨g, rfl, hg, hf3⟩
      exact hK _ _ hf3 ⟨⟨q, 1, some ⟨g, 0, none⟩, 1⟩, rfl, ⟨by decide, by decide, (hs).fr hf3, hg, by decide, by decide, by decide, by decide⟩⟩
    · intro a w2 K hf hd hK
      obtain ⟨s, h0, hE⟩ : LEv ⟨3, 22, [7], [[113]]⟩ w2 (a.eval (.tmp 47)) := hd 28 47 (by decide) rfl
      refine wp_buildTo 28 _ rfl #[.int .u8 3, .int .u8 22, .slice s.qn 1 s.cn, .slice s.qt 1 s.ct, .string ⟨#[3, 22, 7, 1, 113]⟩] ?_ (hK _ _ (Fr.refl _) ⟨s, rfl, hE⟩)
      show Tryd.prog.built 28 [(0, a.eval (.tmp 47)), (1, .string ⟨#[3, 22, 7, 1, 113]⟩)] = _
      rw [h0]
      kernel_rfl
    · intro a w2 K hf hd hK
      go_simp
      exact hK _ _ ((Fr.refl w2).alloc _) ⟨_, rfl, slat_lit (xs := [numV 1, numV 2]) (Go.heap_alloc_new _ _) rfl⟩
    · intro a w2 K hf hd hK
      obtain ⟨q, h0, hs⟩ : IntsAt [1, 2] w2 (a.eval (.tmp 49)) := hd 30 49 (by decide) rfl
      rw [← act_tmp] at h0
      replace h0 := hid h0
      go_simp
      refine (event6_any 3 23 _ q 2 2 h0.out w2).mono ?_
      rintro _ w3 ⟨rfl, hf3⟩
      exact hK _ _ hf3 ⟨⟨q, 2, none, 0⟩, rfl, ⟨by decide, by decide, (hs).fr hf3, SlAt.nil _ _, by decide, by decide, by decide, by decide⟩⟩
    · intro a w2 K hf hd hK
      obtain ⟨s, h0, hE⟩ : LEv ⟨3, 23, [1, 2], []⟩ w2 (a.eval (.tmp 50)) := hd 31 50 (by decide) rfl
      refine wp_buildTo 28 _ rfl #[.int .u8 3, .int .u8 23, .slice s.qn 2 s.cn, .slice s.qt 0 s.ct, .string ⟨#[3, 23, 1, 2]⟩] ?_ (hK _ _ (Fr.refl _) ⟨s, rfl, hE⟩)
      show Tryd.prog.built 28 [(0, a.eval (.tmp 50)), (1, .string ⟨#[3, 23, 1, 2]⟩)] = _
      rw [h0]
      kernel_rfl
    · intro a w2 K hf hd hK
      go_simp
      exact hK _ _ ((Fr.refl w2).alloc _) ⟨_, rfl, slat_lit (xs := [numV 10]) (Go.heap_alloc_new _ _) rfl⟩
    · intro a w2 K hf hd hK
      obtain ⟨q, h0, hs⟩ : IntsAt [10] w2 (a.eval (.tmp 52)) := hd 33 52 (by decide) rfl
      rw [← act_tmp] at h0
      replace h0 := hid h0
      go_simp
      refine (event6_any 1 10 _ q 1 1 h0.out w2).mono ?_
      rintro _ w3 ⟨rfl, hf3⟩
      exact hK _ _ hf3 ⟨⟨q, 1, none, 0⟩, rfl, ⟨by decide, by decide, (hs).fr hf3, SlAt.nil _ _, by decide, by decide, by decide, by decide⟩⟩
    · intro a w2 K hf hd hK
      obtain ⟨s, h0, hE⟩ : LEv ⟨1, 10, [10], []⟩ w2 (a.eval (.tmp 53)) := hd 34 53 (by decide) rfl
      refine wp_buildTo 28 _ rfl #[.int .u8 1, .int .u8 10, .slice s.qn 1 s.cn, .slice s.qt 0 s.ct, .string ⟨#[1, 10, 10]⟩] ?_ (hK _ _ (Fr.refl _) ⟨s, rfl, hE⟩)
      show Tryd.prog.built 28 [(0, a.eval (.tmp 53)), (1, .string ⟨#[1, 10, 10]⟩)] = _
      rw [h0]
      kernel_rfl
    · intro a w2 K hf hd hK
      go_simp
      exact hK _ _ ((Fr.refl w2).alloc _) ⟨_, rfl, slat_lit (xs := [numV 1000]) (Go.heap_alloc_new _ _) rfl⟩
    · intro a w2 K hf hd hK
      obtain ⟨q, h0, hs⟩ : IntsAt [1000] w2 (a.eval (.tmp 55)) := hd 36 55 (by decide) rfl
      rw [← act_tmp] at h0
      replace h0 := hid h0
      go_simp
      refine (event6_any 3 10 _ q 1 1 h0.out w2).mono ?_
      rintro _ w3 ⟨rfl, hf3⟩
      exact hK _ _ hf3 ⟨⟨q, 1, none, 0⟩, rfl, ⟨by decide, by decide, (hs).fr hf3, SlAt.nil _ _, by decide, by decide, by decide, by decide⟩⟩
    · intro a w2 K hf hd hK
      obtain ⟨s, h0, hE⟩ : LEv ⟨3, 10, [1000], []⟩ w2 (a.eval (.tmp 56)) := hd 37 56 (by decide) rfl
      refine wp_buildTo 28 _ rfl #[.int .u8 3, .int .u8 10, .slice s.qn 1 s.cn, .slice s.qt 0 s.ct, .string ⟨#[3, 10, 232, 7]⟩] ?_ (hK _ _ (Fr.refl _) ⟨s, rfl, hE⟩)
      show Tryd.prog.built 28 [(0, a.eval (.tmp 56)), (1, .string ⟨#[3, 10, 232, 7]⟩)] = _
      rw [h0]
      kernel_rfl
    · intro a w2 K hf hd hK
      go_simp
      exact hK _ _ ((Fr.refl w2).alloc _) ⟨_, rfl, slat_lit (xs := [numV 1099511627776]) (Go.heap_alloc_new _ _) rfl⟩
    · intro a w2 K hf hd hK
      obtain ⟨q, h0, hs⟩ : IntsAt [1099511627776] w2 (a.eval (.tmp 58)) := hd 39 58 (by decide) rfl
      rw [← act_tmp] at h0
      replace h0 := hid h0
      go_simp
      refine (event6_any 3 20 _ q 1 1 h0.out w2).mono ?_
      rintro _ w3 ⟨rfl, hf3⟩
      exact hK _ _ hf3 ⟨⟨q, 1, none, 0⟩, rfl, ⟨by decide, by decide, (hs).fr hf3, SlAt.nil _ _, by decide, by decide, by decide, by decide⟩⟩
    · intro a w2 K hf hd hK
      obtain ⟨s, h0, hE⟩ : LEv ⟨3, 20, [1099511627776], []⟩ w2 (a.eval (.tmp 59)) := hd 40 59 (by decide) rfl
      refine wp_buildTo 28 _ rfl #[.int .u8 3, .int .u8 20, .slice s.qn 1 s.cn, .slice s.qt 0 s.ct, .string ⟨#[]⟩] ?_ (hK _ _ (Fr.refl _) ⟨s, rfl, hE⟩)
      show Tryd.prog.built 28 [(0, a.eval (.tmp 59)), (1, .string ⟨#[]⟩)] = _
      rw [h0]
      kernel_rfl
    · intro a w2 K hf hd hK
      go_simp
      exact hK _ _ ((Fr.refl w2).alloc _) ⟨_, rfl, slat_lit (xs := [numV 1099511627776, numV 64, numV 16, numV 1048576, numV 1125899906842624, numV 1125899906842624, numV 1099511627776]) (Go.heap_alloc_new _ _) rfl⟩
    · intro a w2 K hf hd hK
      obtain ⟨q, h0, hs⟩ : IntsAt [1099511627776, 64, 16, 1048576, 1125899906842624, 1125899906842624, 1099511627776] w2 (a.eval (.tmp 61)) := hd 42 61 (by decide) rfl
      rw [← act_tmp] at h0
      replace h0 := hid h0
      go_simp
      refine (event6_any 3 14 _ q 7 7 h0.out w2).mono ?_
      rintro _ w3 ⟨rfl, hf3⟩
      exact hK _ _ hf3 ⟨⟨q, 7, none, 0⟩, rfl, ⟨by decide, by decide, (hs).fr hf3, SlAt.nil _ _, by decide, by decide, by decide, by decide⟩⟩
    · intro a w2 K hf hd hK
      obtain ⟨s, h0, hE⟩ : LEv ⟨3, 14, [1099511627776, 64, 16, 1048576, 1125899906842624, 1125899906842624, 1099511627776], []⟩ w2 (a.eval (.tmp 62)) := hd 43 62 (by decide) rfl
      refine wp_buildTo 28 _ rfl #[.int .u8 3, .int .u8 14, .slice s.qn 7 s.cn, .slice s.qt 0 s.ct, .string ⟨#[]⟩] ?_ (hK _ _ (Fr.refl _) ⟨s, rfl, hE⟩)
      show Tryd.prog.built 28 [(0, a.eval (.tmp 62)), (1, .string ⟨#[]⟩)] = _
      rw [h0]
      kernel_rfl
    · intro a w2 K hf hd hK
      refine step_rows 30 28 15 _ rfl (okL.map LPair) Tryd.underlying30 5 (by decide) (by kernel_rfl) (by kernel_rfl) [21, 24, 27, 30, 33, 36, 39, 42, 45, 48, 51, 54, 57, 60, 63] (by kernel_rfl) rfl (by kernel_rfl) (by decide) (by decide) ?_ ?_ ?_ (fun v w' hf hR => hK v w' hf hR)
      · intro i h d hi hdd
        have hlt : i < 15 := (List.getElem?_eq_some_iff.1 hdd).1
        have hcase : i = 0 ∨ i = 1 ∨ i = 2 ∨ i = 3 ∨ i = 4 ∨ i = 5 ∨ i = 6 ∨ i = 7 ∨ i = 8 ∨ i = 9 ∨ i = 10 ∨ i = 11 ∨ i = 12 ∨ i = 13 ∨ i = 14 := by omega
        rcases hcase with rfl | rfl | rfl | rfl | rfl | rfl | rfl | rfl | rfl | rfl | rfl | rfl | rfl | rfl | rfl <;> (cases hi; cases hdd; first | exact hd 2 21 (by decide) rfl | exact hd 5 24 (by decide) rfl | exact hd 8 27 (by decide) rfl | exact hd 11 30 (by decide) rfl | exact hd 14 33 (by decide) rfl | exact hd 17 36 (by decide) rfl | exact hd 20 39 (by decide) rfl | exact hd 23 42 (by decide) rfl | exact hd 26 45 (by decide) rfl | exact hd 29 48 (by decide) rfl | exact hd 32 51 (by decide) rfl | exact hd 35 54 (by decide) rfl | exact hd 38 57 (by decide) rfl | exact hd 41 60 (by decide) rfl | exact hd 44 63 (by decide) rfl)
      · intro h hh w v hv; obtain ⟨_, _, rfl⟩ := List.mem_map.1 hh; obtain ⟨_, rfl, _⟩ := hv; rfl
      · intro h hh w w' v hv hf; obtain ⟨_, _, rfl⟩ := List.mem_map.1 hh; exact LPair.fr hv hf
    · intro a w2 K hf hd hK
      obtain ⟨g, vs, h0, _⟩ : LRows 28 (okL.map LPair) w2 (a.eval (.tmp 64)) := hd 45 64 (by decide) rfl
      rw [← act_tmp] at h0
      go_simp
      exact hK _ _ (Fr.refl _) rfl
    · intro a w2 K hf hd hK
      go_simp
      exact hK _ _ (Fr.refl _) rfl
  case done =>
    intro xs w2 hf2 hR
    obtain ⟨g, vs, h64, hg, hvl, hvs⟩ : LRows 28 (okL.map LPair) w2 (xs 45) := hR 45 (by decide)
    have h65 : xs 46 = .int .i64 15 := hR 46 (by decide)
    have h66 : xs 47 = .int .i64 0 := hR 47 (by decide)
    clear hR
    simp only [putsFrom, Act.put, List.setIfInBounds_toArray, List.set_cons_zero, List.set_cons_succ, Nat.zero_add, Nat.reduceAdd, h64, h65, h66]
    go_wp2_with fail
    have HVS : ∀ v ∈ vs, v.cells.size = 5 := fun v hv => by
      obtain ⟨i, hi⟩ := List.mem_iff_getElem?.1 hv
      have hi' : i < (okL.map LPair).length := by rw [← hvl]; exact (List.getElem?_eq_some_iff.1 hi).1
      obtain ⟨v', hv', hP⟩ := hvs i _ (List.getElem?_eq_getElem hi')
      obtain rfl : v = v' := by rw [hi] at hv'; simpa using hv'
      rw [List.getElem_map] at hP
      obtain ⟨_, rfl, _⟩ := hP
      rfl
    have LC : Hid (∀ wr, Fr No w2 wr → ∀ m e t, okL[m]? = some (e, t) → ∃ s, EvAt wr s e ∧ wr.cell? ⟨g, m * 5, none⟩ = some (.int .u8 e.v) ∧ wr.cell? ⟨g, m * 5 + 1, none⟩ = some (.int .u8 e.kind) ∧ wr.cell? ⟨g, m * 5 + 2, none⟩ = some (.slice s.qn e.nums.length s.cn) ∧ wr.cell? ⟨g, m * 5 + 3, none⟩ = some (.slice s.qt e.texts.length s.ct) ∧ wr.cell? ⟨g, m * 5 + 4, none⟩ = some (strV t)) := hid (fun wr hf m e t hp => by
      obtain ⟨v, hv, s, rfl, hE⟩ := hvs m (LPair (e, t)) (by rw [List.getElem?_map, hp]; rfl)
      exact ⟨s, hE.fr hf, hf.cell0 (LRows.cell (j := 0) (by decide) hg HVS hv rfl (by decide)), hf.cell0 (LRows.cell (j := 1) (by decide) hg HVS hv rfl (by decide)), hf.cell0 (LRows.cell (j := 2) (by decide) hg HVS hv rfl (by decide)), hf.cell0 (LRows.cell (j := 3) (by decide) hg HVS hv rfl (by decide)), hf.cell0 (LRows.cell (j := 4) (by decide) hg HVS hv rfl (by decide))⟩)
    have HW2 := hid (hf1.trans hf2)
    clear hvs HVS hvl hg hf1 hf2 h64 h65 h66
    go_loopg [66] 15 (fun k i wr => ∃ (m : Nat), m ≤ 15 ∧ 15 ≤ m + k ∧ i = .int .i64 m ∧ Fr No w2 wr)
    case atStart => exact ⟨0, by omega, by omega, rfl, Fr.refl _⟩
    case round =>
      obtain ⟨m, hm, hk, rfl, hf⟩ := hrel
      by_cases hlt : m < 15
      · obtain ⟨⟨e, t⟩, hp⟩ : ∃ p, okL[m]? = some p := ⟨_, List.getElem?_eq_getElem (show m < okL.length from hlt)⟩
        obtain ⟨s, hE, c0, c1, c2, c3, c4⟩ := LC.out _ hf m e t hp
        obtain ⟨hme, ht⟩ := ok_plain _ (List.mem_of_getElem? hp)
        simp only at hme ht
        have i1 : (m : Int) < 15 := by omega
        have i2 : (0 : Int) ≤ (m : Int) := by omega
        have EN := hid (fun w1 (h : Fr No wr w1) => encode_any s e w1 (hE.fr h) (HKT.out.fr ((HW2.out.trans hf).trans h)))
        rw [hme] at EN
        simp only [if_true] at EN
        have BT := hid (fun w1 (h : Fr No wr w1) => both_any s e (encB e) w1 (hE.fr h) (HKT.out.fr ((HW2.out.trans hf).trans h)) hme rfl)
        have hEc : encB e = byteN e.v :: evB e := rfl
        generalize encB e = E at EN BT ht hEc
        clear hp hE
        unfold evV strV at EN BT
        unfold strV at c4
        have HF0 := hid ((Fr.refl (X := No) wr).alloc (.cells #[.int .u8 e.v, .int .u8 e.kind, .slice s.qn e.nums.length s.cn, .slice s.qt e.texts.length s.ct, .string ⟨t.toArray⟩] 28))
        go_upto_region 7 with (first
          | (go_at_call 13; (with_reducible refine (EN.out _ HF0.out).mono ?_); rintro e3 w3 ⟨rfl, hf3⟩)
          | fail)
        obtain ⟨d0, d1, d2, d3, d4⟩ : (w3.cell? ⟨wr.heap.size, 0, none⟩ = some (.int .u8 e.v)) ∧ (w3.cell? ⟨wr.heap.size, 1, none⟩ = some (.int .u8 e.kind)) ∧ (w3.cell? ⟨wr.heap.size, 2, none⟩ = some (.slice s.qn e.nums.length s.cn)) ∧ (w3.cell? ⟨wr.heap.size, 3, none⟩ = some (.slice s.qt e.texts.length s.ct)) ∧ (w3.cell? ⟨wr.heap.size, 4, none⟩ = some (.string ⟨t.toArray⟩)) := by
          have hb := hf3.heap0 (Go.heap_alloc_new wr (.cells #[.int .u8 e.v, .int .u8 e.kind, .slice s.qn e.nums.length s.cn, .slice s.qt e.texts.length s.ct, .string ⟨t.toArray⟩] 28))
          refine ⟨?_, ?_, ?_, ?_, ?_⟩ <;> (rw [cell_of_row w3 _ _ _ _ _ hb]; rfl)
        have HF3 := hid (HF0.out.trans hf3)
        clear c0 c1 c2 c3 c4 hf3
        have B1 := hid (BT.out _ HF3.out)
        clear BT EN
        subst hEc
        rcases ht with rfl | rfl
        · have t1 : ((⟨#[]⟩ : ByteArray) != ⟨#[]⟩) = false := by decide
          go_wp2_with (first
            | (go_at_call 14; (with_reducible refine B1.out.mono ?_); rintro e4 w4 ⟨rfl, hf4⟩)
            | fail)
          go_roundg (gk - 1)
          case measure => omega
          case rel => exact ⟨m + 1, by omega, by omega, by go_num, hf.trans (HF3.out.trans hf4)⟩
        · skip
          go_wp2_with (first
            | (go_at_call 14; (with_reducible refine B1.out.mono ?_); rintro e4 w4 ⟨rfl, hf4⟩)
            | fail)
          go_roundg (gk - 1)
          case measure => omega
          case rel => exact ⟨m + 1, by omega, by omega, by go_num, hf.trans (HF3.out.trans hf4)⟩
      · obtain rfl : m = 15 := by omega
        have HW3 := hid (HW2.out.trans hf)
        clear LC hf HW2 hk hlt hm
        go_upto_region 10 with fail
        refine wp_region_seq [97, 98, 99, 100, 101, 102, 103, 104, 105, 106, 107, 108, 109, 110, 111, 112, 113, 114, 115, 116, 117, 118, 119, 120, 121, 122, 123, 124, 125, 126, 127, 128, 129, 130, 131, 132, 133, 134, 135, 136, 137, 138, 139, 140, 141] (litAt 28 42 lits10) ?hds ?hnd ?hlt ?hg ?mono ?steps ?done
        case hds => kernel_rfl
        case hnd => decide
        case hlt => kernel_rfl
        case hg => kernel_rfl
        case mono => exact fun i w w' v h hf => Lit.fr _ w w' v h hf
        case steps =>
          refine ⟨?_, ?_, ?_, ?_, ?_, ?_, ?_, ?_, ?_, ?_, ?_, ?_, ?_, ?_, ?_, ?_, ?_, ?_, ?_, ?_, ?_, ?_, ?_, ?_, ?_, ?_, ?_, ?_, ?_, ?_, ?_, ?_, ?_, ?_, ?_, ?_, ?_, ?_, ?_, ?_, ?_, ?_, ?_, ?_, ?_, trivial⟩
          · intro a w2 K hf hd hK
            refine wp_buildTo 26 _ rfl #[.int .u8 0, .int .u8 0, .slice none 0 0, .slice none 0 0] ?_ (hK _ _ (Fr.refl _) ⟨⟨none, 0, none, 0⟩, rfl, zeroAt _ _⟩)
            show Tryd.prog.built 26 [] = _
            kernel_rfl
          · intro a w2 K hf hd hK
            go_simp
            exact hK _ _ ((Fr.refl w2).alloc _) ⟨_, rfl, slat_lit (xs := [numV 5]) (Go.heap_alloc_new _ _) rfl⟩
          · intro a w2 K hf hd hK
            obtain ⟨q, h0, hs⟩ : IntsAt [5] w2 (a.eval (.tmp 98)) := hd 1 98 (by decide) rfl
            rw [← act_tmp] at h0
            replace h0 := hid h0
            go_simp
            refine (event6_any 0 20 _ q 1 1 h0.out w2).mono ?_
            rintro _ w3 ⟨rfl, hf3⟩
            exact hK _ _ hf3 ⟨⟨q, 1, none, 0⟩, rfl, ⟨by decide, by decide, (hs).fr hf3, SlAt.nil _ _, by decide, by decide, by decide, by decide⟩⟩
          · intro a w2 K hf hd hK
            go_simp
            exact hK _ _ ((Fr.refl w2).alloc _) ⟨_, rfl, slat_lit (xs := [numV 5]) (Go.heap_alloc_new _ _) rfl⟩
          · intro a w2 K hf hd hK
            obtain ⟨q, h0, hs⟩ : IntsAt [5] w2 (a.eval (.tmp 100)) := hd 3 100 (by decide) rfl
            rw [← act_tmp] at h0
            replace h0 := hid h0
            go_simp
            refine (event6_any 4 20 _ q 1 1 h0.out w2).mono ?_
            rintro _ w3 ⟨rfl, hf3⟩
            exact hK _ _ hf3 ⟨⟨q, 1, none, 0⟩, rfl, ⟨by decide, by decide, (hs).fr hf3, SlAt.nil _ _, by decide, by decide, by decide, by decide⟩⟩
          · intro a w2 K hf hd hK
            go_simp
            refine (event6_any 3 0 _ none 0 0 rfl w2).mono ?_
            rintro _ w3 ⟨rfl, hf3⟩
            exact hK _ _ hf3 ⟨⟨none, 0, none, 0⟩, rfl, ⟨by decide, by decide, (SlAt.nil w2 none).fr hf3, SlAt.nil _ _, by decide, by decide, by decide, by decide⟩⟩
          · intro a w2 K hf hd hK
            go_simp
            exact hK _ _ ((Fr.refl w2).alloc _) ⟨_, rfl, slat_lit (xs := [numV 1]) (Go.heap_alloc_new _ _) rfl⟩
          · intro a w2 K hf hd hK
            obtain ⟨q, h0, hs⟩ : IntsAt [1] w2 (a.eval (.tmp 103)) := hd 6 103 (by decide) rfl
            rw [← act_tmp] at h0
            replace h0 := hid h0
            go_simp
            refine (event6_any 3 24 _ q 1 1 h0.out w2).mono ?_
            rintro _ w3 ⟨rfl, hf3⟩
            exact hK _ _ hf3 ⟨⟨q, 1, none, 0⟩, rfl, ⟨by decide, by decide, (hs).fr hf3, SlAt.nil _ _, by decide, by decide, by decide, by decide⟩⟩
          · intro a w2 K hf hd hK
            go_simp
            exact hK _ _ ((Fr.refl w2).alloc _) ⟨_, rfl, slat_lit (xs := [numV 1, numV 2, numV 3]) (Go.heap_alloc_new _ _) rfl⟩
          · intro a w2 K hf hd hK
            obtain ⟨q, h0, hs⟩ : IntsAt [1, 2, 3] w2 (a.eval (.tmp 105)) := hd 8 105 (by decide) rfl
            rw [← act_tmp] at h0
            replace h0 := hid h0
            go_simp
            refine (event6_any 1 21 _ q 3 3 h0.out w2).mono ?_
            rintro _ w3 ⟨rfl, hf3⟩
            exact hK _ _ hf3 ⟨⟨q, 3, none, 0⟩, rfl, ⟨by decide, by decide, (hs).fr hf3, SlAt.nil _ _, by decide, by decide, by decide, by decide⟩⟩
          · intro a w2 K hf hd hK
            go_simp
            exact hK _ _ ((Fr.refl w2).alloc _) ⟨_, rfl, slat_lit (xs := [numV 1]) (Go.heap_alloc_new _ _) rfl⟩
          · intro a w2 K hf hd hK
            obtain ⟨q, h0, hs⟩ : IntsAt [1] w2 (a.eval (.tmp 107)) := hd 10 107 (by decide) rfl
            rw [← act_tmp] at h0
            replace h0 := hid h0
            go_simp
            refine (event6_any 2 22 _ q 1 1 h0.out w2).mono ?_
            rintro _ w3 ⟨rfl, hf3⟩
            exact hK _ _ hf3 ⟨⟨q, 1, none, 0⟩, rfl, ⟨by decide, by decide, (hs).fr hf3, SlAt.nil _ _, by decide, by decide, by decide, by decide⟩⟩
          · intro a w2 K hf hd hK
            go_simp
            refine (event6_any 3 20 _ none 0 0 rfl w2).mono ?_
            rintro _ w3 ⟨rfl, hf3⟩
            exact hK _ _ hf3 ⟨⟨none, 0, none, 0⟩, rfl, ⟨by decide, by decide, (SlAt.nil w2 none).fr hf3, SlAt.nil _ _, by decide, by decide, by decide, by decide⟩⟩
          · intro a w2 K hf hd hK
            go_simp
            exact hK _ _ ((Fr.refl w2).alloc _) ⟨_, rfl, slat_lit (xs := [numV 1, numV 2]) (Go.heap_alloc_new _ _) rfl⟩
          · intro a w2 K hf hd hK
            obtain ⟨q, h0, hs⟩ : IntsAt [1, 2] w2 (a.eval (.tmp 110)) := hd 13 110 (by decide) rfl
            rw [← act_tmp] at h0
            replace h0 := hid h0
            go_simp
            refine (event6_any 3 20 _ q 2 2 h0.out w2).mono ?_
            rintro _ w3 ⟨rfl, hf3⟩
            exact hK _ _ hf3 ⟨⟨q, 2, none, 0⟩, rfl, ⟨by decide, by decide, (hs).fr hf3, SlAt.nil _ _, by decide, by decide, by decide, by decide⟩⟩
          · intro a w2 K hf hd hK
            go_simp
            exact hK _ _ ((Fr.refl w2).alloc _) ⟨_, rfl, slat_lit (xs := [numV 0]) (Go.heap_alloc_new _ _) rfl⟩
          · intro a w2 K hf hd hK
            obtain ⟨q, h0, hs⟩ : IntsAt [0] w2 (a.eval (.tmp 112)) := hd 15 112 (by decide) rfl
            rw [← act_tmp] at h0
            replace h0 := hid h0
            go_simp
            refine (event6_any 3 20 _ q 1 1 h0.out w2).mono ?_
            rintro _ w3 ⟨rfl, hf3⟩
            exact hK _ _ hf3 ⟨⟨q, 1, none, 0⟩, rfl, ⟨by decide, by decide, (hs).fr hf3, SlAt.nil _ _, by decide, by decide, by decide, by decide⟩⟩
          · intro a w2 K hf hd hK
            go_simp
            exact hK _ _ ((Fr.refl w2).alloc _) ⟨_, rfl, slat_lit (xs := [numV 1099511627777]) (Go.heap_alloc_new _ _) rfl⟩
          · intro a w2 K hf hd hK
            obtain ⟨q, h0, hs⟩ : IntsAt [1099511627777] w2 (a.eval (.tmp 114)) := hd 17 114 (by decide) rfl
            rw [← act_tmp] at h0
            replace h0 := hid h0
            go_simp
            refine (event6_any 3 20 _ q 1 1 h0.out w2).mono ?_
            rintro _ w3 ⟨rfl, hf3⟩
            exact hK _ _ hf3 ⟨⟨q, 1, none, 0⟩, rfl, ⟨by decide, by decide, (hs).fr hf3, SlAt.nil _ _, by decide, by decide, by decide, by decide⟩⟩
          · intro a w2 K hf hd hK
            go_simp
            exact hK _ _ ((Fr.refl w2).alloc _) ⟨_, rfl, slat_lit (xs := [numV 109951162778]) (Go.heap_alloc_new _ _) rfl⟩
          · intro a w2 K hf hd hK
            obtain ⟨q, h0, hs⟩ : IntsAt [109951162778] w2 (a.eval (.tmp 116)) := hd 19 116 (by decide) rfl
            rw [← act_tmp] at h0
            replace h0 := hid h0
            go_simp
            refine (event6_any 2 20 _ q 1 1 h0.out w2).mono ?_
            rintro _ w3 ⟨rfl, hf3⟩
            exact hK _ _ hf3 ⟨⟨q, 1, none, 0⟩, rfl, ⟨by decide, by decide, (hs).fr hf3, SlAt.nil _ _, by decide, by decide, by decide, by decide⟩⟩
          · intro a w2 K hf hd hK
            go_simp
            exact hK _ _ ((Fr.refl w2).alloc _) ⟨_, rfl, slat_lit (xs := [numV 65, numV 1]) (Go.heap_alloc_new _ _) rfl⟩
          · intro a w2 K hf hd hK
            obtain ⟨q, h0, hs⟩ : IntsAt [65, 1] w2 (a.eval (.tmp 118)) := hd 21 118 (by decide) rfl
            rw [← act_tmp] at h0
            replace h0 := hid h0
            go_simp
            refine (event6_any 3 6 _ q 2 2 h0.out w2).mono ?_
            rintro _ w3 ⟨rfl, hf3⟩
            exact hK _ _ hf3 ⟨⟨q, 2, none, 0⟩, rfl, ⟨by decide, by decide, (hs).fr hf3, SlAt.nil _ _, by decide, by decide, by decide, by decide⟩⟩
          · intro a w2 K hf hd hK
            go_simp
            exact hK _ _ ((Fr.refl w2).alloc _) ⟨_, rfl, slat_lit (xs := [numV 1, numV 11258999068427]) (Go.heap_alloc_new _ _) rfl⟩
          · intro a w2 K hf hd hK
            obtain ⟨q, h0, hs⟩ : IntsAt [1, 11258999068427] w2 (a.eval (.tmp 120)) := hd 23 120 (by decide) rfl
            rw [← act_tmp] at h0
            replace h0 := hid h0
            go_simp
            refine (event6_any 1 6 _ q 2 2 h0.out w2).mono ?_
            rintro _ w3 ⟨rfl, hf3⟩
            exact hK _ _ hf3 ⟨⟨q, 2, none, 0⟩, rfl, ⟨by decide, by decide, (hs).fr hf3, SlAt.nil _ _, by decide, by decide, by decide, by decide⟩⟩
          · intro a w2 K hf hd hK
            go_simp
            exact hK _ _ ((Fr.refl w2).alloc _) ⟨_, rfl, slat_lit (xs := [numV 1, numV 2, numV 3, numV 0, numV 5, numV 6]) (Go.heap_alloc_new _ _) rfl⟩
          · intro a w2 K hf hd hK
            obtain ⟨q, h0, hs⟩ : IntsAt [1, 2, 3, 0, 5, 6] w2 (a.eval (.tmp 122)) := hd 25 122 (by decide) rfl
            rw [← act_tmp] at h0
            replace h0 := hid h0
            go_simp
            refine (event6_any 3 11 _ q 6 6 h0.out w2).mono ?_
            rintro _ w3 ⟨rfl, hf3⟩
            exact hK _ _ hf3 ⟨⟨q, 6, none, 0⟩, rfl, ⟨by decide, by decide, (hs).fr hf3, SlAt.nil _ _, by decide, by decide, by decide, by decide⟩⟩
          · intro a w2 K hf hd hK
            go_simp
            exact hK _ _ ((Fr.refl w2).alloc _) ⟨_, rfl, slat_lit (xs := [numV 1, numV 2, numV 3, numV 2, numV 5, numV 6]) (Go.heap_alloc_new _ _) rfl⟩
          · intro a w2 K hf hd hK
            obtain ⟨q, h0, hs⟩ : IntsAt [1, 2, 3, 2, 5, 6] w2 (a.eval (.tmp 124)) := hd 27 124 (by decide) rfl
            rw [← act_tmp] at h0
            replace h0 := hid h0
            go_simp
            refine (event6_any 2 11 _ q 6 6 h0.out w2).mono ?_
            rintro _ w3 ⟨rfl, hf3⟩
            exact hK _ _ hf3 ⟨⟨q, 6, none, 0⟩, rfl, ⟨by decide, by decide, (hs).fr hf3, SlAt.nil _ _, by decide, by decide, by decide, by decide⟩⟩
          · intro a w2 K hf hd hK
            go_simp
            exact hK _ _ ((Fr.refl w2).alloc _) ⟨_, rfl, slat_lit (xs := [numV 1]) (Go.heap_alloc_new _ _) rfl⟩
          · intro a w2 K hf hd hK
            obtain ⟨q, h0, hs⟩ : IntsAt [1] w2 (a.eval (.tmp 126)) := hd 29 126 (by decide) rfl
            rw [← act_tmp] at h0
            replace h0 := hid h0
            go_simp
            rw [h0.out]
            refine (named6_any 3 1 [] q 1 1 w2).mono ?_
            rintro _ w3 ⟨g, rfl, hg, hf3⟩
            exact hK _ _ hf3 ⟨⟨q, 1, some ⟨g, 0, none⟩, 1⟩, rfl, ⟨by decide, by decide, (hs).fr hf3, hg, by decide, by decide, by decide, by decide⟩⟩
          · intro a w2 K hf hd hK
            go_simp
            exact hK _ _ ((Fr.refl w2).alloc _) ⟨_, rfl, slat_lit (xs := [numV 1]) (Go.heap_alloc_new _ _) rfl⟩
          · intro a w2 K hf hd hK
            obtain ⟨q, h0, hs⟩ : IntsAt [1] w2 (a.eval (.tmp 128)) := hd 31 128 (by decide) rfl
            rw [← act_tmp] at h0
            replace h0 := hid h0
            go_simp
            rw [h0.out]
            refine (named6_any 3 1 [65] q 1 1 w2).mono ?_
            rintro _ w3 ⟨g, rfl, hg, hf3⟩
            exact hK _ _ hf3 ⟨⟨q, 1, some ⟨g, 0, none⟩, 1⟩, rfl, ⟨by decide, by decide, (hs).fr hf3, hg, by decide, by decide, by decide, by decide⟩⟩
          · intro a w2 K hf hd hK
            go_simp
            exact hK _ _ ((Fr.refl w2).alloc _) ⟨_, rfl, slat_lit (xs := [numV 1]) (Go.heap_alloc_new _ _) rfl⟩
          · intro a w2 K hf hd hK
            obtain ⟨q, h0, hs⟩ : IntsAt [1] w2 (a.eval (.tmp 130)) := hd 33 130 (by decide) rfl
            rw [← act_tmp] at h0
            replace h0 := hid h0
            go_simp
            rw [h0.out]
            refine (named6_any 3 1 [97, 98, 99, 100, 101, 102, 103, 104, 105, 106, 107, 108, 109, 110, 111, 112, 113, 114, 115, 116, 117, 118, 119, 120, 121] q 1 1 w2).mono ?_
            rintro _ w3 ⟨g, rfl, hg, hf3⟩
            exact hK _ _ hf3 ⟨⟨q, 1, some ⟨g, 0, none⟩, 1⟩, rfl, ⟨by decide, by decide, (hs).fr hf3, hg, by decide, by decide, by decide, by decide⟩⟩
          · intro a w2 K hf hd hK
            go_simp
            exact hK _ _ ((Fr.refl w2).alloc _) ⟨_, rfl, slat_lit (xs := [numV 5]) (Go.heap_alloc_new _ _) rfl⟩
          · intro a w2 K hf hd hK
            obtain ⟨q, h0, hs⟩ : IntsAt [5] w2 (a.eval (.tmp 132)) := hd 35 132 (by decide) rfl
            rw [← act_tmp] at h0
            replace h0 := hid h0
            go_simp
            rw [h0.out]
            refine (named6_any 3 20 [97] q 1 1 w2).mono ?_
            rintro _ w3 ⟨g, rfl, hg, hf3⟩
            exact hK _ _ hf3 ⟨⟨q, 1, some ⟨g, 0, none⟩, 1⟩, rfl, ⟨by decide, by decide, (hs).fr hf3, hg, by decide, by decide, by decide, by decide⟩⟩
          · intro a w2 K hf hd hK
            go_simp
            exact hK _ _ ((Fr.refl w2).alloc _) ⟨_, rfl, slat_lit (xs := [numV 1]) (Go.heap_alloc_new _ _) rfl⟩
          · intro a w2 K hf hd hK
            obtain ⟨q, h0, hs⟩ : IntsAt [1] w2 (a.eval (.tmp 134)) := hd 37 134 (by decide) rfl
            rw [← act_tmp] at h0
            replace h0 := hid h0
            go_simp
            refine (event6_any 3 1 _ q 1 1 h0.out w2).mono ?_
            rintro _ w3 ⟨rfl, hf3⟩
            exact hK _ _ hf3 ⟨⟨q, 1, none, 0⟩, rfl, ⟨by decide, by decide, (hs).fr hf3, SlAt.nil _ _, by decide, by decide, by decide, by decide⟩⟩
          · intro a w2 K hf hd hK
            go_simp
            exact hK _ _ ((Fr.refl w2).alloc _) ⟨_, rfl, slat_lit (xs := [numV 1]) (Go.heap_alloc_new _ _) rfl⟩
          · intro a w2 K hf hd hK
            go_simp
            exact hK _ _ ((Fr.refl w2).alloc _) ⟨_, rfl, slat_lit (xs := [strV [97], strV [98]]) (Go.heap_alloc_new _ _) rfl⟩
          · intro a w2 K hf hd hK
            obtain ⟨q, h0, hs⟩ : IntsAt [1] w2 (a.eval (.tmp 136)) := hd 39 136 (by decide) rfl
            obtain ⟨q2, h2, hs2⟩ : StrsAt [[97], [98]] w2 (a.eval (.tmp 137)) := hd 40 137 (by decide) rfl
            refine wp_buildTo 26 _ rfl #[.int .u8 3, .int .u8 1, .slice q 1 1, .slice q2 2 2] ?_ (hK _ _ (Fr.refl _) ⟨⟨q, 1, q2, 2⟩, rfl, ⟨by decide, by decide, hs, hs2, by decide, by decide, by decide, by decide⟩⟩)
            show Tryd.prog.built 26 [(0, .int .u8 3), (1, .int .u8 1), (2, a.eval (.tmp 136)), (3, a.eval (.tmp 137))] = _
            rw [h0, h2]
            kernel_rfl
          · intro a w2 K hf hd hK
            refine step_rows 35 26 22 _ rfl (noL.map LEv) Tryd.underlying35 4 (by decide) (by kernel_rfl) (by kernel_rfl) [97, 99, 101, 102, 104, 106, 108, 109, 111, 113, 115, 117, 119, 121, 123, 125, 127, 129, 131, 133, 135, 138] (by kernel_rfl) rfl (by kernel_rfl) (by decide) (by decide) ?_ ?_ ?_ (fun v w' hf hR => hK v w' hf hR)
            · intro i h d hi hdd
              have hlt : i < 22 := (List.getElem?_eq_some_iff.1 hdd).1
              have hcase : i = 0 ∨ i = 1 ∨ i = 2 ∨ i = 3 ∨ i = 4 ∨ i = 5 ∨ i = 6 ∨ i = 7 ∨ i = 8 ∨ i = 9 ∨ i = 10 ∨ i = 11 ∨ i = 12 ∨ i = 13 ∨ i = 14 ∨ i = 15 ∨ i = 16 ∨ i = 17 ∨ i = 18 ∨ i = 19 ∨ i = 20 ∨ i = 21 := by omega
              rcases hcase with rfl | rfl | rfl | rfl | rfl | rfl | rfl | rfl | rfl | rfl | rfl | rfl | rfl | rfl | rfl | rfl | rfl | rfl | rfl | rfl | rfl | rfl <;> (cases hi; cases hdd; first | exact hd 0 97 (by decide) rfl | exact hd 2 99 (by decide) rfl | exact hd 4 101 (by decide) rfl | exact hd 5 102 (by decide) rfl | exact hd 7 104 (by decide) rfl | exact hd 9 106 (by decide) rfl | exact hd 11 108 (by decide) rfl | exact hd 12 109 (by decide) rfl | exact hd 14 111 (by decide) rfl | exact hd 16 113 (by decide) rfl | exact hd 18 115 (by decide) rfl | exact hd 20 117 (by decide) rfl | exact hd 22 119 (by decide) rfl | exact hd 24 121 (by decide) rfl | exact hd 26 123 (by decide) rfl | exact hd 28 125 (by decide) rfl | exact hd 30 127 (by decide) rfl | exact hd 32 129 (by decide) rfl | exact hd 34 131 (by decide) rfl | exact hd 36 133 (by decide) rfl | exact hd 38 135 (by decide) rfl | exact hd 41 138 (by decide) rfl)
            · intro h hh w v hv; obtain ⟨_, _, rfl⟩ := List.mem_map.1 hh; obtain ⟨_, rfl, _⟩ := hv; rfl
            · intro h hh w w' v hv hf; obtain ⟨_, _, rfl⟩ := List.mem_map.1 hh; exact LEv.fr hv hf
          · intro a w2 K hf hd hK
            obtain ⟨g, vs, h0, _⟩ : LRows 26 (noL.map LEv) w2 (a.eval (.tmp 139)) := hd 42 139 (by decide) rfl
            rw [← act_tmp] at h0
            go_simp
            exact hK _ _ (Fr.refl _) rfl
          · intro a w2 K hf hd hK
            go_simp
            exact hK _ _ (Fr.refl _) rfl
        case done =>
          rename World => w3
          intro ys w4 hf4 hR
          obtain ⟨g2, vs2, h139, hg2, hvl2, hvs2⟩ : LRows 26 (noL.map LEv) w4 (ys 42) := hR 42 (by decide)
          have h140 : ys 43 = .int .i64 22 := hR 43 (by decide)
          have h141 : ys 44 = .int .i64 0 := hR 44 (by decide)
          clear hR
          simp only [putsFrom, Act.put, List.setIfInBounds_toArray, List.set_cons_zero, List.set_cons_succ, Nat.zero_add, Nat.reduceAdd, h139, h140, h141]
          go_wp2_with fail
          have HVS2 : ∀ v ∈ vs2, v.cells.size = 4 := fun v hv => by
            obtain ⟨i, hi⟩ := List.mem_iff_getElem?.1 hv
            have hi' : i < (noL.map LEv).length := by rw [← hvl2]; exact (List.getElem?_eq_some_iff.1 hi).1
            obtain ⟨v', hv', hP⟩ := hvs2 i _ (List.getElem?_eq_getElem hi')
            obtain rfl : v = v' := by rw [hi] at hv'; simpa using hv'
            rw [List.getElem_map] at hP
            obtain ⟨_, rfl, _⟩ := hP
            rfl
          have LC2 : Hid (∀ wr, Fr No w4 wr → ∀ m e, noL[m]? = some e → ∃ s, EvAt wr s e ∧ wr.cell? ⟨g2, m * 4, none⟩ = some (.int .u8 e.v) ∧ wr.cell? ⟨g2, m * 4 + 1, none⟩ = some (.int .u8 e.kind) ∧ wr.cell? ⟨g2, m * 4 + 2, none⟩ = some (.slice s.qn e.nums.length s.cn) ∧ wr.cell? ⟨g2, m * 4 + 3, none⟩ = some (.slice s.qt e.texts.length s.ct)) := hid (fun wr hf m e hp => by
            obtain ⟨v, hv, s, rfl, hE⟩ := hvs2 m (LEv e) (by rw [List.getElem?_map, hp]; rfl)
            exact ⟨s, hE.fr hf, hf.cell0 (LRows.cell (j := 0) (by decide) hg2 HVS2 hv rfl (by decide)), hf.cell0 (LRows.cell (j := 1) (by decide) hg2 HVS2 hv rfl (by decide)), hf.cell0 (LRows.cell (j := 2) (by decide) hg2 HVS2 hv rfl (by decide)), hf.cell0 (LRows.cell (j := 3) (by decide) hg2 HVS2 hv rfl (by decide))⟩)
          have HW4 := hid (HW3.out.trans hf4)
          clear hvs2 HVS2 hvl2 hg2 hf4 h139 h140 h141 HW3
          go_loopg [141] 22 (fun k i wr => ∃ (m : Nat), m ≤ 22 ∧ 22 ≤ m + k ∧ i = .int .i64 m ∧ Fr No w4 wr)
          case atStart => exact ⟨0, by omega, by omega, rfl, Fr.refl _⟩
          case round =>
            obtain ⟨m, hm, hk, rfl, hf⟩ := hrel
            by_cases hlt : m < 22
            · obtain ⟨e, hp⟩ : ∃ p, noL[m]? = some p := ⟨_, List.getElem?_eq_getElem (show m < noL.length from hlt)⟩
              obtain ⟨s, hE, c0, c1, c2, c3⟩ := LC2.out _ hf m e hp
              have hme := no_plain _ (List.mem_of_getElem? hp)
              have i1 : (m : Int) < 22 := by omega
              have i2 : (0 : Int) ≤ (m : Int) := by omega
              have EN := hid (fun w1 (h : Fr No wr w1) => encode_any s e w1 (hE.fr h) (HKT.out.fr ((HW4.out.trans hf).trans h)))
              have SZ := hid (fun w1 (h : Fr No wr w1) => size_any s e w1 (hE.fr h) (HKT.out.fr ((HW4.out.trans hf).trans h)))
              rw [hme] at EN SZ
              simp only [Bool.false_eq_true, if_false, List.length_nil] at EN SZ
              have PN := hid (fun b w1 (h : Fr No wr w1) => put_no b s e wr w1 hE (HKT.out.fr (HW4.out.trans hf)) h hme)
              clear hp hE hme
              unfold evV strV at EN
              unfold evV at SZ PN
              have HF0 := hid ((Fr.refl (X := No) wr).alloc (.cells #[.int .u8 e.v, .int .u8 e.kind, .slice s.qn e.nums.length s.cn, .slice s.qt e.texts.length s.ct] 26))
              have HB := hid (Go.heap_alloc_new wr (.cells #[.int .u8 e.v, .int .u8 e.kind, .slice s.qn e.nums.length s.cn, .slice s.qt e.texts.length s.ct] 26))
              go_upto_region 14 with (first
                | (go_at_call 13; (with_reducible refine (EN.out _ HF0.out).mono ?_); rintro e3 w3 ⟨rfl, hf3⟩)
                | fail)
              obtain ⟨d0, d1, d2, d3, _, _, _, _⟩ := Go.Proofs.YtbnedlfejbfeoaaDoor.cells4 (hf3.heap0 HB.out)
              clear c0 c1 c2 c3
              go_wp2_with (first
                | (go_at_call 15; (with_reducible refine (SZ.out _ (HF0.out.trans hf3)).mono ?_); rintro e4 w5 ⟨rfl, hf5⟩; have f0 := hf5.cell0 d0; have f1 := hf5.cell0 d1; have f2 := hf5.cell0 d2; have f3 := hf5.cell0 d3; have zl : wr.heap.size < w5.heap.size := World.block_lt_of_cell? w5 _ f0)
                | (go_at_call 16; (with_reducible refine (PN.out _ _ (((HF0.out.trans hf3).trans hf5).alloc _)).mono ?_); rintro e5 w6 ⟨rfl, hf6⟩)
                | fail)
              go_roundg (gk - 1)
              case measure => omega
              case rel => exact ⟨m + 1, by omega, by omega, by go_num, hf.trans ((((HF0.out.trans hf3).trans hf5).alloc _).trans hf6)⟩
            · obtain rfl : m = 22 := by omega
              have HW5 := hid (HW4.out.trans hf)
              clear LC2 hf HW4 hk hlt hm
              go_upto_region 17 with fail
              refine wp_region_seq [169, 170, 171, 172, 173, 174, 175, 176, 177, 178, 179, 180, 181, 182, 183, 184, 185, 186, 187, 188] (litAt 28 42 lits17) ?hds ?hnd ?hlt ?hg ?mono ?steps ?done
              case hds => kernel_rfl
              case hnd => decide
              case hlt => kernel_rfl
              case hg => kernel_rfl
              case mono => exact fun i w w' v h hf => Lit.fr _ w w' v h hf
              case steps =>
                refine ⟨?_, ?_, ?_, ?_, ?_, ?_, ?_, ?_, ?_, ?_, ?_, ?_, ?_, ?_, ?_, ?_, ?_, ?_, ?_, ?_, trivial⟩
                · intro a w2 K hf hd hK
                  refine wp_buildTo 42 _ rfl #[.string ⟨#[]⟩, .int .i64 8] ?_ (hK _ _ (Fr.refl _) rfl)
                  show Tryd.prog.built 42 [(0, .string ⟨#[]⟩), (1, .int .i64 8)] = _
                  kernel_rfl
                · intro a w2 K hf hd hK
                  refine wp_buildTo 42 _ rfl #[.string ⟨#[0]⟩, .int .i64 43] ?_ (hK _ _ (Fr.refl _) rfl)
                  show Tryd.prog.built 42 [(0, .string ⟨#[0]⟩), (1, .int .i64 43)] = _
                  kernel_rfl
                · intro a w2 K hf hd hK
                  refine wp_buildTo 42 _ rfl #[.string ⟨#[3]⟩, .int .i64 8] ?_ (hK _ _ (Fr.refl _) rfl)
                  show Tryd.prog.built 42 [(0, .string ⟨#[3]⟩), (1, .int .i64 8)] = _
                  kernel_rfl
                · intro a w2 K hf hd hK
                  refine wp_buildTo 42 _ rfl #[.string ⟨#[3, 0]⟩, .int .i64 4] ?_ (hK _ _ (Fr.refl _) rfl)
                  show Tryd.prog.built 42 [(0, .string ⟨#[3, 0]⟩), (1, .int .i64 4)] = _
                  kernel_rfl
                · intro a w2 K hf hd hK
                  refine wp_buildTo 42 _ rfl #[.string ⟨#[3, 24]⟩, .int .i64 4] ?_ (hK _ _ (Fr.refl _) rfl)
                  show Tryd.prog.built 42 [(0, .string ⟨#[3, 24]⟩), (1, .int .i64 4)] = _
                  kernel_rfl
                · intro a w2 K hf hd hK
                  refine wp_buildTo 42 _ rfl #[.string ⟨#[3, 6, 1]⟩, .int .i64 8] ?_ (hK _ _ (Fr.refl _) rfl)
                  show Tryd.prog.built 42 [(0, .string ⟨#[3, 6, 1]⟩), (1, .int .i64 8)] = _
                  kernel_rfl
                · intro a w2 K hf hd hK
                  refine wp_buildTo 42 _ rfl #[.string ⟨#[3, 6, 65, 5]⟩, .int .i64 40] ?_ (hK _ _ (Fr.refl _) rfl)
                  show Tryd.prog.built 42 [(0, .string ⟨#[3, 6, 65, 5]⟩), (1, .int .i64 40)] = _
                  kernel_rfl
                · intro a w2 K hf hd hK
                  refine wp_buildTo 42 _ rfl #[.string ⟨#[3, 6, 129, 0, 5]⟩, .int .i64 4] ?_ (hK _ _ (Fr.refl _) rfl)
                  show Tryd.prog.built 42 [(0, .string ⟨#[3, 6, 129, 0, 5]⟩), (1, .int .i64 4)] = _
                  kernel_rfl
                · intro a w2 K hf hd hK
                  refine wp_buildTo 42 _ rfl #[.string ⟨#[3, 6, 1, 5, 0]⟩, .int .i64 4] ?_ (hK _ _ (Fr.refl _) rfl)
                  show Tryd.prog.built 42 [(0, .string ⟨#[3, 6, 1, 5, 0]⟩), (1, .int .i64 4)] = _
                  kernel_rfl
                · intro a w2 K hf hd hK
                  refine wp_buildTo 42 _ rfl #[.string ⟨#[3, 10, 233, 7]⟩, .int .i64 40] ?_ (hK _ _ (Fr.refl _) rfl)
                  show Tryd.prog.built 42 [(0, .string ⟨#[3, 10, 233, 7]⟩), (1, .int .i64 40)] = _
                  kernel_rfl
                · intro a w2 K hf hd hK
                  refine wp_buildTo 42 _ rfl #[.string ⟨#[1, 10, 11]⟩, .int .i64 40] ?_ (hK _ _ (Fr.refl _) rfl)
                  show Tryd.prog.built 42 [(0, .string ⟨#[1, 10, 11]⟩), (1, .int .i64 40)] = _
                  kernel_rfl
                · intro a w2 K hf hd hK
                  refine wp_buildTo 42 _ rfl #[.string ⟨#[3, 1, 1, 0]⟩, .int .i64 4] ?_ (hK _ _ (Fr.refl _) rfl)
                  show Tryd.prog.built 42 [(0, .string ⟨#[3, 1, 1, 0]⟩), (1, .int .i64 4)] = _
                  kernel_rfl
                · intro a w2 K hf hd hK
                  refine wp_buildTo 42 _ rfl #[.string ⟨#[3, 1, 1, 25]⟩, .int .i64 40] ?_ (hK _ _ (Fr.refl _) rfl)
                  show Tryd.prog.built 42 [(0, .string ⟨#[3, 1, 1, 25]⟩), (1, .int .i64 40)] = _
                  kernel_rfl
                · intro a w2 K hf hd hK
                  refine wp_buildTo 42 _ rfl #[.string ⟨#[3, 1, 1, 2, 97]⟩, .int .i64 8] ?_ (hK _ _ (Fr.refl _) rfl)
                  show Tryd.prog.built 42 [(0, .string ⟨#[3, 1, 1, 2, 97]⟩), (1, .int .i64 8)] = _
                  kernel_rfl
                · intro a w2 K hf hd hK
                  refine wp_buildTo 42 _ rfl #[.string ⟨#[3, 1, 1, 1, 65]⟩, .int .i64 4] ?_ (hK _ _ (Fr.refl _) rfl)
                  show Tryd.prog.built 42 [(0, .string ⟨#[3, 1, 1, 1, 65]⟩), (1, .int .i64 4)] = _
                  kernel_rfl
                · intro a w2 K hf hd hK
                  refine wp_buildTo 42 _ rfl #[.string ⟨#[3, 11, 1, 2, 3, 0, 5, 6]⟩, .int .i64 4] ?_ (hK _ _ (Fr.refl _) rfl)
                  show Tryd.prog.built 42 [(0, .string ⟨#[3, 11, 1, 2, 3, 0, 5, 6]⟩), (1, .int .i64 4)] = _
                  kernel_rfl
                · intro a w2 K hf hd hK
                  refine wp_buildTo 42 _ rfl #[.string ⟨#[2, 22, 7, 1, 113]⟩, .int .i64 4] ?_ (hK _ _ (Fr.refl _) rfl)
                  show Tryd.prog.built 42 [(0, .string ⟨#[2, 22, 7, 1, 113]⟩), (1, .int .i64 4)] = _
                  kernel_rfl
                · intro a w2 K hf hd hK
                  refine step_rows 43 42 17 _ rfl (refL.map LSk) Tryd.underlying43 2 (by decide) (by kernel_rfl) (by kernel_rfl) [169, 170, 171, 172, 173, 174, 175, 176, 177, 178, 179, 180, 181, 182, 183, 184, 185] (by kernel_rfl) rfl (by kernel_rfl) (by decide) (by decide) ?_ ?_ ?_ (fun v w' hf hR => hK v w' hf hR)
                  · intro i h d hi hdd
                    have hlt : i < 17 := (List.getElem?_eq_some_iff.1 hdd).1
                    have hcase : i = 0 ∨ i = 1 ∨ i = 2 ∨ i = 3 ∨ i = 4 ∨ i = 5 ∨ i = 6 ∨ i = 7 ∨ i = 8 ∨ i = 9 ∨ i = 10 ∨ i = 11 ∨ i = 12 ∨ i = 13 ∨ i = 14 ∨ i = 15 ∨ i = 16 := by omega
                    rcases hcase with rfl | rfl | rfl | rfl | rfl | rfl | rfl | rfl | rfl | rfl | rfl | rfl | rfl | rfl | rfl | rfl | rfl <;> (cases hi; cases hdd; first | exact hd 0 169 (by decide) rfl | exact hd 1 170 (by decide) rfl | exact hd 2 171 (by decide) rfl | exact hd 3 172 (by decide) rfl | exact hd 4 173 (by decide) rfl | exact hd 5 174 (by decide) rfl | exact hd 6 175 (by decide) rfl | exact hd 7 176 (by decide) rfl | exact hd 8 177 (by decide) rfl | exact hd 9 178 (by decide) rfl | exact hd 10 179 (by decide) rfl | exact hd 11 180 (by decide) rfl | exact hd 12 181 (by decide) rfl | exact hd 13 182 (by decide) rfl | exact hd 14 183 (by decide) rfl | exact hd 15 184 (by decide) rfl | exact hd 16 185 (by decide) rfl)
                  · intro h hh w v hv; obtain ⟨_, _, rfl⟩ := List.mem_map.1 hh; cases hv; rfl
                  · intro h hh w w' v hv hf; obtain ⟨_, _, rfl⟩ := List.mem_map.1 hh; exact hv
                · intro a w2 K hf hd hK
                  obtain ⟨g, vs, h0, _⟩ : LRows 42 (refL.map LSk) w2 (a.eval (.tmp 186)) := hd 17 186 (by decide) rfl
                  rw [← act_tmp] at h0
                  go_simp
                  exact hK _ _ (Fr.refl _) rfl
                · intro a w2 K hf hd hK
                  go_simp
                  exact hK _ _ (Fr.refl _) rfl
              case done =>
                rename World => w5
                intro zs w6 hf6 hR
                obtain ⟨g3, vs3, h186, hg3, hvl3, hvs3⟩ : LRows 42 (refL.map LSk) w6 (zs 17) := hR 17 (by decide)
                have h187 : zs 18 = .int .i64 17 := hR 18 (by decide)
                have h188 : zs 19 = .int .i64 0 := hR 19 (by decide)
                clear hR
                simp only [putsFrom, Act.put, List.setIfInBounds_toArray, List.set_cons_zero, List.set_cons_succ, Nat.zero_add, Nat.reduceAdd, h186, h187, h188]
                go_wp2_with fail
                have HVS3 : ∀ v ∈ vs3, v.cells.size = 2 := fun v hv => by
                  obtain ⟨i, hi⟩ := List.mem_iff_getElem?.1 hv
                  have hi' : i < (refL.map LSk).length := by rw [← hvl3]; exact (List.getElem?_eq_some_iff.1 hi).1
                  obtain ⟨v', hv', hP⟩ := hvs3 i _ (List.getElem?_eq_getElem hi')
                  obtain rfl : v = v' := by rw [hi] at hv'; simpa using hv'
                  rw [List.getElem_map] at hP
                  cases hP
                  rfl
                have LC3 : Hid (∀ wr, Fr No w6 wr → ∀ (m : Nat) (t : List UInt8) (k : Nat), refL[m]? = some (t, k) → wr.cell? ⟨g3, m * 2, none⟩ = some (strV t) ∧ wr.cell? ⟨g3, m * 2 + 1, none⟩ = some (.int .i64 k)) := hid (fun wr hf m t k hp => by
                  obtain ⟨v, hv, rfl⟩ := hvs3 m (LSk (t, k)) (by rw [List.getElem?_map, hp]; rfl)
                  exact ⟨hf.cell0 (LRows.cell (j := 0) (by decide) hg3 HVS3 hv rfl (by decide)), hf.cell0 (LRows.cell (j := 1) (by decide) hg3 HVS3 hv rfl (by decide))⟩)
                have HW6 := hid (HW5.out.trans hf6)
                clear hvs3 HVS3 hvl3 hg3 hf6 h186 h187 h188 HW5
                go_loopg [188] 17 (fun k i wr => ∃ (m : Nat), m ≤ 17 ∧ 17 ≤ m + k ∧ i = .int .i64 m ∧ Fr No w6 wr)
                case atStart => exact ⟨0, by omega, by omega, rfl, Fr.refl _⟩
                case round =>
                  obtain ⟨m, hm, hk, rfl, hf⟩ := hrel
                  by_cases hlt : m < 17
                  · obtain ⟨⟨t, k⟩, hp⟩ : ∃ p, refL[m]? = some p := ⟨_, List.getElem?_eq_getElem (show m < refL.length from hlt)⟩
                    obtain ⟨c0, c1⟩ := LC3.out _ hf m t k hp
                    obtain ⟨hl, hd⟩ := ref_plain _ (List.mem_of_getElem? hp)
                    simp only at hl hd
                    have i1 : (m : Int) < 17 := by omega
                    have i2 : (0 : Int) ≤ (m : Int) := by omega
                    have RF := hid (fun w1 (h : Fr No wr w1) => refused_any t k w1 (by omega) (HKT.out.fr ((HW6.out.trans hf).trans h)) hd)
                    clear hp hl hd
                    unfold strV at c0 RF
                    have HF0 := hid ((Fr.refl (X := No) wr).alloc (.cells #[.string ⟨t.toArray⟩, .int .i64 k] 42))
                    go_wp2_with (first
                      | (go_at_call 17; (with_reducible refine (RF.out _ HF0.out).mono ?_); rintro e3 w7 ⟨rfl, hf7⟩)
                      | fail)
                    go_roundg (gk - 1)
                    case measure => omega
                    case rel => exact ⟨m + 1, by omega, by omega, by go_num, hf.trans (HF0.out.trans hf7)⟩
                  · obtain rfl : m = 17 := by omega
                    have HW7 := hid (HW6.out.trans hf)
                    have GN : Hid (∀ w1, Calls Tryd.prog 18 #[.pointer none, .int .u8 3] w1 fun en w' => ∃ p : EvP, en = .returned (.tuple #[.agg #[.int .u8 0, .int .u8 0, .slice p.qn 0 p.cn, .slice p.qt 0 p.ct], .int .i64 2]) ∧ Fr No w1 w') := hid (fun w1 => (get_nil 3 w1).mono fun _ _ ⟨p, h1, _, h2⟩ => ⟨p, h1, h2⟩)
                    have NW : Hid (∀ w1, Calls Tryd.prog 19 #[.string ⟨#[6, 1, 5]⟩] w1 fun en w' => ∃ b, en = .returned (.pointer (some ⟨b, 0, none⟩)) ∧ RdIs w' b ⟨[6, 1, 5], 0, 0, 0⟩ ∧ w1.heap.size ≤ b ∧ Fr No w1 w') := hid (fun w1 => new_any [6, 1, 5] w1 (by decide))
                    have G0 : Hid (∀ b w1, RdIs w1 b ⟨[6, 1, 5], 0, 0, 0⟩ → Calls Tryd.prog 18 #[.pointer (some ⟨b, 0, none⟩), .int .u8 0] w1 fun en w' => ∃ p : EvP, en = .returned (.tuple #[.agg #[.int .u8 0, .int .u8 0, .slice p.qn 0 p.cn, .slice p.qt 0 p.ct], .int .i64 43]) ∧ Fr (Only b) w1 w') := hid (fun b w1 h => (get_version b ⟨[6, 1, 5], 0, 0, 0⟩ 0 w1 h (by decide)).mono fun _ _ ⟨p, h1, _, _, h2⟩ => ⟨p, h1, h2⟩)
                    have G9 : Hid (∀ b w1, RdIs w1 b ⟨[6, 1, 5], 0, 0, 0⟩ → Calls Tryd.prog 18 #[.pointer (some ⟨b, 0, none⟩), .int .u8 9] w1 fun en w' => ∃ p : EvP, en = .returned (.tuple #[.agg #[.int .u8 0, .int .u8 0, .slice p.qn 0 p.cn, .slice p.qt 0 p.ct], .int .i64 43]) ∧ Fr (Only b) w1 w') := hid (fun b w1 h => (get_version b ⟨[6, 1, 5], 0, 0, 0⟩ 9 w1 h (by decide)).mono fun _ _ ⟨p, h1, _, _, h2⟩ => ⟨p, h1, h2⟩)
                    clear LC3 hf HW6 hk hlt hm
                    go_wp2_with (first
                      | (go_at_call 18; (with_reducible refine (GN.out _).mono ?_); rintro e7 w7 ⟨p7, rfl, hf7⟩)
                      | (go_at_call 19; (with_reducible refine (NW.out _).mono ?_); have hsec := hf9; clear hsec; rintro e10 w10 ⟨b10, rfl, hr10, hb10, hf10⟩)
                      | (go_at_call 19; (with_reducible refine (NW.out _).mono ?_); rintro e8 w8 ⟨b8, rfl, hr8, hb8, hf8⟩)
                      | (go_at_call 18; (with_reducible refine (G0.out b8 _ hr8).mono ?_); rintro e9 w9 ⟨p9, rfl, hf9⟩)
                      | (go_at_call 18; (with_reducible refine (G9.out b10 _ hr10).mono ?_); rintro e11 w11 ⟨p11, rfl, hf11⟩)
                      | fail)
                    go_ret
                    have A7 := hf7.alloc (.cells #[.int .u8 0, .int .u8 0, .slice p7.qn 0 p7.cn, .slice p7.qt 0 p7.ct] 26)
                    have A9 := (hf8.newOnly hb8 hf9).alloc (.cells #[.int .u8 0, .int .u8 0, .slice p9.qn 0 p9.cn, .slice p9.qt 0 p9.ct] 26)
                    have A11 := (hf10.newOnly hb10 hf11).alloc (.cells #[.int .u8 0, .int .u8 0, .slice p11.qn 0 p11.cn, .slice p11.qt 0 p11.ct] 26)
                    exact ⟨rfl, ((HW7.out.trans A7).trans A9).trans A11⟩
end Go.Proofs.YtbnedlfejbfeoaaDoor
