/-
  The contracts of wire's and the document's readers and writers, for this seat (out of the wire seat's texts): no statement of the seat is proved here. sameEvent of the statements.
-/
import Derived.Test.YtnmfmedoocnofaaDoorSame2
namespace Go.Proofs.YtnmfmedoocnofaaDoor
open Go.RowKit

theorem sameS_v {e f : Ev} (h : e.v ≠ f.v) : sameS e f = false := by simp [sameS, h]
theorem sameS_k {e f : Ev} (h : e.kind ≠ f.kind) : sameS e f = false := by simp [sameS, h]
theorem sameS_n {e f : Ev} (h : e.nums ≠ f.nums) : sameS e f = false := by simp [sameS, h]
theorem sameS_t {e f : Ev} (h : e.texts ≠ f.texts) : sameS e f = false := by simp [sameS, h]
theorem sameS_all {e f : Ev} (h1 : e.v = f.v) (h2 : e.kind = f.kind) (h3 : e.nums = f.nums) (h4 : e.texts = f.texts) : sameS e f = true := by simp [sameS, h1, h2, h3, h4]

set_option maxHeartbeats 4000000 in
set_option maxRecDepth 100000 in
theorem sameEvent8_any (s t : EvP) (e f : Ev) (w : World) (he : EvAt w s e) (hf : EvAt w t f) :
    Calls Tryd.prog 37 #[evV s e, evV t f] w fun en w' => en = .returned (.bool (sameS e f)) ∧ Fr No w w' := by
  obtain ⟨qn, cn, qt, ct⟩ := s
  obtain ⟨v, k, ns, ts⟩ := e
  obtain ⟨qn2, cn2, qt2, ct2⟩ := t
  obtain ⟨v2, k2, ns2, ts2⟩ := f
  obtain ⟨h1, h2, h3, h4, h5, h6, h7, h8⟩ := he
  obtain ⟨f1, f2, f3, f4, f5, f6, f7, f8⟩ := hf
  simp only at h1 h2 h3 h4 h5 h6 h7 f1 f2 f3 f4 f5 f6 f7
  have HF : Fr No w ((w.alloc (.cells #[.int .u8 v, .int .u8 k, .slice qn ns.length cn, .slice qt ts.length ct] 34)).alloc (.cells #[.int .u8 v2, .int .u8 k2, .slice qn2 ns2.length cn2, .slice qt2 ts2.length ct2] 34)) := ((Fr.refl w).alloc _).alloc _
  have RV := hid (fun (h : v ≠ v2) => sameS_v (e := ⟨v, k, ns, ts⟩) (f := ⟨v2, k2, ns2, ts2⟩) h)
  have RK := hid (fun (h : k ≠ k2) => sameS_k (e := ⟨v, k, ns, ts⟩) (f := ⟨v2, k2, ns2, ts2⟩) h)
  have RN := hid (fun (h : ns ≠ ns2) => sameS_n (e := ⟨v, k, ns, ts⟩) (f := ⟨v2, k2, ns2, ts2⟩) h)
  have RT := hid (fun (h : ts ≠ ts2) => sameS_t (e := ⟨v, k, ns, ts⟩) (f := ⟨v2, k2, ns2, ts2⟩) h)
  have RA := hid (fun (a : v = v2) (b : k = k2) (c : ns = ns2) (d : ts = ts2) => sameS_all (e := ⟨v, k, ns, ts⟩) (f := ⟨v2, k2, ns2, ts2⟩) a b c d)
  generalize sameS ⟨v, k, ns, ts⟩ ⟨v2, k2, ns2, ts2⟩ = R at RV RK RN RT RA ⊢
  have H3 := hid (h3.fr HF)
  have H4 := hid (h4.fr HF)
  have F3 := hid (f3.fr HF)
  have F4 := hid (f4.fr HF)
  have HN := hid (And.intro h5 h6)
  clear h1 h2 h3 h4 h5 h6 h7 h8 f1 f2 f3 f4 f5 f6 f7 f8
  unfold evV
  simp only
  by_cases hv : v = v2
  case neg =>
    obtain rfl := RV.out hv
    have b1 : ((v : Int) != (v2 : Int)) = true := by simp; omega
    clear hv RV RK RN RT RA
    go_enter Tryd.func37, Tryd.ntmps37
    go_wp2_with fail
    go_ret
    exact ⟨rfl, HF⟩
  have b1 : ((v : Int) != (v2 : Int)) = false := by simp [hv]
  have HV := hid hv
  clear hv RV
  by_cases hk : k = k2
  case neg =>
    obtain rfl := RK.out hk
    have b2 : ((k : Int) != (k2 : Int)) = true := by simp; omega
    clear hk RK RN RT RA
    go_enter Tryd.func37, Tryd.ntmps37
    go_wp2_with fail
    go_ret
    exact ⟨rfl, HF⟩
  have b2 : ((k : Int) != (k2 : Int)) = false := by simp [hk]
  have HK := hid hk
  clear hk RK
  by_cases hn : ns.length = ns2.length
  case neg =>
    obtain rfl := RN.out (fun h => hn (congrArg List.length h))
    have b3 : ((ns.length : Int) != (ns2.length : Int)) = true := by simp; omega
    clear hn RN RT RA
    go_enter Tryd.func37, Tryd.ntmps37
    go_wp2_with fail
    go_ret
    exact ⟨rfl, HF⟩
  have b3 : ((ns.length : Int) != (ns2.length : Int)) = false := by simp [hn]
  have HNL := hid hn
  clear hn
  by_cases ht : ts.length = ts2.length
  case neg =>
    obtain rfl := RT.out (fun h => ht (congrArg List.length h))
    have b4 : ((ts.length : Int) != (ts2.length : Int)) = true := by simp; omega
    clear ht RN RT RA
    go_enter Tryd.func37, Tryd.ntmps37
    go_wp2_with fail
    go_ret
    exact ⟨rfl, HF⟩
  have b4 : ((ts.length : Int) != (ts2.length : Int)) = false := by simp [ht]
  have HTL := hid ht
  clear ht
  go_enter Tryd.func37, Tryd.ntmps37
  go_wp2_with fail

  go_loopw [5] (fun c wr => ∃ (i m0 : Nat), i ≤ ns.length ∧ c = .int .i64 i ∧ wr = (((w.alloc (.cells #[.int .u8 v, .int .u8 k, .slice qn ns.length cn, .slice qt ts.length ct] 34)).alloc (.cells #[.int .u8 v2, .int .u8 k2, .slice qn2 ns2.length cn2, .slice qt2 ts2.length ct2] 34))).drewN m0 ∧ Hid (∀ (j : Nat) (x y : Int), j < i → ns[j]? = some x → ns2[j]? = some y → x = y)) (fun c _ => ns.length - (intOf c).toNat)
  case atStart => exact ⟨0, 0, Nat.zero_le _, rfl, rfl, hid (fun j _ _ h => absurd h (Nat.not_lt_zero _))⟩
  case round =>
    obtain ⟨i, m0, hi, rfl, rfl, HA⟩ := hrel
    by_cases hlt : i < ns.length
    · have hd : decide ((i : Int) < (ns.length : Int)) = true := by simp; omega
      obtain ⟨x, hx⟩ : ∃ x, ns[i]? = some x := ⟨_, List.getElem?_eq_getElem hlt⟩
      obtain ⟨y, hy⟩ : ∃ y, ns2[i]? = some y := ⟨_, List.getElem?_eq_getElem (by have := HNL.out; omega)⟩
      obtain ⟨c1, o1, rfl, hc1⟩ := H3.out i (numV x) (by simp [hx])
      obtain ⟨c2, o2, rfl, hc2⟩ := F3.out i (numV y) (by simp [hy])
      unfold numV at hc1 hc2
      have i1 : (i : Int) < (ns.length : Int) := by omega
      have i2 : (i : Int) < (ns2.length : Int) := by have := HNL.out; omega
      have i3 : (0 : Int) ≤ (i : Int) := by omega
      have i4 : (i : Int) + 1 ≤ 9223372036854775807 := by have := HN.out.1; omega
      have HC := hid (And.intro hx hy)
      clear hx hy
      by_cases hb : x = y
      · have hbb : (x != y) = false := (by simp [hb])
        have HBB := hid hb
        clear hb
        go_wp2_with fail
        go_quiet (fail)
        go_wp2_with fail
        go_roundw
        case rel =>
          refine ⟨i + 1, m0 + nq, by omega, by go_num, by first | rfl | simp, hid ?_⟩
          intro j x' y' hj c d
          by_cases hji : j = i
          · subst hji
            obtain ⟨e1, e2⟩ := HC.out
            rw [e1] at c
            rw [e2] at d
            cases c; cases d
            exact HBB.out
          · exact HA.out j x' y' (by omega) c d
        case measure => simp [intOf]; omega
      · have hbb : (x != y) = true := (by simp [hb])
        obtain rfl := RN.out (list_ne_at HC.out.1 HC.out.2 hb)
        clear hb
        go_wp2_with fail
        go_quiet (fail)
        go_wp2_with fail
        go_ret
        exact ⟨rfl, ((HF.drewN _).drewN _)⟩
    · have hd : decide ((i : Int) < (ns.length : Int)) = false := by simp; omega
      have HE := hid (list_eq_of HNL.out (fun j x y c d => HA.out j x y (by have := (List.getElem?_eq_some_iff.1 c).1; omega) c d))
      have HEN := HE
      clear HE HA
      go_wp2_with fail
      clear hd hi hlt
      generalize m0 = m1
      go_loopw [6] (fun c wr => ∃ (i m0 : Nat), i ≤ ts.length ∧ c = .int .i64 i ∧ wr = (((w.alloc (.cells #[.int .u8 v, .int .u8 k, .slice qn ns.length cn, .slice qt ts.length ct] 34)).alloc (.cells #[.int .u8 v2, .int .u8 k2, .slice qn2 ns2.length cn2, .slice qt2 ts2.length ct2] 34))).drewN m0 ∧ Hid (∀ (j : Nat) (x y : List UInt8), j < i → ts[j]? = some x → ts2[j]? = some y → x = y)) (fun c _ => ts.length - (intOf c).toNat)
      case atStart => exact ⟨0, m1, Nat.zero_le _, rfl, rfl, hid (fun j _ _ h => absurd h (Nat.not_lt_zero _))⟩
      case round =>
        obtain ⟨i, m0, hi, rfl, rfl, HA⟩ := hrel
        by_cases hlt : i < ts.length
        · have hd : decide ((i : Int) < (ts.length : Int)) = true := by simp; omega
          obtain ⟨x, hx⟩ : ∃ x, ts[i]? = some x := ⟨_, List.getElem?_eq_getElem hlt⟩
          obtain ⟨y, hy⟩ : ∃ y, ts2[i]? = some y := ⟨_, List.getElem?_eq_getElem (by have := HTL.out; omega)⟩
          obtain ⟨c1, o1, rfl, hc1⟩ := H4.out i (strV x) (by simp [hx])
          obtain ⟨c2, o2, rfl, hc2⟩ := F4.out i (strV y) (by simp [hy])
          unfold strV at hc1 hc2
          have i1 : (i : Int) < (ts.length : Int) := by omega
          have i2 : (i : Int) < (ts2.length : Int) := by have := HTL.out; omega
          have i3 : (0 : Int) ≤ (i : Int) := by omega
          have i4 : (i : Int) + 1 ≤ 9223372036854775807 := by have := HN.out.2; omega
          have hx1 : (⟨x.toArray⟩ : ByteArray).toList = x := by simp
          have hy1 : (⟨y.toArray⟩ : ByteArray).toList = y := by simp
          have HC := hid (And.intro hx hy)
          clear hx hy
          by_cases hb : x = y
          · have hbb : (x == y) = true := (by simp [hb])
            have HBB := hid hb
            clear hb
            go_wp2_with fail
            go_quiet (fail)
            go_wp2_with fail
            go_roundw
            case rel =>
              refine ⟨i + 1, m0 + nq, by omega, by go_num, by first | rfl | simp, hid ?_⟩
              intro j x' y' hj c d
              by_cases hji : j = i
              · subst hji
                obtain ⟨e1, e2⟩ := HC.out
                rw [e1] at c
                rw [e2] at d
                cases c; cases d
                exact HBB.out
              · exact HA.out j x' y' (by omega) c d
            case measure => simp [intOf]; omega
          · have hbb : (x == y) = false := (by simp [hb])
            obtain rfl := RT.out (list_ne_at HC.out.1 HC.out.2 hb)
            clear hb
            go_wp2_with fail
            go_quiet (fail)
            go_wp2_with fail
            go_ret
            exact ⟨rfl, ((HF.drewN _).drewN _)⟩
        · have hd : decide ((i : Int) < (ts.length : Int)) = false := by simp; omega
          have HE := hid (list_eq_of HTL.out (fun j x y c d => HA.out j x y (by have := (List.getElem?_eq_some_iff.1 c).1; omega) c d))
          obtain rfl := RA.out HV.out HK.out HEN.out HE.out
          go_wp2_with fail
          go_ret
          exact ⟨rfl, (HF.drewN _)⟩
end Go.Proofs.YtnmfmedoocnofaaDoor
