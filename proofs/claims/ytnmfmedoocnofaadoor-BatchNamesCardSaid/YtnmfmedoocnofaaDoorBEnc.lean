/-
  The contracts of wire's and the document's readers and writers, for this seat (out of the wire seat's texts): no statement of the seat is proved here.
-/
import Derived.Test.YtnmfmedoocnofaaDoorUpOk
import Derived.Test.YtnmfmedoocnofaaDoorNewest
import Derived.Test.YtnmfmedoocnofaaDoorCPlain
import Derived.Deep.LoopGhost
import Derived.Deep.Cut
namespace Go.Proofs.YtnmfmedoocnofaaDoor
open Go.RowKit

def numsB (ns : List Int) : List UInt8 := ns.flatMap fun n => shortB n.toNat
def textsB (ts : List (List UInt8)) : List UInt8 := ts.flatMap textB
/-- An event's bytes without its version. -/
def evB (e : Ev) : List UInt8 := [byteN e.kind] ++ numsB e.nums ++ textsB e.texts
def encB (e : Ev) : List UInt8 := [byteN e.v] ++ evB e
theorem numsB_snoc (ns : List Int) (n : Int) : numsB (ns ++ [n]) = numsB ns ++ shortB n.toNat := by simp [numsB]
theorem textsB_snoc (ts : List (List UInt8)) (t : List UInt8) : textsB (ts ++ [t]) = textsB ts ++ textB t := by simp [textsB]
theorem numsB_length (ns : List Int) : (numsB ns).length ≤ 10 * ns.length := by
  induction ns with
  | nil => simp [numsB]
  | cons n ns ih =>
    have h : numsB (n :: ns) = shortB n.toNat ++ numsB ns := by simp [numsB]
    have := shortB_length_le n.toNat
    rw [h, List.length_append, List.length_cons]
    omega
theorem textB_length (t : List UInt8) : (textB t).length ≤ t.length + 10 := by
  have := shortB_length_le t.length
  unfold textB
  rw [List.length_append]
  omega
theorem textsB_length (ts : List (List UInt8)) (h : ∀ t, t ∈ ts → t.length ≤ 24) : (textsB ts).length ≤ 34 * ts.length := by
  induction ts with
  | nil => simp [textsB]
  | cons t ts ih =>
    have h1 : textsB (t :: ts) = textB t ++ textsB ts := by simp [textsB]
    have := textB_length t
    have := h t (List.mem_cons_self ..)
    have := ih (fun x hx => h x (List.mem_cons_of_mem _ hx))
    rw [h1, List.length_append, List.length_cons]
    omega
theorem evB_length {e : Ev} (hm : mayS e = true) : (evB e).length ≤ 200 := by
  obtain ⟨_, h7, h1, _, ht⟩ := may_small hm
  have a := numsB_length e.nums
  have b := textsB_length e.texts ht
  unfold evB
  simp only [List.length_append, List.length_cons, List.length_nil]
  omega
theorem Wrote.behind {w w1 w2 : World} {b : Nat} {o : Option Nat} {l2 : List UInt8} (hf : Fr No w w1) (h : Wrote w1 w2 b o l2) : Wrote w w2 b o l2 := by
  obtain ⟨o', h1, h2, h3⟩ := h
  refine ⟨o', h1, hf.of0.trans' h2 (fun i _ h => h), ?_⟩
  rcases h3 with h3 | h3
  · exact .inl h3
  · exact .inr fun g hg => Nat.le_trans hf.size (h3 g hg)
theorem Wrote.old {W w w' : World} {b : Nat} {o : Option Nat} {l : List UInt8} (hf : Fr No W w) (hb : W.heap.size ≤ b) (ho : ∀ g, o = some g → W.heap.size ≤ g) (h : Wrote w w' b o l) : Fr No W w' ∧ ∃ o', WrAt w' b o' l ∧ ∀ g, o' = some g → W.heap.size ≤ g := by
  obtain ⟨o', h1, h2, h3⟩ := h
  refine ⟨hf.newOnlyO hb ho h2, o', h1, fun g hg => ?_⟩
  rcases h3 with rfl | h3
  · exact ho g hg
  · exact Nat.le_trans hf.size (h3 g hg)

set_option maxHeartbeats 4000000 in
set_option maxRecDepth 100000 in
theorem put_no (b : Nat) (s : EvP) (e : Ev) (W w : World) (he : EvAt W s e) (hkt : KT W) (hf : Fr No W w) (hm : mayS e = false) :
    Calls Tryd.prog 41 #[.pointer (some ⟨b, 0, none⟩), evV s e] w fun en w' => en = .returned (.int .i64 4) ∧ Fr No w w' := by
  have ME := hid (fun w1 (h : Fr No w w1) => may_any s e w1 (he.fr (hf.trans h)) (hkt.fr (hf.trans h)))
  rw [hm] at ME
  have HF0 : Fr No w (w.alloc (.cells #[.int .u8 e.v, .int .u8 e.kind, .slice s.qn e.nums.length s.cn, .slice s.qt e.texts.length s.ct] 34)) := (Fr.refl w).alloc _
  clear he hkt hf hm
  unfold evV at *
  go_enter Tryd.func41, Tryd.ntmps41
  go_wp2_with (first
    | (go_at_call 44; (with_reducible refine (ME.out _ HF0).mono ?_); rintro e1 w1 ⟨rfl, hf1⟩)
    | fail)
  go_ret
  exact ⟨rfl, HF0.trans hf1⟩

set_option maxHeartbeats 8000000 in
set_option maxRecDepth 100000 in
theorem put_ok (b : Nat) (o : Option Nat) (s : EvP) (e : Ev) (l : List UInt8) (W w : World) (he : EvAt W s e) (hkt : KT W) (hf : Fr No W w) (hb : W.heap.size ≤ b) (ho : ∀ g, o = some g → W.heap.size ≤ g)
    (hw : WrAt w b o l) (hl : l.length ≤ 100000000) (hm : mayS e = true) :
    Calls Tryd.prog 41 #[.pointer (some ⟨b, 0, none⟩), evV s e] w fun en w' => en = .returned (.int .i64 0) ∧ Wrote w w' b o (l ++ evB e) := by
  have ME := hid (fun w1 (h : Fr No w w1) => may_any s e w1 (he.fr (hf.trans h)) (hkt.fr (hf.trans h)))
  rw [hm] at ME
  obtain ⟨hl7, hn7, ht1, hnr, htr⟩ := may_small hm
  have HF0 : Fr No w (w.alloc (.cells #[.int .u8 e.v, .int .u8 e.kind, .slice s.qn e.nums.length s.cn, .slice s.qt e.texts.length s.ct] 34)) := (Fr.refl w).alloc _
  have g0 := Go.heap_alloc_new w (.cells #[.int .u8 e.v, .int .u8 e.kind, .slice s.qn e.nums.length s.cn, .slice s.qt e.texts.length s.ct] 34)
  have HG0 := hid g0
  have hblt := hw.lt
  have holt := hw.lto
  have HBO := hid (And.intro hb ho)
  have NU := hid (fun w5 (h : Fr No W w5) m x (hx : e.nums[m]? = some x) => (by
    obtain ⟨bn, on, h1, h2⟩ := he.nums m (numV x) (by simp [hx])
    exact ⟨bn, on, h1, h.cell0 h2⟩ : ∃ bn on, s.qn = some ⟨bn, on, none⟩ ∧ w5.cell? ⟨bn, on + m, none⟩ = some (numV x)))
  have TU := hid (fun w5 (h : Fr No W w5) m x (hx : e.texts[m]? = some x) => (by
    obtain ⟨bn, on, h1, h2⟩ := he.texts m (strV x) (by simp [hx])
    exact ⟨bn, on, h1, h.cell0 h2⟩ : ∃ bn on, s.qt = some ⟨bn, on, none⟩ ∧ w5.cell? ⟨bn, on + m, none⟩ = some (strV x)))
  have HNR := hid hnr
  have HTR := hid htr
  have HW := hid hw
  have HKE := hid he.k8
  have HWf := hid hf
  have hlen := evB_length hm
  clear hl7 hnr htr he hkt g0 hm hw hf hb ho
  unfold evV at *
  go_enter Tryd.func41, Tryd.ntmps41
  go_upto_region 3 with (first
    | (go_at_call 44; (with_reducible refine (ME.out _ HF0).mono ?_); rintro e1 w1 ⟨rfl, hf1⟩; obtain ⟨c0, c1, c2, c3, _, _, _, _⟩ := Go.Proofs.YtnmfmedoocnofaaDoor.cells4 (hf1.heap0 HG0.out))
    | fail)
  have F1 := HF0.trans hf1
  have U8 := hid (u8_any b o e.kind l w1 (HW.out.fr F1 id (fun _ _ => id)) (by omega) HKE.out)
  go_upto_region 4 with (first
    | (go_at_call 39; (with_reducible refine U8.out.mono ?_); rintro e2 w2 ⟨rfl, hq⟩)
    | fail)
  have HQ := hid hq
  have C1 := hid (fun w5 (k : Fr (OnlyO b o) w1 w5) => (by
    have nb : ¬ OnlyO b o w.heap.size := fun hx => by
      rcases hx with hx | hx
      · omega
      · have := holt _ hx; omega
    exact ⟨k.cell c0 nb, k.cell c1 nb, k.cell c2 nb, k.cell c3 nb⟩ : _ ∧ _ ∧ _ ∧ _))
  have OLD := hid (fun w5 (h : Fr (OnlyO b o) w1 w5) => ((HWf.out.trans F1).newOnlyO HBO.out.1 HBO.out.2 h : Fr No W w5))
  clear c0 c1 c2 c3
  obtain ⟨c0, c1, c2, c3⟩ := C1.out _ hq.choose_spec.2.1
  clear hq U8 hf1 HW
  go_wp2_with fail
  go_loopg [19] e.nums.length (fun k i wr => ∃ m : Nat, m ≤ e.nums.length ∧ e.nums.length ≤ m + k ∧ i = .int .i64 m ∧ Hid (Wrote w1 wr b o (l ++ [byteN e.kind] ++ numsB (e.nums.take m))))
  case atStart => exact ⟨0, Nat.zero_le _, by omega, rfl, hid (by simpa [numsB] using HQ.out)⟩
  case round =>
    clear c0 c1 c2 c3 HQ
    obtain ⟨m, hm, hk, rfl, HQ⟩ := hrel
    obtain ⟨o1, hw1, hfr1, hno1⟩ := HQ.out
    obtain ⟨c0, c1, c2, c3⟩ := C1.out _ hfr1
    by_cases hlt : m < e.nums.length
    · obtain ⟨x, hx⟩ : ∃ x, e.nums[m]? = some x := ⟨_, List.getElem?_eq_getElem hlt⟩
      obtain ⟨bn, on, hqn, kn⟩ := NU.out _ (OLD.out _ hfr1) m x hx
      have hx0 := HNR.out x (List.mem_of_getElem? hx)
      obtain ⟨y, rfl⟩ := Int.eq_ofNat_of_zero_le hx0.1
      have ht : e.nums.take (m + 1) = e.nums.take m ++ [(y : Int)] := by rw [List.take_succ_eq_append_getElem hlt, (List.getElem?_eq_some_iff.1 hx).2]
      have HT := hid ht
      have hwr : IntKind.u64.wrap (y : Int) = (y : Int) := wrapU64 y (by omega)
      have hl10 := numsB_length (e.nums.take m)
      have htl : (e.nums.take m).length ≤ 7 := by rw [List.length_take]; omega
      have SH := hid (short_any b o1 y _ wr hw1 (by simp only [List.length_append, List.length_cons, List.length_nil]; omega) (by omega))
      have HN1 := hid (And.intro hfr1 hno1)
      have i1 : (m : Int) < (e.nums.length : Int) := by omega
      have i2 : (0 : Int) ≤ (m : Int) := by omega
      have i4 : (m : Int) + 1 ≤ 1000001 := by omega
      unfold numV at kn
      have HQN := hid hqn
      rw [hqn]
      clear hx hx0 ht hl10 htl hw1 hfr1 hno1 hqn
      go_wp2_with (first
        | (go_at_call 40; (with_reducible refine SH.out.mono ?_); rintro e5 w5 ⟨rfl, hq5⟩; have HQ5 := hid (Wrote.trans HN1.out.1 HN1.out.2 hq5); clear hq5)
        | fail)
      rw [← HQN.out]
      go_roundg (gk - 1)
      case measure => omega
      case rel => exact ⟨m + 1, by omega, by omega, by go_num, hid (by rw [HT.out, numsB_snoc]; simpa using HQ5.out)⟩
    · obtain rfl : m = e.nums.length := by omega
      rw [List.take_length] at HQ
      clear hlt hm hk hw1 hfr1 hno1
      go_wp2_with fail
      go_loopg [31] e.texts.length (fun k i wr => ∃ m : Nat, m ≤ e.texts.length ∧ e.texts.length ≤ m + k ∧ i = .int .i64 m ∧ Hid (Wrote w1 wr b o (l ++ [byteN e.kind] ++ numsB e.nums ++ textsB (e.texts.take m))))
      case atStart => exact ⟨0, Nat.zero_le _, by omega, rfl, hid (by simpa [textsB] using HQ.out)⟩
      case round =>
        clear c0 c1 c2 c3 HQ
        obtain ⟨m, hm, hk, rfl, HQ⟩ := hrel
        obtain ⟨o1, hw1, hfr1, hno1⟩ := HQ.out
        obtain ⟨c0, c1, c2, c3⟩ := C1.out _ hfr1
        by_cases hlt : m < e.texts.length
        · obtain ⟨x, hx⟩ : ∃ x, e.texts[m]? = some x := ⟨_, List.getElem?_eq_getElem hlt⟩
          obtain ⟨bn, on, hqn, kn⟩ := TU.out _ (OLD.out _ hfr1) m x hx
          have hx0 := HTR.out x (List.mem_of_getElem? hx)
          have ht : e.texts.take (m + 1) = e.texts.take m ++ [x] := by rw [List.take_succ_eq_append_getElem hlt, (List.getElem?_eq_some_iff.1 hx).2]
          have HT := hid ht
          have hl10 := numsB_length e.nums
          have hl34 := textsB_length (e.texts.take m) (fun t ht => HTR.out t (List.mem_of_mem_take ht))
          have htl : (e.texts.take m).length ≤ 1 := by rw [List.length_take]; omega
          have hxs : (⟨x.toArray⟩ : ByteArray).size = x.length := rfl
          have SH := hid (text_any b o1 ⟨x.toArray⟩ _ wr hw1 (by rw [hxs]; omega) (by rw [hxs]; simp only [List.length_append, List.length_cons, List.length_nil]; omega))
          have HN1 := hid (And.intro hfr1 hno1)
          have i1 : (m : Int) < (e.texts.length : Int) := by omega
          have i2 : (0 : Int) ≤ (m : Int) := by omega
          have i4 : (m : Int) + 1 ≤ 1000001 := by omega
          unfold strV at kn
          have HQN := hid hqn
          rw [hqn]
          clear hx hx0 ht hl10 hl34 htl hw1 hfr1 hno1 hqn hxs
          go_wp2_with (first
            | (go_at_call 71; (with_reducible refine SH.out.mono ?_); rintro e5 w5 ⟨rfl, hq5⟩; have HQ5 := hid (Wrote.trans HN1.out.1 HN1.out.2 hq5); clear hq5)
            | fail)
          rw [← HQN.out]
          go_roundg (gk - 1)
          case measure => omega
          case rel => exact ⟨m + 1, by omega, by omega, by go_num, hid (by rw [HT.out, textsB_snoc]; simpa using HQ5.out)⟩
        · obtain rfl : m = e.texts.length := by omega
          rw [List.take_length] at HQ
          clear hlt hm hk hw1 hfr1 hno1
          go_wp2_with fail
          go_ret
          refine ⟨rfl, Wrote.behind F1 ?_⟩
          have := HQ.out
          unfold evB
          simpa using this

end Go.Proofs.YtnmfmedoocnofaaDoor
