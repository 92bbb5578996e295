/-
  upcast's each: a list said in a version. No statement of the seat is proved here.
-/
import Derived.Test.YtgjabbhgmecbbaaDoorEvs
namespace Go.Proofs.YtgjabbhgmecbbaaDoor
open Go.RowKit

def allOK (l : List (EvP × Ev)) (v : Nat) : Bool := l.all fun p => decide ((toR p.2 v).2 = 0)
def EachPost (w : World) (l : List (EvP × Ev)) (v : Nat) (en : Ending) (w' : World) : Prop :=
  (allOK l v = true ∧ ∃ (L : List (EvP × Ev)) (q : Option Addr) (cap : Nat), en = .returned (.tuple #[.slice q L.length cap, .int .i64 0]) ∧ L.map Prod.snd = l.map (fun p => (toR p.2 v).1) ∧ LsRow w.heap.size w' (.slice q L.length cap) L ∧ Fr No w w') ∨
  (allOK l v = false ∧ ∃ f : Int, f ≠ 0 ∧ en = .returned (.tuple #[.slice none 0 0, .int .i64 f]) ∧ Fr No w w')
set_option maxHeartbeats 8000000 in
set_option maxRecDepth 100000 in
theorem each_any (l : List (EvP × Ev)) (q : Option Addr) (cap bv v : Nat) (w : World) (hl : LsAt w q l) (hkt : KT w) (hn : l.length ≤ 1000000) (hc : w.cell? ⟨bv, 0, none⟩ = some (.int .u8 v)) :
    Calls Tryd.prog 33 #[.slice q l.length cap, .func (.func 34) #[] #[.pointer (some ⟨bv, 0, none⟩)]] w (EachPost w l v) := by
  have LA := hid (fun w1 (h : Fr No w w1) => hl.fr h)
  have L2 := hid (fun s e w1 (h : EvAt w1 s e) (hf : Fr No w w1) => low2_any s e bv v w1 h (hkt.fr hf) (hf.cell0 hc))
  clear hl hkt hc
  go_enter Tryd.func33, Tryd.ntmps33
  go_wp2_with fail
  go_loopg [6, 13] l.length (fun k ov i wr => ∃ (m : Nat) (L : List (EvP × Ev)), m ≤ l.length ∧ l.length ≤ m + k ∧ i = .int .i64 m ∧ Hid (L.length = m ∧ allOK (l.take m) v = true ∧ L.map Prod.snd = (l.take m).map (fun p => (toR p.2 v).1)) ∧ LsRow w.heap.size wr ov L ∧ Fr No w wr)
  case atStart => exact ⟨0, [], Nat.zero_le _, by omega, rfl, hid ⟨rfl, rfl, rfl⟩, LsRow.nil _ _, Fr.refl _⟩
  case round =>
    rename Value => ov
    obtain ⟨m, L, hm, hk, rfl, HL, hrow, hf⟩ := hrel
    by_cases hlt : m < l.length
    · obtain ⟨p, hp⟩ : ∃ p, l[m]? = some p := ⟨_, List.getElem?_eq_getElem hlt⟩
      obtain ⟨s, e⟩ := p
      obtain ⟨hE, b, o, hq, c0, c1, c2, c3⟩ := LA.out _ hf m s e hp
      subst hq
      have i1 : (m : Int) < (l.length : Int) := by omega
      have i2 : (0 : Int) ≤ (m : Int) := by omega
      have i4 : (m : Int) + 1 ≤ 1000001 := by omega
      have ht : l.take (m + 1) = l.take m ++ [(s, e)] := by rw [List.take_succ_eq_append_getElem hlt, (List.getElem?_eq_some_iff.1 hp).2]
      have HE := hid (And.intro hp ht)
      have LE := hid (fun w1 (h : Fr No wr w1) => L2.out s e w1 (hE.fr h) (hf.trans h))
      unfold UpPost at LE
      generalize hR : toR e v = R at LE
      have HR := hid hR
      have HF1 : Fr No wr (wr.alloc (.cells #[.int .u8 e.v, .int .u8 e.kind, .slice s.qn e.nums.length s.cn, .slice s.qt e.texts.length s.ct] 25)) := (Fr.refl _).alloc _
      have HROW := hid hrow
      clear hp ht hE hR hrow
      unfold evV at LE
      by_cases hz : R.2 = 0
      · have z1 : (R.2 == 0) = true := by rw [hz]; rfl
        have z2 : (R.2 != 0) = false := by rw [hz]; rfl
        obtain ⟨i0, hi, hz0, hz1, hz2⟩ := info_parts infoEv
        have hLl := HL.out.1
        have HZ := hid hz
        have HLL := hid hLl
        clear hz hLl
        go_wp2_with (first
          | (go_at_call 34; (with_reducible refine (LE.out _ HF1).mono ?_); rintro e5 w5 ⟨s5, rfl, hn5, hf5⟩; have hown := (HROW.out.fr (((HF1.trans hf5).alloc (.cells #[.int .u8 R.1.v, .int .u8 R.1.kind, .slice s5.qn R.1.nums.length s5.cn, .slice s5.qt R.1.texts.length s5.ct] 25)).alloc (.cells #[.int .u8 R.1.v, .int .u8 R.1.kind, .slice s5.qn R.1.nums.length s5.cn, .slice s5.qt R.1.texts.length s5.ct] 25))).own)
          | (at_builtin; refine wpList_append_fr _ rfl _ _ 26 rfl 25 i0 (.agg #[.int .u8 0, .int .u8 0, .slice none 0 0, .slice none 0 0]) 4 56 Tryd.underlying26 hi hz0 hz1 hz2 rfl (by decide) _ _ _ rfl hown ⟨w5.heap.size + 1, 0, none⟩ 1 1 (evC (s5, R.1)) rfl rfl ?c1 ?c2 ?c3 ?c4 ?_))
        case c1 => intro j u hu; have h := cells_new (w5.alloc (.cells #[.int .u8 R.1.v, .int .u8 R.1.kind, .slice s5.qn R.1.nums.length s5.cn, .slice s5.qt R.1.texts.length s5.ct] 25)) (evC (s5, R.1)) 25 j u hu; simp only [World.size_alloc] at h; exact h
        case c2 => intro u hu; simp [evC] at hu; rcases hu with rfl | rfl | rfl | rfl <;> rfl
        case c3 => have := HLL.out; unfold maxLen; omega
        case c4 => have := HLL.out; omega
        intro v' w6 ho hf6 hn6
        have hA : Fr No w5 ((w5.alloc (.cells #[.int .u8 R.1.v, .int .u8 R.1.kind, .slice s5.qn R.1.nums.length s5.cn, .slice s5.qt R.1.texts.length s5.ct] 25)).alloc (.cells #[.int .u8 R.1.v, .int .u8 R.1.kind, .slice s5.qn R.1.nums.length s5.cn, .slice s5.qt R.1.texts.length s5.ct] 25)) := ((Fr.refl w5).alloc _).alloc _
        have hfW := (HF1.trans hf5).trans hA
        have hnew := (hn5.fr hA).onlyS hown hf6
        have hle1 : wr.heap.size ≤ (wr.alloc (.cells #[.int .u8 e.v, .int .u8 e.kind, .slice s.qn e.nums.length s.cn, .slice s.qt e.texts.length s.ct] 25)).heap.size := HF1.size
        have hall : ∀ x, x ∈ L ++ [(s5, R.1)] → EvNew w.heap.size w6 x.1 x.2 := fun x hx => by
          rcases List.mem_append.1 hx with hx | hx
          · exact ((HROW.out.evs x hx).fr hfW).onlyS hown hf6
          · obtain rfl : x = (s5, R.1) := by simpa using hx
            exact hnew.mono (Nat.le_trans hf.size hle1)
        have hrow := HROW.out.more (w4 := (w5.alloc (.cells #[.int .u8 R.1.v, .int .u8 R.1.kind, .slice s5.qn R.1.nums.length s5.cn, .slice s5.qt R.1.texts.length s5.ct] 25)).alloc (.cells #[.int .u8 R.1.v, .int .u8 R.1.kind, .slice s5.qn R.1.nums.length s5.cn, .slice s5.qt R.1.texts.length s5.ct] 25)) (p := (s5, R.1)) (Nat.le_trans hf.size hfW.size) hall ho (by simpa using hn6) hnew hle1
        have HNR := hid hrow
        have HFE := hid ((hf.trans hfW).newOnlyS (fun g hg => HROW.out.new g hg) hf6)
        have HOK : Hid ((L ++ [(s5, R.1)]).length = m + 1 ∧ allOK (l.take (m + 1)) v = true ∧ (L ++ [(s5, R.1)]).map Prod.snd = (l.take (m + 1)).map (fun p => (toR p.2 v).1)) := hid (by
          obtain ⟨h1, h2, h3⟩ := HL.out
          rw [HE.out.2]
          refine ⟨by simp [h1], ?_, by simp [h3, HR.out]⟩
          unfold allOK at h2 ⊢
          rw [List.all_append, h2]
          simp [HR.out, HZ.out])
        clear ho hf6 hn6 hown hA hfW hnew hall hrow
        go_wp2_with fail
        go_roundg (gk - 1)
        case measure => omega
        case rel => exact ⟨m + 1, _, by omega, by omega, by go_num, HOK, HNR.out, HFE.out⟩
      · have z1 : (R.2 == 0) = false := by rw [beq_eq_false_iff_ne]; exact hz
        have z2 : (R.2 != 0) = true := by rw [bne, z1]; rfl
        have HBAD : Hid (allOK l v = false ∧ R.2 ≠ 0) := hid ⟨by
          unfold allOK
          rw [List.all_eq_false]
          exact ⟨(s, e), List.mem_of_getElem? HE.out.1, by simp [HR.out, hz]⟩, hz⟩
        clear hz
        go_wp2_with (first
          | (go_at_call 34; (with_reducible refine (LE.out _ HF1).mono ?_); rintro e5 w5 ⟨s5, rfl, hn5, hf5⟩))
        go_ret2
        exact .inr ⟨HBAD.out.1, R.2, HBAD.out.2, rfl, (hf.trans (HF1.trans hf5)).alloc _⟩
    · obtain rfl : m = l.length := by omega
      rw [List.take_length] at HL
      obtain ⟨qo, co, rfl⟩ := hrow.shape
      have HROW := hid hrow
      clear hrow
      go_wp2_with fail
      go_ret2
      exact .inl ⟨HL.out.2.1, L, qo, co, rfl, HL.out.2.2, HROW.out, hf⟩
end Go.Proofs.YtgjabbhgmecbbaaDoor
