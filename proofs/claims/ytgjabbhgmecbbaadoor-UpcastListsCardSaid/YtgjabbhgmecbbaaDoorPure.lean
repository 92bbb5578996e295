/-
  Plain words on bytes: what wire's numbers and texts are as lists of bytes. No program in sight. No conditions.
-/
import Derived.Test.YtgjabbhgmecbbaaDoorBase
namespace Go.Proofs.YtgjabbhgmecbbaaDoor
open Go.RowKit

/-- A byte as a value. -/
def byteV (c : UInt8) : Value := .int .u8 c.toNat
def byteN (n : Nat) : UInt8 := UInt8.ofNat n
theorem byteV_ofNat (n : Nat) : byteV (byteN n) = .int .u8 ((n % 256 : Nat) : Int) := by
  unfold byteV byteN; rw [UInt8.toNat_ofNat']
theorem byteN_toNat (n : Nat) : (byteN n).toNat = n % 256 := UInt8.toNat_ofNat'
theorem byteN_self (c : UInt8) : byteN c.toNat = c := UInt8.ofNat_toNat
theorem byteV_eq (n : Int) (m : Nat) (h : n = ((m % 256 : Nat) : Int)) : Value.int .u8 n = byteV (byteN m) := by rw [byteV_ofNat, h]

/-- Bytes as a text. -/
def strV (l : List UInt8) : Value := .string ⟨l.toArray⟩
theorem push_bytes (l : List UInt8) : ∀ acc : List UInt8, (l.map (fun c => (c.toNat : Int))).foldl (fun (r : ByteArray) (n : Int) => r.push (UInt8.ofNat n.toNat)) ⟨acc.toArray⟩ = ⟨(acc ++ l).toArray⟩ := by
  induction l with
  | nil => intro acc; simp
  | cons c l ih =>
    intro acc
    simp only [List.map_cons, List.foldl_cons]
    have e : (ByteArray.mk acc.toArray).push (UInt8.ofNat ((c.toNat : Int)).toNat) = ByteArray.mk (acc ++ [c]).toArray := by
      simp [ByteArray.push, UInt8.ofNat_toNat]
    rw [e, ih]
    simp
/-- What owned bytes become as a text. -/
theorem run_text_of_own {P : Program} (w : World) (src dst e : TypeId) (hs : P.underlying src = some (.slice e)) (he : P.underlying e = some (.int .u8)) (hd : P.underlying dst = some .string)
    (v : Value) (n : Nat) (l : List UInt8) (hown : Own w e 1 v n (l.map byteV)) : (convert src dst v).run P w = .ok (strV l) w := by
  rcases hown.2 with ⟨rfl, rfl⟩ | ⟨g, cap, cur, rfl, _, hg, _⟩
  · have : l = [] := by have := hown.1; simpa using this
    subst this
    rw [run_convert_bytes_string w src dst e _ _ _ hs he hd]
    rfl
  · rw [run_convert_bytes_string w src dst e _ _ _ hs he hd]
    have hl : n = l.length := by have := hown.1; simpa using this.symm
    have hload := run_loadCells_list (P := P) w ⟨g, 0, none⟩ (l.map byteV) (hown.cells (g := g) rfl)
    rw [run_bytesToString w ⟨g, 0, none⟩ n cap (l.map (fun c => (c.toNat : Int))) (by rw [hl, List.map_map]; simp only [List.length_map] at hload; exact hload)]
    have := push_bytes l []
    rw [show ByteArray.empty = ⟨([] : List UInt8).toArray⟩ from rfl, this]
    rfl
theorem byteCells_eq (l : List UInt8) : byteCells ⟨l.toArray⟩ = l.map byteV := by simp [byteCells, byteV]
theorem byteCells_map (s : ByteArray) : byteCells s = s.data.toList.map byteV := rfl

/-- A fixed number of k bytes, the highest first. -/
def fixedB : Nat → Nat → List UInt8
  | 0, _ => []
  | k + 1, n => fixedB k (n / 256) ++ [byteN n]
theorem fixedB_length (k n : Nat) : (fixedB k n).length = k := by
  induction k generalizing n with
  | zero => rfl
  | succ k ih => simp [fixedB, ih]
theorem fixedB_one (n : Nat) : fixedB 1 n = [byteN n] := rfl
theorem fixedB_two (n : Nat) : fixedB 2 n = [byteN (n / 256), byteN n] := rfl
theorem fixedB_four (n : Nat) : fixedB 4 n = [byteN (n / 16777216), byteN (n / 65536), byteN (n / 256), byteN n] := by
  simp [fixedB, Nat.div_div_eq_div_mul]
theorem fixedB_eight (n : Nat) : fixedB 8 n = [byteN (n / 72057594037927936), byteN (n / 281474976710656), byteN (n / 1099511627776), byteN (n / 4294967296), byteN (n / 16777216), byteN (n / 65536), byteN (n / 256), byteN n] := by
  simp [fixedB, Nat.div_div_eq_div_mul]

/-- A short number: groups of seven bits, the least first; k: no more than so many. -/
def shortF : Nat → Nat → List UInt8
  | 0, _ => []
  | k + 1, n => if n < 128 then [byteN n] else byteN (n % 128 + 128) :: shortF k (n / 128)
def shortB (n : Nat) : List UInt8 := shortF 10 n

theorem shortF_length_le (k n : Nat) : (shortF k n).length ≤ k := by
  induction k generalizing n with
  | zero => simp [shortF]
  | succ k ih =>
    simp only [shortF]
    split
    · simp
    · simp; exact ih _
theorem shortB_length_le (n : Nat) : (shortB n).length ≤ 10 := shortF_length_le 10 n
theorem shortF_pos (k n : Nat) : 1 ≤ (shortF (k + 1) n).length := by
  simp only [shortF]; split <;> simp
theorem shortB_pos (n : Nat) : 1 ≤ (shortB n).length := shortF_pos 9 n

theorem or128 (m : Nat) : bits .or .u8 ((m : Int) % 256) 128 = ((m % 128 + 128 : Nat) : Int) := by
  have h : ∀ x, x < 256 → x ||| 128 = x % 128 + 128 := by decide +kernel
  have e : ((m : Int) % 256) = ((m % 256 : Nat) : Int) := by simp
  rw [e, show (128 : Int) = ((128 : Nat) : Int) from rfl, u8_or_nat _ _ (Nat.mod_lt _ (by decide)) (by decide), h _ (Nat.mod_lt _ (by decide))]
  congr 2
  omega
theorem shortF_step (j m : Nat) (h : 128 ≤ m) : shortF (j + 1) m = byteN (m % 128 + 128) :: shortF j (m / 128) := by
  rw [shortF, if_neg (by omega)]
theorem shortF_last (j m : Nat) (h : ¬ 128 ≤ m) : shortF (j + 1) m = [byteN m] := by
  rw [shortF, if_pos (by omega)]

/-- A text: its length, its bytes. -/
def textB (s : List UInt8) : List UInt8 := shortB s.length ++ s
/-- Four bytes, the lowest first. -/
def lowB (n : Nat) : List UInt8 := [byteN n, byteN (n / 256), byteN (n / 65536), byteN (n / 16777216)]

/-- The bytes of a number of four, turned round. -/
def revN (n : Nat) : Nat := n % 256 * 16777216 + n / 256 % 256 * 65536 + n / 65536 % 256 * 256 + n / 16777216 % 256

theorem q1 (a b c d : Nat) (hb : b < 256) (hc : c < 256) (hd : d < 256) : (a * 16777216 + b * 65536 + c * 256 + d) / 16777216 = a := by omega
theorem q2 (a b c d : Nat) (hb : b < 256) (hc : c < 256) (hd : d < 256) : (a * 16777216 + b * 65536 + c * 256 + d) / 65536 % 256 = b := by omega
theorem q3 (a b c d : Nat) (hc : c < 256) (hd : d < 256) : (a * 16777216 + b * 65536 + c * 256 + d) / 256 % 256 = c := by omega
theorem q4 (a b c d : Nat) (hd : d < 256) : (a * 16777216 + b * 65536 + c * 256 + d) % 256 = d := by omega
theorem q5 (x y : Nat) (hy : y < 65536) : (65536 * x + y) / 65536 = x := by omega
theorem q6 (x y : Nat) (hy : y < 65536) : (65536 * x + y) * 65536 % 4294967296 = 65536 * y := by omega
theorem and_split (a b c d : Nat) (hb : b < 65536) (hd : d < 65536) : (65536 * a + b) &&& (65536 * c + d) = 65536 * (a &&& c) + (b &&& d) := by
  have hbd : b &&& d < 2 ^ 16 := Nat.and_lt_two_pow b hd
  have hb' : b < 2 ^ 16 := hb
  have hd' : d < 2 ^ 16 := hd
  apply Nat.eq_of_testBit_eq
  intro i
  rw [Nat.testBit_and, show (65536 : Nat) = 2 ^ 16 from rfl, Nat.testBit_two_pow_mul_add _ hb', Nat.testBit_two_pow_mul_add _ hd', Nat.testBit_two_pow_mul_add _ hbd]
  split <;> simp
theorem or_add (a b k : Nat) (hb : b < 2 ^ k) : b ||| (2 ^ k * a) = 2 ^ k * a + b := by
  rw [Nat.or_comm, Nat.two_pow_add_eq_or_of_lt hb]
theorem or_add' (a b k : Nat) (hb : b < 2 ^ k) : (2 ^ k * a) ||| b = 2 ^ k * a + b := by
  rw [Nat.two_pow_add_eq_or_of_lt hb]
theorem and_mask (x : Nat) : x &&& 16711935 = 65536 * (x / 65536 % 256) + x % 256 := by
  have h := and_split (x / 65536) (x % 65536) 255 255 (Nat.mod_lt _ (by decide)) (by decide)
  rw [Nat.div_add_mod] at h
  rw [show (16711935 : Nat) = 65536 * 255 + 255 from rfl, h]
  rw [show (255 : Nat) = 2 ^ 8 - 1 from rfl, Nat.and_two_pow_sub_one_eq_mod, Nat.and_two_pow_sub_one_eq_mod]
  omega
theorem or_split (a b c d : Nat) (hb : b < 65536) (hd : d < 65536) : (65536 * a + b) ||| (65536 * c + d) = 65536 * (a ||| c) + (b ||| d) := by
  have hbd : b ||| d < 2 ^ 16 := Nat.or_lt_two_pow hb hd
  have hb' : b < 2 ^ 16 := hb
  have hd' : d < 2 ^ 16 := hd
  apply Nat.eq_of_testBit_eq
  intro i
  rw [Nat.testBit_or, show (65536 : Nat) = 2 ^ 16 from rfl, Nat.testBit_two_pow_mul_add _ hb', Nat.testBit_two_pow_mul_add _ hd', Nat.testBit_two_pow_mul_add _ hbd]
  split <;> simp
theorem rev_nat (n : Nat) :
    ((((n / 256) &&& 16711935) ||| ((n &&& 16711935) * 256 % 4294967296)) / 65536) ||| ((((n / 256) &&& 16711935) ||| ((n &&& 16711935) * 256 % 4294967296)) * 65536 % 4294967296) = revN n := by
  rw [and_mask, and_mask]
  have e1 : (65536 * (n / 65536 % 256) + n % 256) * 256 % 4294967296 = 65536 * (256 * (n / 65536 % 256)) + 256 * (n % 256) := by omega
  rw [e1, or_split _ _ _ _ (by omega) (by omega)]
  have o1 : n / 256 / 65536 % 256 ||| 256 * (n / 65536 % 256) = 256 * (n / 65536 % 256) + n / 256 / 65536 % 256 := or_add _ _ 8 (Nat.mod_lt _ (by decide))
  have o2 : n / 256 % 256 ||| 256 * (n % 256) = 256 * (n % 256) + n / 256 % 256 := or_add _ _ 8 (Nat.mod_lt _ (by decide))
  rw [o1, o2, q5 _ _ (by omega), q6 _ _ (by omega)]
  have o3 := or_add (256 * (n % 256) + n / 256 % 256) (256 * (n / 65536 % 256) + n / 256 / 65536 % 256) 16 (by omega)
  rw [show (65536 : Nat) = 2 ^ 16 from rfl] at *
  rw [o3]
  unfold revN
  have e5 : n / 256 / 2 ^ 16 % 256 = n / 16777216 % 256 := by rw [Nat.div_div_eq_div_mul]
  rw [e5]
  omega
theorem rev_bits (n : Nat) (hn : n ≤ 4294967295) :
    bits .or .u32 (bits .or .u32 (bits .and .u32 ((n : Int) / 256) 16711935) (bits .and .u32 (n : Int) 16711935 * 256 % 4294967296) / 65536)
      (bits .or .u32 (bits .and .u32 ((n : Int) / 256) 16711935) (bits .and .u32 (n : Int) 16711935 * 256 % 4294967296) * 65536 % 4294967296) = (revN n : Int) := by
  have hand : ∀ a : Nat, a < 4294967296 → bits .and .u32 (a : Int) 16711935 = ((a &&& 16711935 : Nat) : Int) := fun a ha => u32_and_nat a 16711935 ha (by decide)
  have e1 : ((n : Int) / 256) = ((n / 256 : Nat) : Int) := by simp
  rw [e1, hand _ (by omega), hand _ (by omega)]
  have e2 : (((n &&& 16711935 : Nat) : Int) * 256 % 4294967296) = (((n &&& 16711935) * 256 % 4294967296 : Nat) : Int) := by simp
  have l1 : n / 256 &&& 16711935 < 4294967296 := Nat.lt_of_le_of_lt Nat.and_le_right (by decide)
  rw [e2, u32_or_nat _ _ l1 (Nat.mod_lt _ (by decide))]
  have l2 : (n / 256 &&& 16711935) ||| ((n &&& 16711935) * 256 % 4294967296) < 4294967296 := Nat.or_lt_two_pow (n := 32) l1 (Nat.mod_lt _ (by decide))
  have hrev := rev_nat n
  generalize (n / 256 &&& 16711935) ||| ((n &&& 16711935) * 256 % 4294967296) = c at *
  have e3 : ((c : Int) / 65536) = ((c / 65536 : Nat) : Int) := by simp
  have e4 : ((c : Int) * 65536 % 4294967296) = ((c * 65536 % 4294967296 : Nat) : Int) := by simp
  rw [e3, e4, u32_or_nat _ _ (by omega) (Nat.mod_lt _ (by decide)), hrev]
theorem revN_le (n : Nat) : revN n ≤ 4294967295 := by unfold revN; omega
theorem fixedB_rev (n : Nat) : fixedB 4 (revN n) = lowB n := by
  rw [fixedB_four]
  unfold lowB revN
  have e : ∀ a b : Nat, a % 256 = b % 256 → byteN a = byteN b := fun a b h => by
    apply UInt8.toNat_inj.1; rw [byteN_toNat, byteN_toNat, h]
  have h0 := Nat.mod_lt n (show 0 < 256 by decide)
  have h1 := Nat.mod_lt (n / 256) (show 0 < 256 by decide)
  have h2 := Nat.mod_lt (n / 65536) (show 0 < 256 by decide)
  have h3 := Nat.mod_lt (n / 16777216) (show 0 < 256 by decide)
  rw [e _ n (by rw [q1 _ _ _ _ h1 h2 h3, Nat.mod_mod]), e _ (n / 256) (q2 _ _ _ _ h1 h2 h3), e _ (n / 65536) (q3 _ _ _ _ h2 h3), e _ (n / 16777216) (q4 _ _ _ _ h3)]

end Go.Proofs.YtgjabbhgmecbbaaDoor
