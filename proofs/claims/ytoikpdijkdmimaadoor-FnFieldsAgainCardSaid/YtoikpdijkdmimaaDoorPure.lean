/-
  The plain functions that the program's first chapters compute, and plain facts on them: numbers, bytes, words, sums. No program is in sight here.
-/
import Derived.WalkKit
namespace Go.Proofs.YtoikpdijkdmimaaDoor.P

/-- byte(v) of a number from 0 to 255 -/
def by8 (n : Int) : UInt8 := UInt8.ofNat n.toNat
def bs (l : List UInt8) : ByteArray := ⟨l.toArray⟩
/-- the bytes of a string -/
def L (s : ByteArray) : List UInt8 := s.data.toList
/-- the byte at a place, 0 beyond the end -/
def at8n (s : ByteArray) (k : Nat) : Nat := ((L s)[k]?.getD 0).toNat
def at8 (s : ByteArray) (k : Nat) : Int := (at8n s k : Int)

theorem L_bs (l : List UInt8) : L (bs l) = l := by simp [L, bs]
theorem L_append (a b : ByteArray) : L (a ++ b) = L a ++ L b := by
  unfold L
  rw [ByteArray.data_append, Array.toList_append]
theorem L_extract (s : ByteArray) (a b : Nat) : L (s.extract a b) = ((L s).drop a).take (b - a) := by simp [L, ByteArray.data_extract]
theorem L_length (s : ByteArray) : (L s).length = s.size := by
  unfold L
  rw [Array.length_toList]
  rfl
theorem L_ext {a b : ByteArray} (h : L a = L b) : a = b := by
  apply ByteArray.ext
  simpa [L] using h
theorem bs_L (s : ByteArray) : bs (L s) = s := L_ext (by rw [L_bs])
theorem bs_append (a b : List UInt8) : bs a ++ bs b = bs (a ++ b) := L_ext (by rw [L_append, L_bs, L_bs, L_bs])
@[go_sem] theorem bs_size (l : List UInt8) : (bs l).size = l.length := by rw [← L_length, L_bs]
theorem toList_L (s : ByteArray) : s.toList = L s := by rw [ByteArray.toList_eq]; rfl
theorem toList_bs (l : List UInt8) : (bs l).toList = l := by rw [toList_L, L_bs]
theorem toList_inj {a b : ByteArray} : a.toList = b.toList ↔ a = b := by
  rw [toList_L, toList_L]
  exact ⟨L_ext, fun h => by rw [h]⟩

theorem at8n_eq (s : ByteArray) (k : Nat) (h : k < s.size) : (s[k]'h).toNat = at8n s k := by
  unfold at8n L
  have h2 : k < s.data.toList.length := by rw [Array.length_toList]; exact h
  rw [List.getElem?_eq_getElem h2]
  rfl
theorem at8_eq (s : ByteArray) (k : Nat) (h : k < s.size) : ((s[k]'h).toNat : Int) = at8 s k := by
  unfold at8
  rw [at8n_eq]
theorem at8n_lt (s : ByteArray) (k : Nat) : at8n s k < 256 := by
  unfold at8n
  exact ((L s)[k]?.getD 0).toNat_lt
theorem at8_range (s : ByteArray) (k : Nat) : 0 ≤ at8 s k ∧ at8 s k ≤ 255 := by
  unfold at8
  have := at8n_lt s k
  omega
theorem at8_beyond (s : ByteArray) (k : Nat) (h : s.size ≤ k) : at8 s k = 0 := by
  unfold at8 at8n
  rw [List.getElem?_eq_none (by rw [L_length]; exact h)]
  rfl

theorem by8_mod (n : Int) : by8 (n % 256) = by8 n ∨ n < 0 := by
  by_cases h : n < 0
  · exact .inr h
  · left
    unfold by8
    apply UInt8.toNat_inj.1
    simp
    omega
theorem by8_mod' (n : Int) (h : 0 ≤ n) : by8 (n % 256) = by8 n := (by8_mod n).resolve_right (by omega)
theorem by8_toNat (n : Int) (h : 0 ≤ n ∧ n ≤ 255) : ((by8 n).toNat : Int) = n := by
  unfold by8
  simp
  omega
theorem by8_toNat' (n : Int) (h : 0 ≤ n) : ((by8 n).toNat : Int) = n % 256 := by
  unfold by8
  simp
  omega

/-! ### bits -/
theorem bits_or_nat (a b : Nat) (ha : a < 9223372036854775808) (hb : b < 9223372036854775808) : bits .or .i64 a b = ((a ||| b : Nat) : Int) := by
  have hab : a ||| b < 9223372036854775808 := Nat.or_lt_two_pow (n := 63) ha hb
  show IntKind.i64.wrap ((BitVec.ofInt 64 (a : Int) ||| BitVec.ofInt 64 (b : Int)).toNat : Int) = _
  have e1 : BitVec.ofInt 64 (a : Int) = BitVec.ofNat 64 a := by simp
  have e2 : BitVec.ofInt 64 (b : Int) = BitVec.ofNat 64 b := by simp
  rw [e1, e2]
  have e3 : (BitVec.ofNat 64 a ||| BitVec.ofNat 64 b).toNat = a ||| b := by
    rw [BitVec.toNat_or, BitVec.toNat_ofNat, BitVec.toNat_ofNat, Nat.mod_eq_of_lt (by omega), Nat.mod_eq_of_lt (by omega)]
  rw [e3]
  exact IntWalk.i64_in _ (by omega)
theorem bits_and_nat (a b : Nat) (ha : a < 9223372036854775808) (hb : b < 9223372036854775808) : bits .and .i64 a b = ((a &&& b : Nat) : Int) := by
  have hab : a &&& b < 9223372036854775808 := Nat.lt_of_le_of_lt Nat.and_le_left ha
  show IntKind.i64.wrap ((BitVec.ofInt 64 (a : Int) &&& BitVec.ofInt 64 (b : Int)).toNat : Int) = _
  have e1 : BitVec.ofInt 64 (a : Int) = BitVec.ofNat 64 a := by simp
  have e2 : BitVec.ofInt 64 (b : Int) = BitVec.ofNat 64 b := by simp
  rw [e1, e2]
  have e3 : (BitVec.ofNat 64 a &&& BitVec.ofNat 64 b).toNat = a &&& b := by
    rw [BitVec.toNat_and, BitVec.toNat_ofNat, BitVec.toNat_ofNat, Nat.mod_eq_of_lt (by omega), Nat.mod_eq_of_lt (by omega)]
  rw [e3]
  exact IntWalk.i64_in _ (by omega)
theorem bits_xor_nat (a b : Nat) (ha : a < 9223372036854775808) (hb : b < 9223372036854775808) : bits .xor .i64 a b = ((a ^^^ b : Nat) : Int) := by
  have hab : a ^^^ b < 9223372036854775808 := Nat.xor_lt_two_pow (n := 63) ha hb
  show IntKind.i64.wrap ((BitVec.ofInt 64 (a : Int) ^^^ BitVec.ofInt 64 (b : Int)).toNat : Int) = _
  have e1 : BitVec.ofInt 64 (a : Int) = BitVec.ofNat 64 a := by simp
  have e2 : BitVec.ofInt 64 (b : Int) = BitVec.ofNat 64 b := by simp
  rw [e1, e2]
  have e3 : (BitVec.ofNat 64 a ^^^ BitVec.ofNat 64 b).toNat = a ^^^ b := by
    rw [BitVec.toNat_xor, BitVec.toNat_ofNat, BitVec.toNat_ofNat, Nat.mod_eq_of_lt (by omega), Nat.mod_eq_of_lt (by omega)]
  rw [e3]
  exact IntWalk.i64_in _ (by omega)
theorem bits_and_u32 (a b : Nat) (ha : a < 4294967296) (hb : b < 4294967296) : bits .and .u32 a b = ((a &&& b : Nat) : Int) := by
  have hab : a &&& b < 4294967296 := Nat.lt_of_le_of_lt Nat.and_le_left ha
  show IntKind.u32.wrap ((BitVec.ofInt 32 (a : Int) &&& BitVec.ofInt 32 (b : Int)).toNat : Int) = _
  have e1 : BitVec.ofInt 32 (a : Int) = BitVec.ofNat 32 a := by simp
  have e2 : BitVec.ofInt 32 (b : Int) = BitVec.ofNat 32 b := by simp
  rw [e1, e2]
  have e3 : (BitVec.ofNat 32 a &&& BitVec.ofNat 32 b).toNat = a &&& b := by
    rw [BitVec.toNat_and, BitVec.toNat_ofNat, BitVec.toNat_ofNat, Nat.mod_eq_of_lt (by omega), Nat.mod_eq_of_lt (by omega)]
  rw [e3]
  exact IntWalk.u32_in _ (by omega)
theorem bits_xor_u32 (a b : Nat) (ha : a < 4294967296) (hb : b < 4294967296) : bits .xor .u32 a b = ((a ^^^ b : Nat) : Int) := by
  have hab : a ^^^ b < 4294967296 := Nat.xor_lt_two_pow (n := 32) ha hb
  show IntKind.u32.wrap ((BitVec.ofInt 32 (a : Int) ^^^ BitVec.ofInt 32 (b : Int)).toNat : Int) = _
  have e1 : BitVec.ofInt 32 (a : Int) = BitVec.ofNat 32 a := by simp
  have e2 : BitVec.ofInt 32 (b : Int) = BitVec.ofNat 32 b := by simp
  rw [e1, e2]
  have e3 : (BitVec.ofNat 32 a ^^^ BitVec.ofNat 32 b).toNat = a ^^^ b := by
    rw [BitVec.toNat_xor, BitVec.toNat_ofNat, BitVec.toNat_ofNat, Nat.mod_eq_of_lt (by omega), Nat.mod_eq_of_lt (by omega)]
  rw [e3]
  exact IntWalk.u32_in _ (by omega)

theorem ones_xor (c : Nat) (h : c < 4294967296) : 4294967295 ^^^ c = 4294967295 - c := by
  have h1 : (BitVec.allOnes 32 ^^^ BitVec.ofNat 32 c).toNat = 4294967295 ^^^ c := by
    rw [BitVec.toNat_xor, BitVec.toNat_ofNat, BitVec.toNat_allOnes, Nat.mod_eq_of_lt (by omega)]
  rw [← h1, BitVec.allOnes_xor, BitVec.toNat_not, BitVec.toNat_ofNat, Nat.mod_eq_of_lt (by omega)]
theorem ones_xor_u32 (c : Nat) (h : c < 4294967296) : RowKit.wrap64 (bits .xor .u32 IntKind.u32.max (c : Int)) = 4294967295 - (c : Int) := by
  have e : IntKind.u32.max = ((4294967295 : Nat) : Int) := rfl
  rw [e, bits_xor_u32 _ _ (by omega) h, ones_xor c h]
  rw [IntWalk.wrap64_in _ (by omega)]
  omega
theorem nat_or_low (i a b : Nat) (hb : b < 2 ^ i) : 2 ^ i * a ||| b = 2 ^ i * a + b := (Nat.two_pow_add_eq_or_of_lt hb a).symm
theorem or_low8 (a b : Int) (ha : 0 ≤ a ∧ a ≤ 9007199254740991) (hb : 0 ≤ b ∧ b ≤ 255) : bits .or .i64 (a * 256) b = a * 256 + b := by
  obtain ⟨x, rfl⟩ := Int.eq_ofNat_of_zero_le ha.1
  obtain ⟨y, rfl⟩ := Int.eq_ofNat_of_zero_le hb.1
  have e : ((x : Int) * 256) = ((2 ^ 8 * x : Nat) : Int) := by omega
  rw [e, bits_or_nat _ _ (by omega) (by omega), nat_or_low 8 x y (by omega)]
  omega
theorem or_low16 (a b : Int) (ha : 0 ≤ a ∧ a ≤ 1099511627775) (hb : 0 ≤ b ∧ b ≤ 65535) : bits .or .i64 (a * 65536) b = a * 65536 + b := by
  obtain ⟨x, rfl⟩ := Int.eq_ofNat_of_zero_le ha.1
  obtain ⟨y, rfl⟩ := Int.eq_ofNat_of_zero_le hb.1
  have e : ((x : Int) * 65536) = ((2 ^ 16 * x : Nat) : Int) := by omega
  rw [e, bits_or_nat _ _ (by omega) (by omega), nat_or_low 16 x y (by omega)]
  omega
theorem or_low32 (a b : Int) (ha : 0 ≤ a ∧ a ≤ 65535) (hb : 0 ≤ b ∧ b ≤ 4294967295) : bits .or .i64 (a * 4294967296) b = a * 4294967296 + b := by
  obtain ⟨x, rfl⟩ := Int.eq_ofNat_of_zero_le ha.1
  obtain ⟨y, rfl⟩ := Int.eq_ofNat_of_zero_le hb.1
  have e : ((x : Int) * 4294967296) = ((2 ^ 32 * x : Nat) : Int) := by omega
  rw [e, bits_or_nat _ _ (by omega) (by omega), nat_or_low 32 x y (by omega)]
  omega
theorem and_mask (n : Nat) (a : Int) (ha : 0 ≤ a ∧ a ≤ 9223372036854775807) (hn : 2 ^ n - 1 < 9223372036854775808) : bits .and .i64 a ((2 ^ n - 1 : Nat) : Int) = a % (2 ^ n : Nat) := by
  obtain ⟨x, rfl⟩ := Int.eq_ofNat_of_zero_le ha.1
  rw [bits_and_nat _ _ (by omega) hn, Nat.and_two_pow_sub_one_eq_mod]
  omega
theorem and_mask32 (a : Int) (ha : 0 ≤ a ∧ a ≤ 9223372036854775807) : bits .and .i64 a 4294967295 = a % 4294967296 := and_mask 32 a ha (by decide)

theorem or4 (a b c d : Int) (ha : 0 ≤ a ∧ a ≤ 255) (hb : 0 ≤ b ∧ b ≤ 255) (hc : 0 ≤ c ∧ c ≤ 255) (hd : 0 ≤ d ∧ d ≤ 255) :
    bits .or .i64 (bits .or .i64 (bits .or .i64 (a * 16777216) (b * 65536)) (c * 256)) d = a * 16777216 + b * 65536 + c * 256 + d := by
  have e1 : a * 16777216 = (a * 256) * 65536 := by omega
  have e2 : bits .or .i64 ((a * 256) * 65536) (b * 65536) = (a * 256) * 65536 + b * 65536 := by
    obtain ⟨x, rfl⟩ := Int.eq_ofNat_of_zero_le ha.1
    obtain ⟨y, rfl⟩ := Int.eq_ofNat_of_zero_le hb.1
    have f1 : ((x : Int) * 256 * 65536) = ((2 ^ 24 * x : Nat) : Int) := by omega
    have f2 : ((y : Int) * 65536) = ((y * 65536 : Nat) : Int) := by omega
    rw [f1, f2, bits_or_nat _ _ (by omega) (by omega), nat_or_low 24 x _ (by omega)]
    omega
  have e3 : bits .or .i64 (a * 256 * 65536 + b * 65536) (c * 256) = a * 256 * 65536 + b * 65536 + c * 256 := by
    have g : a * 256 * 65536 + b * 65536 = (a * 256 + b) * 65536 := by omega
    rw [g, or_low16 _ _ (by omega) (by omega)]
  have e4 : a * 256 * 65536 + b * 65536 + c * 256 = (a * 65536 + b * 256 + c) * 256 := by omega
  rw [e1, e2, e3, e4, or_low8 _ _ (by omega) (by omega)]

/-! ### words -/
def word16 (v : Int) : ByteArray := if 0 ≤ v ∧ v ≤ 65535 then bs [by8 (v / 256), by8 v] else bs []
def word32 (v : Int) : ByteArray := if 0 ≤ v ∧ v ≤ 4294967295 then bs [by8 (v / 16777216), by8 (v / 65536), by8 (v / 256), by8 v] else bs []
def get16 (s : ByteArray) (i : Int) : Int := if 0 ≤ i ∧ i + 2 ≤ s.size then at8 s i.toNat * 256 + at8 s (i.toNat + 1) else -1
def get32 (s : ByteArray) (i : Int) : Int := if 0 ≤ i ∧ i + 4 ≤ s.size then at8 s i.toNat * 16777216 + at8 s (i.toNat + 1) * 65536 + at8 s (i.toNat + 2) * 256 + at8 s (i.toNat + 3) else -1
def putBytes (s : ByteArray) (i : Int) (p : ByteArray) : ByteArray := if 0 ≤ i ∧ i + p.size ≤ s.size then s.extract 0 i.toNat ++ p ++ s.extract (i.toNat + p.size) s.size else s

theorem word16_size_le (v : Int) : (word16 v).size ≤ 2 := by unfold word16; split <;> simp [bs_size]
theorem word32_size_le (v : Int) : (word32 v).size ≤ 4 := by unfold word32; split <;> simp [bs_size]
theorem word16_size (v : Int) (h : 0 ≤ v ∧ v ≤ 65535) : (word16 v).size = 2 := by unfold word16; rw [if_pos h]; simp [bs_size]
theorem word32_size (v : Int) (h : 0 ≤ v ∧ v ≤ 4294967295) : (word32 v).size = 4 := by unfold word32; rw [if_pos h]; simp [bs_size]
theorem get16_range (s : ByteArray) (i : Int) : -1 ≤ get16 s i ∧ get16 s i ≤ 65535 := by
  unfold get16
  have h1 := at8_range s i.toNat
  have h2 := at8_range s (i.toNat + 1)
  split <;> omega
theorem get32_range (s : ByteArray) (i : Int) : -1 ≤ get32 s i ∧ get32 s i ≤ 4294967295 := by
  unfold get32
  have h1 := at8_range s i.toNat
  have h2 := at8_range s (i.toNat + 1)
  have h3 := at8_range s (i.toNat + 2)
  have h4 := at8_range s (i.toNat + 3)
  split <;> omega
theorem get32_split (s : ByteArray) (k : Nat) (h : k + 4 ≤ s.size) : get16 s (k : Int) * 65536 + get16 s ((k : Int) + 2) = get32 s (k : Int) := by
  have e : ((k : Int) + 2).toNat = k + 2 := by omega
  unfold get32 get16
  rw [if_pos (by omega), if_pos (by omega), if_pos (by omega), e, Int.toNat_natCast, show k + 2 + 1 = k + 3 from rfl]
  omega
theorem putBytes_size (s : ByteArray) (i : Int) (p : ByteArray) : (putBytes s i p).size = s.size := by
  unfold putBytes
  split
  · simp [ByteArray.size_append, ByteArray.size_extract]; omega
  · rfl

/-! ### sums -/
def addSums (a b : Int) : Int := if 0 ≤ a ∧ a ≤ 65535 ∧ 0 ≤ b ∧ b ≤ 65535 then (if a + b > 65535 then a + b - 65535 else a + b) else -1
theorem addSums_range (a b : Int) (ha : 0 ≤ a ∧ a ≤ 65535) (hb : 0 ≤ b ∧ b ≤ 65535) : 0 ≤ addSums a b ∧ addSums a b ≤ 65535 := by
  unfold addSums
  rw [if_pos (by omega)]
  split <;> omega
/-- the sum of the first k words -/
def sumTo (s : ByteArray) : Nat → Int
  | 0 => 0
  | k + 1 => addSums (sumTo s k) (at8 s (2 * k) * 256 + at8 s (2 * k + 1))
theorem sumTo_range (s : ByteArray) : ∀ k, 0 ≤ sumTo s k ∧ sumTo s k ≤ 65535
  | 0 => by simp [sumTo]
  | k + 1 => by
    have h1 := at8_range s (2 * k)
    have h2 := at8_range s (2 * k + 1)
    exact addSums_range _ _ (sumTo_range s k) (by omega)
def sumWords (s : ByteArray) : Int := sumTo s ((s.size + 1) / 2)
theorem sumWords_range (s : ByteArray) : 0 ≤ sumWords s ∧ sumWords s ≤ 65535 := sumTo_range s _
def checksum (s : ByteArray) : Int := 65535 - sumWords s
def updateChecksum (a b c : Int) : Int :=
  if 0 ≤ a ∧ a ≤ 65535 ∧ 0 ≤ b ∧ b ≤ 65535 ∧ 0 ≤ c ∧ c ≤ 65535 then 65535 - addSums (addSums (65535 - a) (65535 - b)) c else -1

/-! ### the cyclic redundancy check -/
def crcStep (c : Nat) : Nat := if c % 2 = 1 then (c / 2) ^^^ 3988292384 else c / 2
def crcBits (c : Nat) : Nat → Nat
  | 0 => c
  | k + 1 => crcStep (crcBits c k)
def crcTo (s : ByteArray) : Nat → Nat
  | 0 => 4294967295
  | k + 1 => crcBits (crcTo s k ^^^ at8n s k) 8
def crc32 (s : ByteArray) : Int := 4294967295 - (crcTo s s.size : Int)
theorem crcStep_odd (x : Nat) (hx : x < 4294967296) (h : x % 2 = 1) : bits .xor .u32 ((x : Int) / 2) 3988292384 = ((crcStep x : Nat) : Int) := by
  unfold crcStep
  rw [if_pos h]
  exact bits_xor_u32 (x / 2) 3988292384 (by omega) (by omega)
theorem crcStep_odd64 (x : Nat) (hx : x < 4294967296) (h : x % 2 = 1) : bits .xor .i64 ((x : Int) / 2) 3988292384 = ((crcStep x : Nat) : Int) := by
  unfold crcStep
  rw [if_pos h]
  exact bits_xor_nat (x / 2) 3988292384 (by omega) (by omega)
theorem crcStep_even (x : Nat) (h : ¬ x % 2 = 1) : (x : Int) / 2 = ((crcStep x : Nat) : Int) := by
  unfold crcStep
  rw [if_neg h]
  omega
theorem crcStep_lt (c : Nat) (h : c < 4294967296) : crcStep c < 4294967296 := by
  unfold crcStep
  split
  · exact Nat.xor_lt_two_pow (n := 32) (by omega) (by omega)
  · omega
theorem crcBits_lt (c : Nat) (h : c < 4294967296) : ∀ k, crcBits c k < 4294967296
  | 0 => h
  | k + 1 => crcStep_lt _ (crcBits_lt c h k)
theorem crcTo_lt (s : ByteArray) : ∀ k, crcTo s k < 4294967296
  | 0 => by simp [crcTo]
  | k + 1 => crcBits_lt _ (Nat.xor_lt_two_pow (n := 32) (crcTo_lt s k) (by have := at8n_lt s k; omega)) 8
theorem crc32_range (s : ByteArray) : 0 ≤ crc32 s ∧ crc32 s ≤ 4294967295 := by
  have := crcTo_lt s s.size
  unfold crc32
  omega

def withFcs (s : ByteArray) : ByteArray := s ++ bs [by8 (crc32 s), by8 (crc32 s / 256), by8 (crc32 s / 65536), by8 (crc32 s / 16777216)]
theorem withFcs_size (s : ByteArray) : (withFcs s).size = s.size + 4 := by
  unfold withFcs
  rw [ByteArray.size_append, bs_size]
  rfl

/-! ### a text of equal bytes -/
def rep (b : Int) (n : Nat) : ByteArray := bs (List.replicate n (by8 b))
theorem rep_size (b : Int) (n : Nat) : (rep b n).size = n := by unfold rep; rw [bs_size]; simp

/-! ### hexadecimal digits -/
def fig (d : Int) : Int := if d < 10 then 48 + d else 87 + d
theorem fig_range (d : Int) (h : 0 ≤ d ∧ d ≤ 15) : 48 ≤ fig d ∧ fig d ≤ 102 := by unfold fig; split <;> omega
theorem fig_digits (d : Nat) (h : d < 16) : (((ByteArray.mk #[48, 49, 50, 51, 52, 53, 54, 55, 56, 57, 97, 98, 99, 100, 101, 102])[d]'h).toNat : Int) = fig (d : Int) := by
  have : ∀ d : Fin 16, (((ByteArray.mk #[48, 49, 50, 51, 52, 53, 54, 55, 56, 57, 97, 98, 99, 100, 101, 102])[d.val]'d.isLt).toNat : Int) = fig (d.val : Int) := by decide
  exact this ⟨d, h⟩
theorem and15 (a : Nat) (h : a < 256) : bits .and .u8 (a : Int) 15 = (a : Int) % 16 := by
  show IntKind.u8.wrap ((BitVec.ofInt 8 (a : Int) &&& BitVec.ofInt 8 15).toNat : Int) = _
  have e1 : BitVec.ofInt 8 (a : Int) = BitVec.ofNat 8 a := by simp
  have e2 : BitVec.ofInt 8 15 = BitVec.ofNat 8 15 := by simp
  rw [e1, e2]
  have e3 : (BitVec.ofNat 8 a &&& BitVec.ofNat 8 15).toNat = a % 16 := by
    rw [BitVec.toNat_and, BitVec.toNat_ofNat, BitVec.toNat_ofNat, Nat.mod_eq_of_lt (by omega), Nat.mod_eq_of_lt (by omega)]
    exact Nat.and_two_pow_sub_one_eq_mod a 4
  rw [e3]
  have := IntWalk.u8_in ((a % 16 : Nat) : Int) (by omega)
  rw [this]
  omega
def hexTo (s : ByteArray) : Nat → List Int
  | 0 => []
  | k + 1 => hexTo s k ++ [fig (at8 s k / 16), fig (at8 s k % 16)]
theorem hexTo_length (s : ByteArray) : ∀ k, (hexTo s k).length = 2 * k
  | 0 => rfl
  | k + 1 => by rw [hexTo, List.length_append, hexTo_length s k]; simp; omega
def encodeHex (s : ByteArray) : ByteArray := if s.size ≤ 20000 then bs ((hexTo s s.size).map by8) else bs []

def hexVal (b : Int) : Int := if 48 ≤ b ∧ b ≤ 57 then b - 48 else if 97 ≤ b ∧ b ≤ 102 then b - 87 else -1
theorem hexVal_range (b : Int) : -1 ≤ hexVal b ∧ hexVal b ≤ 15 := by unfold hexVal; split <;> (try split) <;> omega
def decTo (s : ByteArray) : Nat → Option (List Int)
  | 0 => some []
  | k + 1 => match decTo s k with
    | none => none
    | some l => if hexVal (at8 s (2 * k)) < 0 ∨ hexVal (at8 s (2 * k + 1)) < 0 then none else some (l ++ [hexVal (at8 s (2 * k)) * 16 + hexVal (at8 s (2 * k + 1))])
theorem decTo_bad (s : ByteArray) (k : Nat) (h : hexVal (at8 s (2 * k)) < 0 ∨ hexVal (at8 s (2 * k + 1)) < 0) : decTo s (k + 1) = none := by
  rw [decTo]
  cases decTo s k with
  | none => rfl
  | some l => simp only []; rw [if_pos h]
theorem decTo_good (s : ByteArray) (k : Nat) (l : List Int) (hl : decTo s k = some l) (h : ¬ hexVal (at8 s (2 * k)) < 0) (h' : ¬ hexVal (at8 s (2 * k + 1)) < 0) :
    decTo s (k + 1) = some (l ++ [hexVal (at8 s (2 * k)) * 16 + hexVal (at8 s (2 * k + 1))]) := by
  rw [decTo, hl]
  simp only []
  rw [if_neg (by omega)]
theorem decTo_none (s : ByteArray) (k n : Nat) (h : decTo s k = none) (hn : k ≤ n) : decTo s n = none := by
  obtain ⟨m, rfl⟩ := Nat.exists_eq_add_of_le hn
  clear hn
  induction m with
  | zero => exact h
  | succ m ih => rw [← Nat.add_assoc, decTo, ih]
theorem decTo_length (s : ByteArray) : ∀ (k : Nat) (l : List Int), decTo s k = some l → l.length = k
  | 0, l, h => by simp [decTo] at h; subst h; rfl
  | k + 1, l, h => by
    rw [decTo] at h
    cases hk : decTo s k with
    | none => rw [hk] at h; cases h
    | some l' =>
      rw [hk] at h
      simp only [] at h
      split at h
      · cases h
      · cases h
        have := decTo_length s k l' hk
        simp [this]
def decHex (s : ByteArray) : Option ByteArray := if s.size % 2 = 0 ∧ s.size / 2 ≤ 20000 then (decTo s (s.size / 2)).map fun l => bs (l.map by8) else none
theorem decHex_bad (s : ByteArray) (k : Nat) (hk : k < s.size / 2) (h : hexVal (at8 s (2 * k)) < 0 ∨ hexVal (at8 s (2 * k + 1)) < 0) : decHex s = none := by
  unfold decHex
  split
  · rw [decTo_none s (k + 1) _ (decTo_bad s k h) (by omega)]; rfl
  · rfl
theorem decHex_good (s : ByteArray) (l : List Int) (h : s.size % 2 = 0 ∧ s.size / 2 ≤ 20000) (hl : decTo s (s.size / 2) = some l) : decHex s = some (bs (l.map by8)) := by
  unfold decHex
  rw [if_pos h, hl]
  rfl
theorem decHex_out (s : ByteArray) (h : ¬ (s.size % 2 = 0 ∧ s.size / 2 ≤ 20000)) : decHex s = none := by unfold decHex; rw [if_neg h]

/-! ### clamp -/
def clamp (n lo hi : Int) : Int := if n < lo ∨ hi < lo then lo else if n > hi then hi else n

/-! ### frames -/
def ethOk (d s v t : Int) (n : Nat) : Bool :=
  decide (0 ≤ d ∧ d ≤ 281474976710655 ∧ 0 ≤ s ∧ s ≤ 281474976710655 ∧ -1 ≤ v ∧ v ≤ 4095 ∧ 1536 ≤ t ∧ t ≤ 65535 ∧ t ≠ 33024 ∧ 46 ≤ n ∧ n ≤ 400)
def mac (a : Int) : ByteArray := word16 (a / 4294967296) ++ word32 (a % 4294967296)
theorem mac_size_le (a : Int) : (mac a).size ≤ 6 := by
  unfold mac
  have h1 := word16_size_le (a / 4294967296)
  have h2 := word32_size_le (a % 4294967296)
  rw [ByteArray.size_append]
  omega
def ethHead (d s v : Int) : ByteArray := if 0 ≤ v then mac d ++ mac s ++ (word16 33024 ++ word16 v) else mac d ++ mac s
def buildEth (d s v t : Int) (b : ByteArray) : ByteArray := if ethOk d s v t b.size then ethHead d s v ++ word16 t ++ b else bs []
theorem get16_pos (s : ByteArray) (i : Int) (h : 0 ≤ i ∧ i + 2 ≤ s.size) : 0 ≤ get16 s i ∧ get16 s i ≤ 65535 := by
  unfold get16
  rw [if_pos h]
  have h1 := at8_range s i.toNat
  have h2 := at8_range s (i.toNat + 1)
  omega
theorem get32_pos (s : ByteArray) (i : Int) (h : 0 ≤ i ∧ i + 4 ≤ s.size) : 0 ≤ get32 s i ∧ get32 s i ≤ 4294967295 := by
  unfold get32
  rw [if_pos h]
  have h1 := at8_range s i.toNat
  have h2 := at8_range s (i.toNat + 1)
  have h3 := at8_range s (i.toNat + 2)
  have h4 := at8_range s (i.toNat + 3)
  omega
def mac48 (s : ByteArray) (i j : Int) : Int := get16 s i * 4294967296 + get32 s j
def ptV (s : ByteArray) : Int := if get16 s 12 = 33024 then get16 s 14 else -1
def ptT (s : ByteArray) : Int := if get16 s 12 = 33024 then get16 s 16 else get16 s 12
def ptB (s : ByteArray) : ByteArray := if get16 s 12 = 33024 then s.extract 18 s.size else s.extract 14 s.size
def peOk (s : ByteArray) : Bool := decide (18 ≤ s.size) && ethOk (mac48 s 0 2) (mac48 s 6 8) (ptV s) (ptT s) (ptB s).size
def peD (s : ByteArray) : Int := if peOk s then mac48 s 0 2 else 0
def peS (s : ByteArray) : Int := if peOk s then mac48 s 6 8 else 0
def peV (s : ByteArray) : Int := if peOk s then ptV s else 0
def peT (s : ByteArray) : Int := if peOk s then ptT s else 0
def peB (s : ByteArray) : ByteArray := if peOk s then ptB s else bs []
def padBody (s : ByteArray) : ByteArray := if s.size < 46 then s ++ rep 0 (46 - s.size) else s

/-! ### datagrams, segments, packets -/
def ipOk (tos id ttl proto src dst : Int) (n : Nat) : Bool :=
  decide (0 ≤ tos ∧ tos ≤ 255 ∧ 0 ≤ ttl ∧ ttl ≤ 255 ∧ 0 ≤ proto ∧ proto ≤ 255 ∧ 0 ≤ id ∧ id ≤ 65535 ∧ 0 ≤ src ∧ src ≤ 4294967295 ∧ 0 ≤ dst ∧ dst ≤ 4294967295 ∧ n ≤ 380)
def segOk (kind sp dp seq ack flags win : Int) (n : Nat) : Bool :=
  decide (0 ≤ sp ∧ sp ≤ 65535 ∧ 0 ≤ dp ∧ dp ≤ 65535 ∧ n ≤ 320 ∧
    ((kind = 6 ∧ 0 ≤ seq ∧ seq ≤ 4294967295 ∧ 0 ≤ ack ∧ ack ≤ 4294967295 ∧ 0 ≤ flags ∧ flags ≤ 31 ∧ 0 ≤ win ∧ win ≤ 65535) ∨ (kind = 17 ∧ seq = 0 ∧ ack = 0 ∧ flags = 0 ∧ win = 0)))
def pseudoOk (src dst kind len : Int) : Bool :=
  decide (0 ≤ src ∧ src ≤ 4294967295 ∧ 0 ≤ dst ∧ dst ≤ 4294967295 ∧ 0 ≤ kind ∧ kind ≤ 255 ∧ 0 ≤ len ∧ len ≤ 65535)
def pseudo (src dst kind len : Int) : ByteArray := if pseudoOk src dst kind len then word32 src ++ word32 dst ++ bs [by8 0, by8 kind] ++ word16 len else bs []
theorem pseudo_size_le (src dst kind len : Int) : (pseudo src dst kind len).size ≤ 12 := by
  unfold pseudo
  have h1 := word32_size_le src
  have h2 := word32_size_le dst
  have h3 := word16_size_le len
  split
  · simp only [ByteArray.size_append, bs_size]; simp; omega
  · simp [bs_size]
def stream (flags : Int) : Bool := (bits .and .i64 flags 16 != 0) && (bits .andNot .i64 flags 25 == 0)
theorem stream_spec (flags : Int) (h : 0 ≤ flags ∧ flags ≤ 31) : (bits .andNot .i64 flags 9 == 16) = stream flags := by
  obtain ⟨n, rfl⟩ := Int.eq_ofNat_of_zero_le h.1
  have : ∀ n : Fin 32, (bits .andNot .i64 (n.val : Int) 9 == 16) = stream (n.val : Int) := by decide +kernel
  exact this ⟨n, by omega⟩
theorem segOk_flags {kind sp dp seq ack flags win : Int} {n : Nat} (h : segOk kind sp dp seq ack flags win n = true) (hk : kind = 6) : 0 ≤ flags ∧ flags ≤ 31 := by
  have := of_decide_eq_true h
  omega
def superR (dm sm vl tos id ttl si di : Int) : Bool :=
  decide (0 ≤ dm ∧ dm ≤ 281474976710655 ∧ 0 ≤ sm ∧ sm ≤ 281474976710655 ∧ -1 ≤ vl ∧ vl ≤ 4095 ∧ 0 ≤ tos ∧ tos ≤ 255 ∧ 0 ≤ ttl ∧ ttl ≤ 255 ∧ 0 ≤ id ∧ id ≤ 65535 ∧ 0 ≤ si ∧ si ≤ 4294967295 ∧ 0 ≤ di ∧ di ≤ 4294967295)
def superOk (dm sm vl tos id ttl si di kind sp dp seq ack flags win : Int) (n : Nat) : Bool :=
  superR dm sm vl tos id ttl si di
    && segOk kind sp dp seq ack flags win n && (decide (n ≤ 128) || (decide (kind = 6) && stream flags))
def packetOk (dm sm vl tos id ttl si di kind sp dp seq ack flags win : Int) (n : Nat) : Bool := superOk dm sm vl tos id ttl si di kind sp dp seq ack flags win n && decide (n ≤ 128)
def samePath (dm sm vl tos ttl si di kind sp dp ack win dm' sm' vl' tos' ttl' si' di' kind' sp' dp' ack' win' : Int) : Bool := decide (dm = dm' ∧ sm = sm' ∧ vl = vl' ∧ tos = tos' ∧ ttl = ttl' ∧ si = si' ∧ di = di' ∧ kind = kind' ∧ sp = sp' ∧ dp = dp' ∧ ack = ack' ∧ win = win')

/-! ### the check sequence, taken off -/
def fcsOk (s : ByteArray) : Bool := decide (4 ≤ s.size ∧ withFcs (s.extract 0 (s.size - 4)) = s)
def fcsBody (s : ByteArray) : ByteArray := if fcsOk s then s.extract 0 (s.size - 4) else bs []

/-! ### headers of datagrams -/
def ipBare (tos id ttl proto src dst : Int) (n : Nat) : ByteArray :=
  bs [by8 69, by8 tos] ++ word16 (20 + n) ++ word16 id ++ word16 16384 ++ bs [by8 ttl, by8 proto] ++ word16 0 ++ word32 src ++ word32 dst
def ipHead (tos id ttl proto src dst : Int) (n : Nat) : ByteArray :=
  if ipOk tos id ttl proto src dst n then putBytes (ipBare tos id ttl proto src dst n) 10 (word16 (checksum (ipBare tos id ttl proto src dst n))) else bs []
theorem ipBare_size_le (tos id ttl proto src dst : Int) (n : Nat) : (ipBare tos id ttl proto src dst n).size ≤ 20 := by
  have h1 := word16_size_le (20 + n)
  have h2 := word16_size_le id
  have h3 := word16_size_le 16384
  have h4 := word16_size_le 0
  have h5 := word32_size_le src
  have h6 := word32_size_le dst
  unfold ipBare
  simp only [ByteArray.size_append, bs_size]
  simp
  omega
theorem ipHead_size_le (tos id ttl proto src dst : Int) (n : Nat) : (ipHead tos id ttl proto src dst n).size ≤ 20 := by
  unfold ipHead
  split
  · rw [putBytes_size]; exact ipBare_size_le _ _ _ _ _ _ _
  · simp [bs_size]
def buildIp (tos id ttl proto src dst : Int) (b : ByteArray) : ByteArray :=
  if ipOk tos id ttl proto src dst b.size then ipHead tos id ttl proto src dst b.size ++ b else bs []
theorem buildIp_size_le (tos id ttl proto src dst : Int) (b : ByteArray) : (buildIp tos id ttl proto src dst b).size ≤ 400 := by
  unfold buildIp
  split
  · rename_i h
    have h1 := of_decide_eq_true h
    have h2 := ipHead_size_le tos id ttl proto src dst b.size
    rw [ByteArray.size_append]
    omega
  · simp [bs_size]
/-- the length that a datagram tells -/
def ipLen (s : ByteArray) : Nat := (get16 s 2).toNat
def piIn (s : ByteArray) : Bool := decide (20 ≤ s.size ∧ 20 ≤ get16 s 2 ∧ get16 s 2 ≤ s.size)
def piBody (s : ByteArray) : ByteArray := s.extract 20 (ipLen s)
def piOk (s : ByteArray) : Bool :=
  piIn s && ipOk (at8 s 1) (get16 s 4) (at8 s 8) (at8 s 9) (get32 s 12) (get32 s 16) (piBody s).size
    && decide (buildIp (at8 s 1) (get16 s 4) (at8 s 8) (at8 s 9) (get32 s 12) (get32 s 16) (piBody s) = s.extract 0 (ipLen s))
def piTos (s : ByteArray) : Int := if piOk s then at8 s 1 else 0
def piId (s : ByteArray) : Int := if piOk s then get16 s 4 else 0
def piTtl (s : ByteArray) : Int := if piOk s then at8 s 8 else 0
def piProto (s : ByteArray) : Int := if piOk s then at8 s 9 else 0
def piSrc (s : ByteArray) : Int := if piOk s then get32 s 12 else 0
def piDst (s : ByteArray) : Int := if piOk s then get32 s 16 else 0
def piB (s : ByteArray) : ByteArray := if piOk s then piBody s else bs []
def ttlOk (s : ByteArray) : Bool := piOk s && decide (at8 s 8 ≠ 0)
def ttlAfter (s : ByteArray) : Int := at8 s 8 * 256 + at8 s 9 - 256
def lowerTtl (s : ByteArray) : ByteArray :=
  if ttlOk s then putBytes (putBytes s 8 (word16 (ttlAfter s))) 10 (word16 (updateChecksum (get16 s 10) (at8 s 8 * 256 + at8 s 9) (ttlAfter s))) else s

/-! ### segments as bytes -/
def segPorts (sp dp : Int) : ByteArray := word16 sp ++ word16 dp
def segTcp (sp dp seq ack flags win : Int) (b : ByteArray) : ByteArray :=
  segPorts sp dp ++ word32 seq ++ word32 ack ++ bs [by8 80, by8 flags] ++ word16 win ++ word16 0 ++ word16 0 ++ b
def segUdp (sp dp : Int) (b : ByteArray) : ByteArray := segPorts sp dp ++ word16 (8 + b.size) ++ word16 0 ++ b
def segBare (kind sp dp seq ack flags win : Int) (b : ByteArray) : ByteArray := if kind = 6 then segTcp sp dp seq ack flags win b else segUdp sp dp b
theorem segBare_size_le (kind sp dp seq ack flags win : Int) (b : ByteArray) : (segBare kind sp dp seq ack flags win b).size ≤ 20 + b.size := by
  have h1 := word16_size_le sp
  have h2 := word16_size_le dp
  have h3 := word16_size_le 0
  have h4 := word16_size_le win
  have h5 := word32_size_le seq
  have h6 := word32_size_le ack
  have h7 := word16_size_le (8 + b.size)
  unfold segBare segTcp segUdp segPorts
  split <;> simp only [ByteArray.size_append, bs_size] <;> simp <;> omega
def segSum0 (src dst kind sp dp seq ack flags win : Int) (b : ByteArray) : Int :=
  checksum (pseudo src dst kind (segBare kind sp dp seq ack flags win b).size ++ segBare kind sp dp seq ack flags win b)
def segSum (src dst kind sp dp seq ack flags win : Int) (b : ByteArray) : Int :=
  if kind = 17 ∧ segSum0 src dst kind sp dp seq ack flags win b = 0 then 65535 else segSum0 src dst kind sp dp seq ack flags win b
def bsOk (src dst kind sp dp seq ack flags win : Int) (b : ByteArray) : Bool :=
  segOk kind sp dp seq ack flags win b.size && pseudoOk src dst kind (segBare kind sp dp seq ack flags win b).size
def buildSeg (src dst kind sp dp seq ack flags win : Int) (b : ByteArray) : ByteArray :=
  if bsOk src dst kind sp dp seq ack flags win b then
    putBytes (segBare kind sp dp seq ack flags win b) (if kind = 6 then 16 else 6) (word16 (segSum src dst kind sp dp seq ack flags win b)) else bs []

theorem word32_zero : word32 0 = word16 0 ++ word16 0 := by
  rw [show word32 0 = bs [0, 0, 0, 0] from by unfold word32; rfl, show word16 0 = bs [0, 0] from by unfold word16; rfl, bs_append]
  rfl

/-! ### segments read back -/
def psIn (kind : Int) (s : ByteArray) : Bool := decide ((kind = 6 ∧ 20 ≤ s.size) ∨ (kind = 17 ∧ 8 ≤ s.size))
def psSeq0 (kind : Int) (s : ByteArray) : Int := if kind = 6 then get32 s 4 else 0
def psAck0 (kind : Int) (s : ByteArray) : Int := if kind = 6 then get32 s 8 else 0
def psFlags0 (kind : Int) (s : ByteArray) : Int := if kind = 6 then at8 s 13 else 0
def psWin0 (kind : Int) (s : ByteArray) : Int := if kind = 6 then get16 s 14 else 0
def psB0 (kind : Int) (s : ByteArray) : ByteArray := if kind = 6 then s.extract 20 s.size else s.extract 8 s.size
def psOk (src dst kind : Int) (s : ByteArray) : Bool :=
  psIn kind s && bsOk src dst kind (get16 s 0) (get16 s 2) (psSeq0 kind s) (psAck0 kind s) (psFlags0 kind s) (psWin0 kind s) (psB0 kind s)
    && decide (buildSeg src dst kind (get16 s 0) (get16 s 2) (psSeq0 kind s) (psAck0 kind s) (psFlags0 kind s) (psWin0 kind s) (psB0 kind s) = s)
def psKind (src dst kind : Int) (s : ByteArray) : Int := if psOk src dst kind s then kind else 0
def psSp (src dst kind : Int) (s : ByteArray) : Int := if psOk src dst kind s then get16 s 0 else 0
def psDp (src dst kind : Int) (s : ByteArray) : Int := if psOk src dst kind s then get16 s 2 else 0
def psSeq (src dst kind : Int) (s : ByteArray) : Int := if psOk src dst kind s then psSeq0 kind s else 0
def psAck (src dst kind : Int) (s : ByteArray) : Int := if psOk src dst kind s then psAck0 kind s else 0
def psFlags (src dst kind : Int) (s : ByteArray) : Int := if psOk src dst kind s then psFlags0 kind s else 0
def psWin (src dst kind : Int) (s : ByteArray) : Int := if psOk src dst kind s then psWin0 kind s else 0
def psB (src dst kind : Int) (s : ByteArray) : ByteArray := if psOk src dst kind s then psB0 kind s else bs []

/-! ### images and frames -/
def imgSeg (si di kind sp dp seq ack flags win : Int) (b : ByteArray) : ByteArray := buildSeg si di kind sp dp seq ack flags win b
def imgIp (tos id ttl si di kind sp dp seq ack flags win : Int) (b : ByteArray) : ByteArray := buildIp tos id ttl kind si di (imgSeg si di kind sp dp seq ack flags win b)
def imgOk (dm sm vl tos id ttl si di kind sp dp seq ack flags win : Int) (b : ByteArray) : Bool :=
  superOk dm sm vl tos id ttl si di kind sp dp seq ack flags win b.size && ethOk dm sm vl 2048 (padBody (imgIp tos id ttl si di kind sp dp seq ack flags win b)).size
def image (dm sm vl tos id ttl si di kind sp dp seq ack flags win : Int) (b : ByteArray) : ByteArray :=
  if superOk dm sm vl tos id ttl si di kind sp dp seq ack flags win b.size then buildEth dm sm vl 2048 (padBody (imgIp tos id ttl si di kind sp dp seq ack flags win b)) else bs []
def riSrc (s : ByteArray) : Int := piSrc (peB s)
def riDst (s : ByteArray) : Int := piDst (peB s)
def riProto (s : ByteArray) : Int := piProto (peB s)
def riB (s : ByteArray) : ByteArray := piB (peB s)
def riSuper (s : ByteArray) : Bool :=
  superOk (peD s) (peS s) (peV s) (piTos (peB s)) (piId (peB s)) (piTtl (peB s)) (riSrc s) (riDst s) (psKind (riSrc s) (riDst s) (riProto s) (riB s)) (psSp (riSrc s) (riDst s) (riProto s) (riB s)) (psDp (riSrc s) (riDst s) (riProto s) (riB s))
    (psSeq (riSrc s) (riDst s) (riProto s) (riB s)) (psAck (riSrc s) (riDst s) (riProto s) (riB s)) (psFlags (riSrc s) (riDst s) (riProto s) (riB s)) (psWin (riSrc s) (riDst s) (riProto s) (riB s)) (psB (riSrc s) (riDst s) (riProto s) (riB s)).size
def riCode (s : ByteArray) : Int :=
  if peOk s = false ∨ peT s ≠ 2048 then 2 else if piOk (peB s) = false then 3 else if psOk (riSrc s) (riDst s) (riProto s) (riB s) = false then 4 else if riSuper s = false then 5 else 0
def ri (s : ByteArray) (v : Int) : Int := if riCode s = 0 then v else 0
def riBody (s : ByteArray) : ByteArray := if riCode s = 0 then psB (riSrc s) (riDst s) (riProto s) (riB s) else bs []
end Go.Proofs.YtoikpdijkdmimaaDoor.P
