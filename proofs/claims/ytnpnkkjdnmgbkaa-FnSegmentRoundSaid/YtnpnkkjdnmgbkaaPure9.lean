/-
  Plain laws on the cyclic redundancy check: one changed byte changes it. No program is in sight here.
-/
import Derived.Test.YtnpnkkjdnmgbkaaPure8
namespace Go.Proofs.Ytnpnkkjdnmgbkaa.P
theorem xor_undo (x p : Nat) : (x ^^^ p) ^^^ p = x := by rw [Nat.xor_assoc, Nat.xor_self, Nat.xor_zero]
theorem xor_inj {x y p : Nat} (h : x ^^^ p = y ^^^ p) : x = y := by rw [← xor_undo x p, h, xor_undo]
theorem xor_inj' {x y p : Nat} (h : p ^^^ x = p ^^^ y) : x = y := xor_inj (p := p) (by rw [Nat.xor_comm x, Nat.xor_comm y]; exact h)
theorem poly_high (x : Nat) (h : x < 2147483648) : 2147483648 ≤ x ^^^ 3988292384 := by
  have h1 : (x ^^^ 3988292384).testBit 31 = true := by
    rw [Nat.testBit_xor, Nat.testBit_lt_two_pow (show x < 2 ^ 31 by omega)]
    rfl
  have := Nat.ge_two_pow_of_testBit h1
  omega
theorem crcStep_inj (a b : Nat) (ha : a < 4294967296) (hb : b < 4294967296) (h : crcStep a = crcStep b) : a = b := by
  unfold crcStep at h
  by_cases h1 : a % 2 = 1
  · rw [if_pos h1] at h
    by_cases h2 : b % 2 = 1
    · rw [if_pos h2] at h
      have := xor_inj h
      omega
    · rw [if_neg h2] at h
      have := poly_high (a / 2) (by omega)
      omega
  · rw [if_neg h1] at h
    by_cases h2 : b % 2 = 1
    · rw [if_pos h2] at h
      have := poly_high (b / 2) (by omega)
      omega
    · rw [if_neg h2] at h
      omega
theorem crcBits_inj (a b : Nat) (ha : a < 4294967296) (hb : b < 4294967296) : ∀ k, crcBits a k = crcBits b k → a = b
  | 0, h => h
  | k + 1, h => crcBits_inj a b ha hb k (crcStep_inj _ _ (crcBits_lt a ha k) (crcBits_lt b hb k) h)
theorem xor_lt (c x : Nat) (hc : c < 4294967296) (hx : x < 256) : c ^^^ x < 4294967296 := Nat.xor_lt_two_pow (n := 32) hc (by omega)
theorem crcTo_congr (s t : ByteArray) (n : Nat) (h : ∀ k, k < n → at8n s k = at8n t k) : crcTo s n = crcTo t n := by
  induction n with
  | zero => rfl
  | succ n ih =>
    rw [crcTo, crcTo, ih (fun k hk => h k (by omega)), h n (by omega)]
/-- one byte parts: the check parts -/
theorem crcTo_ne (s t : ByteArray) (j : Nat) (hd : ¬ at8n s j = at8n t j) (hsame : ∀ k, ¬ k = j → at8n s k = at8n t k) : ∀ n, ¬ crcTo s (j + 1 + n) = crcTo t (j + 1 + n)
  | 0 => by
    intro h
    rw [Nat.add_zero, crcTo, crcTo, crcTo_congr s t j (fun k hk => hsame k (by omega))] at h
    exact hd (xor_inj' (crcBits_inj _ _ (xor_lt _ _ (crcTo_lt t j) (at8n_lt s j)) (xor_lt _ _ (crcTo_lt t j) (at8n_lt t j)) 8 h))
  | n + 1 => by
    intro h
    rw [← Nat.add_assoc, crcTo, crcTo, hsame (j + 1 + n) (by omega)] at h
    exact crcTo_ne s t j hd hsame n (xor_inj (crcBits_inj _ _ (xor_lt _ _ (crcTo_lt s _) (at8n_lt t _)) (xor_lt _ _ (crcTo_lt t _) (at8n_lt t _)) 8 h))
theorem crc32_ne (s t : ByteArray) (hs : s.size = t.size) (j : Nat) (hj : j < s.size) (hd : ¬ at8n s j = at8n t j) (hsame : ∀ k, ¬ k = j → at8n s k = at8n t k) : ¬ crc32 s = crc32 t := by
  intro h
  unfold crc32 at h
  have := crcTo_ne s t j hd hsame (s.size - (j + 1))
  rw [show j + 1 + (s.size - (j + 1)) = s.size by omega] at this
  apply this
  rw [← hs] at h
  omega
theorem at8_fcs (s : ByteArray) : at8 (withFcs s) s.size = crc32 s % 256 ∧ at8 (withFcs s) (s.size + 1) = crc32 s / 256 % 256 ∧ at8 (withFcs s) (s.size + 2) = crc32 s / 65536 % 256 ∧ at8 (withFcs s) (s.size + 3) = crc32 s / 16777216 % 256 := by
  have hr := crc32_range s
  have e : ∀ j, at8 (withFcs s) (s.size + j) = at8 (bs [by8 (crc32 s), by8 (crc32 s / 256), by8 (crc32 s / 65536), by8 (crc32 s / 16777216)]) j := fun j => by
    unfold withFcs
    rw [at8_right _ _ _ (by omega), show s.size + j - s.size = j by omega]
  have e0 : at8 (bs [by8 (crc32 s), by8 (crc32 s / 256), by8 (crc32 s / 65536), by8 (crc32 s / 16777216)]) 0 = ((by8 (crc32 s)).toNat : Int) := at8_bs _ 0 (by simp)
  have e1 : at8 (bs [by8 (crc32 s), by8 (crc32 s / 256), by8 (crc32 s / 65536), by8 (crc32 s / 16777216)]) 1 = ((by8 (crc32 s / 256)).toNat : Int) := at8_bs _ 1 (by simp)
  have e2 : at8 (bs [by8 (crc32 s), by8 (crc32 s / 256), by8 (crc32 s / 65536), by8 (crc32 s / 16777216)]) 2 = ((by8 (crc32 s / 65536)).toNat : Int) := at8_bs _ 2 (by simp)
  have e3 : at8 (bs [by8 (crc32 s), by8 (crc32 s / 256), by8 (crc32 s / 65536), by8 (crc32 s / 16777216)]) 3 = ((by8 (crc32 s / 16777216)).toNat : Int) := at8_bs _ 3 (by simp)
  have f0 := e 0
  rw [Nat.add_zero] at f0
  rw [f0, e 1, e 2, e 3, e0, e1, e2, e3, by8_toNat' _ (by omega), by8_toNat' _ (by omega), by8_toNat' _ (by omega), by8_toNat' _ (by omega)]
  exact ⟨rfl, rfl, rfl, rfl⟩
theorem crc_of_bytes (s t : ByteArray) (h : ∀ j, j < 4 → at8 (withFcs s) (s.size + j) = at8 (withFcs t) (t.size + j)) : crc32 s = crc32 t := by
  have hs := at8_fcs s
  have ht := at8_fcs t
  have h0 := h 0 (by omega)
  have h1 := h 1 (by omega)
  have h2 := h 2 (by omega)
  have h3 := h 3 (by omega)
  rw [Nat.add_zero, Nat.add_zero] at h0
  have hr := crc32_range s
  have hr2 := crc32_range t
  rw [hs.1, ht.1] at h0
  rw [hs.2.1, ht.2.1] at h1
  rw [hs.2.2.1, ht.2.2.1] at h2
  rw [hs.2.2.2, ht.2.2.2] at h3
  omega
/-- one byte of a protected text parts: it is no longer right -/
theorem fcs_flip (t u : ByteArray) (hok : fcsOk t = true) (hs : u.size = t.size) (j : Nat) (hd : ¬ at8n u j = at8n t j) (hsame : ∀ k, ¬ k = j → at8n u k = at8n t k) : fcsOk u = false := by
  cases hu : fcsOk u with
  | false => rfl
  | true =>
    exfalso
    obtain ⟨ht4, ht⟩ := of_decide_eq_true hok
    obtain ⟨hu4, hu⟩ := of_decide_eq_true hu
    have zt : (t.extract 0 (t.size - 4)).size = t.size - 4 := by rw [ByteArray.size_extract]; omega
    have zu : (u.extract 0 (u.size - 4)).size = t.size - 4 := by rw [ByteArray.size_extract]; omega
    have bt : ∀ k, k < t.size - 4 → at8n (t.extract 0 (t.size - 4)) k = at8n t k := fun k hk => by rw [at8n_extract _ _ _ _ (by omega), Nat.zero_add]
    have bu : ∀ k, k < t.size - 4 → at8n (u.extract 0 (u.size - 4)) k = at8n u k := fun k hk => by rw [at8n_extract _ _ _ _ (by omega), Nat.zero_add]
    have nt : ∀ k, t.size - 4 ≤ k → at8n (t.extract 0 (t.size - 4)) k = 0 := fun k hk => by have := at8_beyond (t.extract 0 (t.size - 4)) k (by omega); unfold at8 at this; omega
    have nu : ∀ k, t.size - 4 ≤ k → at8n (u.extract 0 (u.size - 4)) k = 0 := fun k hk => by have := at8_beyond (u.extract 0 (u.size - 4)) k (by omega); unfold at8 at this; omega
    by_cases h1 : j < t.size - 4
    · have hne := crc32_ne (u.extract 0 (u.size - 4)) (t.extract 0 (t.size - 4)) (by rw [zt, zu]) j (by omega) (by rw [bu j h1, bt j h1]; exact hd) (fun k hk => by
        by_cases h2 : k < t.size - 4
        · rw [bu k h2, bt k h2]; exact hsame k hk
        · rw [nu k (by omega), nt k (by omega)])
      apply hne
      apply crc_of_bytes
      intro i hi
      rw [hu, ht, zu, zt]
      unfold at8
      rw [hsame _ (by omega)]
    · have he : u.extract 0 (u.size - 4) = t.extract 0 (t.size - 4) := at8n_ext (by rw [zu, zt]) (fun k hk => by rw [bu k (by omega), bt k (by omega)]; exact hsame k (by omega))
      apply hd
      rw [← hu, ← ht, he]
theorem fcs_with (s : ByteArray) : fcsOk (withFcs s) = true ∧ fcsBody (withFcs s) = s := by
  have hz := withFcs_size s
  have he : (withFcs s).extract 0 ((withFcs s).size - 4) = s := by
    rw [hz]
    apply at8n_ext
    · rw [ByteArray.size_extract]; omega
    · intro k hk
      rw [ByteArray.size_extract] at hk
      rw [at8n_extract _ _ _ _ (by omega), Nat.zero_add]
      unfold withFcs
      rw [at8n_left _ _ _ (by omega)]
  have hok : fcsOk (withFcs s) = true := decide_eq_true ⟨by omega, by rw [he]⟩
  exact ⟨hok, by unfold fcsBody; rw [hok, he]; rfl⟩
/-! ### one flipped bit -/
def bendAt (s : ByteArray) (i : Nat) : Nat := i / 8 % s.size
def bend (s : ByteArray) (i : Nat) : ByteArray :=
  if s.size = 0 then s else s.extract 0 (bendAt s i) ++ bs [by8 ((at8n s (bendAt s i) ^^^ 2 ^ (i % 8) : Nat) : Int)] ++ s.extract (bendAt s i + 1) s.size
theorem bend_lt (x k : Nat) (hx : x < 256) (hk : k < 8) : x ^^^ 2 ^ k < 256 := Nat.xor_lt_two_pow (n := 8) hx (Nat.pow_lt_pow_right (by decide) hk)
theorem bend_facts (s : ByteArray) (i : Nat) (h : 0 < s.size) : (bend s i).size = s.size ∧ bendAt s i < s.size ∧ at8n (bend s i) (bendAt s i) = at8n s (bendAt s i) ^^^ 2 ^ (i % 8) ∧ (¬ at8n (bend s i) (bendAt s i) = at8n s (bendAt s i)) ∧ ∀ k, ¬ k = bendAt s i → at8n (bend s i) k = at8n s k := by
  have hj : bendAt s i < s.size := Nat.mod_lt _ h
  have hb := bend_lt (at8n s (bendAt s i)) (i % 8) (at8n_lt s _) (Nat.mod_lt _ (by decide))
  have z1 : (s.extract 0 (bendAt s i)).size = bendAt s i := by rw [ByteArray.size_extract]; omega
  have hsz : (bend s i).size = s.size := by
    unfold bend
    rw [if_neg (by omega), ByteArray.size_append, ByteArray.size_append, z1, bs_size, ByteArray.size_extract]
    simp
    omega
  have e0 : at8n (bend s i) (bendAt s i) = at8n s (bendAt s i) ^^^ 2 ^ (i % 8) := by
    unfold bend
    rw [if_neg (by omega), ByteArray.append_assoc, at8n_right _ _ _ (by omega), at8n_left _ _ _ (by rw [bs_size]; simp; omega), z1, Nat.sub_self]
    have := at8_bs [by8 ((at8n s (bendAt s i) ^^^ 2 ^ (i % 8) : Nat) : Int)] 0 (by simp)
    rw [show [by8 ((at8n s (bendAt s i) ^^^ 2 ^ (i % 8) : Nat) : Int)][0] = by8 ((at8n s (bendAt s i) ^^^ 2 ^ (i % 8) : Nat) : Int) from rfl, by8_toNat _ (by omega)] at this
    unfold at8 at this
    omega
  refine ⟨hsz, hj, e0, ?_, fun k hk => ?_⟩
  · rw [e0]
    intro he
    have h1 : at8n s (bendAt s i) ^^^ 2 ^ (i % 8) = at8n s (bendAt s i) ^^^ 0 := by rw [he, Nat.xor_zero]
    have h2 := xor_inj' h1
    have h3 : 0 < 2 ^ (i % 8) := Nat.two_pow_pos _
    omega
  · unfold bend
    rw [if_neg (by omega)]
    by_cases h1 : k < bendAt s i
    · rw [ByteArray.append_assoc, at8n_left _ _ _ (by omega), at8n_extract _ _ _ _ (by omega), Nat.zero_add]
    · have z2 : (s.extract 0 (bendAt s i) ++ bs [by8 ((at8n s (bendAt s i) ^^^ 2 ^ (i % 8) : Nat) : Int)]).size = bendAt s i + 1 := by rw [ByteArray.size_append, z1, bs_size]; rfl
      rw [at8n_right _ _ _ (by omega), z2]
      by_cases h2 : k < s.size
      · rw [at8n_extract _ _ _ _ (by omega)]
        congr 1
        omega
      · have h3 := at8_beyond (s.extract (bendAt s i + 1) s.size) (k - (bendAt s i + 1)) (by rw [ByteArray.size_extract]; omega)
        have h4 := at8_beyond s k (by omega)
        unfold at8 at h3 h4
        omega
theorem fcs_bend (t : ByteArray) (hok : fcsOk t = true) (i : Nat) : fcsOk (bend t i) = false := by
  obtain ⟨h4, _⟩ := of_decide_eq_true hok
  obtain ⟨h1, _, _, h3, h5⟩ := bend_facts t i (by omega)
  exact fcs_flip t _ hok h1 _ h3 h5
end Go.Proofs.Ytnpnkkjdnmgbkaa.P
