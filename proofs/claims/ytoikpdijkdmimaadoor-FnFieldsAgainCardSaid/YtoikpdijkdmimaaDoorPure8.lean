/-
  Plain laws on bytes, words and sums. No program is in sight here.
-/
import Derived.Test.YtoikpdijkdmimaaDoorPure
namespace Go.Proofs.YtoikpdijkdmimaaDoor.P
theorem at8n_left (a b : ByteArray) (k : Nat) (h : k < a.size) : at8n (a ++ b) k = at8n a k := by
  unfold at8n
  rw [L_append, List.getElem?_append_left (by rw [L_length]; exact h)]
theorem at8n_right (a b : ByteArray) (k : Nat) (h : a.size ≤ k) : at8n (a ++ b) k = at8n b (k - a.size) := by
  unfold at8n
  rw [L_append, List.getElem?_append_right (by rw [L_length]; exact h), L_length]
theorem at8n_extract (s : ByteArray) (i j k : Nat) (h : i + k < j) : at8n (s.extract i j) k = at8n s (i + k) := by
  unfold at8n
  rw [L_extract, List.getElem?_take, if_pos (by omega), List.getElem?_drop]
theorem at8_left (a b : ByteArray) (k : Nat) (h : k < a.size) : at8 (a ++ b) k = at8 a k := by unfold at8; rw [at8n_left a b k h]
theorem at8_right (a b : ByteArray) (k : Nat) (h : a.size ≤ k) : at8 (a ++ b) k = at8 b (k - a.size) := by unfold at8; rw [at8n_right a b k h]
theorem at8_extract (s : ByteArray) (i j k : Nat) (h : i + k < j) : at8 (s.extract i j) k = at8 s (i + k) := by unfold at8; rw [at8n_extract s i j k h]
theorem at8n_ext {a b : ByteArray} (hs : a.size = b.size) (h : ∀ k, k < a.size → at8n a k = at8n b k) : a = b := by
  apply L_ext
  apply List.ext_getElem?
  intro k
  by_cases hk : k < a.size
  · have h1 := h k hk
    unfold at8n at h1
    have ha : k < (L a).length := by rw [L_length]; exact hk
    have hb : k < (L b).length := by rw [L_length]; omega
    rw [List.getElem?_eq_getElem ha, List.getElem?_eq_getElem hb] at h1 ⊢
    simp at h1
    rw [UInt8.toNat_inj.1 h1]
  · rw [List.getElem?_eq_none (by rw [L_length]; omega), List.getElem?_eq_none (by rw [L_length]; omega)]
theorem at8_ext {a b : ByteArray} (hs : a.size = b.size) (h : ∀ k, k < a.size → at8 a k = at8 b k) : a = b :=
  at8n_ext hs fun k hk => by have := h k hk; unfold at8 at this; omega
theorem at8_bs (l : List UInt8) (k : Nat) (h : k < l.length) : at8 (bs l) k = (l[k].toNat : Int) := by
  unfold at8 at8n
  rw [L_bs, List.getElem?_eq_getElem h]
  rfl
theorem at8_word16 (v : Int) (h : 0 ≤ v ∧ v ≤ 65535) : at8 (word16 v) 0 = v / 256 ∧ at8 (word16 v) 1 = v % 256 := by
  have e0 : at8 (bs [by8 (v / 256), by8 v]) 0 = ((by8 (v / 256)).toNat : Int) := at8_bs _ 0 (by simp)
  have e1 : at8 (bs [by8 (v / 256), by8 v]) 1 = ((by8 v).toNat : Int) := at8_bs _ 1 (by simp)
  unfold word16
  rw [if_pos h, e0, e1, by8_toNat' _ (by omega), by8_toNat' _ h.1]
  omega
theorem at8_word32 (v : Int) (h : 0 ≤ v ∧ v ≤ 4294967295) : at8 (word32 v) 0 = v / 16777216 ∧ at8 (word32 v) 1 = v / 65536 % 256 ∧ at8 (word32 v) 2 = v / 256 % 256 ∧ at8 (word32 v) 3 = v % 256 := by
  have e0 : at8 (bs [by8 (v / 16777216), by8 (v / 65536), by8 (v / 256), by8 v]) 0 = ((by8 (v / 16777216)).toNat : Int) := at8_bs _ 0 (by simp)
  have e1 : at8 (bs [by8 (v / 16777216), by8 (v / 65536), by8 (v / 256), by8 v]) 1 = ((by8 (v / 65536)).toNat : Int) := at8_bs _ 1 (by simp)
  have e2 : at8 (bs [by8 (v / 16777216), by8 (v / 65536), by8 (v / 256), by8 v]) 2 = ((by8 (v / 256)).toNat : Int) := at8_bs _ 2 (by simp)
  have e3 : at8 (bs [by8 (v / 16777216), by8 (v / 65536), by8 (v / 256), by8 v]) 3 = ((by8 v).toNat : Int) := at8_bs _ 3 (by simp)
  unfold word32
  rw [if_pos h, e0, e1, e2, e3, by8_toNat' _ (by omega), by8_toNat' _ (by omega), by8_toNat' _ (by omega), by8_toNat' _ h.1]
  omega
theorem at8_mid (A W B : ByteArray) (j : Nat) (hj : j < W.size) : at8 (A ++ (W ++ B)) (A.size + j) = at8 W j := by
  rw [at8_right _ _ _ (by omega), show A.size + j - A.size = j by omega, at8_left _ _ _ hj]
theorem get16_mid (A B : ByteArray) (v : Int) (h : 0 ≤ v ∧ v ≤ 65535) (i : Int) (hi : i = A.size) : get16 (A ++ (word16 v ++ B)) i = v := by
  subst hi
  have hz := word16_size v h
  have h0 := at8_word16 v h
  have m0 := at8_mid A (word16 v) B 0 (by omega)
  have m1 := at8_mid A (word16 v) B 1 (by omega)
  rw [Nat.add_zero] at m0
  unfold get16
  rw [if_pos (by simp only [ByteArray.size_append]; omega), Int.toNat_natCast, m0, m1, h0.1, h0.2]
  omega
theorem get32_mid (A B : ByteArray) (v : Int) (h : 0 ≤ v ∧ v ≤ 4294967295) (i : Int) (hi : i = A.size) : get32 (A ++ (word32 v ++ B)) i = v := by
  subst hi
  have hz := word32_size v h
  have h0 := at8_word32 v h
  have m0 := at8_mid A (word32 v) B 0 (by omega)
  have m1 := at8_mid A (word32 v) B 1 (by omega)
  have m2 := at8_mid A (word32 v) B 2 (by omega)
  have m3 := at8_mid A (word32 v) B 3 (by omega)
  rw [Nat.add_zero] at m0
  unfold get32
  rw [if_pos (by simp only [ByteArray.size_append]; omega), Int.toNat_natCast, m0, m1, m2, m3, h0.1, h0.2.1, h0.2.2.1, h0.2.2.2]
  omega
theorem at8_put (s p : ByteArray) (i : Nat) (h : i + p.size ≤ s.size) (k : Nat) : at8 (putBytes s i p) k = if i ≤ k ∧ k < i + p.size then at8 p (k - i) else at8 s k := by
  have hz1 : (s.extract 0 i).size = i := by rw [ByteArray.size_extract]; omega
  unfold putBytes
  rw [if_pos (by omega), Int.toNat_natCast]
  by_cases h1 : k < i
  · rw [if_neg (by omega), ByteArray.append_assoc, at8_left _ _ _ (by omega), at8_extract _ _ _ _ (by omega), Nat.zero_add]
  · by_cases h2 : k < i + p.size
    · rw [if_pos (by omega), ByteArray.append_assoc, at8_right _ _ _ (by omega), at8_left _ _ _ (by omega), hz1]
    · rw [if_neg (by omega), at8_right _ _ _ (by rw [ByteArray.size_append]; omega), ByteArray.size_append, hz1]
      by_cases h3 : k < s.size
      · rw [at8_extract _ _ _ _ (by omega)]
        congr 1
        omega
      · rw [at8_beyond _ _ (by rw [ByteArray.size_extract]; omega), at8_beyond _ _ (by omega)]

/-! ### sums of words -/
def wordAt (s : ByteArray) (k : Nat) : Int := at8 s (2 * k) * 256 + at8 s (2 * k + 1)
theorem wordAt_range (s : ByteArray) (k : Nat) : 0 ≤ wordAt s k ∧ wordAt s k ≤ 65535 := by
  have h1 := at8_range s (2 * k)
  have h2 := at8_range s (2 * k + 1)
  unfold wordAt
  omega
def tot (s : ByteArray) : Nat → Int
  | 0 => 0
  | k + 1 => tot s k + wordAt s k
theorem tot_pos (s : ByteArray) : ∀ k, 0 ≤ tot s k
  | 0 => by simp [tot]
  | k + 1 => by have := tot_pos s k; have := wordAt_range s k; simp only [tot]; omega
theorem tot_le (s : ByteArray) (k : Nat) : ∀ n, k < n → wordAt s k ≤ tot s n
  | 0, h => by omega
  | n + 1, h => by
    have h1 := tot_pos s n
    have h2 := wordAt_range s n
    simp only [tot]
    by_cases hk : k = n
    · subst hk; omega
    · have := tot_le s k n (by omega); omega
def red (x : Int) : Int := if x = 0 then 0 else (x - 1) % 65535 + 1
theorem addSums_red (a b : Int) (ha : 0 ≤ a ∧ a ≤ 65535) (hb : 0 ≤ b ∧ b ≤ 65535) : addSums a b = red (a + b) := by
  unfold addSums red
  rw [if_pos (by omega)]
  split <;> split <;> omega
theorem red_add (x y : Int) (_ : 0 ≤ x) (_ : 0 ≤ y) : red (red x + y) = red (x + y) := by
  unfold red
  by_cases h : x = 0
  · rw [if_pos h, h]
  · rw [if_neg h, if_neg (by omega), if_neg (by omega)]
    omega
theorem red_range (x : Int) (_ : 0 ≤ x) : 0 ≤ red x ∧ red x ≤ 65535 := by
  unfold red
  split <;> omega
theorem sumTo_red (s : ByteArray) : ∀ k, sumTo s k = red (tot s k)
  | 0 => rfl
  | k + 1 => by
    have h1 := tot_pos s k
    have h2 := wordAt_range s k
    show addSums (sumTo s k) (wordAt s k) = red (tot s k + wordAt s k)
    rw [sumTo_red s k, addSums_red _ _ (red_range _ h1) h2, red_add _ _ h1 h2.1]
theorem sumWords_red (s : ByteArray) : sumWords s = red (tot s ((s.size + 1) / 2)) := sumTo_red s _
/-- only the bytes count -/
theorem tot_congr (s t : ByteArray) (n : Nat) (h : ∀ k, k < 2 * n → at8 s k = at8 t k) : tot s n = tot t n := by
  induction n with
  | zero => rfl
  | succ n ih =>
    simp only [tot, wordAt]
    rw [ih (fun k hk => h k (by omega)), h (2 * n) (by omega), h (2 * n + 1) (by omega)]
theorem tot_append (s t : ByteArray) (m : Nat) (hs : s.size = 2 * m) : ∀ n, tot (s ++ t) (m + n) = tot s m + tot t n
  | 0 => by
    rw [Nat.add_zero, show tot t 0 = 0 from rfl, Int.add_zero]
    exact tot_congr _ _ _ (fun k hk => at8_left _ _ _ (by omega))
  | n + 1 => by
    have e1 : at8 (s ++ t) (2 * (m + n)) = at8 t (2 * n) := by rw [at8_right _ _ _ (by omega)]; congr 1; omega
    have e2 : at8 (s ++ t) (2 * (m + n) + 1) = at8 t (2 * n + 1) := by rw [at8_right _ _ _ (by omega)]; congr 1; omega
    show tot (s ++ t) (m + n) + wordAt (s ++ t) (m + n) = tot s m + (tot t n + wordAt t n)
    rw [tot_append s t m hs n]
    unfold wordAt
    rw [e1, e2]
    omega
/-- words beyond the end are zero -/
theorem tot_beyond (s : ByteArray) (n : Nat) (h : s.size ≤ 2 * n) : ∀ k, tot s (n + k) = tot s n
  | 0 => rfl
  | k + 1 => by
    show tot s (n + k) + wordAt s (n + k) = tot s n
    rw [tot_beyond s n h k]
    unfold wordAt
    rw [at8_beyond _ _ (by omega), at8_beyond _ _ (by omega)]
    omega
/-- a word put into another's place -/
theorem tot_put (s : ByteArray) (j : Nat) (v : Int) (hv : 0 ≤ v ∧ v ≤ 65535) (hj : 2 * j + 2 ≤ s.size) : ∀ n, tot (putBytes s ((2 * j : Nat) : Int) (word16 v)) n = tot s n + if j < n then v - wordAt s j else 0
  | 0 => by simp [tot]
  | n + 1 => by
    have hz := word16_size v hv
    have hw := at8_word16 v hv
    have b0 := at8_put s (word16 v) (2 * j) (by omega) (2 * n)
    have b1 := at8_put s (word16 v) (2 * j) (by omega) (2 * n + 1)
    have ih := tot_put s j v hv hj n
    rw [hz] at b0 b1
    show tot _ n + (at8 _ (2 * n) * 256 + at8 _ (2 * n + 1)) = tot s n + (at8 s (2 * n) * 256 + at8 s (2 * n + 1)) + _
    rw [ih]
    by_cases h1 : n = j
    · subst h1
      rw [if_pos (by omega), Nat.sub_self, hw.1] at b0
      rw [if_pos (by omega), show 2 * n + 1 - 2 * n = 1 by omega, hw.2] at b1
      rw [b0, b1, if_neg (by omega), if_pos (by omega)]
      unfold wordAt
      omega
    · rw [if_neg (by omega)] at b0
      rw [if_neg (by omega)] at b1
      rw [b0, b1]
      by_cases h2 : j < n
      · rw [if_pos h2, if_pos (by omega)]; omega
      · rw [if_neg h2, if_neg (by omega)]; omega

/-! ### the laws of words and sums -/
theorem law_words (s : ByteArray) (k : Nat) (hk : k + 4 ≤ s.size) (v c : Int) (hv : 0 ≤ v ∧ v ≤ 65535) (hc : 0 ≤ c ∧ c ≤ 65535) :
    get16 (putBytes s k (word16 v)) k = v ∧ get32 (putBytes s k (word32 (v * 65536 + c))) k = v * 65536 + c ∧ get16 (putBytes s k (word32 (v * 65536 + c))) k = v
      ∧ putBytes (putBytes s k (word16 v)) k (s.extract k (k + 2)) = s ∧ addSums v (65535 - v) = 65535 := by
  have hz := word16_size v hv
  have hz4 := word32_size (v * 65536 + c) (by omega)
  have hw := at8_word16 v hv
  have hw4 := at8_word32 (v * 65536 + c) (by omega)
  have hx : (s.extract k (k + 2)).size = 2 := by rw [ByteArray.size_extract]; omega
  refine ⟨?_, ?_, ?_, ?_, ?_⟩
  · unfold get16
    rw [putBytes_size, if_pos (by omega), Int.toNat_natCast, at8_put _ _ _ (by omega), at8_put _ _ _ (by omega), if_pos (by omega), if_pos (by omega), Nat.sub_self, show k + 1 - k = 1 by omega, hw.1, hw.2]
    omega
  · unfold get32
    rw [putBytes_size, if_pos (by omega), Int.toNat_natCast, at8_put _ _ _ (by omega), at8_put _ _ _ (by omega), at8_put _ _ _ (by omega), at8_put _ _ _ (by omega), if_pos (by omega), if_pos (by omega), if_pos (by omega), if_pos (by omega), Nat.sub_self,
      show k + 1 - k = 1 by omega, show k + 2 - k = 2 by omega, show k + 3 - k = 3 by omega, hw4.1, hw4.2.1, hw4.2.2.1, hw4.2.2.2]
    omega
  · unfold get16
    rw [putBytes_size, if_pos (by omega), Int.toNat_natCast, at8_put _ _ _ (by omega), at8_put _ _ _ (by omega), if_pos (by omega), if_pos (by omega), Nat.sub_self, show k + 1 - k = 1 by omega, hw4.1, hw4.2.1]
    omega
  · apply at8_ext
    · rw [putBytes_size, putBytes_size]
    · intro i hi
      rw [putBytes_size, putBytes_size] at hi
      rw [at8_put _ _ _ (by rw [putBytes_size]; omega), at8_put _ _ _ (by omega), hx, hz]
      by_cases h1 : k ≤ i ∧ i < k + 2
      · rw [if_pos h1, at8_extract _ _ _ _ (by omega)]; congr 1; omega
      · rw [if_neg h1, if_neg h1]
  · unfold addSums
    rw [if_pos (by omega), if_neg (by omega)]
    omega
theorem law_inserted (s : ByteArray) (hs : s.size % 2 = 0) :
    sumWords (s ++ word16 (checksum s)) = 65535 ∧ get16 (s ++ word16 (checksum s)) s.size = checksum s ∧ sumWords s + checksum s = 65535 ∧ (s ++ word16 (checksum s)).size = s.size + 2 := by
  have hr := sumWords_range s
  have hc : 0 ≤ checksum s ∧ checksum s ≤ 65535 := by unfold checksum; omega
  have hz := word16_size _ hc
  have hw := at8_word16 _ hc
  have hsz : (s ++ word16 (checksum s)).size = s.size + 2 := by rw [ByteArray.size_append, hz]
  refine ⟨?_, ?_, by unfold checksum; omega, hsz⟩
  · rw [sumWords_red, hsz, show (s.size + 2 + 1) / 2 = s.size / 2 + 1 by omega, tot_append s _ (s.size / 2) (by omega) 1]
    have e1 : tot (word16 (checksum s)) 1 = checksum s := by
      show 0 + wordAt _ 0 = _
      unfold wordAt
      rw [hw.1, hw.2]
      omega
    rw [e1]
    have e2 : sumWords s = red (tot s (s.size / 2)) := by rw [sumWords_red, show (s.size + 1) / 2 = s.size / 2 by omega]
    have hp := tot_pos s (s.size / 2)
    unfold checksum
    rw [e2]
    unfold red
    split <;> (try split) <;> omega
  · have := get16_mid s (bs []) (checksum s) hc s.size rfl
    rwa [show word16 (checksum s) ++ bs [] = word16 (checksum s) from L_ext (by rw [L_append, L_bs, List.append_nil])] at this
/-- an updated checksum is the one of the changed data, unless they are all zero -/
theorem law_updated (s : ByteArray) (j : Nat) (hj : 2 * j + 2 ≤ s.size) (v : Int) (hv : 0 ≤ v ∧ v ≤ 65535) (hne : ¬ sumWords (putBytes s ((2 * j : Nat) : Int) (word16 v)) = 0) :
    updateChecksum (checksum s) (wordAt s j) v = checksum (putBytes s ((2 * j : Nat) : Int) (word16 v)) := by
  have hw := wordAt_range s j
  have hr := sumWords_range s
  have ht := tot_put s j v hv hj ((s.size + 1) / 2)
  rw [if_pos (by omega)] at ht
  have hle := tot_le s j ((s.size + 1) / 2) (by omega)
  have e1 : sumWords (putBytes s ((2 * j : Nat) : Int) (word16 v)) = red (tot s ((s.size + 1) / 2) + (v - wordAt s j)) := by rw [sumWords_red, putBytes_size, ht]
  rw [e1] at hne
  have e2 : sumWords s = red (tot s ((s.size + 1) / 2)) := sumWords_red s
  unfold checksum updateChecksum
  rw [if_pos (by omega), e1, e2]
  have hp := tot_pos s ((s.size + 1) / 2)
  have hrr := red_range _ hp
  generalize tot s ((s.size + 1) / 2) = T at *
  generalize wordAt s j = u at *
  rw [show 65535 - (65535 - red T) = red T by omega, addSums_red (red T) (65535 - u) hrr (by omega), red_add T _ hp (by omega), addSums_red _ v (red_range _ (by omega)) hv, red_add _ v (by omega) hv.1]
  unfold red at hne ⊢
  by_cases h0 : T + (v - u) = 0
  · rw [if_pos h0] at hne; exact absurd rfl hne
  · rw [if_neg h0, if_neg (by omega)]
    omega
theorem law_updated0 (s : ByteArray) (j : Nat) (hj : 2 * j + 2 ≤ s.size) (v : Int) (hv : 0 ≤ v ∧ v ≤ 65535) (he : sumWords (putBytes s ((2 * j : Nat) : Int) (word16 v)) = 0) : v = 0 := by
  have ht := tot_put s j v hv hj ((s.size + 1) / 2)
  rw [if_pos (by omega)] at ht
  have hle := tot_le s j ((s.size + 1) / 2) (by omega)
  rw [sumWords_red, putBytes_size, ht] at he
  unfold red at he
  split at he <;> omega
end Go.Proofs.YtoikpdijkdmimaaDoor.P
