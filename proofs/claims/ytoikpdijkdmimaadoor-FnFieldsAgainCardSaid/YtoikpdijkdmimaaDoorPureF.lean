/-
  Plain functions and laws on decimal text. No program is in sight here.
-/
import Derived.Test.YtoikpdijkdmimaaDoorPure
import Derived.Lib.ItoaNum
namespace Go.Proofs.YtoikpdijkdmimaaDoor.P
open Go.Lib (decDigits itoa)
theorem dec_small {u : Nat} (h : u < 10) : decDigits u = [by8 (48 + u)] := by
  rw [Go.Lib.decDigits_one h]
  rfl
theorem dec_big {u : Nat} (h : ¬ u < 10) : decDigits u = decDigits (u / 10) ++ [by8 (48 + (u % 10 : Nat))] := by
  rw [decDigits, dif_neg h]
  rfl
/-- the digits that stand when v of the number is still to be written -/
def decFront (v : Nat) : List UInt8 := if v = 0 then [] else decDigits v
theorem decFront_step (v : Nat) (h : ¬ v = 0) : decFront v = decFront (v / 10) ++ [by8 (48 + (v % 10 : Nat))] := by
  unfold decFront
  rw [if_neg h]
  by_cases h1 : v < 10
  · rw [if_pos (by omega), dec_small h1, show v % 10 = v by omega]
    rfl
  · rw [if_neg (by omega), dec_big h1]
theorem dec_length_le : ∀ (j u : Nat), u < 10 ^ (j + 1) → (decDigits u).length ≤ j + 1
  | 0, u, h => by rw [dec_small (by omega)]; simp
  | j + 1, u, h => by
    by_cases h1 : u < 10
    · rw [dec_small h1]; simp
    · rw [dec_big h1, List.length_append]
      have h2 : u / 10 < 10 ^ (j + 1) := by
        rw [Nat.div_lt_iff_lt_mul (by decide)]
        rw [show 10 ^ (j + 1) * 10 = 10 ^ (j + 1 + 1) from (Nat.pow_succ 10 (j + 1)).symm]
        exact h
      have := dec_length_le j (u / 10) h2
      simp
      omega
theorem dec_pos : ∀ u, 0 < (decDigits u).length := fun u => by
  by_cases h : u < 10
  · rw [dec_small h]; simp
  · rw [dec_big h]; simp
/-! ### numbers read -/
def allDig (s : ByteArray) : Nat → Bool
  | 0 => true
  | k + 1 => allDig s k && decide (48 ≤ at8n s k ∧ at8n s k ≤ 57)
def dv (s : ByteArray) : Nat → Nat
  | 0 => 0
  | k + 1 => dv s k * 10 + (at8n s k - 48)
theorem allDig_at (s : ByteArray) : ∀ (n k : Nat), allDig s n = true → k < n → 48 ≤ at8n s k ∧ at8n s k ≤ 57
  | 0, k, _, h => by omega
  | n + 1, k, h, hk => by
    simp only [allDig, Bool.and_eq_true, decide_eq_true_eq] at h
    by_cases h1 : k = n
    · subst h1; exact h.2
    · exact allDig_at s n k h.1 (by omega)
theorem allDig_no (s : ByteArray) (n k : Nat) (hk : k < n) (h : ¬ (48 ≤ at8n s k ∧ at8n s k ≤ 57)) : allDig s n = false := by
  cases hc : allDig s n with
  | false => rfl
  | true => exact absurd (allDig_at s n k hc hk) h
theorem dv_lt (s : ByteArray) : ∀ n, allDig s n = true → dv s n < 10 ^ n
  | 0, _ => by simp [dv]
  | n + 1, h => by
    have h1 := allDig_at s (n + 1) n h (by omega)
    simp only [allDig, Bool.and_eq_true, decide_eq_true_eq] at h
    have h2 := dv_lt s n h.1
    simp only [dv]
    rw [Nat.pow_succ]
    omega
/-- a leading zero: the value is shorter than the text -/
theorem dv_zero (s : ByteArray) (h0 : at8n s 0 = 48) : ∀ n, allDig s (n + 1) = true → dv s (n + 1) < 10 ^ n
  | 0, _ => by simp [dv, h0]
  | n + 1, h => by
    have h1 := allDig_at s (n + 2) (n + 1) h (by omega)
    simp only [allDig, Bool.and_eq_true, decide_eq_true_eq] at h
    have h2 := dv_zero s h0 n (by simp only [allDig, Bool.and_eq_true, decide_eq_true_eq]; exact h.1)
    show dv s (n + 1) * 10 + (at8n s (n + 1) - 48) < 10 ^ (n + 1)
    rw [Nat.pow_succ]
    omega
theorem dv_pos (s : ByteArray) (h0 : 49 ≤ at8n s 0) : ∀ n, 1 ≤ dv s (n + 1)
  | 0 => by simp [dv]; omega
  | n + 1 => by
    have := dv_pos s h0 n
    show 1 ≤ dv s (n + 1) * 10 + _
    omega
theorem take_next (s : ByteArray) (k : Nat) (h : k < s.size) : (L s).take (k + 1) = (L s).take k ++ [by8 (at8n s k : Nat)] := by
  have hl : k < (L s).length := by rw [L_length]; exact h
  rw [List.take_succ_eq_append_getElem hl]
  congr 2
  have e : at8n s k = (L s)[k].toNat := by unfold at8n; rw [List.getElem?_eq_getElem hl]; rfl
  rw [e]
  apply UInt8.toNat_inj.1
  unfold by8
  simp
/-- without a leading zero the digits are the text -/
theorem dec_dv (s : ByteArray) : ∀ n, n + 1 ≤ s.size → allDig s (n + 1) = true → (n = 0 ∨ 49 ≤ at8n s 0) → decDigits (dv s (n + 1)) = (L s).take (n + 1)
  | 0, hs, h, _ => by
    have h1 := allDig_at s 1 0 h (by omega)
    rw [take_next s 0 (by omega)]
    have e : dv s (0 + 1) = at8n s 0 - 48 := by simp [dv]
    rw [e, dec_small (by omega)]
    simp
    congr 1
    omega
  | n + 1, hs, h, h0 => by
    have h49 : 49 ≤ at8n s 0 := by omega
    have h1 := allDig_at s (n + 2) (n + 1) h (by omega)
    have hp := dv_pos s h49 n
    simp only [allDig, Bool.and_eq_true, decide_eq_true_eq] at h
    have ih := dec_dv s n (by omega) (by simp only [allDig, Bool.and_eq_true, decide_eq_true_eq]; exact h.1) (.inr h49)
    have e : dv s (n + 1 + 1) = dv s (n + 1) * 10 + (at8n s (n + 1) - 48) := rfl
    rw [take_next s (n + 1) (by omega), ← ih, e, dec_big (by omega), show (dv s (n + 1) * 10 + (at8n s (n + 1) - 48)) / 10 = dv s (n + 1) by omega, show (dv s (n + 1) * 10 + (at8n s (n + 1) - 48)) % 10 = at8n s (n + 1) - 48 by omega]
    congr 2
    congr 1
    omega
def puOk (s : ByteArray) : Bool := decide (1 ≤ s.size ∧ s.size ≤ 10) && decide (s.size = 1 ∨ ¬ at8n s 0 = 48) && allDig s s.size && decide (dv s s.size ≤ 1000000000)
def puV (s : ByteArray) : Int := if puOk s then (dv s s.size : Int) else 0
/-- what the reference asks: the number's own text -/
theorem dec_iff (s : ByteArray) (h : allDig s s.size = true) : (bs (decDigits (dv s s.size)) = s) ↔ (1 ≤ s.size ∧ (s.size = 1 ∨ ¬ at8n s 0 = 48)) := by
  constructor
  · intro he
    have hl : (decDigits (dv s s.size)).length = s.size := by rw [← bs_size, he]
    have hp := dec_pos (dv s s.size)
    refine ⟨by omega, ?_⟩
    by_cases h1 : s.size = 1
    · exact .inl h1
    · right
      intro h0
      obtain ⟨n, hn⟩ : ∃ n, s.size = n + 2 := ⟨s.size - 2, by omega⟩
      have hz := dv_zero s h0 (n + 1) (by rw [← hn]; exact h)
      have := dec_length_le n (dv s (n + 2)) hz
      rw [hn] at hl
      omega
  · rintro ⟨h1, h2⟩
    obtain ⟨n, hn⟩ : ∃ n, s.size = n + 1 := ⟨s.size - 1, by omega⟩
    have hd := allDig_at s s.size 0 h (by omega)
    have := dec_dv s n (by omega) (by rw [← hn]; exact h) (by omega)
    rw [hn, this]
    apply L_ext
    rw [L_bs, List.take_of_length_le (by rw [L_length]; omega)]
theorem pu_yes (s : ByteArray) (h1 : 1 ≤ s.size ∧ s.size ≤ 10) (h2 : s.size = 1 ∨ ¬ at8n s 0 = 48) (h3 : allDig s s.size = true) (h4 : dv s s.size ≤ 1000000000) : puV s = dv s s.size ∧ puOk s = true := by
  have : puOk s = true := by unfold puOk; rw [decide_eq_true h1, decide_eq_true h2, h3, decide_eq_true h4]; rfl
  unfold puV
  rw [this]
  exact ⟨rfl, rfl⟩
theorem pu_no (s : ByteArray) (h : ¬ (1 ≤ s.size ∧ s.size ≤ 10) ∨ ¬ (s.size = 1 ∨ ¬ at8n s 0 = 48) ∨ allDig s s.size = false ∨ ¬ dv s s.size ≤ 1000000000) : puV s = 0 ∧ puOk s = false := by
  have : puOk s = false := by
    unfold puOk
    rcases h with h | h | h | h
    · rw [decide_eq_false h]; rfl
    · rw [decide_eq_false h]; simp
    · rw [h]; simp
    · rw [decide_eq_false h]; simp
  unfold puV
  rw [this]
  exact ⟨rfl, rfl⟩
end Go.Proofs.YtoikpdijkdmimaaDoor.P
