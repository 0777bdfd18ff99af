/-
  Plain laws: a number read back from its decimal text.
-/
import Derived.Test.YtoikpdijkdmimaaDoorPureF
import Derived.Test.YtoikpdijkdmimaaDoorPure8
namespace Go.Proofs.YtoikpdijkdmimaaDoor.P
open Go.RowKit
open Go.Lib (decDigits itoa)

theorem at8n_bs (l : List UInt8) (k : Nat) (h : k < l.length) : at8n (bs l) k = l[k].toNat := by
  have := at8_bs l k h
  unfold at8 at this
  omega
theorem dig_congr (s t : ByteArray) : ∀ n, (∀ k, k < n → at8n s k = at8n t k) → allDig s n = allDig t n ∧ dv s n = dv t n
  | 0, _ => ⟨rfl, rfl⟩
  | n + 1, h => by
    obtain ⟨h1, h2⟩ := dig_congr s t n (fun k hk => h k (by omega))
    simp only [allDig, dv, h1, h2, h n (by omega)]
    exact ⟨trivial, trivial⟩
theorem dec_all (u : Nat) : allDig (bs (decDigits u)) (decDigits u).length = true ∧ dv (bs (decDigits u)) (decDigits u).length = u := by
  induction u using Nat.strongRecOn with
  | ind u ih =>
    by_cases h : u < 10
    · have hb : (by8 (48 + u)).toNat = 48 + u := by have := by8_toNat (48 + u) (by omega); omega
      rw [dec_small h]
      have h0 : at8n (bs [by8 (48 + u)]) 0 = 48 + u := by rw [at8n_bs _ 0 (by simp)]; exact hb
      simp only [List.length_singleton, allDig, dv, h0]
      refine ⟨?_, by omega⟩
      rw [Bool.true_and]
      exact decide_eq_true (by omega)
    · obtain ⟨i1, i2⟩ := ih (u / 10) (by omega)
      have hb : (by8 (48 + (u % 10 : Nat))).toNat = 48 + u % 10 := by have := by8_toNat (48 + (u % 10 : Nat)) (by omega); omega
      rw [dec_big h]
      generalize decDigits (u / 10) = D at i1 i2
      generalize by8 (48 + (u % 10 : Nat)) = x at hb
      rw [List.length_append, List.length_singleton]
      have hl : at8n (bs (D ++ [x])) D.length = 48 + u % 10 := by rw [at8n_bs _ _ (by simp), List.getElem_append_right (Nat.le_refl _)]; simpa using hb
      obtain ⟨c1, c2⟩ := dig_congr (bs (D ++ [x])) (bs D) D.length (fun k hk => by rw [at8n_bs _ k hk, at8n_bs _ k (by simp; omega), List.getElem_append_left hk])
      simp only [allDig, dv, hl]
      rw [c1, c2, i1, i2]
      refine ⟨?_, by omega⟩
      rw [Bool.true_and]
      exact decide_eq_true (by omega)
theorem num_size (n : Int) (h : -9223372036854775808 ≤ n ∧ n ≤ 9223372036854775807) : 1 ≤ (bs (itoa n)).size ∧ (bs (itoa n)).size ≤ 30 := by
  rw [bs_size]
  unfold itoa
  split
  · have := dec_length_le 19 n.natAbs (by omega)
    have := dec_pos n.natAbs
    simp only [List.length_cons]
    omega
  · have := dec_length_le 19 n.toNat (by omega)
    have := dec_pos n.toNat
    omega
theorem num_neg (n : Int) (h : n < 0) : puOk (bs (itoa n)) = false := by
  have e : itoa n = 45 :: decDigits n.natAbs := by unfold itoa; rw [if_pos h]
  rw [e]
  refine (pu_no _ (.inr (.inr (.inl (allDig_no _ _ 0 ?_ ?_))))).2
  · rw [bs_size]; simp
  · rw [at8n_bs _ 0 (by simp), List.getElem_cons_zero]; decide
theorem num_pos (n : Int) (h : 0 ≤ n) : puOk (bs (itoa n)) = decide (n ≤ 1000000000) ∧ (n ≤ 1000000000 → puV (bs (itoa n)) = n) := by
  have e : itoa n = decDigits n.toNat := by unfold itoa; rw [if_neg (by omega)]
  rw [e]
  obtain ⟨a1, a2⟩ := dec_all n.toNat
  have hz : (bs (decDigits n.toNat)).size = (decDigits n.toNat).length := bs_size _
  rw [← hz] at a1 a2
  have hi := (dec_iff _ a1).1 (by rw [a2])
  by_cases hb : n ≤ 1000000000
  · have hl := dec_length_le 9 n.toNat (by omega)
    obtain ⟨y1, y2⟩ := pu_yes _ ⟨hi.1, by omega⟩ hi.2 a1 (by omega)
    exact ⟨by rw [y2, decide_eq_true hb], fun _ => by rw [y1, a2]; omega⟩
  · obtain ⟨y1, y2⟩ := pu_no (bs (decDigits n.toNat)) (.inr (.inr (.inr (by omega))))
    exact ⟨by rw [y2, decide_eq_false hb], fun h => absurd h hb⟩
theorem itoa_ten : bs (itoa 10) = ⟨#[49, 48]⟩ := by
  have e : itoa 10 = decDigits 10 := by unfold itoa; rfl
  rw [e, dec_big (by decide), dec_small (by decide)]
  rfl
theorem itoa_m3 : bs (itoa (-3)) = ⟨#[45, 51]⟩ := by
  have e : itoa (-3) = 45 :: decDigits 3 := by unfold itoa; rfl
  rw [e, dec_small (by decide)]
  rfl
theorem toList_ne (S : ByteArray) (h : 1 ≤ S.size) : S.toList.isEmpty = false := by
  rw [ByteArray.toList_eq]
  obtain ⟨⟨l⟩⟩ := S
  have h2 : 1 ≤ l.length := h
  cases l with
  | nil => exact absurd h2 (by decide)
  | cons a l => rfl
end Go.Proofs.YtoikpdijkdmimaaDoor.P
