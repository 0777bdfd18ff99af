/-
  More plain functions and plain facts: frames read back. No program is in sight here.
-/
import Derived.Test.YtnpnkkjdnmgbkaaPure
namespace Go.Proofs.Ytnpnkkjdnmgbkaa.P
theorem peOk_short (s : ByteArray) (h : s.size < 18) : peOk s = false := by
  unfold peOk
  rw [decide_eq_false (by omega)]
  rfl
theorem ethOk_size {d s v t : Int} {n : Nat} (h : ethOk d s v t n = true) : 46 ≤ n ∧ n ≤ 400 := by
  have := of_decide_eq_true h
  omega
theorem ethOk_tag (d s v : Int) (n : Nat) : ethOk d s v 33024 n = false := decide_eq_false (by omega)
theorem peOk_plain (s : ByteArray) (h : ¬ get16 s 12 = 33024) (h14 : 14 ≤ s.size) : peOk s = ethOk (mac48 s 0 2) (mac48 s 6 8) (-1) (get16 s 12) (s.extract 14 s.size).size := by
  unfold peOk ptV ptT ptB
  rw [if_neg h, if_neg h, if_neg h]
  by_cases h18 : 18 ≤ s.size
  · rw [decide_eq_true h18]; rfl
  · rw [decide_eq_false h18]
    symm
    cases hc : ethOk (mac48 s 0 2) (mac48 s 6 8) (-1) (get16 s 12) (s.extract 14 s.size).size with
    | false => rfl
    | true =>
      have := ethOk_size hc
      rw [ByteArray.size_extract] at this
      omega
theorem peOk_tag (s : ByteArray) (h : get16 s 12 = 33024) (h18 : 18 ≤ s.size) : peOk s = ethOk (mac48 s 0 2) (mac48 s 6 8) (get16 s 14) (get16 s 16) (s.extract 18 s.size).size := by
  unfold peOk ptV ptT ptB
  rw [if_pos h, if_pos h, if_pos h, decide_eq_true h18]
  rfl
theorem pe_bad (s : ByteArray) (h : peOk s = false) : peD s = 0 ∧ peS s = 0 ∧ peV s = 0 ∧ peT s = 0 ∧ peB s = bs [] := by
  unfold peD peS peV peT peB
  rw [h]
  simp
theorem pe_plain (s : ByteArray) (hok : peOk s = true) (h : ¬ get16 s 12 = 33024) : peD s = mac48 s 0 2 ∧ peS s = mac48 s 6 8 ∧ peV s = -1 ∧ peT s = get16 s 12 ∧ peB s = s.extract 14 s.size := by
  unfold peD peS peV peT peB ptV ptT ptB
  rw [hok, if_neg h, if_neg h, if_neg h]
  simp
theorem pe_tag (s : ByteArray) (hok : peOk s = true) (h : get16 s 12 = 33024) : peD s = mac48 s 0 2 ∧ peS s = mac48 s 6 8 ∧ peV s = get16 s 14 ∧ peT s = get16 s 16 ∧ peB s = s.extract 18 s.size := by
  unfold peD peS peV peT peB ptV ptT ptB
  rw [hok, if_pos h, if_pos h, if_pos h]
  simp
/-! ### datagrams read back -/
theorem piOk_in (s : ByteArray) (h : piIn s = false) : piOk s = false := by
  unfold piOk
  rw [h]
  rfl
theorem piOk_no (s : ByteArray) (h : ipOk (at8 s 1) (get16 s 4) (at8 s 8) (at8 s 9) (get32 s 12) (get32 s 16) (s.extract 20 (get16 s 2).toNat).size = false) : piOk s = false := by
  unfold piOk piBody ipLen
  rw [h]
  simp
theorem piOk_ne (s : ByteArray) (h : ¬ buildIp (at8 s 1) (get16 s 4) (at8 s 8) (at8 s 9) (get32 s 12) (get32 s 16) (s.extract 20 (get16 s 2).toNat) = s.extract 0 (get16 s 2).toNat) : piOk s = false := by
  unfold piOk piBody ipLen
  rw [decide_eq_false h]
  simp
theorem piOk_yes (s : ByteArray) (hin : piIn s = true) (h : ipOk (at8 s 1) (get16 s 4) (at8 s 8) (at8 s 9) (get32 s 12) (get32 s 16) (s.extract 20 (get16 s 2).toNat).size = true)
    (he : buildIp (at8 s 1) (get16 s 4) (at8 s 8) (at8 s 9) (get32 s 12) (get32 s 16) (s.extract 20 (get16 s 2).toNat) = s.extract 0 (get16 s 2).toNat) : piOk s = true := by
  unfold piOk piBody ipLen
  rw [hin, h, decide_eq_true he]
  rfl
theorem pi_bad (s : ByteArray) (h : piOk s = false) : piTos s = 0 ∧ piId s = 0 ∧ piTtl s = 0 ∧ piProto s = 0 ∧ piSrc s = 0 ∧ piDst s = 0 ∧ piB s = bs [] := by
  unfold piTos piId piTtl piProto piSrc piDst piB
  rw [h]
  simp
theorem pi_good (s : ByteArray) (h : piOk s = true) : piTos s = at8 s 1 ∧ piId s = get16 s 4 ∧ piTtl s = at8 s 8 ∧ piProto s = at8 s 9 ∧ piSrc s = get32 s 12 ∧ piDst s = get32 s 16 ∧ piB s = s.extract 20 (get16 s 2).toNat := by
  unfold piTos piId piTtl piProto piSrc piDst piB piBody ipLen
  rw [h]
  simp
theorem piOk_size (s : ByteArray) (h : piOk s = true) : 20 ≤ s.size ∧ 20 ≤ get16 s 2 ∧ get16 s 2 ≤ s.size := by
  cases hin : piIn s with
  | false => rw [piOk_in s hin] at h; cases h
  | true => exact of_decide_eq_true hin
theorem ttl_bad (s : ByteArray) (h : piOk s = false) : lowerTtl s = s ∧ ttlOk s = false := by
  have : ttlOk s = false := by unfold ttlOk; rw [h]; rfl
  unfold lowerTtl
  rw [this]
  simp
theorem ttl_zero (s : ByteArray) (h : at8 s 8 = 0) : lowerTtl s = s ∧ ttlOk s = false := by
  have : ttlOk s = false := by unfold ttlOk; simp [h]
  unfold lowerTtl
  rw [this]
  simp
theorem ttl_good (s : ByteArray) (h : piOk s = true) (ht : ¬ at8 s 8 = 0) :
    lowerTtl s = putBytes (putBytes s 8 (word16 (at8 s 8 * 256 + at8 s 9 - 256))) 10 (word16 (updateChecksum (get16 s 10) (at8 s 8 * 256 + at8 s 9) (at8 s 8 * 256 + at8 s 9 - 256))) ∧ ttlOk s = true := by
  have : ttlOk s = true := by unfold ttlOk; simp [h, ht]
  unfold lowerTtl ttlAfter
  rw [this]
  simp
theorem get16_at (s : ByteArray) (k : Nat) (h : k + 2 ≤ s.size) : get16 s (k : Int) = at8 s k * 256 + at8 s (k + 1) := by
  unfold get16
  rw [if_pos (by omega)]
  rfl
end Go.Proofs.Ytnpnkkjdnmgbkaa.P
