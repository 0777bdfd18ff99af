/-
  More plain functions and facts: a tag inserted, a tag stripped. No program is in sight here.
-/
import Derived.Test.YtnpnkkjdnmgbkaaPure5
namespace Go.Proofs.Ytnpnkkjdnmgbkaa.P
theorem pe_ethOk (s : ByteArray) (h : peOk s = true) : ethOk (peD s) (peS s) (peV s) (peT s) (peB s).size = true := by
  have h2 := h
  unfold peOk at h2
  simp only [Bool.and_eq_true] at h2
  unfold peD peS peV peT peB
  rw [h]
  exact h2.2
theorem ethOk_vlan {d s v t : Int} {n : Nat} (h : ethOk d s v t n = true) (v' : Int) (hv : -1 ≤ v' ∧ v' ≤ 4095) : ethOk d s v' t n = true := by
  have := of_decide_eq_true h
  exact decide_eq_true (by omega)
theorem pe_vlan (s : ByteArray) (h : peOk s = true) : -1 ≤ peV s ∧ peV s ≤ 4095 := by
  have := of_decide_eq_true (pe_ethOk s h)
  omega
def insOk (s : ByteArray) (v : Int) : Bool := peOk s && decide (peV s = -1 ∧ 0 ≤ v ∧ v ≤ 4095)
def insertTag (s : ByteArray) (v : Int) : ByteArray := if insOk s v then buildEth (peD s) (peS s) v (peT s) (peB s) else bs []
theorem ins_pe (s : ByteArray) (v : Int) (h : peOk s = false) : insertTag s v = bs [] ∧ insOk s v = false := by
  have : insOk s v = false := by unfold insOk; rw [h]; rfl
  unfold insertTag
  rw [this]
  simp
theorem ins_no (s : ByteArray) (v : Int) (h : ¬ (peV s = -1 ∧ 0 ≤ v ∧ v ≤ 4095)) : insertTag s v = bs [] ∧ insOk s v = false := by
  have : insOk s v = false := by unfold insOk; rw [decide_eq_false h]; simp
  unfold insertTag
  rw [this]
  simp
theorem ins_yes (s : ByteArray) (v : Int) (h : peOk s = true) (hv : peV s = -1 ∧ 0 ≤ v ∧ v ≤ 4095) : insertTag s v = buildEth (peD s) (peS s) v (peT s) (peB s) ∧ insOk s v = true := by
  have : insOk s v = true := by unfold insOk; rw [h, decide_eq_true hv]; rfl
  unfold insertTag
  rw [this]
  simp
def strOk (s : ByteArray) : Bool := peOk s && decide (¬ peV s = -1)
def stripTag (s : ByteArray) : ByteArray := if strOk s then buildEth (peD s) (peS s) (-1) (peT s) (peB s) else s
def stripV (s : ByteArray) : Int := if strOk s then peV s else -1
theorem str_pe (s : ByteArray) (h : peOk s = false) : stripTag s = s ∧ stripV s = -1 := by
  have : strOk s = false := by unfold strOk; rw [h]; rfl
  unfold stripTag stripV
  rw [this]
  simp
theorem str_no (s : ByteArray) (h : peV s = -1) : stripTag s = s ∧ stripV s = -1 := by
  have : strOk s = false := by unfold strOk; rw [decide_eq_false (by omega)]; simp
  unfold stripTag stripV
  rw [this]
  simp
theorem str_yes (s : ByteArray) (h : peOk s = true) (hv : ¬ peV s = -1) : stripTag s = buildEth (peD s) (peS s) (-1) (peT s) (peB s) ∧ stripV s = peV s := by
  have : strOk s = true := by unfold strOk; rw [h, decide_eq_true hv]; rfl
  unfold stripTag stripV
  rw [this]
  simp
end Go.Proofs.Ytnpnkkjdnmgbkaa.P
