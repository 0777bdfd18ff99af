/-
  More plain facts: the check sequence taken off, segments as bytes. No program is in sight here.
-/
import Derived.Test.YtnpnkkjdnmgbkaaPure
namespace Go.Proofs.Ytnpnkkjdnmgbkaa.P
/-! ### the check sequence -/
theorem fcs_short (s : ByteArray) (h : s.size < 4) : fcsBody s = bs [] ∧ fcsOk s = false := by
  have : fcsOk s = false := decide_eq_false (by omega)
  unfold fcsBody
  rw [this]
  simp
theorem fcs_no (s : ByteArray) (h : ¬ withFcs (s.extract 0 (s.size - 4)) = s) : fcsBody s = bs [] ∧ fcsOk s = false := by
  have : fcsOk s = false := decide_eq_false (fun x => h x.2)
  unfold fcsBody
  rw [this]
  simp
theorem fcs_yes (s : ByteArray) (h : 4 ≤ s.size) (he : withFcs (s.extract 0 (s.size - 4)) = s) : fcsBody s = s.extract 0 (s.size - 4) ∧ fcsOk s = true := by
  have : fcsOk s = true := decide_eq_true ⟨h, he⟩
  unfold fcsBody
  rw [this]
  simp
/-! ### segments -/
theorem bs_noseg (src dst kind sp dp seq ack flags win : Int) (b : ByteArray) (h : segOk kind sp dp seq ack flags win b.size = false) :
    buildSeg src dst kind sp dp seq ack flags win b = bs [] ∧ bsOk src dst kind sp dp seq ack flags win b = false := by
  have : bsOk src dst kind sp dp seq ack flags win b = false := by unfold bsOk; rw [h]; rfl
  unfold buildSeg
  rw [this]
  simp
theorem bs_nopseudo (src dst kind sp dp seq ack flags win : Int) (b : ByteArray) (h : pseudoOk src dst kind (segBare kind sp dp seq ack flags win b).size = false) :
    buildSeg src dst kind sp dp seq ack flags win b = bs [] ∧ bsOk src dst kind sp dp seq ack flags win b = false := by
  have : bsOk src dst kind sp dp seq ack flags win b = false := by unfold bsOk; rw [h]; simp
  unfold buildSeg
  rw [this]
  simp
theorem bs_yes (src dst kind sp dp seq ack flags win : Int) (b : ByteArray) (h : segOk kind sp dp seq ack flags win b.size = true) (hp : pseudoOk src dst kind (segBare kind sp dp seq ack flags win b).size = true) : bsOk src dst kind sp dp seq ack flags win b = true := by
  unfold bsOk
  rw [h, hp]
  rfl
theorem bs_tcp (src dst sp dp seq ack flags win : Int) (b : ByteArray) (h : segOk 6 sp dp seq ack flags win b.size = true) (hp : pseudoOk src dst 6 (segBare 6 sp dp seq ack flags win b).size = true) :
    buildSeg src dst 6 sp dp seq ack flags win b = putBytes (segBare 6 sp dp seq ack flags win b) 16 (word16 (checksum (pseudo src dst 6 (segBare 6 sp dp seq ack flags win b).size ++ segBare 6 sp dp seq ack flags win b))) ∧ bsOk src dst 6 sp dp seq ack flags win b = true := by
  have := bs_yes src dst 6 sp dp seq ack flags win b h hp
  unfold buildSeg segSum segSum0
  rw [this]
  simp
theorem bs_udp0 (src dst sp dp seq ack flags win : Int) (b : ByteArray) (h : segOk 17 sp dp seq ack flags win b.size = true) (hp : pseudoOk src dst 17 (segBare 17 sp dp seq ack flags win b).size = true)
    (h0 : checksum (pseudo src dst 17 (segBare 17 sp dp seq ack flags win b).size ++ segBare 17 sp dp seq ack flags win b) = 0) :
    buildSeg src dst 17 sp dp seq ack flags win b = putBytes (segBare 17 sp dp seq ack flags win b) 6 (word16 65535) ∧ bsOk src dst 17 sp dp seq ack flags win b = true := by
  have := bs_yes src dst 17 sp dp seq ack flags win b h hp
  unfold buildSeg segSum segSum0
  rw [this, if_pos rfl, if_neg (by decide), if_pos ⟨rfl, h0⟩]
  simp
theorem bs_udp (src dst sp dp seq ack flags win : Int) (b : ByteArray) (h : segOk 17 sp dp seq ack flags win b.size = true) (hp : pseudoOk src dst 17 (segBare 17 sp dp seq ack flags win b).size = true)
    (h0 : ¬ checksum (pseudo src dst 17 (segBare 17 sp dp seq ack flags win b).size ++ segBare 17 sp dp seq ack flags win b) = 0) :
    buildSeg src dst 17 sp dp seq ack flags win b = putBytes (segBare 17 sp dp seq ack flags win b) 6 (word16 (checksum (pseudo src dst 17 (segBare 17 sp dp seq ack flags win b).size ++ segBare 17 sp dp seq ack flags win b))) ∧ bsOk src dst 17 sp dp seq ack flags win b = true := by
  have := bs_yes src dst 17 sp dp seq ack flags win b h hp
  unfold buildSeg segSum segSum0
  rw [this, if_pos rfl, if_neg (by decide), if_neg (fun x => h0 x.2)]
  simp
theorem segBare_tcp (sp dp seq ack flags win : Int) (b : ByteArray) :
    word16 sp ++ word16 dp ++ word32 seq ++ word32 ack ++ bs [by8 80, by8 flags] ++ word16 win ++ word32 0 ++ b = segBare 6 sp dp seq ack flags win b := by
  unfold segBare segTcp segPorts
  rw [if_pos rfl, word32_zero]
  simp only [ByteArray.append_assoc]
end Go.Proofs.Ytnpnkkjdnmgbkaa.P
