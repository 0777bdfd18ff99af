/-
  More plain functions and facts: images and frames, built and read back. No program is in sight here.
-/
import Derived.Test.YtnpnkkjdnmgbkaaPure
namespace Go.Proofs.Ytnpnkkjdnmgbkaa.P
theorem buildSeg_size_le (src dst kind sp dp seq ack flags win : Int) (b : ByteArray) : (buildSeg src dst kind sp dp seq ack flags win b).size ≤ 20 + b.size := by
  unfold buildSeg
  split
  · rw [putBytes_size]; exact segBare_size_le _ _ _ _ _ _ _ _
  · simp [bs_size]
theorem padBody_size (s : ByteArray) (h : s.size ≤ 400) : 46 ≤ (padBody s).size ∧ (padBody s).size ≤ 400 := by
  unfold padBody
  split
  · rw [ByteArray.size_append, rep_size]; omega
  · omega
theorem superOk_in {dm sm vl tos id ttl si di kind sp dp seq ack flags win : Int} {n : Nat} (h : superOk dm sm vl tos id ttl si di kind sp dp seq ack flags win n = true) :
    superR dm sm vl tos id ttl si di = true ∧ segOk kind sp dp seq ack flags win n = true := by
  unfold superOk at h
  simp only [Bool.and_eq_true] at h
  exact ⟨h.1.1, h.1.2⟩
theorem superOk_n {dm sm vl tos id ttl si di kind sp dp seq ack flags win : Int} {n : Nat} (h : superOk dm sm vl tos id ttl si di kind sp dp seq ack flags win n = true) : n ≤ 320 := by
  have := of_decide_eq_true (superOk_in h).2
  omega
theorem packetOk_super {dm sm vl tos id ttl si di kind sp dp seq ack flags win : Int} {n : Nat} (h : packetOk dm sm vl tos id ttl si di kind sp dp seq ack flags win n = true) : superOk dm sm vl tos id ttl si di kind sp dp seq ack flags win n = true := by
  unfold packetOk at h
  simp only [Bool.and_eq_true] at h
  exact h.1
theorem imgOk_super (dm sm vl tos id ttl si di kind sp dp seq ack flags win : Int) (b : ByteArray) : imgOk dm sm vl tos id ttl si di kind sp dp seq ack flags win b = superOk dm sm vl tos id ttl si di kind sp dp seq ack flags win b.size := by
  unfold imgOk
  cases h : superOk dm sm vl tos id ttl si di kind sp dp seq ack flags win b.size with
  | false => rfl
  | true =>
    have h1 := of_decide_eq_true (superOk_in h).1
    have h2 := padBody_size (imgIp tos id ttl si di kind sp dp seq ack flags win b) (buildIp_size_le _ _ _ _ _ _ _)
    rw [show ethOk dm sm vl 2048 (padBody (imgIp tos id ttl si di kind sp dp seq ack flags win b)).size = true from decide_eq_true (by omega)]
    rfl
theorem img_no (dm sm vl tos id ttl si di kind sp dp seq ack flags win : Int) (b : ByteArray) (h : superOk dm sm vl tos id ttl si di kind sp dp seq ack flags win b.size = false) :
    image dm sm vl tos id ttl si di kind sp dp seq ack flags win b = bs [] ∧ imgOk dm sm vl tos id ttl si di kind sp dp seq ack flags win b = false := by
  unfold image imgOk
  rw [h]
  simp
theorem img_yes (dm sm vl tos id ttl si di kind sp dp seq ack flags win : Int) (b : ByteArray) (h : superOk dm sm vl tos id ttl si di kind sp dp seq ack flags win b.size = true) :
    image dm sm vl tos id ttl si di kind sp dp seq ack flags win b = buildEth dm sm vl 2048 (padBody (imgIp tos id ttl si di kind sp dp seq ack flags win b)) ∧ imgOk dm sm vl tos id ttl si di kind sp dp seq ack flags win b = ethOk dm sm vl 2048 (padBody (imgIp tos id ttl si di kind sp dp seq ack flags win b)).size := by
  unfold image imgOk
  rw [h]
  simp
theorem buildEth_size_le (d s v t : Int) (b : ByteArray) : (buildEth d s v t b).size ≤ 18 + b.size := by
  unfold buildEth
  split
  · unfold ethHead
    have h1 := mac_size_le d
    have h2 := mac_size_le s
    have h3 := word16_size_le 33024
    have h4 := word16_size_le v
    have h5 := word16_size_le t
    split <;> simp only [ByteArray.size_append] <;> omega
  · simp [bs_size]
theorem image_size_le (dm sm vl tos id ttl si di kind sp dp seq ack flags win : Int) (b : ByteArray) : (image dm sm vl tos id ttl si di kind sp dp seq ack flags win b).size ≤ 418 := by
  unfold image
  split
  · have h1 := buildEth_size_le dm sm vl 2048 (padBody (imgIp tos id ttl si di kind sp dp seq ack flags win b))
    have h2 := padBody_size (imgIp tos id ttl si di kind sp dp seq ack flags win b) (buildIp_size_le _ _ _ _ _ _ _)
    omega
  · simp [bs_size]
def frame (dm sm vl tos id ttl si di kind sp dp seq ack flags win : Int) (b : ByteArray) : ByteArray :=
  if packetOk dm sm vl tos id ttl si di kind sp dp seq ack flags win b.size then withFcs (image dm sm vl tos id ttl si di kind sp dp seq ack flags win b) else bs []

/-! ### images read back -/
theorem ri_c1 (s : ByteArray) (h : peOk s = false) : riCode s = 2 := by
  unfold riCode
  rw [if_pos (.inl h)]
theorem ri_c2 (s : ByteArray) (h : ¬ peT s = 2048) : riCode s = 2 := by
  unfold riCode
  rw [if_pos (.inr h)]
theorem ri_c3 (s : ByteArray) (h1 : peOk s = true) (h2 : peT s = 2048) (h3 : piOk (peB s) = false) : riCode s = 3 := by
  unfold riCode
  rw [if_neg (by simp [h1, h2]), if_pos h3]
theorem ri_c4 (s : ByteArray) (h1 : peOk s = true) (h2 : peT s = 2048) (h3 : piOk (peB s) = true) (h4 : psOk (riSrc s) (riDst s) (riProto s) (riB s) = false) : riCode s = 4 := by
  unfold riCode
  rw [if_neg (by simp [h1, h2]), if_neg (by simp [h3]), if_pos h4]
theorem ri_c5 (s : ByteArray) (h1 : peOk s = true) (h2 : peT s = 2048) (h3 : piOk (peB s) = true) (h4 : psOk (riSrc s) (riDst s) (riProto s) (riB s) = true) (h5 : riSuper s = false) : riCode s = 5 := by
  unfold riCode
  rw [if_neg (by simp [h1, h2]), if_neg (by simp [h3]), if_neg (by simp [h4]), if_pos h5]
theorem ri_c0 (s : ByteArray) (h1 : peOk s = true) (h2 : peT s = 2048) (h3 : piOk (peB s) = true) (h4 : psOk (riSrc s) (riDst s) (riProto s) (riB s) = true) (h5 : riSuper s = true) : riCode s = 0 := by
  unfold riCode
  rw [if_neg (by simp [h1, h2]), if_neg (by simp [h3]), if_neg (by simp [h4]), if_neg (by simp [h5])]
theorem ri_no (s : ByteArray) (c : Int) (hc : ¬ c = 0) (h : riCode s = c) (v : Int) : ri s v = 0 := by
  unfold ri
  rw [h, if_neg hc]
theorem riBody_no (s : ByteArray) (c : Int) (hc : ¬ c = 0) (h : riCode s = c) : riBody s = bs [] := by
  unfold riBody
  rw [h, if_neg hc]
theorem ri_yes (s : ByteArray) (h : riCode s = 0) (v : Int) : ri s v = v := by
  unfold ri
  rw [h, if_pos rfl]
theorem riBody_yes (s : ByteArray) (h : riCode s = 0) : riBody s = psB (riSrc s) (riDst s) (riProto s) (riB s) := by
  unfold riBody
  rw [h, if_pos rfl]
theorem extract_size_le (s : ByteArray) (a b : Nat) : (s.extract a b).size ≤ s.size := by
  rw [ByteArray.size_extract]
  omega
theorem peB_size_le (s : ByteArray) : (peB s).size ≤ s.size := by
  unfold peB ptB
  split
  · split <;> exact extract_size_le _ _ _
  · simp [bs_size]
theorem piB_size_le (s : ByteArray) : (piB s).size ≤ s.size := by
  unfold piB piBody
  split
  · exact extract_size_le _ _ _
  · simp [bs_size]
theorem psB_size_le (src dst kind : Int) (s : ByteArray) : (psB src dst kind s).size ≤ s.size := by
  unfold psB psB0
  split
  · split <;> exact extract_size_le _ _ _
  · simp [bs_size]
theorem fcsBody_size_le (s : ByteArray) : (fcsBody s).size ≤ s.size := by
  unfold fcsBody
  split
  · exact extract_size_le _ _ _
  · simp [bs_size]
theorem riBody_size_le (s : ByteArray) : (riBody s).size ≤ s.size := by
  unfold riBody
  split
  · have h1 := psB_size_le (riSrc s) (riDst s) (riProto s) (riB s)
    have h2 : (riB s).size ≤ (peB s).size := piB_size_le (peB s)
    have h3 := peB_size_le s
    omega
  · simp [bs_size]
/-! ### frames read back -/
def rfPacket (t : ByteArray) : Bool :=
  packetOk (ri t (peD t)) (ri t (peS t)) (ri t (peV t)) (ri t (piTos (peB t))) (ri t (piId (peB t))) (ri t (piTtl (peB t))) (ri t (riSrc t)) (ri t (riDst t))
    (ri t (psKind (riSrc t) (riDst t) (riProto t) (riB t))) (ri t (psSp (riSrc t) (riDst t) (riProto t) (riB t))) (ri t (psDp (riSrc t) (riDst t) (riProto t) (riB t))) (ri t (psSeq (riSrc t) (riDst t) (riProto t) (riB t)))
    (ri t (psAck (riSrc t) (riDst t) (riProto t) (riB t))) (ri t (psFlags (riSrc t) (riDst t) (riProto t) (riB t))) (ri t (psWin (riSrc t) (riDst t) (riProto t) (riB t))) (riBody t).size
def rfCode (s : ByteArray) : Int :=
  if fcsOk s = false then 1 else if riCode (fcsBody s) ≠ 0 then riCode (fcsBody s) else if rfPacket (fcsBody s) = false then 5 else 0
def rf (s : ByteArray) (v : Int) : Int := if rfCode s = 0 then v else 0
def rfBody (s : ByteArray) : ByteArray := if rfCode s = 0 then riBody (fcsBody s) else bs []
theorem rf_c1 (s : ByteArray) (h : fcsOk s = false) : rfCode s = 1 := by
  unfold rfCode
  rw [if_pos h]
theorem rf_c2 (s : ByteArray) (h : fcsOk s = true) (h2 : ¬ riCode (fcsBody s) = 0) : rfCode s = riCode (fcsBody s) := by
  unfold rfCode
  rw [if_neg (by simp [h]), if_pos h2]
theorem rf_c5 (s : ByteArray) (h : fcsOk s = true) (h2 : riCode (fcsBody s) = 0) (h3 : rfPacket (fcsBody s) = false) : rfCode s = 5 := by
  unfold rfCode
  rw [if_neg (by simp [h]), if_neg (by simp [h2]), if_pos h3]
theorem rf_c0 (s : ByteArray) (h : fcsOk s = true) (h2 : riCode (fcsBody s) = 0) (h3 : rfPacket (fcsBody s) = true) : rfCode s = 0 := by
  unfold rfCode
  rw [if_neg (by simp [h]), if_neg (by simp [h2]), if_neg (by simp [h3])]
theorem rf_no (s : ByteArray) (h : ¬ rfCode s = 0) (v : Int) : rf s v = 0 := by
  unfold rf
  rw [if_neg h]
theorem rfBody_no (s : ByteArray) (h : ¬ rfCode s = 0) : rfBody s = bs [] := by
  unfold rfBody
  rw [if_neg h]
theorem rf_yes (s : ByteArray) (h : rfCode s = 0) (v : Int) : rf s v = v := by
  unfold rf
  rw [if_pos h]
theorem rfBody_yes (s : ByteArray) (h : rfCode s = 0) : rfBody s = riBody (fcsBody s) := by
  unfold rfBody
  rw [if_pos h]
end Go.Proofs.Ytnpnkkjdnmgbkaa.P
