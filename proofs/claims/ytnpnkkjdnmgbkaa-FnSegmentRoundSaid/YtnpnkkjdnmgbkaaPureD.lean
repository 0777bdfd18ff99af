/-
  Plain laws on packets: read from their images and their frames. No program is in sight here.
-/
import Derived.Test.YtnpnkkjdnmgbkaaPureC
import Derived.Test.YtnpnkkjdnmgbkaaPure5
namespace Go.Proofs.Ytnpnkkjdnmgbkaa.P
theorem padBody_tail (s : ByteArray) : ∃ t, padBody s = s ++ t := by
  unfold padBody
  split
  · exact ⟨_, rfl⟩
  · exact ⟨bs [], (app_nil s).symm⟩
theorem super_parts {dm sm vl tos id ttl si di kind sp dp seq ack flags win : Int} {b : ByteArray} (h : superOk dm sm vl tos id ttl si di kind sp dp seq ack flags win b.size = true) :
    bsOk si di kind sp dp seq ack flags win b = true ∧ ipOk tos id ttl kind si di (imgSeg si di kind sp dp seq ack flags win b).size = true ∧ ethOk dm sm vl 2048 (padBody (imgIp tos id ttl si di kind sp dp seq ack flags win b)).size = true := by
  obtain ⟨h1, h2⟩ := superOk_in h
  have r1 := of_decide_eq_true h1
  have r2 := of_decide_eq_true h2
  have hk : kind = 6 ∨ kind = 17 := by omega
  have zb := segBare_size_le kind sp dp seq ack flags win b
  have zg : (imgSeg si di kind sp dp seq ack flags win b).size ≤ 20 + b.size := buildSeg_size_le si di kind sp dp seq ack flags win b
  have hn := superOk_n h
  refine ⟨?_, decide_eq_true (by omega), ?_⟩
  · unfold bsOk
    rw [h2, show pseudoOk si di kind (segBare kind sp dp seq ack flags win b).size = true from decide_eq_true (by omega)]
    rfl
  · have hi := imgOk_super dm sm vl tos id ttl si di kind sp dp seq ack flags win b
    unfold imgOk at hi
    rw [h] at hi
    simpa using hi
/-- a packet is read from its image -/
theorem img_round (dm sm vl tos id ttl si di kind sp dp seq ack flags win : Int) (b : ByteArray) (h : superOk dm sm vl tos id ttl si di kind sp dp seq ack flags win b.size = true) :
    let X := image dm sm vl tos id ttl si di kind sp dp seq ack flags win b
    riCode X = 0 ∧ peD X = dm ∧ peS X = sm ∧ peV X = vl ∧ piTos (peB X) = tos ∧ piId (peB X) = id ∧ piTtl (peB X) = ttl ∧ riSrc X = si ∧ riDst X = di
      ∧ psKind (riSrc X) (riDst X) (riProto X) (riB X) = kind ∧ psSp (riSrc X) (riDst X) (riProto X) (riB X) = sp ∧ psDp (riSrc X) (riDst X) (riProto X) (riB X) = dp ∧ psSeq (riSrc X) (riDst X) (riProto X) (riB X) = seq
      ∧ psAck (riSrc X) (riDst X) (riProto X) (riB X) = ack ∧ psFlags (riSrc X) (riDst X) (riProto X) (riB X) = flags ∧ psWin (riSrc X) (riDst X) (riProto X) (riB X) = win ∧ riBody X = b := by
  intro X
  obtain ⟨hbs, hip, heth⟩ := super_parts h
  obtain ⟨g1, g2, g3, g4, g5, g6, g7, g8, g9⟩ := seg_round si di kind sp dp seq ack flags win b hbs
  obtain ⟨t, ht⟩ := padBody_tail (imgIp tos id ttl si di kind sp dp seq ack flags win b)
  obtain ⟨i1, i2, i3, i4, i5, i6, i7, i8⟩ := ip_round tos id ttl kind si di (imgSeg si di kind sp dp seq ack flags win b) hip t
  have hX : X = buildEth dm sm vl 2048 (padBody (imgIp tos id ttl si di kind sp dp seq ack flags win b)) := (img_yes dm sm vl tos id ttl si di kind sp dp seq ack flags win b h).1
  obtain ⟨e1, e2, e3, e4, e5, e6, _⟩ := eth_round dm sm vl 2048 _ heth
  rw [← hX] at e1 e2 e3 e4 e5 e6
  have eb : peB X = buildIp tos id ttl kind si di (imgSeg si di kind sp dp seq ack flags win b) ++ t := by rw [e6, ht]; rfl
  rw [← eb] at i1 i2 i3 i4 i5 i6 i7 i8
  have q1 : riSrc X = si := i6
  have q2 : riDst X = di := i7
  have q3 : riProto X = kind := i5
  have q4 : riB X = buildSeg si di kind sp dp seq ack flags win b := i8
  have g1' : psOk (riSrc X) (riDst X) (riProto X) (riB X) = true := by rw [q1, q2, q3, q4]; exact g1
  have p2 : psKind (riSrc X) (riDst X) (riProto X) (riB X) = kind := by rw [q1, q2, q3, q4]; exact g2
  have p3 : psSp (riSrc X) (riDst X) (riProto X) (riB X) = sp := by rw [q1, q2, q3, q4]; exact g3
  have p4 : psDp (riSrc X) (riDst X) (riProto X) (riB X) = dp := by rw [q1, q2, q3, q4]; exact g4
  have p5 : psSeq (riSrc X) (riDst X) (riProto X) (riB X) = seq := by rw [q1, q2, q3, q4]; exact g5
  have p6 : psAck (riSrc X) (riDst X) (riProto X) (riB X) = ack := by rw [q1, q2, q3, q4]; exact g6
  have p7 : psFlags (riSrc X) (riDst X) (riProto X) (riB X) = flags := by rw [q1, q2, q3, q4]; exact g7
  have p8 : psWin (riSrc X) (riDst X) (riProto X) (riB X) = win := by rw [q1, q2, q3, q4]; exact g8
  have p9 : psB (riSrc X) (riDst X) (riProto X) (riB X) = b := by rw [q1, q2, q3, q4]; exact g9
  have hsup : riSuper X = true := by unfold riSuper; rw [p2, p3, p4, p5, p6, p7, p8, p9, e2, e3, e4, i2, i3, i4, q1, q2]; exact h
  have hcode := ri_c0 X e1 e5 i1 g1' hsup
  exact ⟨hcode, e2, e3, e4, i2, i3, i4, q1, q2, p2, p3, p4, p5, p6, p7, p8, by rw [riBody_yes X hcode]; exact p9⟩
theorem packetOk_of {dm sm vl tos id ttl si di kind sp dp seq ack flags win : Int} {n : Nat} (h : superOk dm sm vl tos id ttl si di kind sp dp seq ack flags win n = true) :
    packetOk dm sm vl tos id ttl si di kind sp dp seq ack flags win n = decide (n ≤ 128) := by
  unfold packetOk
  rw [h]
  rfl
/-- a packet is read from its frame -/
theorem frame_round (dm sm vl tos id ttl si di kind sp dp seq ack flags win : Int) (b : ByteArray) (h : packetOk dm sm vl tos id ttl si di kind sp dp seq ack flags win b.size = true) :
    let F := frame dm sm vl tos id ttl si di kind sp dp seq ack flags win b
    let X := image dm sm vl tos id ttl si di kind sp dp seq ack flags win b
    F = withFcs X ∧ fcsOk F = true ∧ fcsBody F = X ∧ rfCode F = 0 ∧ ∀ v, rf F (ri X v) = v := by
  intro F X
  have hs := packetOk_super h
  have hF : F = withFcs X := by show frame _ _ _ _ _ _ _ _ _ _ _ _ _ _ _ _ = _; unfold frame; rw [h]; rfl
  obtain ⟨f1, f2⟩ := fcs_with X
  obtain ⟨c, r1, r2, r3, r4, r5, r6, r7, r8, r9, r10, r11, r12, r13, r14, r15, r16⟩ := img_round dm sm vl tos id ttl si di kind sp dp seq ack flags win b hs
  have hp : rfPacket X = true := by
    unfold rfPacket
    rw [ri_yes X c, ri_yes X c, ri_yes X c, ri_yes X c, ri_yes X c, ri_yes X c, ri_yes X c, ri_yes X c, ri_yes X c, ri_yes X c, ri_yes X c, ri_yes X c, ri_yes X c, ri_yes X c, ri_yes X c, r1, r2, r3, r4, r5, r6, r9, r10, r11, r12, r13, r14, r15, r16, r7, r8]
    exact h
  rw [← hF] at f1 f2
  have hcode : rfCode F = 0 := rf_c0 F f1 (by rw [f2]; exact c) (by rw [f2]; exact hp)
  exact ⟨hF, f1, f2, hcode, fun v => by rw [rf_yes F hcode, ri_yes X c]⟩
end Go.Proofs.Ytnpnkkjdnmgbkaa.P
