/-
  Plain laws on segments: what is built can be parsed, with its addresses only, and only if no byte was turned. No program is in sight here.
-/
import Derived.Test.YtnpnkkjdnmgbkaaPureB
import Derived.Test.YtnpnkkjdnmgbkaaPure3
import Derived.Test.YtnpnkkjdnmgbkaaPure4
namespace Go.Proofs.Ytnpnkkjdnmgbkaa.P
/-- a place behind a front of known size -/
theorem ext_from (A b : ByteArray) (n m : Nat) (hn : n = A.size) (hm : m = (A ++ b).size) : (A ++ b).extract n m = b := by
  subst hm
  exact extract_tail A b n hn
theorem tcp_read (sp dp seq ack flags win : Int) (b : ByteArray) (h : segOk 6 sp dp seq ack flags win b.size = true) :
    (segBare 6 sp dp seq ack flags win b).size = 20 + b.size ∧ get16 (segBare 6 sp dp seq ack flags win b) 0 = sp ∧ get16 (segBare 6 sp dp seq ack flags win b) 2 = dp ∧ get32 (segBare 6 sp dp seq ack flags win b) 4 = seq ∧ get32 (segBare 6 sp dp seq ack flags win b) 8 = ack
      ∧ at8 (segBare 6 sp dp seq ack flags win b) 13 = flags ∧ get16 (segBare 6 sp dp seq ack flags win b) 14 = win ∧ get16 (segBare 6 sp dp seq ack flags win b) 16 = 0 ∧ (segBare 6 sp dp seq ack flags win b).extract 20 (segBare 6 sp dp seq ack flags win b).size = b := by
  have hr := of_decide_eq_true h
  have z1 := word16_size sp (by omega)
  have z2 := word16_size dp (by omega)
  have z3 := word32_size seq (by omega)
  have z4 := word32_size ack (by omega)
  have z5 := bs2_size (by8 80) (by8 flags)
  have z6 := word16_size win (by omega)
  have z7 := word16_size 0 (by omega)
  have t := at8_two 80 flags (by omega) (by omega)
  have e0 : segBare 6 sp dp seq ack flags win b = word16 sp ++ (word16 dp ++ (word32 seq ++ (word32 ack ++ (bs [by8 80, by8 flags] ++ (word16 win ++ (word16 0 ++ (word16 0 ++ b))))))) := by
    unfold segBare segTcp segPorts; rw [if_pos rfl]; simp only [ByteArray.append_assoc]
  have e4 : segBare 6 sp dp seq ack flags win b = (word16 sp ++ word16 dp) ++ (word32 seq ++ (word32 ack ++ (bs [by8 80, by8 flags] ++ (word16 win ++ (word16 0 ++ (word16 0 ++ b)))))) := by rw [e0]; simp only [ByteArray.append_assoc]
  have e8 : segBare 6 sp dp seq ack flags win b = (word16 sp ++ word16 dp ++ word32 seq) ++ (word32 ack ++ (bs [by8 80, by8 flags] ++ (word16 win ++ (word16 0 ++ (word16 0 ++ b))))) := by rw [e0]; simp only [ByteArray.append_assoc]
  have e12 : segBare 6 sp dp seq ack flags win b = (word16 sp ++ word16 dp ++ word32 seq ++ word32 ack) ++ (bs [by8 80, by8 flags] ++ (word16 win ++ (word16 0 ++ (word16 0 ++ b)))) := by rw [e0]; simp only [ByteArray.append_assoc]
  have e14 : segBare 6 sp dp seq ack flags win b = (word16 sp ++ word16 dp ++ word32 seq ++ word32 ack ++ bs [by8 80, by8 flags]) ++ (word16 win ++ (word16 0 ++ (word16 0 ++ b))) := by rw [e0]; simp only [ByteArray.append_assoc]
  have e16 : segBare 6 sp dp seq ack flags win b = (word16 sp ++ word16 dp ++ word32 seq ++ word32 ack ++ bs [by8 80, by8 flags] ++ word16 win) ++ (word16 0 ++ (word16 0 ++ b)) := by rw [e0]; simp only [ByteArray.append_assoc]
  have e20 : segBare 6 sp dp seq ack flags win b = (word16 sp ++ word16 dp ++ word32 seq ++ word32 ack ++ bs [by8 80, by8 flags] ++ word16 win ++ word16 0 ++ word16 0) ++ b := by rw [e0]; simp only [ByteArray.append_assoc]
  have s12 : (word16 sp ++ word16 dp ++ word32 seq ++ word32 ack).size = 12 := by simp only [ByteArray.size_append]; omega
  have s20 : (word16 sp ++ word16 dp ++ word32 seq ++ word32 ack ++ bs [by8 80, by8 flags] ++ word16 win ++ word16 0 ++ word16 0).size = 20 := by simp only [ByteArray.size_append]; omega
  refine ⟨?_, ?_, ?_, ?_, ?_, ?_, ?_, ?_, ?_⟩
  · rw [e20, ByteArray.size_append, s20]
  · rw [e0]; exact get16_head _ _ (by omega)
  · rw [e0]; exact get16_mid _ _ _ (by omega) 2 (by rw [z1]; rfl)
  · rw [e4]; exact get32_mid _ _ _ (by omega) 4 (by rw [ByteArray.size_append, z1, z2]; rfl)
  · rw [e8]; exact get32_mid _ _ _ (by omega) 8 (by rw [ByteArray.size_append, ByteArray.size_append, z1, z2, z3]; rfl)
  · have := at8_mid (word16 sp ++ word16 dp ++ word32 seq ++ word32 ack) (bs [by8 80, by8 flags]) (word16 win ++ (word16 0 ++ (word16 0 ++ b))) 1 (by omega)
    rw [s12] at this
    rw [e12, show (13 : Nat) = 12 + 1 from rfl, this]
    exact t.2
  · rw [e14]; exact get16_mid _ _ _ (by omega) 14 (by rw [ByteArray.size_append, s12, z5]; rfl)
  · rw [e16]; exact get16_mid _ _ _ (by omega) 16 (by rw [ByteArray.size_append, ByteArray.size_append, s12, z5, z6]; rfl)
  · rw [e20]; exact extract_tail _ _ _ s20.symm
theorem udp_read (sp dp : Int) (b : ByteArray) (h : segOk 17 sp dp 0 0 0 0 b.size = true) :
    (segBare 17 sp dp 0 0 0 0 b).size = 8 + b.size ∧ get16 (segBare 17 sp dp 0 0 0 0 b) 0 = sp ∧ get16 (segBare 17 sp dp 0 0 0 0 b) 2 = dp ∧ get16 (segBare 17 sp dp 0 0 0 0 b) 6 = 0 ∧ (segBare 17 sp dp 0 0 0 0 b).extract 8 (segBare 17 sp dp 0 0 0 0 b).size = b := by
  have hr := of_decide_eq_true h
  have z1 := word16_size sp (by omega)
  have z2 := word16_size dp (by omega)
  have z3 := word16_size (8 + b.size) (by omega)
  have z7 := word16_size 0 (by omega)
  have e0 : segBare 17 sp dp 0 0 0 0 b = word16 sp ++ (word16 dp ++ (word16 (8 + b.size) ++ (word16 0 ++ b))) := by
    unfold segBare segUdp segPorts; rw [if_neg (by decide)]; simp only [ByteArray.append_assoc]
  have e6 : segBare 17 sp dp 0 0 0 0 b = (word16 sp ++ word16 dp ++ word16 (8 + b.size)) ++ (word16 0 ++ b) := by rw [e0]; simp only [ByteArray.append_assoc]
  have e8 : segBare 17 sp dp 0 0 0 0 b = (word16 sp ++ word16 dp ++ word16 (8 + b.size) ++ word16 0) ++ b := by rw [e0]; simp only [ByteArray.append_assoc]
  have s8 : (word16 sp ++ word16 dp ++ word16 (8 + b.size) ++ word16 0).size = 8 := by simp only [ByteArray.size_append]; omega
  refine ⟨?_, ?_, ?_, ?_, ?_⟩
  · rw [e8, ByteArray.size_append, s8]
  · rw [e0]; exact get16_head _ _ (by omega)
  · rw [e0]; exact get16_mid _ _ _ (by omega) 2 (by rw [z1]; rfl)
  · rw [e6]; exact get16_mid _ _ _ (by omega) 6 (by rw [ByteArray.size_append, ByteArray.size_append, z1, z2, z3]; rfl)
  · rw [e8]; exact extract_tail _ _ _ s8.symm
theorem segSum_range (src dst kind sp dp seq ack flags win : Int) (b : ByteArray) : 0 ≤ segSum src dst kind sp dp seq ack flags win b ∧ segSum src dst kind sp dp seq ack flags win b ≤ 65535 := by
  unfold segSum
  split
  · omega
  · exact checksum_range _
/-- a word put in leaves the other bytes -/
theorem put_keep (s : ByteArray) (p : Nat) (v : Int) (hv : 0 ≤ v ∧ v ≤ 65535) (hp : p + 2 ≤ s.size) (k : Nat) (hk : ¬ (k = p ∨ k = p + 1)) : at8 (putBytes s (p : Int) (word16 v)) k = at8 s k := by
  rw [at8_put _ _ _ (by rw [word16_size v hv]; omega), word16_size v hv, if_neg (by omega)]
theorem put_extract (s : ByteArray) (p : Nat) (v : Int) (hv : 0 ≤ v ∧ v ≤ 65535) (n : Nat) (hp : p + 2 ≤ n) (hn : n ≤ s.size) : (putBytes s (p : Int) (word16 v)).extract n (putBytes s (p : Int) (word16 v)).size = s.extract n s.size := by
  rw [putBytes_size]
  apply at8_ext
  · rw [ByteArray.size_extract, ByteArray.size_extract, putBytes_size]
  · intro k hk
    rw [ByteArray.size_extract, putBytes_size] at hk
    rw [at8_extract _ _ _ _ (by omega), at8_extract _ _ _ _ (by omega), put_keep s p v hv (by omega) _ (by omega)]
theorem segOk_kind {kind sp dp seq ack flags win : Int} {n : Nat} (h : segOk kind sp dp seq ack flags win n = true) : kind = 6 ∨ (kind = 17 ∧ seq = 0 ∧ ack = 0 ∧ flags = 0 ∧ win = 0) := by
  have := of_decide_eq_true h
  omega
theorem seg_round (src dst kind sp dp seq ack flags win : Int) (b : ByteArray) (h : bsOk src dst kind sp dp seq ack flags win b = true) :
    psOk src dst kind (buildSeg src dst kind sp dp seq ack flags win b) = true ∧ psKind src dst kind (buildSeg src dst kind sp dp seq ack flags win b) = kind ∧ psSp src dst kind (buildSeg src dst kind sp dp seq ack flags win b) = sp ∧ psDp src dst kind (buildSeg src dst kind sp dp seq ack flags win b) = dp
      ∧ psSeq src dst kind (buildSeg src dst kind sp dp seq ack flags win b) = seq ∧ psAck src dst kind (buildSeg src dst kind sp dp seq ack flags win b) = ack ∧ psFlags src dst kind (buildSeg src dst kind sp dp seq ack flags win b) = flags ∧ psWin src dst kind (buildSeg src dst kind sp dp seq ack flags win b) = win
      ∧ psB src dst kind (buildSeg src dst kind sp dp seq ack flags win b) = b := by
  have hs : segOk kind sp dp seq ack flags win b.size = true := by unfold bsOk at h; simp only [Bool.and_eq_true] at h; exact h.1
  have hv := segSum_range src dst kind sp dp seq ack flags win b
  rcases segOk_kind hs with rfl | ⟨rfl, rfl, rfl, rfl, rfl⟩
  · obtain ⟨r0, r1, r2, r3, r4, r5, r6, r7, r8⟩ := tcp_read sp dp seq ack flags win b hs
    have e : buildSeg src dst 6 sp dp seq ack flags win b = putBytes (segBare 6 sp dp seq ack flags win b) ((16 : Nat) : Int) (word16 (segSum src dst 6 sp dp seq ack flags win b)) := by unfold buildSeg; rw [if_pos h, if_pos rfl]; rfl
    have hz : (buildSeg src dst 6 sp dp seq ack flags win b).size = 20 + b.size := by rw [e, putBytes_size, r0]
    have hk : ∀ k, ¬ (k = 16 ∨ k = 17) → at8 (buildSeg src dst 6 sp dp seq ack flags win b) k = at8 (segBare 6 sp dp seq ack flags win b) k := fun k hk => by rw [e]; exact put_keep _ 16 _ hv (by omega) k (by omega)
    have g0 : get16 (buildSeg src dst 6 sp dp seq ack flags win b) 0 = sp := (get16_same _ (segBare 6 sp dp seq ack flags win b) 0 (by omega) (by omega) (hk 0 (by omega)) (hk 1 (by omega))).trans r1
    have g2 : get16 (buildSeg src dst 6 sp dp seq ack flags win b) 2 = dp := (get16_same _ (segBare 6 sp dp seq ack flags win b) 2 (by omega) (by omega) (hk 2 (by omega)) (hk 3 (by omega))).trans r2
    have g4 : get32 (buildSeg src dst 6 sp dp seq ack flags win b) 4 = seq := (get32_same _ (segBare 6 sp dp seq ack flags win b) 4 (by omega) (by omega) (hk 4 (by omega)) (hk 5 (by omega)) (hk 6 (by omega)) (hk 7 (by omega))).trans r3
    have g8 : get32 (buildSeg src dst 6 sp dp seq ack flags win b) 8 = ack := (get32_same _ (segBare 6 sp dp seq ack flags win b) 8 (by omega) (by omega) (hk 8 (by omega)) (hk 9 (by omega)) (hk 10 (by omega)) (hk 11 (by omega))).trans r4
    have g13 : at8 (buildSeg src dst 6 sp dp seq ack flags win b) 13 = flags := (hk 13 (by omega)).trans r5
    have g14 : get16 (buildSeg src dst 6 sp dp seq ack flags win b) 14 = win := (get16_same _ (segBare 6 sp dp seq ack flags win b) 14 (by omega) (by omega) (hk 14 (by omega)) (hk 15 (by omega))).trans r6
    have gb : (buildSeg src dst 6 sp dp seq ack flags win b).extract 20 (buildSeg src dst 6 sp dp seq ack flags win b).size = b := by
      have := put_extract (segBare 6 sp dp seq ack flags win b) 16 _ hv 20 (by omega) (by omega)
      rw [← e, r8] at this
      exact this
    have hok := ps_tcp_yes src dst (buildSeg src dst 6 sp dp seq ack flags win b) (by omega) (by rw [g0, g2, g4, g8, g13, g14, gb]; exact h) (by rw [g0, g2, g4, g8, g13, g14, gb])
    obtain ⟨q1, q2, q3, q4, q5, q6, q7, q8⟩ := ps_tcp src dst _ hok
    exact ⟨hok, q1, by rw [q2, g0], by rw [q3, g2], by rw [q4, g4], by rw [q5, g8], by rw [q6, g13], by rw [q7, g14], by rw [q8, gb]⟩
  · obtain ⟨r0, r1, r2, r3, r4⟩ := udp_read sp dp b hs
    have e : buildSeg src dst 17 sp dp 0 0 0 0 b = putBytes (segBare 17 sp dp 0 0 0 0 b) ((6 : Nat) : Int) (word16 (segSum src dst 17 sp dp 0 0 0 0 b)) := by unfold buildSeg; rw [if_pos h, if_neg (by decide)]; rfl
    have hz : (buildSeg src dst 17 sp dp 0 0 0 0 b).size = 8 + b.size := by rw [e, putBytes_size, r0]
    have hk : ∀ k, ¬ (k = 6 ∨ k = 7) → at8 (buildSeg src dst 17 sp dp 0 0 0 0 b) k = at8 (segBare 17 sp dp 0 0 0 0 b) k := fun k hk => by rw [e]; exact put_keep _ 6 _ hv (by omega) k (by omega)
    have g0 : get16 (buildSeg src dst 17 sp dp 0 0 0 0 b) 0 = sp := (get16_same _ (segBare 17 sp dp 0 0 0 0 b) 0 (by omega) (by omega) (hk 0 (by omega)) (hk 1 (by omega))).trans r1
    have g2 : get16 (buildSeg src dst 17 sp dp 0 0 0 0 b) 2 = dp := (get16_same _ (segBare 17 sp dp 0 0 0 0 b) 2 (by omega) (by omega) (hk 2 (by omega)) (hk 3 (by omega))).trans r2
    have gb : (buildSeg src dst 17 sp dp 0 0 0 0 b).extract 8 (buildSeg src dst 17 sp dp 0 0 0 0 b).size = b := by
      have := put_extract (segBare 17 sp dp 0 0 0 0 b) 6 _ hv 8 (by omega) (by omega)
      rw [← e, r4] at this
      exact this
    have hok := ps_udp_yes src dst (buildSeg src dst 17 sp dp 0 0 0 0 b) (by omega) (by rw [g0, g2, gb]; exact h) (by rw [g0, g2, gb])
    obtain ⟨q1, q2, q3, q4, q5, q6, q7, q8⟩ := ps_udp src dst _ hok
    exact ⟨hok, q1, by rw [q2, g0], by rw [q3, g2], q4, q5, q6, q7, by rw [q8, gb]⟩
/-! ### the sum over a segment and its addresses -/
theorem tot_word16 (v : Int) (hv : 0 ≤ v ∧ v ≤ 65535) : tot (word16 v) 1 = v := by
  have hw := at8_word16 v hv
  show 0 + (at8 (word16 v) 0 * 256 + at8 (word16 v) 1) = v
  rw [hw.1, hw.2]
  omega
theorem tot_word32 (v : Int) (hv : 0 ≤ v ∧ v ≤ 4294967295) : tot (word32 v) 2 = v / 65536 + v % 65536 := by
  have hw := at8_word32 v hv
  show 0 + (at8 (word32 v) 0 * 256 + at8 (word32 v) 1) + (at8 (word32 v) 2 * 256 + at8 (word32 v) 3) = _
  rw [hw.1, hw.2.1, hw.2.2.1, hw.2.2.2]
  omega
theorem pseudo_read (src dst kind len : Int) (h : pseudoOk src dst kind len = true) : (pseudo src dst kind len).size = 12 ∧ tot (pseudo src dst kind len) 6 = src / 65536 + src % 65536 + (dst / 65536 + dst % 65536) + kind + len := by
  have hr := of_decide_eq_true h
  have z1 := word32_size src (by omega)
  have z2 := word32_size dst (by omega)
  have z3 := bs2_size (by8 0) (by8 kind)
  have z4 := word16_size len (by omega)
  have t := at8_two 0 kind (by omega) (by omega)
  have e : pseudo src dst kind len = word32 src ++ (word32 dst ++ (bs [by8 0, by8 kind] ++ word16 len)) := by
    unfold pseudo; rw [if_pos h]; simp only [ByteArray.append_assoc]
  constructor
  · rw [e]; simp only [ByteArray.size_append]; omega
  · rw [e, show (6 : Nat) = 2 + (2 + (1 + 1)) from rfl, tot_append _ _ 2 (by omega), tot_append _ _ 2 (by omega), tot_append _ _ 1 (by omega), tot_word32 src (by omega), tot_word32 dst (by omega), tot_word16 len (by omega)]
    have : tot (bs [by8 0, by8 kind]) 1 = kind := by
      show 0 + (at8 (bs [by8 0, by8 kind]) 0 * 256 + at8 (bs [by8 0, by8 kind]) 1) = kind
      rw [t.1, t.2]; omega
    rw [this]
    omega
/-- what is built sums to nothing, its addresses among it -/
theorem seg_sum (src dst kind sp dp seq ack flags win : Int) (b : ByteArray) (h : bsOk src dst kind sp dp seq ack flags win b = true) :
    (buildSeg src dst kind sp dp seq ack flags win b).size = (segBare kind sp dp seq ack flags win b).size
      ∧ (tot (pseudo src dst kind (buildSeg src dst kind sp dp seq ack flags win b).size) 6 + tot (buildSeg src dst kind sp dp seq ack flags win b) (((buildSeg src dst kind sp dp seq ack flags win b).size + 1) / 2)) % 65535 = 0 := by
  have hs : segOk kind sp dp seq ack flags win b.size = true := by unfold bsOk at h; simp only [Bool.and_eq_true] at h; exact h.1
  have hp : pseudoOk src dst kind (segBare kind sp dp seq ack flags win b).size = true := by unfold bsOk at h; simp only [Bool.and_eq_true] at h; exact h.2
  have hv := segSum_range src dst kind sp dp seq ack flags win b
  have hps := pseudo_read src dst kind _ hp
  -- the sum over the bare bytes
  have hsum : segSum0 src dst kind sp dp seq ack flags win b = 65535 - red (tot (pseudo src dst kind (segBare kind sp dp seq ack flags win b).size) 6 + tot (segBare kind sp dp seq ack flags win b) (((segBare kind sp dp seq ack flags win b).size + 1) / 2)) := by
    unfold segSum0 checksum
    rw [sumWords_red, ByteArray.size_append, hps.1, show (12 + (segBare kind sp dp seq ack flags win b).size + 1) / 2 = 6 + ((segBare kind sp dp seq ack flags win b).size + 1) / 2 by omega, tot_append _ _ 6 (by omega)]
  have key : ∀ (p : Nat), 2 * p + 2 ≤ (segBare kind sp dp seq ack flags win b).size → wordAt (segBare kind sp dp seq ack flags win b) p = 0 → buildSeg src dst kind sp dp seq ack flags win b = putBytes (segBare kind sp dp seq ack flags win b) ((2 * p : Nat) : Int) (word16 (segSum src dst kind sp dp seq ack flags win b)) →
      (buildSeg src dst kind sp dp seq ack flags win b).size = (segBare kind sp dp seq ack flags win b).size ∧ (tot (pseudo src dst kind (buildSeg src dst kind sp dp seq ack flags win b).size) 6 + tot (buildSeg src dst kind sp dp seq ack flags win b) (((buildSeg src dst kind sp dp seq ack flags win b).size + 1) / 2)) % 65535 = 0 := by
    intro p hp2 hw e
    have hz : (buildSeg src dst kind sp dp seq ack flags win b).size = (segBare kind sp dp seq ack flags win b).size := by rw [e, putBytes_size]
    refine ⟨hz, ?_⟩
    rw [hz]
    have ht := tot_put (segBare kind sp dp seq ack flags win b) p (segSum src dst kind sp dp seq ack flags win b) hv hp2 (((segBare kind sp dp seq ack flags win b).size + 1) / 2)
    rw [if_pos (by omega), ← e, hw] at ht
    rw [ht]
    have h1 := tot_pos (segBare kind sp dp seq ack flags win b) (((segBare kind sp dp seq ack flags win b).size + 1) / 2)
    have h2 := tot_pos (pseudo src dst kind (segBare kind sp dp seq ack flags win b).size) 6
    unfold segSum
    generalize tot (segBare kind sp dp seq ack flags win b) (((segBare kind sp dp seq ack flags win b).size + 1) / 2) = T at *
    generalize tot (pseudo src dst kind (segBare kind sp dp seq ack flags win b).size) 6 = U at *
    rw [hsum]
    unfold red
    by_cases h0 : U + T = 0
    · rw [if_pos h0]
      split <;> omega
    · rw [if_neg h0]
      split <;> omega
  rcases segOk_kind hs with rfl | ⟨rfl, rfl, rfl, rfl, rfl⟩
  · obtain ⟨r0, r1, r2, r3, r4, r5, r6, r7, r8⟩ := tcp_read sp dp seq ack flags win b hs
    exact key 8 (by omega) ((get16_at _ 16 (by omega)).symm.trans r7) (by unfold buildSeg; rw [if_pos h, if_pos rfl]; rfl)
  · obtain ⟨r0, r1, r2, r3, r4⟩ := udp_read sp dp b hs
    exact key 3 (by omega) ((get16_at _ 6 (by omega)).symm.trans r3) (by unfold buildSeg; rw [if_pos h, if_neg (by decide)]; rfl)
/-- what is parsed sums to nothing, its addresses among it -/
theorem ps_sum (src dst kind : Int) (s : ByteArray) (h : psOk src dst kind s = true) : (tot (pseudo src dst kind s.size) 6 + tot s ((s.size + 1) / 2)) % 65535 = 0 ∧ pseudoOk src dst kind s.size = true := by
  unfold psOk at h
  simp only [Bool.and_eq_true, decide_eq_true_eq] at h
  have h1 := seg_sum src dst kind _ _ _ _ _ _ _ h.1.2
  rw [h.2] at h1
  refine ⟨h1.2, ?_⟩
  have h2 := h.1.2
  unfold bsOk at h2
  simp only [Bool.and_eq_true] at h2
  rw [h1.1]
  exact h2.2
/-- one turned byte turns the sum -/
theorem tot_flip (s t : ByteArray) (j : Nat) (hsame : ∀ k, ¬ k = j → at8n t k = at8n s k) : ∀ n, tot t n = tot s n + if j < 2 * n then (at8 t j - at8 s j) * (if j % 2 = 0 then 256 else 1) else 0
  | 0 => by simp [tot]
  | n + 1 => by
    have ih := tot_flip s t j hsame n
    have hk : ∀ k, ¬ k = j → at8 t k = at8 s k := fun k h => by unfold at8; rw [hsame k h]
    show tot t n + (at8 t (2 * n) * 256 + at8 t (2 * n + 1)) = tot s n + (at8 s (2 * n) * 256 + at8 s (2 * n + 1)) + _
    rw [ih]
    by_cases h0 : j = 2 * n
    · subst h0
      rw [hk (2 * n + 1) (by omega)]
      simp only [show ¬ 2 * n < 2 * n by omega, show 2 * n < 2 * (n + 1) by omega, show 2 * n % 2 = 0 by omega, if_true, if_false]
      omega
    · by_cases h1 : j = 2 * n + 1
      · subst h1
        rw [hk (2 * n) (by omega)]
        simp only [show ¬ 2 * n + 1 < 2 * n by omega, show 2 * n + 1 < 2 * (n + 1) by omega, show ¬ (2 * n + 1) % 2 = 0 by omega, if_true, if_false]
        omega
      · rw [hk (2 * n) (by omega), hk (2 * n + 1) (by omega)]
        by_cases h2 : j < 2 * n
        · have h3 : j < 2 * (n + 1) := by omega
          rw [if_pos h2, if_pos h3]; generalize (at8 t j - at8 s j) * (if j % 2 = 0 then 256 else 1) = q; omega
        · have h3 : ¬ j < 2 * (n + 1) := by omega
          rw [if_neg h2, if_neg h3]; omega
theorem ps_flip (src dst kind : Int) (s t : ByteArray) (h : psOk src dst kind s = true) (hs : t.size = s.size) (j : Nat) (hj : j < s.size) (hd : ¬ at8n t j = at8n s j) (hsame : ∀ k, ¬ k = j → at8n t k = at8n s k) : psOk src dst kind t = false := by
  cases ht : psOk src dst kind t with
  | false => rfl
  | true =>
    exfalso
    have h1 := (ps_sum src dst kind s h).1
    have h2 := (ps_sum src dst kind t ht).1
    rw [hs, tot_flip s t j hsame, if_pos (by omega)] at h2
    have b1 := at8_range s j
    have b2 := at8_range t j
    have hd2 : ¬ at8 t j = at8 s j := by unfold at8; omega
    generalize tot (pseudo src dst kind s.size) 6 = U at *
    generalize tot s ((s.size + 1) / 2) = T at *
    split at h2 <;> omega
theorem ps_bend (src dst kind : Int) (s : ByteArray) (h : psOk src dst kind s = true) (hpos : 0 < s.size) (i : Nat) : psOk src dst kind (bend s i) = false := by
  obtain ⟨h1, h2, _, h3, h5⟩ := bend_facts s i hpos
  exact ps_flip src dst kind s _ h h1 _ h2 h3 h5
/-- other addresses -/
theorem ps_other (src dst kind : Int) (s : ByteArray) (h : psOk src dst kind s = true) (src' : Int) (hd : src' = src + 1 ∨ src' = src - 1) (heven : src' / 65536 = src / 65536) : psOk src' dst kind s = false := by
  cases ht : psOk src' dst kind s with
  | false => rfl
  | true =>
    exfalso
    obtain ⟨h1, p1⟩ := ps_sum src dst kind s h
    obtain ⟨h2, p2⟩ := ps_sum src' dst kind s ht
    rw [(pseudo_read _ _ _ _ p1).2] at h1
    rw [(pseudo_read _ _ _ _ p2).2] at h2
    rcases hd with rfl | rfl <;> omega
end Go.Proofs.Ytnpnkkjdnmgbkaa.P
