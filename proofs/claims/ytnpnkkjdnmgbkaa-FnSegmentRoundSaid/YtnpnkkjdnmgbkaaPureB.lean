/-
  Plain laws on datagrams: what is built can be parsed, whatever follows; a lowered time to live. No program is in sight here.
-/
import Derived.Test.YtnpnkkjdnmgbkaaPureA
namespace Go.Proofs.Ytnpnkkjdnmgbkaa.P
theorem checksum_range (s : ByteArray) : 0 ≤ checksum s ∧ checksum s ≤ 65535 := by
  have := sumWords_range s
  unfold checksum
  omega
theorem at8_two (x y : Int) (hx : 0 ≤ x ∧ x ≤ 255) (hy : 0 ≤ y ∧ y ≤ 255) : at8 (bs [by8 x, by8 y]) 0 = x ∧ at8 (bs [by8 x, by8 y]) 1 = y := by
  have e0 : at8 (bs [by8 x, by8 y]) 0 = ((by8 x).toNat : Int) := at8_bs _ 0 (by simp)
  have e1 : at8 (bs [by8 x, by8 y]) 1 = ((by8 y).toNat : Int) := at8_bs _ 1 (by simp)
  rw [e0, e1, by8_toNat _ hx, by8_toNat _ hy]
  exact ⟨rfl, rfl⟩
theorem bs2_size (x y : UInt8) : (bs [x, y]).size = 2 := by rw [bs_size]; rfl
theorem get16_same (s t : ByteArray) (k : Nat) (hs : k + 2 ≤ s.size) (ht : k + 2 ≤ t.size) (h0 : at8 s k = at8 t k) (h1 : at8 s (k + 1) = at8 t (k + 1)) : get16 s (k : Int) = get16 t (k : Int) := by
  rw [get16_at s k hs, get16_at t k ht, h0, h1]
theorem get32_at (s : ByteArray) (k : Nat) (h : k + 4 ≤ s.size) : get32 s (k : Int) = at8 s k * 16777216 + at8 s (k + 1) * 65536 + at8 s (k + 2) * 256 + at8 s (k + 3) := by
  unfold get32
  rw [if_pos (by omega)]
  rfl
theorem get32_same (s t : ByteArray) (k : Nat) (hs : k + 4 ≤ s.size) (ht : k + 4 ≤ t.size) (h0 : at8 s k = at8 t k) (h1 : at8 s (k + 1) = at8 t (k + 1)) (h2 : at8 s (k + 2) = at8 t (k + 2)) (h3 : at8 s (k + 3) = at8 t (k + 3)) : get32 s (k : Int) = get32 t (k : Int) := by
  rw [get32_at s k hs, get32_at t k ht, h0, h1, h2, h3]
/-- the header without its sum, read -/
theorem ipBare_read (tos id ttl proto src dst : Int) (n : Nat) (h : ipOk tos id ttl proto src dst n = true) :
    (ipBare tos id ttl proto src dst n).size = 20 ∧ at8 (ipBare tos id ttl proto src dst n) 0 = 69 ∧ at8 (ipBare tos id ttl proto src dst n) 1 = tos ∧ get16 (ipBare tos id ttl proto src dst n) 2 = 20 + n ∧ get16 (ipBare tos id ttl proto src dst n) 4 = id
      ∧ at8 (ipBare tos id ttl proto src dst n) 8 = ttl ∧ at8 (ipBare tos id ttl proto src dst n) 9 = proto ∧ get16 (ipBare tos id ttl proto src dst n) 10 = 0 ∧ get32 (ipBare tos id ttl proto src dst n) 12 = src ∧ get32 (ipBare tos id ttl proto src dst n) 16 = dst := by
  have hr := of_decide_eq_true h
  have z1 := word16_size (20 + n) (by omega)
  have z2 := word16_size id (by omega)
  have z3 := word16_size 16384 (by omega)
  have z4 := word16_size 0 (by omega)
  have z5 := word32_size src (by omega)
  have z6 := word32_size dst (by omega)
  have z7 := bs2_size (by8 69) (by8 tos)
  have z8 := bs2_size (by8 ttl) (by8 proto)
  have t0 := at8_two 69 tos (by omega) (by omega)
  have t8 := at8_two ttl proto (by omega) (by omega)
  have e0 : ipBare tos id ttl proto src dst n = bs [by8 69, by8 tos] ++ (word16 (20 + n) ++ (word16 id ++ (word16 16384 ++ (bs [by8 ttl, by8 proto] ++ (word16 0 ++ (word32 src ++ word32 dst)))))) := by
    unfold ipBare; simp only [ByteArray.append_assoc]
  have e4 : ipBare tos id ttl proto src dst n = (bs [by8 69, by8 tos] ++ word16 (20 + n)) ++ (word16 id ++ (word16 16384 ++ (bs [by8 ttl, by8 proto] ++ (word16 0 ++ (word32 src ++ word32 dst))))) := by rw [e0]; simp only [ByteArray.append_assoc]
  have e8 : ipBare tos id ttl proto src dst n = (bs [by8 69, by8 tos] ++ word16 (20 + n) ++ word16 id ++ word16 16384) ++ (bs [by8 ttl, by8 proto] ++ (word16 0 ++ (word32 src ++ word32 dst))) := by rw [e0]; simp only [ByteArray.append_assoc]
  have e10 : ipBare tos id ttl proto src dst n = (bs [by8 69, by8 tos] ++ word16 (20 + n) ++ word16 id ++ word16 16384 ++ bs [by8 ttl, by8 proto]) ++ (word16 0 ++ (word32 src ++ word32 dst)) := by rw [e0]; simp only [ByteArray.append_assoc]
  have e12 : ipBare tos id ttl proto src dst n = (bs [by8 69, by8 tos] ++ word16 (20 + n) ++ word16 id ++ word16 16384 ++ bs [by8 ttl, by8 proto] ++ word16 0) ++ (word32 src ++ word32 dst) := by rw [e0]; simp only [ByteArray.append_assoc]
  have e16 : ipBare tos id ttl proto src dst n = (bs [by8 69, by8 tos] ++ word16 (20 + n) ++ word16 id ++ word16 16384 ++ bs [by8 ttl, by8 proto] ++ word16 0 ++ word32 src) ++ (word32 dst ++ bs []) := by
    rw [e0, show word32 dst ++ bs [] = word32 dst from L_ext (by rw [L_append, L_bs, List.append_nil])]; simp only [ByteArray.append_assoc]
  have s8 : (bs [by8 69, by8 tos] ++ word16 (20 + n) ++ word16 id ++ word16 16384).size = 8 := by simp only [ByteArray.size_append]; omega
  refine ⟨?_, ?_, ?_, ?_, ?_, ?_, ?_, ?_, ?_, ?_⟩
  · rw [e0]; simp only [ByteArray.size_append]; omega
  · rw [e0, at8_left _ _ _ (by omega)]; exact t0.1
  · rw [e0, at8_left _ _ _ (by omega)]; exact t0.2
  · rw [e0]; exact get16_mid _ _ _ (by omega) 2 (by rw [z7]; rfl)
  · rw [e4]; exact get16_mid _ _ _ (by omega) 4 (by rw [ByteArray.size_append, z7, z1]; rfl)
  · have := at8_mid (bs [by8 69, by8 tos] ++ word16 (20 + n) ++ word16 id ++ word16 16384) (bs [by8 ttl, by8 proto]) (word16 0 ++ (word32 src ++ word32 dst)) 0 (by omega)
    rw [s8] at this
    rw [e8, show (8 : Nat) = 8 + 0 from rfl, this]
    exact t8.1
  · have := at8_mid (bs [by8 69, by8 tos] ++ word16 (20 + n) ++ word16 id ++ word16 16384) (bs [by8 ttl, by8 proto]) (word16 0 ++ (word32 src ++ word32 dst)) 1 (by omega)
    rw [s8] at this
    rw [e8, show (9 : Nat) = 8 + 1 from rfl, this]
    exact t8.2
  · rw [e10]; exact get16_mid _ _ _ (by omega) 10 (by rw [ByteArray.size_append, s8, z8]; rfl)
  · rw [e12]; exact get32_mid _ _ _ (by omega) 12 (by rw [ByteArray.size_append, ByteArray.size_append, s8, z8, z4]; rfl)
  · rw [e16]; exact get32_mid _ _ _ (by omega) 16 (by rw [ByteArray.size_append, ByteArray.size_append, ByteArray.size_append, s8, z8, z4, z5]; rfl)
/-- the header with its sum: all but two bytes as without it -/
theorem ipHead_read (tos id ttl proto src dst : Int) (n : Nat) (h : ipOk tos id ttl proto src dst n = true) :
    (ipHead tos id ttl proto src dst n).size = 20 ∧ (∀ k, ¬ (k = 10 ∨ k = 11) → at8 (ipHead tos id ttl proto src dst n) k = at8 (ipBare tos id ttl proto src dst n) k) ∧ get16 (ipHead tos id ttl proto src dst n) 10 = checksum (ipBare tos id ttl proto src dst n) := by
  have hb := (ipBare_read tos id ttl proto src dst n h).1
  have hc := checksum_range (ipBare tos id ttl proto src dst n)
  have hz := word16_size _ hc
  have hw := at8_word16 _ hc
  have e : ipHead tos id ttl proto src dst n = putBytes (ipBare tos id ttl proto src dst n) ((10 : Nat) : Int) (word16 (checksum (ipBare tos id ttl proto src dst n))) := by unfold ipHead; rw [if_pos h]; rfl
  have hsz : (ipHead tos id ttl proto src dst n).size = 20 := by rw [e, putBytes_size, hb]
  refine ⟨hsz, fun k hk => ?_, ?_⟩
  · rw [e, at8_put _ _ _ (by omega), if_neg (by omega)]
  · have p0 := at8_put (ipBare tos id ttl proto src dst n) (word16 (checksum (ipBare tos id ttl proto src dst n))) 10 (by omega) 10
    have p1 := at8_put (ipBare tos id ttl proto src dst n) (word16 (checksum (ipBare tos id ttl proto src dst n))) 10 (by omega) 11
    rw [if_pos (by omega)] at p0 p1
    rw [← e] at p0 p1
    have g := get16_at (ipHead tos id ttl proto src dst n) 10 (by omega)
    rw [show ((10 : Nat) : Int) = 10 from rfl, p0, p1, hw.1, hw.2] at g
    rw [g]
    omega
theorem ip_round (tos id ttl proto src dst : Int) (b : ByteArray) (h : ipOk tos id ttl proto src dst b.size = true) (tail : ByteArray) :
    piOk (buildIp tos id ttl proto src dst b ++ tail) = true ∧ piTos (buildIp tos id ttl proto src dst b ++ tail) = tos ∧ piId (buildIp tos id ttl proto src dst b ++ tail) = id ∧ piTtl (buildIp tos id ttl proto src dst b ++ tail) = ttl
      ∧ piProto (buildIp tos id ttl proto src dst b ++ tail) = proto ∧ piSrc (buildIp tos id ttl proto src dst b ++ tail) = src ∧ piDst (buildIp tos id ttl proto src dst b ++ tail) = dst ∧ piB (buildIp tos id ttl proto src dst b ++ tail) = b := by
  have hr := of_decide_eq_true h
  obtain ⟨b0, b1, b2, b3, b4, b5, b6, b7, b8, b9⟩ := ipBare_read tos id ttl proto src dst b.size h
  obtain ⟨h0, h1, h2⟩ := ipHead_read tos id ttl proto src dst b.size h
  have eb : buildIp tos id ttl proto src dst b = ipHead tos id ttl proto src dst b.size ++ b := by unfold buildIp; rw [if_pos h]
  have zb : (buildIp tos id ttl proto src dst b).size = 20 + b.size := by rw [eb, ByteArray.size_append, h0]
  have es : buildIp tos id ttl proto src dst b ++ tail = ipHead tos id ttl proto src dst b.size ++ (b ++ tail) := by rw [eb, ByteArray.append_assoc]
  have zs : (buildIp tos id ttl proto src dst b ++ tail).size = 20 + b.size + tail.size := by rw [ByteArray.size_append, zb]
  generalize hS : buildIp tos id ttl proto src dst b ++ tail = S at *
  have hat : ∀ k, k < 20 → ¬ (k = 10 ∨ k = 11) → at8 S k = at8 (ipBare tos id ttl proto src dst b.size) k := fun k hk hne => by
    rw [es, at8_left _ _ _ (by omega), h1 k hne]
  have g2 : get16 S 2 = 20 + b.size := by
    rw [← b3]; exact get16_same S _ 2 (by omega) (by omega) (hat 2 (by omega) (by omega)) (hat 3 (by omega) (by omega))
  have g4 : get16 S 4 = id := by
    have := get16_same S (ipBare tos id ttl proto src dst b.size) 4 (by omega) (by omega) (hat 4 (by omega) (by omega)) (hat 5 (by omega) (by omega))
    exact this.trans b4
  have g12 : get32 S 12 = src := (get32_same S (ipBare tos id ttl proto src dst b.size) 12 (by omega) (by omega) (hat 12 (by omega) (by omega)) (hat 13 (by omega) (by omega)) (hat 14 (by omega) (by omega)) (hat 15 (by omega) (by omega))).trans b8
  have g16 : get32 S 16 = dst := (get32_same S (ipBare tos id ttl proto src dst b.size) 16 (by omega) (by omega) (hat 16 (by omega) (by omega)) (hat 17 (by omega) (by omega)) (hat 18 (by omega) (by omega)) (hat 19 (by omega) (by omega))).trans b9
  have a1 : at8 S 1 = tos := (hat 1 (by omega) (by omega)).trans b2
  have a8 : at8 S 8 = ttl := (hat 8 (by omega) (by omega)).trans b5
  have a9 : at8 S 9 = proto := (hat 9 (by omega) (by omega)).trans b6
  have hn : (get16 S 2).toNat = 20 + b.size := by rw [g2]; omega
  have hbody : S.extract 20 (get16 S 2).toNat = b := by
    rw [hn]
    apply at8n_ext
    · rw [ByteArray.size_extract]; omega
    · intro k hk
      rw [ByteArray.size_extract] at hk
      rw [at8n_extract _ _ _ _ (by omega), es, at8n_right _ _ _ (by omega), h0, at8n_left _ _ _ (by omega)]
      congr 1
      omega
  have hfront : S.extract 0 (get16 S 2).toNat = buildIp tos id ttl proto src dst b := by rw [hn, ← hS]; exact extract_front _ _ _ zb.symm
  have hin : piIn S = true := decide_eq_true (by omega)
  have hok : piOk S = true := piOk_yes S hin (by rw [a1, g4, a8, a9, g12, g16, hbody]; exact h) (by rw [a1, g4, a8, a9, g12, g16, hbody, hfront])
  obtain ⟨q1, q2, q3, q4, q5, q6, q7⟩ := pi_good S hok
  exact ⟨hok, by rw [q1, a1], by rw [q2, g4], by rw [q3, a8], by rw [q4, a9], by rw [q5, g12], by rw [q6, g16], by rw [q7, hbody]⟩
theorem app_nil (x : ByteArray) : x ++ bs [] = x := L_ext (by rw [L_append, L_bs, List.append_nil])
theorem tot_ge_first (s : ByteArray) (n : Nat) (h : 0 < n) : wordAt s 0 ≤ tot s n := tot_le s 0 n h
theorem bare_pos (tos id ttl proto src dst : Int) (n : Nat) (h : ipOk tos id ttl proto src dst n = true) : 0 < tot (ipBare tos id ttl proto src dst n) 10 := by
  have h1 := ipBare_read tos id ttl proto src dst n h
  have h2 := tot_ge_first (ipBare tos id ttl proto src dst n) 10 (by omega)
  have h3 := at8_range (ipBare tos id ttl proto src dst n) 1
  have h4 : wordAt (ipBare tos id ttl proto src dst n) 0 = at8 (ipBare tos id ttl proto src dst n) 0 * 256 + at8 (ipBare tos id ttl proto src dst n) 1 := rfl
  rw [h1.2.1] at h4
  omega
/-- the header sums to 65535 -/
theorem ip_sum (tos id ttl proto src dst : Int) (n : Nat) (h : ipOk tos id ttl proto src dst n = true) : sumWords (ipHead tos id ttl proto src dst n) = 65535 := by
  have h1 := ipBare_read tos id ttl proto src dst n h
  have hc := checksum_range (ipBare tos id ttl proto src dst n)
  have hp := bare_pos tos id ttl proto src dst n h
  have e : ipHead tos id ttl proto src dst n = putBytes (ipBare tos id ttl proto src dst n) ((2 * 5 : Nat) : Int) (word16 (checksum (ipBare tos id ttl proto src dst n))) := by unfold ipHead; rw [if_pos h]; rfl
  have ht := tot_put (ipBare tos id ttl proto src dst n) 5 _ hc (by omega) 10
  rw [if_pos (by omega), ← e] at ht
  have hw : wordAt (ipBare tos id ttl proto src dst n) 5 = 0 := by
    have := get16_at (ipBare tos id ttl proto src dst n) 10 (by omega)
    rw [show ((10 : Nat) : Int) = 10 from rfl, h1.2.2.2.2.2.2.2.1] at this
    exact this.symm
  have e2 : sumWords (ipBare tos id ttl proto src dst n) = red (tot (ipBare tos id ttl proto src dst n) 10) := by rw [sumWords_red, h1.1]
  have hz : (ipHead tos id ttl proto src dst n).size = 20 := (ipHead_read tos id ttl proto src dst n h).1
  have hcs : checksum (ipBare tos id ttl proto src dst n) = 65535 - sumWords (ipBare tos id ttl proto src dst n) := rfl
  rw [sumWords_red, hz, ht, hw, hcs, e2]
  generalize tot (ipBare tos id ttl proto src dst n) 10 = T at *
  unfold red
  rw [if_neg (by omega : ¬ T = 0), if_neg (by omega)]
  omega
/-- a lowered time to live -/
theorem bare_ttl (tos id ttl proto src dst : Int) (n : Nat) (h : ipOk tos id ttl proto src dst n = true) (ht : 0 < ttl) :
    ipBare tos id (ttl - 1) proto src dst n = putBytes (ipBare tos id ttl proto src dst n) ((2 * 4 : Nat) : Int) (word16 (ttl * 256 + proto - 256)) := by
  have hr := of_decide_eq_true h
  have h' : ipOk tos id (ttl - 1) proto src dst n = true := decide_eq_true (by omega)
  have z := (ipBare_read tos id ttl proto src dst n h).1
  have z' := (ipBare_read tos id (ttl - 1) proto src dst n h').1
  have r := ipBare_read tos id (ttl - 1) proto src dst n h'
  have hw := at8_word16 (ttl * 256 + proto - 256) (by omega)
  have hz := word16_size (ttl * 256 + proto - 256) (by omega)
  apply at8_ext
  · rw [putBytes_size, z, z']
  · intro k hk
    rw [at8_put _ _ _ (by omega), hz]
    by_cases h8 : 2 * 4 ≤ k ∧ k < 2 * 4 + 2
    · rw [if_pos h8]
      have : k = 8 ∨ k = 9 := by omega
      rcases this with rfl | rfl
      · rw [r.2.2.2.2.2.1, show 8 - 2 * 4 = 0 from rfl, hw.1]; omega
      · rw [r.2.2.2.2.2.2.1, show 9 - 2 * 4 = 1 from rfl, hw.2]; omega
    · rw [if_neg h8]
      have e : ∀ t : Int, ipBare tos id t proto src dst n = (bs [by8 69, by8 tos] ++ word16 (20 + n) ++ word16 id ++ word16 16384) ++ (bs [by8 t, by8 proto] ++ (word16 0 ++ (word32 src ++ word32 dst))) := fun t => by
        unfold ipBare; simp only [ByteArray.append_assoc]
      have s8 : (bs [by8 69, by8 tos] ++ word16 (20 + n) ++ word16 id ++ word16 16384).size = 8 := by
        simp only [ByteArray.size_append]; rw [bs2_size, word16_size (20 + n) (by omega), word16_size id (by omega), word16_size 16384 (by omega)]
      rw [e (ttl - 1), e ttl]
      generalize bs [by8 69, by8 tos] ++ word16 (20 + n) ++ word16 id ++ word16 16384 = A at s8 ⊢
      generalize word16 0 ++ (word32 src ++ word32 dst) = R
      by_cases hlt : k < 8
      · rw [at8_left _ _ _ (by omega), at8_left _ _ _ (by omega)]
      · have q : ∀ X : ByteArray, X.size = 2 → at8 (A ++ (X ++ R)) k = at8 R (k - A.size - 2) := fun X hX => by rw [at8_right _ _ _ (by omega), at8_right _ _ _ (by omega), hX]
        rw [q _ (bs2_size _ _), q _ (bs2_size _ _)]
theorem ttl_round (tos id ttl proto src dst : Int) (b : ByteArray) (h : ipOk tos id ttl proto src dst b.size = true) :
    ttlOk (buildIp tos id ttl proto src dst b) = decide (0 < ttl) ∧ lowerTtl (buildIp tos id ttl proto src dst b) = (if 0 < ttl then buildIp tos id (ttl - 1) proto src dst b else buildIp tos id ttl proto src dst b) := by
  have hr := of_decide_eq_true h
  obtain ⟨hok, r1, r2, r3, r4, r5, r6, r7⟩ := ip_round tos id ttl proto src dst b h (bs [])
  rw [app_nil] at hok r1 r2 r3 r4 r5 r6 r7
  obtain ⟨q1, q2, q3, q4, q5, q6, q7⟩ := pi_good _ hok
  have a8 : at8 (buildIp tos id ttl proto src dst b) 8 = ttl := by rw [← q3, r3]
  have a9 : at8 (buildIp tos id ttl proto src dst b) 9 = proto := by rw [← q4, r4]
  by_cases ht : 0 < ttl
  · obtain ⟨e1, e2⟩ := ttl_good _ hok (by rw [a8]; omega)
    refine ⟨by rw [e2, decide_eq_true ht], ?_⟩
    rw [if_pos ht, e1, a8, a9]
    have h' : ipOk tos id (ttl - 1) proto src dst b.size = true := decide_eq_true (by omega)
    have hbare := ipBare_read tos id ttl proto src dst b.size h
    have hbare' := ipBare_read tos id (ttl - 1) proto src dst b.size h'
    have hhead := ipHead_read tos id ttl proto src dst b.size h
    have hhead' := ipHead_read tos id (ttl - 1) proto src dst b.size h'
    have eb : buildIp tos id ttl proto src dst b = ipHead tos id ttl proto src dst b.size ++ b := by unfold buildIp; rw [if_pos h]
    have eb' : buildIp tos id (ttl - 1) proto src dst b = ipHead tos id (ttl - 1) proto src dst b.size ++ b := by unfold buildIp; rw [if_pos h']
    have zb : (buildIp tos id ttl proto src dst b).size = 20 + b.size := by rw [eb, ByteArray.size_append, hhead.1]
    have g10 : get16 (buildIp tos id ttl proto src dst b) 10 = checksum (ipBare tos id ttl proto src dst b.size) := by
      rw [← hhead.2.2, eb]
      exact get16_same _ _ 10 (by rw [ByteArray.size_append]; omega) (by omega) (at8_left _ _ _ (by omega)) (at8_left _ _ _ (by omega))
    have w4 : wordAt (ipBare tos id ttl proto src dst b.size) 4 = ttl * 256 + proto := by
      show at8 (ipBare tos id ttl proto src dst b.size) 8 * 256 + at8 (ipBare tos id ttl proto src dst b.size) 9 = _
      rw [hbare.2.2.2.2.2.1, hbare.2.2.2.2.2.2.1]
    have hb4 := bare_ttl tos id ttl proto src dst b.size h ht
    have hne : ¬ sumWords (ipBare tos id (ttl - 1) proto src dst b.size) = 0 := by
      have hp := bare_pos tos id (ttl - 1) proto src dst b.size h'
      rw [sumWords_red, hbare'.1, show (20 + 1) / 2 = 10 from rfl]
      unfold red
      rw [if_neg (by omega)]
      omega
    have hu := law_updated (ipBare tos id ttl proto src dst b.size) 4 (by omega) (ttl * 256 + proto - 256) (by omega) (by rw [← hb4]; exact hne)
    rw [w4, ← hb4] at hu
    rw [g10, hu]
    have hc := checksum_range (ipBare tos id (ttl - 1) proto src dst b.size)
    have hz := word16_size _ hc
    have hw := at8_word16 _ hc
    have hz2 := word16_size (ttl * 256 + proto - 256) (by omega)
    have p8 := at8_put (buildIp tos id ttl proto src dst b) (word16 (ttl * 256 + proto - 256)) 8 (by omega)
    have p8b := at8_put (ipBare tos id ttl proto src dst b.size) (word16 (ttl * 256 + proto - 256)) 8 (by omega)
    rw [show ((8 : Nat) : Int) = 8 from rfl] at p8 p8b
    rw [show ((2 * 4 : Nat) : Int) = 8 from rfl] at hb4
    apply at8_ext
    · rw [putBytes_size, putBytes_size, zb, eb', ByteArray.size_append, hhead'.1]
    · intro k hk
      rw [putBytes_size, putBytes_size, zb] at hk
      have p10 := at8_put (putBytes (buildIp tos id ttl proto src dst b) 8 (word16 (ttl * 256 + proto - 256))) (word16 (checksum (ipBare tos id (ttl - 1) proto src dst b.size))) 10 (by rw [putBytes_size]; omega) k
      rw [show ((10 : Nat) : Int) = 10 from rfl] at p10
      rw [p10, hz, p8, hz2, eb']
      by_cases h10 : 10 ≤ k ∧ k < 10 + 2
      · rw [if_pos h10, at8_left _ _ _ (by omega)]
        have g := hhead'.2.2
        have g2 : get16 (ipHead tos id (ttl - 1) proto src dst b.size) 10 = at8 (ipHead tos id (ttl - 1) proto src dst b.size) 10 * 256 + at8 (ipHead tos id (ttl - 1) proto src dst b.size) 11 := get16_at (ipHead tos id (ttl - 1) proto src dst b.size) 10 (by omega)
        rw [g] at g2
        have v0 := at8_range (ipHead tos id (ttl - 1) proto src dst b.size) 10
        have v1 := at8_range (ipHead tos id (ttl - 1) proto src dst b.size) 11
        have : k = 10 ∨ k = 11 := by omega
        rcases this with rfl | rfl
        · rw [Nat.sub_self, hw.1]; omega
        · rw [show 11 - 10 = 1 from rfl, hw.2]; omega
      · rw [if_neg h10]
        by_cases hlt : k < 20
        · rw [at8_left _ _ _ (by omega), hhead'.2.1 k (by omega), hb4, p8b, hz2]
          by_cases h8 : 8 ≤ k ∧ k < 8 + 2
          · rw [if_pos h8, if_pos h8]
          · rw [if_neg h8, if_neg h8, eb, at8_left _ _ _ (by omega), hhead.2.1 k (by omega)]
        · rw [if_neg (by omega), eb, at8_right _ _ _ (by omega), at8_right _ _ _ (by omega), hhead.1, hhead'.1]
  · have h0 : at8 (buildIp tos id ttl proto src dst b) 8 = 0 := by rw [a8]; omega
    obtain ⟨e1, e2⟩ := ttl_zero _ h0
    exact ⟨by rw [e2, decide_eq_false ht], by rw [e1, if_neg ht]⟩
end Go.Proofs.Ytnpnkkjdnmgbkaa.P
