/-
  Plain laws on frames: what is built can be parsed; tags. No program is in sight here.
-/
import Derived.Test.YtnpnkkjdnmgbkaaPure9
import Derived.Test.YtnpnkkjdnmgbkaaPure2
import Derived.Test.YtnpnkkjdnmgbkaaPure6
namespace Go.Proofs.Ytnpnkkjdnmgbkaa.P
theorem nil_app (x : ByteArray) : bs [] ++ x = x := L_ext (by rw [L_append, L_bs, List.nil_append])
theorem get16_head (B : ByteArray) (v : Int) (h : 0 ≤ v ∧ v ≤ 65535) : get16 (word16 v ++ B) 0 = v := by
  have := get16_mid (bs []) B v h 0 (by rw [bs_size]; rfl)
  rwa [nil_app] at this
theorem extract_tail (A b : ByteArray) (n : Nat) (h : n = A.size) : (A ++ b).extract n (A ++ b).size = b := by
  subst h
  apply at8n_ext
  · rw [ByteArray.size_extract, ByteArray.size_append]; omega
  · intro k hk
    rw [ByteArray.size_extract, ByteArray.size_append] at hk
    rw [at8n_extract _ _ _ _ (by rw [ByteArray.size_append]; omega), at8n_right _ _ _ (by omega)]
    congr 1
    omega
theorem extract_front (A b : ByteArray) (n : Nat) (h : n = A.size) : (A ++ b).extract 0 n = A := by
  subst h
  apply at8n_ext
  · rw [ByteArray.size_extract, ByteArray.size_append]; omega
  · intro k hk
    rw [ByteArray.size_extract, ByteArray.size_append] at hk
    rw [at8n_extract _ _ _ _ (by omega), Nat.zero_add, at8n_left _ _ _ (by omega)]
theorem mac_size (a : Int) (h : 0 ≤ a ∧ a ≤ 281474976710655) : (mac a).size = 6 := by
  unfold mac
  rw [ByteArray.size_append, word16_size _ (by omega), word32_size _ (by omega)]
theorem mac48_of (a : Int) (_ : 0 ≤ a ∧ a ≤ 281474976710655) : a / 4294967296 * 4294967296 + a % 4294967296 = a := by omega
/-- a frame's twelve bytes of addresses -/
theorem macs_read (d s : Int) (hd : 0 ≤ d ∧ d ≤ 281474976710655) (hs : 0 ≤ s ∧ s ≤ 281474976710655) (B : ByteArray) :
    mac48 (mac d ++ mac s ++ B) 0 2 = d ∧ mac48 (mac d ++ mac s ++ B) 6 8 = s := by
  have zd := word16_size (d / 4294967296) (by omega)
  have zd2 := word32_size (d % 4294967296) (by omega)
  have zs := word16_size (s / 4294967296) (by omega)
  have e1 : mac d ++ mac s ++ B = word16 (d / 4294967296) ++ (word32 (d % 4294967296) ++ (word16 (s / 4294967296) ++ (word32 (s % 4294967296) ++ B))) := by
    unfold mac; simp only [ByteArray.append_assoc]
  have e2 : mac d ++ mac s ++ B = (word16 (d / 4294967296) ++ word32 (d % 4294967296)) ++ (word16 (s / 4294967296) ++ (word32 (s % 4294967296) ++ B)) := by
    unfold mac; simp only [ByteArray.append_assoc]
  have e3 : mac d ++ mac s ++ B = (word16 (d / 4294967296) ++ word32 (d % 4294967296) ++ word16 (s / 4294967296)) ++ (word32 (s % 4294967296) ++ B) := by
    unfold mac; simp only [ByteArray.append_assoc]
  constructor
  · unfold mac48
    rw [e1, get16_head _ _ (by omega), get32_mid _ _ _ (by omega) 2 (by rw [zd]; rfl)]
    exact mac48_of d hd
  · unfold mac48
    rw [show get16 (mac d ++ mac s ++ B) 6 = s / 4294967296 from by rw [e2]; exact get16_mid _ _ _ (by omega) 6 (by rw [ByteArray.size_append, zd, zd2]; rfl),
      show get32 (mac d ++ mac s ++ B) 8 = s % 4294967296 from by rw [e3]; exact get32_mid _ _ _ (by omega) 8 (by rw [ByteArray.size_append, ByteArray.size_append, zd, zd2, zs]; rfl)]
    exact mac48_of s hs
theorem eth_round (d s v t : Int) (b : ByteArray) (h : ethOk d s v t b.size = true) :
    peOk (buildEth d s v t b) = true ∧ peD (buildEth d s v t b) = d ∧ peS (buildEth d s v t b) = s ∧ peV (buildEth d s v t b) = v ∧ peT (buildEth d s v t b) = t ∧ peB (buildEth d s v t b) = b
      ∧ (buildEth d s v t b).size = (if 0 ≤ v then 18 else 14) + b.size := by
  have hr := of_decide_eq_true h
  have hd : 0 ≤ d ∧ d ≤ 281474976710655 := by omega
  have hs : 0 ≤ s ∧ s ≤ 281474976710655 := by omega
  have zm : (mac d ++ mac s).size = 12 := by rw [ByteArray.size_append, mac_size d hd, mac_size s hs]
  have zt := word16_size t (by omega)
  have zg := word16_size 33024 (by omega)
  by_cases hv : 0 ≤ v
  · have zv := word16_size v (by omega)
    have e0 : buildEth d s v t b = mac d ++ mac s ++ (word16 33024 ++ (word16 v ++ (word16 t ++ b))) := by
      unfold buildEth ethHead; rw [if_pos h, if_pos hv]; simp only [ByteArray.append_assoc]
    have e1 : buildEth d s v t b = (mac d ++ mac s ++ word16 33024) ++ (word16 v ++ (word16 t ++ b)) := by rw [e0]; simp only [ByteArray.append_assoc]
    have e2 : buildEth d s v t b = (mac d ++ mac s ++ word16 33024 ++ word16 v) ++ (word16 t ++ b) := by rw [e0]; simp only [ByteArray.append_assoc]
    have e3 : buildEth d s v t b = (mac d ++ mac s ++ word16 33024 ++ word16 v ++ word16 t) ++ b := by rw [e0]; simp only [ByteArray.append_assoc]
    have g12 : get16 (buildEth d s v t b) 12 = 33024 := by rw [e0]; exact get16_mid _ _ _ (by omega) 12 (by rw [zm]; rfl)
    have g14 : get16 (buildEth d s v t b) 14 = v := by rw [e1]; exact get16_mid _ _ _ (by omega) 14 (by rw [ByteArray.size_append, zm, zg]; rfl)
    have g16 : get16 (buildEth d s v t b) 16 = t := by rw [e2]; exact get16_mid _ _ _ (by omega) 16 (by rw [ByteArray.size_append, ByteArray.size_append, zm, zg, zv]; rfl)
    have gb : (buildEth d s v t b).extract 18 (buildEth d s v t b).size = b := by rw [e3]; exact extract_tail _ _ _ (by rw [ByteArray.size_append, ByteArray.size_append, ByteArray.size_append, zm, zg, zv, zt])
    have gm := macs_read d s hd hs (word16 33024 ++ (word16 v ++ (word16 t ++ b)))
    rw [← e0] at gm
    have hsz : (buildEth d s v t b).size = 18 + b.size := by rw [e3]; simp only [ByteArray.size_append]; rw [← ByteArray.size_append, zm, zg, zv, zt]
    have hok : peOk (buildEth d s v t b) = true := by rw [peOk_tag _ g12 (by omega), gm.1, gm.2, g14, g16, gb]; exact h
    obtain ⟨q1, q2, q3, q4, q5⟩ := pe_tag _ hok g12
    exact ⟨hok, by rw [q1, gm.1], by rw [q2, gm.2], by rw [q3, g14], by rw [q4, g16], by rw [q5, gb], by rw [if_pos hv, hsz]⟩
  · have e0 : buildEth d s v t b = mac d ++ mac s ++ (word16 t ++ b) := by
      unfold buildEth ethHead; rw [if_pos h, if_neg hv]; simp only [ByteArray.append_assoc]
    have e3 : buildEth d s v t b = (mac d ++ mac s ++ word16 t) ++ b := by rw [e0]; simp only [ByteArray.append_assoc]
    have g12 : get16 (buildEth d s v t b) 12 = t := by rw [e0]; exact get16_mid _ _ _ (by omega) 12 (by rw [zm]; rfl)
    have gb : (buildEth d s v t b).extract 14 (buildEth d s v t b).size = b := by rw [e3]; exact extract_tail _ _ _ (by rw [ByteArray.size_append, zm, zt])
    have gm := macs_read d s hd hs (word16 t ++ b)
    rw [← e0] at gm
    have hsz : (buildEth d s v t b).size = 14 + b.size := by rw [e3, ByteArray.size_append, ByteArray.size_append, zm, zt]
    have hne : ¬ get16 (buildEth d s v t b) 12 = 33024 := by rw [g12]; omega
    have hv1 : v = -1 := by omega
    have hok : peOk (buildEth d s v t b) = true := by rw [peOk_plain _ hne (by omega), gm.1, gm.2, g12, gb, ← hv1]; exact h
    obtain ⟨q1, q2, q3, q4, q5⟩ := pe_plain _ hok hne
    exact ⟨hok, by rw [q1, gm.1], by rw [q2, gm.2], by rw [q3, hv1], by rw [q4, g12], by rw [q5, gb], by rw [if_neg hv, hsz]⟩
/-- a tag inserted and stripped -/
theorem eth_tags (d s v t : Int) (b : ByteArray) (h : ethOk d s v t b.size = true) (a : Int) (ha : 0 ≤ a ∧ a ≤ 255) :
    stripTag (buildEth d s v t b) = buildEth d s (-1) t b ∧ stripV (buildEth d s v t b) = v ∧ insOk (buildEth d s (-1) t b) a = true ∧ insertTag (buildEth d s (-1) t b) a = buildEth d s a t b
      ∧ insOk (buildEth d s a t b) 1 = false ∧ (buildEth d s a t b).size = (buildEth d s (-1) t b).size + 4 := by
  have hr := of_decide_eq_true h
  have h1 := ethOk_vlan h (-1) (by omega)
  have h2 := ethOk_vlan h a (by omega)
  obtain ⟨a1, a2, a3, a4, a5, a6, a7⟩ := eth_round d s v t b h
  obtain ⟨b1, b2, b3, b4, b5, b6, b7⟩ := eth_round d s (-1) t b h1
  obtain ⟨c1, c2, c3, c4, c5, c6, c7⟩ := eth_round d s a t b h2
  refine ⟨?_, ?_, ?_, ?_, ?_, ?_⟩
  · by_cases hv : v = -1
    · subst hv; exact (str_no _ b4).1
    · rw [(str_yes _ a1 (by rw [a4]; exact hv)).1, a2, a3, a5, a6]
  · by_cases hv : v = -1
    · subst hv; exact (str_no _ b4).2
    · rw [(str_yes _ a1 (by rw [a4]; exact hv)).2, a4]
  · exact (ins_yes _ a b1 ⟨b4, by omega, by omega⟩).2
  · rw [(ins_yes _ a b1 ⟨b4, by omega, by omega⟩).1, b2, b3, b5, b6]
  · exact (ins_no _ 1 (by rw [c4]; omega)).2
  · rw [c7, b7, if_pos (by omega), if_neg (by omega)]; omega
end Go.Proofs.Ytnpnkkjdnmgbkaa.P
