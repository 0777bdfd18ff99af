/-
  Plain laws: a word put into data; the checksum brought up to date, in the words of the law.
-/
import Derived.Test.YtnpnkkjdnmgbkaaPure8
import Derived.Test.YtnpnkkjdnmgbkaaPureB
namespace Go.Proofs.Ytnpnkkjdnmgbkaa
open Go.RowKit
namespace P

theorem get16_put (s : ByteArray) (k : Nat) (v : Int) (hv : 0 ≤ v ∧ v ≤ 65535) (hk : k + 2 ≤ s.size) : get16 (putBytes s (k : Int) (word16 v)) (k : Int) = v := by
  have hz := word16_size v hv
  have hw := at8_word16 v hv
  rw [get16_at _ k (by rw [putBytes_size]; exact hk), at8_put s _ k (by omega) k, at8_put s _ k (by omega) (k + 1), if_pos (by omega), if_pos (by omega), Nat.sub_self, show k + 1 - k = 1 by omega, hw.1, hw.2]
  omega
theorem get16_word (s : ByteArray) (j : Nat) (hj : 2 * j + 2 ≤ s.size) : get16 s ((2 * j : Nat) : Int) = wordAt s j := get16_at s (2 * j) hj
theorem words_all (s : ByteArray) (k : Nat) (hk : k + 4 ≤ s.size) (v c w : Int) (hv : 0 ≤ v ∧ v ≤ 65535) (hc : 0 ≤ c ∧ c ≤ 65535) (hw : v * 65536 + c = w) (a b : ByteArray) (ha : putBytes s k (word16 v) = a) (hb : putBytes s k (word32 w) = b) :
    get16 a k = v ∧ get32 b k = w ∧ get16 b k = v ∧ putBytes a k (s.extract k (k + 2)) = s ∧ addSums v (65535 - v) = 65535 ∧ a.size = s.size ∧ b.size = s.size := by
  subst ha hb hw
  obtain ⟨h1, h2, h3, h4, h5⟩ := law_words s k hk v c hv hc
  exact ⟨h1, h2, h3, h4, h5, putBytes_size _ _ _, putBytes_size _ _ _⟩
end P
end Go.Proofs.Ytnpnkkjdnmgbkaa
