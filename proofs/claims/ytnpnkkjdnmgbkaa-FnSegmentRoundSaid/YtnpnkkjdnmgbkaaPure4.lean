/-
  More plain facts: segments read back. No program is in sight here.
-/
import Derived.Test.YtnpnkkjdnmgbkaaPure
namespace Go.Proofs.Ytnpnkkjdnmgbkaa.P
/-! ### segments read back -/
theorem ps_in (src dst kind : Int) (s : ByteArray) (h : psIn kind s = false) : psOk src dst kind s = false := by
  unfold psOk
  rw [h]
  rfl
theorem ps_bad (src dst kind : Int) (s : ByteArray) (h : psOk src dst kind s = false) :
    psKind src dst kind s = 0 ∧ psSp src dst kind s = 0 ∧ psDp src dst kind s = 0 ∧ psSeq src dst kind s = 0 ∧ psAck src dst kind s = 0 ∧ psFlags src dst kind s = 0 ∧ psWin src dst kind s = 0 ∧ psB src dst kind s = bs [] := by
  unfold psKind psSp psDp psSeq psAck psFlags psWin psB
  rw [h]
  simp
theorem ps_tcp_eq (src dst : Int) (s : ByteArray) : psOk src dst 6 s = (psIn 6 s && bsOk src dst 6 (get16 s 0) (get16 s 2) (get32 s 4) (get32 s 8) (at8 s 13) (get16 s 14) (s.extract 20 s.size) && decide (buildSeg src dst 6 (get16 s 0) (get16 s 2) (get32 s 4) (get32 s 8) (at8 s 13) (get16 s 14) (s.extract 20 s.size) = s)) := by
  unfold psOk psSeq0 psAck0 psFlags0 psWin0 psB0
  rw [if_pos rfl, if_pos rfl, if_pos rfl, if_pos rfl, if_pos rfl]
theorem ps_tcp_no (src dst : Int) (s : ByteArray) (h : bsOk src dst 6 (get16 s 0) (get16 s 2) (get32 s 4) (get32 s 8) (at8 s 13) (get16 s 14) (s.extract 20 s.size) = false) : psOk src dst 6 s = false := by
  rw [ps_tcp_eq, h]
  simp
theorem ps_tcp_ne (src dst : Int) (s : ByteArray) (h : ¬ buildSeg src dst 6 (get16 s 0) (get16 s 2) (get32 s 4) (get32 s 8) (at8 s 13) (get16 s 14) (s.extract 20 s.size) = s) : psOk src dst 6 s = false := by
  rw [ps_tcp_eq, decide_eq_false h]
  simp
theorem ps_tcp_yes (src dst : Int) (s : ByteArray) (hsz : 20 ≤ s.size) (h : bsOk src dst 6 (get16 s 0) (get16 s 2) (get32 s 4) (get32 s 8) (at8 s 13) (get16 s 14) (s.extract 20 s.size) = true) (he : buildSeg src dst 6 (get16 s 0) (get16 s 2) (get32 s 4) (get32 s 8) (at8 s 13) (get16 s 14) (s.extract 20 s.size) = s) : psOk src dst 6 s = true := by
  rw [ps_tcp_eq, h, decide_eq_true he, show psIn 6 s = true from decide_eq_true (by omega)]
  rfl
theorem ps_tcp (src dst : Int) (s : ByteArray) (h : psOk src dst 6 s = true) :
    psKind src dst 6 s = 6 ∧ psSp src dst 6 s = get16 s 0 ∧ psDp src dst 6 s = get16 s 2 ∧ psSeq src dst 6 s = get32 s 4 ∧ psAck src dst 6 s = get32 s 8 ∧ psFlags src dst 6 s = at8 s 13 ∧ psWin src dst 6 s = get16 s 14 ∧ psB src dst 6 s = s.extract 20 s.size := by
  unfold psKind psSp psDp psSeq psAck psFlags psWin psB psSeq0 psAck0 psFlags0 psWin0 psB0
  rw [h]
  simp
theorem ps_udp_eq (src dst : Int) (s : ByteArray) : psOk src dst 17 s = (psIn 17 s && bsOk src dst 17 (get16 s 0) (get16 s 2) 0 0 0 0 (s.extract 8 s.size) && decide (buildSeg src dst 17 (get16 s 0) (get16 s 2) 0 0 0 0 (s.extract 8 s.size) = s)) := by
  unfold psOk psSeq0 psAck0 psFlags0 psWin0 psB0
  rw [if_neg (by decide), if_neg (by decide), if_neg (by decide), if_neg (by decide), if_neg (by decide)]
theorem ps_udp_no (src dst : Int) (s : ByteArray) (h : bsOk src dst 17 (get16 s 0) (get16 s 2) 0 0 0 0 (s.extract 8 s.size) = false) : psOk src dst 17 s = false := by
  rw [ps_udp_eq, h]
  simp
theorem ps_udp_ne (src dst : Int) (s : ByteArray) (h : ¬ buildSeg src dst 17 (get16 s 0) (get16 s 2) 0 0 0 0 (s.extract 8 s.size) = s) : psOk src dst 17 s = false := by
  rw [ps_udp_eq, decide_eq_false h]
  simp
theorem ps_udp_yes (src dst : Int) (s : ByteArray) (hsz : 8 ≤ s.size) (h : bsOk src dst 17 (get16 s 0) (get16 s 2) 0 0 0 0 (s.extract 8 s.size) = true) (he : buildSeg src dst 17 (get16 s 0) (get16 s 2) 0 0 0 0 (s.extract 8 s.size) = s) : psOk src dst 17 s = true := by
  rw [ps_udp_eq, h, decide_eq_true he, show psIn 17 s = true from decide_eq_true (by omega)]
  rfl
theorem ps_udp (src dst : Int) (s : ByteArray) (h : psOk src dst 17 s = true) :
    psKind src dst 17 s = 17 ∧ psSp src dst 17 s = get16 s 0 ∧ psDp src dst 17 s = get16 s 2 ∧ psSeq src dst 17 s = 0 ∧ psAck src dst 17 s = 0 ∧ psFlags src dst 17 s = 0 ∧ psWin src dst 17 s = 0 ∧ psB src dst 17 s = s.extract 8 s.size := by
  unfold psKind psSp psDp psSeq psAck psFlags psWin psB psSeq0 psAck0 psFlags0 psWin0 psB0
  rw [h]
  simp
end Go.Proofs.Ytnpnkkjdnmgbkaa.P
