/-
  Plain functions and laws on the fields of a line. No program is in sight here.
-/
import Derived.Test.YtoikpdijkdmimaaDoorPure
namespace Go.Proofs.YtoikpdijkdmimaaDoor.P
/-- the byte at i ends a field: a space, or there is none -/
def sep (s : ByteArray) (i : Nat) : Bool := !(decide (i < s.size) && !decide (at8n s i = 32))
/-- every byte before i can be printed -/
def prt (s : ByteArray) : Nat → Bool
  | 0 => true
  | i + 1 => prt s i && decide (32 ≤ at8n s i ∧ at8n s i ≤ 126)
/-- where the field that stands at i began -/
def beg (s : ByteArray) : Nat → Nat
  | 0 => 0
  | i + 1 => if sep s i then i + 1 else beg s i
/-- the fields that ended before i -/
def fld (s : ByteArray) : Nat → List ByteArray
  | 0 => []
  | i + 1 => if sep s i then (if beg s i < i then fld s i ++ [s.extract (beg s i) i] else fld s i) else fld s i
/-- the fields, if the line ended at i -/
def fin (s : ByteArray) (i : Nat) : List ByteArray := if beg s i < i then fld s i ++ [s.extract (beg s i) i] else fld s i
theorem sep_end (s : ByteArray) : sep s s.size = true := by simp [sep]
theorem sep_at (s : ByteArray) (i : Nat) (h : i < s.size) : sep s i = decide (at8n s i = 32) := by simp [sep, h]
theorem fld_sep (s : ByteArray) (i : Nat) (h : sep s i = true) : fld s (i + 1) = fin s i ∧ beg s (i + 1) = i + 1 := by simp [fld, beg, fin, h]
theorem fld_in (s : ByteArray) (i : Nat) (h : sep s i = false) : fld s (i + 1) = fld s i ∧ beg s (i + 1) = beg s i := by simp [fld, beg, h]
theorem fin_start (s : ByteArray) (i : Nat) (h : beg s i = i) : fin s i = fld s i := by simp [fin, h]
theorem fin_some (s : ByteArray) (i : Nat) (h : beg s i < i) : fin s i = fld s i ++ [s.extract (beg s i) i] := by simp [fin, h]
theorem fin_next (s : ByteArray) (i : Nat) (h : sep s i = true) : fin s (i + 1) = fin s i := by
  rw [fin_start s (i + 1) (fld_sep s i h).2, (fld_sep s i h).1]
theorem beg_le (s : ByteArray) : ∀ i, beg s i ≤ i
  | 0 => Nat.le_refl _
  | i + 1 => by
    have := beg_le s i
    unfold beg
    split <;> omega
theorem fld_length (s : ByteArray) : ∀ i, (fld s i).length ≤ i
  | 0 => Nat.le_refl _
  | i + 1 => by
    have := fld_length s i
    unfold fld
    split
    · split
      · rw [List.length_append]; simp; omega
      · omega
    · omega
theorem fin_length (s : ByteArray) (i : Nat) : (fin s i).length ≤ i + 1 := by
  have := fld_length s i
  unfold fin
  split
  · rw [List.length_append]; simp; omega
  · omega
theorem prt_at (s : ByteArray) : ∀ n i, prt s n = true → i < n → 32 ≤ at8n s i ∧ at8n s i ≤ 126
  | 0, _, _, h => by omega
  | n + 1, i, h, hi => by
    simp only [prt, Bool.and_eq_true, decide_eq_true_eq] at h
    by_cases e : i = n
    · subst e; exact h.2
    · exact prt_at s n i h.1 (by omega)
theorem prt_no (s : ByteArray) (n i : Nat) (h : i < n) (h2 : ¬ (32 ≤ at8n s i ∧ at8n s i ≤ 126)) : prt s n = false := by
  cases hc : prt s n with
  | false => rfl
  | true => exact absurd (prt_at s n i hc h) h2
theorem prt_next (s : ByteArray) (i : Nat) (h : prt s i = true) (h2 : 32 ≤ at8n s i ∧ at8n s i ≤ 126) : prt s (i + 1) = true := by simp [prt, h, h2]
/-- whether a line has fields -/
def sfOk (s : ByteArray) : Bool := decide (s.size ≤ 600) && prt s s.size && decide ((fin s s.size).length ≤ 24)
def sfL (s : ByteArray) : List ByteArray := if sfOk s then fin s s.size else []
theorem sf_yes (s : ByteArray) (h1 : s.size ≤ 600) (h2 : prt s s.size = true) (h3 : (fin s s.size).length ≤ 24) : sfL s = fin s s.size ∧ sfOk s = true := by
  have : sfOk s = true := by simp [sfOk, h1, h2, h3]
  simp [sfL, this]
theorem sf_no (s : ByteArray) (h : ¬ s.size ≤ 600 ∨ prt s s.size = false ∨ ¬ (fin s s.size).length ≤ 24) : sfL s = [] ∧ sfOk s = false := by
  have : sfOk s = false := by
    unfold sfOk
    rcases h with h | h | h
    · rw [decide_eq_false h]; rfl
    · rw [h]; simp
    · rw [decide_eq_false h]; simp
  simp [sfL, this]
end Go.Proofs.YtoikpdijkdmimaaDoor.P
