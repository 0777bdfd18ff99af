/-
  Lists of strings: read, compared, marked and read again.
-/
import Derived.Test.YtoikpdijkdmimaaDoorRegion
import Derived.Test.YtoikpdijkdmimaaDoorPureG
namespace Go.Proofs.YtoikpdijkdmimaaDoor
open Go.RowKit
set_option linter.unusedVariables false

namespace P
/-- the digits of k in front of out -/
def mk (k : Nat) (out : ByteArray) : ByteArray := if h : k = 0 then out else mk (k / 10) (bs [by8 (48 + (k % 10 : Nat))] ++ out)
termination_by k
decreasing_by omega
/-- the mark of number k -/
def mark (k : Nat) : ByteArray := bs [109] ++ mk k (bs [])
theorem mk_zero (out : ByteArray) : mk 0 out = out := by rw [mk]; simp
theorem mk_next (k : Nat) (h : 0 < k) (out : ByteArray) : mk k out = mk (k / 10) (bs [by8 (48 + (k % 10 : Nat))] ++ out) := by rw [mk]; simp [Nat.ne_of_gt h]
/-- n marks from k on -/
def marks (k n : Nat) : List ByteArray := (List.range n).map fun i => mark (k + i)
theorem marks_length (k n : Nat) : (marks k n).length = n := by simp [marks]
theorem marks_at (k n i : Nat) (h : i < (marks k n).length) : (marks k n)[i] = mark (k + i) := by simp [marks]
end P
theorem marks_next (k j n : Nat) (xs : List Value) (hj : j < n) (hx : xs.length = n) :
    ((P.marks k j).map Value.string ++ xs.drop j).set j (.string (P.mark (k + j))) = (P.marks k (j + 1)).map Value.string ++ xs.drop (j + 1) := by
  rw [List.set_append_right _ _ (by simp [P.marks_length])]
  have e : P.marks k (j + 1) = P.marks k j ++ [P.mark (k + j)] := by simp [P.marks, List.range_succ]
  rw [e, List.map_append, List.append_assoc]
  congr 1
  rw [List.length_map, P.marks_length, Nat.sub_self, List.drop_eq_getElem_cons (show j < xs.length by omega), List.set_cons_zero]
  simp

/-- a value reads as a list of strings -/
def StrIs (w : World) (v : Value) (L : List ByteArray) : Prop :=
  ∃ (pa : Option Addr) (cap : Nat), v = .slice pa L.length cap ∧ ∀ j, j < L.length → ∃ b, pa = some ⟨b, 0, none⟩ ∧ w.cell? ⟨b, j, none⟩ = some (.string (L.getD j ⟨#[]⟩))
theorem StrIs.bel {w w' : World} {v : Value} {L : List ByteArray} (h : StrIs w v L) (k : Bel w w') : StrIs w' v L := by
  obtain ⟨pa, cap, hv, hc⟩ := h
  refine ⟨pa, cap, hv, fun j hj => ?_⟩
  obtain ⟨b, hb, hcell⟩ := hc j hj
  exact ⟨b, hb, k.at hcell⟩
theorem strIs_of {w : World} {base : Nat} {v : Value} {n : Nat} {L : List ByteArray} (h : w.ownsRow base 9 1 v n (L.map Value.string)) : StrIs w v L := by
  have hl : L.length = n := by simpa using h.1
  subst hl
  by_cases h0 : 0 < L.length
  · obtain ⟨g, cap, rfl, _, _⟩ := World.ownsRow.form h h0
    exact ⟨_, _, rfl, fun j hj => ⟨g, rfl, by rw [h.cellAt j (by omega)]; simp [hj, List.getD_eq_getElem?_getD]⟩⟩
  · rcases h.2 with ⟨hv, hn⟩ | ⟨g, cap, cur, hv, _⟩
    · exact ⟨none, 0, by rw [hv, hn], fun j hj => by omega⟩
    · exact ⟨_, cap, hv, fun j hj => by omega⟩
theorem Bel.grownBy {w w' : World} (h : Bel w w') (row : Option Nat) : w.grownBy w' row := ⟨h.os, h.tape, h.output, Bel.size h, fun k hk _ => h.block k hk⟩
theorem grownBy_trans {x y z : World} {row : Option Nat} (h : x.grownBy y row) (k : y.grownBy z row) : x.grownBy z row :=
  ⟨k.os.trans h.os, k.tape.trans h.tape, k.output.trans h.output, Nat.le_trans h.size k.size, fun i hi hr => (k.block i (Nat.lt_of_lt_of_le hi h.size) hr).trans (h.block i hi hr)⟩

end Go.Proofs.YtoikpdijkdmimaaDoor
