/-
  Plain facts on how an argument's value looks (a struct by value of ints and strings, cell by cell). No premise but the program's own tables.
-/
import Derived.Test.YtoikpdijkdmimaaDoorProg
import Derived.WalkKit
import Derived.ProofKit
namespace Go.Proofs.YtoikpdijkdmimaaDoor
open Go.RowKit
set_option linter.unusedVariables false

theorem arr5 {α : Type} {cs : Array α} (h : cs.size = 5) : ∃ a b c d e, cs = #[a, b, c, d, e] := by
  obtain ⟨l⟩ := cs
  match l, h with
  | [a, b, c, d, e], _ => exact ⟨a, b, c, d, e, rfl⟩
theorem arr7 {α : Type} {cs : Array α} (h : cs.size = 7) : ∃ a b c d e f g, cs = #[a, b, c, d, e, f, g] := by
  obtain ⟨l⟩ := cs
  match l, h with
  | [a, b, c, d, e, f, g], _ => exact ⟨a, b, c, d, e, f, g, rfl⟩
theorem arr8 {α : Type} {cs : Array α} (h : cs.size = 8) : ∃ a b c d e f g i, cs = #[a, b, c, d, e, f, g, i] := by
  obtain ⟨l⟩ := cs
  match l, h with
  | [a, b, c, d, e, f, g, i], _ => exact ⟨a, b, c, d, e, f, g, i, rfl⟩
theorem arr16 {α : Type} {cs : Array α} (h : cs.size = 16) : ∃ a b c d e f g i a' b' c' d' e' f' g' i', cs = #[a, b, c, d, e, f, g, i, a', b', c', d', e', f', g', i'] := by
  obtain ⟨l⟩ := cs
  match l, h with
  | [a, b, c, d, e, f, g, i, a', b', c', d', e', f', g', i'], _ => exact ⟨a, b, c, d, e, f, g, i, a', b', c', d', e', f', g', i', rfl⟩

/-- an int of 64 bits -/
def I64 (n : Int) : Prop := -9223372036854775808 ≤ n ∧ n ≤ 9223372036854775807

theorem cell_int {w : World} {r : Reach} {base : Nat} {u : TypeId} {v : Value} (hu : Tryd.prog.underlying u = some (.int .i64)) (h : Cell.okWide Tryd.prog w r base u v) : ∃ n, v = .int .i64 n ∧ I64 n := by
  simp only [Cell.okWide, hu] at h
  cases v <;> simp_all [Cell.ok, IntKind.has, IntKind.min, IntKind.max, IntKind.signed, IntKind.bits, I64]
theorem cell_string {w : World} {r : Reach} {base : Nat} {u : TypeId} {v : Value} (hu : Tryd.prog.underlying u = some .string) (h : Cell.okWide Tryd.prog w r base u v) : ∃ s, v = .string s ∧ s.size ≤ maxLen := by
  simp only [Cell.okWide, hu] at h
  cases v <;> simp_all [Cell.ok, IntKind.max, IntKind.signed, IntKind.bits, maxLen]
  omega

theorem row_cell {w : World} {r : Reach} {base : Nat} {t : TypeId} {cs : Array Value} {ts : List TypeId} (hts : Tryd.prog.cellTypes Tryd.prog.depth t = some ts) (h : Row.okWide Tryd.prog w r base t cs) {i : Nat} (hi : i < ts.length) {v : Value} (hv : cs[i]? = some v) {u : TypeId} (hu : ts[i]? = some u) :
    Cell.okWide Tryd.prog w r base u v := by
  obtain ⟨ts', h1, _, h3⟩ := h
  rw [hts] at h1
  obtain rfl := Option.some.inj h1
  obtain ⟨u', hu', hc⟩ := h3 i v hv
  rw [Nat.mod_eq_of_lt hi] at hu'
  rw [hu] at hu'
  obtain rfl := Option.some.inj hu'
  exact hc
theorem val_int {w : World} {r : Reach} {base : Nat} {u : TypeId} {v : Value} (hu : Tryd.prog.underlying u = some (.int .i64)) (h : Value.okWide Tryd.prog w r base u v) : ∃ n, v = .int .i64 n ∧ I64 n := by
  simp only [Value.okWide, hu] at h
  exact cell_int hu h
theorem val_string {w : World} {r : Reach} {base : Nat} {u : TypeId} {v : Value} (hu : Tryd.prog.underlying u = some .string) (h : Value.okWide Tryd.prog w r base u v) : ∃ s, v = .string s ∧ s.size ≤ maxLen := by
  simp only [Value.okWide, hu] at h
  exact cell_string hu h
end Go.Proofs.YtoikpdijkdmimaaDoor
