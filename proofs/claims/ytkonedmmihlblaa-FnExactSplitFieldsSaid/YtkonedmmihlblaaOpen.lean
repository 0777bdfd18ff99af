/-
  Plain facts on how an argument's value looks (a struct by value of ints and strings, cell by cell). No premise but the program's own tables.
-/
import Derived.Test.YtkonedmmihlblaaProg
import Derived.WalkKit
import Derived.ProofKit
namespace Go.Proofs.Ytkonedmmihlblaa
open Go.RowKit
set_option linter.unusedVariables false

theorem arr5 {α : Type} {cs : Array α} (h : cs.size = 5) : ∃ a b c d e, cs = #[a, b, c, d, e] := by
  obtain ⟨l⟩ := cs
  match l, h with
  | [a, b, c, d, e], _ => exact ⟨a, b, c, d, e, rfl⟩
theorem arr7 {α : Type} {cs : Array α} (h : cs.size = 7) : ∃ a b c d e f g, cs = #[a, b, c, d, e, f, g] := by
  obtain ⟨l⟩ := cs
  match l, h with
  | [a, b, c, d, e, f, g], _ => exact ⟨a, b, c, d, e, f, g, rfl⟩
theorem arr8 {α : Type} {cs : Array α} (h : cs.size = 8) : ∃ a b c d e f g i, cs = #[a, b, c, d, e, f, g, i] := by
  obtain ⟨l⟩ := cs
  match l, h with
  | [a, b, c, d, e, f, g, i], _ => exact ⟨a, b, c, d, e, f, g, i, rfl⟩
theorem arr16 {α : Type} {cs : Array α} (h : cs.size = 16) : ∃ a b c d e f g i a' b' c' d' e' f' g' i', cs = #[a, b, c, d, e, f, g, i, a', b', c', d', e', f', g', i'] := by
  obtain ⟨l⟩ := cs
  match l, h with
  | [a, b, c, d, e, f, g, i, a', b', c', d', e', f', g', i'], _ => exact ⟨a, b, c, d, e, f, g, i, a', b', c', d', e', f', g', i', rfl⟩

/-- an int of 64 bits -/
def I64 (n : Int) : Prop := -9223372036854775808 ≤ n ∧ n ≤ 9223372036854775807

theorem cell_int {w : World} {r : Reach} {base : Nat} {u : TypeId} {v : Value} (hu : Try.prog.underlying u = some (.int .i64)) (h : Cell.okWide Try.prog w r base u v) : ∃ n, v = .int .i64 n ∧ I64 n := by
  simp only [Cell.okWide, hu] at h
  cases v <;> simp_all [Cell.ok, IntKind.has, IntKind.min, IntKind.max, IntKind.signed, IntKind.bits, I64]
theorem cell_string {w : World} {r : Reach} {base : Nat} {u : TypeId} {v : Value} (hu : Try.prog.underlying u = some .string) (h : Cell.okWide Try.prog w r base u v) : ∃ s, v = .string s ∧ s.size ≤ maxLen := by
  simp only [Cell.okWide, hu] at h
  cases v <;> simp_all [Cell.ok, IntKind.max, IntKind.signed, IntKind.bits, maxLen]
  omega

theorem row_cell {w : World} {r : Reach} {base : Nat} {t : TypeId} {cs : Array Value} {ts : List TypeId} (hts : Try.prog.cellTypes Try.prog.depth t = some ts) (h : Row.okWide Try.prog w r base t cs) {i : Nat} (hi : i < ts.length) {v : Value} (hv : cs[i]? = some v) {u : TypeId} (hu : ts[i]? = some u) :
    Cell.okWide Try.prog w r base u v := by
  obtain ⟨ts', h1, _, h3⟩ := h
  rw [hts] at h1
  obtain rfl := Option.some.inj h1
  obtain ⟨u', hu', hc⟩ := h3 i v hv
  rw [Nat.mod_eq_of_lt hi] at hu'
  rw [hu] at hu'
  obtain rfl := Option.some.inj hu'
  exact hc
theorem val_int {w : World} {r : Reach} {base : Nat} {u : TypeId} {v : Value} (hu : Try.prog.underlying u = some (.int .i64)) (h : Value.okWide Try.prog w r base u v) : ∃ n, v = .int .i64 n ∧ I64 n := by
  simp only [Value.okWide, hu] at h
  exact cell_int hu h
theorem val_string {w : World} {r : Reach} {base : Nat} {u : TypeId} {v : Value} (hu : Try.prog.underlying u = some .string) (h : Value.okWide Try.prog w r base u v) : ∃ s, v = .string s ∧ s.size ≤ maxLen := by
  simp only [Value.okWide, hu] at h
  exact cell_string hu h
theorem cellTypesIp : Try.prog.cellTypes Try.prog.depth 37 = some [3, 3, 3, 3, 3, 3, 9] := by kernel_rfl
theorem cellsIp : Try.prog.cellsOf 37 = 7 := by kernel_rfl
theorem val_Ip {w : World} {r : Reach} {base : Nat} {v : Value} (h : Value.okWide Try.prog w r base 37 v) :
    ∃ (x0 : Int) (x1 : Int) (x2 : Int) (x3 : Int) (x4 : Int) (x5 : Int) (x6 : ByteArray), v = .agg #[.int .i64 x0, .int .i64 x1, .int .i64 x2, .int .i64 x3, .int .i64 x4, .int .i64 x5, .string x6] ∧ I64 x0 ∧ I64 x1 ∧ I64 x2 ∧ I64 x3 ∧ I64 x4 ∧ I64 x5 ∧ x6.size ≤ maxLen := by
  simp only [Value.okWide, Try.underlying37] at h
  obtain ⟨cs, rfl, hsz, hr⟩ := h
  rw [cellsIp] at hsz
  obtain ⟨c0, c1, c2, c3, c4, c5, c6, rfl⟩ := arr7 hsz
  obtain ⟨x0, rfl, h0⟩ := cell_int Try.underlying3 (row_cell cellTypesIp hr (i := 0) (by decide) rfl rfl)
  obtain ⟨x1, rfl, h1⟩ := cell_int Try.underlying3 (row_cell cellTypesIp hr (i := 1) (by decide) rfl rfl)
  obtain ⟨x2, rfl, h2⟩ := cell_int Try.underlying3 (row_cell cellTypesIp hr (i := 2) (by decide) rfl rfl)
  obtain ⟨x3, rfl, h3⟩ := cell_int Try.underlying3 (row_cell cellTypesIp hr (i := 3) (by decide) rfl rfl)
  obtain ⟨x4, rfl, h4⟩ := cell_int Try.underlying3 (row_cell cellTypesIp hr (i := 4) (by decide) rfl rfl)
  obtain ⟨x5, rfl, h5⟩ := cell_int Try.underlying3 (row_cell cellTypesIp hr (i := 5) (by decide) rfl rfl)
  obtain ⟨x6, rfl, h6⟩ := cell_string Try.underlying9 (row_cell cellTypesIp hr (i := 6) (by decide) rfl rfl)
  exact ⟨x0, x1, x2, x3, x4, x5, x6, rfl, h0, h1, h2, h3, h4, h5, h6⟩
theorem cellTypesSegment : Try.prog.cellTypes Try.prog.depth 44 = some [3, 3, 3, 3, 3, 3, 3, 9] := by kernel_rfl
theorem cellsSegment : Try.prog.cellsOf 44 = 8 := by kernel_rfl
theorem val_Segment {w : World} {r : Reach} {base : Nat} {v : Value} (h : Value.okWide Try.prog w r base 44 v) :
    ∃ (x0 : Int) (x1 : Int) (x2 : Int) (x3 : Int) (x4 : Int) (x5 : Int) (x6 : Int) (x7 : ByteArray), v = .agg #[.int .i64 x0, .int .i64 x1, .int .i64 x2, .int .i64 x3, .int .i64 x4, .int .i64 x5, .int .i64 x6, .string x7] ∧ I64 x0 ∧ I64 x1 ∧ I64 x2 ∧ I64 x3 ∧ I64 x4 ∧ I64 x5 ∧ I64 x6 ∧ x7.size ≤ maxLen := by
  simp only [Value.okWide, Try.underlying44] at h
  obtain ⟨cs, rfl, hsz, hr⟩ := h
  rw [cellsSegment] at hsz
  obtain ⟨c0, c1, c2, c3, c4, c5, c6, c7, rfl⟩ := arr8 hsz
  obtain ⟨x0, rfl, h0⟩ := cell_int Try.underlying3 (row_cell cellTypesSegment hr (i := 0) (by decide) rfl rfl)
  obtain ⟨x1, rfl, h1⟩ := cell_int Try.underlying3 (row_cell cellTypesSegment hr (i := 1) (by decide) rfl rfl)
  obtain ⟨x2, rfl, h2⟩ := cell_int Try.underlying3 (row_cell cellTypesSegment hr (i := 2) (by decide) rfl rfl)
  obtain ⟨x3, rfl, h3⟩ := cell_int Try.underlying3 (row_cell cellTypesSegment hr (i := 3) (by decide) rfl rfl)
  obtain ⟨x4, rfl, h4⟩ := cell_int Try.underlying3 (row_cell cellTypesSegment hr (i := 4) (by decide) rfl rfl)
  obtain ⟨x5, rfl, h5⟩ := cell_int Try.underlying3 (row_cell cellTypesSegment hr (i := 5) (by decide) rfl rfl)
  obtain ⟨x6, rfl, h6⟩ := cell_int Try.underlying3 (row_cell cellTypesSegment hr (i := 6) (by decide) rfl rfl)
  obtain ⟨x7, rfl, h7⟩ := cell_string Try.underlying9 (row_cell cellTypesSegment hr (i := 7) (by decide) rfl rfl)
  exact ⟨x0, x1, x2, x3, x4, x5, x6, x7, rfl, h0, h1, h2, h3, h4, h5, h6, h7⟩
theorem cellTypesPacket : Try.prog.cellTypes Try.prog.depth 53 = some [3, 3, 3, 3, 3, 3, 3, 3, 3, 3, 3, 3, 3, 3, 3, 9] := by kernel_rfl
theorem cellsPacket : Try.prog.cellsOf 53 = 16 := by kernel_rfl
theorem val_Packet {w : World} {r : Reach} {base : Nat} {v : Value} (h : Value.okWide Try.prog w r base 53 v) :
    ∃ (x0 : Int) (x1 : Int) (x2 : Int) (x3 : Int) (x4 : Int) (x5 : Int) (x6 : Int) (x7 : Int) (x8 : Int) (x9 : Int) (x10 : Int) (x11 : Int) (x12 : Int) (x13 : Int) (x14 : Int) (x15 : ByteArray), v = .agg #[.int .i64 x0, .int .i64 x1, .int .i64 x2, .int .i64 x3, .int .i64 x4, .int .i64 x5, .int .i64 x6, .int .i64 x7, .int .i64 x8, .int .i64 x9, .int .i64 x10, .int .i64 x11, .int .i64 x12, .int .i64 x13, .int .i64 x14, .string x15] ∧ I64 x0 ∧ I64 x1 ∧ I64 x2 ∧ I64 x3 ∧ I64 x4 ∧ I64 x5 ∧ I64 x6 ∧ I64 x7 ∧ I64 x8 ∧ I64 x9 ∧ I64 x10 ∧ I64 x11 ∧ I64 x12 ∧ I64 x13 ∧ I64 x14 ∧ x15.size ≤ maxLen := by
  simp only [Value.okWide, Try.underlying53] at h
  obtain ⟨cs, rfl, hsz, hr⟩ := h
  rw [cellsPacket] at hsz
  obtain ⟨c0, c1, c2, c3, c4, c5, c6, c7, c8, c9, c10, c11, c12, c13, c14, c15, rfl⟩ := arr16 hsz
  obtain ⟨x0, rfl, h0⟩ := cell_int Try.underlying3 (row_cell cellTypesPacket hr (i := 0) (by decide) rfl rfl)
  obtain ⟨x1, rfl, h1⟩ := cell_int Try.underlying3 (row_cell cellTypesPacket hr (i := 1) (by decide) rfl rfl)
  obtain ⟨x2, rfl, h2⟩ := cell_int Try.underlying3 (row_cell cellTypesPacket hr (i := 2) (by decide) rfl rfl)
  obtain ⟨x3, rfl, h3⟩ := cell_int Try.underlying3 (row_cell cellTypesPacket hr (i := 3) (by decide) rfl rfl)
  obtain ⟨x4, rfl, h4⟩ := cell_int Try.underlying3 (row_cell cellTypesPacket hr (i := 4) (by decide) rfl rfl)
  obtain ⟨x5, rfl, h5⟩ := cell_int Try.underlying3 (row_cell cellTypesPacket hr (i := 5) (by decide) rfl rfl)
  obtain ⟨x6, rfl, h6⟩ := cell_int Try.underlying3 (row_cell cellTypesPacket hr (i := 6) (by decide) rfl rfl)
  obtain ⟨x7, rfl, h7⟩ := cell_int Try.underlying3 (row_cell cellTypesPacket hr (i := 7) (by decide) rfl rfl)
  obtain ⟨x8, rfl, h8⟩ := cell_int Try.underlying3 (row_cell cellTypesPacket hr (i := 8) (by decide) rfl rfl)
  obtain ⟨x9, rfl, h9⟩ := cell_int Try.underlying3 (row_cell cellTypesPacket hr (i := 9) (by decide) rfl rfl)
  obtain ⟨x10, rfl, h10⟩ := cell_int Try.underlying3 (row_cell cellTypesPacket hr (i := 10) (by decide) rfl rfl)
  obtain ⟨x11, rfl, h11⟩ := cell_int Try.underlying3 (row_cell cellTypesPacket hr (i := 11) (by decide) rfl rfl)
  obtain ⟨x12, rfl, h12⟩ := cell_int Try.underlying3 (row_cell cellTypesPacket hr (i := 12) (by decide) rfl rfl)
  obtain ⟨x13, rfl, h13⟩ := cell_int Try.underlying3 (row_cell cellTypesPacket hr (i := 13) (by decide) rfl rfl)
  obtain ⟨x14, rfl, h14⟩ := cell_int Try.underlying3 (row_cell cellTypesPacket hr (i := 14) (by decide) rfl rfl)
  obtain ⟨x15, rfl, h15⟩ := cell_string Try.underlying9 (row_cell cellTypesPacket hr (i := 15) (by decide) rfl rfl)
  exact ⟨x0, x1, x2, x3, x4, x5, x6, x7, x8, x9, x10, x11, x12, x13, x14, x15, rfl, h0, h1, h2, h3, h4, h5, h6, h7, h8, h9, h10, h11, h12, h13, h14, h15⟩
end Go.Proofs.Ytkonedmmihlblaa
