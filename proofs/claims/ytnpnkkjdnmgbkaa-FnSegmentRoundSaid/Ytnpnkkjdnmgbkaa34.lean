/-
  Two like segments; a struct read out of the midst of a box.
-/
import Derived.Test.Ytnpnkkjdnmgbkaa30
import Derived.Test.Ytnpnkkjdnmgbkaa32
import Derived.Test.YtnpnkkjdnmgbkaaOwn
namespace Go.Proofs.Ytnpnkkjdnmgbkaa
open Go.RowKit
set_option linter.unusedVariables false

theorem run_load_in {P : Program} {w : World} {n : Nat} {cs : List Value} {b : Nat} (h : BoxAt n cs b w) (o m : Nat) (hm : ((cs.drop o).take m).length = m) {ty : TypeId} {d : TypeDesc} (hu : P.underlying ty = some d) (hd : (match d with | .struct _ | .array _ _ => true | _ => false) = true)
    (hi : (P.info? ty).map (·.size) = some m) : (loadVar ty ⟨b, o, none⟩).run P w = .ok (.agg ((cs.drop o).take m).toArray) w := by
  have hl : (loadCells ⟨b, o, none⟩ ((cs.drop o).take m).length).run P w = .ok ((cs.drop o).take m).toArray w :=
    run_loadCells_list (P := P) w ⟨b, o, none⟩ ((cs.drop o).take m) (fun j v hv => by
      have hadd : (⟨b, o, none⟩ : Addr).add j = ⟨b, o + j, none⟩ := by rw [Go.WideShapes.add_plain]
      rw [hadd, h.cell (o + j)]
      have hj : j < m := by
        have := (List.getElem?_eq_some_iff.1 hv).1
        omega
      rw [List.getElem?_take, if_pos hj, List.getElem?_drop] at hv
      exact hv)
  rw [hm] at hl
  cases hq : P.info? ty with
  | none => simp [hq] at hi
  | some i =>
    have hs : i.size = m := by simpa [hq] using hi
    have hagg : (isAgg ty).run P w = .ok true w := by
      unfold isAgg
      rw [Sem.run_bind, run_underlying hu w]
      cases d <;> simp_all
    simp [loadVar, Sem.run_bind, hagg, sizeOf, typeInfo, hq, hs, hl]
theorem wpList_load_in {P : Program} {ops : Array Oper} {Q : Exit → Act → World → Prop} {rest : List Oper} {o : Oper} {a : Act} {w : World} (hw : Region.wanted o (yielded ops a.tmps) = true) (ty : TypeId) (x : Operand) (ho : o.op = .load ty x)
    {n : Nat} {cs : List Value} {b : Nat} (hB : BoxAt n cs b w) (k m : Nat) (hx : a.eval x = .pointer (some ⟨b, k, none⟩)) (hm : ((cs.drop k).take m).length = m) {d : TypeDesc} (hu : P.underlying ty = some d) (hd : (match d with | .struct _ | .array _ _ => true | _ => false) = true)
    (hi : (P.info? ty).map (·.size) = some m) (h : wpList P ops Q rest (a.put o.dst (.agg ((cs.drop k).take m).toArray)) w) : wpList P ops Q (o :: rest) a w := by
  show (if Region.wanted o (yielded ops a.tmps) then o.wp P a w (wpList P ops Q rest) Q ∨ (o.asks P a w ∧ LetsOut Q) else wpList P ops Q rest (a.put o.dst undef) w)
  rw [if_pos hw]
  left
  unfold Oper.wp execOp
  simp only [ho, hx, Instr.loadAt, Instr.sureAddr, Sem.run_bind, Sem.run_pure, Result.andThen_ok, run_load_in hB k m hm hu hd hi]
  exact h
theorem eq8 (kind sp dp sq ak fl wn : Int) (body : ByteArray) (w : World) : (binOp .eql 53 (.agg #[.int .i64 kind, .int .i64 sp, .int .i64 dp, .int .i64 sq, .int .i64 ak, .int .i64 fl, .int .i64 wn, .string body]) (.agg #[.int .i64 kind, .int .i64 sp, .int .i64 dp, .int .i64 sq, .int .i64 ak, .int .i64 fl, .int .i64 wn, .string body])).run Try.prog w = .ok (.bool true) w := by
  have u1 := Try.underlying3
  have u2 := Try.underlying9
  have u3 := Try.underlying53
  simp [go_sem]
end Go.Proofs.Ytnpnkkjdnmgbkaa
