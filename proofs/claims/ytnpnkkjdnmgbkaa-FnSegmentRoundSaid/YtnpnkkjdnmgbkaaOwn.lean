/-
  What may turn in a region that stores into a box of its own: nothing below block n; a row that was there is a row of as many cells still.
-/
import Derived.Test.YtnpnkkjdnmgbkaaDrawN
import Derived.Test.YtnpnkkjdnmgbkaaBox
import Derived.Laws.Tables
namespace Go.Proofs.Ytnpnkkjdnmgbkaa
open Go.RowKit
set_option linter.unusedVariables false

structure Own (n : Nat) (w w' : World) : Prop where
  os : w'.os = w.os
  tape : w'.tape = w.tape
  output : w'.output = w.output
  size : w.heap.size ≤ w'.heap.size
  block : ∀ k, k < n → k < w.heap.size → w'.heap[k]? = w.heap[k]?
  row : ∀ (k : Nat) (c : Array Value) (t : TypeId), w.heap[k]? = some (.cells c t (0, 0)) → ∃ c' : Array Value, w'.heap[k]? = some (.cells c' t (0, 0)) ∧ c'.size = c.size
theorem Own.refl (n : Nat) (w : World) : Own n w w := ⟨rfl, rfl, rfl, Nat.le_refl _, fun _ _ _ => rfl, fun _ c _ h => ⟨c, h, rfl⟩⟩
theorem Own.trans {n : Nat} {x y z : World} (h : Own n x y) (k : Own n y z) : Own n x z :=
  ⟨k.os.trans h.os, k.tape.trans h.tape, k.output.trans h.output, Nat.le_trans h.size k.size, fun i hi hs => (k.block i hi (Nat.lt_of_lt_of_le hs h.size)).trans (h.block i hi hs), fun i c t hc => by
    obtain ⟨c1, h1, s1⟩ := h.row i c t hc
    obtain ⟨c2, h2, s2⟩ := k.row i c1 t h1
    exact ⟨c2, h2, s2.trans s1⟩⟩
theorem Own.of {n : Nat} {w w' : World} (h : Bel w w') : Own n w w' :=
  ⟨h.os, h.tape, h.output, Bel.size h, fun k _ hs => h.block k hs, fun k c t hc => ⟨c, by rw [h.block k (Array.getElem?_eq_some_iff.1 hc).1]; exact hc, rfl⟩⟩
theorem Own.bel {w w' : World} (h : Own w.heap.size w w') : Bel w w' := ⟨h.os, h.tape, h.output, h.size, fun k hk => h.block k hk hk⟩
theorem Own.setRow {n g : Nat} {w : World} (hg : n ≤ g) {c : Array Value} {t : TypeId} (hc : w.heap[g]? = some (.cells c t (0, 0))) {cells : Array Value} (hs : c.size = cells.size) : Own n w (w.setRow g cells) := by
  have ho : ∀ k, k ≠ g → (w.setRow g cells).heap[k]? = w.heap[k]? := fun k hk => by
    unfold World.setRow
    simp [Array.getElem?_modify, Ne.symm hk]
  refine ⟨rfl, rfl, rfl, by unfold World.setRow; simp, fun k hk _ => ho k (by omega), fun k c' t' hk => ?_⟩
  by_cases e : k = g
  · subst e
    rw [hc] at hk
    simp only [Option.some.injEq, Obj.cells.injEq] at hk
    obtain ⟨rfl, rfl, _⟩ := hk
    exact ⟨cells, setRow_heap w k _ _ _ _ hc, hs.symm⟩
  · exact ⟨c', by rw [ho k e]; exact hk, rfl⟩
/-- a fixed value -/
def askV (n : Nat) (v : Value) : Ask (Own n) := ⟨fun u _ => u = v, fun h _ => h⟩
/-- a new row of m cells of type t -/
def askBox (n : Nat) (t : TypeId) (m : Nat) : Ask (Own n) :=
  ⟨fun u w => ∃ (b : Nat) (c : Array Value), u = .pointer (some ⟨b, 0, none⟩) ∧ n ≤ b ∧ w.heap[b]? = some (.cells c t (0, 0)) ∧ c.size = m, fun {v w w'} ⟨b, c, hv, hb, hc, hs⟩ k => by
    obtain ⟨c', h1, h2⟩ := k.row b c t hc
    exact ⟨b, c', hv, hb, h1, h2.trans hs⟩⟩
/-- nothing is asked -/
def askNo (n : Nat) : Ask (Own n) := ⟨fun _ _ => True, fun _ _ => trivial⟩
theorem askV_holds (n : Nat) (v u : Value) (w : World) : (askV n v).holds u w = (u = v) := rfl
theorem askBox_holds (n : Nat) (t : TypeId) (m : Nat) (u : Value) (w : World) : (askBox n t m).holds u w = ∃ (b : Nat) (c : Array Value), u = .pointer (some ⟨b, 0, none⟩) ∧ n ≤ b ∧ w.heap[b]? = some (.cells c t (0, 0)) ∧ c.size = m := rfl
theorem askNo_holds (n : Nat) (u : Value) (w : World) : (askNo n).holds u w = True := rfl

/-- a store into a row of its own, as an operation of such a region -/
theorem QN.store {R : World → World → Prop} {P : Program} {o : Oper} {ρ : Operand → Value} {w : World} {V : Value → World → Prop} (ty : TypeId) (x y : Operand) (ho : o.op = .store ty x y) (g : Nat) (cells : Array Value) (hx : ρ x = .pointer (some ⟨g, 0, none⟩)) (hy : ρ y = .agg cells)
    (t : TypeId) (old : Array Value) (hg : w.heap[g]? = some (.cells old t (0, 0))) (hi : (P.info? ty).map (·.size) = some cells.size) (hold : old.size = cells.size) (h1 : cells.all (·.oneCell') = true)
    (hR : R w (w.setRow g cells)) (hV : V undef (w.setRow g cells)) : QN R P o ρ w V := by
  unfold QN execOp
  simp only [ho, hx, hy, Instr.storeAt, Instr.sureAddr, Sem.run_bind, Sem.run_pure, Result.andThen_ok, run_storeVar_row w g t ty old cells hg hi hold h1]
  exact ⟨hR, hV⟩
end Go.Proofs.Ytnpnkkjdnmgbkaa
