/-
  Boxes that the call itself made: what stands in them behind stores, new blocks and calls.
-/
import Derived.Test.YtnpeijkgmgnepaaSpot
namespace Go.Proofs.Ytnpeijkgmgnepaa
open Go.RowKit
set_option linter.unusedVariables false

theorem BoxAt.has {n : Nat} {cs : List Value} {b : Nat} {w : World} (h : BoxAt n cs b w) {i : Nat} (hi : i < cs.length) : w.cell? ⟨b, i, none⟩ = some cs[i] := by
  rw [h.cell i, List.getElem?_eq_getElem hi]
/-- a store into the box -/
theorem BoxAt.set {n : Nat} {cs : List Value} {b : Nat} {w : World} (h : BoxAt n cs b w) (i : Nat) (hi : i < cs.length) (v : Value) : BoxAt n (cs.set i v) b (w.setCell ⟨b, i, none⟩ v) :=
  ⟨h.new, by rw [World.size_setCell]; exact h.old, fun j => by
    by_cases hj : i = j
    · subst hj
      rw [World.cell?_setCell_same _ _ _ (h.has hi), List.getElem?_set_self hi]
    · rw [World.cell?_setCell_other _ _ _ _ (by intro e; injection e; contradiction), h.cell j, List.getElem?_set_ne hj], fun j => by rw [World.frozen?_setCell]; exact h.frozen j⟩
/-- a store elsewhere -/
theorem BoxAt.other {n : Nat} {cs : List Value} {b : Nat} {w : World} (h : BoxAt n cs b w) {c i : Nat} (hc : ¬ c = b) (v : Value) : BoxAt n cs b (w.setCell ⟨c, i, none⟩ v) :=
  ⟨h.new, by rw [World.size_setCell]; exact h.old, fun j => by rw [World.cell?_setCell_other _ _ _ _ (by intro e; injection e; contradiction), h.cell j], fun j => by rw [World.frozen?_setCell]; exact h.frozen j⟩
theorem BoxAt.alloc {n : Nat} {cs : List Value} {b : Nat} {w : World} (h : BoxAt n cs b w) (o : Obj) : BoxAt n cs b (w.alloc o) := h.bel ((Bel.refl w).alloc o)
theorem BoxAt.drew {n : Nat} {cs : List Value} {b : Nat} {w : World} (h : BoxAt n cs b w) : BoxAt n cs b w.drew := h.bel ((Bel.refl w).drew)
/-- a call's end whose result lies in a box: the world by one name -/
theorem post_box {w W : World} {P : Program} {f : Func} {post : Ending → World → Prop} {x : Exit} {a : Act} {n : Nat} {cs : List Value} {b : Nat} (hB : Bel w W) (RF : BoxAt n cs b W)
    (h : ∀ W', Bel w W' → BoxAt n cs b W' → bodyPost P f post x a W') : bodyPost P f post x a W := h W hB RF
end Go.Proofs.Ytnpeijkgmgnepaa
