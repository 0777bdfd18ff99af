/-
  Boxes that the call itself made: what stands in them behind stores, new blocks and calls.
-/
import Derived.Test.YtoikpdijkdmimaaDoorSpot
namespace Go.Proofs.YtoikpdijkdmimaaDoor
open Go.RowKit
set_option linter.unusedVariables false

theorem BoxAt.has {n : Nat} {cs : List Value} {b : Nat} {w : World} (h : BoxAt n cs b w) {i : Nat} (hi : i < cs.length) : w.cell? ⟨b, i, none⟩ = some cs[i] := by
  rw [h.cell i, List.getElem?_eq_getElem hi]
/-- a store into the box -/
theorem BoxAt.set {n : Nat} {cs : List Value} {b : Nat} {w : World} (h : BoxAt n cs b w) (i : Nat) (hi : i < cs.length) (v : Value) : BoxAt n (cs.set i v) b (w.setCell ⟨b, i, none⟩ v) :=
  ⟨h.new, by rw [World.size_setCell]; exact h.old, fun j => by
    by_cases hj : i = j
    · subst hj
      rw [World.cell?_setCell_same _ _ _ (h.has hi), List.getElem?_set_self hi]
    · rw [World.cell?_setCell_other _ _ _ _ (by intro e; injection e; contradiction), h.cell j, List.getElem?_set_ne hj], fun j => by rw [World.frozen?_setCell]; exact h.frozen j⟩
/-- a store elsewhere -/
theorem BoxAt.other {n : Nat} {cs : List Value} {b : Nat} {w : World} (h : BoxAt n cs b w) {c i : Nat} (hc : ¬ c = b) (v : Value) : BoxAt n cs b (w.setCell ⟨c, i, none⟩ v) :=
  ⟨h.new, by rw [World.size_setCell]; exact h.old, fun j => by rw [World.cell?_setCell_other _ _ _ _ (by intro e; injection e; contradiction), h.cell j], fun j => by rw [World.frozen?_setCell]; exact h.frozen j⟩
theorem BoxAt.alloc {n : Nat} {cs : List Value} {b : Nat} {w : World} (h : BoxAt n cs b w) (o : Obj) : BoxAt n cs b (w.alloc o) := h.bel ((Bel.refl w).alloc o)
theorem BoxAt.drew {n : Nat} {cs : List Value} {b : Nat} {w : World} (h : BoxAt n cs b w) : BoxAt n cs b w.drew := h.bel ((Bel.refl w).drew)
/-- a call's end whose result lies in a box: the world by one name -/
theorem post_box {w W : World} {P : Program} {f : Func} {post : Ending → World → Prop} {x : Exit} {a : Act} {n : Nat} {cs : List Value} {b : Nat} (hB : Bel w W) (RF : BoxAt n cs b W)
    (h : ∀ W', Bel w W' → BoxAt n cs b W' → bodyPost P f post x a W') : bodyPost P f post x a W := h W hB RF
theorem set16_list (cs : List Value) (hl : cs.length = 16) (v0 v1 v2 v3 v4 v5 v6 v7 v8 v9 v10 v11 v12 v13 v14 v15 : Value) : ((((((((((((((((cs.set 0 v0).set 1 v1).set 2 v2).set 3 v3).set 4 v4).set 5 v5).set 6 v6).set 7 v7).set 8 v8).set 9 v9).set 10 v10).set 11 v11).set 12 v12).set 13 v13).set 14 v14).set 15 v15) = [v0, v1, v2, v3, v4, v5, v6, v7, v8, v9, v10, v11, v12, v13, v14, v15] := by
  match cs, hl with
  | [x0, x1, x2, x3, x4, x5, x6, x7, x8, x9, x10, x11, x12, x13, x14, x15], _ => rfl
/-- all sixteen cells of a box written, one by one -/
theorem BoxAt.set16 {n : Nat} {cs : List Value} {b : Nat} {w : World} (h : BoxAt n cs b w) (hl : cs.length = 16) (v0 v1 v2 v3 v4 v5 v6 v7 v8 v9 v10 v11 v12 v13 v14 v15 : Value) : BoxAt n [v0, v1, v2, v3, v4, v5, v6, v7, v8, v9, v10, v11, v12, v13, v14, v15] b ((((((((((((((((w.setCell ⟨b, 0, none⟩ v0).setCell ⟨b, 1, none⟩ v1).setCell ⟨b, 2, none⟩ v2).setCell ⟨b, 3, none⟩ v3).setCell ⟨b, 4, none⟩ v4).setCell ⟨b, 5, none⟩ v5).setCell ⟨b, 6, none⟩ v6).setCell ⟨b, 7, none⟩ v7).setCell ⟨b, 8, none⟩ v8).setCell ⟨b, 9, none⟩ v9).setCell ⟨b, 10, none⟩ v10).setCell ⟨b, 11, none⟩ v11).setCell ⟨b, 12, none⟩ v12).setCell ⟨b, 13, none⟩ v13).setCell ⟨b, 14, none⟩ v14).setCell ⟨b, 15, none⟩ v15) := by
  have := (BoxAt.set (BoxAt.set (BoxAt.set (BoxAt.set (BoxAt.set (BoxAt.set (BoxAt.set (BoxAt.set (BoxAt.set (BoxAt.set (BoxAt.set (BoxAt.set (BoxAt.set (BoxAt.set (BoxAt.set (BoxAt.set h 0 (by simp [hl]) v0) 1 (by simp [hl]) v1) 2 (by simp [hl]) v2) 3 (by simp [hl]) v3) 4 (by simp [hl]) v4) 5 (by simp [hl]) v5) 6 (by simp [hl]) v6) 7 (by simp [hl]) v7) 8 (by simp [hl]) v8) 9 (by simp [hl]) v9) 10 (by simp [hl]) v10) 11 (by simp [hl]) v11) 12 (by simp [hl]) v12) 13 (by simp [hl]) v13) 14 (by simp [hl]) v14) 15 (by simp [hl]) v15)
  rw [set16_list cs hl] at this
  exact this
theorem Bel.set16 {a w : World} {b : Nat} (h : Bel a w) (hb : a.heap.size ≤ b) (v0 v1 v2 v3 v4 v5 v6 v7 v8 v9 v10 v11 v12 v13 v14 v15 : Value) : Bel a ((((((((((((((((w.setCell ⟨b, 0, none⟩ v0).setCell ⟨b, 1, none⟩ v1).setCell ⟨b, 2, none⟩ v2).setCell ⟨b, 3, none⟩ v3).setCell ⟨b, 4, none⟩ v4).setCell ⟨b, 5, none⟩ v5).setCell ⟨b, 6, none⟩ v6).setCell ⟨b, 7, none⟩ v7).setCell ⟨b, 8, none⟩ v8).setCell ⟨b, 9, none⟩ v9).setCell ⟨b, 10, none⟩ v10).setCell ⟨b, 11, none⟩ v11).setCell ⟨b, 12, none⟩ v12).setCell ⟨b, 13, none⟩ v13).setCell ⟨b, 14, none⟩ v14).setCell ⟨b, 15, none⟩ v15) :=
  (Bel.setCell (p := ⟨b, 15, none⟩) (Bel.setCell (p := ⟨b, 14, none⟩) (Bel.setCell (p := ⟨b, 13, none⟩) (Bel.setCell (p := ⟨b, 12, none⟩) (Bel.setCell (p := ⟨b, 11, none⟩) (Bel.setCell (p := ⟨b, 10, none⟩) (Bel.setCell (p := ⟨b, 9, none⟩) (Bel.setCell (p := ⟨b, 8, none⟩) (Bel.setCell (p := ⟨b, 7, none⟩) (Bel.setCell (p := ⟨b, 6, none⟩) (Bel.setCell (p := ⟨b, 5, none⟩) (Bel.setCell (p := ⟨b, 4, none⟩) (Bel.setCell (p := ⟨b, 3, none⟩) (Bel.setCell (p := ⟨b, 2, none⟩) (Bel.setCell (p := ⟨b, 1, none⟩) (Bel.setCell (p := ⟨b, 0, none⟩) h hb v0) hb v1) hb v2) hb v3) hb v4) hb v5) hb v6) hb v7) hb v8) hb v9) hb v10) hb v11) hb v12) hb v13) hb v14) hb v15)
end Go.Proofs.YtoikpdijkdmimaaDoor
