/-
  The contract of the program's decimal text, where the library's table of powers reads as its initialiser lays it.
-/
import Derived.Test.YtoikpdijkdmimaaDoorShelf
import Derived.Test.YtoikpdijkdmimaaDoorRows
import Derived.Test.YtoikpdijkdmimaaDoorBase
import Derived.Lib.LaidTab
import Derived.Stop.LaidErr
import Derived.MakeChecks
namespace Go.Proofs.YtoikpdijkdmimaaDoor
open Go.RowKit Go.Shelf
set_option linter.unusedVariables false

/-- the library's table of powers of ten: its name stands first among the named variables -/
def powName : String := Rows.fnExactFormatIntRow.named.getD 0 ""
def Tab (w : World) : Prop := Lib.TabIs Tryd.prog w powName .u64 Lib.pow10Tab
theorem pow_global : Tryd.prog.globalNamed powName = some 0 := by kernel_rfl
theorem Tab.bel {w w' : World} (h : Tab w) (hb : Bel w w') : Tab w' := by
  have h0 : w.var? Tryd.prog powName = some (Lib.pow10Tab.map fun z => Value.int .u64 z).toArray := h
  show w'.var? Tryd.prog powName = _
  unfold World.var? at h0 ⊢
  rw [pow_global] at h0 ⊢
  simp only [Option.bind_some] at h0 ⊢
  have hlt : 0 < w.heap.size := by
    apply Classical.byContradiction
    intro hno
    rw [Array.getElem?_eq_none (by omega)] at h0
    cases h0
  rw [hb.block 0 hlt]
  exact h0
theorem bel_grow (w : World) (k : Nat) (os : Array Obj) : Bel w (Go.Sort.grow (w.drewN k) os) :=
  ⟨rfl, rfl, rfl, by simp [Go.Sort.grow], fun i hi => by
    show (w.heap ++ os)[i]? = _
    rw [Array.getElem?_append_left hi]⟩
theorem c_impl_FormatInt (n : Int) (h : -9223372036854775808 ≤ n ∧ n ≤ 9223372036854775807) (w : World) (hT : Tab w) :
    Calls Tryd.prog 8 #[.int .i64 n] w fun e w' => e = .returned (.string (P.bs (Lib.itoa n))) ∧ Bel w w' := by
  go_enter Tryd.func8, Tryd.ntmps8
  go_wp2_with (go_at_call 20; refine (Any.strconv_Itoa laysM171 n h.1 h.2 _ hT).mono ?_; rintro e w' ⟨rfl, k, os, rfl⟩)
  go_ret
  exact ⟨rfl, bel_grow w k os⟩
theorem tab_of_laid {W : World} (h : laidMetH Tryd.prog Rows.fnExactFormatIntRow.laid W) : Tab W := by
  rw [MakeChecks.laidMetH_plain _ _ _ (by kernel_rfl)] at h
  have h2 := laidMet.tail (laidMet.tail h)
  exact Lib.tabIs_of_head (name := powName) (k := .u64) (zs := Lib.pow10Tab) (rest := []) pow_global (by kernel_rfl) Tryd.underlying60 Tryd.underlying53 (by kernel_rfl) (by kernel_rfl) h2
end Go.Proofs.YtoikpdijkdmimaaDoor
