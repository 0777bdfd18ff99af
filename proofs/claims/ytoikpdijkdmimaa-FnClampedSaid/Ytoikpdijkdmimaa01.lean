/-
  The contracts of chapter 1: numbers and texts.
-/
import Derived.Test.YtoikpdijkdmimaaBase
namespace Go.Proofs.Ytoikpdijkdmimaa
open Go.RowKit
set_option linter.unusedVariables false

theorem replicate_set {α : Type} (x y : α) (k n : Nat) (h : k < n) : (List.replicate k x ++ List.replicate (n - k) y).set k x = List.replicate (k + 1) x ++ List.replicate (n - (k + 1)) y := by
  have e : n - k = (n - (k + 1)) + 1 := by omega
  rw [e, List.replicate_succ, List.set_append_right _ _ (by simp), List.replicate_succ']
  simp

theorem digit_at (w : World) (d : Nat) (h : d < 16) : (Instr.index 9 (.string ⟨#[48, 49, 50, 51, 52, 53, 54, 55, 56, 57, 97, 98, 99, 100, 101, 102]⟩) (.int .u8 (d : Int))).run Try.prog w = .ok (.int .u8 (P.fig (d : Int))) w := by
  rw [run_index_string w _ _ _ _ Try.underlying9, dif_pos ⟨by omega, by show (d : Int) < 16; omega⟩, ← P.fig_digits d h]
  rfl
theorem c_impl_Clamp (n lo hi : Int) (w : World) :
    Calls Try.prog 25 #[.int .i64 n, .int .i64 lo, .int .i64 hi] w fun e w' => e = .returned (.int .i64 (P.clamp n lo hi)) ∧ w = w' := by
  by_cases h1 : n < lo
  · go_enter Try.func25, Try.ntmps25
    go_wp2
    all_goals go_ret
    all_goals exact ⟨ret_int (by unfold P.clamp; rw [if_pos (by omega)]), rfl⟩
  · by_cases h2 : hi < lo
    · go_enter Try.func25, Try.ntmps25
      go_wp2
      all_goals go_ret
      all_goals exact ⟨ret_int (by unfold P.clamp; rw [if_pos (by omega)]), rfl⟩
    · by_cases h3 : n > hi
      · go_enter Try.func25, Try.ntmps25
        go_wp2
        go_ret
        exact ⟨ret_int (by unfold P.clamp; rw [if_neg (by omega), if_pos (by omega)]), rfl⟩
      · go_enter Try.func25, Try.ntmps25
        go_wp2
        go_ret
        exact ⟨ret_int (by unfold P.clamp; rw [if_neg (by omega), if_neg (by omega)]), rfl⟩
end Go.Proofs.Ytoikpdijkdmimaa
