/-
  The contracts of chapter 3, second part: the check sequence taken off (the program's).
-/
import Derived.Test.Ytnpnkkjdnmgbkaa03
import Derived.Test.YtnpnkkjdnmgbkaaPure3
namespace Go.Proofs.Ytnpnkkjdnmgbkaa
open Go.RowKit
set_option linter.unusedVariables false

theorem c_impl_CheckFcs (s : ByteArray) (hs : s.size ≤ 1073741824) (w : World) :
    Calls Try.prog 16 #[.string s] w fun e w' => e = .returned (.tuple #[.string (P.fcsBody s), .bool (P.fcsOk s)]) ∧ Bel w w' := by
  by_cases h4 : s.size < 4
  · have HF := Lib.hid (P.fcs_short s h4)
    go_enter Try.func16, Try.ntmps16
    go_wp2
    go_ret2
    exact ⟨ret_sb HF.out.1.symm HF.out.2.symm, Bel.refl _⟩
  · have e1 : ((s.size : Int) - 4).toNat = s.size - 4 := by omega
    have e2 : 4 ≤ s.size := by omega
    by_cases heq : P.withFcs (s.extract 0 (s.size - 4)) = s
    · have HF := Lib.hid (P.fcs_yes s e2 heq)
      go_enter Try.func16, Try.ntmps16
      go_wp2_with (go_at_call 15; refine (c_impl_WithFcs _ (by simp [ByteArray.size_extract]; omega) _).mono ?_; rintro e w1 ⟨rfl, h1⟩)
      go_ret2
      exact ⟨ret_sb HF.out.1.symm HF.out.2.symm, (by repeat (first | with_reducible assumption | with_reducible exact Bel.refl _ | with_reducible refine Bel.alloc ?_ _ | with_reducible refine Bel.drew ?_ | with_reducible refine Bel.drewN ?_ _ | with_reducible refine Bel.setCell ?_ ?_ _ | with_reducible exact Nat.le_refl _ | (dsimp only; omega) | (refine Bel.trans ?_ (by with_reducible assumption))))⟩
    · have HF := Lib.hid (P.fcs_no s heq)
      go_enter Try.func16, Try.ntmps16
      go_wp2_with (go_at_call 15; refine (c_impl_WithFcs _ (by simp [ByteArray.size_extract]; omega) _).mono ?_; rintro e w1 ⟨rfl, h1⟩)
      go_ret2
      exact ⟨ret_sb HF.out.1.symm HF.out.2.symm, (by repeat (first | with_reducible assumption | with_reducible exact Bel.refl _ | with_reducible refine Bel.alloc ?_ _ | with_reducible refine Bel.drew ?_ | with_reducible refine Bel.drewN ?_ _ | with_reducible refine Bel.setCell ?_ ?_ _ | with_reducible exact Nat.le_refl _ | (dsimp only; omega) | (refine Bel.trans ?_ (by with_reducible assumption))))⟩
end Go.Proofs.Ytnpnkkjdnmgbkaa
