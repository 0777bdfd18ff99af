/-
  The contract of the draw of a number to be formatted. It says a range alone.
-/
import Derived.Test.YtoikpdijkdmimaaDoor20
namespace Go.Proofs.YtoikpdijkdmimaaDoor
open Go.RowKit
set_option linter.unusedVariables false

set_option maxHeartbeats 1000000 in
theorem c_DrawFormatInt (W : World) (a : Option Addr) (len cap : Nat) (z : List Int) (w : World) (hrow : IsRow W a len cap z) (hsmall : len ≤ 1048576) (hW : Bel W w) :
    Calls Tryd.prog 10 #[.slice a len cap] w fun e w' => ∃ n : Int, e = .returned (.int .i64 n) ∧ (-9223372036854775808 ≤ n ∧ n ≤ 9223372036854775807) ∧ Bel w w' := by
  go_enter Tryd.func10, Tryd.ntmps10
  go_wp2_with fail
  refine (c_l01New W a len cap z w hrow hsmall hW).mono ?_
  rintro e w0 ⟨b, rfl, hb0, hnb, hc0⟩
  go_wp2_with fail
  refine (c_l01Once _ b 3 _ hc0 (by omega)).mono ?_
  rintro e w1 ⟨v, ⟨x, rfl⟩, rfl, hb1, hc1⟩
  cases x with
  | true =>
    go_wp2_with fail
    refine (c_l01Below _ b 1000000 _ hc1 (by omega)).mono ?_
    rintro e w2 ⟨v, ⟨y, rfl, hy0, hy1⟩, rfl, hb2, hc2⟩
    rw [if_neg (by omega)] at hy1
    go_wp2_with fail
    refine (c_l01Below _ b 2000000 _ hc2 (by omega)).mono ?_
    rintro e w3 ⟨v, ⟨t, rfl, ht0, ht1⟩, rfl, hb3, hc3⟩
    rw [if_neg (by omega)] at ht1
    have hm : -1000000000000 ≤ y * (t - 1000000) ∧ y * (t - 1000000) ≤ 1000000000000 := by
      have h1 : y * (t - 1000000) ≤ y * 1000000 := Int.mul_le_mul_of_nonneg_left (by omega) hy0
      have h2 : y * (-1000000) ≤ y * (t - 1000000) := Int.mul_le_mul_of_nonneg_left (by omega) hy0
      omega
    have e1 : IntKind.i64.wrap (y * (t - 1000000)) = y * (t - 1000000) := IntWalk.i64_in _ (by omega)
    obtain ⟨m, hm2⟩ : ∃ m, y * (t - 1000000) = m := ⟨_, rfl⟩
    rw [hm2] at e1 hm
    go_wp2
    go_ret
    exact ⟨_, rfl, by omega, hb0.bex (w' := w3) (b := b) (by repeat (first | with_reducible assumption | with_reducible exact Bex.refl _ _ | with_reducible refine Bex.alloc ?_ _ | with_reducible refine Bex.drew ?_ | with_reducible refine Bex.drewN ?_ _ | with_reducible refine Bex.set ?_ _ _ | (refine Bex.trans ?_ (by with_reducible assumption)) | (refine Bex.of ?_ (by with_reducible assumption)))) hnb⟩
  | false =>
    go_wp2_with fail
    refine (c_l01Number _ b _ hc1).mono ?_
    rintro e w2 ⟨v, ⟨y, rfl, hy0, hy1⟩, rfl, hb2, hc2⟩
    go_wp2
    go_ret
    exact ⟨_, rfl, ⟨hy0, hy1⟩, hb0.bex (w' := w2) (b := b) (by repeat (first | with_reducible assumption | with_reducible exact Bex.refl _ _ | with_reducible refine Bex.alloc ?_ _ | with_reducible refine Bex.drew ?_ | with_reducible refine Bex.drewN ?_ _ | with_reducible refine Bex.set ?_ _ _ | (refine Bex.trans ?_ (by with_reducible assumption)) | (refine Bex.of ?_ (by with_reducible assumption)))) hnb⟩
end Go.Proofs.YtoikpdijkdmimaaDoor
