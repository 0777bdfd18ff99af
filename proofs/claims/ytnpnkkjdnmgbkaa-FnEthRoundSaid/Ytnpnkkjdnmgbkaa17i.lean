/-
  The contracts of chapter 4, third part: tags (the program's).
-/
import Derived.Test.Ytnpnkkjdnmgbkaa08
import Derived.Test.YtnpnkkjdnmgbkaaPure6
namespace Go.Proofs.Ytnpnkkjdnmgbkaa
open Go.RowKit
set_option linter.unusedVariables false

theorem ret_si {k : IntKind} {a b : ByteArray} {x y : Int} (h : a = b) (h2 : x = y) : Ending.returned (.tuple #[.string a, .int k x]) = .returned (.tuple #[.string b, .int k y]) := by rw [h, h2]
set_option maxHeartbeats 1000000 in
theorem c_impl_InsertTag (s : ByteArray) (hs : s.size ≤ 1073741824) (v : Int) (w : World) :
    Calls Try.prog 35 #[.string s, .int .i64 v] w fun e w' => e = .returned (.tuple #[.string (P.insertTag s v), .bool (P.insOk s v)]) ∧ Bel w w' := by
  have zB := P.peB_size_le s
  cases hpe : P.peOk s with
  | false =>
    have HF := Lib.hid (P.ins_pe s v hpe)
    go_enter Try.func35, Try.ntmps35
    go_wp2_with (first | (go_at_call 32; refine (c_impl_ParseEth _ hs _).mono ?_; rintro e w1 ⟨he, h1⟩; rw [hpe] at he; subst he))
    go_ret2
    exact ⟨ret_sb HF.out.1.symm HF.out.2.symm, (by repeat (first | with_reducible assumption | with_reducible exact Bel.refl _ | with_reducible refine Bel.alloc ?_ _ | with_reducible refine Bel.drew ?_ | with_reducible refine Bel.drewN ?_ _ | with_reducible refine Bel.setCell ?_ ?_ _ | with_reducible exact Nat.le_refl _ | (dsimp only; omega) | (refine Bel.trans ?_ (by with_reducible assumption))))⟩
  | true =>
    have hr := P.pe_vlan s hpe
    by_cases hv : P.peV s = -1
    · by_cases h0 : 0 ≤ v
      · by_cases h1 : v ≤ 4095
        · have HF := Lib.hid (P.ins_yes s v hpe ⟨hv, h0, h1⟩)
          have hok := P.ethOk_vlan (P.pe_ethOk s hpe) v (by omega)
          go_enter Try.func35, Try.ntmps35
          go_wp2_with (first | (go_at_call 32; refine (c_impl_ParseEth _ hs _).mono ?_; rintro e w1 ⟨he, h1⟩; rw [hpe] at he; subst he) | (go_at_call 53; go_in) | (go_at_call 31; refine (c_impl_BuildEth _ _ _ _ _ (Nat.le_trans zB hs) _).mono ?_; rintro e w2 ⟨he, h2⟩; rw [hok] at he; subst he))
          go_ret2
          exact ⟨ret_sb HF.out.1.symm HF.out.2.symm, (by repeat (first | with_reducible assumption | with_reducible exact Bel.refl _ | with_reducible refine Bel.alloc ?_ _ | with_reducible refine Bel.drew ?_ | with_reducible refine Bel.drewN ?_ _ | with_reducible refine Bel.setCell ?_ ?_ _ | with_reducible exact Nat.le_refl _ | (dsimp only; omega) | (refine Bel.trans ?_ (by with_reducible assumption))))⟩
        · have HF := Lib.hid (P.ins_no s v (by omega))
          have b1 : decide (v ≤ 4095) = false := by simpa using h1
          go_enter Try.func35, Try.ntmps35
          go_wp2_with (first | (go_at_call 32; refine (c_impl_ParseEth _ hs _).mono ?_; rintro e w1 ⟨he, h1⟩; rw [hpe] at he; subst he) | (go_at_call 53; go_in))
          go_ret2
          exact ⟨ret_sb HF.out.1.symm HF.out.2.symm, (by repeat (first | with_reducible assumption | with_reducible exact Bel.refl _ | with_reducible refine Bel.alloc ?_ _ | with_reducible refine Bel.drew ?_ | with_reducible refine Bel.drewN ?_ _ | with_reducible refine Bel.setCell ?_ ?_ _ | with_reducible exact Nat.le_refl _ | (dsimp only; omega) | (refine Bel.trans ?_ (by with_reducible assumption))))⟩
      · have HF := Lib.hid (P.ins_no s v (by omega))
        go_enter Try.func35, Try.ntmps35
        go_wp2_with (first | (go_at_call 32; refine (c_impl_ParseEth _ hs _).mono ?_; rintro e w1 ⟨he, h1⟩; rw [hpe] at he; subst he) | (go_at_call 53; go_in))
        go_ret2
        exact ⟨ret_sb HF.out.1.symm HF.out.2.symm, (by repeat (first | with_reducible assumption | with_reducible exact Bel.refl _ | with_reducible refine Bel.alloc ?_ _ | with_reducible refine Bel.drew ?_ | with_reducible refine Bel.drewN ?_ _ | with_reducible refine Bel.setCell ?_ ?_ _ | with_reducible exact Nat.le_refl _ | (dsimp only; omega) | (refine Bel.trans ?_ (by with_reducible assumption))))⟩
    · have HF := Lib.hid (P.ins_no s v (by omega))
      have b1 : (P.peV s == -1) = false := by simpa using hv
      have b2 : 0 ≤ P.peV s := by omega
      go_enter Try.func35, Try.ntmps35
      go_wp2_with (first | (go_at_call 32; refine (c_impl_ParseEth _ hs _).mono ?_; rintro e w1 ⟨he, h1⟩; rw [hpe] at he; subst he) | (go_at_call 53; go_in))
      go_ret2
      exact ⟨ret_sb HF.out.1.symm HF.out.2.symm, (by repeat (first | with_reducible assumption | with_reducible exact Bel.refl _ | with_reducible refine Bel.alloc ?_ _ | with_reducible refine Bel.drew ?_ | with_reducible refine Bel.drewN ?_ _ | with_reducible refine Bel.setCell ?_ ?_ _ | with_reducible exact Nat.le_refl _ | (dsimp only; omega) | (refine Bel.trans ?_ (by with_reducible assumption))))⟩
set_option maxHeartbeats 1000000 in
theorem c_impl_StripTag (s : ByteArray) (hs : s.size ≤ 1073741824) (w : World) :
    Calls Try.prog 33 #[.string s] w fun e w' => e = .returned (.tuple #[.string (P.stripTag s), .int .i64 (P.stripV s)]) ∧ Bel w w' := by
  have zB := P.peB_size_le s
  cases hpe : P.peOk s with
  | false =>
    have HF := Lib.hid (P.str_pe s hpe)
    go_enter Try.func33, Try.ntmps33
    go_wp2_with (first | (go_at_call 32; refine (c_impl_ParseEth _ hs _).mono ?_; rintro e w1 ⟨he, h1⟩; rw [hpe] at he; subst he))
    go_ret2
    exact ⟨ret_si HF.out.1.symm HF.out.2.symm, (by repeat (first | with_reducible assumption | with_reducible exact Bel.refl _ | with_reducible refine Bel.alloc ?_ _ | with_reducible refine Bel.drew ?_ | with_reducible refine Bel.drewN ?_ _ | with_reducible refine Bel.setCell ?_ ?_ _ | with_reducible exact Nat.le_refl _ | (dsimp only; omega) | (refine Bel.trans ?_ (by with_reducible assumption))))⟩
  | true =>
    have hr := P.pe_vlan s hpe
    by_cases hv : P.peV s = -1
    · have HF := Lib.hid (P.str_no s hv)
      go_enter Try.func33, Try.ntmps33
      go_wp2_with (first | (go_at_call 32; refine (c_impl_ParseEth _ hs _).mono ?_; rintro e w1 ⟨he, h1⟩; rw [hpe] at he; subst he))
      go_ret2
      exact ⟨ret_si HF.out.1.symm HF.out.2.symm, (by repeat (first | with_reducible assumption | with_reducible exact Bel.refl _ | with_reducible refine Bel.alloc ?_ _ | with_reducible refine Bel.drew ?_ | with_reducible refine Bel.drewN ?_ _ | with_reducible refine Bel.setCell ?_ ?_ _ | with_reducible exact Nat.le_refl _ | (dsimp only; omega) | (refine Bel.trans ?_ (by with_reducible assumption))))⟩
    · have HF := Lib.hid (P.str_yes s hpe hv)
      have b1 : (P.peV s == -1) = false := by simpa using hv
      have b2 : 0 ≤ P.peV s := by omega
      go_enter Try.func33, Try.ntmps33
      go_wp2_with (first | (go_at_call 32; refine (c_impl_ParseEth _ hs _).mono ?_; rintro e w1 ⟨he, h1⟩; rw [hpe] at he; subst he) | (go_at_call 31; refine (c_impl_BuildEth _ _ _ _ _ (Nat.le_trans zB hs) _).mono ?_; rintro e w2 ⟨rfl, h2⟩))
      go_ret2
      exact ⟨ret_si HF.out.1.symm HF.out.2.symm, (by repeat (first | with_reducible assumption | with_reducible exact Bel.refl _ | with_reducible refine Bel.alloc ?_ _ | with_reducible refine Bel.drew ?_ | with_reducible refine Bel.drewN ?_ _ | with_reducible refine Bel.setCell ?_ ?_ _ | with_reducible exact Nat.le_refl _ | (dsimp only; omega) | (refine Bel.trans ?_ (by with_reducible assumption))))⟩
end Go.Proofs.Ytnpnkkjdnmgbkaa
