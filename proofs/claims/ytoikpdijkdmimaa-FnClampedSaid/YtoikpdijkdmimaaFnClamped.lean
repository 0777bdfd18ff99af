/-
  FnClampedSaid: a clamped number is in its range, is not changed again, and is the number if that is in the range. No condition.
-/
import Derived.Test.YtoikpdijkdmimaaRows
import Derived.Test.YtoikpdijkdmimaaOpen
import Derived.Test.YtoikpdijkdmimaaRow
import Derived.Test.Ytoikpdijkdmimaa20
import Derived.Test.Ytoikpdijkdmimaa01
import Derived.Test.YtoikpdijkdmimaaPure7
import Derived.ChangeOld
import Derived.OpenShut
namespace Go.Proofs.Ytoikpdijkdmimaa.fnClamped
open Go.ChangeShapes Go.WideShapes Go.ChangeAt Go.RowKit
set_option linter.unusedVariables false

set_option maxHeartbeats 1000000 in
theorem walk (a0 : Option Addr) (len0 cap0 : Nat) (z0 : List Int) (w : World) (w0 : IsRow w a0 len0 cap0 z0) :
    Calls Try.prog 8 #[.slice a0 len0 cap0] w fun e w' => e = .returned (.bool true) ∧ Bel w w' := by
  by_cases hbig : (len0 : Int) ≤ 1048576
  · have hsm : len0 ≤ 1048576 := by omega
    go_enter Try.func8, Try.ntmps8
    go_wp2_with (go_at_call 23; go_in)
    refine (c_DrawClamp w a0 len0 cap0 z0 w w0 hsm (Bel.refl w)).mono ?_
    rintro e w1 ⟨x, y, t, rfl, hx, hy, ht, hb⟩
    have H7 := Lib.hid P.clamp_735
    by_cases hlt : t < y
    · have HQ := Lib.hid (P.clamp_bad x y t hlt)
      have HT := HQ
      go_wp2_with (go_at_call 25; refine (c_impl_Clamp _ _ _ _).mono ?_; rintro e w' ⟨he, rfl⟩; (first | rw [HQ.out] at he | rw [HT.out] at he | rw [H7.out] at he); subst he)
      go_ret
      exact ⟨rfl, hb⟩
    · have hin := P.clamp_in x y t hlt
      have HT := Lib.hid (P.clamp_twice x y t hlt)
      have HS := Lib.hid (P.clamp_same x y t)
      obtain ⟨q, hq⟩ : ∃ q, P.clamp x y t = q := ⟨_, rfl⟩
      rw [hq] at hin HT HS
      have HQ := Lib.hid hq
      clear hq
      by_cases h1 : x < y
      · go_wp2_with (go_at_call 25; refine (c_impl_Clamp _ _ _ _).mono ?_; rintro e w' ⟨he, rfl⟩; (first | rw [HQ.out] at he | rw [HT.out] at he | rw [H7.out] at he); subst he)
        go_ret
        exact ⟨rfl, hb⟩
      · by_cases h2 : t < x
        · go_wp2_with (go_at_call 25; refine (c_impl_Clamp _ _ _ _).mono ?_; rintro e w' ⟨he, rfl⟩; (first | rw [HQ.out] at he | rw [HT.out] at he | rw [H7.out] at he); subst he)
          go_ret
          exact ⟨rfl, hb⟩
        · obtain rfl : q = x := HS.out (by omega)
          go_wp2_with (go_at_call 25; refine (c_impl_Clamp _ _ _ _).mono ?_; rintro e w' ⟨he, rfl⟩; (first | rw [HQ.out] at he | rw [HT.out] at he | rw [H7.out] at he); subst he)
          go_ret
          exact ⟨rfl, hb⟩
  · have hbig2 : len0 ≤ 9223372036854775807 := w0.small
    go_enter Try.func8, Try.ntmps8
    go_wp2_with (go_at_call 23; go_in)
    go_ret
    exact ⟨rfl, Bel.refl _⟩
theorem own : ownKnob Try.prog.godebug = none := by kernel_rfl
theorem laidOut : laidOutB Try.prog = true := by kernel_rfl

set_option maxRecDepth 100000 in
theorem lifted (os : Os) (started : os.Started) (H : Type) (enc : TypeId × Value → H) :
    ReturnsInHanded {} Try.checked os 8 .any (Rows.fnClampedSpec.pre6 enc Try.prog Try.f8 Rows.fnClampedRow.domain false) (Rows.fnClampedSpec.post enc Try.prog Try.f8 false true false false) := by
  refine returnsInHanded_of_change (C := Try.checked) own started (by kernel_rfl) Try.func8
    (ChangeSpec.witness6 (enc := enc) (C := Try.checked) false ⟨#[], #[.slice none 0 0], []⟩ 8 (by kernel_rfl) (by kernel_rfl) (by kernel_rfl) (by kernel_rfl)) ?_
  intro W base args ds gs before hval0 hW hcnd _
  have hval : ∀ (j : Nat) t v, Try.f8.params[j]? = some t → args[j]? = some v → Value.okWide Try.prog W .any base t v := hval0
  have hW' := hW
  obtain ⟨p, q, hA0, hV, rfl, hfz, hnd⟩ := hW
  have hA : DataW.TrodAll enc Try.prog W 0 (fun _ => true) true Try.f8.params.toList args.toList ds p := hA0
  rw [Try.params8] at hA hval
  obtain ⟨v0, vs0, d0, ds0, p0, q0, hargs, rfl, rfl, h0, r0⟩ := trodAll_cons hA
  obtain ⟨rfl, rfl, rfl⟩ := trodAll_nil r0
  obtain rfl : args = #[v0] := by cases args; simp_all
  obtain ⟨rfl, rfl⟩ := trodVars_none hV
  have k0 := h0
  have lt0 : ∀ x ∈ p0, x.block < W.heap.size := by obtain ⟨m, hm⟩ := k0; exact DataW.trod_lt m _ _ _ hm
  obtain ⟨a0, len0, cap0, z0, rfl, w0⟩ := val_bytes (hval 0 _ v0 rfl rfl) k0
  clear hA0 hval0
  refine (walk a0 len0 cap0 z0 W w0).mono fun e W' ⟨he, bel⟩ => ?_
  subst he
  exact ⟨_, rfl, _, _, _, [], _, [], hW', trodAll_mk1 (shut_bool Try.underlying4 _), (trodAll_cons_mk (Below.trod laidOut (by kernel_rfl) (of_decide_eq_true (by kernel_rfl)) k0 bel lt0) trodAll_mk0), rfl, Below.frame bel _, fun h => by cases h⟩

theorem over : Rows.fnClampedRow.holds Try.pinned (OpenSpec.ofChange Rows.fnClampedSpec) :=
  OpenClaim.holds_of_wide 8 Try.f8 rfl rfl rfl rfl rfl rfl rfl ⟨rfl, rfl, rfl, rfl, rfl⟩ rfl rfl rfl rfl rfl (by kernel_rfl) Try.func8 (by kernel_rfl)
    (of_decide_eq_true (by kernel_rfl)) (by unfold Func.isWrapper; first | (rw [if_pos (by decide +kernel)]; kernel_rfl) | (rw [if_neg (by decide +kernel)]; exact ⟨rfl, rfl⟩))
    (fun os started H enc _ => lifted os started H enc)

theorem proved : Rows.FnClampedSaid := over
#print axioms proved
end Go.Proofs.Ytoikpdijkdmimaa.fnClamped
