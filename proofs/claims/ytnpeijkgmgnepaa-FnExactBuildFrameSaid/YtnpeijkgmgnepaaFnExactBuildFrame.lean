/-
  FnExactBuildFrameSaid: for all arguments the program's BuildFrame returns what the reference's returns. No condition.
-/
import Derived.Test.YtnpeijkgmgnepaaRows
import Derived.Test.YtnpeijkgmgnepaaOpen
import Derived.Test.Ytnpeijkgmgnepaa14i
import Derived.Test.Ytnpeijkgmgnepaa14s
import Derived.ChangeOld
import Derived.OpenShut
namespace Go.Proofs.Ytnpeijkgmgnepaa.fnExactBuildFrame
open Go.ChangeShapes Go.WideShapes Go.ChangeAt Go.RowKit
set_option linter.unusedVariables false

set_option maxHeartbeats 1000000 in
theorem walk (a0_0 : Int) (a0_1 : Int) (a0_2 : Int) (a0_3 : Int) (a0_4 : Int) (a0_5 : Int) (a0_6 : Int) (a0_7 : Int) (a0_8 : Int) (a0_9 : Int) (a0_10 : Int) (a0_11 : Int) (a0_12 : Int) (a0_13 : Int) (a0_14 : Int) (a0_15 : ByteArray) (w : World) (w0_0 : I64 a0_0) (w0_1 : I64 a0_1) (w0_2 : I64 a0_2) (w0_3 : I64 a0_3) (w0_4 : I64 a0_4) (w0_5 : I64 a0_5) (w0_6 : I64 a0_6) (w0_7 : I64 a0_7) (w0_8 : I64 a0_8) (w0_9 : I64 a0_9) (w0_10 : I64 a0_10) (w0_11 : I64 a0_11) (w0_12 : I64 a0_12) (w0_13 : I64 a0_13) (w0_14 : I64 a0_14) (w0_15 : a0_15.size ≤ maxLen) :
    Calls Try.prog 3 #[.agg #[.int .i64 a0_0, .int .i64 a0_1, .int .i64 a0_2, .int .i64 a0_3, .int .i64 a0_4, .int .i64 a0_5, .int .i64 a0_6, .int .i64 a0_7, .int .i64 a0_8, .int .i64 a0_9, .int .i64 a0_10, .int .i64 a0_11, .int .i64 a0_12, .int .i64 a0_13, .int .i64 a0_14, .string a0_15]] w fun e w' => e = .returned (.bool true) ∧ Bel w w' := by
  by_cases hbig : a0_15.size ≤ 1048576
  · have hs : a0_15.size ≤ 1073741824 := by omega
    go_enter Try.func3, Try.ntmps3
    go_wp2_with (first | (go_at_call 17; refine (c_toPacket _ _ _ _ _ _ _ _ _ _ _ _ _ _ _ _ _).mono ?_; rintro e w' ⟨rfl, hb⟩; obtain ⟨hc, hz⟩ := hb.keep (b := w.heap.size) (by first | omega | (simp; done) | (simp; omega))) | (go_at_call 16; refine (c_spec_BuildFrame _ _ _ _ _ _ _ _ _ _ _ _ _ _ _ _ hs _).mono ?_; rintro e w' ⟨rfl, hb⟩; obtain ⟨hc, hz⟩ := hb.keep (b := w.heap.size) (by first | omega | (simp; done) | (simp; omega))) | (go_at_call 18; refine (c_impl_BuildFrame _ _ _ _ _ _ _ _ _ _ _ _ _ _ _ _ hs _).mono ?_; rintro e w' ⟨rfl, hb⟩) | go_in)
    go_ret
    exact ⟨rfl, (by repeat (first | with_reducible assumption | exact Bel.refl _ | with_reducible refine Bel.alloc ?_ _ | with_reducible refine Bel.drew ?_ | with_reducible refine Bel.drewN ?_ _ | (refine Bel.trans ?_ (by with_reducible assumption))))⟩
  · have hm : a0_15.size ≤ 9223372036854775807 := w0_15
    go_enter Try.func3, Try.ntmps3
    go_wp2
    go_ret
    exact ⟨rfl, (by repeat (first | with_reducible assumption | exact Bel.refl _ | with_reducible refine Bel.alloc ?_ _ | with_reducible refine Bel.drew ?_ | with_reducible refine Bel.drewN ?_ _ | (refine Bel.trans ?_ (by with_reducible assumption))))⟩
theorem own : ownKnob Try.prog.godebug = none := by kernel_rfl
theorem laidOut : laidOutB Try.prog = true := by kernel_rfl

set_option maxRecDepth 100000 in
theorem lifted (os : Os) (started : os.Started) (H : Type) (enc : TypeId × Value → H) :
    ReturnsInHanded {} Try.checked os 3 .any (Rows.fnExactBuildFrameSpec.pre6 enc Try.prog Try.f3 Rows.fnExactBuildFrameRow.domain false) (Rows.fnExactBuildFrameSpec.post enc Try.prog Try.f3 false true false false) := by
  refine returnsInHanded_of_change (C := Try.checked) own started (by kernel_rfl) Try.func3
    (ChangeSpec.witness6 (enc := enc) (C := Try.checked) false ⟨#[], #[.agg #[.int .i64 0, .int .i64 0, .int .i64 0, .int .i64 0, .int .i64 0, .int .i64 0, .int .i64 0, .int .i64 0, .int .i64 0, .int .i64 0, .int .i64 0, .int .i64 0, .int .i64 0, .int .i64 0, .int .i64 0, .string ⟨#[]⟩]], []⟩ 8 (by kernel_rfl) (by kernel_rfl) (by kernel_rfl) (by kernel_rfl)) ?_
  intro W base args ds gs before hval0 hW hcnd _
  have hval : ∀ (j : Nat) t v, Try.f3.params[j]? = some t → args[j]? = some v → Value.okWide Try.prog W .any base t v := hval0
  have hW' := hW
  obtain ⟨p, q, hA0, hV, rfl, hfz, hnd⟩ := hW
  have hA : DataW.TrodAll enc Try.prog W 0 (fun _ => true) true Try.f3.params.toList args.toList ds p := hA0
  rw [Try.params3] at hA hval
  obtain ⟨v0, vs0, d0, ds0, p0, q0, hargs, rfl, rfl, h0, r0⟩ := trodAll_cons hA
  obtain ⟨rfl, rfl, rfl⟩ := trodAll_nil r0
  obtain rfl : args = #[v0] := by cases args; simp_all
  obtain ⟨rfl, rfl⟩ := trodVars_none hV
  have k0 := h0
  have lt0 : ∀ x ∈ p0, x.block < W.heap.size := by obtain ⟨m, hm⟩ := k0; exact DataW.trod_lt m _ _ _ hm
  obtain ⟨a0_0, a0_1, a0_2, a0_3, a0_4, a0_5, a0_6, a0_7, a0_8, a0_9, a0_10, a0_11, a0_12, a0_13, a0_14, a0_15, rfl, w0_0, w0_1, w0_2, w0_3, w0_4, w0_5, w0_6, w0_7, w0_8, w0_9, w0_10, w0_11, w0_12, w0_13, w0_14, w0_15⟩ := val_Packet (hval 0 _ v0 rfl rfl)
  clear hA0 hval0
  refine (walk a0_0 a0_1 a0_2 a0_3 a0_4 a0_5 a0_6 a0_7 a0_8 a0_9 a0_10 a0_11 a0_12 a0_13 a0_14 a0_15 W w0_0 w0_1 w0_2 w0_3 w0_4 w0_5 w0_6 w0_7 w0_8 w0_9 w0_10 w0_11 w0_12 w0_13 w0_14 w0_15).mono fun e W' ⟨he, bel⟩ => ?_
  subst he
  exact ⟨_, rfl, _, _, _, [], _, [], hW', trodAll_mk1 (shut_bool Try.underlying4 _), (trodAll_cons_mk (Below.trod laidOut (by kernel_rfl) (of_decide_eq_true (by kernel_rfl)) k0 bel lt0) trodAll_mk0), rfl, Below.frame bel _, fun h => by cases h⟩

theorem over : Rows.fnExactBuildFrameRow.holds Try.pinned (OpenSpec.ofChange Rows.fnExactBuildFrameSpec) :=
  OpenClaim.holds_of_wide 3 Try.f3 rfl rfl rfl rfl rfl rfl rfl ⟨rfl, rfl, rfl, rfl, rfl⟩ rfl rfl rfl rfl rfl (by kernel_rfl) Try.func3 (by kernel_rfl)
    (of_decide_eq_true (by kernel_rfl)) (by unfold Func.isWrapper; first | (rw [if_pos (by decide +kernel)]; kernel_rfl) | (rw [if_neg (by decide +kernel)]; exact ⟨rfl, rfl⟩))
    (fun os started H enc _ => lifted os started H enc)

theorem proved : Rows.FnExactBuildFrameSaid := over
#print axioms proved
end Go.Proofs.Ytnpeijkgmgnepaa.fnExactBuildFrame
