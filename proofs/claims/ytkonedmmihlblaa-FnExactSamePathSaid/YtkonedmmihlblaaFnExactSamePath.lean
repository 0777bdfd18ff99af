/-
  FnExactSamePathSaid: for all arguments the program's SamePath returns what the reference's returns. No condition.
-/
import Derived.Test.YtkonedmmihlblaaRows
import Derived.Test.YtkonedmmihlblaaOpen
import Derived.Test.Ytkonedmmihlblaa07
import Derived.ChangeOld
import Derived.OpenShut
namespace Go.Proofs.Ytkonedmmihlblaa.fnExactSamePath
open Go.ChangeShapes Go.WideShapes Go.ChangeAt Go.RowKit
set_option linter.unusedVariables false

set_option maxHeartbeats 1000000 in
theorem big (a0_0 : Int) (a0_1 : Int) (a0_2 : Int) (a0_3 : Int) (a0_4 : Int) (a0_5 : Int) (a0_6 : Int) (a0_7 : Int) (a0_8 : Int) (a0_9 : Int) (a0_10 : Int) (a0_11 : Int) (a0_12 : Int) (a0_13 : Int) (a0_14 : Int) (a0_15 : ByteArray) (a1_0 : Int) (a1_1 : Int) (a1_2 : Int) (a1_3 : Int) (a1_4 : Int) (a1_5 : Int) (a1_6 : Int) (a1_7 : Int) (a1_8 : Int) (a1_9 : Int) (a1_10 : Int) (a1_11 : Int) (a1_12 : Int) (a1_13 : Int) (a1_14 : Int) (a1_15 : ByteArray) (w : World) (w0_0 : I64 a0_0) (w0_1 : I64 a0_1) (w0_2 : I64 a0_2) (w0_3 : I64 a0_3) (w0_4 : I64 a0_4) (w0_5 : I64 a0_5) (w0_6 : I64 a0_6) (w0_7 : I64 a0_7) (w0_8 : I64 a0_8) (w0_9 : I64 a0_9) (w0_10 : I64 a0_10) (w0_11 : I64 a0_11) (w0_12 : I64 a0_12) (w0_13 : I64 a0_13) (w0_14 : I64 a0_14) (w0_15 : a0_15.size ≤ maxLen) (w1_0 : I64 a1_0) (w1_1 : I64 a1_1) (w1_2 : I64 a1_2) (w1_3 : I64 a1_3) (w1_4 : I64 a1_4) (w1_5 : I64 a1_5) (w1_6 : I64 a1_6) (w1_7 : I64 a1_7) (w1_8 : I64 a1_8) (w1_9 : I64 a1_9) (w1_10 : I64 a1_10) (w1_11 : I64 a1_11) (w1_12 : I64 a1_12) (w1_13 : I64 a1_13) (w1_14 : I64 a1_14) (w1_15 : a1_15.size ≤ maxLen) (hbig : a0_15.size ≤ 1048576) (hbig2 : a0_15.size + a1_15.size ≤ 1048576) :
    Calls Try.prog 14 #[.agg #[.int .i64 a0_0, .int .i64 a0_1, .int .i64 a0_2, .int .i64 a0_3, .int .i64 a0_4, .int .i64 a0_5, .int .i64 a0_6, .int .i64 a0_7, .int .i64 a0_8, .int .i64 a0_9, .int .i64 a0_10, .int .i64 a0_11, .int .i64 a0_12, .int .i64 a0_13, .int .i64 a0_14, .string a0_15], .agg #[.int .i64 a1_0, .int .i64 a1_1, .int .i64 a1_2, .int .i64 a1_3, .int .i64 a1_4, .int .i64 a1_5, .int .i64 a1_6, .int .i64 a1_7, .int .i64 a1_8, .int .i64 a1_9, .int .i64 a1_10, .int .i64 a1_11, .int .i64 a1_12, .int .i64 a1_13, .int .i64 a1_14, .string a1_15]] w fun e w' => e = .returned (.bool true) ∧ Bel w w' := by
  go_enter Try.func14, Try.ntmps14
  go_wp2_with (first | (go_at_call 42; go_in) | (go_at_call 36; go_in))
  refine wp_region_fix [.agg #[.int .i64 a0_0, .int .i64 a0_1, .int .i64 a0_2, .int .i64 a0_3, .int .i64 a0_4, .int .i64 a0_5, .int .i64 a0_6, .int .i64 a0_7, .int .i64 a0_8, .int .i64 a0_9, .int .i64 a0_10, .int .i64 a0_11, .int .i64 a0_12, .int .i64 a0_13, .int .i64 a0_14, .string a0_15], .agg #[.int .i64 a0_0, .int .i64 a0_1, .int .i64 a0_2, .int .i64 a0_3, .int .i64 a0_4, .int .i64 a0_5, .int .i64 a0_6, .int .i64 a0_7, .int .i64 a0_8, .int .i64 a0_9, .int .i64 a0_10, .int .i64 a0_11, .int .i64 a0_12, .int .i64 a0_13, .int .i64 a0_14, .string a0_15], .agg #[.int .i64 a1_0, .int .i64 a1_1, .int .i64 a1_2, .int .i64 a1_3, .int .i64 a1_4, .int .i64 a1_5, .int .i64 a1_6, .int .i64 a1_7, .int .i64 a1_8, .int .i64 a1_9, .int .i64 a1_10, .int .i64 a1_11, .int .i64 a1_12, .int .i64 a1_13, .int .i64 a1_14, .string a1_15], .agg #[.int .i64 a1_0, .int .i64 a1_1, .int .i64 a1_2, .int .i64 a1_3, .int .i64 a1_4, .int .i64 a1_5, .int .i64 a1_6, .int .i64 a1_7, .int .i64 a1_8, .int .i64 a1_9, .int .i64 a1_10, .int .i64 a1_11, .int .i64 a1_12, .int .i64 a1_13, .int .i64 a1_14, .string a1_15], .bool (P.samePath a0_0 a0_1 a0_2 a0_3 a0_5 a0_6 a0_7 a0_8 a0_9 a0_10 a0_12 a0_14 a1_0 a1_1 a1_2 a1_3 a1_5 a1_6 a1_7 a1_8 a1_9 a1_10 a1_12 a1_14), .bool (P.samePath a0_0 a0_1 a0_2 a0_3 a0_5 a0_6 a0_7 a0_8 a0_9 a0_10 a0_12 a0_14 a1_0 a1_1 a1_2 a1_3 a1_5 a1_6 a1_7 a1_8 a1_9 a1_10 a1_12 a1_14)] [] (by kernel_rfl) (by kernel_rfl) ?_ ?_
  · as_aux_lemma =>
    refine ⟨?_, ?_, ?_, ?_, ?_, ?_, trivial⟩
    all_goals intro β w' hb hrow
    all_goals obtain ⟨hc, hz⟩ := hb.keep (b := w.heap.size) (by first | omega | (simp; done) | (simp; omega))
    all_goals obtain ⟨hd, hy⟩ := hb.keep (b := w.heap.size + 1) (by first | omega | (simp; done) | (simp; omega))
    all_goals simp [lastTmps, putL, theVal, List.range, List.range.loop, QB, seen, dep, dstOf, go_sem, Region.binds, hc, hd] at hrow ⊢
    all_goals first | exact Bel.refl _ | exact c_toPacket _ _ _ _ _ _ _ _ _ _ _ _ _ _ _ _ _ | exact c_spec_SamePath _ _ _ _ _ _ _ _ _ _ _ _ _ _ _ _ _ _ _ _ _ _ _ _ _ _ _ _ _ _ _ _ _
  · as_aux_lemma =>
    intro β w1 h1
    simp [lastTmps, putL, theVal, List.range, List.range.loop]
    obtain ⟨hc1, hz1⟩ := h1.keep (b := w.heap.size) (by first | omega | (simp; done) | (simp; omega))
    obtain ⟨hd1, hy1⟩ := h1.keep (b := w.heap.size + 1) (by first | omega | (simp; done) | (simp; omega))
    go_wp2
    refine wp_region_fix [.agg #[.int .i64 a0_0, .int .i64 a0_1, .int .i64 a0_2, .int .i64 a0_3, .int .i64 a0_4, .int .i64 a0_5, .int .i64 a0_6, .int .i64 a0_7, .int .i64 a0_8, .int .i64 a0_9, .int .i64 a0_10, .int .i64 a0_11, .int .i64 a0_12, .int .i64 a0_13, .int .i64 a0_14, .string a0_15], .agg #[.int .i64 a0_0, .int .i64 a0_1, .int .i64 a0_2, .int .i64 a0_3, .int .i64 a0_4, .int .i64 a0_5, .int .i64 a0_6, .int .i64 a0_7, .int .i64 a0_8, .int .i64 a0_9, .int .i64 a0_10, .int .i64 a0_11, .int .i64 a0_12, .int .i64 a0_13, .int .i64 a0_14, .string a0_15], .agg #[.int .i64 a1_0, .int .i64 a1_1, .int .i64 a1_2, .int .i64 a1_3, .int .i64 a1_4, .int .i64 a1_5, .int .i64 a1_6, .int .i64 a1_7, .int .i64 a1_8, .int .i64 a1_9, .int .i64 a1_10, .int .i64 a1_11, .int .i64 a1_12, .int .i64 a1_13, .int .i64 a1_14, .string a1_15], .agg #[.int .i64 a1_0, .int .i64 a1_1, .int .i64 a1_2, .int .i64 a1_3, .int .i64 a1_4, .int .i64 a1_5, .int .i64 a1_6, .int .i64 a1_7, .int .i64 a1_8, .int .i64 a1_9, .int .i64 a1_10, .int .i64 a1_11, .int .i64 a1_12, .int .i64 a1_13, .int .i64 a1_14, .string a1_15], .bool (P.samePath a0_0 a0_1 a0_2 a0_3 a0_5 a0_6 a0_7 a0_8 a0_9 a0_10 a0_12 a0_14 a1_0 a1_1 a1_2 a1_3 a1_5 a1_6 a1_7 a1_8 a1_9 a1_10 a1_12 a1_14), .bool (P.samePath a0_0 a0_1 a0_2 a0_3 a0_5 a0_6 a0_7 a0_8 a0_9 a0_10 a0_12 a0_14 a1_0 a1_1 a1_2 a1_3 a1_5 a1_6 a1_7 a1_8 a1_9 a1_10 a1_12 a1_14)] [] (by kernel_rfl) (by kernel_rfl) ?_ ?_
    · as_aux_lemma =>
      refine ⟨?_, ?_, ?_, ?_, ?_, ?_, trivial⟩
      all_goals intro β w' hb hrow
      all_goals obtain ⟨hc, hz⟩ := hb.keep (b := w.heap.size) hz1
      all_goals obtain ⟨hd, hy⟩ := hb.keep (b := w.heap.size + 1) hy1
      all_goals simp [lastTmps, putL, theVal, List.range, List.range.loop, QB, seen, dep, dstOf, go_sem, Region.binds, hc, hd, hc1, hd1] at hrow ⊢
      all_goals first | exact Bel.refl _ | exact c_toPacket _ _ _ _ _ _ _ _ _ _ _ _ _ _ _ _ _ | exact c_impl_SamePath _ _ _ _ _ _ _ _ _ _ _ _ _ _ _ _ _ _ _ _ _ _ _ _ _ _ _ _ _ _ _ _ _
    · as_aux_lemma =>
      intro β w2 h2
      simp [lastTmps, putL, theVal, List.range, List.range.loop]
      obtain ⟨hc2, hz2⟩ := h2.keep (b := w.heap.size) hz1
      obtain ⟨hd2, hy2⟩ := h2.keep (b := w.heap.size + 1) hy1
      go_wp2
      go_ret
      exact ⟨rfl, (by repeat (first | with_reducible assumption | exact Bel.refl _ | with_reducible refine Bel.alloc ?_ _ | with_reducible refine Bel.drew ?_ | with_reducible refine Bel.drewN ?_ _ | (refine Bel.trans ?_ (by with_reducible assumption))))⟩
set_option maxHeartbeats 1000000 in
theorem walk (a0_0 : Int) (a0_1 : Int) (a0_2 : Int) (a0_3 : Int) (a0_4 : Int) (a0_5 : Int) (a0_6 : Int) (a0_7 : Int) (a0_8 : Int) (a0_9 : Int) (a0_10 : Int) (a0_11 : Int) (a0_12 : Int) (a0_13 : Int) (a0_14 : Int) (a0_15 : ByteArray) (a1_0 : Int) (a1_1 : Int) (a1_2 : Int) (a1_3 : Int) (a1_4 : Int) (a1_5 : Int) (a1_6 : Int) (a1_7 : Int) (a1_8 : Int) (a1_9 : Int) (a1_10 : Int) (a1_11 : Int) (a1_12 : Int) (a1_13 : Int) (a1_14 : Int) (a1_15 : ByteArray) (w : World) (w0_0 : I64 a0_0) (w0_1 : I64 a0_1) (w0_2 : I64 a0_2) (w0_3 : I64 a0_3) (w0_4 : I64 a0_4) (w0_5 : I64 a0_5) (w0_6 : I64 a0_6) (w0_7 : I64 a0_7) (w0_8 : I64 a0_8) (w0_9 : I64 a0_9) (w0_10 : I64 a0_10) (w0_11 : I64 a0_11) (w0_12 : I64 a0_12) (w0_13 : I64 a0_13) (w0_14 : I64 a0_14) (w0_15 : a0_15.size ≤ maxLen) (w1_0 : I64 a1_0) (w1_1 : I64 a1_1) (w1_2 : I64 a1_2) (w1_3 : I64 a1_3) (w1_4 : I64 a1_4) (w1_5 : I64 a1_5) (w1_6 : I64 a1_6) (w1_7 : I64 a1_7) (w1_8 : I64 a1_8) (w1_9 : I64 a1_9) (w1_10 : I64 a1_10) (w1_11 : I64 a1_11) (w1_12 : I64 a1_12) (w1_13 : I64 a1_13) (w1_14 : I64 a1_14) (w1_15 : a1_15.size ≤ maxLen) :
    Calls Try.prog 14 #[.agg #[.int .i64 a0_0, .int .i64 a0_1, .int .i64 a0_2, .int .i64 a0_3, .int .i64 a0_4, .int .i64 a0_5, .int .i64 a0_6, .int .i64 a0_7, .int .i64 a0_8, .int .i64 a0_9, .int .i64 a0_10, .int .i64 a0_11, .int .i64 a0_12, .int .i64 a0_13, .int .i64 a0_14, .string a0_15], .agg #[.int .i64 a1_0, .int .i64 a1_1, .int .i64 a1_2, .int .i64 a1_3, .int .i64 a1_4, .int .i64 a1_5, .int .i64 a1_6, .int .i64 a1_7, .int .i64 a1_8, .int .i64 a1_9, .int .i64 a1_10, .int .i64 a1_11, .int .i64 a1_12, .int .i64 a1_13, .int .i64 a1_14, .string a1_15]] w fun e w' => e = .returned (.bool true) ∧ Bel w w' := by
  by_cases hbig : a0_15.size ≤ 1048576
  · by_cases hbig2 : a0_15.size + a1_15.size ≤ 1048576
    · exact big a0_0 a0_1 a0_2 a0_3 a0_4 a0_5 a0_6 a0_7 a0_8 a0_9 a0_10 a0_11 a0_12 a0_13 a0_14 a0_15 a1_0 a1_1 a1_2 a1_3 a1_4 a1_5 a1_6 a1_7 a1_8 a1_9 a1_10 a1_11 a1_12 a1_13 a1_14 a1_15 w w0_0 w0_1 w0_2 w0_3 w0_4 w0_5 w0_6 w0_7 w0_8 w0_9 w0_10 w0_11 w0_12 w0_13 w0_14 w0_15 w1_0 w1_1 w1_2 w1_3 w1_4 w1_5 w1_6 w1_7 w1_8 w1_9 w1_10 w1_11 w1_12 w1_13 w1_14 w1_15 hbig hbig2
    · have hm : a1_15.size ≤ 9223372036854775807 := w1_15
      go_enter Try.func14, Try.ntmps14
      go_wp2
      go_ret
      exact ⟨rfl, (by repeat (first | with_reducible assumption | exact Bel.refl _ | with_reducible refine Bel.alloc ?_ _ | with_reducible refine Bel.drew ?_ | with_reducible refine Bel.drewN ?_ _ | (refine Bel.trans ?_ (by with_reducible assumption))))⟩
  · have hm : a0_15.size ≤ 9223372036854775807 := w0_15
    go_enter Try.func14, Try.ntmps14
    go_wp2
    go_ret
    exact ⟨rfl, (by repeat (first | with_reducible assumption | exact Bel.refl _ | with_reducible refine Bel.alloc ?_ _ | with_reducible refine Bel.drew ?_ | with_reducible refine Bel.drewN ?_ _ | (refine Bel.trans ?_ (by with_reducible assumption))))⟩
theorem own : ownKnob Try.prog.godebug = none := by kernel_rfl
theorem laidOut : laidOutB Try.prog = true := by kernel_rfl

set_option maxRecDepth 100000 in
theorem lifted (os : Os) (started : os.Started) (H : Type) (enc : TypeId × Value → H) :
    ReturnsInHanded {} Try.checked os 14 .any (Rows.fnExactSamePathSpec.pre6 enc Try.prog Try.f14 Rows.fnExactSamePathRow.domain false) (Rows.fnExactSamePathSpec.post enc Try.prog Try.f14 false true false false) := by
  refine returnsInHanded_of_change (C := Try.checked) own started (by kernel_rfl) Try.func14
    (ChangeSpec.witness6 (enc := enc) (C := Try.checked) false ⟨#[], #[.agg #[.int .i64 0, .int .i64 0, .int .i64 0, .int .i64 0, .int .i64 0, .int .i64 0, .int .i64 0, .int .i64 0, .int .i64 0, .int .i64 0, .int .i64 0, .int .i64 0, .int .i64 0, .int .i64 0, .int .i64 0, .string ⟨#[]⟩], .agg #[.int .i64 0, .int .i64 0, .int .i64 0, .int .i64 0, .int .i64 0, .int .i64 0, .int .i64 0, .int .i64 0, .int .i64 0, .int .i64 0, .int .i64 0, .int .i64 0, .int .i64 0, .int .i64 0, .int .i64 0, .string ⟨#[]⟩]], []⟩ 8 (by kernel_rfl) (by kernel_rfl) (by kernel_rfl) (by kernel_rfl)) ?_
  intro W base args ds gs before hval0 hW hcnd _
  have hval : ∀ (j : Nat) t v, Try.f14.params[j]? = some t → args[j]? = some v → Value.okWide Try.prog W .any base t v := hval0
  have hW' := hW
  obtain ⟨p, q, hA0, hV, rfl, hfz, hnd⟩ := hW
  have hA : DataW.TrodAll enc Try.prog W 0 (fun _ => true) true Try.f14.params.toList args.toList ds p := hA0
  rw [Try.params14] at hA hval
  obtain ⟨v0, vs0, d0, ds0, p0, q0, hargs, rfl, rfl, h0, r0⟩ := trodAll_cons hA
  obtain ⟨v1, vs1, d1, ds1, p1, q1, rfl, rfl, rfl, h1, r1⟩ := trodAll_cons r0
  obtain ⟨rfl, rfl, rfl⟩ := trodAll_nil r1
  obtain rfl : args = #[v0, v1] := by cases args; simp_all
  obtain ⟨rfl, rfl⟩ := trodVars_none hV
  have k0 := h0
  have lt0 : ∀ x ∈ p0, x.block < W.heap.size := by obtain ⟨m, hm⟩ := k0; exact DataW.trod_lt m _ _ _ hm
  obtain ⟨a0_0, a0_1, a0_2, a0_3, a0_4, a0_5, a0_6, a0_7, a0_8, a0_9, a0_10, a0_11, a0_12, a0_13, a0_14, a0_15, rfl, w0_0, w0_1, w0_2, w0_3, w0_4, w0_5, w0_6, w0_7, w0_8, w0_9, w0_10, w0_11, w0_12, w0_13, w0_14, w0_15⟩ := val_Packet (hval 0 _ v0 rfl rfl)
  have k1 := h1
  have lt1 : ∀ x ∈ p1, x.block < W.heap.size := by obtain ⟨m, hm⟩ := k1; exact DataW.trod_lt m _ _ _ hm
  obtain ⟨a1_0, a1_1, a1_2, a1_3, a1_4, a1_5, a1_6, a1_7, a1_8, a1_9, a1_10, a1_11, a1_12, a1_13, a1_14, a1_15, rfl, w1_0, w1_1, w1_2, w1_3, w1_4, w1_5, w1_6, w1_7, w1_8, w1_9, w1_10, w1_11, w1_12, w1_13, w1_14, w1_15⟩ := val_Packet (hval 1 _ v1 rfl rfl)
  clear hA0 hval0
  refine (walk a0_0 a0_1 a0_2 a0_3 a0_4 a0_5 a0_6 a0_7 a0_8 a0_9 a0_10 a0_11 a0_12 a0_13 a0_14 a0_15 a1_0 a1_1 a1_2 a1_3 a1_4 a1_5 a1_6 a1_7 a1_8 a1_9 a1_10 a1_11 a1_12 a1_13 a1_14 a1_15 W w0_0 w0_1 w0_2 w0_3 w0_4 w0_5 w0_6 w0_7 w0_8 w0_9 w0_10 w0_11 w0_12 w0_13 w0_14 w0_15 w1_0 w1_1 w1_2 w1_3 w1_4 w1_5 w1_6 w1_7 w1_8 w1_9 w1_10 w1_11 w1_12 w1_13 w1_14 w1_15).mono fun e W' ⟨he, bel⟩ => ?_
  subst he
  exact ⟨_, rfl, _, _, _, [], _, [], hW', trodAll_mk1 (shut_bool Try.underlying4 _), (trodAll_cons_mk (Below.trod laidOut (by kernel_rfl) (of_decide_eq_true (by kernel_rfl)) k0 bel lt0) (trodAll_cons_mk (Below.trod laidOut (by kernel_rfl) (of_decide_eq_true (by kernel_rfl)) k1 bel lt1) trodAll_mk0)), rfl, Below.frame bel _, fun h => by cases h⟩

theorem over : Rows.fnExactSamePathRow.holds Try.pinned (OpenSpec.ofChange Rows.fnExactSamePathSpec) :=
  OpenClaim.holds_of_wide 14 Try.f14 rfl rfl rfl rfl rfl rfl rfl ⟨rfl, rfl, rfl, rfl, rfl⟩ rfl rfl rfl rfl rfl (by kernel_rfl) Try.func14 (by kernel_rfl)
    (of_decide_eq_true (by kernel_rfl)) (by unfold Func.isWrapper; first | (rw [if_pos (by decide +kernel)]; kernel_rfl) | (rw [if_neg (by decide +kernel)]; exact ⟨rfl, rfl⟩))
    (fun os started H enc _ => lifted os started H enc)

theorem proved : Rows.FnExactSamePathSaid := over
#print axioms proved
end Go.Proofs.Ytkonedmmihlblaa.fnExactSamePath
