/-
  FnEthRoundSaid: a frame can be parsed from its bytes, and a tag can be inserted and stripped. No condition.
-/
import Derived.Test.YtnpnkkjdnmgbkaaRows
import Derived.Test.YtnpnkkjdnmgbkaaOpen
import Derived.Test.YtnpnkkjdnmgbkaaRow
import Derived.Test.Ytnpnkkjdnmgbkaa26
import Derived.Test.Ytnpnkkjdnmgbkaa23
import Derived.Test.Ytnpnkkjdnmgbkaa04
import Derived.Test.Ytnpnkkjdnmgbkaa08
import Derived.Test.Ytnpnkkjdnmgbkaa17i
import Derived.Test.YtnpnkkjdnmgbkaaPureA
import Derived.ChangeOld
import Derived.OpenShut
namespace Go.Proofs.Ytnpnkkjdnmgbkaa.fnEthRound
open Go.ChangeShapes Go.WideShapes Go.ChangeAt Go.RowKit
set_option linter.unusedVariables false

set_option maxHeartbeats 1000000 in
theorem walk (a0 : Option Addr) (len0 cap0 : Nat) (z0 : List Int) (w : World) (w0 : IsRow w a0 len0 cap0 z0) :
    Calls Try.prog 7 #[.slice a0 len0 cap0] w fun e w' => e = .returned (.bool true) ∧ Bel w w' := by
  by_cases hbig : (len0 : Int) ≤ 1048576
  · have hsm : len0 ≤ 1048576 := by omega
    go_enter Try.func7, Try.ntmps7
    go_wp2_with (go_at_call 13; go_in)
    refine (c_DrawEth w a0 len0 cap0 z0 w w0 hsm (Bel.refl w)).mono ?_
    rintro e w1 ⟨d, s, vl, ty, body, hok, rfl, h1⟩
    obtain ⟨x0, hx0, hl0⟩ : ∃ x : Nat, atV len0 z0 0 = (x : Int) ∧ x ≤ 255 := by have := atV_range w0 0; exact ⟨(atV len0 z0 0).toNat, by omega, by omega⟩
    have A0 := Lib.hid hx0
    clear hx0
    obtain ⟨p1, p2, p3, p4, p5, p6, _⟩ := P.eth_round d s vl ty body hok
    obtain ⟨q1, q2, q3, q4, q5, q6⟩ := P.eth_tags d s vl ty body hok x0 (by omega)
    obtain ⟨q7, q8, _⟩ := P.eth_tags d s x0 ty body (P.ethOk_vlan hok x0 (by omega)) x0 (by omega)
    have hbs : body.size ≤ 400 := by have := of_decide_eq_true hok; omega
    have z1 := P.buildEth_size_le d s vl ty body
    have z2 := P.buildEth_size_le d s (-1) ty body
    have z3 := P.buildEth_size_le d s x0 ty body
    obtain ⟨S, hS⟩ : ∃ S, P.buildEth d s vl ty body = S := ⟨_, rfl⟩
    obtain ⟨Y, hY⟩ : ∃ Y, P.buildEth d s (-1) ty body = Y := ⟨_, rfl⟩
    obtain ⟨U, hU⟩ : ∃ U, P.buildEth d s x0 ty body = U := ⟨_, rfl⟩
    rw [hS] at p1 p2 p3 p4 p5 p6 q1 q2 z1
    rw [hY] at q1 q3 q4 q6 q7 z2
    rw [hU] at q4 q5 q6 q7 q8 z3
    have CB := Lib.hid (show ∀ w, Calls Try.prog 31 #[.agg #[.int .i64 d, .int .i64 s, .int .i64 vl, .int .i64 ty, .string body]] w (fun e w' => e = .returned (.tuple #[.string S, .bool true]) ∧ Bel w w') from fun w => (c_impl_BuildEth d s vl ty body (by omega) w).mono fun e w' ⟨he, hb⟩ => ⟨by rw [he]; simp only [hS, hok], hb⟩)
    have CP := Lib.hid (show ∀ w, Calls Try.prog 32 #[.string S] w (fun e w' => e = .returned (.tuple #[.agg #[.int .i64 d, .int .i64 s, .int .i64 vl, .int .i64 ty, .string body], .bool true]) ∧ Bel w w') from fun w => (c_impl_ParseEth S (by omega) w).mono fun e w' ⟨he, hb⟩ => ⟨by rw [he]; simp only [p1, p2, p3, p4, p5, p6], hb⟩)
    have CS := Lib.hid (show ∀ w, Calls Try.prog 33 #[.string S] w (fun e w' => e = .returned (.tuple #[.string Y, .int .i64 vl]) ∧ Bel w w') from fun w => (c_impl_StripTag S (by omega) w).mono fun e w' ⟨he, hb⟩ => ⟨by rw [he]; simp only [q1, q2], hb⟩)
    have CE := Lib.hid (show ∀ w, Calls Try.prog 34 #[.agg #[.int .i64 d, .int .i64 s, .int .i64 vl, .int .i64 ty, .string body]] w (fun e w' => e = .returned (.bool true) ∧ Bel w w') from fun w => (c_impl_EthOk d s vl ty body (by omega) w).mono fun e w' ⟨he, hb⟩ => ⟨by rw [he]; simp only [hok], hb⟩)
    have CI := Lib.hid (show ∀ w, Calls Try.prog 35 #[.string Y, .int .i64 x0] w (fun e w' => e = .returned (.tuple #[.string U, .bool true]) ∧ Bel w w') from fun w => (c_impl_InsertTag Y (by omega) x0 w).mono fun e w' ⟨he, hb⟩ => ⟨by rw [he]; simp only [q3, q4], hb⟩)
    have CT := Lib.hid (show ∀ w, Calls Try.prog 33 #[.string U] w (fun e w' => e = .returned (.tuple #[.string Y, .int .i64 x0]) ∧ Bel w w') from fun w => (c_impl_StripTag U (by omega) w).mono fun e w' ⟨he, hb⟩ => ⟨by rw [he]; simp only [q7, q8], hb⟩)
    obtain ⟨Z, hZ⟩ : ∃ Z, P.insertTag U 1 = Z := ⟨_, rfl⟩
    have CJ := Lib.hid (show ∀ w, Calls Try.prog 35 #[.string U, .int .i64 1] w (fun e w' => e = .returned (.tuple #[.string Z, .bool false]) ∧ Bel w w') from fun w => (c_impl_InsertTag U (by omega) 1 w).mono fun e w' ⟨he, hb⟩ => ⟨by rw [he]; simp only [q5, hZ], hb⟩)
    have zY : Y.size ≤ 1000 := by omega
    clear p1 p2 p3 p4 p5 p6 q1 q2 q3 q4 q5 q7 q8 hS hY hU hZ hok z1 z2 z3
    have QZ := Lib.hid q6
    clear q6
    have E1 := boxAt_alloc (n := 0) (w := w1) (Nat.zero_le _) #[.int .i64 d, .int .i64 s, .int .i64 vl, .int .i64 ty, .string body] 37
    go_wp2_with fail
    refine (CB.out _).mono ?_
    rintro e w2 ⟨rfl, h2⟩
    have E2 := BoxAt.bel E1 h2
    clear E1
    have E2x0 := E2.cell 0
    have E2x1 := E2.cell 1
    have E2x2 := E2.cell 2
    have E2x3 := E2.cell 3
    have E2x4 := E2.cell 4
    have hfE2x := E2.frozen
    have hzE2x := E2.old
    simp at E2x0 E2x1 E2x2 E2x3 E2x4
    go_wp2_with fail
    refine (CP.out _).mono ?_
    rintro e w3 ⟨rfl, h3⟩
    clear E2x0 E2x1 E2x2 E2x3 E2x4 hfE2x hzE2x
    have E3 := BoxAt.bel E2 h3
    clear E2
    have E3x0 := E3.cell 0
    have E3x1 := E3.cell 1
    have E3x2 := E3.cell 2
    have E3x3 := E3.cell 3
    have E3x4 := E3.cell 4
    have hfE3x := E3.frozen
    have hzE3x := E3.old
    simp at E3x0 E3x1 E3x2 E3x3 E3x4
    have F3 := boxAt_alloc (n := 0) (w := w3) (Nat.zero_le _) #[.int .i64 d, .int .i64 s, .int .i64 vl, .int .i64 ty, .string body] 37
    go_wp2_with fail
    refine (CS.out _).mono ?_
    rintro e w4 ⟨rfl, h4⟩
    clear E3x0 E3x1 E3x2 E3x3 E3x4 hfE3x hzE3x
    have E4 := BoxAt.bel (BoxAt.alloc E3 _) h4
    have F4 := BoxAt.bel F3 h4
    clear E3 F3
    have E4x0 := E4.cell 0
    have E4x1 := E4.cell 1
    have E4x2 := E4.cell 2
    have E4x3 := E4.cell 3
    have E4x4 := E4.cell 4
    have hfE4x := E4.frozen
    have hzE4x := E4.old
    simp at E4x0 E4x1 E4x2 E4x3 E4x4
    have F4x0 := F4.cell 0
    have F4x1 := F4.cell 1
    have F4x2 := F4.cell 2
    have F4x3 := F4.cell 3
    have F4x4 := F4.cell 4
    have hfF4x := F4.frozen
    have hzF4x := F4.old
    simp at F4x0 F4x1 F4x2 F4x3 F4x4
    go_wp2_with fail
    refine (CE.out _).mono ?_
    rintro e w5 ⟨rfl, h5⟩
    clear E4x0 E4x1 E4x2 E4x3 E4x4 hfE4x hzE4x
    clear F4x0 F4x1 F4x2 F4x3 F4x4 hfF4x hzF4x
    have E5 := BoxAt.bel E4 h5
    have F5 := BoxAt.bel F4 h5
    clear E4 F4
    have E5x0 := E5.cell 0
    have E5x1 := E5.cell 1
    have E5x2 := E5.cell 2
    have E5x3 := E5.cell 3
    have E5x4 := E5.cell 4
    have hfE5x := E5.frozen
    have hzE5x := E5.old
    simp at E5x0 E5x1 E5x2 E5x3 E5x4
    have F5x0 := F5.cell 0
    have F5x1 := F5.cell 1
    have F5x2 := F5.cell 2
    have F5x3 := F5.cell 3
    have F5x4 := F5.cell 4
    have hfF5x := F5.frozen
    have hzF5x := F5.old
    simp at F5x0 F5x1 F5x2 F5x3 F5x4
    go_wp2_with fail
    refine (c_atII w a0 len0 cap0 z0 _ _ _ ⟨0, rfl, by decide, A0.out⟩ w0 hsm (by repeat (first | with_reducible assumption | with_reducible exact Bel.refl _ | with_reducible refine Bel.alloc ?_ _ | with_reducible refine Bel.drew ?_ | with_reducible refine Bel.drewN ?_ _ | with_reducible refine Bel.setCell ?_ ?_ _ | with_reducible exact Nat.le_refl _ | (dsimp only; omega) | (refine Bel.trans ?_ (by with_reducible assumption))))).mono ?_
    rintro e w6 ⟨rfl, h6⟩
    clear E5x0 E5x1 E5x2 E5x3 E5x4 hfE5x hzE5x
    clear F5x0 F5x1 F5x2 F5x3 F5x4 hfF5x hzF5x
    have E6 := BoxAt.bel E5 h6
    have F6 := BoxAt.bel F5 h6
    clear E5 F5
    have E6x0 := E6.cell 0
    have E6x1 := E6.cell 1
    have E6x2 := E6.cell 2
    have E6x3 := E6.cell 3
    have E6x4 := E6.cell 4
    have hfE6x := E6.frozen
    have hzE6x := E6.old
    simp at E6x0 E6x1 E6x2 E6x3 E6x4
    have F6x0 := F6.cell 0
    have F6x1 := F6.cell 1
    have F6x2 := F6.cell 2
    have F6x3 := F6.cell 3
    have F6x4 := F6.cell 4
    have hfF6x := F6.frozen
    have hzF6x := F6.old
    simp at F6x0 F6x1 F6x2 F6x3 F6x4
    go_wp2_with fail
    refine (CI.out _).mono ?_
    rintro e w7 ⟨rfl, h7⟩
    clear E6x0 E6x1 E6x2 E6x3 E6x4 hfE6x hzE6x
    clear F6x0 F6x1 F6x2 F6x3 F6x4 hfF6x hzF6x
    have E7 := BoxAt.bel E6 h7
    have F7 := BoxAt.bel F6 h7
    clear E6 F6
    have E7x0 := E7.cell 0
    have E7x1 := E7.cell 1
    have E7x2 := E7.cell 2
    have E7x3 := E7.cell 3
    have E7x4 := E7.cell 4
    have hfE7x := E7.frozen
    have hzE7x := E7.old
    simp at E7x0 E7x1 E7x2 E7x3 E7x4
    have F7x0 := F7.cell 0
    have F7x1 := F7.cell 1
    have F7x2 := F7.cell 2
    have F7x3 := F7.cell 3
    have F7x4 := F7.cell 4
    have hfF7x := F7.frozen
    have hzF7x := F7.old
    simp at F7x0 F7x1 F7x2 F7x3 F7x4
    go_wp2_with fail
    refine (CT.out _).mono ?_
    rintro e w8 ⟨rfl, h8⟩
    clear E7x0 E7x1 E7x2 E7x3 E7x4 hfE7x hzE7x
    clear F7x0 F7x1 F7x2 F7x3 F7x4 hfF7x hzF7x
    have E8 := BoxAt.bel E7 h8
    have F8 := BoxAt.bel F7 h8
    clear E7 F7
    have E8x0 := E8.cell 0
    have E8x1 := E8.cell 1
    have E8x2 := E8.cell 2
    have E8x3 := E8.cell 3
    have E8x4 := E8.cell 4
    have hfE8x := E8.frozen
    have hzE8x := E8.old
    simp at E8x0 E8x1 E8x2 E8x3 E8x4
    have F8x0 := F8.cell 0
    have F8x1 := F8.cell 1
    have F8x2 := F8.cell 2
    have F8x3 := F8.cell 3
    have F8x4 := F8.cell 4
    have hfF8x := F8.frozen
    have hzF8x := F8.old
    simp at F8x0 F8x1 F8x2 F8x3 F8x4
    go_wp2_with fail
    refine (CJ.out _).mono ?_
    rintro e w9 ⟨rfl, h9⟩
    clear E8x0 E8x1 E8x2 E8x3 E8x4 hfE8x hzE8x
    clear F8x0 F8x1 F8x2 F8x3 F8x4 hfF8x hzF8x
    have E9 := BoxAt.bel E8 h9
    have F9 := BoxAt.bel F8 h9
    clear E8 F8
    have E9x0 := E9.cell 0
    have E9x1 := E9.cell 1
    have E9x2 := E9.cell 2
    have E9x3 := E9.cell 3
    have E9x4 := E9.cell 4
    have hfE9x := E9.frozen
    have hzE9x := E9.old
    simp at E9x0 E9x1 E9x2 E9x3 E9x4
    have F9x0 := F9.cell 0
    have F9x1 := F9.cell 1
    have F9x2 := F9.cell 2
    have F9x3 := F9.cell 3
    have F9x4 := F9.cell 4
    have hfF9x := F9.frozen
    have hzF9x := F9.old
    simp at F9x0 F9x1 F9x2 F9x3 F9x4
    go_wp2_with fail
    have q6 := QZ.out
    refine (c_atII w a0 len0 cap0 z0 _ _ _ ⟨0, rfl, by decide, A0.out⟩ w0 hsm (by repeat (first | with_reducible assumption | with_reducible exact Bel.refl _ | with_reducible refine Bel.alloc ?_ _ | with_reducible refine Bel.drew ?_ | with_reducible refine Bel.drewN ?_ _ | with_reducible refine Bel.setCell ?_ ?_ _ | with_reducible exact Nat.le_refl _ | (dsimp only; omega) | (refine Bel.trans ?_ (by with_reducible assumption))))).mono ?_
    rintro e w10 ⟨rfl, h10⟩
    clear E9x0 E9x1 E9x2 E9x3 E9x4 hfE9x hzE9x
    clear F9x0 F9x1 F9x2 F9x3 F9x4 hfF9x hzF9x
    have E10 := BoxAt.bel E9 h10
    have F10 := BoxAt.bel F9 h10
    clear E9 F9
    have E10x0 := E10.cell 0
    have E10x1 := E10.cell 1
    have E10x2 := E10.cell 2
    have E10x3 := E10.cell 3
    have E10x4 := E10.cell 4
    have hfE10x := E10.frozen
    have hzE10x := E10.old
    simp at E10x0 E10x1 E10x2 E10x3 E10x4
    have F10x0 := F10.cell 0
    have F10x1 := F10.cell 1
    have F10x2 := F10.cell 2
    have F10x3 := F10.cell 3
    have F10x4 := F10.cell 4
    have hfF10x := F10.frozen
    have hzF10x := F10.old
    simp at F10x0 F10x1 F10x2 F10x3 F10x4
    go_wp2
    go_ret
    exact ⟨rfl, (by repeat (first | with_reducible assumption | with_reducible exact Bel.refl _ | with_reducible refine Bel.alloc ?_ _ | with_reducible refine Bel.drew ?_ | with_reducible refine Bel.drewN ?_ _ | with_reducible refine Bel.setCell ?_ ?_ _ | with_reducible exact Nat.le_refl _ | (dsimp only; omega) | (refine Bel.trans ?_ (by with_reducible assumption))))⟩
  · have hbig2 : len0 ≤ 9223372036854775807 := w0.small
    go_enter Try.func7, Try.ntmps7
    go_wp2_with (go_at_call 13; go_in)
    go_ret
    exact ⟨rfl, Bel.refl _⟩
theorem own : ownKnob Try.prog.godebug = none := by kernel_rfl
theorem laidOut : laidOutB Try.prog = true := by kernel_rfl

set_option maxRecDepth 100000 in
theorem lifted (os : Os) (started : os.Started) (H : Type) (enc : TypeId × Value → H) :
    ReturnsInHanded {} Try.checked os 7 .any (Rows.fnEthRoundSpec.pre6 enc Try.prog Try.f7 Rows.fnEthRoundRow.domain false) (Rows.fnEthRoundSpec.post enc Try.prog Try.f7 false true false false) := by
  refine returnsInHanded_of_change (C := Try.checked) own started (by kernel_rfl) Try.func7
    (ChangeSpec.witness6 (enc := enc) (C := Try.checked) false ⟨#[], #[.slice none 0 0], []⟩ 8 (by kernel_rfl) (by kernel_rfl) (by kernel_rfl) (by kernel_rfl)) ?_
  intro W base args ds gs before hval0 hW hcnd _
  have hval : ∀ (j : Nat) t v, Try.f7.params[j]? = some t → args[j]? = some v → Value.okWide Try.prog W .any base t v := hval0
  have hW' := hW
  obtain ⟨p, q, hA0, hV, rfl, hfz, hnd⟩ := hW
  have hA : DataW.TrodAll enc Try.prog W 0 (fun _ => true) true Try.f7.params.toList args.toList ds p := hA0
  rw [Try.params7] at hA hval
  obtain ⟨v0, vs0, d0, ds0, p0, q0, hargs, rfl, rfl, h0, r0⟩ := trodAll_cons hA
  obtain ⟨rfl, rfl, rfl⟩ := trodAll_nil r0
  obtain rfl : args = #[v0] := by cases args; simp_all
  obtain ⟨rfl, rfl⟩ := trodVars_none hV
  have k0 := h0
  have lt0 : ∀ x ∈ p0, x.block < W.heap.size := by obtain ⟨m, hm⟩ := k0; exact DataW.trod_lt m _ _ _ hm
  obtain ⟨a0, len0, cap0, z0, rfl, w0⟩ := val_bytes (hval 0 _ v0 rfl rfl) k0
  clear hA0 hval0
  refine (walk a0 len0 cap0 z0 W w0).mono fun e W' ⟨he, bel⟩ => ?_
  subst he
  exact ⟨_, rfl, _, _, _, [], _, [], hW', trodAll_mk1 (shut_bool Try.underlying4 _), (trodAll_cons_mk (Below.trod laidOut (by kernel_rfl) (of_decide_eq_true (by kernel_rfl)) k0 bel lt0) trodAll_mk0), rfl, Below.frame bel _, fun h => by cases h⟩

theorem over : Rows.fnEthRoundRow.holds Try.pinned (OpenSpec.ofChange Rows.fnEthRoundSpec) :=
  OpenClaim.holds_of_wide 7 Try.f7 rfl rfl rfl rfl rfl rfl rfl ⟨rfl, rfl, rfl, rfl, rfl⟩ rfl rfl rfl rfl rfl (by kernel_rfl) Try.func7 (by kernel_rfl)
    (of_decide_eq_true (by kernel_rfl)) (by unfold Func.isWrapper; first | (rw [if_pos (by decide +kernel)]; kernel_rfl) | (rw [if_neg (by decide +kernel)]; exact ⟨rfl, rfl⟩))
    (fun os started H enc _ => lifted os started H enc)

theorem proved : Rows.FnEthRoundSaid := over
#print axioms proved
end Go.Proofs.Ytnpnkkjdnmgbkaa.fnEthRound
