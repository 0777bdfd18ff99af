/-
  FnTtlSaid: a lowered Ttl leaves a datagram with the right checksum, until it is 0. No condition.
-/
import Derived.Test.YtnpnkkjdnmgbkaaRows
import Derived.Test.YtnpnkkjdnmgbkaaOpen
import Derived.Test.YtnpnkkjdnmgbkaaRow
import Derived.Test.Ytnpnkkjdnmgbkaa26
import Derived.Test.Ytnpnkkjdnmgbkaa10i
import Derived.Test.Ytnpnkkjdnmgbkaa10s
import Derived.Test.YtnpnkkjdnmgbkaaPureB
import Derived.ChangeOld
import Derived.OpenShut
namespace Go.Proofs.Ytnpnkkjdnmgbkaa.fnTtl
open Go.ChangeShapes Go.WideShapes Go.ChangeAt Go.RowKit
set_option linter.unusedVariables false

set_option maxHeartbeats 1000000 in
theorem walk (a0 : Option Addr) (len0 cap0 : Nat) (z0 : List Int) (w : World) (w0 : IsRow w a0 len0 cap0 z0) :
    Calls Try.prog 10 #[.slice a0 len0 cap0] w fun e w' => e = .returned (.bool true) ∧ Bel w w' := by
  by_cases hbig : (len0 : Int) ≤ 1048576
  · have hsm : len0 ≤ 1048576 := by omega
    go_enter Try.func10, Try.ntmps10
    go_wp2_with (go_at_call 13; go_in)
    refine (c_DrawIp w a0 len0 cap0 z0 w w0 hsm (Bel.refl w)).mono ?_
    rintro e w1 ⟨tos, id, ttl, pr, si, di, body, hok, rfl, h1⟩
    have hr := of_decide_eq_true hok
    have hbs : body.size ≤ 380 := by omega
    have hrt : 0 ≤ ttl ∧ ttl ≤ 255 := by omega
    clear hr
    obtain ⟨t1, t2⟩ := P.ttl_round tos id ttl pr si di body hok
    have z1 := P.buildIp_size_le tos id ttl pr si di body
    obtain ⟨S, hS⟩ : ∃ S, P.buildIp tos id ttl pr si di body = S := ⟨_, rfl⟩
    by_cases h0 : 0 < ttl
    · have hok2 : P.ipOk tos id (ttl - 1) pr si di body.size = true := by have := of_decide_eq_true hok; exact decide_eq_true (by omega)
      obtain ⟨p1, p2, p3, p4, p5, p6, p7, p8⟩ := P.ip_round tos id (ttl - 1) pr si di body hok2 (P.bs [])
      have z2 := P.buildIp_size_le tos id (ttl - 1) pr si di body
      rw [P.app_nil] at p1 p2 p3 p4 p5 p6 p7 p8
      rw [decide_eq_true h0] at t1
      rw [if_pos h0] at t2
      obtain ⟨Y, hY⟩ : ∃ Y, P.buildIp tos id (ttl - 1) pr si di body = Y := ⟨_, rfl⟩
      rw [hY] at t2 p1 p2 p3 p4 p5 p6 p7 p8 z2
      rw [hS] at t1 t2 z1
      have CB := Lib.hid (show ∀ w, Calls Try.prog 44 #[.agg #[.int .i64 tos, .int .i64 id, .int .i64 ttl, .int .i64 pr, .int .i64 si, .int .i64 di, .string body]] w (fun e w' => e = .returned (.tuple #[.string S, .bool true]) ∧ Bel w w') from fun w => (c_spec_BuildIp tos id ttl pr si di body (by omega) w).mono fun e w' ⟨he, hb⟩ => ⟨by rw [he]; simp only [hS, hok], hb⟩)
      have CL := Lib.hid (show ∀ w, Calls Try.prog 45 #[.string S] w (fun e w' => e = .returned (.tuple #[.string Y, .bool true]) ∧ Bel w w') from fun w => (c_impl_LowerTtl S (by omega) w).mono fun e w' ⟨he, hb⟩ => ⟨by rw [he]; simp only [t1, t2], hb⟩)
      have CP := Lib.hid (show ∀ w, Calls Try.prog 39 #[.string Y] w (fun e w' => e = .returned (.tuple #[.agg #[.int .i64 tos, .int .i64 id, .int .i64 (ttl - 1), .int .i64 pr, .int .i64 si, .int .i64 di, .string body], .bool true]) ∧ Bel w w') from fun w => (c_impl_ParseIp Y (by omega) w).mono fun e w' ⟨he, hb⟩ => ⟨by rw [he]; simp only [p1, p2, p3, p4, p5, p6, p7, p8], hb⟩)
      have CU := Lib.hid (show ∀ w, Calls Try.prog 37 #[.agg #[.int .i64 tos, .int .i64 id, .int .i64 (ttl - 1), .int .i64 pr, .int .i64 si, .int .i64 di, .string body]] w (fun e w' => e = .returned (.tuple #[.string Y, .bool true]) ∧ Bel w w') from fun w => (c_impl_BuildIp tos id (ttl - 1) pr si di body (by omega) w).mono fun e w' ⟨he, hb⟩ => ⟨by rw [he]; simp only [hY, hok2], hb⟩)
      clear t1 t2 p1 p2 p3 p4 p5 p6 p7 p8 hS hY hok hok2 z1 z2
      have D1 := boxAt_alloc (n := 0) (w := w1) (Nat.zero_le _) #[.int .i64 tos, .int .i64 id, .int .i64 ttl, .int .i64 pr, .int .i64 si, .int .i64 di, .string body] 47
      go_wp2_with fail
      refine (CB.out _).mono ?_
      rintro e w2 ⟨rfl, h2⟩
      have D2 := BoxAt.bel D1 h2
      clear D1
      have D2x0 := D2.cell 0
      have D2x1 := D2.cell 1
      have D2x2 := D2.cell 2
      have D2x3 := D2.cell 3
      have D2x4 := D2.cell 4
      have D2x5 := D2.cell 5
      have D2x6 := D2.cell 6
      have hfD2x := D2.frozen
      have hzD2x := D2.old
      simp at D2x0 D2x1 D2x2 D2x3 D2x4 D2x5 D2x6
      go_wp2_with fail
      refine (CL.out _).mono ?_
      rintro e w3 ⟨rfl, h3⟩
      clear D2x0 D2x1 D2x2 D2x3 D2x4 D2x5 D2x6 hfD2x hzD2x
      have D3 := BoxAt.bel D2 h3
      clear D2
      have D3x0 := D3.cell 0
      have D3x1 := D3.cell 1
      have D3x2 := D3.cell 2
      have D3x3 := D3.cell 3
      have D3x4 := D3.cell 4
      have D3x5 := D3.cell 5
      have D3x6 := D3.cell 6
      have hfD3x := D3.frozen
      have hzD3x := D3.old
      simp at D3x0 D3x1 D3x2 D3x3 D3x4 D3x5 D3x6
      go_wp2_with fail
      refine (CP.out _).mono ?_
      rintro e w4 ⟨rfl, h4⟩
      clear D3x0 D3x1 D3x2 D3x3 D3x4 D3x5 D3x6 hfD3x hzD3x
      have D4 := BoxAt.bel D3 h4
      clear D3
      have D4x0 := D4.cell 0
      have D4x1 := D4.cell 1
      have D4x2 := D4.cell 2
      have D4x3 := D4.cell 3
      have D4x4 := D4.cell 4
      have D4x5 := D4.cell 5
      have D4x6 := D4.cell 6
      have hfD4x := D4.frozen
      have hzD4x := D4.old
      simp at D4x0 D4x1 D4x2 D4x3 D4x4 D4x5 D4x6
      have hne : ¬ w1.heap.size = w4.heap.size := by have := D4.old; omega
      have E4 := boxAt_alloc (n := 0) (w := w4.setCell ⟨w1.heap.size, 2, none⟩ (.int .i64 (ttl - 1))) (Nat.zero_le _) #[.int .i64 tos, .int .i64 id, .int .i64 (ttl - 1), .int .i64 pr, .int .i64 si, .int .i64 di, .string body] 47
      rw [World.size_setCell] at E4
      go_wp2_with fail
      refine (CU.out _).mono ?_
      rintro e w5 ⟨rfl, h5⟩
      clear D4x0 D4x1 D4x2 D4x3 D4x4 D4x5 D4x6 hfD4x hzD4x
      have D5 := BoxAt.bel (BoxAt.alloc (BoxAt.set D4 2 (by simp) _) _) h5
      have E5 := BoxAt.bel E4 h5
      clear D4 E4
      have D5x0 := D5.cell 0
      have D5x1 := D5.cell 1
      have D5x2 := D5.cell 2
      have D5x3 := D5.cell 3
      have D5x4 := D5.cell 4
      have D5x5 := D5.cell 5
      have D5x6 := D5.cell 6
      have hfD5x := D5.frozen
      have hzD5x := D5.old
      simp at D5x0 D5x1 D5x2 D5x3 D5x4 D5x5 D5x6
      have E5x0 := E5.cell 0
      have E5x1 := E5.cell 1
      have E5x2 := E5.cell 2
      have E5x3 := E5.cell 3
      have E5x4 := E5.cell 4
      have E5x5 := E5.cell 5
      have E5x6 := E5.cell 6
      have hfE5x := E5.frozen
      have hzE5x := E5.old
      simp at E5x0 E5x1 E5x2 E5x3 E5x4 E5x5 E5x6
      have hz1 := h1.size
      go_wp2
      go_ret
      exact ⟨rfl, (by repeat (first | with_reducible assumption | with_reducible exact Bel.refl _ | with_reducible refine Bel.alloc ?_ _ | with_reducible refine Bel.drew ?_ | with_reducible refine Bel.drewN ?_ _ | with_reducible refine Bel.setCell ?_ ?_ _ | with_reducible exact Nat.le_refl _ | (dsimp only; omega) | (refine Bel.trans ?_ (by with_reducible assumption))))⟩
    · obtain rfl : ttl = 0 := by omega
      rw [decide_eq_false h0] at t1
      rw [if_neg h0] at t2
      rw [hS] at t1 t2 z1
      have CB := Lib.hid (show ∀ w, Calls Try.prog 44 #[.agg #[.int .i64 tos, .int .i64 id, .int .i64 0, .int .i64 pr, .int .i64 si, .int .i64 di, .string body]] w (fun e w' => e = .returned (.tuple #[.string S, .bool true]) ∧ Bel w w') from fun w => (c_spec_BuildIp tos id 0 pr si di body (by omega) w).mono fun e w' ⟨he, hb⟩ => ⟨by rw [he]; simp only [hS, hok], hb⟩)
      have CL := Lib.hid (show ∀ w, Calls Try.prog 45 #[.string S] w (fun e w' => e = .returned (.tuple #[.string S, .bool false]) ∧ Bel w w') from fun w => (c_impl_LowerTtl S (by omega) w).mono fun e w' ⟨he, hb⟩ => ⟨by rw [he]; simp only [t1, t2], hb⟩)
      clear t1 t2 hS hok z1
      have D1 := boxAt_alloc (n := 0) (w := w1) (Nat.zero_le _) #[.int .i64 tos, .int .i64 id, .int .i64 0, .int .i64 pr, .int .i64 si, .int .i64 di, .string body] 47
      go_wp2_with fail
      refine (CB.out _).mono ?_
      rintro e w2 ⟨rfl, h2⟩
      have D2 := BoxAt.bel D1 h2
      clear D1
      have D2x0 := D2.cell 0
      have D2x1 := D2.cell 1
      have D2x2 := D2.cell 2
      have D2x3 := D2.cell 3
      have D2x4 := D2.cell 4
      have D2x5 := D2.cell 5
      have D2x6 := D2.cell 6
      have hfD2x := D2.frozen
      have hzD2x := D2.old
      simp at D2x0 D2x1 D2x2 D2x3 D2x4 D2x5 D2x6
      go_wp2_with fail
      refine (CL.out _).mono ?_
      rintro e w3 ⟨rfl, h3⟩
      clear D2x0 D2x1 D2x2 D2x3 D2x4 D2x5 D2x6 hfD2x hzD2x
      have D3 := BoxAt.bel D2 h3
      clear D2
      have D3x0 := D3.cell 0
      have D3x1 := D3.cell 1
      have D3x2 := D3.cell 2
      have D3x3 := D3.cell 3
      have D3x4 := D3.cell 4
      have D3x5 := D3.cell 5
      have D3x6 := D3.cell 6
      have hfD3x := D3.frozen
      have hzD3x := D3.old
      simp at D3x0 D3x1 D3x2 D3x3 D3x4 D3x5 D3x6
      go_wp2
      go_ret
      exact ⟨rfl, (by repeat (first | with_reducible assumption | with_reducible exact Bel.refl _ | with_reducible refine Bel.alloc ?_ _ | with_reducible refine Bel.drew ?_ | with_reducible refine Bel.drewN ?_ _ | with_reducible refine Bel.setCell ?_ ?_ _ | with_reducible exact Nat.le_refl _ | (dsimp only; omega) | (refine Bel.trans ?_ (by with_reducible assumption))))⟩
  · have hbig2 : len0 ≤ 9223372036854775807 := w0.small
    go_enter Try.func10, Try.ntmps10
    go_wp2_with (go_at_call 13; go_in)
    go_ret
    exact ⟨rfl, Bel.refl _⟩
theorem own : ownKnob Try.prog.godebug = none := by kernel_rfl
theorem laidOut : laidOutB Try.prog = true := by kernel_rfl

set_option maxRecDepth 100000 in
theorem lifted (os : Os) (started : os.Started) (H : Type) (enc : TypeId × Value → H) :
    ReturnsInHanded {} Try.checked os 10 .any (Rows.fnTtlSpec.pre6 enc Try.prog Try.f10 Rows.fnTtlRow.domain false) (Rows.fnTtlSpec.post enc Try.prog Try.f10 false true false false) := by
  refine returnsInHanded_of_change (C := Try.checked) own started (by kernel_rfl) Try.func10
    (ChangeSpec.witness6 (enc := enc) (C := Try.checked) false ⟨#[], #[.slice none 0 0], []⟩ 8 (by kernel_rfl) (by kernel_rfl) (by kernel_rfl) (by kernel_rfl)) ?_
  intro W base args ds gs before hval0 hW hcnd _
  have hval : ∀ (j : Nat) t v, Try.f10.params[j]? = some t → args[j]? = some v → Value.okWide Try.prog W .any base t v := hval0
  have hW' := hW
  obtain ⟨p, q, hA0, hV, rfl, hfz, hnd⟩ := hW
  have hA : DataW.TrodAll enc Try.prog W 0 (fun _ => true) true Try.f10.params.toList args.toList ds p := hA0
  rw [Try.params10] at hA hval
  obtain ⟨v0, vs0, d0, ds0, p0, q0, hargs, rfl, rfl, h0, r0⟩ := trodAll_cons hA
  obtain ⟨rfl, rfl, rfl⟩ := trodAll_nil r0
  obtain rfl : args = #[v0] := by cases args; simp_all
  obtain ⟨rfl, rfl⟩ := trodVars_none hV
  have k0 := h0
  have lt0 : ∀ x ∈ p0, x.block < W.heap.size := by obtain ⟨m, hm⟩ := k0; exact DataW.trod_lt m _ _ _ hm
  obtain ⟨a0, len0, cap0, z0, rfl, w0⟩ := val_bytes (hval 0 _ v0 rfl rfl) k0
  clear hA0 hval0
  refine (walk a0 len0 cap0 z0 W w0).mono fun e W' ⟨he, bel⟩ => ?_
  subst he
  exact ⟨_, rfl, _, _, _, [], _, [], hW', trodAll_mk1 (shut_bool Try.underlying4 _), (trodAll_cons_mk (Below.trod laidOut (by kernel_rfl) (of_decide_eq_true (by kernel_rfl)) k0 bel lt0) trodAll_mk0), rfl, Below.frame bel _, fun h => by cases h⟩

theorem over : Rows.fnTtlRow.holds Try.pinned (OpenSpec.ofChange Rows.fnTtlSpec) :=
  OpenClaim.holds_of_wide 10 Try.f10 rfl rfl rfl rfl rfl rfl rfl ⟨rfl, rfl, rfl, rfl, rfl⟩ rfl rfl rfl rfl rfl (by kernel_rfl) Try.func10 (by kernel_rfl)
    (of_decide_eq_true (by kernel_rfl)) (by unfold Func.isWrapper; first | (rw [if_pos (by decide +kernel)]; kernel_rfl) | (rw [if_neg (by decide +kernel)]; exact ⟨rfl, rfl⟩))
    (fun os started H enc _ => lifted os started H enc)

theorem proved : Rows.FnTtlSaid := over
#print axioms proved
end Go.Proofs.Ytnpnkkjdnmgbkaa.fnTtl
