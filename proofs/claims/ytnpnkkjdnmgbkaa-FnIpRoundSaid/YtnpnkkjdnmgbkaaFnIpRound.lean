/-
  FnIpRoundSaid: a datagram can be parsed from its bytes, whatever follows, and its header sums to 65535. No condition.
-/
import Derived.Test.YtnpnkkjdnmgbkaaRows
import Derived.Test.YtnpnkkjdnmgbkaaOpen
import Derived.Test.YtnpnkkjdnmgbkaaRow
import Derived.Test.Ytnpnkkjdnmgbkaa26
import Derived.Test.Ytnpnkkjdnmgbkaa10i
import Derived.Test.YtnpnkkjdnmgbkaaPureB
import Derived.ChangeOld
import Derived.OpenShut
namespace Go.Proofs.Ytnpnkkjdnmgbkaa.fnIpRound
open Go.ChangeShapes Go.WideShapes Go.ChangeAt Go.RowKit
set_option linter.unusedVariables false

set_option maxHeartbeats 1000000 in
theorem walk (a0 : Option Addr) (len0 cap0 : Nat) (z0 : List Int) (w : World) (w0 : IsRow w a0 len0 cap0 z0) :
    Calls Try.prog 8 #[.slice a0 len0 cap0] w fun e w' => e = .returned (.bool true) ∧ Bel w w' := by
  by_cases hbig : (len0 : Int) ≤ 1048576
  · have hsm : len0 ≤ 1048576 := by omega
    go_enter Try.func8, Try.ntmps8
    go_wp2_with (go_at_call 13; go_in)
    refine (c_DrawIp w a0 len0 cap0 z0 w w0 hsm (Bel.refl w)).mono ?_
    rintro e w1 ⟨tos, id, ttl, pr, si, di, body, hok, rfl, h1⟩
    obtain ⟨p1, p2, p3, p4, p5, p6, p7, p8⟩ := P.ip_round tos id ttl pr si di body hok ⟨#[116, 97, 105, 108]⟩
    have hbs : body.size ≤ 380 := by have := of_decide_eq_true hok; omega
    have hS : P.buildIp tos id ttl pr si di body = P.ipHead tos id ttl pr si di body.size ++ body := by unfold P.buildIp; rw [if_pos hok]
    have hz := (P.ipHead_read tos id ttl pr si di body.size hok).1
    have hsum := P.ip_sum tos id ttl pr si di body.size hok
    rw [hS] at p1 p2 p3 p4 p5 p6 p7 p8
    obtain ⟨H, hH⟩ : ∃ H, P.ipHead tos id ttl pr si di body.size = H := ⟨_, rfl⟩
    rw [hH] at hS p1 p2 p3 p4 p5 p6 p7 p8 hz hsum
    have hs1 : (H ++ body ++ ⟨#[116, 97, 105, 108]⟩).size ≤ 1073741824 := by rw [ByteArray.size_append, ByteArray.size_append, hz, show (ByteArray.mk #[116, 97, 105, 108]).size = 4 from rfl]; omega
    have CB := Lib.hid (show ∀ w, Calls Try.prog 37 #[.agg #[.int .i64 tos, .int .i64 id, .int .i64 ttl, .int .i64 pr, .int .i64 si, .int .i64 di, .string body]] w (fun e w' => e = .returned (.tuple #[.string (H ++ body), .bool true]) ∧ Bel w w') from fun w => (c_impl_BuildIp tos id ttl pr si di body (by omega) w).mono fun e w' ⟨he, hb⟩ => ⟨by rw [he]; simp only [hS, hok], hb⟩)
    have CH := Lib.hid (show ∀ w, Calls Try.prog 38 #[.agg #[.int .i64 tos, .int .i64 id, .int .i64 ttl, .int .i64 pr, .int .i64 si, .int .i64 di, .string body]] w (fun e w' => e = .returned (.tuple #[.string H, .bool true]) ∧ Bel w w') from fun w => (c_impl_IpHeader tos id ttl pr si di body (by omega) w).mono fun e w' ⟨he, hb⟩ => ⟨by rw [he]; simp only [hH, hok], hb⟩)
    have CP := Lib.hid (show ∀ w, Calls Try.prog 39 #[.string (H ++ body ++ ⟨#[116, 97, 105, 108]⟩)] w (fun e w' => e = .returned (.tuple #[.agg #[.int .i64 tos, .int .i64 id, .int .i64 ttl, .int .i64 pr, .int .i64 si, .int .i64 di, .string body], .bool true]) ∧ Bel w w') from fun w => (c_impl_ParseIp _ hs1 w).mono fun e w' ⟨he, hb⟩ => ⟨by rw [he]; simp only [p1, p2, p3, p4, p5, p6, p7, p8], hb⟩)
    have CW := Lib.hid (show ∀ w, Calls Try.prog 22 #[.string H] w (fun e w' => e = .returned (.int .i64 65535) ∧ Bel w w') from fun w => (c_impl_SumWords H (by omega) w).mono fun e w' ⟨he, hb⟩ => ⟨by rw [he, hsum], hb ▸ Bel.refl w⟩)
    clear p1 p2 p3 p4 p5 p6 p7 p8 hS hH hs1 hok hsum
    have D1 := boxAt_alloc (n := 0) (w := w1) (Nat.zero_le _) #[.int .i64 tos, .int .i64 id, .int .i64 ttl, .int .i64 pr, .int .i64 si, .int .i64 di, .string body] 47
    go_wp2_with fail
    refine (CB.out _).mono ?_
    rintro e w2 ⟨rfl, h2⟩
    have D2 := BoxAt.bel D1 h2
    clear D1
    have D2x0 := D2.cell 0
    have D2x1 := D2.cell 1
    have D2x2 := D2.cell 2
    have D2x3 := D2.cell 3
    have D2x4 := D2.cell 4
    have D2x5 := D2.cell 5
    have D2x6 := D2.cell 6
    have hfD2x := D2.frozen
    have hzD2x := D2.old
    simp at D2x0 D2x1 D2x2 D2x3 D2x4 D2x5 D2x6
    go_wp2_with fail
    refine (CH.out _).mono ?_
    rintro e w3 ⟨rfl, h3⟩
    clear D2x0 D2x1 D2x2 D2x3 D2x4 D2x5 D2x6 hfD2x hzD2x
    have D3 := BoxAt.bel D2 h3
    clear D2
    have D3x0 := D3.cell 0
    have D3x1 := D3.cell 1
    have D3x2 := D3.cell 2
    have D3x3 := D3.cell 3
    have D3x4 := D3.cell 4
    have D3x5 := D3.cell 5
    have D3x6 := D3.cell 6
    have hfD3x := D3.frozen
    have hzD3x := D3.old
    simp at D3x0 D3x1 D3x2 D3x3 D3x4 D3x5 D3x6
    go_wp2_with fail
    refine (CP.out _).mono ?_
    rintro e w4 ⟨rfl, h4⟩
    clear D3x0 D3x1 D3x2 D3x3 D3x4 D3x5 D3x6 hfD3x hzD3x
    have D4 := BoxAt.bel D3 h4
    clear D3
    have D4x0 := D4.cell 0
    have D4x1 := D4.cell 1
    have D4x2 := D4.cell 2
    have D4x3 := D4.cell 3
    have D4x4 := D4.cell 4
    have D4x5 := D4.cell 5
    have D4x6 := D4.cell 6
    have hfD4x := D4.frozen
    have hzD4x := D4.old
    simp at D4x0 D4x1 D4x2 D4x3 D4x4 D4x5 D4x6
    have E4 := boxAt_alloc (n := 0) (w := w4) (Nat.zero_le _) #[.int .i64 tos, .int .i64 id, .int .i64 ttl, .int .i64 pr, .int .i64 si, .int .i64 di, .string body] 47
    go_wp2_with fail
    refine (CW.out _).mono ?_
    rintro e w5 ⟨rfl, h5⟩
    clear D4x0 D4x1 D4x2 D4x3 D4x4 D4x5 D4x6 hfD4x hzD4x
    have D5 := BoxAt.bel (BoxAt.alloc D4 _) h5
    have E5 := BoxAt.bel E4 h5
    clear D4 E4
    have D5x0 := D5.cell 0
    have D5x1 := D5.cell 1
    have D5x2 := D5.cell 2
    have D5x3 := D5.cell 3
    have D5x4 := D5.cell 4
    have D5x5 := D5.cell 5
    have D5x6 := D5.cell 6
    have hfD5x := D5.frozen
    have hzD5x := D5.old
    simp at D5x0 D5x1 D5x2 D5x3 D5x4 D5x5 D5x6
    have E5x0 := E5.cell 0
    have E5x1 := E5.cell 1
    have E5x2 := E5.cell 2
    have E5x3 := E5.cell 3
    have E5x4 := E5.cell 4
    have E5x5 := E5.cell 5
    have E5x6 := E5.cell 6
    have hfE5x := E5.frozen
    have hzE5x := E5.old
    simp at E5x0 E5x1 E5x2 E5x3 E5x4 E5x5 E5x6
    go_wp2
    go_ret
    exact ⟨rfl, (by repeat (first | with_reducible assumption | with_reducible exact Bel.refl _ | with_reducible refine Bel.alloc ?_ _ | with_reducible refine Bel.drew ?_ | with_reducible refine Bel.drewN ?_ _ | with_reducible refine Bel.setCell ?_ ?_ _ | with_reducible exact Nat.le_refl _ | (dsimp only; omega) | (refine Bel.trans ?_ (by with_reducible assumption))))⟩
  · have hbig2 : len0 ≤ 9223372036854775807 := w0.small
    go_enter Try.func8, Try.ntmps8
    go_wp2_with (go_at_call 13; go_in)
    go_ret
    exact ⟨rfl, Bel.refl _⟩
theorem own : ownKnob Try.prog.godebug = none := by kernel_rfl
theorem laidOut : laidOutB Try.prog = true := by kernel_rfl

set_option maxRecDepth 100000 in
theorem lifted (os : Os) (started : os.Started) (H : Type) (enc : TypeId × Value → H) :
    ReturnsInHanded {} Try.checked os 8 .any (Rows.fnIpRoundSpec.pre6 enc Try.prog Try.f8 Rows.fnIpRoundRow.domain false) (Rows.fnIpRoundSpec.post enc Try.prog Try.f8 false true false false) := by
  refine returnsInHanded_of_change (C := Try.checked) own started (by kernel_rfl) Try.func8
    (ChangeSpec.witness6 (enc := enc) (C := Try.checked) false ⟨#[], #[.slice none 0 0], []⟩ 8 (by kernel_rfl) (by kernel_rfl) (by kernel_rfl) (by kernel_rfl)) ?_
  intro W base args ds gs before hval0 hW hcnd _
  have hval : ∀ (j : Nat) t v, Try.f8.params[j]? = some t → args[j]? = some v → Value.okWide Try.prog W .any base t v := hval0
  have hW' := hW
  obtain ⟨p, q, hA0, hV, rfl, hfz, hnd⟩ := hW
  have hA : DataW.TrodAll enc Try.prog W 0 (fun _ => true) true Try.f8.params.toList args.toList ds p := hA0
  rw [Try.params8] at hA hval
  obtain ⟨v0, vs0, d0, ds0, p0, q0, hargs, rfl, rfl, h0, r0⟩ := trodAll_cons hA
  obtain ⟨rfl, rfl, rfl⟩ := trodAll_nil r0
  obtain rfl : args = #[v0] := by cases args; simp_all
  obtain ⟨rfl, rfl⟩ := trodVars_none hV
  have k0 := h0
  have lt0 : ∀ x ∈ p0, x.block < W.heap.size := by obtain ⟨m, hm⟩ := k0; exact DataW.trod_lt m _ _ _ hm
  obtain ⟨a0, len0, cap0, z0, rfl, w0⟩ := val_bytes (hval 0 _ v0 rfl rfl) k0
  clear hA0 hval0
  refine (walk a0 len0 cap0 z0 W w0).mono fun e W' ⟨he, bel⟩ => ?_
  subst he
  exact ⟨_, rfl, _, _, _, [], _, [], hW', trodAll_mk1 (shut_bool Try.underlying4 _), (trodAll_cons_mk (Below.trod laidOut (by kernel_rfl) (of_decide_eq_true (by kernel_rfl)) k0 bel lt0) trodAll_mk0), rfl, Below.frame bel _, fun h => by cases h⟩

theorem over : Rows.fnIpRoundRow.holds Try.pinned (OpenSpec.ofChange Rows.fnIpRoundSpec) :=
  OpenClaim.holds_of_wide 8 Try.f8 rfl rfl rfl rfl rfl rfl rfl ⟨rfl, rfl, rfl, rfl, rfl⟩ rfl rfl rfl rfl rfl (by kernel_rfl) Try.func8 (by kernel_rfl)
    (of_decide_eq_true (by kernel_rfl)) (by unfold Func.isWrapper; first | (rw [if_pos (by decide +kernel)]; kernel_rfl) | (rw [if_neg (by decide +kernel)]; exact ⟨rfl, rfl⟩))
    (fun os started H enc _ => lifted os started H enc)

theorem proved : Rows.FnIpRoundSaid := over
#print axioms proved
end Go.Proofs.Ytnpnkkjdnmgbkaa.fnIpRound
