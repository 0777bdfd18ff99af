/-
  FnBitNoticedSaid: a frame with a flipped bit is not accepted. No condition.
-/
import Derived.Test.YtnpnkkjdnmgbkaaRows
import Derived.Test.YtnpnkkjdnmgbkaaOpen
import Derived.Test.YtnpnkkjdnmgbkaaRow
import Derived.Test.Ytnpnkkjdnmgbkaa2A
import Derived.Test.Ytnpnkkjdnmgbkaa23
import Derived.Test.Ytnpnkkjdnmgbkaa30
import Derived.Deep.Cut
import Derived.ChangeOld
import Derived.OpenShut
namespace Go.Proofs.Ytnpnkkjdnmgbkaa.fnBitNoticed
open Go.ChangeShapes Go.WideShapes Go.ChangeAt Go.RowKit
set_option linter.unusedVariables false

set_option maxHeartbeats 1000000 in
theorem walk (a0 : Option Addr) (len0 cap0 : Nat) (z0 : List Int) (w : World) (w0 : IsRow w a0 len0 cap0 z0) :
    Calls Try.prog 12 #[.slice a0 len0 cap0] w fun e w' => e = .returned (.bool true) ∧ Bel w w' := by
  by_cases hbig : (len0 : Int) ≤ 1048576
  · have hsm : len0 ≤ 1048576 := by omega
    go_enter Try.func12, Try.ntmps12
    go_wp2_with (go_at_call 13; go_in)
    refine (c_DrawPacket w a0 len0 cap0 z0 w w0 hsm (Bel.refl w)).mono ?_
    rintro e w1 ⟨dm, sm, vl, tos, id, ttl, si, di, kind, sp, dp, sq, ak, fl, wn, body, hsup, hlen, rfl, h1⟩
    obtain ⟨x0, hx0, hl0⟩ : ∃ x : Nat, atV len0 z0 0 = (x : Int) ∧ x ≤ 255 := by have := atV_range w0 0; exact ⟨(atV len0 z0 0).toNat, by omega, by omega⟩
    have A0 := Lib.hid hx0
    clear hx0
    obtain ⟨x1, hx1, hl1⟩ : ∃ x : Nat, atV len0 z0 1 = (x : Int) ∧ x ≤ 255 := by have := atV_range w0 1; exact ⟨(atV len0 z0 1).toNat, by omega, by omega⟩
    have A1 := Lib.hid hx1
    clear hx1
    have hok : P.packetOk dm sm vl tos id ttl si di kind sp dp sq ak fl wn body.size = true := by rw [P.packetOk_of hsup]; exact decide_eq_true (by omega)
    have hbs : body.size ≤ 1073741824 := by omega
    have hz := P.frame_size_le dm sm vl tos id ttl si di kind sp dp sq ak fl wn body hok
    obtain ⟨f1, f2, _, _, _⟩ := P.frame_round dm sm vl tos id ttl si di kind sp dp sq ak fl wn body hok
    have hpos : 0 < (P.frame dm sm vl tos id ttl si di kind sp dp sq ak fl wn body).size := by rw [f1, P.withFcs_size]; omega
    obtain ⟨F, hF⟩ : ∃ F, P.frame dm sm vl tos id ttl si di kind sp dp sq ak fl wn body = F := ⟨_, rfl⟩
    rw [hF] at hz f2 hpos
    have hbad := P.fcs_bend F f2 (x0 * 256 + x1)
    have hzu := (P.bend_facts F (x0 * 256 + x1) hpos).1
    obtain ⟨U, hU⟩ : ∃ U, P.bend F (x0 * 256 + x1) = U := ⟨_, rfl⟩
    rw [hU] at hbad hzu
    have hzu2 : U.size ≤ 1073741824 := by omega
    have CB := Lib.hid (show ∀ w, Calls Try.prog 49 #[.agg #[.int .i64 dm, .int .i64 sm, .int .i64 vl, .int .i64 tos, .int .i64 id, .int .i64 ttl, .int .i64 si, .int .i64 di, .int .i64 kind, .int .i64 sp, .int .i64 dp, .int .i64 sq, .int .i64 ak, .int .i64 fl, .int .i64 wn, .string body]] w (fun e w' => e = .returned (.tuple #[.string F, .bool true]) ∧ Bel w w') from c_bf_ok dm sm vl tos id ttl si di kind sp dp sq ak fl wn body hbs hok F hF)
    have CT := Lib.hid (show ∀ w, Calls Try.prog 17 #[.string F, .int .i64 ((x0 : Int) * 256 + x1)] w (fun e w' => e = .returned (.string U) ∧ Bel w w') from c_bendI F U (by omega) _ (x0 * 256 + x1) (by omega) hU (by omega))
    have CR := Lib.hid (show ∀ w, Calls Try.prog 50 #[.string U] w (fun e w' => e = .returned (.tuple #[.agg #[.int .i64 0, .int .i64 0, .int .i64 0, .int .i64 0, .int .i64 0, .int .i64 0, .int .i64 0, .int .i64 0, .int .i64 0, .int .i64 0, .int .i64 0, .int .i64 0, .int .i64 0, .int .i64 0, .int .i64 0, .string (P.bs [])], .int .i64 1]) ∧ Bel w w') from c_rf_bad U hzu2 hbad)
    have CG := Lib.hid (show ∀ w, Calls Try.prog 50 #[.string F] w (fun e w' => e = .returned (.tuple #[.agg #[.int .i64 dm, .int .i64 sm, .int .i64 vl, .int .i64 tos, .int .i64 id, .int .i64 ttl, .int .i64 si, .int .i64 di, .int .i64 kind, .int .i64 sp, .int .i64 dp, .int .i64 sq, .int .i64 ak, .int .i64 fl, .int .i64 wn, .string body], .int .i64 0]) ∧ Bel w w') from c_rf_ok dm sm vl tos id ttl si di kind sp dp sq ak fl wn body hok F hF)
    clear hsup hlen hok hz f1 f2 hpos hbad hzu hzu2 hF hU hbs
    have P1 := boxAt_alloc (n := 0) (w := w1) (Nat.zero_le _) #[.int .i64 dm, .int .i64 sm, .int .i64 vl, .int .i64 tos, .int .i64 id, .int .i64 ttl, .int .i64 si, .int .i64 di, .int .i64 kind, .int .i64 sp, .int .i64 dp, .int .i64 sq, .int .i64 ak, .int .i64 fl, .int .i64 wn, .string body] 55
    have PP : BoxAt 0 [.int .i64 dm, .int .i64 sm, .int .i64 vl, .int .i64 tos, .int .i64 id, .int .i64 ttl, .int .i64 si, .int .i64 di, .int .i64 kind, .int .i64 sp, .int .i64 dp, .int .i64 sq, .int .i64 ak, .int .i64 fl, .int .i64 wn, .string body] w1.heap.size (w1.alloc (.cells #[.int .i64 dm, .int .i64 sm, .int .i64 vl, .int .i64 tos, .int .i64 id, .int .i64 ttl, .int .i64 si, .int .i64 di, .int .i64 kind, .int .i64 sp, .int .i64 dp, .int .i64 sq, .int .i64 ak, .int .i64 fl, .int .i64 wn, .string body] 55)) := boxAt_alloc (Nat.zero_le _) _ _
    go_wp2_with (refine wpList_load_box rfl 55 _ rfl PP rfl Try.underlying55 rfl (by kernel_rfl) ?_)
    refine (CB.out _).mono ?_
    rintro e w2 ⟨rfl, h2⟩
    have P2 := BoxAt.bel P1 h2
    clear P1
    clear PP
    go_wp2_with fail
    generalize Value.agg #[.int .i64 dm, .int .i64 sm, .int .i64 vl, .int .i64 tos, .int .i64 id, .int .i64 ttl, .int .i64 si, .int .i64 di, .int .i64 kind, .int .i64 sp, .int .i64 dp, .int .i64 sq, .int .i64 ak, .int .i64 fl, .int .i64 wn, .string body] = pv
    refine (c_atII w a0 len0 cap0 z0 _ _ _ ⟨0, rfl, by decide, A0.out⟩ w0 hsm (by repeat (first | with_reducible assumption | with_reducible exact Bel.refl _ | with_reducible refine Bel.alloc ?_ _ | with_reducible refine Bel.drew ?_ | with_reducible refine Bel.drewN ?_ _ | with_reducible refine Bel.setCell ?_ ?_ _ | with_reducible exact Nat.le_refl _ | (dsimp only; omega) | (refine Bel.trans ?_ (by with_reducible assumption))))).mono ?_
    rintro e w3 ⟨rfl, h3⟩
    have P3 := BoxAt.bel P2 h3
    clear P2
    go_wp2_with fail
    refine (c_atII w a0 len0 cap0 z0 _ _ _ ⟨1, rfl, by decide, A1.out⟩ w0 hsm (by repeat (first | with_reducible assumption | with_reducible exact Bel.refl _ | with_reducible refine Bel.alloc ?_ _ | with_reducible refine Bel.drew ?_ | with_reducible refine Bel.drewN ?_ _ | with_reducible refine Bel.setCell ?_ ?_ _ | with_reducible exact Nat.le_refl _ | (dsimp only; omega) | (refine Bel.trans ?_ (by with_reducible assumption))))).mono ?_
    rintro e w4 ⟨rfl, h4⟩
    have P4 := BoxAt.bel P3 h4
    clear P3
    go_wp2_with fail
    refine (CT.out _).mono ?_
    rintro e w5 ⟨rfl, h5⟩
    have P5 := BoxAt.bel P4 h5
    clear P4
    go_wp2_with fail
    refine (CR.out _).mono ?_
    rintro e w6 ⟨rfl, h6⟩
    have P6 := BoxAt.bel P5 h6
    clear P5
    have Q6 := boxAt_alloc (n := 0) (w := w6) (Nat.zero_le _) #[.int .i64 0, .int .i64 0, .int .i64 0, .int .i64 0, .int .i64 0, .int .i64 0, .int .i64 0, .int .i64 0, .int .i64 0, .int .i64 0, .int .i64 0, .int .i64 0, .int .i64 0, .int .i64 0, .int .i64 0, .string (P.bs [])] 55
    go_wp2_with fail
    generalize Value.agg #[.int .i64 0, .int .i64 0, .int .i64 0, .int .i64 0, .int .i64 0, .int .i64 0, .int .i64 0, .int .i64 0, .int .i64 0, .int .i64 0, .int .i64 0, .int .i64 0, .int .i64 0, .int .i64 0, .int .i64 0, .string (P.bs [])] = pz
    refine (CG.out _).mono ?_
    rintro e w7 ⟨rfl, h7⟩
    have P7 := BoxAt.bel (BoxAt.alloc P6 _) h7
    have Q7 := BoxAt.bel Q6 h7
    clear P6 Q6
    go_upto_region 7 with fail
    generalize Value.agg #[.int .i64 dm, .int .i64 sm, .int .i64 vl, .int .i64 tos, .int .i64 id, .int .i64 ttl, .int .i64 si, .int .i64 di, .int .i64 kind, .int .i64 sp, .int .i64 dp, .int .i64 sq, .int .i64 ak, .int .i64 fl, .int .i64 wn, .string body] = pv2
    have R8 : BoxAt 0 [.int .i64 dm, .int .i64 sm, .int .i64 vl, .int .i64 tos, .int .i64 id, .int .i64 ttl, .int .i64 si, .int .i64 di, .int .i64 kind, .int .i64 sp, .int .i64 dp, .int .i64 sq, .int .i64 ak, .int .i64 fl, .int .i64 wn, .string body] w7.heap.size (w7.alloc (.cells #[.int .i64 dm, .int .i64 sm, .int .i64 vl, .int .i64 tos, .int .i64 id, .int .i64 ttl, .int .i64 si, .int .i64 di, .int .i64 kind, .int .i64 sp, .int .i64 dp, .int .i64 sq, .int .i64 ak, .int .i64 fl, .int .i64 wn, .string body] 55)) := boxAt_alloc (Nat.zero_le _) _ _
    have P8 := BoxAt.alloc P7 (.cells #[.int .i64 dm, .int .i64 sm, .int .i64 vl, .int .i64 tos, .int .i64 id, .int .i64 ttl, .int .i64 si, .int .i64 di, .int .i64 kind, .int .i64 sp, .int .i64 dp, .int .i64 sq, .int .i64 ak, .int .i64 fl, .int .i64 wn, .string body] 55)
    have h8 : Bel w (w7.alloc (.cells #[.int .i64 dm, .int .i64 sm, .int .i64 vl, .int .i64 tos, .int .i64 id, .int .i64 ttl, .int .i64 si, .int .i64 di, .int .i64 kind, .int .i64 sp, .int .i64 dp, .int .i64 sq, .int .i64 ak, .int .i64 fl, .int .i64 wn, .string body] 55)) := (by repeat (first | with_reducible assumption | with_reducible exact Bel.refl _ | with_reducible refine Bel.alloc ?_ _ | with_reducible refine Bel.drew ?_ | with_reducible refine Bel.drewN ?_ _ | with_reducible refine Bel.setCell ?_ ?_ _ | with_reducible exact Nat.le_refl _ | (dsimp only; omega) | (refine Bel.trans ?_ (by with_reducible assumption))))
    generalize w7.alloc (.cells #[.int .i64 dm, .int .i64 sm, .int .i64 vl, .int .i64 tos, .int .i64 id, .int .i64 ttl, .int .i64 si, .int .i64 di, .int .i64 kind, .int .i64 sp, .int .i64 dp, .int .i64 sq, .int .i64 ak, .int .i64 fl, .int .i64 wn, .string body] 55) = w8 at R8 P8 h8 ⊢
    clear P7 Q7 CB CT CR CG A0 A1 hl0 hl1 h1 h2 h3 h4 h5 h6 h7 w0
    generalize w1.heap.size = bp at P8 ⊢
    generalize w7.heap.size = br at R8 ⊢
    generalize w6.heap.size = bq
    have HE := eq16 dm sm vl tos id ttl si di kind sp dp sq ak fl wn body w8
    go_wp2_with (first | (refine wpList_load_box rfl 55 _ rfl R8 rfl Try.underlying55 rfl (by kernel_rfl) ?_) | (refine wpList_load_box rfl 55 _ rfl P8 rfl Try.underlying55 rfl (by kernel_rfl) ?_))
    go_ret
    exact ⟨rfl, h8⟩
  · have hbig2 : len0 ≤ 9223372036854775807 := w0.small
    go_enter Try.func12, Try.ntmps12
    go_wp2_with (go_at_call 13; go_in)
    go_ret
    exact ⟨rfl, Bel.refl _⟩
theorem own : ownKnob Try.prog.godebug = none := by kernel_rfl
theorem laidOut : laidOutB Try.prog = true := by kernel_rfl

set_option maxRecDepth 100000 in
theorem lifted (os : Os) (started : os.Started) (H : Type) (enc : TypeId × Value → H) :
    ReturnsInHanded {} Try.checked os 12 .any (Rows.fnBitNoticedSpec.pre6 enc Try.prog Try.f12 Rows.fnBitNoticedRow.domain false) (Rows.fnBitNoticedSpec.post enc Try.prog Try.f12 false true false false) := by
  refine returnsInHanded_of_change (C := Try.checked) own started (by kernel_rfl) Try.func12
    (ChangeSpec.witness6 (enc := enc) (C := Try.checked) false ⟨#[], #[.slice none 0 0], []⟩ 8 (by kernel_rfl) (by kernel_rfl) (by kernel_rfl) (by kernel_rfl)) ?_
  intro W base args ds gs before hval0 hW hcnd _
  have hval : ∀ (j : Nat) t v, Try.f12.params[j]? = some t → args[j]? = some v → Value.okWide Try.prog W .any base t v := hval0
  have hW' := hW
  obtain ⟨p, q, hA0, hV, rfl, hfz, hnd⟩ := hW
  have hA : DataW.TrodAll enc Try.prog W 0 (fun _ => true) true Try.f12.params.toList args.toList ds p := hA0
  rw [Try.params12] at hA hval
  obtain ⟨v0, vs0, d0, ds0, p0, q0, hargs, rfl, rfl, h0, r0⟩ := trodAll_cons hA
  obtain ⟨rfl, rfl, rfl⟩ := trodAll_nil r0
  obtain rfl : args = #[v0] := by cases args; simp_all
  obtain ⟨rfl, rfl⟩ := trodVars_none hV
  have k0 := h0
  have lt0 : ∀ x ∈ p0, x.block < W.heap.size := by obtain ⟨m, hm⟩ := k0; exact DataW.trod_lt m _ _ _ hm
  obtain ⟨a0, len0, cap0, z0, rfl, w0⟩ := val_bytes (hval 0 _ v0 rfl rfl) k0
  clear hA0 hval0
  refine (walk a0 len0 cap0 z0 W w0).mono fun e W' ⟨he, bel⟩ => ?_
  subst he
  exact ⟨_, rfl, _, _, _, [], _, [], hW', trodAll_mk1 (shut_bool Try.underlying4 _), (trodAll_cons_mk (Below.trod laidOut (by kernel_rfl) (of_decide_eq_true (by kernel_rfl)) k0 bel lt0) trodAll_mk0), rfl, Below.frame bel _, fun h => by cases h⟩

theorem over : Rows.fnBitNoticedRow.holds Try.pinned (OpenSpec.ofChange Rows.fnBitNoticedSpec) :=
  OpenClaim.holds_of_wide 12 Try.f12 rfl rfl rfl rfl rfl rfl rfl ⟨rfl, rfl, rfl, rfl, rfl⟩ rfl rfl rfl rfl rfl (by kernel_rfl) Try.func12 (by kernel_rfl)
    (of_decide_eq_true (by kernel_rfl)) (by unfold Func.isWrapper; first | (rw [if_pos (by decide +kernel)]; kernel_rfl) | (rw [if_neg (by decide +kernel)]; exact ⟨rfl, rfl⟩))
    (fun os started H enc _ => lifted os started H enc)

theorem proved : Rows.FnBitNoticedSaid := over
#print axioms proved
end Go.Proofs.Ytnpnkkjdnmgbkaa.fnBitNoticed
