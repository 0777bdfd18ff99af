/-
  FnSegmentRoundSaid: a segment can be parsed from its bytes with its addresses only if no bit of it was flipped. No condition.
-/
import Derived.Test.YtnpnkkjdnmgbkaaRows
import Derived.Test.YtnpnkkjdnmgbkaaOpen
import Derived.Test.YtnpnkkjdnmgbkaaRow
import Derived.Test.Ytnpnkkjdnmgbkaa2A
import Derived.Test.Ytnpnkkjdnmgbkaa23
import Derived.Test.Ytnpnkkjdnmgbkaa05
import Derived.Test.Ytnpnkkjdnmgbkaa32
import Derived.Test.Ytnpnkkjdnmgbkaa30
import Derived.Test.YtnpnkkjdnmgbkaaOwn
import Derived.Test.Ytnpnkkjdnmgbkaa34
import Derived.Deep.Cut
import Derived.ChangeOld
import Derived.OpenShut
namespace Go.Proofs.Ytnpnkkjdnmgbkaa.fnSegmentRound
open Go.ChangeShapes Go.WideShapes Go.ChangeAt Go.RowKit
set_option linter.unusedVariables false

set_option maxHeartbeats 1000000 in
theorem walk (a0 : Option Addr) (len0 cap0 : Nat) (z0 : List Int) (w : World) (w0 : IsRow w a0 len0 cap0 z0) :
    Calls Try.prog 9 #[.slice a0 len0 cap0] w fun e w' => e = .returned (.bool true) ∧ Bel w w' := by
  by_cases hbig : (len0 : Int) ≤ 1048576
  · have hsm : len0 ≤ 1048576 := by omega
    go_enter Try.func9, Try.ntmps9
    go_wp2_with (go_at_call 13; go_in)
    refine (c_DrawPacket w a0 len0 cap0 z0 w w0 hsm (Bel.refl w)).mono ?_
    rintro e w1 ⟨dm, sm, vl, tos, id, ttl, si, di, kind, sp, dp, sq, ak, fl, wn, body, hsup, hlen, rfl, h1⟩
    obtain ⟨x0, hx0, hl0⟩ : ∃ x : Nat, atV len0 z0 0 = (x : Int) ∧ x ≤ 255 := by have := atV_range w0 0; exact ⟨(atV len0 z0 0).toNat, by omega, by omega⟩
    have A0 := Lib.hid hx0
    clear hx0
    obtain ⟨x1, hx1, hl1⟩ : ∃ x : Nat, atV len0 z0 1 = (x : Int) ∧ x ≤ 255 := by have := atV_range w0 1; exact ⟨(atV len0 z0 1).toNat, by omega, by omega⟩
    have A1 := Lib.hid hx1
    clear hx1
    have hbo := (P.super_parts hsup).1
    have hbs : body.size ≤ 1073741824 := by omega
    have hsr : 0 ≤ si ∧ si ≤ 4294967295 := by have := of_decide_eq_true (P.superOk_in hsup).1; omega
    obtain ⟨S, hS⟩ : ∃ S, P.buildSeg si di kind sp dp sq ak fl wn body = S := ⟨_, rfl⟩
    have hz := P.buildSeg_size_le si di kind sp dp sq ak fl wn body
    have hps := (P.seg_round si di kind sp dp sq ak fl wn body hbo).1
    rw [hS] at hz hps
    have hpos := P.psOk_pos _ _ _ _ hps
    have hbad := P.ps_bend si di kind S hps hpos (x0 * 256 + x1)
    have hzu := (P.bend_facts S (x0 * 256 + x1) hpos).1
    obtain ⟨U, hU⟩ : ∃ U, P.bend S (x0 * 256 + x1) = U := ⟨_, rfl⟩
    rw [hU] at hbad hzu
    have hx := P.xor_near si hsr
    obtain ⟨so, hso⟩ : ∃ so, bits .xor .i64 si 1 = so := ⟨_, rfl⟩
    rw [hso] at hx
    have hoth := P.ps_other si di kind S hps so hx.1 hx.2
    have hzS : S.size ≤ 1073741824 := by omega
    have hzU : U.size ≤ 1073741824 := by omega
    have hsg : P.segOk kind sp dp sq ak fl wn body.size = true := by unfold P.bsOk at hbo; simp only [Bool.and_eq_true] at hbo; exact hbo.1
    have CB := Lib.hid (show ∀ w, Calls Try.prog 41 #[.int .i64 si, .int .i64 di, .agg #[.int .i64 kind, .int .i64 sp, .int .i64 dp, .int .i64 sq, .int .i64 ak, .int .i64 fl, .int .i64 wn, .string body]] w (fun e w' => e = .returned (.tuple #[.string S, .bool true]) ∧ Bel w w') from c_bs_ok si di kind sp dp sq ak fl wn body hbs hbo S hS)
    have CP := Lib.hid (show ∀ w, Calls Try.prog 42 #[.int .i64 si, .int .i64 di, .int .i64 kind, .string S] w (fun e w' => e = .returned (.tuple #[.agg #[.int .i64 kind, .int .i64 sp, .int .i64 dp, .int .i64 sq, .int .i64 ak, .int .i64 fl, .int .i64 wn, .string body], .bool true]) ∧ Bel w w') from c_ps_ok si di kind sp dp sq ak fl wn body hbo S hS hzS)
    have CT := Lib.hid (show ∀ w, Calls Try.prog 17 #[.string S, .int .i64 ((x0 : Int) * 256 + x1)] w (fun e w' => e = .returned (.string U) ∧ Bel w w') from c_bendI S U hzS _ (x0 * 256 + x1) (by omega) hU (by omega))
    have CQ := Lib.hid (show ∀ w, Calls Try.prog 42 #[.int .i64 si, .int .i64 di, .int .i64 kind, .string U] w (fun e w' => e = .returned (.tuple #[.agg #[.int .i64 0, .int .i64 0, .int .i64 0, .int .i64 0, .int .i64 0, .int .i64 0, .int .i64 0, .string (P.bs [])], .bool false]) ∧ Bel w w') from c_ps_bad si di kind U hzU hbad)
    have CX := Lib.hid (show ∀ w, Calls Try.prog 42 #[.int .i64 so, .int .i64 di, .int .i64 kind, .string S] w (fun e w' => e = .returned (.tuple #[.agg #[.int .i64 0, .int .i64 0, .int .i64 0, .int .i64 0, .int .i64 0, .int .i64 0, .int .i64 0, .string (P.bs [])], .bool false]) ∧ Bel w w') from c_ps_bad so di kind S hzS hoth)
    have CO := Lib.hid (show ∀ w, Calls Try.prog 43 #[.agg #[.int .i64 kind, .int .i64 sp, .int .i64 dp, .int .i64 sq, .int .i64 ak, .int .i64 fl, .int .i64 wn, .string body]] w (fun e w' => e = .returned (.bool true) ∧ Bel w w') from fun w => (c_impl_SegmentOk kind sp dp sq ak fl wn body hbs w).mono fun e w' ⟨he, hb⟩ => ⟨by rw [he]; simp only [hsg], hb⟩)
    clear hsup hlen hbo hz hps hpos hbad hzu hx hoth hzS hzU hsg hS hU hbs
    have P1 := boxAt_alloc (n := 0) (w := w1) (Nat.zero_le _) #[.int .i64 dm, .int .i64 sm, .int .i64 vl, .int .i64 tos, .int .i64 id, .int .i64 ttl, .int .i64 si, .int .i64 di, .int .i64 kind, .int .i64 sp, .int .i64 dp, .int .i64 sq, .int .i64 ak, .int .i64 fl, .int .i64 wn, .string body] 55
    go_wp2_with fail
    refine (CB.out _).mono ?_
    rintro e w2 ⟨rfl, h2⟩
    have P2 := BoxAt.bel P1 h2
    clear P1
    have P2x0 := P2.cell 0
    have P2x1 := P2.cell 1
    have P2x2 := P2.cell 2
    have P2x3 := P2.cell 3
    have P2x4 := P2.cell 4
    have P2x5 := P2.cell 5
    have P2x6 := P2.cell 6
    have P2x7 := P2.cell 7
    have P2x8 := P2.cell 8
    have P2x9 := P2.cell 9
    have P2x10 := P2.cell 10
    have P2x11 := P2.cell 11
    have P2x12 := P2.cell 12
    have P2x13 := P2.cell 13
    have P2x14 := P2.cell 14
    have P2x15 := P2.cell 15
    have hfP2x := P2.frozen
    have hzP2x := P2.old
    simp at P2x0 P2x1 P2x2 P2x3 P2x4 P2x5 P2x6 P2x7 P2x8 P2x9 P2x10 P2x11 P2x12 P2x13 P2x14 P2x15
    go_wp2_with fail
    refine (CP.out _).mono ?_
    rintro e w3 ⟨rfl, h3⟩
    clear P2x0 P2x1 P2x2 P2x3 P2x4 P2x5 P2x6 P2x7 P2x8 P2x9 P2x10 P2x11 P2x12 P2x13 P2x14 P2x15 hfP2x hzP2x
    have P3 := BoxAt.bel P2 h3
    clear P2
    have G3 := boxAt_alloc (n := 0) (w := w3) (Nat.zero_le _) #[.int .i64 kind, .int .i64 sp, .int .i64 dp, .int .i64 sq, .int .i64 ak, .int .i64 fl, .int .i64 wn, .string body] 53
    go_wp2_with fail
    refine (c_atII w a0 len0 cap0 z0 _ _ _ ⟨0, rfl, by decide, A0.out⟩ w0 hsm (by repeat (first | with_reducible assumption | with_reducible exact Bel.refl _ | with_reducible refine Bel.alloc ?_ _ | with_reducible refine Bel.drew ?_ | with_reducible refine Bel.drewN ?_ _ | with_reducible refine Bel.setCell ?_ ?_ _ | with_reducible exact Nat.le_refl _ | (dsimp only; omega) | (refine Bel.trans ?_ (by with_reducible assumption))))).mono ?_
    rintro e w4 ⟨rfl, h4⟩
    have P4 := BoxAt.bel (BoxAt.alloc P3 _) h4
    have G4 := BoxAt.bel G3 h4
    clear P3 G3
    go_wp2_with fail
    refine (c_atII w a0 len0 cap0 z0 _ _ _ ⟨1, rfl, by decide, A1.out⟩ w0 hsm (by repeat (first | with_reducible assumption | with_reducible exact Bel.refl _ | with_reducible refine Bel.alloc ?_ _ | with_reducible refine Bel.drew ?_ | with_reducible refine Bel.drewN ?_ _ | with_reducible refine Bel.setCell ?_ ?_ _ | with_reducible exact Nat.le_refl _ | (dsimp only; omega) | (refine Bel.trans ?_ (by with_reducible assumption))))).mono ?_
    rintro e w5 ⟨rfl, h5⟩
    have P5 := BoxAt.bel P4 h5
    have G5 := BoxAt.bel G4 h5
    clear P4 G4
    go_upto_region 7 with fail
    generalize Value.agg #[.int .i64 dm, .int .i64 sm, .int .i64 vl, .int .i64 tos, .int .i64 id, .int .i64 ttl, .int .i64 si, .int .i64 di, .int .i64 kind, .int .i64 sp, .int .i64 dp, .int .i64 sq, .int .i64 ak, .int .i64 fl, .int .i64 wn, .string body] = pv
    have g5 : Bel w w5 := (by repeat (first | with_reducible assumption | with_reducible exact Bel.refl _ | with_reducible refine Bel.alloc ?_ _ | with_reducible refine Bel.drew ?_ | with_reducible refine Bel.drewN ?_ _ | with_reducible refine Bel.setCell ?_ ?_ _ | with_reducible exact Nat.le_refl _ | (dsimp only; omega) | (refine Bel.trans ?_ (by with_reducible assumption))))
    clear h1 h2 h3 h4 h5 w0 A0 A1 CB CP
    have c6 := P5.cell 6
    have c7 := P5.cell 7
    have c8 := P5.cell 8
    simp at c6 c7 c8
    generalize w1.heap.size = bp at P5 c6 c7 c8 ⊢
    generalize w3.heap.size = bg at G5 ⊢
    refine wp_region_drawN (R := Own w5.heap.size) (Own.refl _) Own.trans (fun _ _ => ⟨rfl, rfl, rfl, Nat.le_refl _, fun _ _ _ => rfl, fun _ c _ h => ⟨c, h, rfl⟩⟩) 16 [askV _ (.pointer (some ⟨bp, 6, none⟩)), askV _ (.int .i64 si), askV _ (.pointer (some ⟨bp, 7, none⟩)), askV _ (.int .i64 di), askV _ (.pointer (some ⟨bp, 8, none⟩)), askV _ (.pointer (some ⟨bp, 8, none⟩)), askV _ (.int .i64 kind), askV _ (.string S), askV _ (.int .i64 ((x0 : Int) * 256 + x1)), askV _ (.string U), askV _ (.tuple #[.agg #[.int .i64 0, .int .i64 0, .int .i64 0, .int .i64 0, .int .i64 0, .int .i64 0, .int .i64 0, .string (P.bs [])], .bool false]), askV _ (.tuple #[.agg #[.int .i64 0, .int .i64 0, .int .i64 0, .int .i64 0, .int .i64 0, .int .i64 0, .int .i64 0, .string (P.bs [])], .bool false]), askV _ (.agg #[.int .i64 0, .int .i64 0, .int .i64 0, .int .i64 0, .int .i64 0, .int .i64 0, .int .i64 0, .string (P.bs [])]), askV _ (.bool false), askBox _ 53 8, askNo _] (by kernel_rfl) (by kernel_rfl) (Nat.le_of_ble_eq_true (by kernel_rfl)) (by kernel_rfl) ?_ ?_
    · refine ⟨?_, ?_, ?_, ?_, ?_, ?_, ?_, ?_, ?_, ?_, ?_, ?_, ?_, ?_, ?_, ?hst, trivial⟩
      case hst =>
        intro β w' hR hrow
        simp [Region.binds, askV_holds, askBox_holds] at hrow
        obtain ⟨⟨b, e14, hb, c, hc, hs⟩, e12, -⟩ := hrow
        refine QN.store 53 (.tmp 9) (.tmp 57) rfl b #[.int .i64 0, .int .i64 0, .int .i64 0, .int .i64 0, .int .i64 0, .int .i64 0, .int .i64 0, .string (P.bs [])] ?_ ?_ 53 c hc (by kernel_rfl) hs (by simp [Value.oneCell']) (Own.setRow hb hc hs) (fun x hx => ?_)
        · simp [lastV, putL, List.range, List.range.loop, seen, dep, dstOf, Region.binds, e14]
        · simp [lastV, putL, List.range, List.range.loop, seen, dep, dstOf, Region.binds, e12]
        · obtain rfl := Option.some.inj hx
          trivial
      all_goals intro β w' hR hrow
      all_goals have hB := hR.bel
      all_goals have d6 := hB.at c6
      all_goals have d7 := hB.at c7
      all_goals have d8 := hB.at c8
      all_goals simp [Region.binds, askV_holds, askNo_holds] at hrow
      all_goals simp [QN, lastV, putL, List.range, List.range.loop, seen, dep, dstOf, go_sem, Region.binds, askV_holds, askBox_holds, d6, d7, d8, hrow]
      all_goals clear CX CO P5 G5 g5 hbig hsm hsr c6 c7 c8
      all_goals first | exact Own.refl _ _ | exact ⟨Own.refl _ _, rfl⟩ | exact (CT.out _).mono fun e w'' ⟨he, hb⟩ => ⟨he, Own.of hb⟩ | exact (CQ.out _).mono fun e w'' ⟨he, hb⟩ => ⟨he, Own.of hb⟩ | exact ⟨Own.of ((Bel.refl _).alloc _), hR.size, _, Option.some.inj ((Array.getElem?_eq_getElem _).symm.trans (heap_alloc_new _ _)), rfl⟩
    · intro β w6 hR hx
      have e0 : β 0 = .pointer (some ⟨bp, 6, none⟩) := hx 0 _ (by decide) rfl
      have e1 : β 1 = .int .i64 si := hx 1 _ (by decide) rfl
      have e2 : β 2 = .pointer (some ⟨bp, 7, none⟩) := hx 2 _ (by decide) rfl
      have e3 : β 3 = .int .i64 di := hx 3 _ (by decide) rfl
      have e4 : β 4 = .pointer (some ⟨bp, 8, none⟩) := hx 4 _ (by decide) rfl
      have e5 : β 5 = .pointer (some ⟨bp, 8, none⟩) := hx 5 _ (by decide) rfl
      have e6 : β 6 = .int .i64 kind := hx 6 _ (by decide) rfl
      have e7 : β 7 = .string S := hx 7 _ (by decide) rfl
      have e8 : β 8 = .int .i64 ((x0 : Int) * 256 + x1) := hx 8 _ (by decide) rfl
      have e9 : β 9 = .string U := hx 9 _ (by decide) rfl
      have e10 : β 10 = .tuple #[.agg #[.int .i64 0, .int .i64 0, .int .i64 0, .int .i64 0, .int .i64 0, .int .i64 0, .int .i64 0, .string (P.bs [])], .bool false] := hx 10 _ (by decide) rfl
      have e11 : β 11 = .tuple #[.agg #[.int .i64 0, .int .i64 0, .int .i64 0, .int .i64 0, .int .i64 0, .int .i64 0, .int .i64 0, .string (P.bs [])], .bool false] := hx 11 _ (by decide) rfl
      have e12 : β 12 = .agg #[.int .i64 0, .int .i64 0, .int .i64 0, .int .i64 0, .int .i64 0, .int .i64 0, .int .i64 0, .string (P.bs [])] := hx 12 _ (by decide) rfl
      have e13 : β 13 = .bool false := hx 13 _ (by decide) rfl
      obtain ⟨bm, cm, e14, -, -, -⟩ := hx 14 _ (by decide) rfl
      clear hx
      simp [lastV, putL, List.range, List.range.loop, e0, e1, e2, e3, e4, e5, e6, e7, e8, e9, e10, e11, e12, e13, e14]
      clear e0 e1 e2 e3 e4 e5 e6 e7 e8 e9 e10 e11 e12 e13 e14 β
      have h6 := hR.bel
      clear hR
      have P6 := BoxAt.bel P5 h6
      have G6 := BoxAt.bel G5 h6
      have g6 : Bel w w6 := g5.trans h6
      clear P5 G5 g5 h6 c6 c7 c8 CT CQ hl0 hl1 hsr
      have k6 := P6.cell 6
      have k7 := P6.cell 7
      have k8 := P6.cell 8
      simp at k6 k7 k8
      go_wp2_with fail
      refine (CX.out _).mono ?_
      rintro e w7 ⟨rfl, h7⟩
      clear k6 k7 k8 hso CX
      go_upto_region 9 with fail
      have P8 := BoxAt.alloc (BoxAt.bel P6 h7) (.cells #[.int .i64 0, .int .i64 0, .int .i64 0, .int .i64 0, .int .i64 0, .int .i64 0, .int .i64 0, .string (P.bs [])] 53)
      have G8 := BoxAt.alloc (BoxAt.bel G6 h7) (.cells #[.int .i64 0, .int .i64 0, .int .i64 0, .int .i64 0, .int .i64 0, .int .i64 0, .int .i64 0, .string (P.bs [])] 53)
      have h8 : Bel w (w7.alloc (.cells #[.int .i64 0, .int .i64 0, .int .i64 0, .int .i64 0, .int .i64 0, .int .i64 0, .int .i64 0, .string (P.bs [])] 53)) := (by repeat (first | with_reducible assumption | with_reducible exact Bel.refl _ | with_reducible refine Bel.alloc ?_ _ | with_reducible refine Bel.drew ?_ | with_reducible refine Bel.drewN ?_ _ | with_reducible refine Bel.setCell ?_ ?_ _ | with_reducible exact Nat.le_refl _ | (dsimp only; omega) | (refine Bel.trans ?_ (by with_reducible assumption))))
      clear P6 G6 h7 g6
      generalize w7.alloc (.cells #[.int .i64 0, .int .i64 0, .int .i64 0, .int .i64 0, .int .i64 0, .int .i64 0, .int .i64 0, .string (P.bs [])] 53) = w8 at P8 G8 h8 ⊢
      generalize w7.heap.size = bz
      have HE := Lib.hid (eq8 kind sp dp sq ak fl wn body w8)
      go_wp2_with (first | (refine wpList_cmp rfl .eql 53 _ _ _ rfl rfl rfl (by kernel_rfl) HE.out ?_) | (refine wpList_load_box rfl 53 _ rfl G8 rfl Try.underlying53 rfl (by kernel_rfl) ?_) | (refine wpList_load_in rfl 53 _ rfl P8 8 8 rfl rfl Try.underlying53 rfl (by kernel_rfl) ?_) | (go_at_call 43; refine (CO.out _).mono ?_; rintro e w9 ⟨rfl, h9⟩))
      go_ret
      exact ⟨rfl, (by repeat (first | with_reducible assumption | with_reducible exact Bel.refl _ | with_reducible refine Bel.alloc ?_ _ | with_reducible refine Bel.drew ?_ | with_reducible refine Bel.drewN ?_ _ | with_reducible refine Bel.setCell ?_ ?_ _ | with_reducible exact Nat.le_refl _ | (dsimp only; omega) | (refine Bel.trans ?_ (by with_reducible assumption))))⟩
  · have hbig2 : len0 ≤ 9223372036854775807 := w0.small
    go_enter Try.func9, Try.ntmps9
    go_wp2_with (go_at_call 13; go_in)
    go_ret
    exact ⟨rfl, Bel.refl _⟩
theorem own : ownKnob Try.prog.godebug = none := by kernel_rfl
theorem laidOut : laidOutB Try.prog = true := by kernel_rfl

set_option maxRecDepth 100000 in
theorem lifted (os : Os) (started : os.Started) (H : Type) (enc : TypeId × Value → H) :
    ReturnsInHanded {} Try.checked os 9 .any (Rows.fnSegmentRoundSpec.pre6 enc Try.prog Try.f9 Rows.fnSegmentRoundRow.domain false) (Rows.fnSegmentRoundSpec.post enc Try.prog Try.f9 false true false false) := by
  refine returnsInHanded_of_change (C := Try.checked) own started (by kernel_rfl) Try.func9
    (ChangeSpec.witness6 (enc := enc) (C := Try.checked) false ⟨#[], #[.slice none 0 0], []⟩ 8 (by kernel_rfl) (by kernel_rfl) (by kernel_rfl) (by kernel_rfl)) ?_
  intro W base args ds gs before hval0 hW hcnd _
  have hval : ∀ (j : Nat) t v, Try.f9.params[j]? = some t → args[j]? = some v → Value.okWide Try.prog W .any base t v := hval0
  have hW' := hW
  obtain ⟨p, q, hA0, hV, rfl, hfz, hnd⟩ := hW
  have hA : DataW.TrodAll enc Try.prog W 0 (fun _ => true) true Try.f9.params.toList args.toList ds p := hA0
  rw [Try.params9] at hA hval
  obtain ⟨v0, vs0, d0, ds0, p0, q0, hargs, rfl, rfl, h0, r0⟩ := trodAll_cons hA
  obtain ⟨rfl, rfl, rfl⟩ := trodAll_nil r0
  obtain rfl : args = #[v0] := by cases args; simp_all
  obtain ⟨rfl, rfl⟩ := trodVars_none hV
  have k0 := h0
  have lt0 : ∀ x ∈ p0, x.block < W.heap.size := by obtain ⟨m, hm⟩ := k0; exact DataW.trod_lt m _ _ _ hm
  obtain ⟨a0, len0, cap0, z0, rfl, w0⟩ := val_bytes (hval 0 _ v0 rfl rfl) k0
  clear hA0 hval0
  refine (walk a0 len0 cap0 z0 W w0).mono fun e W' ⟨he, bel⟩ => ?_
  subst he
  exact ⟨_, rfl, _, _, _, [], _, [], hW', trodAll_mk1 (shut_bool Try.underlying4 _), (trodAll_cons_mk (Below.trod laidOut (by kernel_rfl) (of_decide_eq_true (by kernel_rfl)) k0 bel lt0) trodAll_mk0), rfl, Below.frame bel _, fun h => by cases h⟩

theorem over : Rows.fnSegmentRoundRow.holds Try.pinned (OpenSpec.ofChange Rows.fnSegmentRoundSpec) :=
  OpenClaim.holds_of_wide 9 Try.f9 rfl rfl rfl rfl rfl rfl rfl ⟨rfl, rfl, rfl, rfl, rfl⟩ rfl rfl rfl rfl rfl (by kernel_rfl) Try.func9 (by kernel_rfl)
    (of_decide_eq_true (by kernel_rfl)) (by unfold Func.isWrapper; first | (rw [if_pos (by decide +kernel)]; kernel_rfl) | (rw [if_neg (by decide +kernel)]; exact ⟨rfl, rfl⟩))
    (fun os started H enc _ => lifted os started H enc)

theorem proved : Rows.FnSegmentRoundSaid := over
#print axioms proved
end Go.Proofs.Ytnpnkkjdnmgbkaa.fnSegmentRound
