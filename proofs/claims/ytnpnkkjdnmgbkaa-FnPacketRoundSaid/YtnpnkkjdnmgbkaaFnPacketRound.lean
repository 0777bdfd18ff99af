/-
  FnPacketRoundSaid: a packet can be read from its image and from its frame. No condition.
-/
import Derived.Test.YtnpnkkjdnmgbkaaRows
import Derived.Test.YtnpnkkjdnmgbkaaOpen
import Derived.Test.YtnpnkkjdnmgbkaaRow
import Derived.Test.Ytnpnkkjdnmgbkaa29
import Derived.Test.Ytnpnkkjdnmgbkaa30
import Derived.ChangeOld
import Derived.OpenShut
namespace Go.Proofs.Ytnpnkkjdnmgbkaa.fnPacketRound
open Go.ChangeShapes Go.WideShapes Go.ChangeAt Go.RowKit
set_option linter.unusedVariables false

set_option maxHeartbeats 1000000 in
theorem walk (a0 : Option Addr) (len0 cap0 : Nat) (z0 : List Int) (w : World) (w0 : IsRow w a0 len0 cap0 z0) :
    Calls Try.prog 11 #[.slice a0 len0 cap0] w fun e w' => e = .returned (.bool true) ∧ Bel w w' := by
  by_cases hbig : (len0 : Int) ≤ 1048576
  · have hsm : len0 ≤ 1048576 := by omega
    go_enter Try.func11, Try.ntmps11
    go_wp2_with (go_at_call 13; go_in)
    refine (c_DrawSuper w a0 len0 cap0 z0 w w0 hsm (Bel.refl w)).mono ?_
    rintro e w1 ⟨dm, sm, vl, tos, id, ttl, si, di, kind, sp, dp, sq, ak, fl, wn, body, hsup, hlen, rfl, h1⟩
    have hbs : body.size ≤ 1073741824 := by omega
    have zX := P.image_size_le dm sm vl tos id ttl si di kind sp dp sq ak fl wn body
    obtain ⟨X, hX⟩ : ∃ X, P.image dm sm vl tos id ttl si di kind sp dp sq ak fl wn body = X := ⟨_, rfl⟩
    rw [hX] at zX
    have CI := Lib.hid (show ∀ w, Calls Try.prog 47 #[.agg #[.int .i64 dm, .int .i64 sm, .int .i64 vl, .int .i64 tos, .int .i64 id, .int .i64 ttl, .int .i64 si, .int .i64 di, .int .i64 kind, .int .i64 sp, .int .i64 dp, .int .i64 sq, .int .i64 ak, .int .i64 fl, .int .i64 wn, .string body]] w (fun e w' => e = .returned (.tuple #[.string X, .bool true]) ∧ Bel w w') from c_bi_ok dm sm vl tos id ttl si di kind sp dp sq ak fl wn body hbs hsup X hX)
    have CJ := Lib.hid (show ∀ w, Calls Try.prog 48 #[.string X] w (fun e w' => e = .returned (.tuple #[.agg #[.int .i64 dm, .int .i64 sm, .int .i64 vl, .int .i64 tos, .int .i64 id, .int .i64 ttl, .int .i64 si, .int .i64 di, .int .i64 kind, .int .i64 sp, .int .i64 dp, .int .i64 sq, .int .i64 ak, .int .i64 fl, .int .i64 wn, .string body], .int .i64 0]) ∧ Bel w w') from c_ri_ok dm sm vl tos id ttl si di kind sp dp sq ak fl wn body hsup X hX)
    by_cases h128 : body.size ≤ 128
    · have hok : P.packetOk dm sm vl tos id ttl si di kind sp dp sq ak fl wn body.size = true := by rw [P.packetOk_of hsup]; exact decide_eq_true h128
      have f1 := (P.frame_round dm sm vl tos id ttl si di kind sp dp sq ak fl wn body hok).1
      obtain ⟨F, hF⟩ : ∃ F, P.frame dm sm vl tos id ttl si di kind sp dp sq ak fl wn body = F := ⟨_, rfl⟩
      rw [hF, hX] at f1
      have h128i : (body.size : Int) ≤ 128 := by omega
      have CF := Lib.hid (show ∀ w, Calls Try.prog 49 #[.agg #[.int .i64 dm, .int .i64 sm, .int .i64 vl, .int .i64 tos, .int .i64 id, .int .i64 ttl, .int .i64 si, .int .i64 di, .int .i64 kind, .int .i64 sp, .int .i64 dp, .int .i64 sq, .int .i64 ak, .int .i64 fl, .int .i64 wn, .string body]] w (fun e w' => e = .returned (.tuple #[.string F, .bool true]) ∧ Bel w w') from c_bf_ok dm sm vl tos id ttl si di kind sp dp sq ak fl wn body hbs hok F hF)
      have CG := Lib.hid (show ∀ w, Calls Try.prog 50 #[.string F] w (fun e w' => e = .returned (.tuple #[.agg #[.int .i64 dm, .int .i64 sm, .int .i64 vl, .int .i64 tos, .int .i64 id, .int .i64 ttl, .int .i64 si, .int .i64 di, .int .i64 kind, .int .i64 sp, .int .i64 dp, .int .i64 sq, .int .i64 ak, .int .i64 fl, .int .i64 wn, .string body], .int .i64 0]) ∧ Bel w w') from c_rf_ok dm sm vl tos id ttl si di kind sp dp sq ak fl wn body hok F hF)
      have CW := Lib.hid (show ∀ w, Calls Try.prog 15 #[.string X] w (fun e w' => e = .returned (.string F) ∧ Bel w w') from fun w => (c_impl_WithFcs X (by omega) w).mono fun e w' ⟨he, hb⟩ => ⟨by rw [he, ← f1], hb⟩)
      clear hok f1 hF hX hsup zX h128
      have PP : BoxAt 0 [.int .i64 dm, .int .i64 sm, .int .i64 vl, .int .i64 tos, .int .i64 id, .int .i64 ttl, .int .i64 si, .int .i64 di, .int .i64 kind, .int .i64 sp, .int .i64 dp, .int .i64 sq, .int .i64 ak, .int .i64 fl, .int .i64 wn, .string body] w1.heap.size (w1.alloc (.cells #[.int .i64 dm, .int .i64 sm, .int .i64 vl, .int .i64 tos, .int .i64 id, .int .i64 ttl, .int .i64 si, .int .i64 di, .int .i64 kind, .int .i64 sp, .int .i64 dp, .int .i64 sq, .int .i64 ak, .int .i64 fl, .int .i64 wn, .string body] 55)) := boxAt_alloc (Nat.zero_le _) _ _
      go_wp2_with (refine wpList_load_box rfl 55 _ rfl PP rfl Try.underlying55 rfl (by kernel_rfl) ?_)
      refine (CI.out _).mono ?_
      rintro e w2 ⟨rfl, h2⟩
      have P2 := BoxAt.bel PP h2
      clear PP
      generalize Value.agg #[.int .i64 dm, .int .i64 sm, .int .i64 vl, .int .i64 tos, .int .i64 id, .int .i64 ttl, .int .i64 si, .int .i64 di, .int .i64 kind, .int .i64 sp, .int .i64 dp, .int .i64 sq, .int .i64 ak, .int .i64 fl, .int .i64 wn, .string body] = pv
      go_wp2_with fail
      refine (CJ.out _).mono ?_
      rintro e w3 ⟨rfl, h3⟩
      have P3 := BoxAt.alloc (BoxAt.bel P2 h3) (.cells #[.int .i64 dm, .int .i64 sm, .int .i64 vl, .int .i64 tos, .int .i64 id, .int .i64 ttl, .int .i64 si, .int .i64 di, .int .i64 kind, .int .i64 sp, .int .i64 dp, .int .i64 sq, .int .i64 ak, .int .i64 fl, .int .i64 wn, .string body] 55)
      have Q3 : BoxAt 0 [.int .i64 dm, .int .i64 sm, .int .i64 vl, .int .i64 tos, .int .i64 id, .int .i64 ttl, .int .i64 si, .int .i64 di, .int .i64 kind, .int .i64 sp, .int .i64 dp, .int .i64 sq, .int .i64 ak, .int .i64 fl, .int .i64 wn, .string body] w3.heap.size (w3.alloc (.cells #[.int .i64 dm, .int .i64 sm, .int .i64 vl, .int .i64 tos, .int .i64 id, .int .i64 ttl, .int .i64 si, .int .i64 di, .int .i64 kind, .int .i64 sp, .int .i64 dp, .int .i64 sq, .int .i64 ak, .int .i64 fl, .int .i64 wn, .string body] 55)) := boxAt_alloc (Nat.zero_le _) _ _
      go_upto_region 6 with fail
      generalize Value.agg #[.int .i64 dm, .int .i64 sm, .int .i64 vl, .int .i64 tos, .int .i64 id, .int .i64 ttl, .int .i64 si, .int .i64 di, .int .i64 kind, .int .i64 sp, .int .i64 dp, .int .i64 sq, .int .i64 ak, .int .i64 fl, .int .i64 wn, .string body] = pv2
      have g3 : Bel w (w3.alloc (.cells #[.int .i64 dm, .int .i64 sm, .int .i64 vl, .int .i64 tos, .int .i64 id, .int .i64 ttl, .int .i64 si, .int .i64 di, .int .i64 kind, .int .i64 sp, .int .i64 dp, .int .i64 sq, .int .i64 ak, .int .i64 fl, .int .i64 wn, .string body] 55)) := (by repeat (first | with_reducible assumption | with_reducible exact Bel.refl _ | with_reducible refine Bel.alloc ?_ _ | with_reducible refine Bel.drew ?_ | with_reducible refine Bel.drewN ?_ _ | with_reducible refine Bel.setCell ?_ ?_ _ | with_reducible exact Nat.le_refl _ | (dsimp only; omega) | (refine Bel.trans ?_ (by with_reducible assumption))))
      clear P2 h2 h3 h1 CI CJ w0
      generalize w3.alloc (.cells #[.int .i64 dm, .int .i64 sm, .int .i64 vl, .int .i64 tos, .int .i64 id, .int .i64 ttl, .int .i64 si, .int .i64 di, .int .i64 kind, .int .i64 sp, .int .i64 dp, .int .i64 sq, .int .i64 ak, .int .i64 fl, .int .i64 wn, .string body] 55) = w4 at P3 Q3 g3 ⊢
      generalize w1.heap.size = bp at P3 ⊢
      generalize w3.heap.size = bq at Q3 ⊢
      go_wp2_with (refine wpList_load_box rfl 55 _ rfl P3 rfl Try.underlying55 rfl (by kernel_rfl) ?_)
      refine (CF.out _).mono ?_
      rintro e w5 ⟨rfl, h5⟩
      have P5 := BoxAt.bel P3 h5
      have Q5 := BoxAt.bel Q3 h5
      clear P3 Q3
      generalize Value.agg #[.int .i64 dm, .int .i64 sm, .int .i64 vl, .int .i64 tos, .int .i64 id, .int .i64 ttl, .int .i64 si, .int .i64 di, .int .i64 kind, .int .i64 sp, .int .i64 dp, .int .i64 sq, .int .i64 ak, .int .i64 fl, .int .i64 wn, .string body] = pv3
      go_wp2_with fail
      refine (CG.out _).mono ?_
      rintro e w6 ⟨rfl, h6⟩
      have P6 := BoxAt.alloc (BoxAt.bel P5 h6) (.cells #[.int .i64 dm, .int .i64 sm, .int .i64 vl, .int .i64 tos, .int .i64 id, .int .i64 ttl, .int .i64 si, .int .i64 di, .int .i64 kind, .int .i64 sp, .int .i64 dp, .int .i64 sq, .int .i64 ak, .int .i64 fl, .int .i64 wn, .string body] 55)
      have Q6 := BoxAt.alloc (BoxAt.bel Q5 h6) (.cells #[.int .i64 dm, .int .i64 sm, .int .i64 vl, .int .i64 tos, .int .i64 id, .int .i64 ttl, .int .i64 si, .int .i64 di, .int .i64 kind, .int .i64 sp, .int .i64 dp, .int .i64 sq, .int .i64 ak, .int .i64 fl, .int .i64 wn, .string body] 55)
      have R6 : BoxAt 0 [.int .i64 dm, .int .i64 sm, .int .i64 vl, .int .i64 tos, .int .i64 id, .int .i64 ttl, .int .i64 si, .int .i64 di, .int .i64 kind, .int .i64 sp, .int .i64 dp, .int .i64 sq, .int .i64 ak, .int .i64 fl, .int .i64 wn, .string body] w6.heap.size (w6.alloc (.cells #[.int .i64 dm, .int .i64 sm, .int .i64 vl, .int .i64 tos, .int .i64 id, .int .i64 ttl, .int .i64 si, .int .i64 di, .int .i64 kind, .int .i64 sp, .int .i64 dp, .int .i64 sq, .int .i64 ak, .int .i64 fl, .int .i64 wn, .string body] 55)) := boxAt_alloc (Nat.zero_le _) _ _
      go_upto_region 8 with fail
      generalize Value.agg #[.int .i64 dm, .int .i64 sm, .int .i64 vl, .int .i64 tos, .int .i64 id, .int .i64 ttl, .int .i64 si, .int .i64 di, .int .i64 kind, .int .i64 sp, .int .i64 dp, .int .i64 sq, .int .i64 ak, .int .i64 fl, .int .i64 wn, .string body] = pv4
      have g6 : Bel w (w6.alloc (.cells #[.int .i64 dm, .int .i64 sm, .int .i64 vl, .int .i64 tos, .int .i64 id, .int .i64 ttl, .int .i64 si, .int .i64 di, .int .i64 kind, .int .i64 sp, .int .i64 dp, .int .i64 sq, .int .i64 ak, .int .i64 fl, .int .i64 wn, .string body] 55)) := (by repeat (first | with_reducible assumption | with_reducible exact Bel.refl _ | with_reducible refine Bel.alloc ?_ _ | with_reducible refine Bel.drew ?_ | with_reducible refine Bel.drewN ?_ _ | with_reducible refine Bel.setCell ?_ ?_ _ | with_reducible exact Nat.le_refl _ | (dsimp only; omega) | (refine Bel.trans ?_ (by with_reducible assumption))))
      clear P5 Q5 h5 h6 g3 CF CG
      generalize w6.alloc (.cells #[.int .i64 dm, .int .i64 sm, .int .i64 vl, .int .i64 tos, .int .i64 id, .int .i64 ttl, .int .i64 si, .int .i64 di, .int .i64 kind, .int .i64 sp, .int .i64 dp, .int .i64 sq, .int .i64 ak, .int .i64 fl, .int .i64 wn, .string body] 55) = w7 at P6 Q6 R6 g6 ⊢
      generalize w6.heap.size = br at R6 ⊢
      have k15 := P6.cell 15
      simp at k15
      have HN := Lib.hid (ne16 dm sm vl tos id ttl si di kind sp dp sq ak fl wn body w7)
      have HE := Lib.hid (eq16 dm sm vl tos id ttl si di kind sp dp sq ak fl wn body w7)
      go_wp2_with (first | (refine wpList_cmp rfl .neq 55 _ _ _ rfl rfl rfl (by kernel_rfl) HN.out ?_) | (refine wpList_cmp rfl .eql 55 _ _ _ rfl rfl rfl (by kernel_rfl) HE.out ?_) | (refine wpList_load_box rfl 55 _ rfl Q6 rfl Try.underlying55 rfl (by kernel_rfl) ?_) | (refine wpList_load_box rfl 55 _ rfl P6 rfl Try.underlying55 rfl (by kernel_rfl) ?_) | (refine wpList_load_box rfl 55 _ rfl R6 rfl Try.underlying55 rfl (by kernel_rfl) ?_) | (go_at_call 15; refine (CW.out _).mono ?_; rintro e w8 ⟨rfl, h8⟩))
      go_ret
      exact ⟨rfl, (by repeat (first | with_reducible assumption | with_reducible exact Bel.refl _ | with_reducible refine Bel.alloc ?_ _ | with_reducible refine Bel.drew ?_ | with_reducible refine Bel.drewN ?_ _ | with_reducible refine Bel.setCell ?_ ?_ _ | with_reducible exact Nat.le_refl _ | (dsimp only; omega) | (refine Bel.trans ?_ (by with_reducible assumption))))⟩
    · have hok : P.packetOk dm sm vl tos id ttl si di kind sp dp sq ak fl wn body.size = false := by rw [P.packetOk_of hsup]; exact decide_eq_false h128
      have hF : P.frame dm sm vl tos id ttl si di kind sp dp sq ak fl wn body = ⟨#[]⟩ := by unfold P.frame; rw [hok]; rfl
      have h128i : ¬ (body.size : Int) ≤ 128 := by omega
      have CF := Lib.hid (show ∀ w, Calls Try.prog 49 #[.agg #[.int .i64 dm, .int .i64 sm, .int .i64 vl, .int .i64 tos, .int .i64 id, .int .i64 ttl, .int .i64 si, .int .i64 di, .int .i64 kind, .int .i64 sp, .int .i64 dp, .int .i64 sq, .int .i64 ak, .int .i64 fl, .int .i64 wn, .string body]] w (fun e w' => e = .returned (.tuple #[.string ⟨#[]⟩, .bool false]) ∧ Bel w w') from fun w => (c_impl_BuildFrame dm sm vl tos id ttl si di kind sp dp sq ak fl wn body hbs w).mono fun e w' ⟨he, hb⟩ => ⟨by rw [he, hok, hF], hb⟩)
      have CG := Lib.hid (show ∀ w, Calls Try.prog 50 #[.string ⟨#[]⟩] w (fun e w' => e = .returned (.tuple #[.agg #[.int .i64 0, .int .i64 0, .int .i64 0, .int .i64 0, .int .i64 0, .int .i64 0, .int .i64 0, .int .i64 0, .int .i64 0, .int .i64 0, .int .i64 0, .int .i64 0, .int .i64 0, .int .i64 0, .int .i64 0, .string (P.bs [])], .int .i64 1]) ∧ Bel w w') from c_rf_bad ⟨#[]⟩ (by decide) (by unfold P.fcsOk; exact decide_eq_false (fun h => absurd h.1 (by decide))))
      clear hok hF hX hsup zX h128
      have PP : BoxAt 0 [.int .i64 dm, .int .i64 sm, .int .i64 vl, .int .i64 tos, .int .i64 id, .int .i64 ttl, .int .i64 si, .int .i64 di, .int .i64 kind, .int .i64 sp, .int .i64 dp, .int .i64 sq, .int .i64 ak, .int .i64 fl, .int .i64 wn, .string body] w1.heap.size (w1.alloc (.cells #[.int .i64 dm, .int .i64 sm, .int .i64 vl, .int .i64 tos, .int .i64 id, .int .i64 ttl, .int .i64 si, .int .i64 di, .int .i64 kind, .int .i64 sp, .int .i64 dp, .int .i64 sq, .int .i64 ak, .int .i64 fl, .int .i64 wn, .string body] 55)) := boxAt_alloc (Nat.zero_le _) _ _
      go_wp2_with (refine wpList_load_box rfl 55 _ rfl PP rfl Try.underlying55 rfl (by kernel_rfl) ?_)
      refine (CI.out _).mono ?_
      rintro e w2 ⟨rfl, h2⟩
      have P2 := BoxAt.bel PP h2
      clear PP
      generalize Value.agg #[.int .i64 dm, .int .i64 sm, .int .i64 vl, .int .i64 tos, .int .i64 id, .int .i64 ttl, .int .i64 si, .int .i64 di, .int .i64 kind, .int .i64 sp, .int .i64 dp, .int .i64 sq, .int .i64 ak, .int .i64 fl, .int .i64 wn, .string body] = pv
      go_wp2_with fail
      refine (CJ.out _).mono ?_
      rintro e w3 ⟨rfl, h3⟩
      have P3 := BoxAt.alloc (BoxAt.bel P2 h3) (.cells #[.int .i64 dm, .int .i64 sm, .int .i64 vl, .int .i64 tos, .int .i64 id, .int .i64 ttl, .int .i64 si, .int .i64 di, .int .i64 kind, .int .i64 sp, .int .i64 dp, .int .i64 sq, .int .i64 ak, .int .i64 fl, .int .i64 wn, .string body] 55)
      have Q3 : BoxAt 0 [.int .i64 dm, .int .i64 sm, .int .i64 vl, .int .i64 tos, .int .i64 id, .int .i64 ttl, .int .i64 si, .int .i64 di, .int .i64 kind, .int .i64 sp, .int .i64 dp, .int .i64 sq, .int .i64 ak, .int .i64 fl, .int .i64 wn, .string body] w3.heap.size (w3.alloc (.cells #[.int .i64 dm, .int .i64 sm, .int .i64 vl, .int .i64 tos, .int .i64 id, .int .i64 ttl, .int .i64 si, .int .i64 di, .int .i64 kind, .int .i64 sp, .int .i64 dp, .int .i64 sq, .int .i64 ak, .int .i64 fl, .int .i64 wn, .string body] 55)) := boxAt_alloc (Nat.zero_le _) _ _
      go_upto_region 6 with fail
      generalize Value.agg #[.int .i64 dm, .int .i64 sm, .int .i64 vl, .int .i64 tos, .int .i64 id, .int .i64 ttl, .int .i64 si, .int .i64 di, .int .i64 kind, .int .i64 sp, .int .i64 dp, .int .i64 sq, .int .i64 ak, .int .i64 fl, .int .i64 wn, .string body] = pv2
      have g3 : Bel w (w3.alloc (.cells #[.int .i64 dm, .int .i64 sm, .int .i64 vl, .int .i64 tos, .int .i64 id, .int .i64 ttl, .int .i64 si, .int .i64 di, .int .i64 kind, .int .i64 sp, .int .i64 dp, .int .i64 sq, .int .i64 ak, .int .i64 fl, .int .i64 wn, .string body] 55)) := (by repeat (first | with_reducible assumption | with_reducible exact Bel.refl _ | with_reducible refine Bel.alloc ?_ _ | with_reducible refine Bel.drew ?_ | with_reducible refine Bel.drewN ?_ _ | with_reducible refine Bel.setCell ?_ ?_ _ | with_reducible exact Nat.le_refl _ | (dsimp only; omega) | (refine Bel.trans ?_ (by with_reducible assumption))))
      clear P2 h2 h3 h1 CI CJ w0
      generalize w3.alloc (.cells #[.int .i64 dm, .int .i64 sm, .int .i64 vl, .int .i64 tos, .int .i64 id, .int .i64 ttl, .int .i64 si, .int .i64 di, .int .i64 kind, .int .i64 sp, .int .i64 dp, .int .i64 sq, .int .i64 ak, .int .i64 fl, .int .i64 wn, .string body] 55) = w4 at P3 Q3 g3 ⊢
      generalize w1.heap.size = bp at P3 ⊢
      generalize w3.heap.size = bq at Q3 ⊢
      go_wp2_with (refine wpList_load_box rfl 55 _ rfl P3 rfl Try.underlying55 rfl (by kernel_rfl) ?_)
      refine (CF.out _).mono ?_
      rintro e w5 ⟨rfl, h5⟩
      have P5 := BoxAt.bel P3 h5
      have Q5 := BoxAt.bel Q3 h5
      clear P3 Q3
      generalize Value.agg #[.int .i64 dm, .int .i64 sm, .int .i64 vl, .int .i64 tos, .int .i64 id, .int .i64 ttl, .int .i64 si, .int .i64 di, .int .i64 kind, .int .i64 sp, .int .i64 dp, .int .i64 sq, .int .i64 ak, .int .i64 fl, .int .i64 wn, .string body] = pv3
      go_wp2_with fail
      refine (CG.out _).mono ?_
      rintro e w6 ⟨rfl, h6⟩
      have P6 := BoxAt.alloc (BoxAt.bel P5 h6) (.cells #[.int .i64 0, .int .i64 0, .int .i64 0, .int .i64 0, .int .i64 0, .int .i64 0, .int .i64 0, .int .i64 0, .int .i64 0, .int .i64 0, .int .i64 0, .int .i64 0, .int .i64 0, .int .i64 0, .int .i64 0, .string (P.bs [])] 55)
      have Q6 := BoxAt.alloc (BoxAt.bel Q5 h6) (.cells #[.int .i64 0, .int .i64 0, .int .i64 0, .int .i64 0, .int .i64 0, .int .i64 0, .int .i64 0, .int .i64 0, .int .i64 0, .int .i64 0, .int .i64 0, .int .i64 0, .int .i64 0, .int .i64 0, .int .i64 0, .string (P.bs [])] 55)
      have R6 : BoxAt 0 [.int .i64 0, .int .i64 0, .int .i64 0, .int .i64 0, .int .i64 0, .int .i64 0, .int .i64 0, .int .i64 0, .int .i64 0, .int .i64 0, .int .i64 0, .int .i64 0, .int .i64 0, .int .i64 0, .int .i64 0, .string (P.bs [])] w6.heap.size (w6.alloc (.cells #[.int .i64 0, .int .i64 0, .int .i64 0, .int .i64 0, .int .i64 0, .int .i64 0, .int .i64 0, .int .i64 0, .int .i64 0, .int .i64 0, .int .i64 0, .int .i64 0, .int .i64 0, .int .i64 0, .int .i64 0, .string (P.bs [])] 55)) := boxAt_alloc (Nat.zero_le _) _ _
      go_upto_region 8 with fail
      generalize Value.agg #[.int .i64 0, .int .i64 0, .int .i64 0, .int .i64 0, .int .i64 0, .int .i64 0, .int .i64 0, .int .i64 0, .int .i64 0, .int .i64 0, .int .i64 0, .int .i64 0, .int .i64 0, .int .i64 0, .int .i64 0, .string (P.bs [])] = pv4
      have g6 : Bel w (w6.alloc (.cells #[.int .i64 0, .int .i64 0, .int .i64 0, .int .i64 0, .int .i64 0, .int .i64 0, .int .i64 0, .int .i64 0, .int .i64 0, .int .i64 0, .int .i64 0, .int .i64 0, .int .i64 0, .int .i64 0, .int .i64 0, .string (P.bs [])] 55)) := (by repeat (first | with_reducible assumption | with_reducible exact Bel.refl _ | with_reducible refine Bel.alloc ?_ _ | with_reducible refine Bel.drew ?_ | with_reducible refine Bel.drewN ?_ _ | with_reducible refine Bel.setCell ?_ ?_ _ | with_reducible exact Nat.le_refl _ | (dsimp only; omega) | (refine Bel.trans ?_ (by with_reducible assumption))))
      clear P5 Q5 h5 h6 g3 CF CG
      generalize w6.alloc (.cells #[.int .i64 0, .int .i64 0, .int .i64 0, .int .i64 0, .int .i64 0, .int .i64 0, .int .i64 0, .int .i64 0, .int .i64 0, .int .i64 0, .int .i64 0, .int .i64 0, .int .i64 0, .int .i64 0, .int .i64 0, .string (P.bs [])] 55) = w7 at P6 Q6 R6 g6 ⊢
      generalize w6.heap.size = br at R6 ⊢
      have k15 := P6.cell 15
      simp at k15
      have HN := Lib.hid (ne16 dm sm vl tos id ttl si di kind sp dp sq ak fl wn body w7)
      have HE := Lib.hid (eq16 dm sm vl tos id ttl si di kind sp dp sq ak fl wn body w7)
      go_wp2_with (first | (refine wpList_cmp rfl .neq 55 _ _ _ rfl rfl rfl (by kernel_rfl) HN.out ?_) | (refine wpList_cmp rfl .eql 55 _ _ _ rfl rfl rfl (by kernel_rfl) HE.out ?_) | (refine wpList_load_box rfl 55 _ rfl Q6 rfl Try.underlying55 rfl (by kernel_rfl) ?_) | (refine wpList_load_box rfl 55 _ rfl P6 rfl Try.underlying55 rfl (by kernel_rfl) ?_))
      go_ret
      exact ⟨rfl, (by repeat (first | with_reducible assumption | with_reducible exact Bel.refl _ | with_reducible refine Bel.alloc ?_ _ | with_reducible refine Bel.drew ?_ | with_reducible refine Bel.drewN ?_ _ | with_reducible refine Bel.setCell ?_ ?_ _ | with_reducible exact Nat.le_refl _ | (dsimp only; omega) | (refine Bel.trans ?_ (by with_reducible assumption))))⟩
  · have hbig2 : len0 ≤ 9223372036854775807 := w0.small
    go_enter Try.func11, Try.ntmps11
    go_wp2_with (go_at_call 13; go_in)
    go_ret
    exact ⟨rfl, Bel.refl _⟩
theorem own : ownKnob Try.prog.godebug = none := by kernel_rfl
theorem laidOut : laidOutB Try.prog = true := by kernel_rfl

set_option maxRecDepth 100000 in
theorem lifted (os : Os) (started : os.Started) (H : Type) (enc : TypeId × Value → H) :
    ReturnsInHanded {} Try.checked os 11 .any (Rows.fnPacketRoundSpec.pre6 enc Try.prog Try.f11 Rows.fnPacketRoundRow.domain false) (Rows.fnPacketRoundSpec.post enc Try.prog Try.f11 false true false false) := by
  refine returnsInHanded_of_change (C := Try.checked) own started (by kernel_rfl) Try.func11
    (ChangeSpec.witness6 (enc := enc) (C := Try.checked) false ⟨#[], #[.slice none 0 0], []⟩ 8 (by kernel_rfl) (by kernel_rfl) (by kernel_rfl) (by kernel_rfl)) ?_
  intro W base args ds gs before hval0 hW hcnd _
  have hval : ∀ (j : Nat) t v, Try.f11.params[j]? = some t → args[j]? = some v → Value.okWide Try.prog W .any base t v := hval0
  have hW' := hW
  obtain ⟨p, q, hA0, hV, rfl, hfz, hnd⟩ := hW
  have hA : DataW.TrodAll enc Try.prog W 0 (fun _ => true) true Try.f11.params.toList args.toList ds p := hA0
  rw [Try.params11] at hA hval
  obtain ⟨v0, vs0, d0, ds0, p0, q0, hargs, rfl, rfl, h0, r0⟩ := trodAll_cons hA
  obtain ⟨rfl, rfl, rfl⟩ := trodAll_nil r0
  obtain rfl : args = #[v0] := by cases args; simp_all
  obtain ⟨rfl, rfl⟩ := trodVars_none hV
  have k0 := h0
  have lt0 : ∀ x ∈ p0, x.block < W.heap.size := by obtain ⟨m, hm⟩ := k0; exact DataW.trod_lt m _ _ _ hm
  obtain ⟨a0, len0, cap0, z0, rfl, w0⟩ := val_bytes (hval 0 _ v0 rfl rfl) k0
  clear hA0 hval0
  refine (walk a0 len0 cap0 z0 W w0).mono fun e W' ⟨he, bel⟩ => ?_
  subst he
  exact ⟨_, rfl, _, _, _, [], _, [], hW', trodAll_mk1 (shut_bool Try.underlying4 _), (trodAll_cons_mk (Below.trod laidOut (by kernel_rfl) (of_decide_eq_true (by kernel_rfl)) k0 bel lt0) trodAll_mk0), rfl, Below.frame bel _, fun h => by cases h⟩

theorem over : Rows.fnPacketRoundRow.holds Try.pinned (OpenSpec.ofChange Rows.fnPacketRoundSpec) :=
  OpenClaim.holds_of_wide 11 Try.f11 rfl rfl rfl rfl rfl rfl rfl ⟨rfl, rfl, rfl, rfl, rfl⟩ rfl rfl rfl rfl rfl (by kernel_rfl) Try.func11 (by kernel_rfl)
    (of_decide_eq_true (by kernel_rfl)) (by unfold Func.isWrapper; first | (rw [if_pos (by decide +kernel)]; kernel_rfl) | (rw [if_neg (by decide +kernel)]; exact ⟨rfl, rfl⟩))
    (fun os started H enc _ => lifted os started H enc)

theorem proved : Rows.FnPacketRoundSaid := over
#print axioms proved
end Go.Proofs.Ytnpnkkjdnmgbkaa.fnPacketRound
