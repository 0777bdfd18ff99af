/-
  The contracts of chapter 7, second part: images and frames built (the program's).
-/
import Derived.Test.Ytnpnkkjdnmgbkaa04
import Derived.Test.Ytnpnkkjdnmgbkaa07
import Derived.Test.Ytnpnkkjdnmgbkaa10i
import Derived.Test.Ytnpnkkjdnmgbkaa12i
import Derived.Test.Ytnpnkkjdnmgbkaa03
import Derived.Test.YtnpnkkjdnmgbkaaPure5
namespace Go.Proofs.Ytnpnkkjdnmgbkaa
open Go.RowKit
set_option linter.unusedVariables false

set_option maxHeartbeats 4000000 in
theorem c_impl_BuildImage (dm sm vl tos id ttl si di kind sp dp seq ack flags win : Int) (b : ByteArray) (hbs : b.size ≤ 1073741824) (w : World) :
    Calls Try.prog 47 #[.agg #[.int .i64 dm, .int .i64 sm, .int .i64 vl, .int .i64 tos, .int .i64 id, .int .i64 ttl, .int .i64 si, .int .i64 di, .int .i64 kind, .int .i64 sp, .int .i64 dp, .int .i64 seq, .int .i64 ack, .int .i64 flags, .int .i64 win, .string b]] w fun e w' => e = .returned (.tuple #[.string (P.image dm sm vl tos id ttl si di kind sp dp seq ack flags win b), .bool (P.imgOk dm sm vl tos id ttl si di kind sp dp seq ack flags win b)]) ∧ Bel w w' := by
  cases hok : P.superOk dm sm vl tos id ttl si di kind sp dp seq ack flags win b.size with
  | false =>
    have HF := Lib.hid (P.img_no dm sm vl tos id ttl si di kind sp dp seq ack flags win b hok)
    go_enter Try.func47, Try.ntmps47
    go_wp2_with (first | (go_at_call 64; refine (c_impl_SuperOk _ _ _ _ _ _ _ _ _ _ _ _ _ _ _ _ hbs _).mono ?_; rintro e w1 ⟨he, h1⟩; rw [hok] at he; subst he; obtain ⟨hc1, hz1⟩ := h1.keep (b := w.heap.size) (by simp)))
    go_ret2
    exact ⟨ret_sb HF.out.1.symm HF.out.2.symm, (by repeat (first | with_reducible assumption | with_reducible exact Bel.refl _ | with_reducible refine Bel.alloc ?_ _ | with_reducible refine Bel.drew ?_ | with_reducible refine Bel.drewN ?_ _ | with_reducible refine Bel.setCell ?_ ?_ _ | with_reducible exact Nat.le_refl _ | (dsimp only; omega) | (refine Bel.trans ?_ (by with_reducible assumption))))⟩
  | true =>
    have hn := P.superOk_n hok
    have HF := Lib.hid (P.img_yes dm sm vl tos id ttl si di kind sp dp seq ack flags win b hok)
    have zg := P.buildSeg_size_le si di kind sp dp seq ack flags win b
    have zd : (P.imgIp tos id ttl si di kind sp dp seq ack flags win b).size ≤ 400 := P.buildIp_size_le _ _ _ _ _ _ _
    have zp := (P.padBody_size (P.imgIp tos id ttl si di kind sp dp seq ack flags win b) zd).2
    go_enter Try.func47, Try.ntmps47
    go_wp2_with (first | (go_at_call 64; refine (c_impl_SuperOk _ _ _ _ _ _ _ _ _ _ _ _ _ _ _ _ hbs _).mono ?_; rintro e w1 ⟨he, h1⟩; rw [hok] at he; subst he; obtain ⟨hc1, hz1⟩ := h1.keep (b := w.heap.size) (by simp)) | (go_at_call 41; refine (c_impl_BuildSegment _ _ _ _ _ _ _ _ _ _ hbs _).mono ?_; rintro e w2 ⟨rfl, h2⟩; obtain ⟨hc2, hz2⟩ := h2.keep (b := w.heap.size) hz1) | (go_at_call 37; refine (c_impl_BuildIp _ _ _ _ _ _ _ (by omega) _).mono ?_; rintro e w3 ⟨rfl, h3⟩; obtain ⟨hc3, hz3⟩ := h3.keep (b := w.heap.size) hz2))
    refine wp_region_spot 14 [.pointer (some ⟨w.heap.size, 0, none⟩), .int .i64 dm, .pointer (some ⟨w.heap.size, 1, none⟩), .int .i64 sm, .pointer (some ⟨w.heap.size, 2, none⟩), .int .i64 vl, .string (P.imgIp tos id ttl si di kind sp dp seq ack flags win b), .string (P.padBody (P.imgIp tos id ttl si di kind sp dp seq ack flags win b)), .agg #[.int .i64 dm, .int .i64 sm, .int .i64 vl, .int .i64 2048, .string (P.padBody (P.imgIp tos id ttl si di kind sp dp seq ack flags win b))], .tuple #[.string (P.buildEth dm sm vl 2048 (P.padBody (P.imgIp tos id ttl si di kind sp dp seq ack flags win b))), .bool (P.ethOk dm sm vl 2048 (P.padBody (P.imgIp tos id ttl si di kind sp dp seq ack flags win b)).size)], .string (P.buildEth dm sm vl 2048 (P.padBody (P.imgIp tos id ttl si di kind sp dp seq ack flags win b))), .bool (P.ethOk dm sm vl 2048 (P.padBody (P.imgIp tos id ttl si di kind sp dp seq ack flags win b)).size), .string (P.buildEth dm sm vl 2048 (P.padBody (P.imgIp tos id ttl si di kind sp dp seq ack flags win b))), .bool (P.ethOk dm sm vl 2048 (P.padBody (P.imgIp tos id ttl si di kind sp dp seq ack flags win b)).size)] [] (by kernel_rfl) (by kernel_rfl) (Nat.le_of_ble_eq_true (by kernel_rfl)) (by kernel_rfl) ?_ ?_
    · refine ⟨?_, ?_, ?_, ?_, ?_, ?_, ?_, ?_, ?_, ?_, ?_, ?_, ?_, ?_, trivial⟩
      all_goals intro β w' hb' hrow
      all_goals obtain ⟨hc, hz⟩ := hb'.keep (b := w.heap.size) hz3
      all_goals simp [lastSp, putL, spVal, List.range, List.range.loop, QB, seen, dep, dstOf, go_sem, Region.binds, hc, hc3, hc2, hc1] at hrow ⊢
      all_goals first | with_reducible exact Bel.refl _ | exact Bel.refl _ | exact ⟨Bel.refl _, rfl⟩ | exact c_impl_PadBody _ (Nat.le_trans zd (by decide)) _ | exact c_impl_BuildEth _ _ _ _ _ (Nat.le_trans zp (by decide)) _
    · intro β w4 h4 hx
      simp [lastSp, putL, spVal, List.range, List.range.loop]
      clear hx
      go_wp2
      go_ret2
      exact ⟨ret_sb HF.out.1.symm HF.out.2.symm, (by repeat (first | with_reducible assumption | with_reducible exact Bel.refl _ | with_reducible refine Bel.alloc ?_ _ | with_reducible refine Bel.drew ?_ | with_reducible refine Bel.drewN ?_ _ | with_reducible refine Bel.setCell ?_ ?_ _ | with_reducible exact Nat.le_refl _ | (dsimp only; omega) | (refine Bel.trans ?_ (by with_reducible assumption))))⟩
set_option maxHeartbeats 2000000 in
theorem c_impl_BuildFrame (dm sm vl tos id ttl si di kind sp dp seq ack flags win : Int) (b : ByteArray) (hbs : b.size ≤ 1073741824) (w : World) :
    Calls Try.prog 49 #[.agg #[.int .i64 dm, .int .i64 sm, .int .i64 vl, .int .i64 tos, .int .i64 id, .int .i64 ttl, .int .i64 si, .int .i64 di, .int .i64 kind, .int .i64 sp, .int .i64 dp, .int .i64 seq, .int .i64 ack, .int .i64 flags, .int .i64 win, .string b]] w fun e w' => e = .returned (.tuple #[.string (P.frame dm sm vl tos id ttl si di kind sp dp seq ack flags win b), .bool (P.packetOk dm sm vl tos id ttl si di kind sp dp seq ack flags win b.size)]) ∧ Bel w w' := by
  cases hok : P.packetOk dm sm vl tos id ttl si di kind sp dp seq ack flags win b.size with
  | false =>
    have HF := Lib.hid (show P.frame dm sm vl tos id ttl si di kind sp dp seq ack flags win b = P.bs [] from by unfold P.frame; rw [hok]; rfl)
    go_enter Try.func49, Try.ntmps49
    go_wp2_with (first | (go_at_call 66; refine (c_impl_PacketOk _ _ _ _ _ _ _ _ _ _ _ _ _ _ _ _ hbs _).mono ?_; rintro e w1 ⟨he, h1⟩; rw [hok] at he; subst he; obtain ⟨hc1, hz1⟩ := h1.keep (b := w.heap.size) (by simp)))
    go_ret2
    exact ⟨ret_sb HF.out.symm rfl, (by repeat (first | with_reducible assumption | with_reducible exact Bel.refl _ | with_reducible refine Bel.alloc ?_ _ | with_reducible refine Bel.drew ?_ | with_reducible refine Bel.drewN ?_ _ | with_reducible refine Bel.setCell ?_ ?_ _ | with_reducible exact Nat.le_refl _ | (dsimp only; omega) | (refine Bel.trans ?_ (by with_reducible assumption))))⟩
  | true =>
    have HF := Lib.hid (show P.frame dm sm vl tos id ttl si di kind sp dp seq ack flags win b = P.withFcs (P.image dm sm vl tos id ttl si di kind sp dp seq ack flags win b) from by unfold P.frame; rw [hok]; rfl)
    have hsup := P.packetOk_super hok
    have himg := P.imgOk_super dm sm vl tos id ttl si di kind sp dp seq ack flags win b
    rw [hsup] at himg
    have zi := P.image_size_le dm sm vl tos id ttl si di kind sp dp seq ack flags win b
    clear hsup
    go_enter Try.func49, Try.ntmps49
    go_wp2_with (first | (go_at_call 66; refine (c_impl_PacketOk _ _ _ _ _ _ _ _ _ _ _ _ _ _ _ _ hbs _).mono ?_; rintro e w1 ⟨he, h1⟩; rw [hok] at he; subst he; obtain ⟨hc1, hz1⟩ := h1.keep (b := w.heap.size) (by simp)) | (go_at_call 47; refine (c_impl_BuildImage _ _ _ _ _ _ _ _ _ _ _ _ _ _ _ _ hbs _).mono ?_; rintro e w2 ⟨he, h2⟩; rw [himg] at he; subst he; clear himg) | (go_at_call 15; refine (c_impl_WithFcs _ (Nat.le_trans zi (by decide)) _).mono ?_; rintro e w3 ⟨rfl, h3⟩))
    go_ret2
    exact ⟨ret_sb HF.out.symm rfl, (by repeat (first | with_reducible assumption | with_reducible exact Bel.refl _ | with_reducible refine Bel.alloc ?_ _ | with_reducible refine Bel.drew ?_ | with_reducible refine Bel.drewN ?_ _ | with_reducible refine Bel.setCell ?_ ?_ _ | with_reducible exact Nat.le_refl _ | (dsimp only; omega) | (refine Bel.trans ?_ (by with_reducible assumption))))⟩
end Go.Proofs.Ytnpnkkjdnmgbkaa
