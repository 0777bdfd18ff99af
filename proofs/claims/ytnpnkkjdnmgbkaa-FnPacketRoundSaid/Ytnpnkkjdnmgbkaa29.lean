/-
  The contracts of the reference's draws, seventh part: packets with long bodies, drawn.
-/
import Derived.Test.Ytnpnkkjdnmgbkaa28
import Derived.Test.YtnpnkkjdnmgbkaaLoad
import Derived.Deep.Cut
namespace Go.Proofs.Ytnpnkkjdnmgbkaa
open Go.RowKit
set_option linter.unusedVariables false

theorem wp_at {c : Code} {P : Program} {Q : Exit → Act → World → Prop} {a : Act} {W : World} {I : World → Prop} (hI : I W) (h : ∀ W', I W' → c.wp P Q a W') : c.wp P Q a W := h W hI
set_option maxHeartbeats 16000000 in
theorem c_l07Packet320 (c : Src) (b : Nat) (w : World) (hc : Cur c b w) :
    Calls Try.prog 59 #[.pointer (some ⟨b, 0, none⟩), .int .i64 320] w (Drew c b w (PackV 320)) := by
  have hne : ¬ w.heap.size = b := by have := hc.old; omega
  go_enter Try.func59, Try.ntmps59
  have R0 := boxAt_alloc (n := w.heap.size) (w := w) (Nat.le_refl _) #[.int .i64 0, .int .i64 0, .int .i64 0, .int .i64 0, .int .i64 0, .int .i64 0, .int .i64 0, .int .i64 0, .int .i64 0, .int .i64 0, .int .i64 0, .int .i64 0, .int .i64 0, .int .i64 0, .int .i64 0, .string (P.bs [])] 55
  go_wp2_with fail
  refine (c_l01PickInt c b (w.heap.size + 1) [2, 2, 2, 4, 281474976710655] 5 rfl (by decide) (by decide) _ (by have := hc.old; omega) (rowI_alloc2 w _ _ 3) (Cur.alloc (Cur.alloc hc _) _)).mono ?_
  rintro e w1 ⟨v1, ⟨dm, hdm, rfl⟩, rfl, hb1, hc1⟩
  have rdm : 0 ≤ dm ∧ dm ≤ 281474976710655 := by simp at hdm; omega
  clear hdm
  go_wp2_with fail
  refine (c_l01PickInt c b w1.heap.size [6, 8] 2 rfl (by decide) (by decide) _ (by have := hc1.old; omega) (rowI_alloc w1 _ 3) (Cur.alloc hc1 _)).mono ?_
  rintro e w2 ⟨v2, ⟨sm, hsm, rfl⟩, rfl, hb2, hc2⟩
  have rsm : 0 ≤ sm ∧ sm ≤ 281474976710655 := by simp at hsm; omega
  clear hsm
  go_wp2_with fail
  refine (c_l01PickInt c b w2.heap.size [-1, -1, 7] 3 rfl (by decide) (by decide) _ (by have := hc2.old; omega) (rowI_alloc w2 _ 3) (Cur.alloc hc2 _)).mono ?_
  rintro e w3 ⟨v3, ⟨vl, hvl, rfl⟩, rfl, hb3, hc3⟩
  have rvl : -1 ≤ vl ∧ vl ≤ 4095 := by simp at hvl; omega
  clear hvl
  go_wp2_with fail
  refine (c_l01PickInt c b w3.heap.size [0, 0, 255] 3 rfl (by decide) (by decide) _ (by have := hc3.old; omega) (rowI_alloc w3 _ 3) (Cur.alloc hc3 _)).mono ?_
  rintro e w4 ⟨v4, ⟨tos, htos, rfl⟩, rfl, hb4, hc4⟩
  have rtos : 0 ≤ tos ∧ tos ≤ 255 := by simp at htos; omega
  clear htos
  go_wp2_with fail
  refine (c_l01PickInt c b w4.heap.size [1, 65535, 65534] 3 rfl (by decide) (by decide) _ (by have := hc4.old; omega) (rowI_alloc w4 _ 3) (Cur.alloc hc4 _)).mono ?_
  rintro e w5 ⟨v5, ⟨id, hid, rfl⟩, rfl, hb5, hc5⟩
  have rid : 0 ≤ id ∧ id ≤ 65535 := by simp at hid; omega
  clear hid
  go_wp2_with fail
  refine (c_l01PickInt c b w5.heap.size [64, 64, 255] 3 rfl (by decide) (by decide) _ (by have := hc5.old; omega) (rowI_alloc w5 _ 3) (Cur.alloc hc5 _)).mono ?_
  rintro e w6 ⟨v6, ⟨ttl, httl, rfl⟩, rfl, hb6, hc6⟩
  have rttl : 0 ≤ ttl ∧ ttl ≤ 255 := by simp at httl; omega
  clear httl
  go_wp2_with fail
  refine (c_l06Host c b _ hc6).mono ?_
  rintro e w7 ⟨v7, ⟨si, rfl, hsi0, hsi1⟩, rfl, hb7, hc7⟩
  have R7 := BoxAt.bex (BoxAt.bex (BoxAt.alloc (BoxAt.bex (BoxAt.alloc (BoxAt.bex (BoxAt.alloc (BoxAt.bex (BoxAt.alloc (BoxAt.bex (BoxAt.alloc (BoxAt.bex (R0.alloc _) hb1 hne) _) hb2 hne) _) hb3 hne) _) hb4 hne) _) hb5 hne) _) hb6 hne) hb7 hne
  have hz7 := R7.old
  have hl7 : ¬ w7.heap.size = b := by have := hc7.old; omega
  have hlr : ¬ w7.heap.size = w.heap.size := by omega
  have L7 := boxAt_alloc (n := w.heap.size) (w := w7) (by omega) #[.int .i64 dm, .int .i64 sm, .int .i64 vl, .int .i64 tos, .int .i64 id, .int .i64 ttl, .int .i64 si, .int .i64 167772161, .int .i64 0, .int .i64 0, .int .i64 0, .int .i64 0, .int .i64 0, .int .i64 0, .int .i64 0, .string (P.bs [])] 55
  have b7 : Bex b w w7 := (by repeat (first | with_reducible assumption | with_reducible exact Bex.refl _ _ | with_reducible refine Bex.alloc ?_ _ | with_reducible refine Bex.drew ?_ | with_reducible refine Bex.drewN ?_ _ | with_reducible refine Bex.own ?_ ?_ _ | with_reducible exact Nat.le_refl _ | (dsimp only; omega) | (refine Bex.trans ?_ (by with_reducible assumption)) | (refine Bex.of ?_ (by with_reducible assumption))))
  have hWz := hc7.new
  have hWo := hc.old
  clear R0 hb1 hb2 hb3 hb4 hb5 hb6 hb7 hc1 hc2 hc3 hc4 hc5 hc6
  go_wp2_with fail
  refine (c_l06Segment c b 128 _ (by repeat (first | with_reducible assumption | with_reducible refine Cur.alloc ?_ _ | with_reducible refine Cur.drew ?_ | with_reducible refine Cur.drewN ?_ _ | with_reducible refine Cur.other ?_ ?_ ?_ _ | (dsimp only; omega) | (refine Cur.next ?_ (by with_reducible assumption)))) (by omega)).mono ?_
  rintro e w8 ⟨v8, ⟨kind, sp, dp, sq, ak, fl, wn, body, rfl, hseg, hbody⟩, rfl, hb8, hc8⟩
  have L8 := BoxAt.bex L7 hb8 hl7
  have R8 := BoxAt.bex (BoxAt.alloc R7 _) hb8 hne
  have b8 : Bex b w w8 := (b7.alloc _).trans hb8
  clear b7 hb8 hc7 R7 L7
  have k0 := L8.cell 0
  have k1 := L8.cell 1
  have k2 := L8.cell 2
  have k3 := L8.cell 3
  have k4 := L8.cell 4
  have k5 := L8.cell 5
  have k6 := L8.cell 6
  have k7 := L8.cell 7
  have k8 := L8.cell 8
  have k9 := L8.cell 9
  have k10 := L8.cell 10
  have k11 := L8.cell 11
  have k12 := L8.cell 12
  have k13 := L8.cell 13
  have k14 := L8.cell 14
  have k15 := L8.cell 15
  have hfk := L8.frozen
  have hzk := L8.old
  simp at k0 k1 k2 k3 k4 k5 k6 k7 k8 k9 k10 k11 k12 k13 k14 k15
  have r0 := R8.cell 0
  have r1 := R8.cell 1
  have r2 := R8.cell 2
  have r3 := R8.cell 3
  have r4 := R8.cell 4
  have r5 := R8.cell 5
  have r6 := R8.cell 6
  have r7 := R8.cell 7
  have r8 := R8.cell 8
  have r9 := R8.cell 9
  have r10 := R8.cell 10
  have r11 := R8.cell 11
  have r12 := R8.cell 12
  have r13 := R8.cell 13
  have r14 := R8.cell 14
  have r15 := R8.cell 15
  have hfr := R8.frozen
  have hzr := R8.old
  simp at r0 r1 r2 r3 r4 r5 r6 r7 r8 r9 r10 r11 r12 r13 r14 r15
  go_upto_region 3 with fail
  refine wp_at (I := fun W => Bex b w W ∧ Cur c b W ∧ BoxAt w.heap.size [.int .i64 dm, .int .i64 sm, .int .i64 vl, .int .i64 tos, .int .i64 id, .int .i64 ttl, .int .i64 si, .int .i64 167772161, .int .i64 kind, .int .i64 sp, .int .i64 dp, .int .i64 sq, .int .i64 ak, .int .i64 fl, .int .i64 wn, .string body] w7.heap.size W ∧ BoxAt w.heap.size [.int .i64 0, .int .i64 0, .int .i64 0, .int .i64 0, .int .i64 0, .int .i64 0, .int .i64 0, .int .i64 0, .int .i64 0, .int .i64 0, .int .i64 0, .int .i64 0, .int .i64 0, .int .i64 0, .int .i64 0, .string (P.bs [])] w.heap.size W) ⟨(by repeat (first | with_reducible assumption | with_reducible exact Bex.refl _ _ | with_reducible refine Bex.alloc ?_ _ | with_reducible refine Bex.drew ?_ | with_reducible refine Bex.drewN ?_ _ | with_reducible refine Bex.own ?_ ?_ _ | with_reducible exact Nat.le_refl _ | (dsimp only; omega) | (refine Bex.trans ?_ (by with_reducible assumption)) | (refine Bex.of ?_ (by with_reducible assumption)))), (by repeat (first | with_reducible assumption | with_reducible refine Cur.alloc ?_ _ | with_reducible refine Cur.drew ?_ | with_reducible refine Cur.drewN ?_ _ | with_reducible refine Cur.other ?_ ?_ ?_ _ | (dsimp only; omega) | (refine Cur.next ?_ (by with_reducible assumption)))), (BoxAt.set (BoxAt.set (BoxAt.set (BoxAt.set (BoxAt.set (BoxAt.set (BoxAt.set (BoxAt.set L8 8 (by simp) _) 9 (by simp) _) 10 (by simp) _) 11 (by simp) _) 12 (by simp) _) 13 (by simp) _) 14 (by simp) _) 15 (by simp) _), (BoxAt.other (BoxAt.other (BoxAt.other (BoxAt.other (BoxAt.other (BoxAt.other (BoxAt.other (BoxAt.other R8 hlr _) hlr _) hlr _) hlr _) hlr _) hlr _) hlr _) hlr _)⟩ ?_
  rintro w9 ⟨b9, hc9, L9, R9⟩
  clear k0 k1 k2 k3 k4 k5 k6 k7 k8 k9 k10 k11 k12 k13 k14 k15 hfk hzk
  clear r0 r1 r2 r3 r4 r5 r6 r7 r8 r9 r10 r11 r12 r13 r14 r15 hfr hzr
  clear L8 R8 b8 hc8
  have k8 := L9.cell 8
  have k13 := L9.cell 13
  have hfk := L9.frozen
  have hzk := L9.old
  simp at k8 k13
  rcases P.segOk_kind hseg with rfl | ⟨rfl, rfl, rfl, rfl, rfl⟩
  · cases hst : (bits .andNot .i64 fl 9 == 16)
    · skip
      have r0 := R9.cell 0
      have r1 := R9.cell 1
      have r2 := R9.cell 2
      have r3 := R9.cell 3
      have r4 := R9.cell 4
      have r5 := R9.cell 5
      have r6 := R9.cell 6
      have r7 := R9.cell 7
      have r8 := R9.cell 8
      have r9 := R9.cell 9
      have r10 := R9.cell 10
      have r11 := R9.cell 11
      have r12 := R9.cell 12
      have r13 := R9.cell 13
      have r14 := R9.cell 14
      have r15 := R9.cell 15
      have hfr := R9.frozen
      have hzr := R9.old
      simp at r0 r1 r2 r3 r4 r5 r6 r7 r8 r9 r10 r11 r12 r13 r14 r15
      go_wp2_with (refine wpList_load_box rfl 55 _ rfl L9 rfl Try.underlying55 rfl (by kernel_rfl) ?_)
      refine post_at (I := fun W => Bex b w W ∧ Cur c b W) ⟨Bex.own16 b9 (Nat.le_refl _) _ _ _ _ _ _ _ _ _ _ _ _ _ _ _ _, Cur.other16 hc9 hne (by omega) _ _ _ _ _ _ _ _ _ _ _ _ _ _ _ _⟩ (BoxAt.set16 R9 rfl _ _ _ _ _ _ _ _ _ _ _ _ _ _ _ _) ?_
      rintro W ⟨hB, hC⟩ RF
      exact bodyPost_ret (v := .agg #[.int .i64 dm, .int .i64 sm, .int .i64 vl, .int .i64 tos, .int .i64 id, .int .i64 ttl, .int .i64 si, .int .i64 167772161, .int .i64 6, .int .i64 sp, .int .i64 dp, .int .i64 sq, .int .i64 ak, .int .i64 fl, .int .i64 wn, .string body]) (result_box RF Try.results59 rfl Try.underlying55 rfl (by kernel_rfl)) rfl ⟨_, ⟨_, _, _, _, _, _, _, _, _, _, _, _, _, _, _, _, rfl, P.superOk_mk rdm rsm rvl rtos rid rttl (by omega) (by omega) hseg (Or.inl (by omega)), by omega⟩, rfl, hB, hC⟩
    · skip
      go_wp2_with fail
      refine (c_l01Once c b 2 _ hc9 (by omega)).mono ?_
      rintro e w10 ⟨v10, ⟨x10, rfl⟩, rfl, hb10, hc10⟩
      clear k8 k13 hfk hzk
      have b10 := b9.trans hb10
      have L10 := BoxAt.bex L9 hb10 hl7
      have R10 := BoxAt.bex R9 hb10 hne
      clear L9 R9 b9 hb10 hc9
      cases x10 with
      | false =>
        have r0 := R10.cell 0
        have r1 := R10.cell 1
        have r2 := R10.cell 2
        have r3 := R10.cell 3
        have r4 := R10.cell 4
        have r5 := R10.cell 5
        have r6 := R10.cell 6
        have r7 := R10.cell 7
        have r8 := R10.cell 8
        have r9 := R10.cell 9
        have r10 := R10.cell 10
        have r11 := R10.cell 11
        have r12 := R10.cell 12
        have r13 := R10.cell 13
        have r14 := R10.cell 14
        have r15 := R10.cell 15
        have hfr := R10.frozen
        have hzr := R10.old
        simp at r0 r1 r2 r3 r4 r5 r6 r7 r8 r9 r10 r11 r12 r13 r14 r15
        go_wp2_with (refine wpList_load_box rfl 55 _ rfl L10 rfl Try.underlying55 rfl (by kernel_rfl) ?_)
        refine post_at (I := fun W => Bex b w W ∧ Cur c b W) ⟨Bex.own16 b10 (Nat.le_refl _) _ _ _ _ _ _ _ _ _ _ _ _ _ _ _ _, Cur.other16 hc10 hne (by omega) _ _ _ _ _ _ _ _ _ _ _ _ _ _ _ _⟩ (BoxAt.set16 R10 rfl _ _ _ _ _ _ _ _ _ _ _ _ _ _ _ _) ?_
        rintro W ⟨hB, hC⟩ RF
        exact bodyPost_ret (v := .agg #[.int .i64 dm, .int .i64 sm, .int .i64 vl, .int .i64 tos, .int .i64 id, .int .i64 ttl, .int .i64 si, .int .i64 167772161, .int .i64 6, .int .i64 sp, .int .i64 dp, .int .i64 sq, .int .i64 ak, .int .i64 fl, .int .i64 wn, .string body]) (result_box RF Try.results59 rfl Try.underlying55 rfl (by kernel_rfl)) rfl ⟨_, ⟨_, _, _, _, _, _, _, _, _, _, _, _, _, _, _, _, rfl, P.superOk_mk rdm rsm rvl rtos rid rttl (by omega) (by omega) hseg (Or.inl (by omega)), by omega⟩, rfl, hB, hC⟩
      | true =>
        go_wp2_with fail
        refine (c_l01Below c b 193 _ hc10 (by omega)).mono ?_
        rintro e w11 ⟨v11, ⟨n, rfl, hn0, hn1⟩, rfl, hb11, hc11⟩
        rw [if_neg (by omega)] at hn1
        go_wp2_with fail
        refine (c_l01Text c b (128 + n) _ hc11 (by omega)).mono ?_
        rintro e w12 ⟨v12, ⟨body2, rfl, hbody2⟩, rfl, hb12, hc12⟩
        have L12 := BoxAt.bex (BoxAt.bex L10 hb11 hl7) hb12 hl7
        have R12 := BoxAt.bex (BoxAt.bex R10 hb11 hne) hb12 hne
        have b12 := (b10.trans hb11).trans hb12
        clear L10 R10 b10 hb11 hc10 hb12 hc11
        have hst2 : P.stream fl = true := by rw [← P.stream_spec fl (P.segOk_flags hseg rfl)]; exact hst
        have hseg2 : P.segOk 6 sp dp sq ak fl wn body2.size = true := by have := of_decide_eq_true hseg; exact decide_eq_true (by omega)
        have k15 := L12.cell 15
        have hfk := L12.frozen
        have hzk := L12.old
        simp at k15
        go_upto_region 5 with fail
        refine wp_at (I := fun W => Bex b w W ∧ Cur c b W ∧ BoxAt w.heap.size [.int .i64 dm, .int .i64 sm, .int .i64 vl, .int .i64 tos, .int .i64 id, .int .i64 ttl, .int .i64 si, .int .i64 167772161, .int .i64 6, .int .i64 sp, .int .i64 dp, .int .i64 sq, .int .i64 ak, .int .i64 fl, .int .i64 wn, .string body2] w7.heap.size W ∧ BoxAt w.heap.size [.int .i64 0, .int .i64 0, .int .i64 0, .int .i64 0, .int .i64 0, .int .i64 0, .int .i64 0, .int .i64 0, .int .i64 0, .int .i64 0, .int .i64 0, .int .i64 0, .int .i64 0, .int .i64 0, .int .i64 0, .string (P.bs [])] w.heap.size W) ⟨(by repeat (first | with_reducible assumption | with_reducible exact Bex.refl _ _ | with_reducible refine Bex.alloc ?_ _ | with_reducible refine Bex.drew ?_ | with_reducible refine Bex.drewN ?_ _ | with_reducible refine Bex.own ?_ ?_ _ | with_reducible exact Nat.le_refl _ | (dsimp only; omega) | (refine Bex.trans ?_ (by with_reducible assumption)) | (refine Bex.of ?_ (by with_reducible assumption)))), (by repeat (first | with_reducible assumption | with_reducible refine Cur.alloc ?_ _ | with_reducible refine Cur.drew ?_ | with_reducible refine Cur.drewN ?_ _ | with_reducible refine Cur.other ?_ ?_ ?_ _ | (dsimp only; omega) | (refine Cur.next ?_ (by with_reducible assumption)))), (BoxAt.set L12 15 (by simp) _), (BoxAt.other R12 hlr _)⟩ ?_
        rintro w13 ⟨b13, hc13, L13, R13⟩
        clear k15 hfk hzk L12 R12 b12 hc12
        have r0 := R13.cell 0
        have r1 := R13.cell 1
        have r2 := R13.cell 2
        have r3 := R13.cell 3
        have r4 := R13.cell 4
        have r5 := R13.cell 5
        have r6 := R13.cell 6
        have r7 := R13.cell 7
        have r8 := R13.cell 8
        have r9 := R13.cell 9
        have r10 := R13.cell 10
        have r11 := R13.cell 11
        have r12 := R13.cell 12
        have r13 := R13.cell 13
        have r14 := R13.cell 14
        have r15 := R13.cell 15
        have hfr := R13.frozen
        have hzr := R13.old
        simp at r0 r1 r2 r3 r4 r5 r6 r7 r8 r9 r10 r11 r12 r13 r14 r15
        go_wp2_with (refine wpList_load_box rfl 55 _ rfl L13 rfl Try.underlying55 rfl (by kernel_rfl) ?_)
        refine post_at (I := fun W => Bex b w W ∧ Cur c b W) ⟨Bex.own16 b13 (Nat.le_refl _) _ _ _ _ _ _ _ _ _ _ _ _ _ _ _ _, Cur.other16 hc13 hne (by omega) _ _ _ _ _ _ _ _ _ _ _ _ _ _ _ _⟩ (BoxAt.set16 R13 rfl _ _ _ _ _ _ _ _ _ _ _ _ _ _ _ _) ?_
        rintro W ⟨hB, hC⟩ RF
        exact bodyPost_ret (v := .agg #[.int .i64 dm, .int .i64 sm, .int .i64 vl, .int .i64 tos, .int .i64 id, .int .i64 ttl, .int .i64 si, .int .i64 167772161, .int .i64 6, .int .i64 sp, .int .i64 dp, .int .i64 sq, .int .i64 ak, .int .i64 fl, .int .i64 wn, .string body2]) (result_box RF Try.results59 rfl Try.underlying55 rfl (by kernel_rfl)) rfl ⟨_, ⟨_, _, _, _, _, _, _, _, _, _, _, _, _, _, _, _, rfl, P.superOk_mk rdm rsm rvl rtos rid rttl (by omega) (by omega) hseg2 (Or.inr ⟨rfl, hst2⟩), by omega⟩, rfl, hB, hC⟩
  · skip
    have r0 := R9.cell 0
    have r1 := R9.cell 1
    have r2 := R9.cell 2
    have r3 := R9.cell 3
    have r4 := R9.cell 4
    have r5 := R9.cell 5
    have r6 := R9.cell 6
    have r7 := R9.cell 7
    have r8 := R9.cell 8
    have r9 := R9.cell 9
    have r10 := R9.cell 10
    have r11 := R9.cell 11
    have r12 := R9.cell 12
    have r13 := R9.cell 13
    have r14 := R9.cell 14
    have r15 := R9.cell 15
    have hfr := R9.frozen
    have hzr := R9.old
    simp at r0 r1 r2 r3 r4 r5 r6 r7 r8 r9 r10 r11 r12 r13 r14 r15
    go_wp2_with (refine wpList_load_box rfl 55 _ rfl L9 rfl Try.underlying55 rfl (by kernel_rfl) ?_)
    refine post_at (I := fun W => Bex b w W ∧ Cur c b W) ⟨Bex.own16 b9 (Nat.le_refl _) _ _ _ _ _ _ _ _ _ _ _ _ _ _ _ _, Cur.other16 hc9 hne (by omega) _ _ _ _ _ _ _ _ _ _ _ _ _ _ _ _⟩ (BoxAt.set16 R9 rfl _ _ _ _ _ _ _ _ _ _ _ _ _ _ _ _) ?_
    rintro W ⟨hB, hC⟩ RF
    exact bodyPost_ret (v := .agg #[.int .i64 dm, .int .i64 sm, .int .i64 vl, .int .i64 tos, .int .i64 id, .int .i64 ttl, .int .i64 si, .int .i64 167772161, .int .i64 17, .int .i64 sp, .int .i64 dp, .int .i64 0, .int .i64 0, .int .i64 0, .int .i64 0, .string body]) (result_box RF Try.results59 rfl Try.underlying55 rfl (by kernel_rfl)) rfl ⟨_, ⟨_, _, _, _, _, _, _, _, _, _, _, _, _, _, _, _, rfl, P.superOk_mk rdm rsm rvl rtos rid rttl (by omega) (by omega) hseg (Or.inl (by omega)), by omega⟩, rfl, hB, hC⟩
def DrewSuper (w : World) (e : Ending) (w' : World) : Prop := ∃ (dm : Int) (sm : Int) (vl : Int) (tos : Int) (id : Int) (ttl : Int) (si : Int) (di : Int) (kind : Int) (sp : Int) (dp : Int) (sq : Int) (ak : Int) (fl : Int) (wn : Int) (body : ByteArray), P.superOk dm sm vl tos id ttl si di kind sp dp sq ak fl wn body.size = true ∧ body.size ≤ 320 ∧ e = .returned (.agg #[.int .i64 dm, .int .i64 sm, .int .i64 vl, .int .i64 tos, .int .i64 id, .int .i64 ttl, .int .i64 si, .int .i64 di, .int .i64 kind, .int .i64 sp, .int .i64 dp, .int .i64 sq, .int .i64 ak, .int .i64 fl, .int .i64 wn, .string body]) ∧ Bel w w'
set_option maxHeartbeats 2000000 in
theorem c_DrawSuper (W : World) (a : Option Addr) (len cap : Nat) (z : List Int) (w : World) (hrow : IsRow W a len cap z) (hsmall : len ≤ 1048576) (hW : Bel W w) :
    Calls Try.prog 46 #[.slice a len cap] w (DrewSuper w) := by
  go_enter Try.func46, Try.ntmps46
  have R0 := boxAt_alloc (n := w.heap.size) (w := w) (Nat.le_refl _) #[.int .i64 0, .int .i64 0, .int .i64 0, .int .i64 0, .int .i64 0, .int .i64 0, .int .i64 0, .int .i64 0, .int .i64 0, .int .i64 0, .int .i64 0, .int .i64 0, .int .i64 0, .int .i64 0, .int .i64 0, .string (P.bs [])] 55
  go_wp2_with fail
  refine (c_l01New W a len cap z _ hrow hsmall (hW.alloc _)).mono ?_
  rintro e w0 ⟨b, rfl, hb0, hnb, hc0⟩
  simp at hnb
  have hne : ¬ w.heap.size = b := by omega
  have R1 := R0.bel hb0
  clear R0
  have q0 := R1.cell 0
  have q1 := R1.cell 1
  have q2 := R1.cell 2
  have q3 := R1.cell 3
  have q4 := R1.cell 4
  have q5 := R1.cell 5
  have q6 := R1.cell 6
  have q7 := R1.cell 7
  have q8 := R1.cell 8
  have q9 := R1.cell 9
  have q10 := R1.cell 10
  have q11 := R1.cell 11
  have q12 := R1.cell 12
  have q13 := R1.cell 13
  have q14 := R1.cell 14
  have q15 := R1.cell 15
  have hfq := R1.frozen
  have hzq := R1.old
  simp at q0 q1 q2 q3 q4 q5 q6 q7 q8 q9 q10 q11 q12 q13 q14 q15
  go_wp2_with fail
  refine (c_l07Packet320 _ b _ hc0).mono ?_
  rintro e w1 ⟨v, ⟨dm, sm, vl, tos, id, ttl, si, di, kind, sp, dp, sq, ak, fl, wn, body, rfl, hok, hlen⟩, rfl, hb1, hc1⟩
  clear q0 q1 q2 q3 q4 q5 q6 q7 q8 q9 q10 q11 q12 q13 q14 q15 hfq hzq
  have R2 := R1.bex hb1 hne
  have hB1 : Bel w w1 := (((Bel.refl w).alloc _).trans hb0).bex hb1 (by omega)
  clear R1 hb0 hb1
  have r0 := R2.cell 0
  have r1 := R2.cell 1
  have r2 := R2.cell 2
  have r3 := R2.cell 3
  have r4 := R2.cell 4
  have r5 := R2.cell 5
  have r6 := R2.cell 6
  have r7 := R2.cell 7
  have r8 := R2.cell 8
  have r9 := R2.cell 9
  have r10 := R2.cell 10
  have r11 := R2.cell 11
  have r12 := R2.cell 12
  have r13 := R2.cell 13
  have r14 := R2.cell 14
  have r15 := R2.cell 15
  have hfr := R2.frozen
  have hzr := R2.old
  simp at r0 r1 r2 r3 r4 r5 r6 r7 r8 r9 r10 r11 r12 r13 r14 r15
  go_wp2
  refine post_at (I := fun W' => Bel w W') (Bel.set16 hB1 (Nat.le_refl _) _ _ _ _ _ _ _ _ _ _ _ _ _ _ _ _) (BoxAt.set16 R2 rfl _ _ _ _ _ _ _ _ _ _ _ _ _ _ _ _) ?_
  intro W' hB RF
  exact bodyPost_ret (v := .agg #[.int .i64 dm, .int .i64 sm, .int .i64 vl, .int .i64 tos, .int .i64 id, .int .i64 ttl, .int .i64 si, .int .i64 di, .int .i64 kind, .int .i64 sp, .int .i64 dp, .int .i64 sq, .int .i64 ak, .int .i64 fl, .int .i64 wn, .string body]) (result_box RF Try.results46 rfl Try.underlying55 rfl (by kernel_rfl)) rfl ⟨_, _, _, _, _, _, _, _, _, _, _, _, _, _, _, _, hok, hlen, rfl, hB⟩
end Go.Proofs.Ytnpnkkjdnmgbkaa
