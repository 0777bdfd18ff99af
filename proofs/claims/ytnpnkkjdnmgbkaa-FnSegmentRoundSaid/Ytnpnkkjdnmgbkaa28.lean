/-
  The contracts of the reference's draws, sixth part: packets. They say that these can be built.
-/
import Derived.Test.Ytnpnkkjdnmgbkaa27
import Derived.Test.YtnpnkkjdnmgbkaaPureC
namespace Go.Proofs.Ytnpnkkjdnmgbkaa
open Go.RowKit
set_option linter.unusedVariables false

theorem rowI_alloc2 (w : World) (o : Obj) (l : List Int) (t : TypeId) : ∀ j (hj : j < l.length), ((w.alloc o).alloc (.cells (l.map (Value.int .i64)).toArray t)).cell? ⟨w.heap.size + 1, j, none⟩ = some (.int .i64 l[j]) := fun j hj => by
  have h := rowI_alloc (w.alloc o) l t j hj
  rwa [show (w.alloc o).heap.size = w.heap.size + 1 by simp] at h
theorem Bex.own16 {b : Nat} {x y : World} (h : Bex b x y) {g : Nat} (hg : x.heap.size ≤ g) (v0 v1 v2 v3 v4 v5 v6 v7 v8 v9 v10 v11 v12 v13 v14 v15 : Value) : Bex b x ((((((((((((((((y.setCell ⟨g, 0, none⟩ v0).setCell ⟨g, 1, none⟩ v1).setCell ⟨g, 2, none⟩ v2).setCell ⟨g, 3, none⟩ v3).setCell ⟨g, 4, none⟩ v4).setCell ⟨g, 5, none⟩ v5).setCell ⟨g, 6, none⟩ v6).setCell ⟨g, 7, none⟩ v7).setCell ⟨g, 8, none⟩ v8).setCell ⟨g, 9, none⟩ v9).setCell ⟨g, 10, none⟩ v10).setCell ⟨g, 11, none⟩ v11).setCell ⟨g, 12, none⟩ v12).setCell ⟨g, 13, none⟩ v13).setCell ⟨g, 14, none⟩ v14).setCell ⟨g, 15, none⟩ v15) :=
  (((((((((((((((((h.own (p := ⟨g, 0, none⟩) hg _).own (p := ⟨g, 1, none⟩) hg _).own (p := ⟨g, 2, none⟩) hg _).own (p := ⟨g, 3, none⟩) hg _).own (p := ⟨g, 4, none⟩) hg _).own (p := ⟨g, 5, none⟩) hg _).own (p := ⟨g, 6, none⟩) hg _).own (p := ⟨g, 7, none⟩) hg _).own (p := ⟨g, 8, none⟩) hg _).own (p := ⟨g, 9, none⟩) hg _).own (p := ⟨g, 10, none⟩) hg _).own (p := ⟨g, 11, none⟩) hg _).own (p := ⟨g, 12, none⟩) hg _).own (p := ⟨g, 13, none⟩) hg _).own (p := ⟨g, 14, none⟩) hg _).own (p := ⟨g, 15, none⟩) hg _))
theorem Cur.other16 {c : Src} {b : Nat} {y : World} (h : Cur c b y) {g : Nat} (hb : ¬ g = b) (hg : c.W.heap.size ≤ g) (v0 v1 v2 v3 v4 v5 v6 v7 v8 v9 v10 v11 v12 v13 v14 v15 : Value) : Cur c b ((((((((((((((((y.setCell ⟨g, 0, none⟩ v0).setCell ⟨g, 1, none⟩ v1).setCell ⟨g, 2, none⟩ v2).setCell ⟨g, 3, none⟩ v3).setCell ⟨g, 4, none⟩ v4).setCell ⟨g, 5, none⟩ v5).setCell ⟨g, 6, none⟩ v6).setCell ⟨g, 7, none⟩ v7).setCell ⟨g, 8, none⟩ v8).setCell ⟨g, 9, none⟩ v9).setCell ⟨g, 10, none⟩ v10).setCell ⟨g, 11, none⟩ v11).setCell ⟨g, 12, none⟩ v12).setCell ⟨g, 13, none⟩ v13).setCell ⟨g, 14, none⟩ v14).setCell ⟨g, 15, none⟩ v15) :=
  (((((((((((((((((h.other (p := ⟨g, 0, none⟩) hb hg _).other (p := ⟨g, 1, none⟩) hb hg _).other (p := ⟨g, 2, none⟩) hb hg _).other (p := ⟨g, 3, none⟩) hb hg _).other (p := ⟨g, 4, none⟩) hb hg _).other (p := ⟨g, 5, none⟩) hb hg _).other (p := ⟨g, 6, none⟩) hb hg _).other (p := ⟨g, 7, none⟩) hb hg _).other (p := ⟨g, 8, none⟩) hb hg _).other (p := ⟨g, 9, none⟩) hb hg _).other (p := ⟨g, 10, none⟩) hb hg _).other (p := ⟨g, 11, none⟩) hb hg _).other (p := ⟨g, 12, none⟩) hb hg _).other (p := ⟨g, 13, none⟩) hb hg _).other (p := ⟨g, 14, none⟩) hb hg _).other (p := ⟨g, 15, none⟩) hb hg _))
/-- a packet that can be built, of at most m bytes -/
def PackV (m : Nat) (v : Value) : Prop := ∃ (dm sm vl tos id ttl si di kind sp dp sq ak fl wn : Int) (body : ByteArray), v = .agg #[.int .i64 dm, .int .i64 sm, .int .i64 vl, .int .i64 tos, .int .i64 id, .int .i64 ttl, .int .i64 si, .int .i64 di, .int .i64 kind, .int .i64 sp, .int .i64 dp, .int .i64 sq, .int .i64 ak, .int .i64 fl, .int .i64 wn, .string body] ∧ P.superOk dm sm vl tos id ttl si di kind sp dp sq ak fl wn body.size = true ∧ body.size ≤ m
theorem P.superOk_mk {dm sm vl tos id ttl si di kind sp dp sq ak fl wn : Int} {n : Nat} (h1 : 0 ≤ dm ∧ dm ≤ 281474976710655) (h2 : 0 ≤ sm ∧ sm ≤ 281474976710655) (h3 : -1 ≤ vl ∧ vl ≤ 4095) (h4 : 0 ≤ tos ∧ tos ≤ 255) (h5 : 0 ≤ id ∧ id ≤ 65535) (h6 : 0 ≤ ttl ∧ ttl ≤ 255) (h7 : 0 ≤ si ∧ si ≤ 4294967295) (h8 : 0 ≤ di ∧ di ≤ 4294967295)
    (hs : P.segOk kind sp dp sq ak fl wn n = true) (hn : n ≤ 128 ∨ (kind = 6 ∧ P.stream fl = true)) : P.superOk dm sm vl tos id ttl si di kind sp dp sq ak fl wn n = true := by
  unfold P.superOk
  rw [hs, show P.superR dm sm vl tos id ttl si di = true from decide_eq_true ⟨h1.1, h1.2, h2.1, h2.2, h3.1, h3.2, h4.1, h4.2, h6.1, h6.2, h5.1, h5.2, h7.1, h7.2, h8.1, h8.2⟩]
  rcases hn with hn | ⟨hk, hf⟩
  · rw [decide_eq_true hn]; rfl
  · rw [hf, decide_eq_true hk]; simp

set_option maxHeartbeats 16000000 in
theorem c_l07Packet (c : Src) (b : Nat) (most : Int) (w : World) (hc : Cur c b w) (hm : 0 ≤ most ∧ most ≤ 128) :
    Calls Try.prog 59 #[.pointer (some ⟨b, 0, none⟩), .int .i64 most] w (Drew c b w (PackV most.toNat)) := by
  have hne : ¬ w.heap.size = b := by have := hc.old; omega
  go_enter Try.func59, Try.ntmps59
  have R0 := boxAt_alloc (n := w.heap.size) (w := w) (Nat.le_refl _) #[.int .i64 0, .int .i64 0, .int .i64 0, .int .i64 0, .int .i64 0, .int .i64 0, .int .i64 0, .int .i64 0, .int .i64 0, .int .i64 0, .int .i64 0, .int .i64 0, .int .i64 0, .int .i64 0, .int .i64 0, .string (P.bs [])] 55
  go_wp2_with fail
  refine (c_l01PickInt c b (w.heap.size + 1) [2, 2, 2, 4, 281474976710655] 5 rfl (by decide) (by decide) _ (by have := hc.old; omega) (rowI_alloc2 w _ _ 3) (Cur.alloc (Cur.alloc hc _) _)).mono ?_
  rintro e w1 ⟨v1, ⟨dm, hdm, rfl⟩, rfl, hb1, hc1⟩
  have rdm : 0 ≤ dm ∧ dm ≤ 281474976710655 := by simp at hdm; omega
  clear hdm
  go_wp2_with fail
  refine (c_l01PickInt c b w1.heap.size [6, 8] 2 rfl (by decide) (by decide) _ (by have := hc1.old; omega) (rowI_alloc w1 _ 3) (Cur.alloc hc1 _)).mono ?_
  rintro e w2 ⟨v2, ⟨sm, hsm, rfl⟩, rfl, hb2, hc2⟩
  have rsm : 0 ≤ sm ∧ sm ≤ 281474976710655 := by simp at hsm; omega
  clear hsm
  go_wp2_with fail
  refine (c_l01PickInt c b w2.heap.size [-1, -1, 7] 3 rfl (by decide) (by decide) _ (by have := hc2.old; omega) (rowI_alloc w2 _ 3) (Cur.alloc hc2 _)).mono ?_
  rintro e w3 ⟨v3, ⟨vl, hvl, rfl⟩, rfl, hb3, hc3⟩
  have rvl : -1 ≤ vl ∧ vl ≤ 4095 := by simp at hvl; omega
  clear hvl
  go_wp2_with fail
  refine (c_l01PickInt c b w3.heap.size [0, 0, 255] 3 rfl (by decide) (by decide) _ (by have := hc3.old; omega) (rowI_alloc w3 _ 3) (Cur.alloc hc3 _)).mono ?_
  rintro e w4 ⟨v4, ⟨tos, htos, rfl⟩, rfl, hb4, hc4⟩
  have rtos : 0 ≤ tos ∧ tos ≤ 255 := by simp at htos; omega
  clear htos
  go_wp2_with fail
  refine (c_l01PickInt c b w4.heap.size [1, 65535, 65534] 3 rfl (by decide) (by decide) _ (by have := hc4.old; omega) (rowI_alloc w4 _ 3) (Cur.alloc hc4 _)).mono ?_
  rintro e w5 ⟨v5, ⟨id, hid, rfl⟩, rfl, hb5, hc5⟩
  have rid : 0 ≤ id ∧ id ≤ 65535 := by simp at hid; omega
  clear hid
  go_wp2_with fail
  refine (c_l01PickInt c b w5.heap.size [64, 64, 255] 3 rfl (by decide) (by decide) _ (by have := hc5.old; omega) (rowI_alloc w5 _ 3) (Cur.alloc hc5 _)).mono ?_
  rintro e w6 ⟨v6, ⟨ttl, httl, rfl⟩, rfl, hb6, hc6⟩
  have rttl : 0 ≤ ttl ∧ ttl ≤ 255 := by simp at httl; omega
  clear httl
  go_wp2_with fail
  refine (c_l06Host c b _ hc6).mono ?_
  rintro e w7 ⟨v7, ⟨si, rfl, hsi0, hsi1⟩, rfl, hb7, hc7⟩
  have R7 := BoxAt.bex (BoxAt.bex (BoxAt.alloc (BoxAt.bex (BoxAt.alloc (BoxAt.bex (BoxAt.alloc (BoxAt.bex (BoxAt.alloc (BoxAt.bex (BoxAt.alloc (BoxAt.bex (R0.alloc _) hb1 hne) _) hb2 hne) _) hb3 hne) _) hb4 hne) _) hb5 hne) _) hb6 hne) hb7 hne
  have hz7 := R7.old
  have hl7 : ¬ w7.heap.size = b := by have := hc7.old; omega
  have hlr : ¬ w7.heap.size = w.heap.size := by omega
  have L7 := boxAt_alloc (n := w.heap.size) (w := w7) (by omega) #[.int .i64 dm, .int .i64 sm, .int .i64 vl, .int .i64 tos, .int .i64 id, .int .i64 ttl, .int .i64 si, .int .i64 167772161, .int .i64 0, .int .i64 0, .int .i64 0, .int .i64 0, .int .i64 0, .int .i64 0, .int .i64 0, .string (P.bs [])] 55
  have b7 : Bex b w w7 := (by repeat (first | with_reducible assumption | with_reducible exact Bex.refl _ _ | with_reducible refine Bex.alloc ?_ _ | with_reducible refine Bex.drew ?_ | with_reducible refine Bex.drewN ?_ _ | with_reducible refine Bex.own ?_ ?_ _ | with_reducible exact Nat.le_refl _ | (dsimp only; omega) | (refine Bex.trans ?_ (by with_reducible assumption)) | (refine Bex.of ?_ (by with_reducible assumption))))
  have hWz := hc7.new
  have hWo := hc.old
  clear R0 hb1 hb2 hb3 hb4 hb5 hb6 hb7 hc1 hc2 hc3 hc4 hc5 hc6
  go_wp2_with fail
  refine (c_l06Segment c b most _ (by repeat (first | with_reducible assumption | with_reducible refine Cur.alloc ?_ _ | with_reducible refine Cur.drew ?_ | with_reducible refine Cur.drewN ?_ _ | with_reducible refine Cur.other ?_ ?_ ?_ _ | (dsimp only; omega) | (refine Cur.next ?_ (by with_reducible assumption)))) (by omega)).mono ?_
  rintro e w8 ⟨v8, ⟨kind, sp, dp, sq, ak, fl, wn, body, rfl, hseg, hbody⟩, rfl, hb8, hc8⟩
  have L8 := BoxAt.bex L7 hb8 hl7
  have R8 := BoxAt.bex (BoxAt.alloc R7 _) hb8 hne
  have b8 : Bex b w w8 := (b7.alloc _).trans hb8
  clear b7 hb8 hc7 R7 L7
  have k0 := L8.cell 0
  have k1 := L8.cell 1
  have k2 := L8.cell 2
  have k3 := L8.cell 3
  have k4 := L8.cell 4
  have k5 := L8.cell 5
  have k6 := L8.cell 6
  have k7 := L8.cell 7
  have k8 := L8.cell 8
  have k9 := L8.cell 9
  have k10 := L8.cell 10
  have k11 := L8.cell 11
  have k12 := L8.cell 12
  have k13 := L8.cell 13
  have k14 := L8.cell 14
  have k15 := L8.cell 15
  have hfk := L8.frozen
  have hzk := L8.old
  simp at k0 k1 k2 k3 k4 k5 k6 k7 k8 k9 k10 k11 k12 k13 k14 k15
  have r0 := R8.cell 0
  have r1 := R8.cell 1
  have r2 := R8.cell 2
  have r3 := R8.cell 3
  have r4 := R8.cell 4
  have r5 := R8.cell 5
  have r6 := R8.cell 6
  have r7 := R8.cell 7
  have r8 := R8.cell 8
  have r9 := R8.cell 9
  have r10 := R8.cell 10
  have r11 := R8.cell 11
  have r12 := R8.cell 12
  have r13 := R8.cell 13
  have r14 := R8.cell 14
  have r15 := R8.cell 15
  have hfr := R8.frozen
  have hzr := R8.old
  simp at r0 r1 r2 r3 r4 r5 r6 r7 r8 r9 r10 r11 r12 r13 r14 r15
  have hnot : ¬ most > 128 := by omega
  rcases P.segOk_kind hseg with rfl | ⟨rfl, rfl, rfl, rfl, rfl⟩
  · cases hst : (bits .andNot .i64 fl 9 == 16)
    · skip
      go_wp2
      refine post_at (I := fun W => Bex b w W ∧ Cur c b W) ⟨Bex.own16 (by repeat (first | with_reducible assumption | with_reducible exact Bex.refl _ _ | with_reducible refine Bex.alloc ?_ _ | with_reducible refine Bex.drew ?_ | with_reducible refine Bex.drewN ?_ _ | with_reducible refine Bex.own ?_ ?_ _ | with_reducible exact Nat.le_refl _ | (dsimp only; omega) | (refine Bex.trans ?_ (by with_reducible assumption)) | (refine Bex.of ?_ (by with_reducible assumption)))) (Nat.le_refl _) _ _ _ _ _ _ _ _ _ _ _ _ _ _ _ _, Cur.other16 (by repeat (first | with_reducible assumption | with_reducible refine Cur.alloc ?_ _ | with_reducible refine Cur.drew ?_ | with_reducible refine Cur.drewN ?_ _ | with_reducible refine Cur.other ?_ ?_ ?_ _ | (dsimp only; omega) | (refine Cur.next ?_ (by with_reducible assumption)))) hne (by omega) _ _ _ _ _ _ _ _ _ _ _ _ _ _ _ _⟩ (BoxAt.set16 (BoxAt.other (BoxAt.other (BoxAt.other (BoxAt.other (BoxAt.other (BoxAt.other (BoxAt.other (BoxAt.other R8 hlr _) hlr _) hlr _) hlr _) hlr _) hlr _) hlr _) hlr _) rfl _ _ _ _ _ _ _ _ _ _ _ _ _ _ _ _) ?_
      rintro W ⟨hB, hC⟩ RF
      exact bodyPost_ret (v := .agg #[.int .i64 dm, .int .i64 sm, .int .i64 vl, .int .i64 tos, .int .i64 id, .int .i64 ttl, .int .i64 si, .int .i64 167772161, .int .i64 6, .int .i64 sp, .int .i64 dp, .int .i64 sq, .int .i64 ak, .int .i64 fl, .int .i64 wn, .string body]) (result_box RF Try.results59 rfl Try.underlying55 rfl (by kernel_rfl)) rfl ⟨_, ⟨_, _, _, _, _, _, _, _, _, _, _, _, _, _, _, _, rfl, P.superOk_mk rdm rsm rvl rtos rid rttl (by omega) (by omega) hseg (Or.inl (by omega)), hbody⟩, rfl, hB, hC⟩
    · skip
      go_wp2
      refine post_at (I := fun W => Bex b w W ∧ Cur c b W) ⟨Bex.own16 (by repeat (first | with_reducible assumption | with_reducible exact Bex.refl _ _ | with_reducible refine Bex.alloc ?_ _ | with_reducible refine Bex.drew ?_ | with_reducible refine Bex.drewN ?_ _ | with_reducible refine Bex.own ?_ ?_ _ | with_reducible exact Nat.le_refl _ | (dsimp only; omega) | (refine Bex.trans ?_ (by with_reducible assumption)) | (refine Bex.of ?_ (by with_reducible assumption)))) (Nat.le_refl _) _ _ _ _ _ _ _ _ _ _ _ _ _ _ _ _, Cur.other16 (by repeat (first | with_reducible assumption | with_reducible refine Cur.alloc ?_ _ | with_reducible refine Cur.drew ?_ | with_reducible refine Cur.drewN ?_ _ | with_reducible refine Cur.other ?_ ?_ ?_ _ | (dsimp only; omega) | (refine Cur.next ?_ (by with_reducible assumption)))) hne (by omega) _ _ _ _ _ _ _ _ _ _ _ _ _ _ _ _⟩ (BoxAt.set16 (BoxAt.other (BoxAt.other (BoxAt.other (BoxAt.other (BoxAt.other (BoxAt.other (BoxAt.other (BoxAt.other R8 hlr _) hlr _) hlr _) hlr _) hlr _) hlr _) hlr _) hlr _) rfl _ _ _ _ _ _ _ _ _ _ _ _ _ _ _ _) ?_
      rintro W ⟨hB, hC⟩ RF
      exact bodyPost_ret (v := .agg #[.int .i64 dm, .int .i64 sm, .int .i64 vl, .int .i64 tos, .int .i64 id, .int .i64 ttl, .int .i64 si, .int .i64 167772161, .int .i64 6, .int .i64 sp, .int .i64 dp, .int .i64 sq, .int .i64 ak, .int .i64 fl, .int .i64 wn, .string body]) (result_box RF Try.results59 rfl Try.underlying55 rfl (by kernel_rfl)) rfl ⟨_, ⟨_, _, _, _, _, _, _, _, _, _, _, _, _, _, _, _, rfl, P.superOk_mk rdm rsm rvl rtos rid rttl (by omega) (by omega) hseg (Or.inl (by omega)), hbody⟩, rfl, hB, hC⟩
  · skip
    go_wp2
    refine post_at (I := fun W => Bex b w W ∧ Cur c b W) ⟨Bex.own16 (by repeat (first | with_reducible assumption | with_reducible exact Bex.refl _ _ | with_reducible refine Bex.alloc ?_ _ | with_reducible refine Bex.drew ?_ | with_reducible refine Bex.drewN ?_ _ | with_reducible refine Bex.own ?_ ?_ _ | with_reducible exact Nat.le_refl _ | (dsimp only; omega) | (refine Bex.trans ?_ (by with_reducible assumption)) | (refine Bex.of ?_ (by with_reducible assumption)))) (Nat.le_refl _) _ _ _ _ _ _ _ _ _ _ _ _ _ _ _ _, Cur.other16 (by repeat (first | with_reducible assumption | with_reducible refine Cur.alloc ?_ _ | with_reducible refine Cur.drew ?_ | with_reducible refine Cur.drewN ?_ _ | with_reducible refine Cur.other ?_ ?_ ?_ _ | (dsimp only; omega) | (refine Cur.next ?_ (by with_reducible assumption)))) hne (by omega) _ _ _ _ _ _ _ _ _ _ _ _ _ _ _ _⟩ (BoxAt.set16 (BoxAt.other (BoxAt.other (BoxAt.other (BoxAt.other (BoxAt.other (BoxAt.other (BoxAt.other (BoxAt.other R8 hlr _) hlr _) hlr _) hlr _) hlr _) hlr _) hlr _) hlr _) rfl _ _ _ _ _ _ _ _ _ _ _ _ _ _ _ _) ?_
    rintro W ⟨hB, hC⟩ RF
    exact bodyPost_ret (v := .agg #[.int .i64 dm, .int .i64 sm, .int .i64 vl, .int .i64 tos, .int .i64 id, .int .i64 ttl, .int .i64 si, .int .i64 167772161, .int .i64 17, .int .i64 sp, .int .i64 dp, .int .i64 0, .int .i64 0, .int .i64 0, .int .i64 0, .string body]) (result_box RF Try.results59 rfl Try.underlying55 rfl (by kernel_rfl)) rfl ⟨_, ⟨_, _, _, _, _, _, _, _, _, _, _, _, _, _, _, _, rfl, P.superOk_mk rdm rsm rvl rtos rid rttl (by omega) (by omega) hseg (Or.inl (by omega)), hbody⟩, rfl, hB, hC⟩
end Go.Proofs.Ytnpnkkjdnmgbkaa
