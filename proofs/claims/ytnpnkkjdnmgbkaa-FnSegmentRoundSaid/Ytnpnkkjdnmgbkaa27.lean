/-
  The contracts of the reference's draws, fifth part: segments. They say that these can be built.
-/
import Derived.Test.Ytnpnkkjdnmgbkaa26
namespace Go.Proofs.Ytnpnkkjdnmgbkaa
open Go.RowKit
set_option linter.unusedVariables false

theorem c_l06Host (c : Src) (b : Nat) (w : World) (hc : Cur c b w) :
    Calls Try.prog 75 #[.pointer (some ⟨b, 0, none⟩)] w (Drew c b w (IntIn 167772161 167772163)) := by
  go_enter Try.func75, Try.ntmps75
  go_wp2_with fail
  refine (c_l01Below c b 3 _ hc (by omega)).mono ?_
  rintro e w1 ⟨v1, ⟨x, rfl, hxa, hxb⟩, rfl, hb1, hc1⟩
  rw [if_neg (by omega)] at hxb
  go_wp2
  go_ret
  exact ⟨_, ⟨_, rfl, by omega, by omega⟩, rfl, (by repeat (first | with_reducible assumption | with_reducible exact Bex.refl _ _ | with_reducible refine Bex.alloc ?_ _ | with_reducible refine Bex.drew ?_ | with_reducible refine Bex.drewN ?_ _ | with_reducible refine Bex.set ?_ _ _ | (refine Bex.trans ?_ (by with_reducible assumption)) | (refine Bex.of ?_ (by with_reducible assumption)))), (by repeat (first | with_reducible assumption | with_reducible refine Cur.alloc ?_ _ | with_reducible refine Cur.drew ?_ | with_reducible refine Cur.drewN ?_ _ | (refine Cur.next ?_ (by with_reducible assumption))))⟩
theorem c_l06Flags (c : Src) (b : Nat) (w : World) (hc : Cur c b w) :
    Calls Try.prog 85 #[.pointer (some ⟨b, 0, none⟩)] w (Drew c b w (IntIn 0 31)) := by
  go_enter Try.func85, Try.ntmps85
  go_wp2_with fail
  refine (c_l01PickInt c b w.heap.size [16, 16, 16, 24, 17, 2, 4, 31, 0] 9 rfl (by decide) (by decide) _ (by have := hc.old; omega) (rowI_alloc w _ 3) (Cur.alloc hc _)).mono ?_
  rintro e w1 ⟨v1, ⟨z, hz, rfl⟩, rfl, hb1, hc1⟩
  have rz : 0 ≤ z ∧ z ≤ 31 := by simp at hz; omega
  clear hz
  go_wp2
  go_ret
  exact ⟨_, ⟨_, rfl, rz.1, rz.2⟩, rfl, (by repeat (first | with_reducible assumption | with_reducible exact Bex.refl _ _ | with_reducible refine Bex.alloc ?_ _ | with_reducible refine Bex.drew ?_ | with_reducible refine Bex.drewN ?_ _ | with_reducible refine Bex.set ?_ _ _ | (refine Bex.trans ?_ (by with_reducible assumption)) | (refine Bex.of ?_ (by with_reducible assumption)))), (by repeat (first | with_reducible assumption | with_reducible refine Cur.alloc ?_ _ | with_reducible refine Cur.drew ?_ | with_reducible refine Cur.drewN ?_ _ | (refine Cur.next ?_ (by with_reducible assumption))))⟩
/-- a segment that can be built, of at most m bytes -/
def SegV (m : Nat) (v : Value) : Prop := ∃ (kind sp dp seq ack flags win : Int) (body : ByteArray), v = .agg #[.int .i64 kind, .int .i64 sp, .int .i64 dp, .int .i64 seq, .int .i64 ack, .int .i64 flags, .int .i64 win, .string body] ∧ P.segOk kind sp dp seq ack flags win body.size = true ∧ body.size ≤ m
theorem P.segOk_udp {sp dp : Int} {n : Nat} (h1 : 0 ≤ sp ∧ sp ≤ 65535) (h2 : 0 ≤ dp ∧ dp ≤ 65535) (hn : n ≤ 320) : P.segOk 17 sp dp 0 0 0 0 n = true := by
  unfold P.segOk
  exact decide_eq_true ⟨h1.1, h1.2, h2.1, h2.2, hn, .inr ⟨rfl, rfl, rfl, rfl, rfl⟩⟩
theorem P.segOk_tcp {sp dp seq ack flags win : Int} {n : Nat} (h1 : 0 ≤ sp ∧ sp ≤ 65535) (h2 : 0 ≤ dp ∧ dp ≤ 65535) (h3 : 0 ≤ seq ∧ seq ≤ 4294967295) (h4 : 0 ≤ ack ∧ ack ≤ 4294967295) (h5 : 0 ≤ flags ∧ flags ≤ 31) (h6 : 0 ≤ win ∧ win ≤ 65535) (hn : n ≤ 320) : P.segOk 6 sp dp seq ack flags win n = true := by
  unfold P.segOk
  exact decide_eq_true ⟨h1.1, h1.2, h2.1, h2.2, hn, .inl ⟨rfl, h3.1, h3.2, h4.1, h4.2, h5.1, h5.2, h6.1, h6.2⟩⟩
set_option maxHeartbeats 8000000 in
theorem c_l06Segment (c : Src) (b : Nat) (most : Int) (w : World) (hc : Cur c b w) (hm : 0 ≤ most ∧ most ≤ 128) :
    Calls Try.prog 76 #[.pointer (some ⟨b, 0, none⟩), .int .i64 most] w (Drew c b w (SegV most.toNat)) := by
  have hne : ¬ w.heap.size = b := by have := hc.old; omega
  go_enter Try.func76, Try.ntmps76
  have R0 := boxAt_alloc (n := w.heap.size) (w := w) (Nat.le_refl _) #[.int .i64 0, .int .i64 0, .int .i64 0, .int .i64 0, .int .i64 0, .int .i64 0, .int .i64 0, .string (P.bs [])] 53
  go_wp2_with fail
  refine (c_l01Below c b 2 _ (Cur.alloc hc _) (by omega)).mono ?_
  rintro e w1 ⟨v1, ⟨x, rfl, hxa, hxb⟩, rfl, hb1, hc1⟩
  rw [if_neg (by omega)] at hxb
  go_wp2_with fail
  refine (c_l01Below c b 65536 _ hc1 (by omega)).mono ?_
  rintro e w2 ⟨v2, ⟨y, rfl, hya, hyb⟩, rfl, hb2, hc2⟩
  rw [if_neg (by omega)] at hyb
  go_wp2_with fail
  refine (c_l01PickInt c b w2.heap.size [0, 100, 4294967290, y] 4 rfl (by decide) (by decide) _ (by have := hc2.old; omega) (rowI_alloc w2 _ 3) (Cur.alloc hc2 _)).mono ?_
  rintro e w3 ⟨v3, ⟨sq, hsq, rfl⟩, rfl, hb3, hc3⟩
  have rsq : 0 ≤ sq ∧ sq ≤ 4294967295 := by simp at hsq; omega
  clear hsq
  go_wp2_with fail
  refine (c_l01PickInt c b w3.heap.size [0, 5, 4294967295] 3 rfl (by decide) (by decide) _ (by have := hc3.old; omega) (rowI_alloc w3 _ 3) (Cur.alloc hc3 _)).mono ?_
  rintro e w4 ⟨v4, ⟨ak, hak, rfl⟩, rfl, hb4, hc4⟩
  have rak : 0 ≤ ak ∧ ak ≤ 4294967295 := by simp at hak; omega
  clear hak
  go_wp2_with fail
  refine (c_l06Flags c b _ hc4).mono ?_
  rintro e w5 ⟨v5, ⟨fl, rfl, hfl0, hfl1⟩, rfl, hb5, hc5⟩
  go_wp2_with fail
  refine (c_l01PickInt c b w5.heap.size [0, 512, 65535] 3 rfl (by decide) (by decide) _ (by have := hc5.old; omega) (rowI_alloc w5 _ 3) (Cur.alloc hc5 _)).mono ?_
  rintro e w6 ⟨v6, ⟨wn, hwn, rfl⟩, rfl, hb6, hc6⟩
  have rwn : 0 ≤ wn ∧ wn ≤ 65535 := by simp at hwn; omega
  clear hwn
  have R6 := ((((((R0.bex hb1 hne).bex hb2 hne).alloc _).bex hb3 hne).alloc _).bex hb4 hne).bex hb5 hne |>.alloc _ |>.bex hb6 hne
  have hz6 := R6.old
  have hl6 : ¬ w6.heap.size = b := by have := hc6.old; omega
  have hlr : ¬ w6.heap.size = w.heap.size := by omega
  have L6 := boxAt_alloc (n := w.heap.size) (w := w6) (by omega) #[.int .i64 6, .int .i64 (1000 + x), .int .i64 80, .int .i64 sq, .int .i64 ak, .int .i64 fl, .int .i64 wn, .string (P.bs [])] 53
  have b6 : Bex b w w6 := (by repeat (first | with_reducible assumption | with_reducible exact Bex.refl _ _ | with_reducible refine Bex.alloc ?_ _ | with_reducible refine Bex.drew ?_ | with_reducible refine Bex.drewN ?_ _ | with_reducible refine Bex.own ?_ ?_ _ | with_reducible exact Nat.le_refl _ | (dsimp only; omega) | (refine Bex.trans ?_ (by with_reducible assumption)) | (refine Bex.of ?_ (by with_reducible assumption))))
  have hWz := hc6.new
  have hWo := hc.old
  clear R0 hb1 hb2 hb3 hb4 hb5 hb6 hc1 hc2 hc3 hc4 hc5
  go_wp2_with fail
  refine (c_l01Below c b (most + 1) _ (by repeat (first | with_reducible assumption | with_reducible refine Cur.alloc ?_ _ | with_reducible refine Cur.drew ?_ | with_reducible refine Cur.drewN ?_ _ | with_reducible refine Cur.other ?_ ?_ ?_ _ | (dsimp only; omega) | (refine Cur.next ?_ (by with_reducible assumption)))) (by omega)).mono ?_
  rintro e w7 ⟨v7, ⟨n, rfl, hn0, hn1⟩, rfl, hb7, hc7⟩
  rw [if_neg (by omega)] at hn1
  have L7 := BoxAt.bex L6 hb7 hl6
  have R7 := BoxAt.bex (BoxAt.alloc R6 _) hb7 hne
  have b7 : Bex b w w7 := (by repeat (first | with_reducible assumption | with_reducible exact Bex.refl _ _ | with_reducible refine Bex.alloc ?_ _ | with_reducible refine Bex.drew ?_ | with_reducible refine Bex.drewN ?_ _ | with_reducible refine Bex.own ?_ ?_ _ | with_reducible exact Nat.le_refl _ | (dsimp only; omega) | (refine Bex.trans ?_ hb7) | (refine Bex.of ?_ (by with_reducible assumption))))
  clear hb7 b6 hc6 R6 L6
  have k0 := L7.cell 0
  have k1 := L7.cell 1
  have k2 := L7.cell 2
  have k3 := L7.cell 3
  have k4 := L7.cell 4
  have k5 := L7.cell 5
  have k6 := L7.cell 6
  have k7 := L7.cell 7
  have hfk := L7.frozen
  have hzk := L7.old
  simp at k0 k1 k2 k3 k4 k5 k6 k7
  have r0 := R7.cell 0
  have r1 := R7.cell 1
  have r2 := R7.cell 2
  have r3 := R7.cell 3
  have r4 := R7.cell 4
  have r5 := R7.cell 5
  have r6 := R7.cell 6
  have r7 := R7.cell 7
  have hfr := R7.frozen
  have hzr := R7.old
  simp at r0 r1 r2 r3 r4 r5 r6 r7
  go_wp2_with fail
  refine (c_l01Text c b n _ hc7 (by omega)).mono ?_
  rintro e w8 ⟨v8, ⟨body, rfl, hbody⟩, rfl, hb8, hc8⟩
  clear k0 k1 k2 k3 k4 k5 k6 k7 hfk hzk
  clear r0 r1 r2 r3 r4 r5 r6 r7 hfr hzr
  have L8 := BoxAt.bex L7 hb8 hl6
  have R8 := BoxAt.bex R7 hb8 hne
  have b8 := b7.trans hb8
  clear b7 hb8 hc7 L7 R7
  have k0 := L8.cell 0
  have k1 := L8.cell 1
  have k2 := L8.cell 2
  have k3 := L8.cell 3
  have k4 := L8.cell 4
  have k5 := L8.cell 5
  have k6 := L8.cell 6
  have k7 := L8.cell 7
  have hfk := L8.frozen
  have hzk := L8.old
  simp at k0 k1 k2 k3 k4 k5 k6 k7
  have r0 := R8.cell 0
  have r1 := R8.cell 1
  have r2 := R8.cell 2
  have r3 := R8.cell 3
  have r4 := R8.cell 4
  have r5 := R8.cell 5
  have r6 := R8.cell 6
  have r7 := R8.cell 7
  have hfr := R8.frozen
  have hzr := R8.old
  simp at r0 r1 r2 r3 r4 r5 r6 r7
  go_wp2_with fail
  refine (c_l01Once c b 4 _ (by repeat (first | with_reducible assumption | with_reducible refine Cur.alloc ?_ _ | with_reducible refine Cur.drew ?_ | with_reducible refine Cur.drewN ?_ _ | with_reducible refine Cur.other ?_ ?_ ?_ _ | (dsimp only; omega) | (refine Cur.next ?_ (by with_reducible assumption)))) (by omega)).mono ?_
  rintro e w9 ⟨v9, ⟨x9, rfl⟩, rfl, hb9, hc9⟩
  clear k0 k1 k2 k3 k4 k5 k6 k7 hfk hzk
  clear r0 r1 r2 r3 r4 r5 r6 r7 hfr hzr
  have L9 := BoxAt.bex (BoxAt.set L8 7 (by simp) _) hb9 hl6
  have R9 := BoxAt.bex (BoxAt.other R8 hlr _) hb9 hne
  have b9 : Bex b w w9 := (by repeat (first | with_reducible assumption | with_reducible exact Bex.refl _ _ | with_reducible refine Bex.alloc ?_ _ | with_reducible refine Bex.drew ?_ | with_reducible refine Bex.drewN ?_ _ | with_reducible refine Bex.own ?_ ?_ _ | with_reducible exact Nat.le_refl _ | (dsimp only; omega) | (refine Bex.trans ?_ hb9) | (refine Bex.of ?_ (by with_reducible assumption))))
  clear b8 hb9 hc8 L8 R8
  have k0 := L9.cell 0
  have k1 := L9.cell 1
  have k2 := L9.cell 2
  have k3 := L9.cell 3
  have k4 := L9.cell 4
  have k5 := L9.cell 5
  have k6 := L9.cell 6
  have k7 := L9.cell 7
  have hfk := L9.frozen
  have hzk := L9.old
  simp at k0 k1 k2 k3 k4 k5 k6 k7
  have r0 := R9.cell 0
  have r1 := R9.cell 1
  have r2 := R9.cell 2
  have r3 := R9.cell 3
  have r4 := R9.cell 4
  have r5 := R9.cell 5
  have r6 := R9.cell 6
  have r7 := R9.cell 7
  have hfr := R9.frozen
  have hzr := R9.old
  simp at r0 r1 r2 r3 r4 r5 r6 r7
  cases x9 with
  | true =>
    go_wp2
    refine post_at (I := fun W => Bex b w W ∧ Cur c b W) ⟨(by repeat (first | with_reducible assumption | with_reducible exact Bex.refl _ _ | with_reducible refine Bex.alloc ?_ _ | with_reducible refine Bex.drew ?_ | with_reducible refine Bex.drewN ?_ _ | with_reducible refine Bex.own ?_ ?_ _ | with_reducible exact Nat.le_refl _ | (dsimp only; omega) | (refine Bex.trans ?_ (by with_reducible assumption)) | (refine Bex.of ?_ (by with_reducible assumption)))), (by repeat (first | with_reducible assumption | with_reducible refine Cur.alloc ?_ _ | with_reducible refine Cur.drew ?_ | with_reducible refine Cur.drewN ?_ _ | with_reducible refine Cur.other ?_ ?_ ?_ _ | (dsimp only; omega) | (refine Cur.next ?_ (by with_reducible assumption))))⟩ (BoxAt.set (BoxAt.set (BoxAt.set (BoxAt.set (BoxAt.set (BoxAt.set (BoxAt.set (BoxAt.set R9 0 (by simp) _) 1 (by simp) _) 2 (by simp) _) 3 (by simp) _) 4 (by simp) _) 5 (by simp) _) 6 (by simp) _) 7 (by simp) _) ?_
    rintro W ⟨hB, hC⟩ RF
    exact bodyPost_ret (v := .agg #[.int .i64 17, .int .i64 (1000 + x), .int .i64 53, .int .i64 0, .int .i64 0, .int .i64 0, .int .i64 0, .string body]) (result_box RF Try.results76 rfl Try.underlying53 rfl (by kernel_rfl)) rfl ⟨_, ⟨_, _, _, _, _, _, _, _, rfl, P.segOk_udp (by omega) (by omega) (by omega), by omega⟩, rfl, hB, hC⟩
  | false =>
    go_wp2
    refine post_at (I := fun W => Bex b w W ∧ Cur c b W) ⟨(by repeat (first | with_reducible assumption | with_reducible exact Bex.refl _ _ | with_reducible refine Bex.alloc ?_ _ | with_reducible refine Bex.drew ?_ | with_reducible refine Bex.drewN ?_ _ | with_reducible refine Bex.own ?_ ?_ _ | with_reducible exact Nat.le_refl _ | (dsimp only; omega) | (refine Bex.trans ?_ (by with_reducible assumption)) | (refine Bex.of ?_ (by with_reducible assumption)))), (by repeat (first | with_reducible assumption | with_reducible refine Cur.alloc ?_ _ | with_reducible refine Cur.drew ?_ | with_reducible refine Cur.drewN ?_ _ | with_reducible refine Cur.other ?_ ?_ ?_ _ | (dsimp only; omega) | (refine Cur.next ?_ (by with_reducible assumption))))⟩ (BoxAt.set (BoxAt.set (BoxAt.set (BoxAt.set (BoxAt.set (BoxAt.set (BoxAt.set (BoxAt.set R9 0 (by simp) _) 1 (by simp) _) 2 (by simp) _) 3 (by simp) _) 4 (by simp) _) 5 (by simp) _) 6 (by simp) _) 7 (by simp) _) ?_
    rintro W ⟨hB, hC⟩ RF
    exact bodyPost_ret (v := .agg #[.int .i64 6, .int .i64 (1000 + x), .int .i64 80, .int .i64 sq, .int .i64 ak, .int .i64 fl, .int .i64 wn, .string body]) (result_box RF Try.results76 rfl Try.underlying53 rfl (by kernel_rfl)) rfl ⟨_, ⟨_, _, _, _, _, _, _, _, rfl, P.segOk_tcp (by omega) (by omega) rsq rak ⟨hfl0, hfl1⟩ rwn (by omega), by omega⟩, rfl, hB, hC⟩
end Go.Proofs.Ytnpnkkjdnmgbkaa
