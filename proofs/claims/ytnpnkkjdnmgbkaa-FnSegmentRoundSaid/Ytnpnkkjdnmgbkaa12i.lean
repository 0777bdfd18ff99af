/-
  The contracts of chapter 6, second part: segments as bytes (the program's).
-/
import Derived.Test.Ytnpnkkjdnmgbkaa06
import Derived.Test.YtnpnkkjdnmgbkaaSpot
import Derived.Test.YtnpnkkjdnmgbkaaPure3
namespace Go.Proofs.Ytnpnkkjdnmgbkaa
open Go.RowKit
set_option linter.unusedVariables false

set_option maxHeartbeats 6000000 in
theorem c_impl_bareSegment (kind sp dp seq ack flags win : Int) (b : ByteArray) (hok : P.segOk kind sp dp seq ack flags win b.size = true) (w : World) :
    Calls Try.prog 60 #[.agg #[.int .i64 kind, .int .i64 sp, .int .i64 dp, .int .i64 seq, .int .i64 ack, .int .i64 flags, .int .i64 win, .string b]] w fun e w' => e = .returned (.string (P.segBare kind sp dp seq ack flags win b)) ∧ Bel w w' := by
  have hr := of_decide_eq_true hok
  have hb2 : b.size ≤ 320 := by omega
  have z1 := P.word16_size_le sp
  have z2 := P.word16_size_le dp
  have z3 := P.word16_size_le 0
  have z4 := P.word16_size_le win
  have z5 := P.word32_size_le seq
  have z6 := P.word32_size_le ack
  have z7 := P.word16_size_le (8 + b.size)
  have z8 := P.word32_size_le 0
  by_cases h6 : kind = 6
  · have hfl : 0 ≤ flags ∧ flags ≤ 31 := by omega
    have e1 : IntKind.u8.wrap flags = flags := IntWalk.u8_in _ (by omega)
    have HF := Lib.hid (show Ending.returned (.string (P.word16 sp ++ P.word16 dp ++ P.word32 seq ++ P.word32 ack ++ P.bs [P.by8 80, P.by8 flags] ++ P.word16 win ++ P.word16 0 ++ P.word16 0 ++ b)) = Ending.returned (.string (P.segBare kind sp dp seq ack flags win b)) from by unfold P.segBare P.segTcp P.segPorts; rw [if_pos h6])
    clear hr hfl hok
    go_enter Try.func60, Try.ntmps60
    go_wp2
    refine wp_region_spot 8 [.pointer (some ⟨w.heap.size, 1, none⟩), .int .i64 sp, .string (P.word16 sp), .pointer (some ⟨w.heap.size, 2, none⟩), .int .i64 dp, .string (P.word16 dp), .string (P.word16 sp ++ P.word16 dp), .string (P.word16 sp ++ P.word16 dp)] [] (by kernel_rfl) (by kernel_rfl) (Nat.le_of_ble_eq_true (by kernel_rfl)) (by kernel_rfl) ?_ ?_
    · refine ⟨?_, ?_, ?_, ?_, ?_, ?_, ?_, ?_, trivial⟩
      all_goals intro β w' hb' hrow
      all_goals obtain ⟨hc, hz⟩ := hb'.keep (b := w.heap.size) (by simp)
      all_goals simp [lastSp, putL, spVal, List.range, List.range.loop, QB, seen, dep, dstOf, go_sem, Region.binds, hc] at hrow ⊢
      all_goals first | exact Bel.refl _ | exact ⟨Bel.refl _, by assumption⟩ | exact c_impl_Word32 _ _ | exact c_impl_Word16 _ _ | (rw [if_neg (by omega)]; exact ⟨Bel.refl _, rfl⟩) | exact ⟨(Bel.refl _).alloc _, rowAt2 _ _ _⟩ | exact ⟨Bel.refl _, IntWalk.i64_in _ (by omega)⟩ | (rw [hrow.c20, hrow.c21]; exact ⟨Bel.refl _, rfl⟩)
    · intro β w2 h2 hx
      simp [lastSp, putL, spVal, List.range, List.range.loop]
      clear hx
      obtain ⟨hc2, hz2⟩ := h2.keep (b := w.heap.size) (by simp)
      go_wp2
      refine wp_region_spot 27 [.string (P.word16 sp ++ P.word16 dp), .pointer (some ⟨w.heap.size, 3, none⟩), .int .i64 seq, .string (P.word32 seq), .string (P.word16 sp ++ P.word16 dp ++ P.word32 seq), .pointer (some ⟨w.heap.size, 4, none⟩), .int .i64 ack, .string (P.word32 ack), .string (P.word16 sp ++ P.word16 dp ++ P.word32 seq ++ P.word32 ack), .pointer (some ⟨w.heap.size, 5, none⟩), .int .i64 flags, .int .u8 flags, undef, .string (P.bs [P.by8 80, P.by8 flags]), .string (P.word16 sp ++ P.word16 dp ++ P.word32 seq ++ P.word32 ack ++ P.bs [P.by8 80, P.by8 flags]), .pointer (some ⟨w.heap.size, 6, none⟩), .int .i64 win, .string (P.word16 win), .string (P.word16 sp ++ P.word16 dp ++ P.word32 seq ++ P.word32 ack ++ P.bs [P.by8 80, P.by8 flags] ++ P.word16 win), .string (P.word16 0), .string (P.word16 sp ++ P.word16 dp ++ P.word32 seq ++ P.word32 ack ++ P.bs [P.by8 80, P.by8 flags] ++ P.word16 win ++ P.word16 0), .string (P.word16 0), .string (P.word16 sp ++ P.word16 dp ++ P.word32 seq ++ P.word32 ack ++ P.bs [P.by8 80, P.by8 flags] ++ P.word16 win ++ P.word16 0 ++ P.word16 0), .pointer (some ⟨w.heap.size, 7, none⟩), .string b, .string (P.word16 sp ++ P.word16 dp ++ P.word32 seq ++ P.word32 ack ++ P.bs [P.by8 80, P.by8 flags] ++ P.word16 win ++ P.word16 0 ++ P.word16 0 ++ b), .string (P.word16 sp ++ P.word16 dp ++ P.word32 seq ++ P.word32 ack ++ P.bs [P.by8 80, P.by8 flags] ++ P.word16 win ++ P.word16 0 ++ P.word16 0 ++ b)] [none, none, none, none, none, none, none, none, none, none, none, none, some (Spot.row [80, flags]), none, none, none, none, none, none, none, none, none, none, none, none, none, none] (by kernel_rfl) (by kernel_rfl) (Nat.le_of_ble_eq_true (by kernel_rfl)) (by kernel_rfl) ?_ ?_
      · refine ⟨?_, ?_, ?_, ?_, ?_, ?_, ?_, ?_, ?_, ?_, ?_, ?_, ?_, ?_, ?_, ?_, ?_, ?_, ?_, ?_, ?_, ?_, ?_, ?_, ?_, ?_, ?_, trivial⟩
        all_goals intro β w' hb' hrow
        all_goals obtain ⟨hc, hz⟩ := hb'.keep (b := w.heap.size) hz2
        all_goals simp [lastSp, putL, spVal, Spot.row_val, Spot.row_lies, List.range, List.range.loop, QB, seen, dep, dstOf, go_sem, Region.binds, hc, hc2] at hrow ⊢
        all_goals first | exact Bel.refl _ | exact ⟨Bel.refl _, by assumption⟩ | exact c_impl_Word32 _ _ | exact c_impl_Word16 _ _ | (rw [if_neg (by omega)]; exact ⟨Bel.refl _, rfl⟩) | exact ⟨(Bel.refl _).alloc _, rowAt2 _ _ _⟩ | exact ⟨Bel.refl _, IntWalk.i64_in _ (by omega)⟩ | (rw [hrow.c20, hrow.c21]; exact ⟨Bel.refl _, rfl⟩)
      · intro β w3 h3 hx
        simp [lastSp, putL, spVal, Spot.row_val, List.range, List.range.loop]
        clear hx
        go_wp2
        go_ret
        exact ⟨HF.out, (by repeat (first | with_reducible assumption | with_reducible exact Bel.refl _ | with_reducible refine Bel.alloc ?_ _ | with_reducible refine Bel.drew ?_ | with_reducible refine Bel.drewN ?_ _ | with_reducible refine Bel.setCell ?_ ?_ _ | with_reducible exact Nat.le_refl _ | (dsimp only; omega) | (refine Bel.trans ?_ (by with_reducible assumption))))⟩
  · have HF := Lib.hid (show Ending.returned (.string (P.word16 sp ++ P.word16 dp ++ P.word16 (8 + b.size) ++ P.word16 0 ++ b)) = Ending.returned (.string (P.segBare kind sp dp seq ack flags win b)) from by unfold P.segBare P.segUdp P.segPorts; rw [if_neg h6])
    clear hr hok
    go_enter Try.func60, Try.ntmps60
    go_wp2
    refine wp_region_spot 8 [.pointer (some ⟨w.heap.size, 1, none⟩), .int .i64 sp, .string (P.word16 sp), .pointer (some ⟨w.heap.size, 2, none⟩), .int .i64 dp, .string (P.word16 dp), .string (P.word16 sp ++ P.word16 dp), .string (P.word16 sp ++ P.word16 dp)] [] (by kernel_rfl) (by kernel_rfl) (Nat.le_of_ble_eq_true (by kernel_rfl)) (by kernel_rfl) ?_ ?_
    · refine ⟨?_, ?_, ?_, ?_, ?_, ?_, ?_, ?_, trivial⟩
      all_goals intro β w' hb' hrow
      all_goals obtain ⟨hc, hz⟩ := hb'.keep (b := w.heap.size) (by simp)
      all_goals simp [lastSp, putL, spVal, List.range, List.range.loop, QB, seen, dep, dstOf, go_sem, Region.binds, hc] at hrow ⊢
      all_goals first | exact Bel.refl _ | exact ⟨Bel.refl _, by assumption⟩ | exact c_impl_Word32 _ _ | exact c_impl_Word16 _ _ | (rw [if_neg (by omega)]; exact ⟨Bel.refl _, rfl⟩) | exact ⟨(Bel.refl _).alloc _, rowAt2 _ _ _⟩ | exact ⟨Bel.refl _, IntWalk.i64_in _ (by omega)⟩ | (rw [hrow.c20, hrow.c21]; exact ⟨Bel.refl _, rfl⟩)
    · intro β w2 h2 hx
      simp [lastSp, putL, spVal, List.range, List.range.loop]
      clear hx
      obtain ⟨hc2, hz2⟩ := h2.keep (b := w.heap.size) (by simp)
      go_wp2
      refine wp_region_spot 13 [.string (P.word16 sp ++ P.word16 dp), .pointer (some ⟨w.heap.size, 7, none⟩), .string b, .int .i64 b.size, .int .i64 (8 + b.size), .string (P.word16 (8 + b.size)), .string (P.word16 sp ++ P.word16 dp ++ P.word16 (8 + b.size)), .string (P.word16 0), .string (P.word16 sp ++ P.word16 dp ++ P.word16 (8 + b.size) ++ P.word16 0), .pointer (some ⟨w.heap.size, 7, none⟩), .string b, .string (P.word16 sp ++ P.word16 dp ++ P.word16 (8 + b.size) ++ P.word16 0 ++ b), .string (P.word16 sp ++ P.word16 dp ++ P.word16 (8 + b.size) ++ P.word16 0 ++ b)] [] (by kernel_rfl) (by kernel_rfl) (Nat.le_of_ble_eq_true (by kernel_rfl)) (by kernel_rfl) ?_ ?_
      · refine ⟨?_, ?_, ?_, ?_, ?_, ?_, ?_, ?_, ?_, ?_, ?_, ?_, ?_, trivial⟩
        all_goals intro β w' hb' hrow
        all_goals obtain ⟨hc, hz⟩ := hb'.keep (b := w.heap.size) hz2
        all_goals simp [lastSp, putL, spVal, List.range, List.range.loop, QB, seen, dep, dstOf, go_sem, Region.binds, hc, hc2] at hrow ⊢
        all_goals first | exact Bel.refl _ | exact ⟨Bel.refl _, by assumption⟩ | exact c_impl_Word32 _ _ | exact c_impl_Word16 _ _ | (rw [if_neg (by omega)]; exact ⟨Bel.refl _, rfl⟩) | exact ⟨(Bel.refl _).alloc _, rowAt2 _ _ _⟩ | exact ⟨Bel.refl _, IntWalk.i64_in _ (by omega)⟩ | (rw [hrow.c20, hrow.c21]; exact ⟨Bel.refl _, rfl⟩)
      · intro β w3 h3 hx
        simp [lastSp, putL, spVal, List.range, List.range.loop]
        clear hx
        go_wp2
        go_ret
        exact ⟨HF.out, (by repeat (first | with_reducible assumption | with_reducible exact Bel.refl _ | with_reducible refine Bel.alloc ?_ _ | with_reducible refine Bel.drew ?_ | with_reducible refine Bel.drewN ?_ _ | with_reducible refine Bel.setCell ?_ ?_ _ | with_reducible exact Nat.le_refl _ | (dsimp only; omega) | (refine Bel.trans ?_ (by with_reducible assumption))))⟩
set_option maxHeartbeats 8000000 in
theorem c_impl_BuildSegment (src dst : Int) (kind sp dp seq ack flags win : Int) (b : ByteArray) (hb : b.size ≤ 1073741824) (w : World) :
    Calls Try.prog 41 #[.int .i64 src, .int .i64 dst, .agg #[.int .i64 kind, .int .i64 sp, .int .i64 dp, .int .i64 seq, .int .i64 ack, .int .i64 flags, .int .i64 win, .string b]] w fun e w' => e = .returned (.tuple #[.string (P.buildSeg src dst kind sp dp seq ack flags win b), .bool (P.bsOk src dst kind sp dp seq ack flags win b)]) ∧ Bel w w' := by
  cases hok : P.segOk kind sp dp seq ack flags win b.size with
  | false =>
    have HF := Lib.hid (P.bs_noseg src dst kind sp dp seq ack flags win b hok)
    go_enter Try.func41, Try.ntmps41
    go_wp2_with (first | (go_at_call 43; refine (c_impl_SegmentOk _ _ _ _ _ _ _ _ hb _).mono ?_; rintro e w1 ⟨he, h1⟩; rw [hok] at he; subst he; obtain ⟨hc1, hz1⟩ := h1.keep (b := w.heap.size) (by simp)))
    go_ret2
    exact ⟨ret_sb HF.out.1.symm HF.out.2.symm, (by repeat (first | with_reducible assumption | with_reducible exact Bel.refl _ | with_reducible refine Bel.alloc ?_ _ | with_reducible refine Bel.drew ?_ | with_reducible refine Bel.drewN ?_ _ | with_reducible refine Bel.setCell ?_ ?_ _ | with_reducible exact Nat.le_refl _ | (dsimp only; omega) | (refine Bel.trans ?_ (by with_reducible assumption))))⟩
  | true =>
    have hr := of_decide_eq_true hok
    have hb2 : b.size ≤ 320 := by omega
    have hk : kind = 6 ∨ kind = 17 := by omega
    have hfl : kind = 6 → 0 ≤ flags ∧ flags ≤ 31 := by omega
    have zs := P.segBare_size_le kind sp dp seq ack flags win b
    have zp := P.pseudo_size_le src dst kind (P.segBare kind sp dp seq ack flags win b).size
    have hsum : (P.pseudo src dst kind (P.segBare kind sp dp seq ack flags win b).size ++ (P.segBare kind sp dp seq ack flags win b)).size ≤ 1073741824 := by rw [ByteArray.size_append]; omega
    have hsum2 : ¬ (9223372036854775807 < (P.pseudo src dst kind (P.segBare kind sp dp seq ack flags win b).size).size + (P.segBare kind sp dp seq ack flags win b).size) := by omega
    clear hr
    rcases hk with rfl | rfl
    · cases hp : P.pseudoOk src dst 6 (P.segBare 6 sp dp seq ack flags win b).size with
      | false =>
        have HF := Lib.hid (P.bs_nopseudo src dst 6 sp dp seq ack flags win b hp)
        have e1 : IntKind.u8.wrap flags = flags := IntWalk.u8_in _ (by have := hfl rfl; omega)
        clear hfl
        go_enter Try.func41, Try.ntmps41
        go_wp2_with (first | (go_at_call 43; refine (c_impl_SegmentOk _ _ _ _ _ _ _ _ hb _).mono ?_; rintro e w1 ⟨he, h1⟩; rw [hok] at he; subst he; obtain ⟨hc1, hz1⟩ := h1.keep (b := w.heap.size) (by simp)) | (go_at_call 60; refine (c_impl_bareSegment _ _ _ _ _ _ _ _ hok _).mono ?_; rintro e w3 ⟨rfl, h3⟩; obtain ⟨hc3, hz3⟩ := h3.keep (b := w.heap.size) hz1) | (go_at_call 61; refine (c_impl_PseudoHeader _ _ _ _ _).mono ?_; rintro e w4 ⟨he, h4⟩; rw [hp] at he; subst he; obtain ⟨hc4, hz4⟩ := h4.keep (b := w.heap.size) hz3))
        go_ret2
        exact ⟨ret_sb HF.out.1.symm HF.out.2.symm, (by repeat (first | with_reducible assumption | with_reducible exact Bel.refl _ | with_reducible refine Bel.alloc ?_ _ | with_reducible refine Bel.drew ?_ | with_reducible refine Bel.drewN ?_ _ | with_reducible refine Bel.setCell ?_ ?_ _ | with_reducible exact Nat.le_refl _ | (dsimp only; omega) | (refine Bel.trans ?_ (by with_reducible assumption))))⟩
      | true =>
        have HF := Lib.hid (P.bs_tcp src dst sp dp seq ack flags win b hok hp)
        have e1 : IntKind.u8.wrap flags = flags := IntWalk.u8_in _ (by have := hfl rfl; omega)
        clear hfl
        go_enter Try.func41, Try.ntmps41
        go_wp2_with (first | (go_at_call 43; refine (c_impl_SegmentOk _ _ _ _ _ _ _ _ hb _).mono ?_; rintro e w1 ⟨he, h1⟩; rw [hok] at he; subst he; obtain ⟨hc1, hz1⟩ := h1.keep (b := w.heap.size) (by simp)) | (go_at_call 60; refine (c_impl_bareSegment _ _ _ _ _ _ _ _ hok _).mono ?_; rintro e w3 ⟨rfl, h3⟩; obtain ⟨hc3, hz3⟩ := h3.keep (b := w.heap.size) hz1) | (go_at_call 61; refine (c_impl_PseudoHeader _ _ _ _ _).mono ?_; rintro e w4 ⟨he, h4⟩; rw [hp] at he; subst he; obtain ⟨hc4, hz4⟩ := h4.keep (b := w.heap.size) hz3) | (go_at_call 20; refine (c_impl_Checksum (P.pseudo src dst 6 (P.segBare 6 sp dp seq ack flags win b).size ++ P.segBare 6 sp dp seq ack flags win b) hsum _).mono ?_; rintro e w5 ⟨he, rfl⟩; skip; subst he) | (go_at_call 21; refine (c_impl_Word16 _ _).mono ?_; rintro e w6 ⟨rfl, h6⟩) | (go_at_call 24; refine (c_impl_PutBytes (P.segBare 6 sp dp seq ack flags win b) _ _ (by omega) (Nat.le_trans (P.word16_size_le _) (by decide)) _).mono ?_; rintro e w7 ⟨rfl, h7⟩) | (go_at_call 62; go_in))
        go_ret2
        exact ⟨ret_sb HF.out.1.symm HF.out.2.symm, (by repeat (first | with_reducible assumption | with_reducible exact Bel.refl _ | with_reducible refine Bel.alloc ?_ _ | with_reducible refine Bel.drew ?_ | with_reducible refine Bel.drewN ?_ _ | with_reducible refine Bel.setCell ?_ ?_ _ | with_reducible exact Nat.le_refl _ | (dsimp only; omega) | (refine Bel.trans ?_ (by with_reducible assumption))))⟩
    · cases hp : P.pseudoOk src dst 17 (P.segBare 17 sp dp seq ack flags win b).size with
      | false =>
        have HF := Lib.hid (P.bs_nopseudo src dst 17 sp dp seq ack flags win b hp)
        clear hfl
        go_enter Try.func41, Try.ntmps41
        go_wp2_with (first | (go_at_call 43; refine (c_impl_SegmentOk _ _ _ _ _ _ _ _ hb _).mono ?_; rintro e w1 ⟨he, h1⟩; rw [hok] at he; subst he; obtain ⟨hc1, hz1⟩ := h1.keep (b := w.heap.size) (by simp)) | (go_at_call 60; refine (c_impl_bareSegment _ _ _ _ _ _ _ _ hok _).mono ?_; rintro e w3 ⟨rfl, h3⟩; obtain ⟨hc3, hz3⟩ := h3.keep (b := w.heap.size) hz1) | (go_at_call 61; refine (c_impl_PseudoHeader _ _ _ _ _).mono ?_; rintro e w4 ⟨he, h4⟩; rw [hp] at he; subst he; obtain ⟨hc4, hz4⟩ := h4.keep (b := w.heap.size) hz3))
        go_ret2
        exact ⟨ret_sb HF.out.1.symm HF.out.2.symm, (by repeat (first | with_reducible assumption | with_reducible exact Bel.refl _ | with_reducible refine Bel.alloc ?_ _ | with_reducible refine Bel.drew ?_ | with_reducible refine Bel.drewN ?_ _ | with_reducible refine Bel.setCell ?_ ?_ _ | with_reducible exact Nat.le_refl _ | (dsimp only; omega) | (refine Bel.trans ?_ (by with_reducible assumption))))⟩
      | true =>
        clear hfl
        by_cases hz0 : P.checksum (P.pseudo src dst 17 (P.segBare 17 sp dp seq ack flags win b).size ++ P.segBare 17 sp dp seq ack flags win b) = 0
        · have HF := Lib.hid (P.bs_udp0 src dst sp dp seq ack flags win b hok hp hz0)
          go_enter Try.func41, Try.ntmps41
          go_wp2_with (first | (go_at_call 43; refine (c_impl_SegmentOk _ _ _ _ _ _ _ _ hb _).mono ?_; rintro e w1 ⟨he, h1⟩; rw [hok] at he; subst he; obtain ⟨hc1, hz1⟩ := h1.keep (b := w.heap.size) (by simp)) | (go_at_call 60; refine (c_impl_bareSegment _ _ _ _ _ _ _ _ hok _).mono ?_; rintro e w3 ⟨rfl, h3⟩; obtain ⟨hc3, hz3⟩ := h3.keep (b := w.heap.size) hz1) | (go_at_call 61; refine (c_impl_PseudoHeader _ _ _ _ _).mono ?_; rintro e w4 ⟨he, h4⟩; rw [hp] at he; subst he; obtain ⟨hc4, hz4⟩ := h4.keep (b := w.heap.size) hz3) | (go_at_call 20; refine (c_impl_Checksum (P.pseudo src dst 17 (P.segBare 17 sp dp seq ack flags win b).size ++ P.segBare 17 sp dp seq ack flags win b) hsum _).mono ?_; rintro e w5 ⟨he, rfl⟩; rw [hz0] at he; subst he) | (go_at_call 21; refine (c_impl_Word16 _ _).mono ?_; rintro e w6 ⟨rfl, h6⟩) | (go_at_call 24; refine (c_impl_PutBytes (P.segBare 17 sp dp seq ack flags win b) _ _ (by omega) (Nat.le_trans (P.word16_size_le _) (by decide)) _).mono ?_; rintro e w7 ⟨rfl, h7⟩) | (go_at_call 62; go_in))
          go_ret2
          exact ⟨ret_sb HF.out.1.symm HF.out.2.symm, (by repeat (first | with_reducible assumption | with_reducible exact Bel.refl _ | with_reducible refine Bel.alloc ?_ _ | with_reducible refine Bel.drew ?_ | with_reducible refine Bel.drewN ?_ _ | with_reducible refine Bel.setCell ?_ ?_ _ | with_reducible exact Nat.le_refl _ | (dsimp only; omega) | (refine Bel.trans ?_ (by with_reducible assumption))))⟩
        · have HF := Lib.hid (P.bs_udp src dst sp dp seq ack flags win b hok hp hz0)
          go_enter Try.func41, Try.ntmps41
          go_wp2_with (first | (go_at_call 43; refine (c_impl_SegmentOk _ _ _ _ _ _ _ _ hb _).mono ?_; rintro e w1 ⟨he, h1⟩; rw [hok] at he; subst he; obtain ⟨hc1, hz1⟩ := h1.keep (b := w.heap.size) (by simp)) | (go_at_call 60; refine (c_impl_bareSegment _ _ _ _ _ _ _ _ hok _).mono ?_; rintro e w3 ⟨rfl, h3⟩; obtain ⟨hc3, hz3⟩ := h3.keep (b := w.heap.size) hz1) | (go_at_call 61; refine (c_impl_PseudoHeader _ _ _ _ _).mono ?_; rintro e w4 ⟨he, h4⟩; rw [hp] at he; subst he; obtain ⟨hc4, hz4⟩ := h4.keep (b := w.heap.size) hz3) | (go_at_call 20; refine (c_impl_Checksum (P.pseudo src dst 17 (P.segBare 17 sp dp seq ack flags win b).size ++ P.segBare 17 sp dp seq ack flags win b) hsum _).mono ?_; rintro e w5 ⟨he, rfl⟩; skip; subst he) | (go_at_call 21; refine (c_impl_Word16 _ _).mono ?_; rintro e w6 ⟨rfl, h6⟩) | (go_at_call 24; refine (c_impl_PutBytes (P.segBare 17 sp dp seq ack flags win b) _ _ (by omega) (Nat.le_trans (P.word16_size_le _) (by decide)) _).mono ?_; rintro e w7 ⟨rfl, h7⟩) | (go_at_call 62; go_in))
          go_ret2
          exact ⟨ret_sb HF.out.1.symm HF.out.2.symm, (by repeat (first | with_reducible assumption | with_reducible exact Bel.refl _ | with_reducible refine Bel.alloc ?_ _ | with_reducible refine Bel.drew ?_ | with_reducible refine Bel.drewN ?_ _ | with_reducible refine Bel.setCell ?_ ?_ _ | with_reducible exact Nat.le_refl _ | (dsimp only; omega) | (refine Bel.trans ?_ (by with_reducible assumption))))⟩
end Go.Proofs.Ytnpnkkjdnmgbkaa
