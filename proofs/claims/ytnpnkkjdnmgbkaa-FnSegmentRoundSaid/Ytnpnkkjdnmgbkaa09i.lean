/-
  The contracts of chapter 5, second part: the header's bytes (the program's).
-/
import Derived.Test.Ytnpnkkjdnmgbkaa05
import Derived.Test.YtnpnkkjdnmgbkaaSpot
namespace Go.Proofs.Ytnpnkkjdnmgbkaa
open Go.RowKit
set_option linter.unusedVariables false

set_option maxHeartbeats 4000000 in
theorem c_impl_IpHeader (tos id ttl proto src dst : Int) (b : ByteArray) (hb : b.size ≤ 1073741824) (w : World) :
    Calls Try.prog 38 #[.agg #[.int .i64 tos, .int .i64 id, .int .i64 ttl, .int .i64 proto, .int .i64 src, .int .i64 dst, .string b]] w fun e w' => e = .returned (.tuple #[.string (P.ipHead tos id ttl proto src dst b.size), .bool (P.ipOk tos id ttl proto src dst b.size)]) ∧ Bel w w' := by
  cases hok : P.ipOk tos id ttl proto src dst b.size with
  | false =>
    go_enter Try.func38, Try.ntmps38
    go_wp2_with (go_at_call 58; refine (c_impl_IpOk _ _ _ _ _ _ _ hb _).mono ?_; rintro e w' ⟨rfl, hb⟩)
    go_ret2
    exact ⟨ret_sb (by unfold P.ipHead; rw [hok]; rfl) rfl, Bel.trans ((Bel.refl _).alloc _) (by assumption)⟩
  | true =>
    have hr := of_decide_eq_true hok
    have hb2 : b.size ≤ 380 := by omega
    have e1 : IntKind.u8.wrap tos = tos := IntWalk.u8_in _ (by omega)
    have e2 : IntKind.u8.wrap ttl = ttl := IntWalk.u8_in _ (by omega)
    have e3 : IntKind.u8.wrap proto = proto := IntWalk.u8_in _ (by omega)
    have z1 := P.word16_size_le (20 + b.size)
    have z2 := P.word16_size_le id
    have z3 := P.word16_size_le 16384
    have z4 := P.word16_size_le 0
    have z5 := P.word32_size_le src
    have z6 := P.word32_size_le dst
    have z7 := P.ipBare_size_le tos id ttl proto src dst b.size
    clear hr
    go_enter Try.func38, Try.ntmps38
    go_wp2_with (go_at_call 58; refine (c_impl_IpOk _ _ _ _ _ _ _ hb _).mono ?_; rintro e w1 ⟨rfl, h1⟩)
    obtain ⟨hc1, hz1⟩ := h1.keep (b := w.heap.size) (by simp)
    refine wp_region_spot 37 [.pointer (some ⟨w.heap.size, 0, none⟩), .int .i64 tos, .int .u8 tos, undef, .string (P.bs [P.by8 69, P.by8 tos]), .pointer (some ⟨w.heap.size, 6, none⟩), .string b, .int .i64 b.size, .int .i64 (20 + b.size), .string (P.word16 (20 + b.size)), .string (P.bs [P.by8 69, P.by8 tos] ++ P.word16 (20 + b.size)), .pointer (some ⟨w.heap.size, 1, none⟩), .int .i64 id, .string (P.word16 id), .string (P.bs [P.by8 69, P.by8 tos] ++ P.word16 (20 + b.size) ++ P.word16 id), .string (P.word16 16384), .string (P.bs [P.by8 69, P.by8 tos] ++ P.word16 (20 + b.size) ++ P.word16 id ++ P.word16 16384), .pointer (some ⟨w.heap.size, 2, none⟩), .int .i64 ttl, .int .u8 ttl, .pointer (some ⟨w.heap.size, 3, none⟩), .int .i64 proto, .int .u8 proto, undef, .string (P.bs [P.by8 ttl, P.by8 proto]), .string (P.bs [P.by8 69, P.by8 tos] ++ P.word16 (20 + b.size) ++ P.word16 id ++ P.word16 16384 ++ P.bs [P.by8 ttl, P.by8 proto]), .string (P.word16 0), .string (P.bs [P.by8 69, P.by8 tos] ++ P.word16 (20 + b.size) ++ P.word16 id ++ P.word16 16384 ++ P.bs [P.by8 ttl, P.by8 proto] ++ P.word16 0), .pointer (some ⟨w.heap.size, 4, none⟩), .int .i64 src, .string (P.word32 src), .string (P.bs [P.by8 69, P.by8 tos] ++ P.word16 (20 + b.size) ++ P.word16 id ++ P.word16 16384 ++ P.bs [P.by8 ttl, P.by8 proto] ++ P.word16 0 ++ P.word32 src), .pointer (some ⟨w.heap.size, 5, none⟩), .int .i64 dst, .string (P.word32 dst), .string (P.bs [P.by8 69, P.by8 tos] ++ P.word16 (20 + b.size) ++ P.word16 id ++ P.word16 16384 ++ P.bs [P.by8 ttl, P.by8 proto] ++ P.word16 0 ++ P.word32 src ++ P.word32 dst), .string (P.bs [P.by8 69, P.by8 tos] ++ P.word16 (20 + b.size) ++ P.word16 id ++ P.word16 16384 ++ P.bs [P.by8 ttl, P.by8 proto] ++ P.word16 0 ++ P.word32 src ++ P.word32 dst)] [none, none, none, some (Spot.row [69, tos]), none, none, none, none, none, none, none, none, none, none, none, none, none, none, none, none, none, none, none, some (Spot.row [ttl, proto]), none, none, none, none, none, none, none, none, none, none, none, none, none] (by kernel_rfl) (by kernel_rfl) (Nat.le_of_ble_eq_true (by kernel_rfl)) (by kernel_rfl) ?_ ?_
    · refine ⟨?_, ?_, ?_, ?_, ?_, ?_, ?_, ?_, ?_, ?_, ?_, ?_, ?_, ?_, ?_, ?_, ?_, ?_, ?_, ?_, ?_, ?_, ?_, ?_, ?_, ?_, ?_, ?_, ?_, ?_, ?_, ?_, ?_, ?_, ?_, ?_, ?_, trivial⟩
      all_goals intro β w' hb' hrow
      all_goals obtain ⟨hc, hz⟩ := hb'.keep (b := w.heap.size) hz1
      all_goals simp [lastSp, putL, spVal, Spot.row_val, Spot.row_lies, List.range, List.range.loop, QB, seen, dep, dstOf, go_sem, Region.binds, hc, hc1] at hrow ⊢
      all_goals first | exact Bel.refl _ | exact ⟨Bel.refl _, by assumption⟩ | exact c_impl_Word32 _ _ | exact c_impl_Word16 _ _ | (rw [if_neg (by omega)]; exact ⟨Bel.refl _, rfl⟩) | exact ⟨(Bel.refl _).alloc _, rowAt2 _ _ _⟩ | exact ⟨Bel.refl _, IntWalk.i64_in _ (by omega)⟩ | (rw [hrow.c20, hrow.c21]; exact ⟨Bel.refl _, rfl⟩)
    · intro β w2 h2 hx
      simp [lastSp, putL, spVal, Spot.row_val, List.range, List.range.loop]
      clear hx hc1 e1 e2 e3
      go_wp2_with (first | (go_at_call 20; refine (c_impl_Checksum (P.ipBare tos id ttl proto src dst b.size) (by omega) _).mono ?_; rintro e w' ⟨rfl, rfl⟩) | (go_at_call 21; refine (c_impl_Word16 _ _).mono ?_; rintro e w' ⟨rfl, hb⟩) | (go_at_call 24; refine (c_impl_PutBytes (P.ipBare tos id ttl proto src dst b.size) _ _ (by omega) (Nat.le_trans (P.word16_size_le _) (by decide)) _).mono ?_; rintro e w' ⟨rfl, hb⟩))
      go_ret2
      exact ⟨ret_sb (by unfold P.ipHead; rw [if_pos hok]) rfl, (by repeat (first | with_reducible assumption | with_reducible exact Bel.refl _ | with_reducible refine Bel.alloc ?_ _ | with_reducible refine Bel.drew ?_ | with_reducible refine Bel.drewN ?_ _ | with_reducible refine Bel.setCell ?_ ?_ _ | with_reducible exact Nat.le_refl _ | (dsimp only; omega) | (refine Bel.trans ?_ (by with_reducible assumption))))⟩
end Go.Proofs.Ytnpnkkjdnmgbkaa
