/-
  The contracts of chapter 7: packets.
-/
import Derived.Test.Ytnpnkkjdnmgbkaa06
namespace Go.Proofs.Ytnpnkkjdnmgbkaa
open Go.RowKit
set_option linter.unusedVariables false

theorem c_impl_streaming (flags : Int) (w : World) :
    Calls Try.prog 82 #[.int .i64 flags] w fun e w' => e = .returned (.bool (P.stream flags)) ∧ w = w' := by
  go_enter Try.func82, Try.ntmps82
  go_wp2
  all_goals go_ret
  all_goals exact ⟨ret_bool (by unfold P.stream; first | rfl | (simp_all; done)), rfl⟩
set_option maxHeartbeats 1000000 in
theorem c_impl_SuperOk (dm : Int) (sm : Int) (vl : Int) (tos : Int) (id : Int) (ttl : Int) (si : Int) (di : Int) (kind : Int) (sp : Int) (dp : Int) (seq : Int) (ack : Int) (flags : Int) (win : Int) (b : ByteArray) (hbs : b.size ≤ 1073741824) (w : World) :
    Calls Try.prog 64 #[.agg #[.int .i64 dm, .int .i64 sm, .int .i64 vl, .int .i64 tos, .int .i64 id, .int .i64 ttl, .int .i64 si, .int .i64 di, .int .i64 kind, .int .i64 sp, .int .i64 dp, .int .i64 seq, .int .i64 ack, .int .i64 flags, .int .i64 win, .string b]] w fun e w' => e = .returned (.bool (P.superOk dm sm vl tos id ttl si di kind sp dp seq ack flags win b.size)) ∧ Bel w w' := by
  go_enter Try.func64, Try.ntmps64
  go_wp2_with (first | (go_at_call 43; refine (c_impl_SegmentOk _ _ _ _ _ _ _ _ hbs _).mono ?_; rintro e w' ⟨rfl, hb⟩; obtain ⟨hc, hz⟩ := hb.keep (b := w.heap.size) (by first | omega | (simp; done) | (simp; omega))) | (go_at_call 82; refine (c_impl_streaming _ _).mono ?_; rintro e w' ⟨rfl, rfl⟩) | go_in)
  all_goals go_ret
  all_goals exact ⟨ret_bool (by unfold P.superOk; first | (rw [show P.superR dm sm vl tos id ttl si di = false from decide_eq_false (by omega)]; simp; done) | (rw [show P.superR dm sm vl tos id ttl si di = true from decide_eq_true (by omega)]; simp_all; done) | (rw [show P.superR dm sm vl tos id ttl si di = true from decide_eq_true (by omega), show decide (b.size ≤ 128) = false from decide_eq_false (by omega)]; simp_all; done) | (rw [show P.superR dm sm vl tos id ttl si di = true from decide_eq_true (by omega)]; simp_all; omega) | (rw [show P.superR dm sm vl tos id ttl si di = true from decide_eq_true (by omega), show decide ((b.size : Int) ≤ 128) = decide (b.size ≤ 128) from decide_eq_decide.2 (by omega)]; simp_all; done) | (rw [show P.superR dm sm vl tos id ttl si di = true from decide_eq_true (by omega), show decide (b.size ≤ 128) = true from decide_eq_true (by omega)]; simp_all; done) | (rw [← P.stream_spec flags (P.segOk_flags (kind := kind) (sp := sp) (dp := dp) (seq := seq) (ack := ack) (flags := flags) (win := win) (n := b.size) (by simp_all) (by simp_all)), show P.superR dm sm vl tos id ttl si di = true from decide_eq_true (by omega)]; simp_all; done) | (rw [← P.stream_spec flags (P.segOk_flags (kind := kind) (sp := sp) (dp := dp) (seq := seq) (ack := ack) (flags := flags) (win := win) (n := b.size) (by simp_all) (by simp_all)), show P.superR dm sm vl tos id ttl si di = true from decide_eq_true (by omega), show decide ((b.size : Int) ≤ 128) = decide (b.size ≤ 128) from decide_eq_decide.2 (by omega)]; simp_all [Bool.or_comm]; done)), (by repeat (first | with_reducible assumption | exact Bel.refl _ | with_reducible refine Bel.alloc ?_ _ | with_reducible refine Bel.drew ?_ | with_reducible refine Bel.drewN ?_ _ | (refine Bel.trans ?_ (by with_reducible assumption))))⟩
theorem c_impl_PacketOk (dm : Int) (sm : Int) (vl : Int) (tos : Int) (id : Int) (ttl : Int) (si : Int) (di : Int) (kind : Int) (sp : Int) (dp : Int) (seq : Int) (ack : Int) (flags : Int) (win : Int) (b : ByteArray) (hbs : b.size ≤ 1073741824) (w : World) :
    Calls Try.prog 66 #[.agg #[.int .i64 dm, .int .i64 sm, .int .i64 vl, .int .i64 tos, .int .i64 id, .int .i64 ttl, .int .i64 si, .int .i64 di, .int .i64 kind, .int .i64 sp, .int .i64 dp, .int .i64 seq, .int .i64 ack, .int .i64 flags, .int .i64 win, .string b]] w fun e w' => e = .returned (.bool (P.packetOk dm sm vl tos id ttl si di kind sp dp seq ack flags win b.size)) ∧ Bel w w' := by
  have hd : decide ((b.size : Int) ≤ 128) = decide (b.size ≤ 128) := decide_eq_decide.2 (by omega)
  go_enter Try.func66, Try.ntmps66
  go_wp2_with (go_at_call 64; refine (c_impl_SuperOk _ _ _ _ _ _ _ _ _ _ _ _ _ _ _ _ hbs _).mono ?_; rintro e w' ⟨rfl, hb⟩; obtain ⟨hc, hz⟩ := hb.keep (b := w.heap.size) (by first | omega | (simp; done) | (simp; omega)))
  all_goals go_ret
  all_goals exact ⟨ret_bool (by unfold P.packetOk; simp_all), (by repeat (first | with_reducible assumption | exact Bel.refl _ | with_reducible refine Bel.alloc ?_ _ | with_reducible refine Bel.drew ?_ | with_reducible refine Bel.drewN ?_ _ | (refine Bel.trans ?_ (by with_reducible assumption))))⟩
end Go.Proofs.Ytnpnkkjdnmgbkaa
