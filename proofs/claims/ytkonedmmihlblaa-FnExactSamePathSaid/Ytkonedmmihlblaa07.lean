/-
  The contracts of chapter 7: packets.
-/
import Derived.Test.Ytkonedmmihlblaa06
namespace Go.Proofs.Ytkonedmmihlblaa
open Go.RowKit
set_option linter.unusedVariables false

set_option maxHeartbeats 1000000 in
theorem c_toPacket (dm : Int) (sm : Int) (vl : Int) (tos : Int) (id : Int) (ttl : Int) (si : Int) (di : Int) (kind : Int) (sp : Int) (dp : Int) (seq : Int) (ack : Int) (flags : Int) (win : Int) (b : ByteArray) (w : World) :
    Calls Try.prog 44 #[.agg #[.int .i64 dm, .int .i64 sm, .int .i64 vl, .int .i64 tos, .int .i64 id, .int .i64 ttl, .int .i64 si, .int .i64 di, .int .i64 kind, .int .i64 sp, .int .i64 dp, .int .i64 seq, .int .i64 ack, .int .i64 flags, .int .i64 win, .string b]] w fun e w' => e = .returned (.agg #[.int .i64 dm, .int .i64 sm, .int .i64 vl, .int .i64 tos, .int .i64 id, .int .i64 ttl, .int .i64 si, .int .i64 di, .int .i64 kind, .int .i64 sp, .int .i64 dp, .int .i64 seq, .int .i64 ack, .int .i64 flags, .int .i64 win, .string b]) ∧ Bel w w' := by
  go_enter Try.func44, Try.ntmps44
  go_wp2_with (first | (go_at_call 38; refine (c_toSegmentW _ _ _ _ _ _ _ _ _).mono ?_; rintro e w' ⟨rfl, rfl⟩))
  exact bodyPost_ret (v := .agg #[.int .i64 dm, .int .i64 sm, .int .i64 vl, .int .i64 tos, .int .i64 id, .int .i64 ttl, .int .i64 si, .int .i64 di, .int .i64 kind, .int .i64 sp, .int .i64 dp, .int .i64 seq, .int .i64 ack, .int .i64 flags, .int .i64 win, .string b]) (by simp [results, Try.results44, go_sem]) rfl ⟨rfl, ((((((Bel.refl _).alloc _).alloc _).alloc _).alloc _).alloc _).alloc _⟩
theorem c_impl_FlowOf (dm : Int) (sm : Int) (vl : Int) (tos : Int) (id : Int) (ttl : Int) (si : Int) (di : Int) (kind : Int) (sp : Int) (dp : Int) (seq : Int) (ack : Int) (flags : Int) (win : Int) (b : ByteArray) (w : World) :
    Calls Try.prog 45 #[.agg #[.int .i64 dm, .int .i64 sm, .int .i64 vl, .int .i64 tos, .int .i64 id, .int .i64 ttl, .int .i64 si, .int .i64 di, .int .i64 kind, .int .i64 sp, .int .i64 dp, .int .i64 seq, .int .i64 ack, .int .i64 flags, .int .i64 win, .string b]] w fun e w' => e = .returned (.agg #[.int .i64 kind, .int .i64 si, .int .i64 di, .int .i64 sp, .int .i64 dp]) ∧ Bel w w' := by
  go_enter Try.func45, Try.ntmps45
  go_wp2
  exact bodyPost_ret (v := .agg #[.int .i64 kind, .int .i64 si, .int .i64 di, .int .i64 sp, .int .i64 dp]) (by simp [results, Try.results45, go_sem]) rfl ⟨rfl, ((Bel.refl _).alloc _).alloc _⟩
theorem c_spec_FlowOf (dm : Int) (sm : Int) (vl : Int) (tos : Int) (id : Int) (ttl : Int) (si : Int) (di : Int) (kind : Int) (sp : Int) (dp : Int) (seq : Int) (ack : Int) (flags : Int) (win : Int) (b : ByteArray) (w : World) :
    Calls Try.prog 43 #[.agg #[.int .i64 dm, .int .i64 sm, .int .i64 vl, .int .i64 tos, .int .i64 id, .int .i64 ttl, .int .i64 si, .int .i64 di, .int .i64 kind, .int .i64 sp, .int .i64 dp, .int .i64 seq, .int .i64 ack, .int .i64 flags, .int .i64 win, .string b]] w fun e w' => e = .returned (.agg #[.int .i64 kind, .int .i64 si, .int .i64 di, .int .i64 sp, .int .i64 dp]) ∧ Bel w w' := by
  go_enter Try.func43, Try.ntmps43
  go_wp2
  exact bodyPost_ret (v := .agg #[.int .i64 kind, .int .i64 si, .int .i64 di, .int .i64 sp, .int .i64 dp]) (by simp [results, Try.results43, go_sem]) rfl ⟨rfl, ((Bel.refl _).alloc _).alloc _⟩
set_option maxHeartbeats 2000000 in
theorem c_impl_SamePath (dm : Int) (sm : Int) (vl : Int) (tos : Int) (id : Int) (ttl : Int) (si : Int) (di : Int) (kind : Int) (sp : Int) (dp : Int) (seq : Int) (ack : Int) (flags : Int) (win : Int) (b : ByteArray) (dm' : Int) (sm' : Int) (vl' : Int) (tos' : Int) (id' : Int) (ttl' : Int) (si' : Int) (di' : Int) (kind' : Int) (sp' : Int) (dp' : Int) (seq' : Int) (ack' : Int) (flags' : Int) (win' : Int) (b' : ByteArray) (w : World) :
    Calls Try.prog 48 #[.agg #[.int .i64 dm, .int .i64 sm, .int .i64 vl, .int .i64 tos, .int .i64 id, .int .i64 ttl, .int .i64 si, .int .i64 di, .int .i64 kind, .int .i64 sp, .int .i64 dp, .int .i64 seq, .int .i64 ack, .int .i64 flags, .int .i64 win, .string b], .agg #[.int .i64 dm', .int .i64 sm', .int .i64 vl', .int .i64 tos', .int .i64 id', .int .i64 ttl', .int .i64 si', .int .i64 di', .int .i64 kind', .int .i64 sp', .int .i64 dp', .int .i64 seq', .int .i64 ack', .int .i64 flags', .int .i64 win', .string b']] w fun e w' => e = .returned (.bool (P.samePath dm sm vl tos ttl si di kind sp dp ack win dm' sm' vl' tos' ttl' si' di' kind' sp' dp' ack' win')) ∧ Bel w w' := by
  go_enter Try.func48, Try.ntmps48
  go_wp2
  all_goals go_ret
  all_goals exact ⟨ret_bool (by unfold P.samePath; first | (symm; exact decide_eq_true (by simp_all)) | (symm; exact decide_eq_false (by simp_all))), ((Bel.refl _).alloc _).alloc _⟩
set_option maxHeartbeats 2000000 in
theorem c_spec_SamePath (dm : Int) (sm : Int) (vl : Int) (tos : Int) (id : Int) (ttl : Int) (si : Int) (di : Int) (kind : Int) (sp : Int) (dp : Int) (seq : Int) (ack : Int) (flags : Int) (win : Int) (b : ByteArray) (dm' : Int) (sm' : Int) (vl' : Int) (tos' : Int) (id' : Int) (ttl' : Int) (si' : Int) (di' : Int) (kind' : Int) (sp' : Int) (dp' : Int) (seq' : Int) (ack' : Int) (flags' : Int) (win' : Int) (b' : ByteArray) (w : World) :
    Calls Try.prog 47 #[.agg #[.int .i64 dm, .int .i64 sm, .int .i64 vl, .int .i64 tos, .int .i64 id, .int .i64 ttl, .int .i64 si, .int .i64 di, .int .i64 kind, .int .i64 sp, .int .i64 dp, .int .i64 seq, .int .i64 ack, .int .i64 flags, .int .i64 win, .string b], .agg #[.int .i64 dm', .int .i64 sm', .int .i64 vl', .int .i64 tos', .int .i64 id', .int .i64 ttl', .int .i64 si', .int .i64 di', .int .i64 kind', .int .i64 sp', .int .i64 dp', .int .i64 seq', .int .i64 ack', .int .i64 flags', .int .i64 win', .string b']] w fun e w' => e = .returned (.bool (P.samePath dm sm vl tos ttl si di kind sp dp ack win dm' sm' vl' tos' ttl' si' di' kind' sp' dp' ack' win')) ∧ Bel w w' := by
  go_enter Try.func47, Try.ntmps47
  go_wp2
  all_goals go_ret
  all_goals exact ⟨ret_bool (by unfold P.samePath; first | (symm; exact decide_eq_true (by simp_all)) | (symm; exact decide_eq_false (by simp_all))), ((Bel.refl _).alloc _).alloc _⟩
end Go.Proofs.Ytkonedmmihlblaa
