/-
  The contracts of chapter 5: datagrams.
-/
import Derived.Test.Ytnpnkkjdnmgbkaa02
namespace Go.Proofs.Ytnpnkkjdnmgbkaa
open Go.RowKit
set_option linter.unusedVariables false

theorem c_impl_IpOk (tos : Int) (id : Int) (ttl : Int) (proto : Int) (src : Int) (dst : Int) (b : ByteArray) (hb : b.size ≤ 1073741824) (w : World) :
    Calls Try.prog 58 #[.agg #[.int .i64 tos, .int .i64 id, .int .i64 ttl, .int .i64 proto, .int .i64 src, .int .i64 dst, .string b]] w fun e w' => e = .returned (.bool (P.ipOk tos id ttl proto src dst b.size)) ∧ Bel w w' := by
  go_enter Try.func58, Try.ntmps58
  go_wp2
  all_goals go_ret
  all_goals exact ⟨ret_bool (by unfold P.ipOk; first | (symm; exact decide_eq_false (by omega)) | (symm; exact decide_eq_true (by omega)) | (rw [Bool.eq_iff_iff]; simp <;> omega)), (Bel.refl _).alloc _⟩
theorem c_spec_IpOk (tos : Int) (id : Int) (ttl : Int) (proto : Int) (src : Int) (dst : Int) (b : ByteArray) (hb : b.size ≤ 1073741824) (w : World) :
    Calls Try.prog 77 #[.agg #[.int .i64 tos, .int .i64 id, .int .i64 ttl, .int .i64 proto, .int .i64 src, .int .i64 dst, .string b]] w fun e w' => e = .returned (.bool (P.ipOk tos id ttl proto src dst b.size)) ∧ Bel w w' := by
  go_enter Try.func77, Try.ntmps77
  go_wp2
  all_goals go_ret
  all_goals exact ⟨ret_bool (by unfold P.ipOk; first | (symm; exact decide_eq_false (by omega)) | (symm; exact decide_eq_true (by omega)) | (rw [Bool.eq_iff_iff]; simp <;> omega)), (Bel.refl _).alloc _⟩
end Go.Proofs.Ytnpnkkjdnmgbkaa
