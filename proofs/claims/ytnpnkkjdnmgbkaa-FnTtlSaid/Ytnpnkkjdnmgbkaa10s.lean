/-
  The contracts of chapter 5, third part: datagrams built and read back, a lowered time to live (the reference's).
-/
import Derived.Test.Ytnpnkkjdnmgbkaa09s
import Derived.Test.YtnpnkkjdnmgbkaaBox
import Derived.Test.YtnpnkkjdnmgbkaaPure2
namespace Go.Proofs.Ytnpnkkjdnmgbkaa
open Go.RowKit
set_option linter.unusedVariables false

theorem c_spec_BuildIp (tos id ttl proto src dst : Int) (b : ByteArray) (hb : b.size ≤ 1073741824) (w : World) :
    Calls Try.prog 44 #[.agg #[.int .i64 tos, .int .i64 id, .int .i64 ttl, .int .i64 proto, .int .i64 src, .int .i64 dst, .string b]] w fun e w' => e = .returned (.tuple #[.string (P.buildIp tos id ttl proto src dst b), .bool (P.ipOk tos id ttl proto src dst b.size)]) ∧ Bel w w' := by
  have hz := P.ipHead_size_le tos id ttl proto src dst b.size
  cases hok : P.ipOk tos id ttl proto src dst b.size with
  | false =>
    go_enter Try.func44, Try.ntmps44
    go_wp2_with (go_at_call 63; refine (c_spec_IpHeader _ _ _ _ _ _ _ hb _).mono ?_; rintro e w1 ⟨he, h1⟩; rw [hok] at he; subst he; obtain ⟨hc1, hz1⟩ := h1.keep (b := w.heap.size) (by simp))
    go_ret2
    exact ⟨ret_sb (by unfold P.buildIp; rw [hok]; rfl) rfl, (by repeat (first | with_reducible assumption | with_reducible exact Bel.refl _ | with_reducible refine Bel.alloc ?_ _ | with_reducible refine Bel.drew ?_ | with_reducible refine Bel.drewN ?_ _ | with_reducible refine Bel.setCell ?_ ?_ _ | with_reducible exact Nat.le_refl _ | (dsimp only; omega) | (refine Bel.trans ?_ (by with_reducible assumption))))⟩
  | true =>
    go_enter Try.func44, Try.ntmps44
    go_wp2_with (go_at_call 63; refine (c_spec_IpHeader _ _ _ _ _ _ _ hb _).mono ?_; rintro e w1 ⟨he, h1⟩; rw [hok] at he; subst he; obtain ⟨hc1, hz1⟩ := h1.keep (b := w.heap.size) (by simp))
    go_ret2
    exact ⟨ret_sb (by unfold P.buildIp; rw [if_pos hok]) rfl, (by repeat (first | with_reducible assumption | with_reducible exact Bel.refl _ | with_reducible refine Bel.alloc ?_ _ | with_reducible refine Bel.drew ?_ | with_reducible refine Bel.drewN ?_ _ | with_reducible refine Bel.setCell ?_ ?_ _ | with_reducible exact Nat.le_refl _ | (dsimp only; omega) | (refine Bel.trans ?_ (by with_reducible assumption))))⟩
end Go.Proofs.Ytnpnkkjdnmgbkaa
