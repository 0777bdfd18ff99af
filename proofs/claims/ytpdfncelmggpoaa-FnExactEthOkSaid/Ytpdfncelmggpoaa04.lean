/-
  The contracts of chapter 4: frames.
-/
import Derived.Test.Ytpdfncelmggpoaa01
import Derived.Test.Ytpdfncelmggpoaa02
namespace Go.Proofs.Ytpdfncelmggpoaa
open Go.RowKit
set_option linter.unusedVariables false

theorem c_toEth (d s v t : Int) (b : ByteArray) (w : World) :
    Calls Try.prog 33 #[.agg #[.int .i64 d, .int .i64 s, .int .i64 v, .int .i64 t, .string b]] w fun e w' => e = .returned (.agg #[.int .i64 d, .int .i64 s, .int .i64 v, .int .i64 t, .string b]) ∧ Bel w w' := by
  go_enter Try.func33, Try.ntmps33
  go_wp2
  exact bodyPost_ret (v := .agg #[.int .i64 d, .int .i64 s, .int .i64 v, .int .i64 t, .string b]) (by simp [results, Try.results33, go_sem]) rfl ⟨rfl, (((Bel.refl _).alloc _).alloc _).alloc _⟩
theorem c_impl_EthOk (d s v t : Int) (b : ByteArray) (hb : b.size ≤ 1073741824) (w : World) :
    Calls Try.prog 34 #[.agg #[.int .i64 d, .int .i64 s, .int .i64 v, .int .i64 t, .string b]] w fun e w' => e = .returned (.bool (P.ethOk d s v t b.size)) ∧ Bel w w' := by
  go_enter Try.func34, Try.ntmps34
  go_wp2
  all_goals go_ret
  all_goals exact ⟨ret_bool (by unfold P.ethOk; first | (symm; exact decide_eq_false (by omega)) | (rw [Bool.eq_iff_iff]; simp only [Bool.and_eq_true, bne_iff_ne, decide_eq_true_eq, ne_eq]; omega)), (Bel.refl _).alloc _⟩
theorem c_spec_EthOk (d s v t : Int) (b : ByteArray) (hb : b.size ≤ 1073741824) (w : World) :
    Calls Try.prog 32 #[.agg #[.int .i64 d, .int .i64 s, .int .i64 v, .int .i64 t, .string b]] w fun e w' => e = .returned (.bool (P.ethOk d s v t b.size)) ∧ Bel w w' := by
  go_enter Try.func32, Try.ntmps32
  go_wp2
  all_goals go_ret
  all_goals exact ⟨ret_bool (by unfold P.ethOk; first | (symm; exact decide_eq_false (by omega)) | (rw [Bool.eq_iff_iff]; simp only [Bool.and_eq_true, bne_iff_ne, decide_eq_true_eq, ne_eq]; omega)), (Bel.refl _).alloc _⟩
theorem c_impl_PadBody (s : ByteArray) (hs : s.size ≤ 1073741824) (w : World) :
    Calls Try.prog 30 #[.string s] w fun e w' => e = .returned (.string (P.padBody s)) ∧ Bel w w' := by
  by_cases h : s.size < 46
  · have e1 : (46 : Int) - (s.size : Int) = ((46 - s.size : Nat) : Int) := by omega
    have hz := P.rep_size 0 (46 - s.size)
    have hz2 : ¬ (9223372036854775807 < s.size + (P.rep 0 (46 - s.size)).size) := by omega
    clear hz
    go_enter Try.func30, Try.ntmps30
    go_wp2_with (go_at_call 43; refine (c_impl_repeat 0 (46 - s.size) (by omega) (by omega) _).mono ?_; rintro e w' ⟨rfl, hb⟩)
    go_ret
    exact ⟨ret_str (by unfold P.padBody; rw [if_pos h]), by assumption⟩
  · go_enter Try.func30, Try.ntmps30
    go_wp2
    go_ret
    exact ⟨ret_str (by unfold P.padBody; rw [if_neg h]), Bel.refl _⟩
theorem c_spec_PadBody (s : ByteArray) (hs : s.size ≤ 1073741824) (w : World) :
    Calls Try.prog 29 #[.string s] w fun e w' => e = .returned (.string (P.padBody s)) ∧ Bel w w' := by
  by_cases h : s.size < 46
  · have e1 : (46 : Int) - (s.size : Int) = ((46 - s.size : Nat) : Int) := by omega
    have hz := P.rep_size 0 (46 - s.size)
    have hz2 : ¬ (9223372036854775807 < s.size + (P.rep 0 (46 - s.size)).size) := by omega
    clear hz
    go_enter Try.func29, Try.ntmps29
    go_wp2_with (go_at_call 42; refine (c_spec_l01Long (46 - s.size) 0 (by omega) (by omega) _).mono ?_; rintro e w' ⟨rfl, hb⟩)
    go_ret
    exact ⟨ret_str (by unfold P.padBody; rw [if_pos h]), by assumption⟩
  · go_enter Try.func29, Try.ntmps29
    go_wp2
    go_ret
    exact ⟨ret_str (by unfold P.padBody; rw [if_neg h]), Bel.refl _⟩
end Go.Proofs.Ytpdfncelmggpoaa
