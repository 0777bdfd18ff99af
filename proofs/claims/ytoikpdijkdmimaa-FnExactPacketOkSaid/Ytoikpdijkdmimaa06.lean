/-
  The contracts of chapter 6: segments.
-/
import Derived.Test.Ytoikpdijkdmimaa02
import Derived.Test.YtoikpdijkdmimaaRegion
namespace Go.Proofs.Ytoikpdijkdmimaa
open Go.RowKit
set_option linter.unusedVariables false

theorem c_toSegmentW (kind : Int) (sp : Int) (dp : Int) (seq : Int) (ack : Int) (flags : Int) (win : Int) (b : ByteArray) (w : World) :
    Calls Try.prog 29 #[.agg #[.int .i64 kind, .int .i64 sp, .int .i64 dp, .int .i64 seq, .int .i64 ack, .int .i64 flags, .int .i64 win, .string b]] w fun e w' => e = .returned (.agg #[.int .i64 kind, .int .i64 sp, .int .i64 dp, .int .i64 seq, .int .i64 ack, .int .i64 flags, .int .i64 win, .string b]) ∧ w' = ((w.alloc (.cells #[.int .i64 kind, .int .i64 sp, .int .i64 dp, .int .i64 seq, .int .i64 ack, .int .i64 flags, .int .i64 win, .string b] 23)).alloc (.cells #[.int .i64 kind, .int .i64 sp, .int .i64 dp, .int .i64 seq, .int .i64 ack, .int .i64 flags, .int .i64 win, .string b] 28)).alloc (.cells #[.int .i64 kind, .int .i64 sp, .int .i64 dp, .int .i64 seq, .int .i64 ack, .int .i64 flags, .int .i64 win, .string b] 28) := by
  go_enter Try.func29, Try.ntmps29
  go_wp2
  exact bodyPost_ret (v := .agg #[.int .i64 kind, .int .i64 sp, .int .i64 dp, .int .i64 seq, .int .i64 ack, .int .i64 flags, .int .i64 win, .string b]) (by simp [results, Try.results29, go_sem]) rfl ⟨rfl, rfl⟩
theorem c_toSegment (kind : Int) (sp : Int) (dp : Int) (seq : Int) (ack : Int) (flags : Int) (win : Int) (b : ByteArray) (w : World) :
    Calls Try.prog 29 #[.agg #[.int .i64 kind, .int .i64 sp, .int .i64 dp, .int .i64 seq, .int .i64 ack, .int .i64 flags, .int .i64 win, .string b]] w fun e w' => e = .returned (.agg #[.int .i64 kind, .int .i64 sp, .int .i64 dp, .int .i64 seq, .int .i64 ack, .int .i64 flags, .int .i64 win, .string b]) ∧ Bel w w' :=
  (c_toSegmentW kind sp dp seq ack flags win b w).mono fun e w' ⟨he, hw⟩ => ⟨he, by subst hw; exact (((Bel.refl _).alloc _).alloc _).alloc _⟩
theorem c_impl_SegmentOk (kind : Int) (sp : Int) (dp : Int) (seq : Int) (ack : Int) (flags : Int) (win : Int) (b : ByteArray) (hb : b.size ≤ 1073741824) (w : World) :
    Calls Try.prog 31 #[.agg #[.int .i64 kind, .int .i64 sp, .int .i64 dp, .int .i64 seq, .int .i64 ack, .int .i64 flags, .int .i64 win, .string b]] w fun e w' => e = .returned (.bool (P.segOk kind sp dp seq ack flags win b.size)) ∧ Bel w w' := by
  by_cases h6 : kind = 6
  · subst h6
    go_enter Try.func31, Try.ntmps31
    go_wp2
    all_goals go_ret
    all_goals exact ⟨ret_bool (by unfold P.segOk; first | (symm; exact decide_eq_false (by omega)) | (symm; exact decide_eq_true (by omega)) | (rw [Bool.eq_iff_iff]; simp <;> omega)), (Bel.refl _).alloc _⟩
  · by_cases h17 : kind = 17
    · subst h17
      go_enter Try.func31, Try.ntmps31
      go_wp2
      all_goals go_ret
      all_goals exact ⟨ret_bool (by unfold P.segOk; first | (symm; exact decide_eq_false (by omega)) | (symm; exact decide_eq_true (by omega)) | (rw [Bool.eq_iff_iff]; simp <;> omega)), (Bel.refl _).alloc _⟩
    · have e1 : (kind == 6) = false := by simpa using h6
      have e2 : (kind == 17) = false := by simpa using h17
      go_enter Try.func31, Try.ntmps31
      go_wp2
      all_goals go_ret
      all_goals exact ⟨ret_bool (by unfold P.segOk; first | (symm; exact decide_eq_false (by omega)) | (symm; exact decide_eq_true (by omega)) | (rw [Bool.eq_iff_iff]; simp <;> omega)), (Bel.refl _).alloc _⟩
theorem c_spec_SegmentOk (kind : Int) (sp : Int) (dp : Int) (seq : Int) (ack : Int) (flags : Int) (win : Int) (b : ByteArray) (hb : b.size ≤ 1073741824) (w : World) :
    Calls Try.prog 28 #[.agg #[.int .i64 kind, .int .i64 sp, .int .i64 dp, .int .i64 seq, .int .i64 ack, .int .i64 flags, .int .i64 win, .string b]] w fun e w' => e = .returned (.bool (P.segOk kind sp dp seq ack flags win b.size)) ∧ Bel w w' := by
  by_cases h6 : kind = 6
  · subst h6
    go_enter Try.func28, Try.ntmps28
    go_wp2
    all_goals go_ret
    all_goals exact ⟨ret_bool (by unfold P.segOk; first | (symm; exact decide_eq_false (by omega)) | (symm; exact decide_eq_true (by omega)) | (rw [Bool.eq_iff_iff]; simp <;> omega)), (Bel.refl _).alloc _⟩
  · by_cases h17 : kind = 17
    · subst h17
      go_enter Try.func28, Try.ntmps28
      go_wp2
      all_goals go_ret
      all_goals exact ⟨ret_bool (by unfold P.segOk; first | (symm; exact decide_eq_false (by omega)) | (symm; exact decide_eq_true (by omega)) | (rw [Bool.eq_iff_iff]; simp <;> omega)), (Bel.refl _).alloc _⟩
    · have e1 : (kind == 6) = false := by simpa using h6
      have e2 : (kind == 17) = false := by simpa using h17
      go_enter Try.func28, Try.ntmps28
      go_wp2
      all_goals go_ret
      all_goals exact ⟨ret_bool (by unfold P.segOk; first | (symm; exact decide_eq_false (by omega)) | (symm; exact decide_eq_true (by omega)) | (rw [Bool.eq_iff_iff]; simp <;> omega)), (Bel.refl _).alloc _⟩
end Go.Proofs.Ytoikpdijkdmimaa
