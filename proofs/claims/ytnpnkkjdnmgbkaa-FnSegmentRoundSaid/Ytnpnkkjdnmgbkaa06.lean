/-
  The contracts of chapter 6: segments.
-/
import Derived.Test.Ytnpnkkjdnmgbkaa02
import Derived.Test.YtnpnkkjdnmgbkaaRegion
namespace Go.Proofs.Ytnpnkkjdnmgbkaa
open Go.RowKit
set_option linter.unusedVariables false

theorem c_impl_SegmentOk (kind : Int) (sp : Int) (dp : Int) (seq : Int) (ack : Int) (flags : Int) (win : Int) (b : ByteArray) (hb : b.size ≤ 1073741824) (w : World) :
    Calls Try.prog 43 #[.agg #[.int .i64 kind, .int .i64 sp, .int .i64 dp, .int .i64 seq, .int .i64 ack, .int .i64 flags, .int .i64 win, .string b]] w fun e w' => e = .returned (.bool (P.segOk kind sp dp seq ack flags win b.size)) ∧ Bel w w' := by
  by_cases h6 : kind = 6
  · subst h6
    go_enter Try.func43, Try.ntmps43
    go_wp2
    all_goals go_ret
    all_goals exact ⟨ret_bool (by unfold P.segOk; first | (symm; exact decide_eq_false (by omega)) | (symm; exact decide_eq_true (by omega)) | (rw [Bool.eq_iff_iff]; simp <;> omega)), (Bel.refl _).alloc _⟩
  · by_cases h17 : kind = 17
    · subst h17
      go_enter Try.func43, Try.ntmps43
      go_wp2
      all_goals go_ret
      all_goals exact ⟨ret_bool (by unfold P.segOk; first | (symm; exact decide_eq_false (by omega)) | (symm; exact decide_eq_true (by omega)) | (rw [Bool.eq_iff_iff]; simp <;> omega)), (Bel.refl _).alloc _⟩
    · have e1 : (kind == 6) = false := by simpa using h6
      have e2 : (kind == 17) = false := by simpa using h17
      go_enter Try.func43, Try.ntmps43
      go_wp2
      all_goals go_ret
      all_goals exact ⟨ret_bool (by unfold P.segOk; first | (symm; exact decide_eq_false (by omega)) | (symm; exact decide_eq_true (by omega)) | (rw [Bool.eq_iff_iff]; simp <;> omega)), (Bel.refl _).alloc _⟩
set_option maxHeartbeats 1000000 in
theorem c_impl_PseudoHeader (src dst kind len : Int) (w : World) :
    Calls Try.prog 61 #[.int .i64 src, .int .i64 dst, .int .i64 kind, .int .i64 len] w fun e w' => e = .returned (.tuple #[.string (P.pseudo src dst kind len), .bool (P.pseudoOk src dst kind len)]) ∧ Bel w w' := by
  by_cases c1 : 0 ≤ src
  · by_cases c2 : src ≤ 4294967295
    · by_cases c3 : 0 ≤ dst
      · by_cases c4 : dst ≤ 4294967295
        · by_cases c5 : 0 ≤ kind
          · by_cases c6 : kind ≤ 255
            · by_cases c7 : 0 ≤ len
              · by_cases c8 : len ≤ 65535
                · have hfin : P.pseudoOk src dst kind len = true := decide_eq_true ⟨c1, c2, c3, c4, c5, c6, c7, c8⟩
                  have hfin2 : P.pseudo src dst kind len = P.word32 src ++ P.word32 dst ++ P.bs [P.by8 0, P.by8 kind] ++ P.word16 len := by unfold P.pseudo; rw [if_pos hfin]
                  rw [hfin, hfin2]
                  clear hfin hfin2
                  have z1 := P.word32_size_le src
                  have z2 := P.word32_size_le dst
                  have z3 := P.word16_size_le len
                  have e1 : IntKind.u8.wrap kind = kind := IntWalk.u8_in _ (by omega)
                  go_enter Try.func61, Try.ntmps61
                  go_wp2_with (go_at_call 53; go_in)
                  refine wp_region_fix [.int .i64 src, .string (P.word32 src), .int .i64 dst, .string (P.word32 dst), .string (P.word32 src ++ P.word32 dst), .int .i64 kind, .int .u8 kind, undef, .string (P.bs [P.by8 0, P.by8 kind]),
                    .string (P.word32 src ++ P.word32 dst ++ P.bs [P.by8 0, P.by8 kind]), .int .i64 len, .string (P.word16 len), .string (P.word32 src ++ P.word32 dst ++ P.bs [P.by8 0, P.by8 kind] ++ P.word16 len), .string (P.word32 src ++ P.word32 dst ++ P.bs [P.by8 0, P.by8 kind] ++ P.word16 len), .bool true]
                    [none, none, none, none, none, none, none, some [0, kind]] (by kernel_rfl) (by kernel_rfl) ?_ ?_
                  · refine ⟨?_, ?_, ?_, ?_, ?_, ?_, ?_, ?_, ?_, ?_, ?_, ?_, ?_, ?_, ?_, trivial⟩
                    all_goals intro β w' hb hrow
                    all_goals simp [lastTmps, putL, theVal, List.range, List.range.loop, QB, seen, dep, dstOf, go_sem, Region.binds] at hrow ⊢
                    all_goals first | exact Bel.refl _ | exact ⟨Bel.refl _, by assumption⟩ | exact c_impl_Word32 _ _ | exact c_impl_Word16 _ _ | (rw [if_neg (by omega)]; exact ⟨Bel.refl _, rfl⟩) | exact ⟨(Bel.refl _).alloc _, rowAt2 _ _ _⟩ | (rw [hrow.c20, hrow.c21]; exact ⟨Bel.refl _, rfl⟩)
                  · intro β w' hb
                    simp [lastTmps, putL, theVal, List.range, List.range.loop]
                    go_wp2
                    go_ret2
                    exact ⟨ret_sb rfl rfl, hb⟩
                · have hfin : P.pseudoOk src dst kind len = false := decide_eq_false (by omega)
                  have hfin2 : P.pseudo src dst kind len = P.bs [] := by unfold P.pseudo; rw [hfin]; rfl
                  rw [hfin, hfin2]
                  clear hfin hfin2
                  go_enter Try.func61, Try.ntmps61
                  go_wp2
                  go_ret2
                  exact ⟨ret_sb rfl rfl, Bel.refl _⟩
              · have hfin : P.pseudoOk src dst kind len = false := decide_eq_false (by omega)
                have hfin2 : P.pseudo src dst kind len = P.bs [] := by unfold P.pseudo; rw [hfin]; rfl
                rw [hfin, hfin2]
                clear hfin hfin2
                go_enter Try.func61, Try.ntmps61
                go_wp2
                go_ret2
                exact ⟨ret_sb rfl rfl, Bel.refl _⟩
            · have hfin : P.pseudoOk src dst kind len = false := decide_eq_false (by omega)
              have hfin2 : P.pseudo src dst kind len = P.bs [] := by unfold P.pseudo; rw [hfin]; rfl
              rw [hfin, hfin2]
              clear hfin hfin2
              go_enter Try.func61, Try.ntmps61
              go_wp2
              go_ret2
              exact ⟨ret_sb rfl rfl, Bel.refl _⟩
          · have hfin : P.pseudoOk src dst kind len = false := decide_eq_false (by omega)
            have hfin2 : P.pseudo src dst kind len = P.bs [] := by unfold P.pseudo; rw [hfin]; rfl
            rw [hfin, hfin2]
            clear hfin hfin2
            go_enter Try.func61, Try.ntmps61
            go_wp2
            go_ret2
            exact ⟨ret_sb rfl rfl, Bel.refl _⟩
        · have hfin : P.pseudoOk src dst kind len = false := decide_eq_false (by omega)
          have hfin2 : P.pseudo src dst kind len = P.bs [] := by unfold P.pseudo; rw [hfin]; rfl
          rw [hfin, hfin2]
          clear hfin hfin2
          go_enter Try.func61, Try.ntmps61
          go_wp2
          go_ret2
          exact ⟨ret_sb rfl rfl, Bel.refl _⟩
      · have hfin : P.pseudoOk src dst kind len = false := decide_eq_false (by omega)
        have hfin2 : P.pseudo src dst kind len = P.bs [] := by unfold P.pseudo; rw [hfin]; rfl
        rw [hfin, hfin2]
        clear hfin hfin2
        go_enter Try.func61, Try.ntmps61
        go_wp2
        go_ret2
        exact ⟨ret_sb rfl rfl, Bel.refl _⟩
    · have hfin : P.pseudoOk src dst kind len = false := decide_eq_false (by omega)
      have hfin2 : P.pseudo src dst kind len = P.bs [] := by unfold P.pseudo; rw [hfin]; rfl
      rw [hfin, hfin2]
      clear hfin hfin2
      go_enter Try.func61, Try.ntmps61
      go_wp2
      go_ret2
      exact ⟨ret_sb rfl rfl, Bel.refl _⟩
  · have hfin : P.pseudoOk src dst kind len = false := decide_eq_false (by omega)
    have hfin2 : P.pseudo src dst kind len = P.bs [] := by unfold P.pseudo; rw [hfin]; rfl
    rw [hfin, hfin2]
    clear hfin hfin2
    go_enter Try.func61, Try.ntmps61
    go_wp2
    go_ret2
    exact ⟨ret_sb rfl rfl, Bel.refl _⟩
end Go.Proofs.Ytnpnkkjdnmgbkaa
