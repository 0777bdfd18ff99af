/-
  The contracts of chapter 4: frames.
-/
import Derived.Test.Ytnpnkkjdnmgbkaa01
import Derived.Test.Ytnpnkkjdnmgbkaa02
import Derived.Test.YtnpnkkjdnmgbkaaRegion
namespace Go.Proofs.Ytnpnkkjdnmgbkaa
open Go.RowKit
set_option linter.unusedVariables false

theorem c_impl_EthOk (d s v t : Int) (b : ByteArray) (hb : b.size ≤ 1073741824) (w : World) :
    Calls Try.prog 34 #[.agg #[.int .i64 d, .int .i64 s, .int .i64 v, .int .i64 t, .string b]] w fun e w' => e = .returned (.bool (P.ethOk d s v t b.size)) ∧ Bel w w' := by
  go_enter Try.func34, Try.ntmps34
  go_wp2
  all_goals go_ret
  all_goals exact ⟨ret_bool (by unfold P.ethOk; first | (symm; exact decide_eq_false (by omega)) | (rw [Bool.eq_iff_iff]; simp <;> omega)), (Bel.refl _).alloc _⟩
theorem c_impl_PadBody (s : ByteArray) (hs : s.size ≤ 1073741824) (w : World) :
    Calls Try.prog 65 #[.string s] w fun e w' => e = .returned (.string (P.padBody s)) ∧ Bel w w' := by
  by_cases h : s.size < 46
  · have e1 : (46 : Int) - (s.size : Int) = ((46 - s.size : Nat) : Int) := by omega
    have hz := P.rep_size 0 (46 - s.size)
    have hz2 : ¬ (9223372036854775807 < s.size + (P.rep 0 (46 - s.size)).size) := by omega
    clear hz
    go_enter Try.func65, Try.ntmps65
    go_wp2_with (go_at_call 83; refine (c_impl_repeat 0 (46 - s.size) (by omega) (by omega) _).mono ?_; rintro e w' ⟨rfl, hb⟩)
    go_ret
    exact ⟨ret_str (by unfold P.padBody; rw [if_pos h]), by assumption⟩
  · go_enter Try.func65, Try.ntmps65
    go_wp2
    go_ret
    exact ⟨ret_str (by unfold P.padBody; rw [if_neg h]), Bel.refl _⟩
theorem c_impl_macBytes (a : Int) (h : 0 ≤ a ∧ a ≤ 281474976710655) (w : World) :
    Calls Try.prog 56 #[.int .i64 a] w fun e w' => e = .returned (.string (P.mac a)) ∧ Bel w w' := by
  have e1 : bits .and .i64 a 4294967295 = a % 4294967296 := P.and_mask32 a (by omega)
  have z1 := P.word16_size_le (a / 4294967296)
  have z2 := P.word32_size_le (a % 4294967296)
  go_enter Try.func56, Try.ntmps56
  go_wp2_with (first | (go_at_call 21; refine (c_impl_Word16 _ _).mono ?_; rintro e w' ⟨rfl, hb⟩) | (go_at_call 25; refine (c_impl_Word32 _ _).mono ?_; rintro e w' ⟨rfl, hb⟩))
  go_ret
  exact ⟨ret_str rfl, Bel.trans (by assumption) (by assumption)⟩
set_option maxHeartbeats 1000000 in
theorem c_impl_BuildEth (d s v t : Int) (b : ByteArray) (hb : b.size ≤ 1073741824) (w : World) :
    Calls Try.prog 31 #[.agg #[.int .i64 d, .int .i64 s, .int .i64 v, .int .i64 t, .string b]] w fun e w' => e = .returned (.tuple #[.string (P.buildEth d s v t b), .bool (P.ethOk d s v t b.size)]) ∧ Bel w w' := by
  cases hok : P.ethOk d s v t b.size with
  | false =>
    go_enter Try.func31, Try.ntmps31
    go_wp2_with (go_at_call 34; refine (c_impl_EthOk _ _ _ _ _ hb _).mono ?_; rintro e w' ⟨rfl, hb⟩)
    go_ret2
    exact ⟨ret_sb (by unfold P.buildEth; rw [hok]; rfl) rfl, Bel.trans ((Bel.refl _).alloc _) (by assumption)⟩
  | true =>
    have hr := of_decide_eq_true hok
    have hD : 0 ≤ d ∧ d ≤ 281474976710655 := by omega
    have hS : 0 ≤ s ∧ s ≤ 281474976710655 := by omega
    have z1 := P.mac_size_le d
    have z2 := P.mac_size_le s
    have z3 := P.word16_size_le 33024
    have z4 := P.word16_size_le v
    have z5 := P.word16_size_le t
    clear hr
    go_enter Try.func31, Try.ntmps31
    go_wp2_with (go_at_call 34; refine (c_impl_EthOk _ _ _ _ _ hb _).mono ?_; rintro e w1 ⟨rfl, h1⟩)
    obtain ⟨hc1, hz1⟩ := h1.keep (b := w.heap.size) (by simp)
    refine wp_region_fix [.pointer (some ⟨w.heap.size, 0, none⟩), .int .i64 d, .string (P.mac d), .pointer (some ⟨w.heap.size, 1, none⟩), .int .i64 s, .string (P.mac s), .string (P.mac d ++ P.mac s), .string (P.mac d ++ P.mac s)] [] (by kernel_rfl) (by kernel_rfl) ?_ ?_
    · refine ⟨?_, ?_, ?_, ?_, ?_, ?_, ?_, ?_, trivial⟩
      all_goals intro β w' hb' hrow
      all_goals obtain ⟨hc, hz⟩ := hb'.keep (b := w.heap.size) hz1
      all_goals simp [lastTmps, putL, theVal, List.range, List.range.loop, QB, seen, dep, dstOf, go_sem, Region.binds, hc, hc1] at hrow ⊢
      all_goals first | exact Bel.refl _ | exact c_impl_macBytes _ hD _ | exact c_impl_macBytes _ hS _ | (rw [if_neg (by omega)]; exact ⟨Bel.refl _, rfl⟩)
    · intro β w2 h2
      simp [lastTmps, putL, theVal, List.range, List.range.loop]
      obtain ⟨hc2, hz2⟩ := h2.keep (b := w.heap.size) hz1
      by_cases hv : 0 ≤ v
      · go_wp2
        refine wp_region_fix [.string (P.mac d ++ P.mac s), .string (P.word16 33024), .pointer (some ⟨w.heap.size, 2, none⟩), .int .i64 v, .string (P.word16 v), .string (P.word16 33024 ++ P.word16 v), .string (P.mac d ++ P.mac s ++ (P.word16 33024 ++ P.word16 v)), .string (P.mac d ++ P.mac s ++ (P.word16 33024 ++ P.word16 v))] [] (by kernel_rfl) (by kernel_rfl) ?_ ?_
        · refine ⟨?_, ?_, ?_, ?_, ?_, ?_, ?_, ?_, trivial⟩
          all_goals intro β w' hb' hrow
          all_goals obtain ⟨hc, hz⟩ := hb'.keep (b := w.heap.size) hz2
          all_goals simp [lastTmps, putL, theVal, List.range, List.range.loop, QB, seen, dep, dstOf, go_sem, Region.binds, hc, hc2, hc1] at hrow ⊢
          all_goals first | exact Bel.refl _ | exact c_impl_Word16 _ _ | (rw [if_neg (by omega)]; exact ⟨Bel.refl _, rfl⟩)
        · intro β w3 h3
          simp [lastTmps, putL, theVal, List.range, List.range.loop]
          obtain ⟨hc3, hz3⟩ := h3.keep (b := w.heap.size) hz2
          go_wp2
          refine wp_region_fix [.string (P.mac d ++ P.mac s ++ (P.word16 33024 ++ P.word16 v)), .pointer (some ⟨w.heap.size, 3, none⟩), .int .i64 t, .string (P.word16 t), .string (P.mac d ++ P.mac s ++ (P.word16 33024 ++ P.word16 v) ++ P.word16 t), .pointer (some ⟨w.heap.size, 4, none⟩), .string b, .string (P.mac d ++ P.mac s ++ (P.word16 33024 ++ P.word16 v) ++ P.word16 t ++ b), .string (P.mac d ++ P.mac s ++ (P.word16 33024 ++ P.word16 v) ++ P.word16 t ++ b), .bool true] [] (by kernel_rfl) (by kernel_rfl) ?_ ?_
          · refine ⟨?_, ?_, ?_, ?_, ?_, ?_, ?_, ?_, ?_, ?_, trivial⟩
            all_goals intro β w' hb' hrow
            all_goals obtain ⟨hc, hz⟩ := hb'.keep (b := w.heap.size) hz3
            all_goals simp [lastTmps, putL, theVal, List.range, List.range.loop, QB, seen, dep, dstOf, go_sem, Region.binds, hc, hc3, hc2, hc1] at hrow ⊢
            all_goals first | exact Bel.refl _ | exact c_impl_Word16 _ _ | (rw [if_neg (by omega)]; exact ⟨Bel.refl _, rfl⟩)
          · intro β w9 h9
            simp [lastTmps, putL, theVal, List.range, List.range.loop]
            go_wp2
            go_ret2
            exact ⟨ret_sb (by unfold P.buildEth P.ethHead; rw [if_pos hok, if_pos hv]) rfl, (((Bel.refl _).alloc _).trans h1).trans ((h2.trans h3).trans h9)⟩
      · go_wp2
        refine wp_region_fix [.string (P.mac d ++ P.mac s), .pointer (some ⟨w.heap.size, 3, none⟩), .int .i64 t, .string (P.word16 t), .string (P.mac d ++ P.mac s ++ P.word16 t), .pointer (some ⟨w.heap.size, 4, none⟩), .string b, .string (P.mac d ++ P.mac s ++ P.word16 t ++ b), .string (P.mac d ++ P.mac s ++ P.word16 t ++ b), .bool true] [] (by kernel_rfl) (by kernel_rfl) ?_ ?_
        · refine ⟨?_, ?_, ?_, ?_, ?_, ?_, ?_, ?_, ?_, ?_, trivial⟩
          all_goals intro β w' hb' hrow
          all_goals obtain ⟨hc, hz⟩ := hb'.keep (b := w.heap.size) hz2
          all_goals simp [lastTmps, putL, theVal, List.range, List.range.loop, QB, seen, dep, dstOf, go_sem, Region.binds, hc, hc2, hc1] at hrow ⊢
          all_goals first | exact Bel.refl _ | exact c_impl_Word16 _ _ | (rw [if_neg (by omega)]; exact ⟨Bel.refl _, rfl⟩)
        · intro β w9 h9
          simp [lastTmps, putL, theVal, List.range, List.range.loop]
          go_wp2
          go_ret2
          exact ⟨ret_sb (by unfold P.buildEth P.ethHead; rw [if_pos hok, if_neg (by omega)]) rfl, (((Bel.refl _).alloc _).trans h1).trans (h2.trans h9)⟩
end Go.Proofs.Ytnpnkkjdnmgbkaa
