/-
  The contracts of chapter 2: words, places, sums: the program's functions and the reference's compute one plain function.
-/
import Derived.Test.YtoikpdijkdmimaaBase
namespace Go.Proofs.Ytoikpdijkdmimaa
open Go.RowKit
set_option linter.unusedVariables false

theorem c_impl_Word16 (v : Int) (w : World) :
    Calls Try.prog 38 #[.int .i64 v] w fun e w' => e = .returned (.string (P.word16 v)) ∧ Bel w w' := by
  by_cases h0 : 0 ≤ v
  · by_cases h1 : v ≤ 65535
    · go_enter Try.func38, Try.ntmps38
      go_wp2
      go_ret
      exact ⟨ret_str (by unfold P.word16; rw [if_pos ⟨h0, h1⟩, P.by8_mod' v h0]), (Bel.refl _).alloc _⟩
    · go_enter Try.func38, Try.ntmps38
      go_wp2
      go_ret
      exact ⟨ret_str (by unfold P.word16; rw [if_neg (by omega)]; rfl), Bel.refl _⟩
  · go_enter Try.func38, Try.ntmps38
    go_wp2
    go_ret
    exact ⟨ret_str (by unfold P.word16; rw [if_neg (by omega)]; rfl), Bel.refl _⟩
theorem c_spec_Word16 (v : Int) (w : World) :
    Calls Try.prog 35 #[.int .i64 v] w fun e w' => e = .returned (.string (P.word16 v)) ∧ Bel w w' := by
  by_cases h0 : 0 ≤ v
  · by_cases h1 : v ≤ 65535
    · go_enter Try.func35, Try.ntmps35
      go_wp2
      go_ret
      exact ⟨ret_str (by unfold P.word16; rw [if_pos ⟨h0, h1⟩, P.by8_mod' v h0]), (Bel.refl _).alloc _⟩
    · go_enter Try.func35, Try.ntmps35
      go_wp2
      go_ret
      exact ⟨ret_str (by unfold P.word16; rw [if_neg (by omega)]; rfl), Bel.refl _⟩
  · go_enter Try.func35, Try.ntmps35
    go_wp2
    go_ret
    exact ⟨ret_str (by unfold P.word16; rw [if_neg (by omega)]; rfl), Bel.refl _⟩
theorem c_impl_Word32 (v : Int) (w : World) :
    Calls Try.prog 46 #[.int .i64 v] w fun e w' => e = .returned (.string (P.word32 v)) ∧ Bel w w' := by
  by_cases h0 : 0 ≤ v
  · by_cases h1 : v ≤ 4294967295
    · go_enter Try.func46, Try.ntmps46
      go_wp2
      go_ret
      exact ⟨ret_str (by unfold P.word32; rw [if_pos ⟨h0, h1⟩]; simp (disch := omega) only [P.by8_mod']), (Bel.refl _).alloc _⟩
    · go_enter Try.func46, Try.ntmps46
      go_wp2
      go_ret
      exact ⟨ret_str (by unfold P.word32; rw [if_neg (by omega)]; rfl), Bel.refl _⟩
  · go_enter Try.func46, Try.ntmps46
    go_wp2
    go_ret
    exact ⟨ret_str (by unfold P.word32; rw [if_neg (by omega)]; rfl), Bel.refl _⟩
theorem c_spec_Word32 (v : Int) (w : World) :
    Calls Try.prog 45 #[.int .i64 v] w fun e w' => e = .returned (.string (P.word32 v)) ∧ Bel w w' := by
  by_cases h0 : 0 ≤ v
  · by_cases h1 : v ≤ 4294967295
    · go_enter Try.func45, Try.ntmps45
      go_wp2
      go_ret
      exact ⟨ret_str (by unfold P.word32; rw [if_pos ⟨h0, h1⟩]; simp (disch := omega) only [P.by8_mod']), (Bel.refl _).alloc _⟩
    · go_enter Try.func45, Try.ntmps45
      go_wp2
      go_ret
      exact ⟨ret_str (by unfold P.word32; rw [if_neg (by omega)]; rfl), Bel.refl _⟩
  · go_enter Try.func45, Try.ntmps45
    go_wp2
    go_ret
    exact ⟨ret_str (by unfold P.word32; rw [if_neg (by omega)]; rfl), Bel.refl _⟩
theorem c_impl_Get16 (s : ByteArray) (i : Int) (hs : s.size ≤ 1073741824) (w : World) :
    Calls Try.prog 49 #[.string s, .int .i64 i] w fun e w' => e = .returned (.int .i64 (P.get16 s i)) ∧ Bel w w' := by
  by_cases h0 : 0 ≤ i
  · obtain ⟨k, rfl⟩ := Int.eq_ofNat_of_zero_le h0
    by_cases h1 : k + 2 ≤ s.size
    · have h3 : (k : Int) < s.size := by omega
      have h4 : (k : Int) + 1 < s.size := by omega
      have h7 : (0 : Int) ≤ k + 1 := by omega
      have h5 : ¬ (k : Int) > s.size - 2 := by omega
      have e1 : IntKind.i64.wrap ((k : Int) + 1) = (k : Int) + 1 := IntWalk.i64_in _ (by omega)
      have e2 : ((k : Int) + 1).toNat = k + 1 := by omega
      have q1 := P.at8_range s k
      have q2 := P.at8_range s (k + 1)
      go_enter Try.func49, Try.ntmps49
      go_wp2
      go_quiet (fail)
      go_wp2
      go_ret
      exact ⟨ret_int (by rw [P.at8_eq, P.at8_eq, P.or_low8 _ _ (by omega) (by omega)]; unfold P.get16; rw [if_pos (by omega)]; rfl), (Bel.refl _).drewN _⟩
    · have h5 : (k : Int) > s.size - 2 := by omega
      go_enter Try.func49, Try.ntmps49
      go_wp2
      go_ret
      exact ⟨ret_int (by unfold P.get16; rw [if_neg (by omega)]), Bel.refl _⟩
  · go_enter Try.func49, Try.ntmps49
    go_wp2
    go_ret
    exact ⟨ret_int (by unfold P.get16; rw [if_neg (by omega)]), Bel.refl _⟩
theorem c_spec_Get16 (s : ByteArray) (i : Int) (hs : s.size ≤ 1073741824) (w : World) :
    Calls Try.prog 47 #[.string s, .int .i64 i] w fun e w' => e = .returned (.int .i64 (P.get16 s i)) ∧ Bel w w' := by
  by_cases h0 : 0 ≤ i
  · obtain ⟨k, rfl⟩ := Int.eq_ofNat_of_zero_le h0
    by_cases h1 : k + 2 ≤ s.size
    · have h3 : (k : Int) < s.size := by omega
      have h4 : (k : Int) + 1 < s.size := by omega
      have h7 : (0 : Int) ≤ k + 1 := by omega
      have h5 : (k : Int) ≤ s.size := by omega
      have h6 : (2 : Int) ≤ s.size - k := by omega
      have e1 : IntKind.i64.wrap ((k : Int) + 1) = (k : Int) + 1 := IntWalk.i64_in _ (by omega)
      have e2 : ((k : Int) + 1).toNat = k + 1 := by omega
      have q1 := P.at8_range s k
      have q2 := P.at8_range s (k + 1)
      have e3 : IntKind.i64.wrap ((s[k].toNat : Int) * 256 + (s[k + 1].toNat : Int)) = P.at8 s k * 256 + P.at8 s (k + 1) := by
        rw [P.at8_eq, P.at8_eq]; exact IntWalk.i64_in _ (by omega)
      go_enter Try.func47, Try.ntmps47
      go_wp2
      go_quiet (fail)
      go_wp2
      go_ret
      exact ⟨ret_int (by unfold P.get16; rw [if_pos (by omega)]; rfl), (Bel.refl _).drewN _⟩
    · by_cases h5 : (k : Int) ≤ s.size
      · have h6 : ¬ (2 : Int) ≤ s.size - k := by omega
        go_enter Try.func47, Try.ntmps47
        go_wp2
        go_ret
        exact ⟨ret_int (by unfold P.get16; rw [if_neg (by omega)]), Bel.refl _⟩
      · go_enter Try.func47, Try.ntmps47
        go_wp2
        go_ret
        exact ⟨ret_int (by unfold P.get16; rw [if_neg (by omega)]), Bel.refl _⟩
  · go_enter Try.func47, Try.ntmps47
    go_wp2
    go_ret
    exact ⟨ret_int (by unfold P.get16; rw [if_neg (by omega)]), Bel.refl _⟩
theorem c_impl_Get32 (s : ByteArray) (i : Int) (hs : s.size ≤ 1073741824) (w : World) :
    Calls Try.prog 50 #[.string s, .int .i64 i] w fun e w' => e = .returned (.int .i64 (P.get32 s i)) ∧ Bel w w' := by
  by_cases h0 : 0 ≤ i
  · obtain ⟨k, rfl⟩ := Int.eq_ofNat_of_zero_le h0
    by_cases h1 : k + 4 ≤ s.size
    · have h3 : (k : Int) < s.size := by omega
      have h4 : (k : Int) + 1 < s.size := by omega
      have h4b : (k : Int) + 2 < s.size := by omega
      have h4c : (k : Int) + 3 < s.size := by omega
      have h7 : (0 : Int) ≤ k + 1 := by omega
      have h7b : (0 : Int) ≤ k + 2 := by omega
      have h7c : (0 : Int) ≤ k + 3 := by omega
      have h5 : ¬ (k : Int) > s.size - 4 := by omega
      have e1 : IntKind.i64.wrap ((k : Int) + 1) = (k : Int) + 1 := IntWalk.i64_in _ (by omega)
      have e2 : ((k : Int) + 1).toNat = k + 1 := by omega
      have e1b : IntKind.i64.wrap ((k : Int) + 2) = (k : Int) + 2 := IntWalk.i64_in _ (by omega)
      have e2b : ((k : Int) + 2).toNat = k + 2 := by omega
      have e1c : IntKind.i64.wrap ((k : Int) + 3) = (k : Int) + 3 := IntWalk.i64_in _ (by omega)
      have e2c : ((k : Int) + 3).toNat = k + 3 := by omega
      go_enter Try.func50, Try.ntmps50
      go_wp2
      go_quiet (fail)
      go_wp2
      go_ret
      exact ⟨ret_int (by rw [P.at8_eq, P.at8_eq, P.at8_eq, P.at8_eq, P.or4 _ _ _ _ (P.at8_range _ _) (P.at8_range _ _) (P.at8_range _ _) (P.at8_range _ _)]; unfold P.get32; rw [if_pos (by omega)]; rfl), (Bel.refl _).drewN _⟩
    · have h5 : (k : Int) > s.size - 4 := by omega
      go_enter Try.func50, Try.ntmps50
      go_wp2
      go_ret
      exact ⟨ret_int (by unfold P.get32; rw [if_neg (by omega)]), Bel.refl _⟩
  · go_enter Try.func50, Try.ntmps50
    go_wp2
    go_ret
    exact ⟨ret_int (by unfold P.get32; rw [if_neg (by omega)]), Bel.refl _⟩
theorem c_spec_Get32 (s : ByteArray) (i : Int) (hs : s.size ≤ 1073741824) (w : World) :
    Calls Try.prog 48 #[.string s, .int .i64 i] w fun e w' => e = .returned (.int .i64 (P.get32 s i)) ∧ Bel w w' := by
  by_cases h0 : 0 ≤ i
  · obtain ⟨k, rfl⟩ := Int.eq_ofNat_of_zero_le h0
    by_cases h1 : k + 4 ≤ s.size
    · have h5 : (k : Int) ≤ s.size := by omega
      have h6 : (4 : Int) ≤ s.size - k := by omega
      have q1 := P.get16_range s k
      have q2 := P.get16_range s (k + 2)
      go_enter Try.func48, Try.ntmps48
      go_wp2_with (first | (go_at_call 47; refine (c_spec_Get16 _ _ hs _).mono ?_; rintro e w' ⟨rfl, hb⟩) | go_in)
      go_ret
      exact ⟨ret_int (P.get32_split s k h1), Bel.trans (by assumption) (by assumption)⟩
    · by_cases h5 : (k : Int) ≤ s.size
      · have h6 : ¬ (4 : Int) ≤ s.size - k := by omega
        go_enter Try.func48, Try.ntmps48
        go_wp2
        go_ret
        exact ⟨ret_int (by unfold P.get32; rw [if_neg (by omega)]), Bel.refl _⟩
      · go_enter Try.func48, Try.ntmps48
        go_wp2
        go_ret
        exact ⟨ret_int (by unfold P.get32; rw [if_neg (by omega)]), Bel.refl _⟩
  · go_enter Try.func48, Try.ntmps48
    go_wp2
    go_ret
    exact ⟨ret_int (by unfold P.get32; rw [if_neg (by omega)]), Bel.refl _⟩
end Go.Proofs.Ytoikpdijkdmimaa
