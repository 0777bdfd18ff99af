/-
  The contracts of chapter 2: words, places, sums: the program's functions and the reference's compute one plain function.
-/
import Derived.Test.YtnpnkkjdnmgbkaaBase
namespace Go.Proofs.Ytnpnkkjdnmgbkaa
open Go.RowKit
set_option linter.unusedVariables false

theorem c_impl_Word16 (v : Int) (w : World) :
    Calls Try.prog 21 #[.int .i64 v] w fun e w' => e = .returned (.string (P.word16 v)) ∧ Bel w w' := by
  by_cases h0 : 0 ≤ v
  · by_cases h1 : v ≤ 65535
    · go_enter Try.func21, Try.ntmps21
      go_wp2
      go_ret
      exact ⟨ret_str (by unfold P.word16; rw [if_pos ⟨h0, h1⟩, P.by8_mod' v h0]), (Bel.refl _).alloc _⟩
    · go_enter Try.func21, Try.ntmps21
      go_wp2
      go_ret
      exact ⟨ret_str (by unfold P.word16; rw [if_neg (by omega)]; rfl), Bel.refl _⟩
  · go_enter Try.func21, Try.ntmps21
    go_wp2
    go_ret
    exact ⟨ret_str (by unfold P.word16; rw [if_neg (by omega)]; rfl), Bel.refl _⟩
theorem c_spec_Word16 (v : Int) (w : World) :
    Calls Try.prog 78 #[.int .i64 v] w fun e w' => e = .returned (.string (P.word16 v)) ∧ Bel w w' := by
  by_cases h0 : 0 ≤ v
  · by_cases h1 : v ≤ 65535
    · go_enter Try.func78, Try.ntmps78
      go_wp2
      go_ret
      exact ⟨ret_str (by unfold P.word16; rw [if_pos ⟨h0, h1⟩, P.by8_mod' v h0]), (Bel.refl _).alloc _⟩
    · go_enter Try.func78, Try.ntmps78
      go_wp2
      go_ret
      exact ⟨ret_str (by unfold P.word16; rw [if_neg (by omega)]; rfl), Bel.refl _⟩
  · go_enter Try.func78, Try.ntmps78
    go_wp2
    go_ret
    exact ⟨ret_str (by unfold P.word16; rw [if_neg (by omega)]; rfl), Bel.refl _⟩
theorem c_impl_Word32 (v : Int) (w : World) :
    Calls Try.prog 25 #[.int .i64 v] w fun e w' => e = .returned (.string (P.word32 v)) ∧ Bel w w' := by
  by_cases h0 : 0 ≤ v
  · by_cases h1 : v ≤ 4294967295
    · go_enter Try.func25, Try.ntmps25
      go_wp2
      go_ret
      exact ⟨ret_str (by unfold P.word32; rw [if_pos ⟨h0, h1⟩]; simp (disch := omega) only [P.by8_mod']), (Bel.refl _).alloc _⟩
    · go_enter Try.func25, Try.ntmps25
      go_wp2
      go_ret
      exact ⟨ret_str (by unfold P.word32; rw [if_neg (by omega)]; rfl), Bel.refl _⟩
  · go_enter Try.func25, Try.ntmps25
    go_wp2
    go_ret
    exact ⟨ret_str (by unfold P.word32; rw [if_neg (by omega)]; rfl), Bel.refl _⟩
theorem c_spec_Word32 (v : Int) (w : World) :
    Calls Try.prog 79 #[.int .i64 v] w fun e w' => e = .returned (.string (P.word32 v)) ∧ Bel w w' := by
  by_cases h0 : 0 ≤ v
  · by_cases h1 : v ≤ 4294967295
    · go_enter Try.func79, Try.ntmps79
      go_wp2
      go_ret
      exact ⟨ret_str (by unfold P.word32; rw [if_pos ⟨h0, h1⟩]; simp (disch := omega) only [P.by8_mod']), (Bel.refl _).alloc _⟩
    · go_enter Try.func79, Try.ntmps79
      go_wp2
      go_ret
      exact ⟨ret_str (by unfold P.word32; rw [if_neg (by omega)]; rfl), Bel.refl _⟩
  · go_enter Try.func79, Try.ntmps79
    go_wp2
    go_ret
    exact ⟨ret_str (by unfold P.word32; rw [if_neg (by omega)]; rfl), Bel.refl _⟩
theorem c_impl_Get16 (s : ByteArray) (i : Int) (hs : s.size ≤ 1073741824) (w : World) :
    Calls Try.prog 23 #[.string s, .int .i64 i] w fun e w' => e = .returned (.int .i64 (P.get16 s i)) ∧ Bel w w' := by
  by_cases h0 : 0 ≤ i
  · obtain ⟨k, rfl⟩ := Int.eq_ofNat_of_zero_le h0
    by_cases h1 : k + 2 ≤ s.size
    · have h3 : (k : Int) < s.size := by omega
      have h4 : (k : Int) + 1 < s.size := by omega
      have h7 : (0 : Int) ≤ k + 1 := by omega
      have h5 : ¬ (k : Int) > s.size - 2 := by omega
      have e1 : IntKind.i64.wrap ((k : Int) + 1) = (k : Int) + 1 := IntWalk.i64_in _ (by omega)
      have e2 : ((k : Int) + 1).toNat = k + 1 := by omega
      have q1 := P.at8_range s k
      have q2 := P.at8_range s (k + 1)
      go_enter Try.func23, Try.ntmps23
      go_wp2
      go_quiet (fail)
      go_wp2
      go_ret
      exact ⟨ret_int (by rw [P.at8_eq, P.at8_eq, P.or_low8 _ _ (by omega) (by omega)]; unfold P.get16; rw [if_pos (by omega)]; rfl), (Bel.refl _).drewN _⟩
    · have h5 : (k : Int) > s.size - 2 := by omega
      go_enter Try.func23, Try.ntmps23
      go_wp2
      go_ret
      exact ⟨ret_int (by unfold P.get16; rw [if_neg (by omega)]), Bel.refl _⟩
  · go_enter Try.func23, Try.ntmps23
    go_wp2
    go_ret
    exact ⟨ret_int (by unfold P.get16; rw [if_neg (by omega)]), Bel.refl _⟩
theorem c_impl_Get32 (s : ByteArray) (i : Int) (hs : s.size ≤ 1073741824) (w : World) :
    Calls Try.prog 26 #[.string s, .int .i64 i] w fun e w' => e = .returned (.int .i64 (P.get32 s i)) ∧ Bel w w' := by
  by_cases h0 : 0 ≤ i
  · obtain ⟨k, rfl⟩ := Int.eq_ofNat_of_zero_le h0
    by_cases h1 : k + 4 ≤ s.size
    · have h3 : (k : Int) < s.size := by omega
      have h4 : (k : Int) + 1 < s.size := by omega
      have h4b : (k : Int) + 2 < s.size := by omega
      have h4c : (k : Int) + 3 < s.size := by omega
      have h7 : (0 : Int) ≤ k + 1 := by omega
      have h7b : (0 : Int) ≤ k + 2 := by omega
      have h7c : (0 : Int) ≤ k + 3 := by omega
      have h5 : ¬ (k : Int) > s.size - 4 := by omega
      have e1 : IntKind.i64.wrap ((k : Int) + 1) = (k : Int) + 1 := IntWalk.i64_in _ (by omega)
      have e2 : ((k : Int) + 1).toNat = k + 1 := by omega
      have e1b : IntKind.i64.wrap ((k : Int) + 2) = (k : Int) + 2 := IntWalk.i64_in _ (by omega)
      have e2b : ((k : Int) + 2).toNat = k + 2 := by omega
      have e1c : IntKind.i64.wrap ((k : Int) + 3) = (k : Int) + 3 := IntWalk.i64_in _ (by omega)
      have e2c : ((k : Int) + 3).toNat = k + 3 := by omega
      go_enter Try.func26, Try.ntmps26
      go_wp2
      go_quiet (fail)
      go_wp2
      go_ret
      exact ⟨ret_int (by rw [P.at8_eq, P.at8_eq, P.at8_eq, P.at8_eq, P.or4 _ _ _ _ (P.at8_range _ _) (P.at8_range _ _) (P.at8_range _ _) (P.at8_range _ _)]; unfold P.get32; rw [if_pos (by omega)]; rfl), (Bel.refl _).drewN _⟩
    · have h5 : (k : Int) > s.size - 4 := by omega
      go_enter Try.func26, Try.ntmps26
      go_wp2
      go_ret
      exact ⟨ret_int (by unfold P.get32; rw [if_neg (by omega)]), Bel.refl _⟩
  · go_enter Try.func26, Try.ntmps26
    go_wp2
    go_ret
    exact ⟨ret_int (by unfold P.get32; rw [if_neg (by omega)]), Bel.refl _⟩
theorem c_impl_PutBytes (s : ByteArray) (i : Int) (p : ByteArray) (hs : s.size ≤ 1073741824) (hp : p.size ≤ 1073741824) (w : World) :
    Calls Try.prog 24 #[.string s, .int .i64 i, .string p] w fun e w' => e = .returned (.string (P.putBytes s i p)) ∧ Bel w w' := by
  by_cases h0 : 0 ≤ i
  · obtain ⟨k, rfl⟩ := Int.eq_ofNat_of_zero_le h0
    by_cases h1 : k + p.size ≤ s.size
    · have h5 : ¬ (k : Int) > s.size - p.size := by omega
      have h3 : (k : Int) ≤ s.size := by omega
      have h4 : (k : Int) + p.size ≤ s.size := by omega
      have h6 : (0 : Int) ≤ k + p.size := by omega
      have e1 : IntKind.i64.wrap ((k : Int) + p.size) = (k : Int) + p.size := IntWalk.i64_in _ (by omega)
      have e2 : ((k : Int) + p.size).toNat = k + p.size := by omega
      have z1 : ¬ (9223372036854775807 < min k s.size + p.size) := by omega
      have z2 : ¬ (9223372036854775807 < min k s.size + p.size + (s.size - (k + p.size))) := by omega
      go_enter Try.func24, Try.ntmps24
      go_wp2
      go_quiet (fail)
      go_wp2
      go_ret
      exact ⟨ret_str (by unfold P.putBytes; rw [if_pos (by omega)]; rfl), (Bel.refl _).drewN _⟩
    · have h5 : (k : Int) > s.size - p.size := by omega
      go_enter Try.func24, Try.ntmps24
      go_wp2
      go_ret
      exact ⟨ret_str (by unfold P.putBytes; rw [if_neg (by omega)]), Bel.refl _⟩
  · go_enter Try.func24, Try.ntmps24
    go_wp2
    go_ret
    exact ⟨ret_str (by unfold P.putBytes; rw [if_neg (by omega)]), Bel.refl _⟩
theorem c_impl_AddSums (a b : Int) (w : World) :
    Calls Try.prog 27 #[.int .i64 a, .int .i64 b] w fun e w' => e = .returned (.int .i64 (P.addSums a b)) ∧ w = w' := by
  by_cases h0 : 0 ≤ a
  · by_cases h1 : a ≤ 65535
    · by_cases h2 : 0 ≤ b
      · by_cases h3 : b ≤ 65535
        · by_cases h4 : a + b > 65535
          · go_enter Try.func27, Try.ntmps27
            go_wp2
            go_ret
            exact ⟨ret_int (by unfold P.addSums; rw [if_pos (by omega), if_pos h4]), rfl⟩
          · go_enter Try.func27, Try.ntmps27
            go_wp2
            go_ret
            exact ⟨ret_int (by unfold P.addSums; rw [if_pos (by omega), if_neg (by omega)]), rfl⟩
        · go_enter Try.func27, Try.ntmps27
          go_wp2
          go_ret
          exact ⟨ret_int (by unfold P.addSums; rw [if_neg (by omega)]), rfl⟩
      · go_enter Try.func27, Try.ntmps27
        go_wp2
        go_ret
        exact ⟨ret_int (by unfold P.addSums; rw [if_neg (by omega)]), rfl⟩
    · go_enter Try.func27, Try.ntmps27
      go_wp2
      go_ret
      exact ⟨ret_int (by unfold P.addSums; rw [if_neg (by omega)]), rfl⟩
  · go_enter Try.func27, Try.ntmps27
    go_wp2
    go_ret
    exact ⟨ret_int (by unfold P.addSums; rw [if_neg (by omega)]), rfl⟩
theorem c_spec_PutBytes (s : ByteArray) (i : Int) (p : ByteArray) (hs : s.size ≤ 1073741824) (hp : p.size ≤ 1073741824) (w : World) :
    Calls Try.prog 80 #[.string s, .int .i64 i, .string p] w fun e w' => e = .returned (.string (P.putBytes s i p)) ∧ Bel w w' := by
  by_cases h0 : 0 ≤ i
  · obtain ⟨k, rfl⟩ := Int.eq_ofNat_of_zero_le h0
    by_cases h1 : k + p.size ≤ s.size
    · have h5 : ((p.size : Nat) : Int) ≤ s.size - k := by omega
      have h3 : (k : Int) ≤ s.size := by omega
      have h4 : (k : Int) + p.size ≤ s.size := by omega
      have h6 : (0 : Int) ≤ k + p.size := by omega
      have e1 : IntKind.i64.wrap ((k : Int) + p.size) = (k : Int) + p.size := IntWalk.i64_in _ (by omega)
      have e2 : ((k : Int) + p.size).toNat = k + p.size := by omega
      have z1 : ¬ (9223372036854775807 < min k s.size + p.size) := by omega
      have z2 : ¬ (9223372036854775807 < min k s.size + p.size + (s.size - (k + p.size))) := by omega
      go_enter Try.func80, Try.ntmps80
      go_wp2
      go_quiet (fail)
      go_wp2
      go_ret
      exact ⟨ret_str (by unfold P.putBytes; rw [if_pos (by omega)]; rfl), (Bel.refl _).drewN _⟩
    · by_cases h3 : (k : Int) ≤ s.size
      · have h5 : ¬ ((p.size : Nat) : Int) ≤ s.size - k := by omega
        go_enter Try.func80, Try.ntmps80
        go_wp2
        go_ret
        exact ⟨ret_str (by unfold P.putBytes; rw [if_neg (by omega)]), Bel.refl _⟩
      · go_enter Try.func80, Try.ntmps80
        go_wp2
        go_ret
        exact ⟨ret_str (by unfold P.putBytes; rw [if_neg (by omega)]), Bel.refl _⟩
  · go_enter Try.func80, Try.ntmps80
    go_wp2
    go_ret
    exact ⟨ret_str (by unfold P.putBytes; rw [if_neg (by omega)]), Bel.refl _⟩
theorem c_spec_AddSums (a b : Int) (w : World) :
    Calls Try.prog 54 #[.int .i64 a, .int .i64 b] w fun e w' => e = .returned (.int .i64 (P.addSums a b)) ∧ w = w' := by
  by_cases h0 : 0 ≤ a
  · by_cases h1 : a ≤ 65535
    · by_cases h2 : 0 ≤ b
      · by_cases h3 : b ≤ 65535
        · by_cases h4 : a + b > 65535
          · go_enter Try.func54, Try.ntmps54
            go_wp2
            go_ret
            exact ⟨ret_int (by unfold P.addSums; rw [if_pos (by omega), if_pos h4]), rfl⟩
          · go_enter Try.func54, Try.ntmps54
            go_wp2
            go_ret
            exact ⟨ret_int (by unfold P.addSums; rw [if_pos (by omega), if_neg (by omega)]), rfl⟩
        · go_enter Try.func54, Try.ntmps54
          go_wp2
          go_ret
          exact ⟨ret_int (by unfold P.addSums; rw [if_neg (by omega)]), rfl⟩
      · go_enter Try.func54, Try.ntmps54
        go_wp2
        go_ret
        exact ⟨ret_int (by unfold P.addSums; rw [if_neg (by omega)]), rfl⟩
    · go_enter Try.func54, Try.ntmps54
      go_wp2
      go_ret
      exact ⟨ret_int (by unfold P.addSums; rw [if_neg (by omega)]), rfl⟩
  · go_enter Try.func54, Try.ntmps54
    go_wp2
    go_ret
    exact ⟨ret_int (by unfold P.addSums; rw [if_neg (by omega)]), rfl⟩
theorem c_impl_UpdateChecksum (a b c : Int) (w : World) :
    Calls Try.prog 29 #[.int .i64 a, .int .i64 b, .int .i64 c] w fun e w' => e = .returned (.int .i64 (P.updateChecksum a b c)) ∧ w = w' := by
  by_cases h : 0 ≤ a ∧ a ≤ 65535 ∧ 0 ≤ b ∧ b ≤ 65535 ∧ 0 ≤ c ∧ c ≤ 65535
  · obtain ⟨h1, h2, h3, h4, h5, h6⟩ := h
    have q1 := P.addSums_range (65535 - a) (65535 - b) (by omega) (by omega)
    have q2 := P.addSums_range (P.addSums (65535 - a) (65535 - b)) c q1 (by omega)
    go_enter Try.func29, Try.ntmps29
    go_wp2_with (first | (go_at_call 27; refine (c_impl_AddSums _ _ _).mono ?_; rintro e w' ⟨rfl, rfl⟩) | go_in)
    go_ret
    exact ⟨ret_int (by unfold P.updateChecksum; rw [if_pos (by omega)]), rfl⟩
  · have hfin : P.updateChecksum a b c = -1 := by unfold P.updateChecksum; rw [if_neg h]
    rw [hfin]
    clear hfin
    by_cases h1 : 0 ≤ a
    · by_cases h2 : a ≤ 65535
      · by_cases h3 : 0 ≤ b
        · by_cases h4 : b ≤ 65535
          · by_cases h5 : 0 ≤ c
            · have h6 : ¬ c ≤ 65535 := by omega
              clear h
              go_enter Try.func29, Try.ntmps29
              go_wp2
              go_ret
              exact ⟨rfl, rfl⟩
            · clear h
              go_enter Try.func29, Try.ntmps29
              go_wp2
              go_ret
              exact ⟨rfl, rfl⟩
          · clear h
            go_enter Try.func29, Try.ntmps29
            go_wp2
            go_ret
            exact ⟨rfl, rfl⟩
        · clear h
          go_enter Try.func29, Try.ntmps29
          go_wp2
          go_ret
          exact ⟨rfl, rfl⟩
      · clear h
        go_enter Try.func29, Try.ntmps29
        go_wp2
        go_ret
        exact ⟨rfl, rfl⟩
    · clear h
      go_enter Try.func29, Try.ntmps29
      go_wp2
      go_ret
      exact ⟨rfl, rfl⟩
theorem c_impl_SumWords (s : ByteArray) (hs : s.size ≤ 1073741824) (w : World) :
    Calls Try.prog 22 #[.string s] w fun e w' => e = .returned (.int .i64 (P.sumWords s)) ∧ w = w' := by
  go_enter Try.func22, Try.ntmps22
  go_wp2
  go_loop [3, 4, 5] (fun c i _ => ∃ k : Nat, k ≤ (s.size + 1) / 2 ∧ i = .int .i64 (2 * (k : Int)) ∧ c = .int .i64 (P.sumTo s k)) (fun _ i _ => s.size + 1 - (intOf i).toNat)
  case atStart => exact ⟨0, Nat.zero_le _, rfl, rfl⟩
  case round =>
    obtain ⟨k, hk, rfl, rfl⟩ := hrel
    by_cases hlt : 2 * k < s.size
    · have q0 := P.at8_range s (2 * k)
      have q1 := P.at8_range s (2 * k + 1)
      have h3 : 2 * (k : Int) < s.size := by omega
      by_cases hlt2 : 2 * k + 1 < s.size
      · have h4 : 2 * (k : Int) + 1 < s.size := by omega
        have e1 : bits .or .i64 ((s[2 * k].toNat : Int) * 256) (s[2 * k + 1].toNat : Int) = P.at8 s (2 * k) * 256 + P.at8 s (2 * k + 1) := by
          rw [P.at8_eq, P.at8_eq, P.or_low8 _ _ (by omega) (by omega)]
        go_wp2_with (go_at_call 27; refine (c_impl_AddSums _ _ _).mono ?_; rintro e w' ⟨rfl, rfl⟩)
        go_round
        case rel => exact ⟨k + 1, by omega, by congr 1, by rw [P.sumTo]⟩
        case measure => simp [intOf]; omega
      · have h4 : ¬ 2 * (k : Int) + 1 < s.size := by omega
        have hz : P.at8 s (2 * k + 1) = 0 := P.at8_beyond s _ (by omega)
        have HZ := Lib.hid hz
        clear hz q1
        go_wp2_with (go_at_call 27; refine (c_impl_AddSums _ _ _).mono ?_; rintro e w' ⟨rfl, rfl⟩)
        go_round
        case rel => exact ⟨k + 1, by omega, by congr 1, by rw [P.sumTo, HZ.out, P.at8_eq, Int.add_zero]⟩
        case measure => simp [intOf]; omega
    · have : k = (s.size + 1) / 2 := by omega
      go_wp2
      go_ret
      exact ⟨ret_int (by first | rfl | (unfold P.sumWords; rw [this])), rfl⟩
theorem c_spec_SumWords (s : ByteArray) (hs : s.size ≤ 1073741824) (w : World) :
    Calls Try.prog 28 #[.string s] w fun e w' => e = .returned (.int .i64 (P.sumWords s)) ∧ w = w' := by
  go_enter Try.func28, Try.ntmps28
  go_wp2
  go_loop [3, 4, 5] (fun c i _ => ∃ k : Nat, k ≤ (s.size + 1) / 2 ∧ i = .int .i64 (2 * (k : Int)) ∧ c = .int .i64 (P.sumTo s k)) (fun _ i _ => s.size + 1 - (intOf i).toNat)
  case atStart => exact ⟨0, Nat.zero_le _, rfl, rfl⟩
  case round =>
    obtain ⟨k, hk, rfl, rfl⟩ := hrel
    by_cases hlt : 2 * k < s.size
    · have q0 := P.at8_range s (2 * k)
      have q1 := P.at8_range s (2 * k + 1)
      have h3 : 2 * (k : Int) < s.size := by omega
      by_cases hlt2 : 2 * k + 1 < s.size
      · have h4 : 2 * (k : Int) + 1 < s.size := by omega
        have q2 := s[2 * k].toNat_lt
        have q3 := s[2 * k + 1].toNat_lt
        go_wp2_with (go_at_call 54; refine (c_spec_AddSums _ _ _).mono ?_; rintro e w' ⟨rfl, rfl⟩)
        go_round
        case rel => exact ⟨k + 1, by omega, by congr 1, by rw [P.sumTo, P.at8_eq, P.at8_eq]⟩
        case measure => simp [intOf]; omega
      · have h4 : ¬ 2 * (k : Int) + 1 < s.size := by omega
        have hz : P.at8 s (2 * k + 1) = 0 := P.at8_beyond s _ (by omega)
        have HZ := Lib.hid hz
        clear hz q1
        go_wp2_with (go_at_call 54; refine (c_spec_AddSums _ _ _).mono ?_; rintro e w' ⟨rfl, rfl⟩)
        go_round
        case rel => exact ⟨k + 1, by omega, by congr 1, by rw [P.sumTo, HZ.out, P.at8_eq, Int.add_zero]⟩
        case measure => simp [intOf]; omega
    · have : k = (s.size + 1) / 2 := by omega
      go_wp2
      go_ret
      exact ⟨ret_int (by first | rfl | (unfold P.sumWords; rw [this])), rfl⟩
theorem c_impl_Checksum (s : ByteArray) (hs : s.size ≤ 1073741824) (w : World) :
    Calls Try.prog 20 #[.string s] w fun e w' => e = .returned (.int .i64 (P.checksum s)) ∧ w = w' := by
  have hr := P.sumWords_range s
  go_enter Try.func20, Try.ntmps20
  go_wp2_with (go_at_call 22; refine (c_impl_SumWords _ hs _).mono ?_; rintro e w' ⟨rfl, rfl⟩)
  go_ret
  exact ⟨ret_int rfl, rfl⟩
theorem c_spec_Checksum (s : ByteArray) (hs : s.size ≤ 1073741824) (w : World) :
    Calls Try.prog 81 #[.string s] w fun e w' => e = .returned (.int .i64 (P.checksum s)) ∧ w = w' := by
  have hr := P.sumWords_range s
  go_enter Try.func81, Try.ntmps81
  go_wp2_with (go_at_call 28; refine (c_spec_SumWords _ hs _).mono ?_; rintro e w' ⟨rfl, rfl⟩)
  go_ret
  exact ⟨ret_int rfl, rfl⟩
end Go.Proofs.Ytnpnkkjdnmgbkaa
