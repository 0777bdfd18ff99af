/-
  The contracts of chapter 3: the frame check sequence.
-/
import Derived.Test.YtnpnkkjdnmgbkaaBase
namespace Go.Proofs.Ytnpnkkjdnmgbkaa
open Go.RowKit
set_option linter.unusedVariables false

theorem c_impl_Crc32 (s : ByteArray) (hs : s.size ≤ 1073741824) (w : World) :
    Calls Try.prog 19 #[.string s] w fun e w' => e = .returned (.int .i64 (P.crc32 s)) ∧ w = w' := by
  go_enter Try.func19, Try.ntmps19
  go_wp2
  go_loop [3, 4, 5, 6] (fun c i _ _ => ∃ k : Nat, k ≤ s.size ∧ i = .int .i64 k ∧ c = .int .u32 (P.crcTo s k)) (fun _ i _ _ => s.size - (intOf i).toNat)
  case atStart => exact ⟨0, Nat.zero_le _, rfl, rfl⟩
  case round =>
    obtain ⟨k, hk, rfl, rfl⟩ := hrel
    have hc := P.crcTo_lt s k
    have hb := P.at8n_lt s k
    by_cases hlt : k < s.size
    · go_wp2
      go_loop [3, 5, 6] (fun c j _ => ∃ m : Nat, m ≤ 8 ∧ j = .int .i64 m ∧ c = .int .u32 (P.crcBits (P.crcTo s k ^^^ P.at8n s k) m)) (fun _ j _ => 8 - (intOf j).toNat)
      case atStart => exact ⟨0, Nat.zero_le _, rfl, by rw [P.at8n_eq, P.bits_xor_u32 _ _ hc (by omega)]; rfl⟩
      case round =>
        obtain ⟨m, hm, rfl, rfl⟩ := hrel
        have hd := P.crcBits_lt (P.crcTo s k ^^^ P.at8n s k) (Nat.xor_lt_two_pow (n := 32) hc (by omega)) m
        by_cases hlt2 : m < 8
        · obtain ⟨x, hx⟩ : ∃ x, x = P.crcBits (P.crcTo s k ^^^ P.at8n s k) m := ⟨_, rfl⟩
          have hstep : P.crcBits (P.crcTo s k ^^^ P.at8n s k) (m + 1) = P.crcStep x := by rw [hx]; rfl
          have HS := Lib.hid hstep
          rw [← hx] at hd ⊢
          clear hstep hx
          by_cases hodd : x % 2 = 1
          · have e1 : bits .and .u32 (x : Int) 1 = 1 := by
              have := P.bits_and_u32 x 1 hd (by omega)
              rw [Nat.and_one_is_mod, hodd] at this
              exact this
            have HO := Lib.hid hodd
            clear hodd
            go_wp2
            go_round
            case rel => exact ⟨m + 1, by omega, num_next m, by rw [HS.out]; congr 1; exact P.crcStep_odd x hd HO.out⟩
            case measure => simp [intOf]; omega
          · have e1 : bits .and .u32 (x : Int) 1 = 0 := by
              have := P.bits_and_u32 x 1 hd (by omega)
              rw [Nat.and_one_is_mod, show x % 2 = 0 from by omega] at this
              exact this
            go_wp2
            go_round
            case rel => exact ⟨m + 1, by omega, num_next m, by rw [HS.out]; congr 1; exact P.crcStep_even x hodd⟩
            case measure => simp [intOf]; omega
        · have : m = 8 := by omega
          subst this
          go_wp2
          go_round
          case rel => exact ⟨k + 1, by omega, num_next k, rfl⟩
          case measure => simp [intOf]; omega
    · have : k = s.size := by omega
      subst this
      go_wp2
      go_ret
      exact ⟨ret_int (P.ones_xor_u32 _ hc), rfl⟩
theorem c_impl_WithFcs (s : ByteArray) (hs : s.size ≤ 1073741824) (w : World) :
    Calls Try.prog 15 #[.string s] w fun e w' => e = .returned (.string (P.withFcs s)) ∧ Bel w w' := by
  have hr := P.crc32_range s
  have hz : ¬ (9223372036854775807 < s.size + 4) := by omega
  go_enter Try.func15, Try.ntmps15
  go_wp2_with (go_at_call 19; refine (c_impl_Crc32 _ hs _).mono ?_; rintro e w' ⟨rfl, rfl⟩)
  go_ret
  exact ⟨ret_str (by unfold P.withFcs; simp (disch := omega) only [P.by8_mod']), (Bel.refl _).alloc _⟩
end Go.Proofs.Ytnpnkkjdnmgbkaa
