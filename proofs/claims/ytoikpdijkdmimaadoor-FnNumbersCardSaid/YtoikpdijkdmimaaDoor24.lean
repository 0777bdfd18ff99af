/-
  The contracts of decimal text: the reference's own text of a number; a number read from its text.
-/
import Derived.Test.YtoikpdijkdmimaaDoor01
import Derived.Test.YtoikpdijkdmimaaDoorPureF
namespace Go.Proofs.YtoikpdijkdmimaaDoor
open Go.RowKit
set_option linter.unusedVariables false

theorem itoa_pos (v : Nat) : Lib.itoa (v : Int) = Lib.decDigits v := by unfold Lib.itoa; rw [if_neg (by omega)]; simp
theorem itoa_neg (v : Nat) (h : 1 ≤ v) : Lib.itoa (-(v : Int)) = 45 :: Lib.decDigits v := by unfold Lib.itoa; rw [if_pos (by omega)]; simp
theorem dec_bound (v : Nat) (h : v ≤ 9223372036854775808) : (Lib.decDigits v).length ≤ 20 := P.dec_length_le 19 v (by omega)
theorem fig_small (x : Int) (h : 0 ≤ x ∧ x ≤ 9) : P.fig x = 48 + x := by unfold P.fig; rw [if_pos (by omega)]
set_option maxHeartbeats 2000000 in
theorem c_spec_FormatPos (m : Nat) (hm : 1 ≤ m) (h1 : m ≤ 9223372036854775807) (w : World) :
    Calls Tryd.prog 7 #[.int .i64 m] w fun e w' => e = .returned (.string (P.bs (Lib.decDigits m))) ∧ Bel w w' := by
  have hB := dec_bound m (by omega)
  have b0 : ((m : Int) == 0) = false := by simp; omega
  go_enter Tryd.func7, Tryd.ntmps7
  go_wp2
  go_loopw [0, 4, 5] (fun n s d wr => ∃ (v : Nat) (l : List UInt8), n = .int .i64 v ∧ s = .string (P.bs l) ∧ v ≤ m ∧ Hid (P.decFront v ++ l = Lib.decDigits m) ∧ l.length ≤ 20 ∧ Bel w wr) (fun n _ _ _ => (intOf n).toNat)
  case atStart => exact ⟨m, [], rfl, rfl, Nat.le_refl _, Lib.hid (by unfold P.decFront; rw [if_neg (by omega), List.append_nil]), by simp, Bel.refl _⟩
  case round =>
    obtain ⟨v, l, rfl, rfl, hv, hl, hlen, hbel⟩ := hrel
    by_cases h0 : v = 0
    · subst h0
      have HL : l = Lib.decDigits m := by have := hl.out; simpa [P.decFront] using this
      subst HL
      go_wp2
      go_ret
      exact ⟨rfl, hbel⟩
    · have c0 : ((v : Int) == 0) = false := by simp; omega
      have c1 : ((v : Int) != 0) = true := by simp; omega
      have c2 : 0 ≤ (v : Int) % 10 ∧ (v : Int) % 10 ≤ 9 := by omega
      have hz : (P.bs l).size ≤ 20 := by rw [P.bs_size]; exact hlen
      have hstep := P.decFront_step v h0
      have hl2 : Hid (P.decFront (v / 10) ++ (P.by8 (48 + (v : Int) % 10) :: l) = Lib.decDigits m) := Lib.hid (by
        have := hl.out
        rw [hstep] at this
        rw [← this]
        simp)
      have hlen2 : (P.by8 (48 + (v : Int) % 10) :: l).length ≤ 20 := by
        have h2 := congrArg List.length hl2.out
        rw [List.length_append] at h2
        omega
      have HF := Lib.hid (fig_small ((v : Int) % 10) c2)
      clear hstep hB
      go_wp2_with (go_at_call 19; refine (c_spec_l01Figure _ (by omega) _).mono ?_; rintro e w' ⟨he, rfl⟩; rw [HF.out] at he; subst he)
      go_roundw
      case rel => exact ⟨v / 10, P.by8 (48 + (v : Int) % 10) :: l, by congr 1, by rw [P.bs_append]; rfl, by omega, hl2, hlen2, hbel.alloc _⟩
      case measure => simp [intOf]; omega
set_option maxHeartbeats 2000000 in
theorem c_spec_FormatNeg (m : Nat) (hm : 1 ≤ m) (h1 : m ≤ 9223372036854775808) (w : World) :
    Calls Tryd.prog 7 #[.int .i64 (-(m : Int))] w fun e w' => e = .returned (.string (P.bs (45 :: Lib.decDigits m))) ∧ Bel w w' := by
  have hB := dec_bound m (by omega)
  have b0 : (-(m : Int) == 0) = false := by simp; omega
  have b1 : decide (-(m : Int) < 0) = true := by simp; omega
  have b2 : -(m : Int) < 0 := by omega
  go_enter Tryd.func7, Tryd.ntmps7
  go_wp2
  go_loopw [0, 4, 5] (fun n s d wr => ∃ (v : Nat) (l : List UInt8), n = .int .i64 (-(v : Int)) ∧ s = .string (P.bs l) ∧ v ≤ m ∧ Hid (P.decFront v ++ l = Lib.decDigits m) ∧ l.length ≤ 20 ∧ Bel w wr) (fun n _ _ _ => (-intOf n).toNat)
  case atStart => exact ⟨m, [], rfl, rfl, Nat.le_refl _, Lib.hid (by unfold P.decFront; rw [if_neg (by omega), List.append_nil]), by simp, Bel.refl _⟩
  case round =>
    obtain ⟨v, l, rfl, rfl, hv, hl, hlen, hbel⟩ := hrel
    by_cases h0 : v = 0
    · subst h0
      have HL : l = Lib.decDigits m := by have := hl.out; simpa [P.decFront] using this
      subst HL
      have hz : (P.bs (Lib.decDigits m)).size ≤ 20 := by rw [P.bs_size]; exact hlen
      go_wp2
      go_ret
      exact ⟨ret_str (P.bs_append [45] _), hbel⟩
    · have c0 : (-(v : Int) == 0) = false := by simp; omega
      have c1 : (-(v : Int) != 0) = true := by simp; omega
      have c3 : Int.tmod (-(v : Int)) 10 = -((v : Int) % 10) := by rw [Int.neg_tmod, Int.tmod_eq_emod_of_nonneg (by omega)]
      have c4 : IntKind.i64.wrap (Int.tdiv (-(v : Int)) 10) = -((v : Int) / 10) := by rw [Int.neg_tdiv, Int.tdiv_eq_ediv_of_nonneg (by omega)]; exact IntWalk.i64_in _ (by omega)
      have c2 : 0 ≤ (v : Int) % 10 ∧ (v : Int) % 10 ≤ 9 := by omega
      have hz : (P.bs l).size ≤ 20 := by rw [P.bs_size]; exact hlen
      have hstep := P.decFront_step v h0
      have hl2 : Hid (P.decFront (v / 10) ++ (P.by8 (48 + (v : Int) % 10) :: l) = Lib.decDigits m) := Lib.hid (by
        have := hl.out
        rw [hstep] at this
        rw [← this]
        simp)
      have hlen2 : (P.by8 (48 + (v : Int) % 10) :: l).length ≤ 20 := by
        have h2 := congrArg List.length hl2.out
        rw [List.length_append] at h2
        omega
      have HF := Lib.hid (fig_small ((v : Int) % 10) c2)
      clear hstep hB
      generalize hx : (v : Int) % 10 = x at c2 c3 hl2 hlen2 HF
      have HX := Lib.hid hx
      clear hx
      by_cases hd : x = 0
      · subst hd
        have c5 : ¬ -(0 : Int) < 0 := by omega
        go_wp2_with fail
        refine (c_spec_l01Figure 0 (by omega) _).mono ?_
        rintro e w' ⟨he, rfl⟩
        rw [HF.out] at he
        subst he
        go_wp2
        go_roundw
        case rel => exact ⟨v / 10, P.by8 (48 + 0) :: l, by congr 1, by rw [P.bs_append]; rfl, by omega, hl2, hlen2, hbel.alloc _⟩
        case measure => simp [intOf]; omega
      · have c5 : -x < 0 := by omega
        go_wp2_with fail
        refine (c_spec_l01Figure x (by omega) _).mono ?_
        rintro e w' ⟨he, rfl⟩
        rw [HF.out] at he
        subst he
        go_wp2
        go_roundw
        case rel => exact ⟨v / 10, P.by8 (48 + x) :: l, by congr 1, by rw [P.bs_append]; rfl, by omega, hl2, hlen2, hbel.alloc _⟩
        case measure => simp [intOf]; omega
theorem c_spec_FormatInt (n : Int) (h : -9223372036854775808 ≤ n ∧ n ≤ 9223372036854775807) (w : World) :
    Calls Tryd.prog 7 #[.int .i64 n] w fun e w' => e = .returned (.string (P.bs (Lib.itoa n))) ∧ Bel w w' := by
  by_cases h0 : n = 0
  · subst h0
    have HI := Lib.hid (show P.bs (Lib.itoa 0) = ⟨#[48]⟩ from by rw [show (0 : Int) = ((0 : Nat) : Int) from rfl, itoa_pos, P.dec_small (by omega)]; rfl)
    go_enter Tryd.func7, Tryd.ntmps7
    go_wp2
    go_ret
    exact ⟨ret_str HI.out.symm, Bel.refl _⟩
  · by_cases h1 : 0 < n
    · obtain ⟨m, rfl⟩ := Int.eq_ofNat_of_zero_le (by omega : 0 ≤ n)
      rw [itoa_pos]
      exact c_spec_FormatPos m (by omega) (by omega) w
    · obtain ⟨m, hm⟩ := Int.eq_ofNat_of_zero_le (by omega : 0 ≤ -n)
      obtain rfl : n = -(m : Int) := by omega
      rw [itoa_neg m (by omega)]
      exact c_spec_FormatNeg m (by omega) (by omega) w
end Go.Proofs.YtoikpdijkdmimaaDoor
