/-
  The contracts of numbers read from text.
-/
import Derived.Test.YtoikpdijkdmimaaDoor24
namespace Go.Proofs.YtoikpdijkdmimaaDoor
open Go.RowKit
set_option linter.unusedVariables false
/-- the value so far is small, for a text of ten digits at most -/
theorem dv_small (s : ByteArray) (k : Nat) (hk : k ≤ 10) (h : P.allDig s k = true) : P.dv s k < 10000000000 := by
  have h1 := P.dv_lt s k h
  have h2 : 10 ^ k ≤ 10 ^ 10 := Nat.pow_le_pow_right (by omega) hk
  omega
theorem dv_next (s : ByteArray) (k : Nat) (h : 48 ≤ P.at8n s k) : ((P.dv s (k + 1) : Nat) : Int) = (P.dv s k : Int) * 10 + (P.at8 s k - 48) := by
  have : P.dv s (k + 1) = P.dv s k * 10 + (P.at8n s k - 48) := rfl
  have e : P.at8 s k = (P.at8n s k : Int) := rfl
  omega
theorem allDig_next (s : ByteArray) (k : Nat) (h : P.allDig s k = true) (h1 : 48 ≤ P.at8n s k ∧ P.at8n s k ≤ 57) : P.allDig s (k + 1) = true := by
  simp [P.allDig, h, h1]
set_option maxHeartbeats 2000000 in
theorem c_impl_ParseUint (s : ByteArray) (hs : s.size ≤ 1073741824) (w : World) :
    Calls Tryd.prog 11 #[.string s] w fun e w' => e = .returned (.tuple #[.int .i64 (P.puV s), .bool (P.puOk s)]) ∧ Bel w w' := by
  by_cases hlen : 1 ≤ s.size ∧ s.size ≤ 10
  · have q0 := P.at8_range s 0
    have f0 : (s[0].toNat : Int) = P.at8 s 0 := P.at8_eq s 0 (by omega)
    have h2 : ((s.size : Int) == 0) = false := beq_eq_false_iff_ne.2 (by omega)
    have h3 : ¬ (10 : Int) < s.size := by omega
    by_cases hz : s.size = 1 ∨ ¬ P.at8n s 0 = 48
    · have HP := Lib.hid hz
      have hz2 : ¬ (1 : Int) < s.size ∨ ((1 : Int) < s.size ∧ (P.at8 s 0 == 48) = false) := by
        have e : P.at8 s 0 = (P.at8n s 0 : Int) := rfl
        by_cases h1 : s.size = 1
        · left; omega
        · right; exact ⟨by omega, beq_eq_false_iff_ne.2 (by omega)⟩
      clear hz
      rcases hz2 with hz2 | ⟨hz2, hz3⟩ <;> (
        go_enter Tryd.func11, Tryd.ntmps11
        go_wp2
        go_loopw [4, 5] (fun n i wr => ∃ k : Nat, k ≤ s.size ∧ n = .int .i64 (P.dv s k : Nat) ∧ i = .int .i64 k ∧ P.allDig s k = true ∧ wr = w) (fun _ i _ => s.size - (intOf i).toNat)
        case atStart => exact ⟨0, Nat.zero_le _, rfl, rfl, rfl, rfl⟩
        case round =>
          obtain ⟨k, hk, rfl, rfl, hd, rfl⟩ := hrel
          have hv := dv_small s k (by omega) hd
          by_cases hlt : k < s.size
          · have f1 : (s[k].toNat : Int) = P.at8 s k := P.at8_eq s k hlt
            have q1 := P.at8_range s k
            have e : P.at8 s k = (P.at8n s k : Int) := rfl
            by_cases hd0 : P.at8 s k < 48
            · have HF := Lib.hid (P.pu_no s (.inr (.inr (.inl (P.allDig_no s _ k hlt (by omega))))))
              clear e
              go_wp2
              go_ret2
              exact ⟨ret_ib HF.out.1.symm HF.out.2.symm, Bel.refl _⟩
            · by_cases hd1 : 57 < P.at8 s k
              · have HF := Lib.hid (P.pu_no s (.inr (.inr (.inl (P.allDig_no s _ k hlt (by omega))))))
                clear e
                go_wp2
                go_ret2
                exact ⟨ret_ib HF.out.1.symm HF.out.2.symm, Bel.refl _⟩
              · have HN := Lib.hid (dv_next s k (by omega))
                have HA := Lib.hid (allDig_next s k hd (by omega))
                clear e
                go_wp2
                go_roundw
                case rel => exact ⟨k + 1, by omega, by rw [HN.out], by congr 1, HA.out, by first | rfl | trivial⟩
                case measure => simp [intOf]; omega
          · have : k = s.size := by omega
            subst this
            by_cases hm : P.dv s s.size ≤ 1000000000
            · have HF := Lib.hid (P.pu_yes s hlen HP.out hd hm)
              go_wp2
              go_ret2
              exact ⟨ret_ib HF.out.1.symm HF.out.2.symm, Bel.refl _⟩
            · have HF := Lib.hid (P.pu_no s (.inr (.inr (.inr hm))))
              go_wp2
              go_ret2
              exact ⟨ret_ib HF.out.1.symm HF.out.2.symm, Bel.refl _⟩)
    · have HF := Lib.hid (P.pu_no s (.inr (.inl hz)))
      have h48 : P.at8 s 0 = 48 := by unfold P.at8; omega
      have h1 : (1 : Int) < s.size := by omega
      clear hz
      go_enter Tryd.func11, Tryd.ntmps11
      go_wp2
      go_ret2
      exact ⟨ret_ib HF.out.1.symm HF.out.2.symm, Bel.refl _⟩
  · have HF := Lib.hid (P.pu_no s (.inl hlen))
    by_cases h0 : s.size = 0
    · go_enter Tryd.func11, Tryd.ntmps11
      go_wp2
      go_ret2
      exact ⟨ret_ib HF.out.1.symm HF.out.2.symm, Bel.refl _⟩
    · have h2 : ((s.size : Int) == 0) = false := beq_eq_false_iff_ne.2 (by omega)
      have h3 : (10 : Int) < s.size := by omega
      go_enter Tryd.func11, Tryd.ntmps11
      go_wp2
      go_ret2
      exact ⟨ret_ib HF.out.1.symm HF.out.2.symm, Bel.refl _⟩
end Go.Proofs.YtoikpdijkdmimaaDoor
