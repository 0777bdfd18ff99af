/-
  Two lists of strings compared (as the laws compare them).
-/
import Derived.Test.YtoikpdijkdmimaaDoor33
namespace Go.Proofs.YtoikpdijkdmimaaDoor
open Go.RowKit
set_option linter.unusedVariables false

theorem c_sameTexts (L : List ByteArray) (a b : Value) (w : World) (ha : StrIs w a L) (hb : StrIs w b L) (hl : L.length ≤ 1000000) :
    Calls Tryd.prog 18 #[a, b] w fun e w' => e = .returned (.bool true) ∧ Bel w w' := by
  obtain ⟨pa, ca, rfl, hca⟩ := ha
  obtain ⟨pb, cb, rfl, hcb⟩ := hb
  obtain ⟨n, hn⟩ : ∃ n, n = L.length := ⟨_, rfl⟩
  rw [← hn] at hl ⊢
  have HN := Lib.hid hn
  rw [← hn] at hca hcb
  clear hn
  go_enter Tryd.func18, Tryd.ntmps18
  go_wp2
  go_loopw [5] (fun i wr => ∃ k : Nat, k ≤ n ∧ i = .int .i64 k ∧ Bel w wr) (fun i _ => n - (intOf i).toNat)
  case atStart => exact ⟨0, Nat.zero_le _, rfl, Bel.refl _⟩
  case round =>
    obtain ⟨k, hk, rfl, hbel⟩ := hrel
    by_cases hlt : k < n
    · obtain ⟨b1, rfl, h1⟩ := hca k hlt
      obtain ⟨b2, rfl, h2⟩ := hcb k hlt
      have d1 := hbel.at h1
      have d2 := hbel.at h2
      generalize L.getD k ⟨#[]⟩ = x at h1 h2 d1 d2
      have h3 : (k : Int) < n := by omega
      clear hca hcb
      go_wp2
      go_quiet (fail)
      go_wp2
      go_roundw
      case rel => exact ⟨k + 1, by omega, by go_num, (by repeat (first | with_reducible assumption | with_reducible exact Bel.refl _ | with_reducible refine Bel.alloc ?_ _ | with_reducible refine Bel.drew ?_ | with_reducible refine Bel.drewN ?_ _ | with_reducible refine Bel.setCell ?_ ?_ _ | with_reducible exact Nat.le_refl _ | (dsimp only; omega) | (refine Bel.trans ?_ (by with_reducible assumption))))⟩
      case measure => simp [intOf]; omega
    · go_wp2
      go_ret
      exact ⟨rfl, hbel⟩
end Go.Proofs.YtoikpdijkdmimaaDoor
