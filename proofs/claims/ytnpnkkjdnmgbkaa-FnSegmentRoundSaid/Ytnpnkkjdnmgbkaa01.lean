/-
  The contracts of chapter 1: numbers and texts.
-/
import Derived.Test.YtnpnkkjdnmgbkaaBase
namespace Go.Proofs.Ytnpnkkjdnmgbkaa
open Go.RowKit
set_option linter.unusedVariables false

theorem replicate_set {α : Type} (x y : α) (k n : Nat) (h : k < n) : (List.replicate k x ++ List.replicate (n - k) y).set k x = List.replicate (k + 1) x ++ List.replicate (n - (k + 1)) y := by
  have e : n - k = (n - (k + 1)) + 1 := by omega
  rw [e, List.replicate_succ, List.set_append_right _ _ (by simp), List.replicate_succ']
  simp

theorem c_impl_repeat (b : Int) (n : Nat) (hb : 0 ≤ b ∧ b ≤ 255) (hn : n ≤ 1073741824) (w : World) :
    Calls Try.prog 83 #[.int .u8 b, .int .i64 n] w fun e w' => e = .returned (.string (P.rep b n)) ∧ Bel w w' := by
  obtain ⟨i0, hi, hz0, hz1, hz2⟩ := info_parts Try.info5
  go_enter Try.func83, Try.ntmps83
  go_wp2_with (at_make; refine wpList_make_full _ rfl _ _ 22 rfl w.heap.size 5 i0 (.int .u8 0) 1 Try.underlying22 hi hz0 hz1 _ _ _ _ n rfl rfl rfl rfl (by rw [hz2]; omega) (by unfold maxLen; omega) (Nat.le_refl _) ?_; intro w0 hown0 hgrow0)
  have hb0 : Bel w w0 := (Bel.refl w).grown hgrow0 (fun k hk => by cases hk)
  clear hgrow0
  go_loopw [6, 11] (fun _ j wr => ∃ k : Nat, k ≤ n ∧ j = .int .i64 k ∧ wr.ownsRow w.heap.size 5 1 (.slice (some ⟨w.heap.size, 0, none⟩) n n) n (List.replicate k (.int .u8 b) ++ List.replicate (n - k) (.int .u8 0)) ∧ Bel w wr) (fun _ j _ => n - (intOf j).toNat)
  case atStart => exact ⟨0, Nat.zero_le _, rfl, by simpa [Value.cells, toList_madeCells_one] using hown0, hb0⟩
  case round =>
    obtain ⟨k, hk, rfl, hown, hbel⟩ := hrel
    by_cases hlt : k < n
    · have hc : wr.cell? ⟨w.heap.size, k, none⟩ = some (.int .u8 0) := by
        rw [hown.cellAt k (by omega), List.getElem?_append_right (by simp), List.length_replicate, Nat.sub_self, List.getElem?_replicate, if_pos (by omega)]
      have hf := hown.frozenAt k
      have hst := hown.stored k (.int .u8 b)
      have HO := Lib.hid hown
      have HST := Lib.hid hst
      clear hown hst
      go_wp2
      go_roundw
      case rel => exact ⟨k + 1, by omega, by go_num, by rw [← replicate_set _ _ k n hlt]; exact HST.out.1, hbel.setCell (Nat.le_refl _) _⟩
      case measure => simp [intOf]; omega
    · have : k = n := by omega
      subst this
      have hcv := conv_row wr _ _ k (List.replicate k b) (by simp) (by simpa using hown)
      go_wp2
      go_ret
      exact ⟨ret_str (by simp [P.rep]), hbel⟩
theorem c_spec_l01Long (n : Nat) (b : Int) (hb : 0 ≤ b ∧ b ≤ 255) (hn : n ≤ 1073741824) (w : World) :
    Calls Try.prog 68 #[.int .i64 n, .int .u8 b] w fun e w' => e = .returned (.string (P.rep b n)) ∧ Bel w w' := by
  obtain ⟨i0, hi, hz0, hz1, hz2⟩ := info_parts Try.info5
  go_enter Try.func68, Try.ntmps68
  go_wp2_with (at_make; refine wpList_make_full _ rfl _ _ 22 rfl w.heap.size 5 i0 (.int .u8 0) 1 Try.underlying22 hi hz0 hz1 _ _ _ _ n rfl rfl rfl rfl (by rw [hz2]; omega) (by unfold maxLen; omega) (Nat.le_refl _) ?_; intro w0 hown0 hgrow0)
  have hb0 : Bel w w0 := (Bel.refl w).grown hgrow0 (fun k hk => by cases hk)
  clear hgrow0
  go_loopw [6] (fun j wr => ∃ k : Nat, k ≤ n ∧ j = .int .i64 k ∧ wr.ownsRow w.heap.size 5 1 (.slice (some ⟨w.heap.size, 0, none⟩) n n) n (List.replicate k (.int .u8 b) ++ List.replicate (n - k) (.int .u8 0)) ∧ Bel w wr) (fun j _ => n - (intOf j).toNat)
  case atStart => exact ⟨0, Nat.zero_le _, rfl, by simpa [Value.cells, toList_madeCells_one] using hown0, hb0⟩
  case round =>
    obtain ⟨k, hk, rfl, hown, hbel⟩ := hrel
    by_cases hlt : k < n
    · have hc : wr.cell? ⟨w.heap.size, k, none⟩ = some (.int .u8 0) := by
        rw [hown.cellAt k (by omega), List.getElem?_append_right (by simp), List.length_replicate, Nat.sub_self, List.getElem?_replicate, if_pos (by omega)]
      have hf := hown.frozenAt k
      have hst := hown.stored k (.int .u8 b)
      have HO := Lib.hid hown
      have HST := Lib.hid hst
      clear hown hst
      go_wp2
      go_roundw
      case rel => exact ⟨k + 1, by omega, by go_num, by rw [← replicate_set _ _ k n hlt]; exact HST.out.1, hbel.setCell (Nat.le_refl _) _⟩
      case measure => simp [intOf]; omega
    · have : k = n := by omega
      subst this
      have hcv := conv_row wr _ _ k (List.replicate k b) (by simp) (by simpa using hown)
      go_wp2
      go_ret
      exact ⟨ret_str (by simp [P.rep]), hbel⟩
theorem digit_at (w : World) (d : Nat) (h : d < 16) : (Instr.index 9 (.string ⟨#[48, 49, 50, 51, 52, 53, 54, 55, 56, 57, 97, 98, 99, 100, 101, 102]⟩) (.int .u8 (d : Int))).run Try.prog w = .ok (.int .u8 (P.fig (d : Int))) w := by
  rw [run_index_string w _ _ _ _ Try.underlying9, dif_pos ⟨by omega, by show (d : Int) < 16; omega⟩, ← P.fig_digits d h]
  rfl
end Go.Proofs.Ytnpnkkjdnmgbkaa
