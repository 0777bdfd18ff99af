/-
  The contracts of chapter 1: numbers and texts.
-/
import Derived.Test.YtpdfncelmggpoaaBase
namespace Go.Proofs.Ytpdfncelmggpoaa
open Go.RowKit
set_option linter.unusedVariables false

theorem replicate_set {α : Type} (x y : α) (k n : Nat) (h : k < n) : (List.replicate k x ++ List.replicate (n - k) y).set k x = List.replicate (k + 1) x ++ List.replicate (n - (k + 1)) y := by
  have e : n - k = (n - (k + 1)) + 1 := by omega
  rw [e, List.replicate_succ, List.set_append_right _ _ (by simp), List.replicate_succ']
  simp

theorem c_impl_repeat (b : Int) (n : Nat) (hb : 0 ≤ b ∧ b ≤ 255) (hn : n ≤ 1073741824) (w : World) :
    Calls Try.prog 43 #[.int .u8 b, .int .i64 n] w fun e w' => e = .returned (.string (P.rep b n)) ∧ Bel w w' := by
  obtain ⟨i0, hi, hz0, hz1, hz2⟩ := info_parts Try.info5
  go_enter Try.func43, Try.ntmps43
  go_wp2_with (at_make; refine wpList_make_full _ rfl _ _ 47 rfl w.heap.size 5 i0 (.int .u8 0) 1 Try.underlying47 hi hz0 hz1 _ _ _ _ n rfl rfl rfl rfl (by rw [hz2]; omega) (by unfold maxLen; omega) (Nat.le_refl _) ?_; intro w0 hown0 hgrow0)
  have hb0 : Bel w w0 := (Bel.refl w).grown hgrow0 (fun k hk => by cases hk)
  clear hgrow0
  go_loopw [6, 11] (fun _ j wr => ∃ k : Nat, k ≤ n ∧ j = .int .i64 k ∧ wr.ownsRow w.heap.size 5 1 (.slice (some ⟨w.heap.size, 0, none⟩) n n) n (List.replicate k (.int .u8 b) ++ List.replicate (n - k) (.int .u8 0)) ∧ Bel w wr) (fun _ j _ => n - (intOf j).toNat)
  case atStart => exact ⟨0, Nat.zero_le _, rfl, by simpa [Value.cells, toList_madeCells_one] using hown0, hb0⟩
  case round =>
    obtain ⟨k, hk, rfl, hown, hbel⟩ := hrel
    by_cases hlt : k < n
    · have hc : wr.cell? ⟨w.heap.size, k, none⟩ = some (.int .u8 0) := by
        rw [hown.cellAt k (by omega), List.getElem?_append_right (by simp), List.length_replicate, Nat.sub_self, List.getElem?_replicate, if_pos (by omega)]
      have hf := hown.frozenAt k
      have hst := hown.stored k (.int .u8 b)
      have HO := Lib.hid hown
      have HST := Lib.hid hst
      clear hown hst
      go_wp2
      go_roundw
      case rel => exact ⟨k + 1, by omega, by go_num, by rw [← replicate_set _ _ k n hlt]; exact HST.out.1, hbel.setCell (Nat.le_refl _) _⟩
      case measure => simp [intOf]; omega
    · have : k = n := by omega
      subst this
      have hcv := conv_row wr _ _ k (List.replicate k b) (by simp) (by simpa using hown)
      go_wp2
      go_ret
      exact ⟨ret_str (by simp [P.rep]), hbel⟩
theorem c_spec_l01Long (n : Nat) (b : Int) (hb : 0 ≤ b ∧ b ≤ 255) (hn : n ≤ 1073741824) (w : World) :
    Calls Try.prog 42 #[.int .i64 n, .int .u8 b] w fun e w' => e = .returned (.string (P.rep b n)) ∧ Bel w w' := by
  obtain ⟨i0, hi, hz0, hz1, hz2⟩ := info_parts Try.info5
  go_enter Try.func42, Try.ntmps42
  go_wp2_with (at_make; refine wpList_make_full _ rfl _ _ 47 rfl w.heap.size 5 i0 (.int .u8 0) 1 Try.underlying47 hi hz0 hz1 _ _ _ _ n rfl rfl rfl rfl (by rw [hz2]; omega) (by unfold maxLen; omega) (Nat.le_refl _) ?_; intro w0 hown0 hgrow0)
  have hb0 : Bel w w0 := (Bel.refl w).grown hgrow0 (fun k hk => by cases hk)
  clear hgrow0
  go_loopw [6] (fun j wr => ∃ k : Nat, k ≤ n ∧ j = .int .i64 k ∧ wr.ownsRow w.heap.size 5 1 (.slice (some ⟨w.heap.size, 0, none⟩) n n) n (List.replicate k (.int .u8 b) ++ List.replicate (n - k) (.int .u8 0)) ∧ Bel w wr) (fun j _ => n - (intOf j).toNat)
  case atStart => exact ⟨0, Nat.zero_le _, rfl, by simpa [Value.cells, toList_madeCells_one] using hown0, hb0⟩
  case round =>
    obtain ⟨k, hk, rfl, hown, hbel⟩ := hrel
    by_cases hlt : k < n
    · have hc : wr.cell? ⟨w.heap.size, k, none⟩ = some (.int .u8 0) := by
        rw [hown.cellAt k (by omega), List.getElem?_append_right (by simp), List.length_replicate, Nat.sub_self, List.getElem?_replicate, if_pos (by omega)]
      have hf := hown.frozenAt k
      have hst := hown.stored k (.int .u8 b)
      have HO := Lib.hid hown
      have HST := Lib.hid hst
      clear hown hst
      go_wp2
      go_roundw
      case rel => exact ⟨k + 1, by omega, by go_num, by rw [← replicate_set _ _ k n hlt]; exact HST.out.1, hbel.setCell (Nat.le_refl _) _⟩
      case measure => simp [intOf]; omega
    · have : k = n := by omega
      subst this
      have hcv := conv_row wr _ _ k (List.replicate k b) (by simp) (by simpa using hown)
      go_wp2
      go_ret
      exact ⟨ret_str (by simp [P.rep]), hbel⟩
theorem digit_at (w : World) (d : Nat) (h : d < 16) : (Instr.index 9 (.string ⟨#[48, 49, 50, 51, 52, 53, 54, 55, 56, 57, 97, 98, 99, 100, 101, 102]⟩) (.int .u8 (d : Int))).run Try.prog w = .ok (.int .u8 (P.fig (d : Int))) w := by
  rw [run_index_string w _ _ _ _ Try.underlying9, dif_pos ⟨by omega, by show (d : Int) < 16; omega⟩, ← P.fig_digits d h]
  rfl
theorem c_impl_EncodeHex (s : ByteArray) (hs : s.size ≤ 1073741824) (w : World) :
    Calls Try.prog 36 #[.string s] w fun e w' => e = .returned (.tuple #[.string (P.encodeHex s), .bool (decide (s.size ≤ 20000))]) ∧ Bel w w' := by
  by_cases hbig : s.size ≤ 20000
  · obtain ⟨i0, hi, hz0, hz1, hz2⟩ := info_parts Try.info5
    go_enter Try.func36, Try.ntmps36
    go_wp2_with (at_make; refine wpList_make_own _ rfl _ _ 47 rfl w.heap.size 5 i0 (.int .u8 0) 1 Try.underlying47 hi hz0 hz1 _ _ _ (2 * s.size) rfl rfl (by omega) (by rw [hz2]; omega) (by unfold maxLen; omega) (Nat.le_refl _) ?_; intro w0 hown0 hgrow0)
    have hb0 : Bel w w0 := (Bel.refl w).grown hgrow0 (fun k hk => by cases hk)
    clear hgrow0
    go_loopw [4, 5] (fun v j wr => ∃ (k : Nat) (v' : Value), v' = v ∧ k ≤ s.size ∧ j = .int .i64 k ∧ wr.ownsRow w.heap.size 5 1 v' (2 * k) ((P.hexTo s k).map (Value.int .u8)) ∧ Bel w wr) (fun _ j _ => s.size - (intOf j).toNat)
    case atStart => exact ⟨0, _, rfl, Nat.zero_le _, rfl, hown0, hb0⟩
    case round =>
      obtain ⟨k, v', rfl, hk, rfl, hown, hbel⟩ := hrel
      by_cases hlt : k < s.size
      · have h3 : (k : Int) < s.size := by omega
        have h4 : (0 : Int) ≤ k := by omega
        have hb := P.at8n_lt s k
        have f1 : ∀ (wx : World), (Instr.index 9 (.string ⟨#[48, 49, 50, 51, 52, 53, 54, 55, 56, 57, 97, 98, 99, 100, 101, 102]⟩) (.int .u8 ((s[k].toNat : Int) / 16))).run Try.prog wx = .ok (.int .u8 (P.fig (P.at8 s k / 16))) wx := fun wx => by
          rw [P.at8_eq, show P.at8 s k / 16 = ((P.at8n s k / 16 : Nat) : Int) from by unfold P.at8; omega]
          exact digit_at wx (P.at8n s k / 16) (by omega)
        have f2 : ∀ (wx : World), (Instr.index 9 (.string ⟨#[48, 49, 50, 51, 52, 53, 54, 55, 56, 57, 97, 98, 99, 100, 101, 102]⟩) (.int .u8 (bits .and .u8 (s[k].toNat : Int) 15))).run Try.prog wx = .ok (.int .u8 (P.fig (P.at8 s k % 16))) wx := fun wx => by
          rw [P.at8n_eq, P.and15 _ hb, show ((P.at8n s k : Nat) : Int) % 16 = ((P.at8n s k % 16 : Nat) : Int) from by omega, show P.at8 s k % 16 = ((P.at8n s k % 16 : Nat) : Int) from by unfold P.at8; omega]
          exact digit_at wx (P.at8n s k % 16) (by omega)
        clear hb
        go_wp2
        have hnews : ∀ (j : Nat) (u : Value), [Value.int .u8 (P.fig (P.at8 s k / 16)), Value.int .u8 (P.fig (P.at8 s k % 16))][j]? = some u → (wr.alloc (.cells #[.int .u8 (P.fig (P.at8 s k / 16)), .int .u8 (P.fig (P.at8 s k % 16))] 5)).cell? ((⟨wr.heap.size, 0, none⟩ : Addr).add j) = some u := fun j u hu => World.news_of_block (w := wr.alloc (.cells #[.int .u8 (P.fig (P.at8 s k / 16)), .int .u8 (P.fig (P.at8 s k % 16))] 5)) (heap_alloc_new wr _) j u hu
        have h1c : ∀ u ∈ [Value.int .u8 (P.fig (P.at8 s k / 16)), Value.int .u8 (P.fig (P.at8 s k % 16))], u.oneCell' = true := by simp [Value.oneCell']
        have h63 : 2 * k + 2 ≤ maxLen := by unfold maxLen; omega
        have hby : (2 * k + 2) * 1 ≤ 140737488355328 := by omega
        have hba : w.heap.size ≤ (wr.alloc (.cells #[.int .u8 (P.fig (P.at8 s k / 16)), .int .u8 (P.fig (P.at8 s k % 16))] 5)).heap.size := by have := hbel.size; simp; omega
        go_region_law ((refine step_append_lies _ rfl (.tmp 19) (.tmp 30) 47 rfl w.heap.size 5 i0 (.int .u8 0) 1 1 Try.underlying47 hi hz0 hz1 hz2 rfl Nat.one_pos v' (2 * k) ((P.hexTo s k).map (Value.int .u8)) rfl (hown.alloc _) ⟨wr.heap.size, 0, none⟩ 2 2 [.int .u8 (P.fig (P.at8 s k / 16)), .int .u8 (P.fig (P.at8 s k % 16))] rfl rfl hnews h1c Nat.two_pos h63 hby hba _ rfl ?_; intro g1 cap1 w1 hown1 hgrow1 _ _))
        all_goals
          have hb1 : Bel w w1 := (hbel.alloc _).drew.grown hgrow1 (fun r hr => (World.ownsRow.lt hown r hr).1)
          clear hnews h1c h63 hby hba hgrow1
          go_wp2
          go_roundw
          case rel => exact ⟨k + 1, _, rfl, by omega, by go_num, by simpa [P.hexTo, Nat.mul_add] using hown1, hb1⟩
          case measure => simp [intOf]; omega
      · have : k = s.size := by omega
        subst this
        have hcv := conv_row wr _ _ _ (P.hexTo s s.size) (P.hexTo_length s _).symm hown
        go_wp2
        go_ret2
        exact ⟨ret_sb (by unfold P.encodeHex; rw [if_pos hbig]) (by simp [hbig]), hbel⟩
  · go_enter Try.func36, Try.ntmps36
    go_wp2
    go_ret2
    exact ⟨ret_sb (by unfold P.encodeHex; rw [if_neg hbig]; rfl) (by simp [hbig]), Bel.refl _⟩
theorem c_spec_l01Figure (x : Int) (h : 0 ≤ x ∧ x ≤ 15) (w : World) :
    Calls Try.prog 44 #[.int .i64 x] w fun e w' => e = .returned (.int .u8 (P.fig x)) ∧ w = w' := by
  by_cases h0 : x < 10
  · go_enter Try.func44, Try.ntmps44
    go_wp2
    go_ret
    exact ⟨ret_int (by unfold P.fig; rw [if_pos h0]), rfl⟩
  · go_enter Try.func44, Try.ntmps44
    go_wp2
    go_ret
    exact ⟨ret_int (by unfold P.fig; rw [if_neg (by omega)]; omega), rfl⟩
theorem c_spec_EncodeHex (s : ByteArray) (hs : s.size ≤ 1073741824) (w : World) :
    Calls Try.prog 35 #[.string s] w fun e w' => e = .returned (.tuple #[.string (P.encodeHex s), .bool (decide (s.size ≤ 20000))]) ∧ Bel w w' := by
  by_cases hbig : s.size ≤ 20000
  · obtain ⟨i0, hi, hz0, hz1, hz2⟩ := info_parts Try.info5
    go_enter Try.func35, Try.ntmps35
    go_wp2
    have hown0 : (w.alloc (.cells #[] 5)).ownsRow w.heap.size 5 1 (.slice (some ⟨w.heap.size, 0, none⟩) 0 0) 0 [] := World.ownsRow_lit w #[] 0 (Nat.le_refl _) (by unfold maxLen; omega) rfl
    have hb0 : Bel w (w.alloc (.cells #[] 5)) := (Bel.refl w).alloc _
    go_loopw [4, 5] (fun v j wr => ∃ (k : Nat) (v' : Value), v' = v ∧ k ≤ s.size ∧ j = .int .i64 k ∧ wr.ownsRow w.heap.size 5 1 v' (2 * k) ((P.hexTo s k).map (Value.int .u8)) ∧ Bel w wr) (fun _ j _ => s.size - (intOf j).toNat)
    case atStart => exact ⟨0, _, rfl, Nat.zero_le _, rfl, hown0, hb0⟩
    case round =>
      obtain ⟨k, v', rfl, hk, rfl, hown, hbel⟩ := hrel
      by_cases hlt : k < s.size
      · have h3 : (k : Int) < s.size := by omega
        have h4 : (0 : Int) ≤ k := by omega
        have hb := P.at8_range s k
        have f1 : IntKind.i64.wrap ((s[k].toNat : Int) / 16) = P.at8 s k / 16 := by
          rw [P.at8_eq]
          exact IntWalk.i64_in _ (by omega)
        have f2 : Int.tmod (s[k].toNat : Int) 16 = P.at8 s k % 16 := by
          rw [P.at8_eq]
          exact IntWalk.rem_in _ _ (by omega)
        have q1 : 0 ≤ P.at8 s k / 16 ∧ P.at8 s k / 16 ≤ 15 := by omega
        have q2 : 0 ≤ P.at8 s k % 16 ∧ P.at8 s k % 16 ≤ 15 := by omega
        clear hb
        go_wp2
        have hnews : ∀ (j : Nat) (u : Value), [Value.int .u8 (P.fig (P.at8 s k / 16)), Value.int .u8 (P.fig (P.at8 s k % 16))][j]? = some u → (wr.alloc (.cells #[.int .u8 (P.fig (P.at8 s k / 16)), .int .u8 (P.fig (P.at8 s k % 16))] 5)).cell? ((⟨wr.heap.size, 0, none⟩ : Addr).add j) = some u := fun j u hu => World.news_of_block (w := wr.alloc (.cells #[.int .u8 (P.fig (P.at8 s k / 16)), .int .u8 (P.fig (P.at8 s k % 16))] 5)) (heap_alloc_new wr _) j u hu
        have h1c : ∀ u ∈ [Value.int .u8 (P.fig (P.at8 s k / 16)), Value.int .u8 (P.fig (P.at8 s k % 16))], u.oneCell' = true := by simp [Value.oneCell']
        have h63 : 2 * k + 2 ≤ maxLen := by unfold maxLen; omega
        have hby : (2 * k + 2) * 1 ≤ 140737488355328 := by omega
        have hba : w.heap.size ≤ (wr.alloc (.cells #[.int .u8 (P.fig (P.at8 s k / 16)), .int .u8 (P.fig (P.at8 s k % 16))] 5)).heap.size := by have := hbel.size; simp; omega
        go_region_law (first | ((refine step_append_lies _ rfl (.tmp 16) (.tmp 29) 47 rfl w.heap.size 5 i0 (.int .u8 0) 1 1 Try.underlying47 hi hz0 hz1 hz2 rfl Nat.one_pos v' (2 * k) ((P.hexTo s k).map (Value.int .u8)) rfl (hown.alloc _) ⟨wr.heap.size, 0, none⟩ 2 2 [.int .u8 (P.fig (P.at8 s k / 16)), .int .u8 (P.fig (P.at8 s k % 16))] rfl rfl hnews h1c Nat.two_pos h63 hby hba _ rfl ?_; intro g1 cap1 w1 hown1 hgrow1 _ _)) | (go_simp; go_at_call 44; (first | (with_reducible refine (c_spec_l01Figure (P.at8 s k / 16) q1 _).mono ?_) | (with_reducible refine (c_spec_l01Figure (P.at8 s k % 16) q2 _).mono ?_)); rintro e w' ⟨rfl, rfl⟩; go_simp))
        all_goals
          have hb1 : Bel w w1 := (hbel.alloc _).drew.grown hgrow1 (fun r hr => (World.ownsRow.lt hown r hr).1)
          clear hnews h1c h63 hby hba hgrow1
          go_wp2
          go_roundw
          case rel => exact ⟨k + 1, _, rfl, by omega, by go_num, by simpa [P.hexTo, Nat.mul_add] using hown1, hb1⟩
          case measure => simp [intOf]; omega
      · have : k = s.size := by omega
        subst this
        have hcv := conv_row wr _ _ _ (P.hexTo s s.size) (P.hexTo_length s _).symm hown
        go_wp2
        go_ret2
        exact ⟨ret_sb (by unfold P.encodeHex; rw [if_pos hbig]) (by simp [hbig]), hbel⟩
  · go_enter Try.func35, Try.ntmps35
    go_wp2
    go_ret2
    exact ⟨ret_sb (by unfold P.encodeHex; rw [if_neg hbig]; rfl) (by simp [hbig]), Bel.refl _⟩
theorem c_impl_Clamp (n lo hi : Int) (w : World) :
    Calls Try.prog 24 #[.int .i64 n, .int .i64 lo, .int .i64 hi] w fun e w' => e = .returned (.int .i64 (P.clamp n lo hi)) ∧ w = w' := by
  by_cases h1 : n < lo
  · go_enter Try.func24, Try.ntmps24
    go_wp2
    all_goals go_ret
    all_goals exact ⟨ret_int (by unfold P.clamp; rw [if_pos (by omega)]), rfl⟩
  · by_cases h2 : hi < lo
    · go_enter Try.func24, Try.ntmps24
      go_wp2
      all_goals go_ret
      all_goals exact ⟨ret_int (by unfold P.clamp; rw [if_pos (by omega)]), rfl⟩
    · by_cases h3 : n > hi
      · go_enter Try.func24, Try.ntmps24
        go_wp2
        go_ret
        exact ⟨ret_int (by unfold P.clamp; rw [if_neg (by omega), if_pos (by omega)]), rfl⟩
      · go_enter Try.func24, Try.ntmps24
        go_wp2
        go_ret
        exact ⟨ret_int (by unfold P.clamp; rw [if_neg (by omega), if_neg (by omega)]), rfl⟩
theorem c_spec_Clamp (n lo hi : Int) (w : World) :
    Calls Try.prog 23 #[.int .i64 n, .int .i64 lo, .int .i64 hi] w fun e w' => e = .returned (.int .i64 (P.clamp n lo hi)) ∧ w = w' := by
  by_cases h1 : n < lo
  · go_enter Try.func23, Try.ntmps23
    go_wp2
    all_goals go_ret
    all_goals exact ⟨ret_int (by unfold P.clamp; rw [if_pos (by omega)]), rfl⟩
  · by_cases h2 : hi < lo
    · go_enter Try.func23, Try.ntmps23
      go_wp2
      all_goals go_ret
      all_goals exact ⟨ret_int (by unfold P.clamp; rw [if_pos (by omega)]), rfl⟩
    · by_cases h3 : n > hi
      · go_enter Try.func23, Try.ntmps23
        go_wp2
        go_ret
        exact ⟨ret_int (by unfold P.clamp; rw [if_neg (by omega), if_pos (by omega)]), rfl⟩
      · go_enter Try.func23, Try.ntmps23
        go_wp2
        go_ret
        exact ⟨ret_int (by unfold P.clamp; rw [if_neg (by omega), if_neg (by omega)]), rfl⟩
end Go.Proofs.Ytpdfncelmggpoaa
