/-
  The contracts of chapter 1: numbers and texts.
-/
import Derived.Test.YtkonedmmihlblaaBase
namespace Go.Proofs.Ytkonedmmihlblaa
open Go.RowKit
set_option linter.unusedVariables false

theorem replicate_set {α : Type} (x y : α) (k n : Nat) (h : k < n) : (List.replicate k x ++ List.replicate (n - k) y).set k x = List.replicate (k + 1) x ++ List.replicate (n - (k + 1)) y := by
  have e : n - k = (n - (k + 1)) + 1 := by omega
  rw [e, List.replicate_succ, List.set_append_right _ _ (by simp), List.replicate_succ']
  simp

theorem digit_at (w : World) (d : Nat) (h : d < 16) : (Instr.index 9 (.string ⟨#[48, 49, 50, 51, 52, 53, 54, 55, 56, 57, 97, 98, 99, 100, 101, 102]⟩) (.int .u8 (d : Int))).run Try.prog w = .ok (.int .u8 (P.fig (d : Int))) w := by
  rw [run_index_string w _ _ _ _ Try.underlying9, dif_pos ⟨by omega, by show (d : Int) < 16; omega⟩, ← P.fig_digits d h]
  rfl
theorem c_spec_l01Figure (x : Int) (h : 0 ≤ x ∧ x ≤ 15) (w : World) :
    Calls Try.prog 63 #[.int .i64 x] w fun e w' => e = .returned (.int .u8 (P.fig x)) ∧ w = w' := by
  by_cases h0 : x < 10
  · go_enter Try.func63, Try.ntmps63
    go_wp2
    go_ret
    exact ⟨ret_int (by unfold P.fig; rw [if_pos h0]), rfl⟩
  · go_enter Try.func63, Try.ntmps63
    go_wp2
    go_ret
    exact ⟨ret_int (by unfold P.fig; rw [if_neg (by omega)]; omega), rfl⟩
theorem c_impl_hexDigit (b : Int) (hb : 0 ≤ b ∧ b ≤ 255) (w : World) :
    Calls Try.prog 50 #[.int .u8 b] w fun e w' => e = .returned (.int .i64 (P.hexVal b)) ∧ w = w' := by
  go_enter Try.func50, Try.ntmps50
  go_wp2
  all_goals go_ret
  all_goals exact ⟨ret_int (by unfold P.hexVal; first | (rw [if_pos (by omega)]; done) | (rw [if_pos (by omega)]; omega) | (rw [if_neg (by omega), if_pos (by omega)]; done) | (rw [if_neg (by omega), if_pos (by omega)]; omega) | (rw [if_neg (by omega), if_neg (by omega)])), rfl⟩
set_option maxHeartbeats 1000000 in
theorem c_impl_DecodeHex (s : ByteArray) (hs : s.size ≤ 1073741824) (w : World) :
    Calls Try.prog 16 #[.string s] w fun e w' => e = .returned (.tuple #[.string ((P.decHex s).getD (P.bs [])), .bool (P.decHex s).isSome]) ∧ Bel w w' := by
  by_cases hodd : s.size % 2 = 0
  · by_cases hbig : s.size / 2 ≤ 20000
    · obtain ⟨i0, hi, hz0, hz1, hz2⟩ := info_parts Try.info5
      have t1 : (s.size : Int) % 2 = 0 := by omega
      have t2 : ((s.size : Int) / 2 > 20000) = False := by simp; omega
      have t3 : ((s.size / 2 : Nat) : Int) = (s.size : Int) / 2 := by omega
      have hT := Lib.hid t3
      clear t3
      go_enter Try.func16, Try.ntmps16
      go_wp2_with (at_make; refine wpList_make_own _ rfl _ _ 65 rfl w.heap.size 5 i0 (.int .u8 0) 1 Try.underlying65 hi hz0 hz1 _ _ _ (s.size / 2) rfl rfl (by omega) (by rw [hz2]; omega) (by unfold maxLen; omega) (Nat.le_refl _) ?_; intro w0 hown0 hgrow0)
      have hb0 : Bel w w0 := (Bel.refl w).grown hgrow0 (fun k hk => by cases hk)
      clear hgrow0
      go_loopw [4, 5, 6, 7] (fun v j _ _ wr => ∃ (k : Nat) (l : List Int) (v' : Value), v' = v ∧ k ≤ s.size / 2 ∧ j = .int .i64 (2 * (k : Int)) ∧ Hid (P.decTo s k = some l) ∧ wr.ownsRow w.heap.size 5 1 v' k (l.map (Value.int .u8)) ∧ Bel w wr) (fun _ j _ _ _ => s.size + 1 - (intOf j).toNat)
      case atStart => exact ⟨0, [], _, rfl, Nat.zero_le _, rfl, Lib.hid rfl, hown0, hb0⟩
      case round =>
        obtain ⟨k, l, v', rfl, hk, rfl, hl, hown, hbel⟩ := hrel
        have hlen := P.decTo_length s k l hl.out
        by_cases hlt : k < s.size / 2
        · have h2 : 2 * k < s.size := by omega
          have h2' : 2 * k + 1 < s.size := by omega
          have h3 : 2 * (k : Int) < s.size := by omega
          have h3' : 2 * (k : Int) + 1 < s.size := by omega
          have h4 : (0 : Int) ≤ 2 * (k : Int) := by omega
          have h4' : (0 : Int) ≤ 2 * (k : Int) + 1 := by omega
          have e1 : IntKind.i64.wrap (2 * (k : Int) + 1) = 2 * (k : Int) + 1 := IntWalk.i64_in _ (by omega)
          have e2 : (2 * (k : Int) + 1).toNat = 2 * k + 1 := by omega
          have e3 : (2 * (k : Int)).toNat = 2 * k := by omega
          have q1 := P.hexVal_range (P.at8 s (2 * k))
          have q2 := P.hexVal_range (P.at8 s (2 * k + 1))
          have f1 : (s[2 * k].toNat : Int) = P.at8 s (2 * k) := P.at8_eq s _ _
          have f2 : (s[2 * k + 1].toNat : Int) = P.at8 s (2 * k + 1) := P.at8_eq s _ _
          clear hlen
          go_wp2
          go_quiet ((go_at_call 50; exact Calls.quietS (c_impl_hexDigit _ (P.at8_range _ _) _)))
          have hown' : (wr.drewN nq).ownsRow w.heap.size 5 1 v' k (l.map (Value.int .u8)) := hown
          have hbel' : Bel w (wr.drewN nq) := hbel.drewN _
          have HD := Lib.hid (P.decHex_bad s k hlt)
          have HG := Lib.hid (P.decTo_good s k l hl.out)
          clear f1 f2 hown hbel
          generalize wr.drewN nq = W at hown' hbel' ⊢
          by_cases ha : P.hexVal (P.at8 s (2 * k)) < 0
          · go_wp2
            go_ret2
            exact ⟨ret_sb (by rw [HD.out (.inl ha)]; rfl) (by rw [HD.out (.inl ha)]; rfl), hbel'⟩
          · by_cases hb : P.hexVal (P.at8 s (2 * k + 1)) < 0
            · go_wp2
              go_ret2
              exact ⟨ret_sb (by rw [HD.out (.inr hb)]; rfl) (by rw [HD.out (.inr hb)]; rfl), hbel'⟩
            · have h63 : k + 1 ≤ maxLen := by unfold maxLen; omega
              have hby : (k + 1) * 1 ≤ 140737488355328 := by omega
              have hba : w.heap.size ≤ (W.alloc (.cells #[.int .u8 (P.hexVal (P.at8 s (2 * k)) * 16 + P.hexVal (P.at8 s (2 * k + 1)))] 5)).heap.size := by have := hbel'.size; simp; omega
              go_wp2_with (at_builtin; refine wpList_append_lies _ rfl (.tmp 43) (.tmp 49) 65 rfl w.heap.size 5 i0 (.int .u8 0) 1 1 Try.underlying65 hi hz0 hz1 hz2 rfl Nat.one_pos v' k (l.map (Value.int .u8)) rfl (hown'.alloc _) ⟨W.heap.size, 0, none⟩ 1 1 [.int .u8 (P.hexVal (P.at8 s (2 * k)) * 16 + P.hexVal (P.at8 s (2 * k + 1)))] rfl rfl (news1 W _) (oneCell1 _) Nat.one_pos h63 hby hba _ rfl ?_; intro g1 cap1 w1 hown1 hgrow1 _ _)
              have hb1 : Bel w w1 := (hbel'.alloc _).grown hgrow1 (fun r hr => (World.ownsRow.lt hown' r hr).1)
              clear h63 hby hba hgrow1
              go_roundw
              case rel => exact ⟨k + 1, _, _, rfl, by omega, by congr 1, Lib.hid (HG.out ha hb), by simpa using hown1, hb1⟩
              case measure => simp [intOf]; omega
        · have : k = s.size / 2 := by omega
          subst this
          have hcv := conv_row wr _ _ _ l hlen.symm hown
          have HG := Lib.hid (P.decHex_good s l ⟨hodd, hbig⟩ hl.out)
          have hge : ¬ 2 * ((s.size / 2 : Nat) : Int) < s.size := by omega
          go_wp2
          go_ret2
          exact ⟨ret_sb (by rw [HG.out]; rfl) (by rw [HG.out]; rfl), hbel⟩
    · have HD := P.decHex_out s (by omega)
      rw [HD]
      have t1 : (s.size : Int) % 2 = 0 := by omega
      have t2 : (s.size : Int) / 2 > 20000 := by omega
      go_enter Try.func16, Try.ntmps16
      go_wp2
      go_ret2
      exact ⟨ret_sb rfl rfl, Bel.refl _⟩
  · have HD := P.decHex_out s (by omega)
    rw [HD]
    have t1 : (s.size : Int) % 2 = 1 := by omega
    go_enter Try.func16, Try.ntmps16
    go_wp2
    go_ret2
    exact ⟨ret_sb rfl rfl, Bel.refl _⟩
theorem c_spec_l01Value (b : Int) (hb : 0 ≤ b ∧ b ≤ 255) (w : World) :
    Calls Try.prog 49 #[.int .u8 b] w fun e w' => e = .returned (.int .i64 (P.hexVal b)) ∧ w = w' := by
  go_enter Try.func49, Try.ntmps49
  go_wp2
  all_goals go_ret
  all_goals exact ⟨ret_int (by unfold P.hexVal; first | (rw [if_pos (by omega)]; done) | (rw [if_pos (by omega)]; omega) | (rw [if_neg (by omega), if_pos (by omega)]; done) | (rw [if_neg (by omega), if_pos (by omega)]; omega) | (rw [if_neg (by omega), if_neg (by omega)])), rfl⟩
set_option maxHeartbeats 1000000 in
theorem c_spec_DecodeHex (s : ByteArray) (hs : s.size ≤ 1073741824) (w : World) :
    Calls Try.prog 15 #[.string s] w fun e w' => e = .returned (.tuple #[.string ((P.decHex s).getD (P.bs [])), .bool (P.decHex s).isSome]) ∧ Bel w w' := by
  by_cases hodd : s.size % 2 = 0
  · by_cases hbig : s.size / 2 ≤ 20000
    · obtain ⟨i0, hi, hz0, hz1, hz2⟩ := info_parts Try.info5
      have t1 : (s.size : Int) % 2 = 0 := by omega
      have t2 : ((s.size : Int) > 40000) = False := by simp; omega
      go_enter Try.func15, Try.ntmps15
      go_wp2
      clear t1 t2
      have hown0 : (w.alloc (.cells #[] 5)).ownsRow w.heap.size 5 1 (.slice (some ⟨w.heap.size, 0, none⟩) 0 0) 0 [] := World.ownsRow_lit w #[] 0 (Nat.le_refl _) (by unfold maxLen; omega) rfl
      have hb0 : Bel w (w.alloc (.cells #[] 5)) := (Bel.refl w).alloc _
      go_loopw [4, 5, 6, 7] (fun v j _ _ wr => ∃ (k : Nat) (l : List Int) (v' : Value), v' = v ∧ k ≤ s.size / 2 ∧ j = .int .i64 (2 * (k : Int)) ∧ Hid (P.decTo s k = some l) ∧ wr.ownsRow w.heap.size 5 1 v' k (l.map (Value.int .u8)) ∧ Bel w wr) (fun _ j _ _ _ => s.size + 1 - (intOf j).toNat)
      case atStart => exact ⟨0, [], _, rfl, Nat.zero_le _, rfl, Lib.hid rfl, hown0, hb0⟩
      case round =>
        obtain ⟨k, l, v', rfl, hk, rfl, hl, hown, hbel⟩ := hrel
        have hlen := P.decTo_length s k l hl.out
        by_cases hlt : k < s.size / 2
        · have h2 : 2 * k < s.size := by omega
          have h2' : 2 * k + 1 < s.size := by omega
          have h3 : 2 * (k : Int) < s.size := by omega
          have h3' : 2 * (k : Int) + 1 < s.size := by omega
          have h4 : (0 : Int) ≤ 2 * (k : Int) := by omega
          have h4' : (0 : Int) ≤ 2 * (k : Int) + 1 := by omega
          have e1 : IntKind.i64.wrap (2 * (k : Int) + 1) = 2 * (k : Int) + 1 := IntWalk.i64_in _ (by omega)
          have e2 : (2 * (k : Int) + 1).toNat = 2 * k + 1 := by omega
          have e3 : (2 * (k : Int)).toNat = 2 * k := by omega
          have q1 := P.hexVal_range (P.at8 s (2 * k))
          have q2 := P.hexVal_range (P.at8 s (2 * k + 1))
          have f1 : (s[2 * k].toNat : Int) = P.at8 s (2 * k) := P.at8_eq s _ _
          have f2 : (s[2 * k + 1].toNat : Int) = P.at8 s (2 * k + 1) := P.at8_eq s _ _
          clear hlen
          have e5 : (16 : Int) * P.hexVal (P.at8 s (2 * k)) = P.hexVal (P.at8 s (2 * k)) * 16 := Int.mul_comm _ _
          have r1 := P.at8_range s (2 * k)
          have r2 := P.at8_range s (2 * k + 1)
          have HD := Lib.hid (P.decHex_bad s k hlt)
          have HG := Lib.hid (P.decTo_good s k l hl.out)
          by_cases ha : P.hexVal (P.at8 s (2 * k)) < 0
          · go_wp2_with (go_at_call 49; (first | (with_reducible refine (c_spec_l01Value (P.at8 s (2 * k)) r1 _).mono ?_) | (with_reducible refine (c_spec_l01Value (P.at8 s (2 * k + 1)) r2 _).mono ?_)); rintro e w' ⟨rfl, rfl⟩)
            go_ret2
            exact ⟨ret_sb (by rw [HD.out (.inl ha)]; rfl) (by rw [HD.out (.inl ha)]; rfl), hbel⟩
          · by_cases hb : P.hexVal (P.at8 s (2 * k + 1)) < 0
            · go_wp2_with (go_at_call 49; (first | (with_reducible refine (c_spec_l01Value (P.at8 s (2 * k)) r1 _).mono ?_) | (with_reducible refine (c_spec_l01Value (P.at8 s (2 * k + 1)) r2 _).mono ?_)); rintro e w' ⟨rfl, rfl⟩)
              go_ret2
              exact ⟨ret_sb (by rw [HD.out (.inr hb)]; rfl) (by rw [HD.out (.inr hb)]; rfl), hbel⟩
            · have h63 : k + 1 ≤ maxLen := by unfold maxLen; omega
              have hby : (k + 1) * 1 ≤ 140737488355328 := by omega
              have hba : w.heap.size ≤ (wr.alloc (.cells #[.int .u8 (P.hexVal (P.at8 s (2 * k)) * 16 + P.hexVal (P.at8 s (2 * k + 1)))] 5)).heap.size := by have := hbel.size; simp; omega
              go_wp2_with (first | (go_at_call 49; (first | (with_reducible refine (c_spec_l01Value (P.at8 s (2 * k)) r1 _).mono ?_) | (with_reducible refine (c_spec_l01Value (P.at8 s (2 * k + 1)) r2 _).mono ?_)); rintro e w' ⟨rfl, rfl⟩) | (at_builtin; refine wpList_append_lies _ rfl (.tmp 39) (.tmp 45) 65 rfl w.heap.size 5 i0 (.int .u8 0) 1 1 Try.underlying65 hi hz0 hz1 hz2 rfl Nat.one_pos v' k (l.map (Value.int .u8)) rfl (hown.alloc _) ⟨wr.heap.size, 0, none⟩ 1 1 [.int .u8 (P.hexVal (P.at8 s (2 * k)) * 16 + P.hexVal (P.at8 s (2 * k + 1)))] rfl rfl (news1 wr _) (oneCell1 _) Nat.one_pos h63 hby hba _ rfl ?_; intro g1 cap1 w1 hown1 hgrow1 _ _))
              have hb1 : Bel w w1 := (hbel.alloc _).grown hgrow1 (fun r hr => (World.ownsRow.lt hown r hr).1)
              clear h63 hby hba hgrow1
              go_roundw
              case rel =>
                have hfin : w1.ownsRow w.heap.size 5 1 (.slice (some ⟨g1, 0, none⟩) (k + 1) cap1) (k + 1) ((l ++ [P.hexVal (P.at8 s (2 * k)) * 16 + P.hexVal (P.at8 s (2 * k + 1))]).map (Value.int .u8)) := by simpa using hown1
                first | exact ⟨k + 1, _, _, rfl, by omega, by congr 1, Lib.hid (HG.out ha hb), hfin, hb1⟩ | ((repeat apply Exists.intro); exact ⟨⟨k + 1, _, _, rfl, by omega, by congr 1, Lib.hid (HG.out ha hb), hfin, hb1⟩, rfl⟩)
              case measure => simp [intOf]; omega
        · have : k = s.size / 2 := by omega
          subst this
          have hcv := conv_row wr _ _ _ l hlen.symm hown
          have HG := Lib.hid (P.decHex_good s l ⟨hodd, hbig⟩ hl.out)
          have hge : ¬ 2 * ((s.size / 2 : Nat) : Int) < s.size := by omega
          go_wp2
          go_ret2
          exact ⟨ret_sb (by rw [HG.out]; rfl) (by rw [HG.out]; rfl), hbel⟩
    · have HD := P.decHex_out s (by omega)
      rw [HD]
      have t2 : (s.size : Int) > 40000 := by omega
      go_enter Try.func15, Try.ntmps15
      go_wp2
      go_ret2
      exact ⟨ret_sb rfl rfl, Bel.refl _⟩
  · have HD := P.decHex_out s (by omega)
    rw [HD]
    have t1 : (s.size : Int) % 2 = 1 := by omega
    go_enter Try.func15, Try.ntmps15
    go_wp2
    all_goals go_ret2
    all_goals exact ⟨ret_sb rfl rfl, Bel.refl _⟩
end Go.Proofs.Ytkonedmmihlblaa
