/-
  The contracts of chapter 1: numbers and texts.
-/
import Derived.Test.YtoikpdijkdmimaaDoorBase
namespace Go.Proofs.YtoikpdijkdmimaaDoor
open Go.RowKit
set_option linter.unusedVariables false

theorem replicate_set {α : Type} (x y : α) (k n : Nat) (h : k < n) : (List.replicate k x ++ List.replicate (n - k) y).set k x = List.replicate (k + 1) x ++ List.replicate (n - (k + 1)) y := by
  have e : n - k = (n - (k + 1)) + 1 := by omega
  rw [e, List.replicate_succ, List.set_append_right _ _ (by simp), List.replicate_succ']
  simp

theorem c_spec_l01Long (n : Nat) (b : Int) (hb : 0 ≤ b ∧ b ≤ 255) (hn : n ≤ 1073741824) (w : World) :
    Calls Tryd.prog 25 #[.int .i64 n, .int .u8 b] w fun e w' => e = .returned (.string (P.rep b n)) ∧ Bel w w' := by
  obtain ⟨i0, hi, hz0, hz1, hz2⟩ := info_parts Tryd.info5
  go_enter Tryd.func25, Tryd.ntmps25
  go_wp2_with (at_make; refine wpList_make_full _ rfl _ _ 24 rfl w.heap.size 5 i0 (.int .u8 0) 1 Tryd.underlying24 hi hz0 hz1 _ _ _ _ n rfl rfl rfl rfl (by rw [hz2]; omega) (by unfold maxLen; omega) (Nat.le_refl _) ?_; intro w0 hown0 hgrow0)
  have hb0 : Bel w w0 := (Bel.refl w).grown hgrow0 (fun k hk => by cases hk)
  clear hgrow0
  go_loopw [6] (fun j wr => ∃ k : Nat, k ≤ n ∧ j = .int .i64 k ∧ wr.ownsRow w.heap.size 5 1 (.slice (some ⟨w.heap.size, 0, none⟩) n n) n (List.replicate k (.int .u8 b) ++ List.replicate (n - k) (.int .u8 0)) ∧ Bel w wr) (fun j _ => n - (intOf j).toNat)
  case atStart => exact ⟨0, Nat.zero_le _, rfl, by simpa [Value.cells, toList_madeCells_one] using hown0, hb0⟩
  case round =>
    obtain ⟨k, hk, rfl, hown, hbel⟩ := hrel
    by_cases hlt : k < n
    · have hc : wr.cell? ⟨w.heap.size, k, none⟩ = some (.int .u8 0) := by
        rw [hown.cellAt k (by omega), List.getElem?_append_right (by simp), List.length_replicate, Nat.sub_self, List.getElem?_replicate, if_pos (by omega)]
      have hf := hown.frozenAt k
      have hst := hown.stored k (.int .u8 b)
      have HO := Lib.hid hown
      have HST := Lib.hid hst
      clear hown hst
      go_wp2
      go_roundw
      case rel => exact ⟨k + 1, by omega, by go_num, by rw [← replicate_set _ _ k n hlt]; exact HST.out.1, hbel.setCell (Nat.le_refl _) _⟩
      case measure => simp [intOf]; omega
    · have : k = n := by omega
      subst this
      have hcv := conv_row wr _ _ k (List.replicate k b) (by simp) (by simpa using hown)
      go_wp2
      go_ret
      exact ⟨ret_str (by simp [P.rep]), hbel⟩
theorem digit_at (w : World) (d : Nat) (h : d < 16) : (Instr.index 9 (.string ⟨#[48, 49, 50, 51, 52, 53, 54, 55, 56, 57, 97, 98, 99, 100, 101, 102]⟩) (.int .u8 (d : Int))).run Tryd.prog w = .ok (.int .u8 (P.fig (d : Int))) w := by
  rw [run_index_string w _ _ _ _ Tryd.underlying9, dif_pos ⟨by omega, by show (d : Int) < 16; omega⟩, ← P.fig_digits d h]
  rfl
theorem c_impl_EncodeHex (s : ByteArray) (hs : s.size ≤ 1073741824) (w : World) :
    Calls Tryd.prog 13 #[.string s] w fun e w' => e = .returned (.tuple #[.string (P.encodeHex s), .bool (decide (s.size ≤ 20000))]) ∧ Bel w w' := by
  by_cases hbig : s.size ≤ 20000
  · obtain ⟨i0, hi, hz0, hz1, hz2⟩ := info_parts Tryd.info5
    go_enter Tryd.func13, Tryd.ntmps13
    go_wp2_with (at_make; refine wpList_make_own _ rfl _ _ 24 rfl w.heap.size 5 i0 (.int .u8 0) 1 Tryd.underlying24 hi hz0 hz1 _ _ _ (2 * s.size) rfl rfl (by omega) (by rw [hz2]; omega) (by unfold maxLen; omega) (Nat.le_refl _) ?_; intro w0 hown0 hgrow0)
    have hb0 : Bel w w0 := (Bel.refl w).grown hgrow0 (fun k hk => by cases hk)
    clear hgrow0
    go_loopw [4, 5] (fun v j wr => ∃ (k : Nat) (v' : Value), v' = v ∧ k ≤ s.size ∧ j = .int .i64 k ∧ wr.ownsRow w.heap.size 5 1 v' (2 * k) ((P.hexTo s k).map (Value.int .u8)) ∧ Bel w wr) (fun _ j _ => s.size - (intOf j).toNat)
    case atStart => exact ⟨0, _, rfl, Nat.zero_le _, rfl, hown0, hb0⟩
    case round =>
      obtain ⟨k, v', rfl, hk, rfl, hown, hbel⟩ := hrel
      by_cases hlt : k < s.size
      · have h3 : (k : Int) < s.size := by omega
        have h4 : (0 : Int) ≤ k := by omega
        have hb := P.at8n_lt s k
        have f1 : ∀ (wx : World), (Instr.index 9 (.string ⟨#[48, 49, 50, 51, 52, 53, 54, 55, 56, 57, 97, 98, 99, 100, 101, 102]⟩) (.int .u8 ((s[k].toNat : Int) / 16))).run Tryd.prog wx = .ok (.int .u8 (P.fig (P.at8 s k / 16))) wx := fun wx => by
          rw [P.at8_eq, show P.at8 s k / 16 = ((P.at8n s k / 16 : Nat) : Int) from by unfold P.at8; omega]
          exact digit_at wx (P.at8n s k / 16) (by omega)
        have f2 : ∀ (wx : World), (Instr.index 9 (.string ⟨#[48, 49, 50, 51, 52, 53, 54, 55, 56, 57, 97, 98, 99, 100, 101, 102]⟩) (.int .u8 (bits .and .u8 (s[k].toNat : Int) 15))).run Tryd.prog wx = .ok (.int .u8 (P.fig (P.at8 s k % 16))) wx := fun wx => by
          rw [P.at8n_eq, P.and15 _ hb, show ((P.at8n s k : Nat) : Int) % 16 = ((P.at8n s k % 16 : Nat) : Int) from by omega, show P.at8 s k % 16 = ((P.at8n s k % 16 : Nat) : Int) from by unfold P.at8; omega]
          exact digit_at wx (P.at8n s k % 16) (by omega)
        clear hb
        go_wp2
        have hnews : ∀ (j : Nat) (u : Value), [Value.int .u8 (P.fig (P.at8 s k / 16)), Value.int .u8 (P.fig (P.at8 s k % 16))][j]? = some u → (wr.alloc (.cells #[.int .u8 (P.fig (P.at8 s k / 16)), .int .u8 (P.fig (P.at8 s k % 16))] 5)).cell? ((⟨wr.heap.size, 0, none⟩ : Addr).add j) = some u := fun j u hu => World.news_of_block (w := wr.alloc (.cells #[.int .u8 (P.fig (P.at8 s k / 16)), .int .u8 (P.fig (P.at8 s k % 16))] 5)) (heap_alloc_new wr _) j u hu
        have h1c : ∀ u ∈ [Value.int .u8 (P.fig (P.at8 s k / 16)), Value.int .u8 (P.fig (P.at8 s k % 16))], u.oneCell' = true := by simp [Value.oneCell']
        have h63 : 2 * k + 2 ≤ maxLen := by unfold maxLen; omega
        have hby : (2 * k + 2) * 1 ≤ 140737488355328 := by omega
        have hba : w.heap.size ≤ (wr.alloc (.cells #[.int .u8 (P.fig (P.at8 s k / 16)), .int .u8 (P.fig (P.at8 s k % 16))] 5)).heap.size := by have := hbel.size; simp; omega
        go_region_law ((refine step_append_lies _ rfl (.tmp 19) (.tmp 30) 24 rfl w.heap.size 5 i0 (.int .u8 0) 1 1 Tryd.underlying24 hi hz0 hz1 hz2 rfl Nat.one_pos v' (2 * k) ((P.hexTo s k).map (Value.int .u8)) rfl (hown.alloc _) ⟨wr.heap.size, 0, none⟩ 2 2 [.int .u8 (P.fig (P.at8 s k / 16)), .int .u8 (P.fig (P.at8 s k % 16))] rfl rfl hnews h1c Nat.two_pos h63 hby hba _ rfl ?_; intro g1 cap1 w1 hown1 hgrow1 _ _))
        all_goals
          have hb1 : Bel w w1 := (hbel.alloc _).drew.grown hgrow1 (fun r hr => (World.ownsRow.lt hown r hr).1)
          clear hnews h1c h63 hby hba hgrow1
          go_wp2
          go_roundw
          case rel => exact ⟨k + 1, _, rfl, by omega, by go_num, by simpa [P.hexTo, Nat.mul_add] using hown1, hb1⟩
          case measure => simp [intOf]; omega
      · have : k = s.size := by omega
        subst this
        have hcv := conv_row wr _ _ _ (P.hexTo s s.size) (P.hexTo_length s _).symm hown
        go_wp2
        go_ret2
        exact ⟨ret_sb (by unfold P.encodeHex; rw [if_pos hbig]) (by simp [hbig]), hbel⟩
  · go_enter Tryd.func13, Tryd.ntmps13
    go_wp2
    go_ret2
    exact ⟨ret_sb (by unfold P.encodeHex; rw [if_neg hbig]; rfl) (by simp [hbig]), Bel.refl _⟩
theorem c_spec_l01Figure (x : Int) (h : 0 ≤ x ∧ x ≤ 15) (w : World) :
    Calls Tryd.prog 19 #[.int .i64 x] w fun e w' => e = .returned (.int .u8 (P.fig x)) ∧ w = w' := by
  by_cases h0 : x < 10
  · go_enter Tryd.func19, Tryd.ntmps19
    go_wp2
    go_ret
    exact ⟨ret_int (by unfold P.fig; rw [if_pos h0]), rfl⟩
  · go_enter Tryd.func19, Tryd.ntmps19
    go_wp2
    go_ret
    exact ⟨ret_int (by unfold P.fig; rw [if_neg (by omega)]; omega), rfl⟩
theorem c_impl_hexDigit (b : Int) (hb : 0 ≤ b ∧ b ≤ 255) (w : World) :
    Calls Tryd.prog 27 #[.int .u8 b] w fun e w' => e = .returned (.int .i64 (P.hexVal b)) ∧ w = w' := by
  go_enter Tryd.func27, Tryd.ntmps27
  go_wp2
  all_goals go_ret
  all_goals exact ⟨ret_int (by unfold P.hexVal; first | (rw [if_pos (by omega)]; done) | (rw [if_pos (by omega)]; omega) | (rw [if_neg (by omega), if_pos (by omega)]; done) | (rw [if_neg (by omega), if_pos (by omega)]; omega) | (rw [if_neg (by omega), if_neg (by omega)])), rfl⟩
set_option maxHeartbeats 1000000 in
theorem c_impl_DecodeHex (s : ByteArray) (hs : s.size ≤ 1073741824) (w : World) :
    Calls Tryd.prog 14 #[.string s] w fun e w' => e = .returned (.tuple #[.string ((P.decHex s).getD (P.bs [])), .bool (P.decHex s).isSome]) ∧ Bel w w' := by
  by_cases hodd : s.size % 2 = 0
  · by_cases hbig : s.size / 2 ≤ 20000
    · obtain ⟨i0, hi, hz0, hz1, hz2⟩ := info_parts Tryd.info5
      have t1 : (s.size : Int) % 2 = 0 := by omega
      have t2 : ((s.size : Int) / 2 > 20000) = False := by simp; omega
      have t3 : ((s.size / 2 : Nat) : Int) = (s.size : Int) / 2 := by omega
      have hT := Lib.hid t3
      clear t3
      go_enter Tryd.func14, Tryd.ntmps14
      go_wp2_with (at_make; refine wpList_make_own _ rfl _ _ 24 rfl w.heap.size 5 i0 (.int .u8 0) 1 Tryd.underlying24 hi hz0 hz1 _ _ _ (s.size / 2) rfl rfl (by omega) (by rw [hz2]; omega) (by unfold maxLen; omega) (Nat.le_refl _) ?_; intro w0 hown0 hgrow0)
      have hb0 : Bel w w0 := (Bel.refl w).grown hgrow0 (fun k hk => by cases hk)
      clear hgrow0
      go_loopw [4, 5, 6, 7] (fun v j _ _ wr => ∃ (k : Nat) (l : List Int) (v' : Value), v' = v ∧ k ≤ s.size / 2 ∧ j = .int .i64 (2 * (k : Int)) ∧ Hid (P.decTo s k = some l) ∧ wr.ownsRow w.heap.size 5 1 v' k (l.map (Value.int .u8)) ∧ Bel w wr) (fun _ j _ _ _ => s.size + 1 - (intOf j).toNat)
      case atStart => exact ⟨0, [], _, rfl, Nat.zero_le _, rfl, Lib.hid rfl, hown0, hb0⟩
      case round =>
        obtain ⟨k, l, v', rfl, hk, rfl, hl, hown, hbel⟩ := hrel
        have hlen := P.decTo_length s k l hl.out
        by_cases hlt : k < s.size / 2
        · have h2 : 2 * k < s.size := by omega
          have h2' : 2 * k + 1 < s.size := by omega
          have h3 : 2 * (k : Int) < s.size := by omega
          have h3' : 2 * (k : Int) + 1 < s.size := by omega
          have h4 : (0 : Int) ≤ 2 * (k : Int) := by omega
          have h4' : (0 : Int) ≤ 2 * (k : Int) + 1 := by omega
          have e1 : IntKind.i64.wrap (2 * (k : Int) + 1) = 2 * (k : Int) + 1 := IntWalk.i64_in _ (by omega)
          have e2 : (2 * (k : Int) + 1).toNat = 2 * k + 1 := by omega
          have e3 : (2 * (k : Int)).toNat = 2 * k := by omega
          have q1 := P.hexVal_range (P.at8 s (2 * k))
          have q2 := P.hexVal_range (P.at8 s (2 * k + 1))
          have f1 : (s[2 * k].toNat : Int) = P.at8 s (2 * k) := P.at8_eq s _ _
          have f2 : (s[2 * k + 1].toNat : Int) = P.at8 s (2 * k + 1) := P.at8_eq s _ _
          clear hlen
          go_wp2
          go_quiet ((go_at_call 27; exact Calls.quietS (c_impl_hexDigit _ (P.at8_range _ _) _)))
          have hown' : (wr.drewN nq).ownsRow w.heap.size 5 1 v' k (l.map (Value.int .u8)) := hown
          have hbel' : Bel w (wr.drewN nq) := hbel.drewN _
          have HD := Lib.hid (P.decHex_bad s k hlt)
          have HG := Lib.hid (P.decTo_good s k l hl.out)
          clear f1 f2 hown hbel
          generalize wr.drewN nq = W at hown' hbel' ⊢
          by_cases ha : P.hexVal (P.at8 s (2 * k)) < 0
          · go_wp2
            go_ret2
            exact ⟨ret_sb (by rw [HD.out (.inl ha)]; rfl) (by rw [HD.out (.inl ha)]; rfl), hbel'⟩
          · by_cases hb : P.hexVal (P.at8 s (2 * k + 1)) < 0
            · go_wp2
              go_ret2
              exact ⟨ret_sb (by rw [HD.out (.inr hb)]; rfl) (by rw [HD.out (.inr hb)]; rfl), hbel'⟩
            · have h63 : k + 1 ≤ maxLen := by unfold maxLen; omega
              have hby : (k + 1) * 1 ≤ 140737488355328 := by omega
              have hba : w.heap.size ≤ (W.alloc (.cells #[.int .u8 (P.hexVal (P.at8 s (2 * k)) * 16 + P.hexVal (P.at8 s (2 * k + 1)))] 5)).heap.size := by have := hbel'.size; simp; omega
              go_wp2_with (at_builtin; refine wpList_append_lies _ rfl (.tmp 43) (.tmp 49) 24 rfl w.heap.size 5 i0 (.int .u8 0) 1 1 Tryd.underlying24 hi hz0 hz1 hz2 rfl Nat.one_pos v' k (l.map (Value.int .u8)) rfl (hown'.alloc _) ⟨W.heap.size, 0, none⟩ 1 1 [.int .u8 (P.hexVal (P.at8 s (2 * k)) * 16 + P.hexVal (P.at8 s (2 * k + 1)))] rfl rfl (news1 W _) (oneCell1 _) Nat.one_pos h63 hby hba _ rfl ?_; intro g1 cap1 w1 hown1 hgrow1 _ _)
              have hb1 : Bel w w1 := (hbel'.alloc _).grown hgrow1 (fun r hr => (World.ownsRow.lt hown' r hr).1)
              clear h63 hby hba hgrow1
              go_roundw
              case rel => exact ⟨k + 1, _, _, rfl, by omega, by congr 1, Lib.hid (HG.out ha hb), by simpa using hown1, hb1⟩
              case measure => simp [intOf]; omega
        · have : k = s.size / 2 := by omega
          subst this
          have hcv := conv_row wr _ _ _ l hlen.symm hown
          have HG := Lib.hid (P.decHex_good s l ⟨hodd, hbig⟩ hl.out)
          have hge : ¬ 2 * ((s.size / 2 : Nat) : Int) < s.size := by omega
          go_wp2
          go_ret2
          exact ⟨ret_sb (by rw [HG.out]; rfl) (by rw [HG.out]; rfl), hbel⟩
    · have HD := P.decHex_out s (by omega)
      rw [HD]
      have t1 : (s.size : Int) % 2 = 0 := by omega
      have t2 : (s.size : Int) / 2 > 20000 := by omega
      go_enter Tryd.func14, Tryd.ntmps14
      go_wp2
      go_ret2
      exact ⟨ret_sb rfl rfl, Bel.refl _⟩
  · have HD := P.decHex_out s (by omega)
    rw [HD]
    have t1 : (s.size : Int) % 2 = 1 := by omega
    go_enter Tryd.func14, Tryd.ntmps14
    go_wp2
    go_ret2
    exact ⟨ret_sb rfl rfl, Bel.refl _⟩
end Go.Proofs.YtoikpdijkdmimaaDoor
