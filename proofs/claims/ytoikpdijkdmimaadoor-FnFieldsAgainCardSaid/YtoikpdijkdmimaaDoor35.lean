/-
  The contracts of SplitFields: the fields of a line.
-/
import Derived.Test.YtoikpdijkdmimaaDoor33
namespace Go.Proofs.YtoikpdijkdmimaaDoor
open Go.RowKit
set_option linter.unusedVariables false

theorem Tryd.infoStr : (Tryd.prog.info? 9).map (fun i => (i.zero, i.size, i.bytes)) = some (some (.string ⟨#[]⟩), 1, 16) := by kernel_rfl
theorem newsS (w : World) (s : ByteArray) : ∀ (j : Nat) (u : Value), [Value.string s][j]? = some u → (w.alloc (.cells #[.string s] 9)).cell? ((⟨w.heap.size, 0, none⟩ : Addr).add j) = some u :=
  fun j u hu => World.news_of_block (w := w.alloc (.cells #[.string s] 9)) (heap_alloc_new w _) j u hu
theorem oneCellS (s : ByteArray) : ∀ u ∈ [Value.string s], u.oneCell' = true := by simp [Value.oneCell']
theorem ret_vb {v : Value} {x y : Bool} (h : x = y) : Ending.returned (.tuple #[v, .bool x]) = .returned (.tuple #[v, .bool y]) := by rw [h]
theorem P.sfL_length (s : ByteArray) : (P.sfL s).length ≤ 24 := by
  unfold P.sfL
  split
  · rename_i h
    simp only [P.sfOk, Bool.and_eq_true, decide_eq_true_eq] at h
    exact h.2
  · simp
/-- no strings, in any world -/
theorem ownsNil (w : World) (base : Nat) : w.ownsRow base 9 1 (.slice none 0 0) 0 [] := ⟨rfl, .inl ⟨rfl, rfl⟩⟩
/-- what SplitFields comes to -/
def Split (s : ByteArray) (w : World) (e : Ending) (w' : World) : Prop :=
  ∃ v, e = .returned (.tuple #[v, .bool (P.sfOk s)]) ∧ w'.ownsRow w.heap.size 9 1 v (P.sfL s).length ((P.sfL s).map Value.string) ∧ Bel w w'
theorem split_no {s : ByteArray} {w w' : World} {v : Value} (h : P.sfL s = [] ∧ P.sfOk s = false) (ho : w'.ownsRow w.heap.size 9 1 v 0 []) (hb : Bel w w') : Split s w (.returned (.tuple #[v, .bool false])) w' :=
  ⟨v, by rw [h.2], by rw [h.1]; exact ho, hb⟩
theorem split_yes {s : ByteArray} {w w' : World} {v : Value} {n : Nat} {L : List ByteArray} (h : P.sfL s = L ∧ P.sfOk s = true) (ho : w'.ownsRow w.heap.size 9 1 v n (L.map Value.string)) (hb : Bel w w') : Split s w (.returned (.tuple #[v, .bool true])) w' := by
  have hl : L.length = n := by simpa using ho.1
  subst hl
  exact ⟨v, by rw [h.2], by rw [h.1]; exact ho, hb⟩
theorem owns_slice {w : World} {base : Nat} {e : TypeId} {size : Nat} {v : Value} {n : Nat} {xs : List Value} (h : w.ownsRow base e size v n xs) : ∃ (pa : Option Addr) (ca : Nat), v = .slice pa n ca := by
  rcases h.2 with ⟨hv, hn⟩ | ⟨g, cap, cur, hv, _⟩
  · exact ⟨none, 0, by rw [hv, hn]⟩
  · exact ⟨_, cap, hv⟩
set_option maxHeartbeats 4000000 in
theorem c_impl_SplitFields (s : ByteArray) (hs : s.size ≤ 1073741824) (w : World) :
    Calls Tryd.prog 16 #[.string s] w (Split s w) := by
  by_cases hlen : s.size ≤ 600
  · have h600 : ¬ (600 : Int) < s.size := by omega
    obtain ⟨i0, hi, hz0, hz1, hz2⟩ := info_parts Tryd.infoStr
    go_enter Tryd.func16, Tryd.ntmps16
    go_wp2
    go_loopw [4] (fun i wr => ∃ k : Nat, k ≤ s.size ∧ i = .int .i64 k ∧ P.prt s k = true ∧ wr = w) (fun i _ => s.size - (intOf i).toNat)
    case atStart => exact ⟨0, Nat.zero_le _, rfl, rfl, rfl⟩
    case round =>
      obtain ⟨k, hk, rfl, hp, rfl⟩ := hrel
      by_cases hlt : k < s.size
      · have f1 : (s[k].toNat : Int) = P.at8 s k := P.at8_eq s k hlt
        have q1 := P.at8_range s k
        have e : P.at8 s k = (P.at8n s k : Int) := rfl
        have h3 : (k : Int) < s.size := by omega
        by_cases hgood : 32 ≤ P.at8n s k ∧ P.at8n s k ≤ 126
        · have HP := Lib.hid (P.prt_next s k hp hgood)
          have g1 : ¬ P.at8 s k < 32 := by omega
          have g2 : ¬ 126 < P.at8 s k := by omega
          clear e hgood
          go_wp2
          go_roundw
          case rel => exact ⟨k + 1, by omega, by go_num, HP.out, trivial⟩
          case measure => simp [intOf]; omega
        · have HN := Lib.hid (P.sf_no s (.inr (.inl (P.prt_no s s.size k hlt hgood))))
          by_cases g1 : P.at8 s k < 32
          · clear e hgood
            go_wp2
            go_ret2
            exact split_no HN.out (ownsNil _ _) (Bel.refl _)
          · have g2 : 126 < P.at8 s k := by omega
            clear e hgood
            go_wp2
            go_ret2
            exact split_no HN.out (ownsNil _ _) (Bel.refl _)
      · obtain rfl : k = s.size := by omega
        have HP := Lib.hid hp
        clear hp
        have hown0 : (wr.alloc (.cells #[] 9)).ownsRow wr.heap.size 9 1 (.slice (some ⟨wr.heap.size, 0, none⟩) 0 0) 0 [] := World.ownsRow_lit wr #[] 0 (Nat.le_refl _) (by unfold maxLen; omega) rfl
        have hb0 : Bel wr (wr.alloc (.cells #[] 9)) := (Bel.refl wr).alloc _
        obtain ⟨W, rfl⟩ : ∃ W : World, W = wr := ⟨_, rfl⟩
        go_wp2
        go_loopw [5, 6, 7] (fun v i _ wr => ∃ (k n : Nat) (v' : Value) (L : List ByteArray), v' = v ∧ k ≤ s.size ∧ i = .int .i64 k ∧ n ≤ k ∧ Hid (L = P.fin s k ∧ (P.beg s k = k ∨ P.sep s k = true)) ∧ wr.ownsRow W.heap.size 9 1 v' n (L.map Value.string) ∧ Bel W wr) (fun _ i _ _ => s.size - (intOf i).toNat)
        case atStart => exact ⟨0, 0, _, [], rfl, Nat.zero_le _, rfl, Nat.zero_le _, Lib.hid ⟨rfl, .inl rfl⟩, hown0, hb0⟩
        case round =>
          obtain ⟨k, n, v', L, rfl, hk, rfl, hn, hL, hown, hbel⟩ := hrel
          by_cases hlt : k < s.size
          · have f1 : (s[k].toNat : Int) = P.at8 s k := P.at8_eq s k hlt
            have e : P.at8 s k = (P.at8n s k : Int) := rfl
            have h3 : (k : Int) < s.size := by omega
            by_cases hsp : P.at8n s k = 32
            · have HS := Lib.hid (show P.sep s k = true by rw [P.sep_at s k hlt]; exact decide_eq_true hsp)
              have g1 : P.at8 s k = 32 := by omega
              clear e hsp
              go_wp2
              go_roundw
              case rel => exact ⟨k + 1, n, _, L, rfl, by omega, by go_num, by omega, Lib.hid ⟨by rw [P.fin_next s k HS.out]; exact hL.out.1, .inl (P.fld_sep s k HS.out).2⟩, hown, hbel⟩
              case measure => simp [intOf]; omega
            · have HS := Lib.hid (show P.sep s k = false by rw [P.sep_at s k hlt]; exact decide_eq_false hsp)
              have HB := Lib.hid (show P.beg s k = k from hL.out.2.resolve_right (by rw [HS.out]; decide))
              have HF := Lib.hid (show L = P.fld s k from hL.out.1.trans (P.fin_start s k HB.out))
              have g1 : (P.at8 s k == 32) = false := beq_eq_false_iff_ne.2 (by omega)
              clear e hL
              go_wp2
              obtain ⟨wo, rfl⟩ : ∃ wo : World, wo = wr := ⟨_, rfl⟩
              go_loopw [6] (fun i wr => ∃ j : Nat, k ≤ j ∧ j ≤ s.size ∧ i = .int .i64 j ∧ Hid (P.fld s j = P.fld s k ∧ P.beg s j = k) ∧ wr = wo) (fun i _ => s.size - (intOf i).toNat)
              case atStart => exact ⟨k, Nat.le_refl _, hk, rfl, Lib.hid ⟨rfl, HB.out⟩, rfl⟩
              case round =>
                obtain ⟨j, hkj, hj, rfl, hJ, rfl⟩ := hrel
                by_cases hjs : j < s.size ∧ ¬ P.at8n s j = 32
                · obtain ⟨hjl, hj32⟩ := hjs
                  have f2 : (s[j].toNat : Int) = P.at8 s j := P.at8_eq s j hjl
                  have h4 : (j : Int) < s.size := by omega
                  have e2 : P.at8 s j = (P.at8n s j : Int) := rfl
                  have g2 : (P.at8 s j == 32) = false := beq_eq_false_iff_ne.2 (by omega)
                  have HI := Lib.hid (P.fld_in s j (by rw [P.sep_at s j hjl]; exact decide_eq_false hj32))
                  clear e2
                  go_wp2
                  go_roundw
                  case rel => exact ⟨j + 1, by omega, by omega, by go_num, Lib.hid ⟨HI.out.1.trans hJ.out.1, HI.out.2.trans hJ.out.2⟩, trivial⟩
                  case measure => simp [intOf]; omega
                · have HS2 := Lib.hid (show P.sep s j = true by
                    by_cases hjl : j < s.size
                    · rw [P.sep_at s j hjl]; exact decide_eq_true (Classical.byContradiction fun hc => hjs ⟨hjl, hc⟩)
                    · rw [show j = s.size by omega]; exact P.sep_end s)
                  have hkj2 : k < j := by
                    rcases Nat.lt_or_ge k j with h | h
                    · exact h
                    · exfalso
                      have e3 : j = k := by omega
                      subst e3
                      have h1 := HS.out
                      rw [HS2.out] at h1
                      cases h1
                  have HF2 := Lib.hid (show L ++ [s.extract k j] = P.fin s j ∧ (P.beg s j = j ∨ P.sep s j = true) from ⟨by rw [P.fin_some s j (by rw [hJ.out.2]; exact hkj2), hJ.out.1, hJ.out.2, HF.out], .inr HS2.out⟩)
                  have h5 : (k : Int) ≤ j := by omega
                  have h6 : (j : Int) ≤ s.size := by omega
                  have h63 : n + 1 ≤ maxLen := by unfold maxLen; omega
                  have hby : (n + 1) * 16 ≤ 140737488355328 := by omega
                  have hba : W.heap.size ≤ (wr.alloc (.cells #[.string (s.extract k j)] 9)).heap.size := by have := hbel.size; simp; omega
                  by_cases hjl : j < s.size
                  · have f2 : (s[j].toNat : Int) = P.at8 s j := P.at8_eq s j hjl
                    have h4 : (j : Int) < s.size := by omega
                    have e2 : P.at8 s j = (P.at8n s j : Int) := rfl
                    have g2 : P.at8 s j = 32 := by
                      have := Classical.byContradiction fun hc => hjs ⟨hjl, hc⟩
                      omega
                    clear e2 hjs
                    go_wp2_with (at_builtin; refine wpList_append_lies _ rfl (.tmp 51) (.tmp 56) 32 rfl W.heap.size 9 i0 (.string ⟨#[]⟩) 1 16 Tryd.underlying32 hi hz0 hz1 hz2 rfl Nat.one_pos v' n (L.map Value.string) rfl (hown.alloc _) ⟨wr.heap.size, 0, none⟩ 1 1 [.string (s.extract k j)] rfl rfl (newsS wr _) (oneCellS _) Nat.one_pos h63 hby hba _ rfl ?_; intro g3 cap1 w2 hown2 hgrow2 _ _)
                    have hb2 : Bel W w2 := (hbel.alloc _).grown hgrow2 (fun r hr => (World.ownsRow.lt hown r hr).1)
                    have hown3 : w2.ownsRow W.heap.size 9 1 (.slice (some ⟨g3, 0, none⟩) (n + 1) cap1) (n + 1) ((L ++ [s.extract k j]).map Value.string) := by simpa using hown2
                    clear hgrow2 hown2 h63 hby hba hown hbel
                    go_roundw
                    case rel => exact ⟨j, n + 1, _, _, rfl, hj, rfl, by omega, HF2, hown3, hb2⟩
                    case measure => simp [intOf]; omega
                  · have h7 : ¬ (j : Int) < s.size := by omega
                    clear hjs
                    go_wp2_with (at_builtin; refine wpList_append_lies _ rfl (.tmp 51) (.tmp 56) 32 rfl W.heap.size 9 i0 (.string ⟨#[]⟩) 1 16 Tryd.underlying32 hi hz0 hz1 hz2 rfl Nat.one_pos v' n (L.map Value.string) rfl (hown.alloc _) ⟨wr.heap.size, 0, none⟩ 1 1 [.string (s.extract k j)] rfl rfl (newsS wr _) (oneCellS _) Nat.one_pos h63 hby hba _ rfl ?_; intro g3 cap1 w2 hown2 hgrow2 _ _)
                    have hb2 : Bel W w2 := (hbel.alloc _).grown hgrow2 (fun r hr => (World.ownsRow.lt hown r hr).1)
                    have hown3 : w2.ownsRow W.heap.size 9 1 (.slice (some ⟨g3, 0, none⟩) (n + 1) cap1) (n + 1) ((L ++ [s.extract k j]).map Value.string) := by simpa using hown2
                    clear hgrow2 hown2 h63 hby hba hown hbel
                    go_roundw
                    case rel => exact ⟨j, n + 1, _, _, rfl, hj, rfl, by omega, HF2, hown3, hb2⟩
                    case measure => simp [intOf]; omega
          · obtain rfl : k = s.size := by omega
            obtain ⟨pa, ca, rfl⟩ := owns_slice hown
            have hlL : L.length = n := by simpa using hown.1
            by_cases h24 : n ≤ 24
            · have HY := Lib.hid (show P.sfL s = L ∧ P.sfOk s = true by rw [hL.out.1]; exact P.sf_yes s hlen HP.out (by rw [← hL.out.1, hlL]; exact h24))
              have h25 : ¬ (24 : Int) < n := by omega
              clear hlL
              go_wp2
              go_ret2
              exact split_yes HY.out hown hbel
            · have HY := Lib.hid (P.sf_no s (.inr (.inr (by rw [← hL.out.1, hlL]; exact h24))))
              have h25 : (24 : Int) < n := by omega
              clear hlL
              go_wp2
              go_ret2
              exact split_no HY.out (ownsNil _ _) hbel
  · have h600 : (600 : Int) < s.size := by omega
    have HN := Lib.hid (P.sf_no s (.inl hlen))
    go_enter Tryd.func16, Tryd.ntmps16
    go_wp2
    go_ret2
    exact split_no HN.out (ownsNil _ _) (Bel.refl _)
set_option maxHeartbeats 8000000 in
theorem c_spec_SplitFields (s : ByteArray) (hs : s.size ≤ 1073741824) (w : World) :
    Calls Tryd.prog 17 #[.string s] w (Split s w) := by
  by_cases hlen : s.size ≤ 600
  · have h600 : ¬ (600 : Int) < s.size := by omega
    obtain ⟨i0, hi, hz0, hz1, hz2⟩ := info_parts Tryd.infoStr
    have hown0 : (w.alloc (.cells #[] 9)).ownsRow w.heap.size 9 1 (.slice (some ⟨w.heap.size, 0, none⟩) 0 0) 0 [] := World.ownsRow_lit w #[] 0 (Nat.le_refl _) (by unfold maxLen; omega) rfl
    have hb0 : Bel w (w.alloc (.cells #[] 9)) := (Bel.refl w).alloc _
    go_enter Tryd.func17, Tryd.ntmps17
    go_wp2
    go_loopw [4, 5, 6] (fun v b i wr => ∃ (k q n : Nat) (v' : Value) (L : List ByteArray), v' = v ∧ k ≤ s.size + 1 ∧ i = .int .i64 k ∧ b = .int .i64 q ∧ q ≤ k ∧ n ≤ k ∧ Hid (L = P.fld s k ∧ P.beg s k = q ∧ P.prt s (min k s.size) = true) ∧ wr.ownsRow w.heap.size 9 1 v' n (L.map Value.string) ∧ Bel w wr) (fun _ _ i _ => s.size + 1 - (intOf i).toNat)
    case atStart => exact ⟨0, 0, 0, _, [], rfl, Nat.zero_le _, rfl, rfl, Nat.le_refl _, Nat.le_refl _, Lib.hid ⟨rfl, rfl, by rw [Nat.zero_min]; rfl⟩, hown0, hb0⟩
    case round =>
      obtain ⟨k, q, n, v', L, rfl, hk, rfl, rfl, hq, hn, hJ, hown, hbel⟩ := hrel
      by_cases hlt : k < s.size
      · have f1 : (s[k].toNat : Int) = P.at8 s k := P.at8_eq s k hlt
        have q1 := P.at8_range s k
        have e : P.at8 s k = (P.at8n s k : Int) := rfl
        have h3 : (k : Int) < s.size := by omega
        by_cases hgood : 32 ≤ P.at8n s k ∧ P.at8n s k ≤ 126
        · have HPN := Lib.hid (show P.prt s (min (k + 1) s.size) = true by
            have := hJ.out.2.2
            rw [Nat.min_eq_left (by omega)] at this ⊢
            exact P.prt_next s k this hgood)
          have g1 : ¬ P.at8 s k < 32 := by omega
          have g2 : ¬ 126 < P.at8 s k := by omega
          by_cases hsp : P.at8n s k = 32
          · have HS := Lib.hid (show P.sep s k = true by rw [P.sep_at s k hlt]; exact decide_eq_true hsp)
            have g3 : P.at8 s k = 32 := by omega
            clear e hgood hsp g1 g2
            by_cases hqk : q < k
            · have h5 : (q : Int) < k := by omega
              have h6 : (k : Int) ≤ s.size := by omega
              have h63 : n + 1 ≤ maxLen := by unfold maxLen; omega
              have hby : (n + 1) * 16 ≤ 140737488355328 := by omega
              have hba : w.heap.size ≤ (wr.alloc (.cells #[.string (s.extract q k)] 9)).heap.size := by have := hbel.size; simp; omega
              have HF := Lib.hid (show L ++ [s.extract q k] = P.fld s (k + 1) from by rw [(P.fld_sep s k HS.out).1, P.fin_some s k (by rw [hJ.out.2.1]; exact hqk), hJ.out.1, hJ.out.2.1])
              go_wp2_with (at_builtin; refine wpList_append_lies _ rfl (.tmp 48) (.tmp 53) 32 rfl w.heap.size 9 i0 (.string ⟨#[]⟩) 1 16 Tryd.underlying32 hi hz0 hz1 hz2 rfl Nat.one_pos v' n (L.map Value.string) rfl (hown.alloc _) ⟨wr.heap.size, 0, none⟩ 1 1 [.string (s.extract q k)] rfl rfl (newsS wr _) (oneCellS _) Nat.one_pos h63 hby hba _ rfl ?_; intro g3 cap1 w2 hown2 hgrow2 _ _)
              have hb2 : Bel w w2 := (hbel.alloc _).grown hgrow2 (fun r hr => (World.ownsRow.lt hown r hr).1)
              have hown3 : w2.ownsRow w.heap.size 9 1 (.slice (some ⟨g3, 0, none⟩) (n + 1) cap1) (n + 1) ((L ++ [s.extract q k]).map Value.string) := by simpa using hown2
              clear hgrow2 hown2 h63 hby hba hown hbel
              go_wp2
              go_roundw
              case rel => exact ⟨k + 1, k + 1, n + 1, _, _, rfl, by omega, by go_num, by go_num, by omega, by omega, Lib.hid ⟨HF.out, (P.fld_sep s k HS.out).2, HPN.out⟩, hown3, hb2⟩
              case measure => simp [intOf]; omega
            · have h5 : ¬ (q : Int) < k := by omega
              have HF := Lib.hid (show L = P.fld s (k + 1) from by rw [(P.fld_sep s k HS.out).1, P.fin_start s k (by rw [hJ.out.2.1]; omega), hJ.out.1])
              go_wp2
              go_roundw
              case rel => exact ⟨k + 1, k + 1, n, _, L, rfl, by omega, by go_num, by go_num, by omega, by omega, Lib.hid ⟨HF.out, (P.fld_sep s k HS.out).2, HPN.out⟩, hown, hbel⟩
              case measure => simp [intOf]; omega
          · have HI := Lib.hid (P.fld_in s k (by rw [P.sep_at s k hlt]; exact decide_eq_false hsp))
            have g3 : (P.at8 s k == 32) = false := beq_eq_false_iff_ne.2 (by omega)
            clear e hgood hsp
            go_wp2
            go_roundw
            case rel => exact ⟨k + 1, q, n, _, L, rfl, by omega, by go_num, rfl, by omega, by omega, Lib.hid ⟨hJ.out.1.trans HI.out.1.symm, HI.out.2.trans hJ.out.2.1, HPN.out⟩, hown, hbel⟩
            case measure => simp [intOf]; omega
        · have HN := Lib.hid (P.sf_no s (.inr (.inl (P.prt_no s s.size k hlt hgood))))
          have hownE : (wr.alloc (.cells #[] 9)).ownsRow w.heap.size 9 1 (.slice (some ⟨wr.heap.size, 0, none⟩) 0 0) 0 [] := World.ownsRow_lit wr #[] 0 hbel.size (by unfold maxLen; omega) rfl
          by_cases g1 : P.at8 s k < 32
          · clear e hgood
            go_wp2
            go_ret2
            exact split_no HN.out hownE (hbel.alloc _)
          · have g2 : 126 < P.at8 s k := by omega
            clear e hgood
            go_wp2
            go_ret2
            exact split_no HN.out hownE (hbel.alloc _)
      · have h3 : ¬ (k : Int) < s.size := by omega
        by_cases hke : k = s.size
        · have HS := Lib.hid (show P.sep s k = true by rw [hke]; exact P.sep_end s)
          have HPN := Lib.hid (show P.prt s (min (k + 1) s.size) = true by
            have := hJ.out.2.2
            rw [Nat.min_eq_right (by omega)] at this ⊢
            exact this)
          have h4 : (k : Int) ≤ s.size := by omega
          clear hke
          by_cases hqk : q < k
          · have h5 : (q : Int) < k := by omega
            have h6 : (k : Int) ≤ s.size := by omega
            have h63 : n + 1 ≤ maxLen := by unfold maxLen; omega
            have hby : (n + 1) * 16 ≤ 140737488355328 := by omega
            have hba : w.heap.size ≤ (wr.alloc (.cells #[.string (s.extract q k)] 9)).heap.size := by have := hbel.size; simp; omega
            have HF := Lib.hid (show L ++ [s.extract q k] = P.fld s (k + 1) from by rw [(P.fld_sep s k HS.out).1, P.fin_some s k (by rw [hJ.out.2.1]; exact hqk), hJ.out.1, hJ.out.2.1])
            go_wp2_with (at_builtin; refine wpList_append_lies _ rfl (.tmp 48) (.tmp 53) 32 rfl w.heap.size 9 i0 (.string ⟨#[]⟩) 1 16 Tryd.underlying32 hi hz0 hz1 hz2 rfl Nat.one_pos v' n (L.map Value.string) rfl (hown.alloc _) ⟨wr.heap.size, 0, none⟩ 1 1 [.string (s.extract q k)] rfl rfl (newsS wr _) (oneCellS _) Nat.one_pos h63 hby hba _ rfl ?_; intro g3 cap1 w2 hown2 hgrow2 _ _)
            have hb2 : Bel w w2 := (hbel.alloc _).grown hgrow2 (fun r hr => (World.ownsRow.lt hown r hr).1)
            have hown3 : w2.ownsRow w.heap.size 9 1 (.slice (some ⟨g3, 0, none⟩) (n + 1) cap1) (n + 1) ((L ++ [s.extract q k]).map Value.string) := by simpa using hown2
            clear hgrow2 hown2 h63 hby hba hown hbel
            go_wp2
            go_roundw
            case rel => exact ⟨k + 1, k + 1, n + 1, _, _, rfl, by omega, by go_num, by go_num, by omega, by omega, Lib.hid ⟨HF.out, (P.fld_sep s k HS.out).2, HPN.out⟩, hown3, hb2⟩
            case measure => simp [intOf]; omega
          · have h5 : ¬ (q : Int) < k := by omega
            have HF := Lib.hid (show L = P.fld s (k + 1) from by rw [(P.fld_sep s k HS.out).1, P.fin_start s k (by rw [hJ.out.2.1]; omega), hJ.out.1])
            go_wp2
            go_roundw
            case rel => exact ⟨k + 1, k + 1, n, _, L, rfl, by omega, by go_num, by go_num, by omega, by omega, Lib.hid ⟨HF.out, (P.fld_sep s k HS.out).2, HPN.out⟩, hown, hbel⟩
            case measure => simp [intOf]; omega
        · have hks : k = s.size + 1 := by omega
          have HL := Lib.hid (show L = P.fin s s.size ∧ P.prt s s.size = true by
            have h1 := hJ.out.1
            have h2 := hJ.out.2.2
            rw [hks] at h1
            rw [Nat.min_eq_right (by omega)] at h2
            exact ⟨h1.trans (P.fld_sep s s.size (P.sep_end s)).1, h2⟩)
          have h4 : ¬ (k : Int) ≤ s.size := by omega
          clear hks hke
          obtain ⟨pa, ca, rfl⟩ := owns_slice hown
          have hlL : L.length = n := by simpa using hown.1
          by_cases h24 : n ≤ 24
          · have HY := Lib.hid (show P.sfL s = L ∧ P.sfOk s = true by rw [HL.out.1]; exact P.sf_yes s hlen HL.out.2 (by rw [← HL.out.1, hlL]; exact h24))
            have h25 : ¬ (24 : Int) < n := by omega
            clear hlL
            go_wp2
            go_ret2
            exact split_yes HY.out hown hbel
          · have HY := Lib.hid (P.sf_no s (.inr (.inr (by rw [← HL.out.1, hlL]; exact h24))))
            have h25 : (24 : Int) < n := by omega
            have hownE : (wr.alloc (.cells #[] 9)).ownsRow w.heap.size 9 1 (.slice (some ⟨wr.heap.size, 0, none⟩) 0 0) 0 [] := World.ownsRow_lit wr #[] 0 hbel.size (by unfold maxLen; omega) rfl
            clear hlL
            go_wp2
            go_ret2
            exact split_no HY.out hownE (hbel.alloc _)
  · have h600 : (600 : Int) < s.size := by omega
    have HN := Lib.hid (P.sf_no s (.inl hlen))
    have hown0 : (w.alloc (.cells #[] 9)).ownsRow w.heap.size 9 1 (.slice (some ⟨w.heap.size, 0, none⟩) 0 0) 0 [] := World.ownsRow_lit w #[] 0 (Nat.le_refl _) (by unfold maxLen; omega) rfl
    go_enter Tryd.func17, Tryd.ntmps17
    go_wp2
    go_ret2
    exact split_no HN.out hown0 ((Bel.refl _).alloc _)
end Go.Proofs.YtoikpdijkdmimaaDoor
