/-
  The contracts of the reference's draws, second part: drawn texts. They say lengths alone.
-/
import Derived.Test.YtoikpdijkdmimaaDoor20
import Derived.Test.YtoikpdijkdmimaaDoor01
namespace Go.Proofs.YtoikpdijkdmimaaDoor
open Go.RowKit
set_option linter.unusedVariables false

set_option maxHeartbeats 2000000 in
theorem c_l01Text (c : Src) (b : Nat) (n : Int) (w : World) (hc : Cur c b w) (hn : n ≤ 5000) :
    Calls Tryd.prog 26 #[.pointer (some ⟨b, 0, none⟩), .int .i64 n] w (Drew c b w (TextOf n.toNat)) := by
  obtain ⟨i0, hi, hz0, hz1, hz2⟩ := info_parts Tryd.info5
  have hold := hc.old
  have hle : ¬ n > 5000 := by omega
  go_enter Tryd.func26, Tryd.ntmps26
  go_wp2
  have hown0 : (w.alloc (.cells #[] 5)).ownsRow w.heap.size 5 1 (.slice (some ⟨w.heap.size, 0, none⟩) 0 0) 0 [] := World.ownsRow_lit w #[] 0 (Nat.le_refl _) (by unfold maxLen; omega) rfl
  have hb0 : Bex b w (w.alloc (.cells #[] 5)) := (Bex.refl b w).alloc _
  have hc0 : Cur c b (w.alloc (.cells #[] 5)) := hc.alloc _
  go_loopw [5, 6] (fun v j wr => ∃ (k : Nat) (l : List Int) (v' : Value), v' = v ∧ k ≤ n.toNat ∧ j = .int .i64 k ∧ Hid (l.length = k) ∧ wr.ownsRow w.heap.size 5 1 v' k (l.map (Value.int .u8)) ∧ Bex b w wr ∧ Cur c b wr) (fun _ j _ => n.toNat - (intOf j).toNat)
  case atStart => exact ⟨0, [], _, rfl, Nat.zero_le _, rfl, Lib.hid rfl, hown0, hb0, hc0⟩
  case round =>
    obtain ⟨k, l, v', rfl, hk, rfl, hl, hown, hbx, hcu⟩ := hrel
    by_cases hlt : k < n.toNat
    · have h3 : (k : Int) < n := by omega
      go_wp2_with fail
      refine (c_l01Byte c b _ hcu).mono ?_
      rintro e w1 ⟨v, ⟨x, rfl, hx0, hx1⟩, rfl, hb1, hc1⟩
      have hown1 := hb1.owns hown hold
      have hsz1 : w.heap.size ≤ w1.heap.size := Nat.le_trans hbx.size hb1.size
      have e1 : IntKind.u8.wrap x = x := IntWalk.u8_in _ (by omega)
      have h63 : k + 1 ≤ maxLen := by unfold maxLen; omega
      have hby : (k + 1) * 1 ≤ 140737488355328 := by omega
      have hba : w.heap.size ≤ (w1.alloc (.cells #[.int .u8 x] 5)).heap.size := by simp; omega
      go_wp2_with (at_builtin; refine wpList_append_lies _ rfl (.tmp 15) (.tmp 19) 24 rfl w.heap.size 5 i0 (.int .u8 0) 1 1 Tryd.underlying24 hi hz0 hz1 hz2 rfl Nat.one_pos v' k (l.map (Value.int .u8)) rfl (hown1.alloc _) ⟨w1.heap.size, 0, none⟩ 1 1 [.int .u8 x] rfl rfl (news1 w1 _) (oneCell1 _) Nat.one_pos h63 hby hba _ rfl ?_; intro g1 cap1 w2 hown2 hgrow2 _ _)
      have hr2 : ∀ r, v'.ownBlock = some r → w.heap.size ≤ r := fun r hr => (World.ownsRow.lt hown1 r hr).1
      have hb2 : Bex b w w2 := Bex.grown ((hbx.trans hb1).alloc _) hgrow2 hr2
      have hc2 : Cur c b w2 := (hc1.alloc _).grown hgrow2 (fun r hr => by have := hr2 r hr; omega)
      have hl2 : Hid ((l ++ [x]).length = k + 1) := Lib.hid (by rw [List.length_append, hl.out]; rfl)
      have hown3 : w2.ownsRow w.heap.size 5 1 (.slice (some ⟨g1, 0, none⟩) (k + 1) cap1) (k + 1) ((l ++ [x]).map (Value.int .u8)) := by simpa using hown2
      clear h63 hby hba hgrow2 hown hown1 hown2
      go_roundw
      case rel => first | exact ⟨k + 1, _, _, rfl, by omega, by go_num, hl2, hown3, hb2, hc2⟩ | ((repeat apply Exists.intro); exact ⟨⟨k + 1, _, _, rfl, by omega, by go_num, hl2, hown3, hb2, hc2⟩, rfl⟩)
      case measure => simp [intOf]; omega
    · have hge : ¬ (k : Int) < n := by omega
      have hkn : n.toNat = k := by omega
      have hcv := conv_row wr _ _ k l hl.out.symm hown
      have HK := Lib.hid hkn
      clear hkn
      go_wp2
      go_ret
      exact ⟨_, ⟨_, rfl, by rw [P.bs_size, List.length_map, hl.out, HK.out]⟩, rfl, hbx, hcu⟩
end Go.Proofs.YtoikpdijkdmimaaDoor
