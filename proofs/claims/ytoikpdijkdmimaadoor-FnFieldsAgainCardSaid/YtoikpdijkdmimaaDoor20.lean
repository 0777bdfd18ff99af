/-
  The contracts of the reference's draws, first part: the cursor, a byte, a number below n. They say ranges alone.
-/
import Derived.Test.YtoikpdijkdmimaaDoorCur
namespace Go.Proofs.YtoikpdijkdmimaaDoor
open Go.RowKit
set_option linter.unusedVariables false

set_option maxHeartbeats 1000000 in
theorem c_l01Byte (c : Src) (b : Nat) (w : World) (hc : Cur c b w) :
    Calls Tryd.prog 30 #[.pointer (some ⟨b, 0, none⟩)] w (Drew c b w (IntIn 0 255)) := by
  obtain ⟨i, k1, hi0, hi1⟩ := hc.c1
  obtain ⟨h, k2⟩ := hc.c2
  have k0 := hc.c0
  have hfr := hc.fr
  have hold := hc.old
  have hnew := hc.new
  by_cases hlt : i < c.len
  · obtain ⟨k, rfl⟩ := Int.eq_ofNat_of_zero_le hi0
    obtain ⟨blk, off, ha, hblk, hcells⟩ := hc.row.at (by omega)
    have hcell := hc.bel.at (hcells k (by omega))
    have hne : ¬ blk = b := by omega
    have hne2 : ¬ b = blk := by omega
    clear hcells
    rw [ha] at k0
    have hlt2 : (k : Int) < (c.len : Int) := hlt
    have h4 : (0 : Int) ≤ k := by omega
    have hcap := hc.row.small
    unfold maxLen at hcap
    have e1 : IntKind.i64.wrap ((k : Int) + 1) = (k : Int) + 1 := IntWalk.i64_in _ (by omega)
    go_enter Tryd.func30, Tryd.ntmps30
    go_wp2
    generalize wrap64 (wrap64 (h * 6364136223846793005) + 1442695040888963407) = g
    go_quiet (fail)
    go_wp2
    go_quiet (fail)
    go_wp2
    go_quiet (fail)
    go_wp2
    go_ret
    exact ⟨_, ⟨_, rfl, (and255 _).1, (and255 _).2⟩, rfl, (((Bex.refl b w).set 2 _).drewN _).set 1 _, ((hc.set2 _).drewN _).set1 _ (by omega)⟩
  · go_enter Tryd.func30, Tryd.ntmps30
    go_wp2
    generalize wrap64 (wrap64 (h * 6364136223846793005) + 1442695040888963407) = g
    go_quiet (fail)
    go_wp2
    go_quiet (fail)
    go_wp2
    go_ret
    exact ⟨_, ⟨_, rfl, (and255 _).1, (and255 _).2⟩, rfl, (((Bex.refl b w).set 2 _).drewN _).drewN _, ((hc.set2 _).drewN _).drewN _⟩
set_option maxHeartbeats 1000000 in
theorem c_l01Below (c : Src) (b : Nat) (n : Int) (w : World) (hc : Cur c b w) (hn : n ≤ 4294967296) :
    Calls Tryd.prog 23 #[.pointer (some ⟨b, 0, none⟩), .int .i64 n] w (Drew c b w (IntIn 0 (if n ≤ 0 then 0 else n - 1))) := by
  by_cases h0 : n ≤ 0
  · rw [if_pos h0]
    go_enter Tryd.func23, Tryd.ntmps23
    go_wp2
    go_ret
    exact ⟨_, ⟨_, rfl, by omega, by omega⟩, rfl, Bex.refl b w, hc⟩
  · rw [if_neg h0]
    by_cases h1 : n ≤ 256
    · go_enter Tryd.func23, Tryd.ntmps23
      go_wp2_with fail
      refine (c_l01Byte c b _ hc).mono ?_
      rintro e w1 ⟨v, ⟨x, rfl, hx0, hx1⟩, rfl, hb1, hc1⟩
      go_wp2
      go_ret
      exact ⟨_, ⟨_, rfl, Int.emod_nonneg _ (by omega), by have := Int.emod_lt_of_pos x (show 0 < n by omega); omega⟩, rfl, hb1, hc1⟩
    · go_enter Tryd.func23, Tryd.ntmps23
      go_wp2_with fail
      refine (c_l01Byte c b _ hc).mono ?_
      rintro e w1 ⟨v, ⟨x, rfl, hx0, hx1⟩, rfl, hb1, hc1⟩
      go_wp2_with fail
      refine (c_l01Byte c b _ hc1).mono ?_
      rintro e w2 ⟨v, ⟨y, rfl, hy0, hy1⟩, rfl, hb2, hc2⟩
      go_wp2_with fail
      refine (c_l01Byte c b _ hc2).mono ?_
      rintro e w3 ⟨v, ⟨z, rfl, hz0, hz1⟩, rfl, hb3, hc3⟩
      go_wp2_with fail
      refine (c_l01Byte c b _ hc3).mono ?_
      rintro e w4 ⟨v, ⟨t, rfl, ht0, ht1⟩, rfl, hb4, hc4⟩
      go_wp2
      go_ret
      exact ⟨_, ⟨_, rfl, Int.emod_nonneg _ (by omega), by have := Int.emod_lt_of_pos (x * 16777216 + y * 65536 + z * 256 + t) (show 0 < n by omega); omega⟩, rfl, ((hb1.trans hb2).trans hb3).trans hb4, hc4⟩
theorem c_l01Once (c : Src) (b : Nat) (n : Int) (w : World) (hc : Cur c b w) (hn : n ≤ 4294967296) :
    Calls Tryd.prog 22 #[.pointer (some ⟨b, 0, none⟩), .int .i64 n] w (Drew c b w SomeBool) := by
  go_enter Tryd.func22, Tryd.ntmps22
  go_wp2_with fail
  refine (c_l01Below c b n _ hc hn).mono ?_
  rintro e w1 ⟨v, ⟨x, rfl, hx0, hx1⟩, rfl, hb1, hc1⟩
  go_wp2
  go_ret
  exact ⟨_, ⟨_, rfl⟩, rfl, hb1, hc1⟩
set_option maxHeartbeats 1000000 in
theorem c_l01PickInt (c : Src) (b g : Nat) (l : List Int) (n : Nat) (hn : n = l.length) (h0 : 0 < n) (hn2 : n ≤ 1000) (w : World) (hg : g ≠ b) (hl : ∀ j (hj : j < l.length), w.cell? ⟨g, j, none⟩ = some (.int .i64 l[j])) (hc : Cur c b w) :
    Calls Tryd.prog 31 #[.pointer (some ⟨b, 0, none⟩), .slice (some ⟨g, 0, none⟩) n n] w (Drew c b w (OneOf l)) := by
  have HN := Lib.hid hn
  clear hn
  go_enter Tryd.func31, Tryd.ntmps31
  go_wp2_with fail
  refine (c_l01Below c b n _ hc (by omega)).mono ?_
  rintro e w1 ⟨v, ⟨x, rfl, hx0, hx1⟩, rfl, hb1, hc1⟩
  rw [if_neg (by omega)] at hx1
  obtain ⟨k, rfl⟩ := Int.eq_ofNat_of_zero_le hx0
  have hk : k < l.length := by have := HN.out; omega
  have hlt : (k : Int) < n := by omega
  have hgw : g < w.heap.size := World.block_lt_of_cell? _ _ (hl k hk)
  have hcell : w1.cell? ⟨g, k, none⟩ = some (.int .i64 l[k]) := (hb1.cell (p := ⟨g, k, none⟩) hgw hg).trans (hl k hk)
  have hmem : l[k] ∈ l := List.getElem_mem hk
  generalize l[k] = x at hcell hmem
  clear hl hk
  go_wp2
  go_ret
  exact ⟨_, ⟨_, hmem, rfl⟩, rfl, hb1, hc1⟩
set_option maxHeartbeats 1000000 in
theorem c_l01Number (c : Src) (b : Nat) (w : World) (hc : Cur c b w) :
    Calls Tryd.prog 24 #[.pointer (some ⟨b, 0, none⟩)] w (Drew c b w (IntIn (-9223372036854775808) 9223372036854775807)) := by
  go_enter Tryd.func24, Tryd.ntmps24
  go_wp2_with fail
  refine (c_l01Below c b 4 _ hc (by omega)).mono ?_
  rintro e w1 ⟨v, ⟨x, rfl, hx0, hx1⟩, rfl, hb1, hc1⟩
  by_cases h0 : x = 0
  · subst h0
    go_wp2_with fail
    refine (c_l01PickInt c b w1.heap.size [-1, 0, 127, 128, 16383, 16384, 1000000000, 1000000001, 9223372036854775807, -9223372036854775808] 10 rfl (by decide) (by decide) _ (by have := hc1.old; omega) (rowI_alloc w1 _ 3) (by repeat (first | with_reducible assumption | with_reducible refine Cur.alloc ?_ _ | with_reducible refine Cur.drew ?_ | with_reducible refine Cur.drewN ?_ _ | (refine Cur.next ?_ (by with_reducible assumption))))).mono ?_
    rintro e w2 ⟨v, ⟨y, hy, rfl⟩, rfl, hb2, hc2⟩
    have hy2 : -9223372036854775808 ≤ y ∧ y ≤ 9223372036854775807 := by simp at hy; omega
    clear hy
    go_wp2
    go_ret
    exact ⟨_, ⟨_, rfl, by omega, by omega⟩, rfl, (by repeat (first | with_reducible assumption | with_reducible exact Bex.refl _ _ | with_reducible refine Bex.alloc ?_ _ | with_reducible refine Bex.drew ?_ | with_reducible refine Bex.drewN ?_ _ | with_reducible refine Bex.set ?_ _ _ | (refine Bex.trans ?_ (by with_reducible assumption)) | (refine Bex.of ?_ (by with_reducible assumption)))), (by repeat (first | with_reducible assumption | with_reducible refine Cur.alloc ?_ _ | with_reducible refine Cur.drew ?_ | with_reducible refine Cur.drewN ?_ _ | (refine Cur.next ?_ (by with_reducible assumption))))⟩
  · by_cases h1 : x = 1
    · subst h1
      go_wp2_with fail
      refine (c_l01Below c b 1000000000 _ hc1 (by omega)).mono ?_
      rintro e w2 ⟨v, ⟨y, rfl, hy0, hy1⟩, rfl, hb2, hc2⟩
      go_wp2
      go_ret
      exact ⟨_, ⟨_, rfl, by omega, by omega⟩, rfl, (by repeat (first | with_reducible assumption | with_reducible exact Bex.refl _ _ | with_reducible refine Bex.alloc ?_ _ | with_reducible refine Bex.drew ?_ | with_reducible refine Bex.drewN ?_ _ | with_reducible refine Bex.set ?_ _ _ | (refine Bex.trans ?_ (by with_reducible assumption)) | (refine Bex.of ?_ (by with_reducible assumption)))), (by repeat (first | with_reducible assumption | with_reducible refine Cur.alloc ?_ _ | with_reducible refine Cur.drew ?_ | with_reducible refine Cur.drewN ?_ _ | (refine Cur.next ?_ (by with_reducible assumption))))⟩
    · have e0 : (x == 0) = false := by simpa using h0
      have e1 : (x == 1) = false := by simpa using h1
      go_wp2_with fail
      refine (c_l01Below c b 400 _ hc1 (by omega)).mono ?_
      rintro e w2 ⟨v, ⟨y, rfl, hy0, hy1⟩, rfl, hb2, hc2⟩
      go_wp2
      go_ret
      exact ⟨_, ⟨_, rfl, by omega, by omega⟩, rfl, (by repeat (first | with_reducible assumption | with_reducible exact Bex.refl _ _ | with_reducible refine Bex.alloc ?_ _ | with_reducible refine Bex.drew ?_ | with_reducible refine Bex.drewN ?_ _ | with_reducible refine Bex.set ?_ _ _ | (refine Bex.trans ?_ (by with_reducible assumption)) | (refine Bex.of ?_ (by with_reducible assumption)))), (by repeat (first | with_reducible assumption | with_reducible refine Cur.alloc ?_ _ | with_reducible refine Cur.drew ?_ | with_reducible refine Cur.drewN ?_ _ | (refine Cur.next ?_ (by with_reducible assumption))))⟩
set_option maxHeartbeats 1000000 in
theorem c_l01New (W : World) (a : Option Addr) (len cap : Nat) (z : List Int) (w : World) (hrow : IsRow W a len cap z) (hsmall : len ≤ 1048576) (hW : Bel W w) :
    Calls Tryd.prog 21 #[.slice a len cap] w fun e w' => ∃ b, e = .returned (.pointer (some ⟨b, 0, none⟩)) ∧ Bel w w' ∧ w.heap.size ≤ b ∧ Cur ⟨W, a, len, cap, z⟩ b w' := by
  have hcap : (len : Int) ≤ 1048576 := by omega
  go_enter Tryd.func21, Tryd.ntmps21
  go_wp2
  go_loop [3, 4] (fun h i => ∃ (x : Int) (k : Nat), h = .int .i64 x ∧ i = .int .i64 k ∧ 0 ≤ x ∧ x ≤ 1073741824 ∧ k ≤ len) (fun _ i => len - (intOf i).toNat)
  case atStart => exact ⟨_, 0, rfl, rfl, by omega, by omega, by omega⟩
  case round =>
    obtain ⟨x, k, rfl, rfl, hx0, hx1, hk⟩ := hrel
    by_cases hlt : k < len
    · by_cases h4 : k < 4000
      · obtain ⟨blk, off, rfl, hblk, hcells⟩ := hrow.at (by omega)
        have hcell := hW.at (hcells k hlt)
        have hz := hrow.byte k hlt
        generalize z.getD k 0 = zk at hcell hz
        clear hcells
        have h1 : (k : Int) < len := by omega
        have h2 : (k : Int) < 4000 := by omega
        have h3 : (0 : Int) ≤ k := by omega
        have e1 : bits .and .i64 (x * 131 + zk + 7) 1073741823 = (x * 131 + zk + 7) % 1073741824 := P.and_mask 30 _ (by omega) (by decide)
        go_wp2
        go_round
        case rel => exact ⟨_, k + 1, rfl, by go_num, by omega, by omega, by omega⟩
        case measure => simp [intOf]; omega
      · have h1 : (k : Int) < len := by omega
        have h2 : ¬ (k : Int) < 4000 := by omega
        go_wp2
        go_ret
        exact ⟨_, rfl, (Bel.refl w).alloc _, Nat.le_refl _, cur_new hrow hW _ _⟩
    · have h1 : ¬ (k : Int) < len := by omega
      go_wp2
      go_ret
      exact ⟨_, rfl, (Bel.refl w).alloc _, Nat.le_refl _, cur_new hrow hW _ _⟩
end Go.Proofs.YtoikpdijkdmimaaDoor
