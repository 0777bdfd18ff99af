/-
  The contracts of the laws' own helpers: a number taken from the code; a flipped bit.
-/
import Derived.Test.YtnpnkkjdnmgbkaaCur
import Derived.Test.YtnpnkkjdnmgbkaaPure9
namespace Go.Proofs.Ytnpnkkjdnmgbkaa
open Go.RowKit
set_option linter.unusedVariables false

theorem P.bits_xor_u8 (a b : Nat) (ha : a < 256) (hb : b < 256) : bits .xor .u8 a b = ((a ^^^ b : Nat) : Int) := by
  have hab : a ^^^ b < 256 := Nat.xor_lt_two_pow (n := 8) ha hb
  show IntKind.u8.wrap ((BitVec.ofInt 8 (a : Int) ^^^ BitVec.ofInt 8 (b : Int)).toNat : Int) = _
  have e1 : BitVec.ofInt 8 (a : Int) = BitVec.ofNat 8 a := by simp
  have e2 : BitVec.ofInt 8 (b : Int) = BitVec.ofNat 8 b := by simp
  rw [e1, e2]
  have e3 : (BitVec.ofNat 8 a ^^^ BitVec.ofNat 8 b).toNat = a ^^^ b := by
    rw [BitVec.toNat_xor, BitVec.toNat_ofNat, BitVec.toNat_ofNat, Nat.mod_eq_of_lt (by omega), Nat.mod_eq_of_lt (by omega)]
  rw [e3]
  exact IntWalk.u8_in _ (by omega)

/-- a number from 0 to 255 taken from the code -/
def atV (len : Nat) (z : List Int) (i : Nat) : Int := if len = 0 then 0 else z.getD ((i * 5 + 1) % len) 0
theorem atV_range {W : World} {a : Option Addr} {len cap : Nat} {z : List Int} (h : IsRow W a len cap z) (i : Nat) : 0 ≤ atV len z i ∧ atV len z i ≤ 255 := by
  unfold atV
  split
  · omega
  · exact h.byte _ (Nat.mod_lt _ (by omega))
set_option maxHeartbeats 1000000 in
theorem c_at (W : World) (a : Option Addr) (len cap : Nat) (z : List Int) (w : World) (i : Nat) (hi : i ≤ 1000) (hrow : IsRow W a len cap z) (hsmall : len ≤ 1048576) (hW : Bel W w) :
    Calls Try.prog 18 #[.slice a len cap, .int .i64 i] w fun e w' => e = .returned (.int .i64 (atV len z i)) ∧ Bel w w' := by
  by_cases h0 : len = 0
  · subst h0
    go_enter Try.func18, Try.ntmps18
    go_wp2
    go_ret
    exact ⟨rfl, Bel.refl _⟩
  · obtain ⟨blk, off, rfl, hblk, hcells⟩ := hrow.at (by omega)
    have hm : (i * 5 + 1) % len < len := Nat.mod_lt _ (by omega)
    have hcell := hW.at (hcells _ hm)
    have hz := hrow.byte _ hm
    have e1 : Int.tmod ((i : Int) * 5 + 1) (len : Int) = (((i * 5 + 1) % len : Nat) : Int) := by
      rw [Int.tmod_eq_emod_of_nonneg (by omega), Int.natCast_emod, Int.natCast_add, Int.natCast_mul]
      rfl
    have hv : atV len z i = z.getD ((i * 5 + 1) % len) 0 := by unfold atV; rw [if_neg h0]
    rw [hv]
    clear hv
    generalize z.getD ((i * 5 + 1) % len) 0 = x at hcell hz ⊢
    generalize (i * 5 + 1) % len = k at hm hcell e1
    clear hcells
    have hm2 : (k : Int) < len := by omega
    go_enter Try.func18, Try.ntmps18
    go_wp2
    go_ret
    exact ⟨rfl, Bel.refl _⟩
theorem c_atII (W : World) (a : Option Addr) (len cap : Nat) (z : List Int) (w : World) (x v : Int) (hx : ∃ i : Nat, x = i ∧ i ≤ 1000 ∧ atV len z i = v) (hrow : IsRow W a len cap z) (hsmall : len ≤ 1048576) (hW : Bel W w) :
    Calls Try.prog 18 #[.slice a len cap, .int .i64 x] w fun e w' => e = .returned (.int .i64 v) ∧ Bel w w' := by
  obtain ⟨i, rfl, hi, rfl⟩ := hx
  exact c_at W a len cap z w i hi hrow hsmall hW
set_option maxHeartbeats 1000000 in
theorem c_bend (s : ByteArray) (hs : s.size ≤ 1073741824) (i : Nat) (hi : i ≤ 1000000) (w : World) :
    Calls Try.prog 17 #[.string s, .int .i64 i] w fun e w' => e = .returned (.string (P.bend s i)) ∧ Bel w w' := by
  by_cases h0 : s.size = 0
  · have hb : P.bend s i = s := by unfold P.bend; rw [if_pos h0]
    rw [hb]
    clear hb
    go_enter Try.func17, Try.ntmps17
    go_wp2
    go_ret
    exact ⟨rfl, Bel.refl _⟩
  · have hk : P.bendAt s i < s.size := Nat.mod_lt _ (by omega)
    have hm : (i : Int) / 8 % (s.size : Int) = (P.bendAt s i : Nat) := by
      unfold P.bendAt
      rw [Int.natCast_emod, Int.natCast_ediv]
      rfl
    have hb : P.bend s i = s.extract 0 (P.bendAt s i) ++ P.bs [P.by8 ((P.at8n s (P.bendAt s i) ^^^ 2 ^ (i % 8) : Nat) : Int)] ++ s.extract (P.bendAt s i + 1) s.size := by unfold P.bend; rw [if_neg h0]
    rw [hb]
    clear hb
    generalize P.bendAt s i = k at hk hm
    have hq := P.at8n_lt s k
    have hf : s[k].toNat = P.at8n s k := P.at8n_eq s k hk
    have hf2 : (s[k].toNat : Int) = P.at8 s k := P.at8_eq s k hk
    have hne : ((s.size : Int) == 0) = false := beq_eq_false_iff_ne.2 (by omega)
    go_enter Try.func17, Try.ntmps17
    go_wp2
    simp only [hm]
    have e0 : (i : Int).tmod 8 = (i : Int) % 8 := Int.tmod_eq_emod_of_nonneg (by omega)
    have e1 : IntKind.u8.wrap (2 ^ ((i : Int) % 8).toNat) = 2 ^ (i % 8) := by
      rw [show ((i : Int) % 8).toNat = i % 8 by omega]
      have : i % 8 < 8 := Nat.mod_lt _ (by decide)
      generalize i % 8 = m at this ⊢
      match m, this with
      | 0, _ => rfl
      | 1, _ => rfl
      | 2, _ => rfl
      | 3, _ => rfl
      | 4, _ => rfl
      | 5, _ => rfl
      | 6, _ => rfl
      | 7, _ => rfl
    have e2 : bits .xor .u8 (P.at8n s k : Int) (2 ^ (i % 8)) = ((P.at8n s k ^^^ 2 ^ (i % 8) : Nat) : Int) := by
      have h8 : 2 ^ (i % 8) < 2 ^ 8 := Nat.pow_lt_pow_right (by decide) (Nat.mod_lt i (by decide))
      have := P.bits_xor_u8 _ _ hq h8
      rwa [Int.natCast_pow] at this
    refine wp_region_spot 19 [.string s, .int .i64 k, .string (s.extract 0 k), .string s, .int .i64 k, .int .u8 ((P.at8n s k : Nat) : Int), .int .i64 i, .int .i64 ((i % 8 : Nat) : Int), .int .u8 ((2 ^ (i % 8) : Nat) : Int), .int .u8 ((P.at8n s k ^^^ 2 ^ (i % 8) : Nat) : Int), undef, .string (P.bs [P.by8 ((P.at8n s k ^^^ 2 ^ (i % 8) : Nat) : Int)]), .string (s.extract 0 k ++ P.bs [P.by8 ((P.at8n s k ^^^ 2 ^ (i % 8) : Nat) : Int)]), .string s, .int .i64 k, .int .i64 (k + 1), .string (s.extract (k + 1) s.size), .string (s.extract 0 k ++ P.bs [P.by8 ((P.at8n s k ^^^ 2 ^ (i % 8) : Nat) : Int)] ++ s.extract (k + 1) s.size), .string (s.extract 0 k ++ P.bs [P.by8 ((P.at8n s k ^^^ 2 ^ (i % 8) : Nat) : Int)] ++ s.extract (k + 1) s.size)] [none, none, none, none, none, none, none, none, none, none, some (Spot.row [((P.at8n s k ^^^ 2 ^ (i % 8) : Nat) : Int)]), none, none, none, none, none, none, none, none] (by kernel_rfl) (by kernel_rfl) (Nat.le_of_ble_eq_true (by kernel_rfl)) (by kernel_rfl) ?_ ?_
    · refine ⟨?_, ?_, ?_, ?_, ?_, ?_, ?_, ?_, ?_, ?_, ?_, ?_, ?_, ?_, ?_, ?_, ?_, ?_, ?_, trivial⟩
      all_goals intro β w' hb hrow
      all_goals simp [lastSp, putL, spVal, Spot.row_val, Spot.row_lies, List.range, List.range.loop, QB, seen, dep, dstOf, go_sem, Region.binds] at hrow ⊢
      all_goals first | exact Bel.refl _ | (rw [if_pos (by omega)]; exact ⟨Bel.refl _, rfl⟩) | (rw [dif_pos hk]; exact ⟨Bel.refl _, by rw [hf]⟩) | exact ⟨Bel.refl _, rfl⟩ | exact ⟨Bel.refl _, e0⟩ | exact ⟨Bel.refl _, e1⟩ | exact ⟨Bel.refl _, e2⟩ | exact ⟨(Bel.refl _).alloc _, rowAt1 _ _⟩ | (rw [hrow.c1]; exact ⟨Bel.refl _, rfl⟩) | (rw [if_neg (by omega)]; exact ⟨Bel.refl _, rfl⟩) | exact ⟨Bel.refl _, IntWalk.i64_in _ (by omega)⟩
    · intro β w2 h2 hx
      simp [lastSp, putL, spVal, Spot.row_val, List.range, List.range.loop]
      clear hx
      go_wp2
      go_ret
      exact ⟨rfl, h2⟩
theorem c_bendI (s u : ByteArray) (hs : s.size ≤ 1073741824) (x : Int) (i : Nat) (hx : x = i) (hu : P.bend s i = u) (hi : i ≤ 1000000) (w : World) :
    Calls Try.prog 17 #[.string s, .int .i64 x] w fun e w' => e = .returned (.string u) ∧ Bel w w' := by
  subst hx hu
  exact c_bend s hs i hi w
end Go.Proofs.Ytnpnkkjdnmgbkaa
