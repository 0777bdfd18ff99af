/-
  Segments built and read back: the contracts at segments that can be built; a neighbour's address.
-/
import Derived.Test.Ytnpnkkjdnmgbkaa12i
import Derived.Test.Ytnpnkkjdnmgbkaa13i
import Derived.Test.YtnpnkkjdnmgbkaaPureC
namespace Go.Proofs.Ytnpnkkjdnmgbkaa
open Go.RowKit
set_option linter.unusedVariables false

theorem P.psOk_pos (src dst kind : Int) (s : ByteArray) (h : P.psOk src dst kind s = true) : 0 < s.size := by
  unfold P.psOk P.psIn at h
  simp at h
  omega
theorem P.xor_one (n : Nat) : (n ^^^ 1 = n + 1 ∧ n % 2 = 0) ∨ (n ^^^ 1 = n - 1 ∧ n % 2 = 1) := by
  have h1 : (n ^^^ 1) / 2 = n / 2 := by rw [Nat.xor_div_two]; simp
  have h2 : (n ^^^ 1) % 2 = 1 ↔ ¬ (n % 2 = 1 ↔ 1 % 2 = 1) := Nat.xor_mod_two_eq_one
  generalize n ^^^ 1 = m at h1 h2 ⊢
  omega
theorem P.xor_near (x : Int) (h : 0 ≤ x ∧ x ≤ 4294967295) : (bits .xor .i64 x 1 = x + 1 ∨ bits .xor .i64 x 1 = x - 1) ∧ bits .xor .i64 x 1 / 65536 = x / 65536 := by
  obtain ⟨n, rfl⟩ := Int.eq_ofNat_of_zero_le h.1
  have e : bits .xor .i64 (n : Int) 1 = ((n ^^^ 1 : Nat) : Int) := P.bits_xor_nat n 1 (by omega) (by decide)
  rw [e]
  rcases P.xor_one n with ⟨h1, h2⟩ | ⟨h1, h2⟩ <;> rw [h1] <;> constructor <;> omega
theorem c_bs_ok (si di kind sp dp sq ak fl wn : Int) (body : ByteArray) (hs : body.size ≤ 1073741824) (h : P.bsOk si di kind sp dp sq ak fl wn body = true) (S : ByteArray) (hS : P.buildSeg si di kind sp dp sq ak fl wn body = S) (w : World) :
    Calls Try.prog 41 #[.int .i64 si, .int .i64 di, .agg #[.int .i64 kind, .int .i64 sp, .int .i64 dp, .int .i64 sq, .int .i64 ak, .int .i64 fl, .int .i64 wn, .string body]] w fun e w' => e = .returned (.tuple #[.string S, .bool true]) ∧ Bel w w' :=
  (c_impl_BuildSegment si di kind sp dp sq ak fl wn body hs w).mono fun e w' ⟨he, hb⟩ => ⟨by rw [he, h, hS], hb⟩
theorem c_ps_ok (si di kind sp dp sq ak fl wn : Int) (body : ByteArray) (h : P.bsOk si di kind sp dp sq ak fl wn body = true) (S : ByteArray) (hS : P.buildSeg si di kind sp dp sq ak fl wn body = S) (hz : S.size ≤ 1073741824) (w : World) :
    Calls Try.prog 42 #[.int .i64 si, .int .i64 di, .int .i64 kind, .string S] w fun e w' => e = .returned (.tuple #[.agg #[.int .i64 kind, .int .i64 sp, .int .i64 dp, .int .i64 sq, .int .i64 ak, .int .i64 fl, .int .i64 wn, .string body], .bool true]) ∧ Bel w w' := by
  obtain ⟨g1, g2, g3, g4, g5, g6, g7, g8, g9⟩ := P.seg_round si di kind sp dp sq ak fl wn body h
  rw [hS] at g1 g2 g3 g4 g5 g6 g7 g8 g9
  exact (c_impl_ParseSegment si di kind S hz w).mono fun e w' ⟨he, hb⟩ => ⟨by rw [he, g1, g2, g3, g4, g5, g6, g7, g8, g9], hb⟩
theorem c_ps_bad (si di kind : Int) (s : ByteArray) (hz : s.size ≤ 1073741824) (h : P.psOk si di kind s = false) (w : World) :
    Calls Try.prog 42 #[.int .i64 si, .int .i64 di, .int .i64 kind, .string s] w fun e w' => e = .returned (.tuple #[.agg #[.int .i64 0, .int .i64 0, .int .i64 0, .int .i64 0, .int .i64 0, .int .i64 0, .int .i64 0, .string (P.bs [])], .bool false]) ∧ Bel w w' := by
  obtain ⟨g1, g2, g3, g4, g5, g6, g7, g8⟩ := P.ps_bad si di kind s h
  exact (c_impl_ParseSegment si di kind s hz w).mono fun e w' ⟨he, hb⟩ => ⟨by rw [he, g1, g2, g3, g4, g5, g6, g7, g8, h], hb⟩
end Go.Proofs.Ytnpnkkjdnmgbkaa
