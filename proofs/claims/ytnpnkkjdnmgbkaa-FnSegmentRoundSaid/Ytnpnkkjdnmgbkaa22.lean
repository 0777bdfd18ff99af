/-
  The contracts of the reference's draws, third part: halves of words, data. They say ranges and lengths alone.
-/
import Derived.Test.Ytnpnkkjdnmgbkaa21
namespace Go.Proofs.Ytnpnkkjdnmgbkaa
open Go.RowKit
set_option linter.unusedVariables false

/-- a text of at most n bytes -/
def TextUpTo (n : Nat) (v : Value) : Prop := ∃ s : ByteArray, v = .string s ∧ s.size ≤ n
/-- what a Draw function comes to: a text of at most n bytes; nothing that was there has turned -/
def DrewText (n : Nat) (w : World) (e : Ending) (w' : World) : Prop := ∃ s : ByteArray, s.size ≤ n ∧ e = .returned (.string s) ∧ Bel w w'
set_option maxHeartbeats 2000000 in
theorem c_l02Data (c : Src) (b : Nat) (w : World) (hc : Cur c b w) :
    Calls Try.prog 51 #[.pointer (some ⟨b, 0, none⟩)] w (Drew c b w (TextUpTo 30)) := by
  go_enter Try.func51, Try.ntmps51
  go_wp2_with fail
  refine (c_l01Once c b 4 _ hc (by omega)).mono ?_
  rintro e w1 ⟨v, ⟨x, rfl⟩, rfl, hb1, hc1⟩
  cases x with
  | true =>
    go_wp2_with fail
    refine (c_l01Below c b 12 _ hc1 (by omega)).mono ?_
    rintro e w2 ⟨v, ⟨y, rfl, hy0, hy1⟩, rfl, hb2, hc2⟩
    rw [if_neg (by omega)] at hy1
    obtain ⟨k, rfl⟩ := Int.eq_ofNat_of_zero_le hy0
    go_wp2_with fail
    refine (c_l01Below c b 2 _ hc2 (by omega)).mono ?_
    rintro e w3 ⟨v, ⟨z, rfl, hz0, hz1⟩, rfl, hb3, hc3⟩
    rw [if_neg (by omega)] at hz1
    have e1 : IntKind.u8.wrap (255 * z) = 255 * z := IntWalk.u8_in _ (by omega)
    go_wp2_with fail
    refine (c_spec_l01Long k (255 * z) (by omega) (by omega) _).mono ?_
    rintro e w4 ⟨rfl, hb4⟩
    go_wp2
    go_ret
    exact ⟨_, ⟨_, rfl, by rw [P.rep_size]; omega⟩, rfl, (by repeat (first | with_reducible assumption | with_reducible exact Bex.refl _ _ | with_reducible refine Bex.alloc ?_ _ | with_reducible refine Bex.drew ?_ | with_reducible refine Bex.drewN ?_ _ | with_reducible refine Bex.set ?_ _ _ | (refine Bex.trans ?_ (by with_reducible assumption)) | (refine Bex.of ?_ (by with_reducible assumption)))), (by repeat (first | with_reducible assumption | with_reducible refine Cur.alloc ?_ _ | with_reducible refine Cur.drew ?_ | with_reducible refine Cur.drewN ?_ _ | (refine Cur.next ?_ (by with_reducible assumption))))⟩
  | false =>
    go_wp2_with fail
    refine (c_l01Below c b 30 _ hc1 (by omega)).mono ?_
    rintro e w2 ⟨v, ⟨y, rfl, hy0, hy1⟩, rfl, hb2, hc2⟩
    rw [if_neg (by omega)] at hy1
    go_wp2_with fail
    refine (c_l01Text c b y _ hc2 (by omega)).mono ?_
    rintro e w3 ⟨v, ⟨s, rfl, hs⟩, rfl, hb3, hc3⟩
    go_wp2
    go_ret
    exact ⟨_, ⟨_, rfl, by omega⟩, rfl, (by repeat (first | with_reducible assumption | with_reducible exact Bex.refl _ _ | with_reducible refine Bex.alloc ?_ _ | with_reducible refine Bex.drew ?_ | with_reducible refine Bex.drewN ?_ _ | with_reducible refine Bex.set ?_ _ _ | (refine Bex.trans ?_ (by with_reducible assumption)) | (refine Bex.of ?_ (by with_reducible assumption)))), (by repeat (first | with_reducible assumption | with_reducible refine Cur.alloc ?_ _ | with_reducible refine Cur.drew ?_ | with_reducible refine Cur.drewN ?_ _ | (refine Cur.next ?_ (by with_reducible assumption))))⟩
theorem c_DrawData (W : World) (a : Option Addr) (len cap : Nat) (z : List Int) (w : World) (hrow : IsRow W a len cap z) (hsmall : len ≤ 1048576) (hW : Bel W w) :
    Calls Try.prog 14 #[.slice a len cap] w (DrewText 30 w) := by
  go_enter Try.func14, Try.ntmps14
  go_wp2_with fail
  refine (c_l01New W a len cap z w hrow hsmall hW).mono ?_
  rintro e w0 ⟨b, rfl, hb0, hnb, hc0⟩
  go_wp2_with fail
  refine (c_l02Data _ b _ hc0).mono ?_
  rintro e w1 ⟨v, ⟨s, rfl, hs⟩, rfl, hb1, hc1⟩
  go_wp2
  go_ret
  exact ⟨_, hs, rfl, hb0.bex (w' := w1) (b := b) (by repeat (first | with_reducible assumption | with_reducible exact Bex.refl _ _ | with_reducible refine Bex.alloc ?_ _ | with_reducible refine Bex.drew ?_ | with_reducible refine Bex.drewN ?_ _ | with_reducible refine Bex.set ?_ _ _ | (refine Bex.trans ?_ (by with_reducible assumption)) | (refine Bex.of ?_ (by with_reducible assumption)))) hnb⟩
end Go.Proofs.Ytnpnkkjdnmgbkaa
