/-
  The contracts of the reference's draws, third part: halves of words, data. They say ranges and lengths alone.
-/
import Derived.Test.YtoikpdijkdmimaaDoor21
namespace Go.Proofs.YtoikpdijkdmimaaDoor
open Go.RowKit
set_option linter.unusedVariables false

/-- a text of at most n bytes -/
def TextUpTo (n : Nat) (v : Value) : Prop := ∃ s : ByteArray, v = .string s ∧ s.size ≤ n
/-- what a Draw function comes to: a text of at most n bytes; nothing that was there has turned -/
def DrewText (n : Nat) (w : World) (e : Ending) (w' : World) : Prop := ∃ s : ByteArray, s.size ≤ n ∧ e = .returned (.string s) ∧ Bel w w'
set_option maxHeartbeats 2000000 in
theorem c_DrawEncodeHex (W : World) (a : Option Addr) (len cap : Nat) (z : List Int) (w : World) (hrow : IsRow W a len cap z) (hsmall : len ≤ 1048576) (hW : Bel W w) :
    Calls Tryd.prog 12 #[.slice a len cap] w (DrewText 20001 w) := by
  go_enter Tryd.func12, Tryd.ntmps12
  go_wp2_with fail
  refine (c_l01New W a len cap z w hrow hsmall hW).mono ?_
  rintro e w0 ⟨b, rfl, hb0, hnb, hc0⟩
  go_wp2_with fail
  refine (c_l01Once _ b 60 _ hc0 (by omega)).mono ?_
  rintro e w1 ⟨v, ⟨x, rfl⟩, rfl, hb1, hc1⟩
  cases x with
  | true =>
    go_wp2_with fail
    refine (c_l01Below _ b 2 _ hc1 (by omega)).mono ?_
    rintro e w2 ⟨v, ⟨y, rfl, hy0, hy1⟩, rfl, hb2, hc2⟩
    rw [if_neg (by omega)] at hy1
    obtain ⟨k, rfl⟩ := Int.eq_ofNat_of_zero_le hy0
    go_wp2_with fail
    refine (c_spec_l01Long (20000 + k) 200 (by omega) (by omega) _).mono ?_
    rintro e w3 ⟨rfl, hb3⟩
    go_wp2
    go_ret
    exact ⟨_, by rw [P.rep_size]; omega, rfl, hb0.bex (w' := w3) (b := b) (by repeat (first | with_reducible assumption | with_reducible exact Bex.refl _ _ | with_reducible refine Bex.alloc ?_ _ | with_reducible refine Bex.drew ?_ | with_reducible refine Bex.drewN ?_ _ | with_reducible refine Bex.set ?_ _ _ | (refine Bex.trans ?_ (by with_reducible assumption)) | (refine Bex.of ?_ (by with_reducible assumption)))) hnb⟩
  | false =>
    go_wp2_with fail
    refine (c_l01Below _ b 30 _ hc1 (by omega)).mono ?_
    rintro e w2 ⟨v, ⟨y, rfl, hy0, hy1⟩, rfl, hb2, hc2⟩
    rw [if_neg (by omega)] at hy1
    go_wp2_with fail
    refine (c_l01Text _ b y _ hc2 (by omega)).mono ?_
    rintro e w3 ⟨v, ⟨s, rfl, hs⟩, rfl, hb3, hc3⟩
    go_wp2
    go_ret
    exact ⟨_, by omega, rfl, hb0.bex (w' := w3) (b := b) (by repeat (first | with_reducible assumption | with_reducible exact Bex.refl _ _ | with_reducible refine Bex.alloc ?_ _ | with_reducible refine Bex.drew ?_ | with_reducible refine Bex.drewN ?_ _ | with_reducible refine Bex.set ?_ _ _ | (refine Bex.trans ?_ (by with_reducible assumption)) | (refine Bex.of ?_ (by with_reducible assumption)))) hnb⟩
end Go.Proofs.YtoikpdijkdmimaaDoor
