/-
  FnCrcSeesSaid: every flipped bit is noticed, and what was protected can be checked. No condition.
-/
import Derived.Test.YtnpnkkjdnmgbkaaRows
import Derived.Test.YtnpnkkjdnmgbkaaOpen
import Derived.Test.YtnpnkkjdnmgbkaaRow
import Derived.Test.Ytnpnkkjdnmgbkaa22
import Derived.Test.Ytnpnkkjdnmgbkaa03
import Derived.Test.Ytnpnkkjdnmgbkaa11i
import Derived.Test.Ytnpnkkjdnmgbkaa23
import Derived.ChangeOld
import Derived.OpenShut
namespace Go.Proofs.Ytnpnkkjdnmgbkaa.fnCrcSees
open Go.ChangeShapes Go.WideShapes Go.ChangeAt Go.RowKit
set_option linter.unusedVariables false

theorem crc_nine : P.crc32 ⟨#[49, 50, 51, 52, 53, 54, 55, 56, 57]⟩ = 3421780262 := by decide +kernel
set_option maxHeartbeats 1000000 in
theorem walk (a0 : Option Addr) (len0 cap0 : Nat) (z0 : List Int) (w : World) (w0 : IsRow w a0 len0 cap0 z0) :
    Calls Try.prog 3 #[.slice a0 len0 cap0] w fun e w' => e = .returned (.bool true) ∧ Bel w w' := by
  by_cases hbig : (len0 : Int) ≤ 1048576
  · have hsm : len0 ≤ 1048576 := by omega
    go_enter Try.func3, Try.ntmps3
    go_wp2_with (go_at_call 13; go_in)
    refine (c_DrawData w a0 len0 cap0 z0 w w0 hsm (Bel.refl w)).mono ?_
    rintro e w1 ⟨s0, hs0, rfl, hb⟩
    obtain ⟨x0, hx0, hl0⟩ : ∃ x : Nat, atV len0 z0 0 = (x : Int) ∧ x ≤ 255 := by have := atV_range w0 0; exact ⟨(atV len0 z0 0).toNat, by omega, by omega⟩
    have A0 := Lib.hid hx0
    clear hx0
    obtain ⟨x1, hx1, hl1⟩ : ∃ x : Nat, atV len0 z0 1 = (x : Int) ∧ x ≤ 255 := by have := atV_range w0 1; exact ⟨(atV len0 z0 1).toNat, by omega, by omega⟩
    have A1 := Lib.hid hx1
    clear hx1
    
    have hz := P.withFcs_size s0
    obtain ⟨f1, f2⟩ := P.fcs_with s0
    obtain ⟨t, ht⟩ : ∃ t, P.withFcs s0 = t := ⟨_, rfl⟩
    have f3 := P.fcs_bend t (by rw [← ht]; exact f1) (x0 * 256 + x1)
    have f4 := (P.bend_facts t (x0 * 256 + x1) (by rw [← ht, hz]; omega)).1
    obtain ⟨u, hu⟩ : ∃ u, P.bend t (x0 * 256 + x1) = u := ⟨_, rfl⟩
    rw [hu] at f3 f4
    rw [ht] at f1 f2 hz
    have HF := Lib.hid (And.intro f1 f2)
    have HG := Lib.hid f3
    have HT := Lib.hid ht
    have HU := Lib.hid hu
    have hus : u.size ≤ 1073741824 := by omega
    have hts : t.size ≤ 1073741824 := by omega
    clear f1 f2 f3 f4 ht hu
    go_wp2_with (first | (go_at_call 18; refine (c_atII w a0 len0 cap0 z0 _ _ _ (by first | exact ⟨0, rfl, by decide, A0.out⟩ | exact ⟨1, rfl, by decide, A1.out⟩) w0 hsm (by repeat (first | with_reducible assumption | with_reducible exact Bel.refl _ | with_reducible refine Bel.alloc ?_ _ | with_reducible refine Bel.drew ?_ | with_reducible refine Bel.drewN ?_ _ | with_reducible refine Bel.setCell ?_ ?_ _ | with_reducible exact Nat.le_refl _ | (dsimp only; omega) | (refine Bel.trans ?_ (by with_reducible assumption))))).mono ?_; rintro e w' ⟨rfl, hb⟩) | (go_at_call 15; refine (c_impl_WithFcs _ (by omega) _).mono ?_; rintro e w' ⟨he, hb⟩; rw [HT.out] at he; subst he) | (go_at_call 16; refine (c_impl_CheckFcs _ (by first | exact hts | exact hus) _).mono ?_; rintro e w' ⟨he, hb⟩; (first | rw [HF.out.1, HF.out.2] at he | rw [HG.out] at he); subst he) | (go_at_call 17; refine (c_bendI t u hts _ (x0 * 256 + x1) (by omega) HU.out (by omega) _).mono ?_; rintro e w' ⟨rfl, hb⟩) | (go_at_call 19; refine (c_impl_Crc32 _ (by decide) _).mono ?_; rintro e w' ⟨he, rfl⟩; rw [crc_nine] at he; subst he))
    go_ret
    exact ⟨rfl, (by repeat (first | with_reducible assumption | with_reducible exact Bel.refl _ | with_reducible refine Bel.alloc ?_ _ | with_reducible refine Bel.drew ?_ | with_reducible refine Bel.drewN ?_ _ | with_reducible refine Bel.setCell ?_ ?_ _ | with_reducible exact Nat.le_refl _ | (dsimp only; omega) | (refine Bel.trans ?_ (by with_reducible assumption))))⟩
  · have hbig2 : len0 ≤ 9223372036854775807 := w0.small
    go_enter Try.func3, Try.ntmps3
    go_wp2_with (go_at_call 13; go_in)
    go_ret
    exact ⟨rfl, Bel.refl _⟩
theorem own : ownKnob Try.prog.godebug = none := by kernel_rfl
theorem laidOut : laidOutB Try.prog = true := by kernel_rfl

set_option maxRecDepth 100000 in
theorem lifted (os : Os) (started : os.Started) (H : Type) (enc : TypeId × Value → H) :
    ReturnsInHanded {} Try.checked os 3 .any (Rows.fnCrcSeesSpec.pre6 enc Try.prog Try.f3 Rows.fnCrcSeesRow.domain false) (Rows.fnCrcSeesSpec.post enc Try.prog Try.f3 false true false false) := by
  refine returnsInHanded_of_change (C := Try.checked) own started (by kernel_rfl) Try.func3
    (ChangeSpec.witness6 (enc := enc) (C := Try.checked) false ⟨#[], #[.slice none 0 0], []⟩ 8 (by kernel_rfl) (by kernel_rfl) (by kernel_rfl) (by kernel_rfl)) ?_
  intro W base args ds gs before hval0 hW hcnd _
  have hval : ∀ (j : Nat) t v, Try.f3.params[j]? = some t → args[j]? = some v → Value.okWide Try.prog W .any base t v := hval0
  have hW' := hW
  obtain ⟨p, q, hA0, hV, rfl, hfz, hnd⟩ := hW
  have hA : DataW.TrodAll enc Try.prog W 0 (fun _ => true) true Try.f3.params.toList args.toList ds p := hA0
  rw [Try.params3] at hA hval
  obtain ⟨v0, vs0, d0, ds0, p0, q0, hargs, rfl, rfl, h0, r0⟩ := trodAll_cons hA
  obtain ⟨rfl, rfl, rfl⟩ := trodAll_nil r0
  obtain rfl : args = #[v0] := by cases args; simp_all
  obtain ⟨rfl, rfl⟩ := trodVars_none hV
  have k0 := h0
  have lt0 : ∀ x ∈ p0, x.block < W.heap.size := by obtain ⟨m, hm⟩ := k0; exact DataW.trod_lt m _ _ _ hm
  obtain ⟨a0, len0, cap0, z0, rfl, w0⟩ := val_bytes (hval 0 _ v0 rfl rfl) k0
  clear hA0 hval0
  refine (walk a0 len0 cap0 z0 W w0).mono fun e W' ⟨he, bel⟩ => ?_
  subst he
  exact ⟨_, rfl, _, _, _, [], _, [], hW', trodAll_mk1 (shut_bool Try.underlying4 _), (trodAll_cons_mk (Below.trod laidOut (by kernel_rfl) (of_decide_eq_true (by kernel_rfl)) k0 bel lt0) trodAll_mk0), rfl, Below.frame bel _, fun h => by cases h⟩

theorem over : Rows.fnCrcSeesRow.holds Try.pinned (OpenSpec.ofChange Rows.fnCrcSeesSpec) :=
  OpenClaim.holds_of_wide 3 Try.f3 rfl rfl rfl rfl rfl rfl rfl ⟨rfl, rfl, rfl, rfl, rfl⟩ rfl rfl rfl rfl rfl (by kernel_rfl) Try.func3 (by kernel_rfl)
    (of_decide_eq_true (by kernel_rfl)) (by unfold Func.isWrapper; first | (rw [if_pos (by decide +kernel)]; kernel_rfl) | (rw [if_neg (by decide +kernel)]; exact ⟨rfl, rfl⟩))
    (fun os started H enc _ => lifted os started H enc)

theorem proved : Rows.FnCrcSeesSaid := over
#print axioms proved
end Go.Proofs.Ytnpnkkjdnmgbkaa.fnCrcSees
