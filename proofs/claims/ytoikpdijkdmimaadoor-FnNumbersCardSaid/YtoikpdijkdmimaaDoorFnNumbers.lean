/-
  FnNumbersCardSaid: exactly the numbers from 0 to MaxUint can be parsed from their decimal text. The library's table of powers reads as its initialiser lays it (tied).
-/
import Derived.Test.YtoikpdijkdmimaaDoorRows
import Derived.Test.YtoikpdijkdmimaaDoorOpen
import Derived.Test.YtoikpdijkdmimaaDoorItoa
import Derived.Test.YtoikpdijkdmimaaDoorRow
import Derived.Test.YtoikpdijkdmimaaDoor31
import Derived.Test.YtoikpdijkdmimaaDoor25
import Derived.Test.YtoikpdijkdmimaaDoorPureI
import Derived.Test.YtoikpdijkdmimaaDoorCards
import Derived.Test.YtoikpdijkdmimaaDoorTie
import Derived.ChangeOld
import Derived.OpenShut
import Derived.ProofKit
import Derived.LaidMore
import Derived.Stop.Joined
import Derived.SevenTiedAt
namespace Go.Proofs.YtoikpdijkdmimaaDoor.fnNumbers
open Go.ChangeShapes Go.WideShapes Go.ChangeAt Go.RowKit Go.WideMaps Go.WideElems
set_option linter.unusedVariables false

set_option maxHeartbeats 1000000 in
theorem walk (a0 : Option Addr) (len0 cap0 : Nat) (z0 : List Int) (w : World) (w0 : IsRow w a0 len0 cap0 z0) (hT : Tab w) :
    Calls Tryd.prog 4 #[.slice a0 len0 cap0] w fun e w' => e = .returned (.bool true) ∧ Bel w w' := by
  by_cases hbig : (len0 : Int) ≤ 1048576
  · have hsm : len0 ≤ 1048576 := by omega
    go_enter Tryd.func4, Tryd.ntmps4
    go_wp2_with (go_at_call 9; go_in)
    refine (c_DrawFormatInt w a0 len0 cap0 z0 w w0 hsm (Bel.refl w)).mono ?_
    rintro e w1 ⟨n, rfl, hn, hb⟩
    obtain ⟨hz1, hz2⟩ := P.num_size n hn
    have p1 := fun h => P.num_neg n h
    have p2 := fun h => P.num_pos n h
    obtain ⟨S, hS⟩ : ∃ S, P.bs (Lib.itoa n) = S := ⟨_, rfl⟩
    rw [hS] at p1 p2 hz1 hz2
    have hss : S.size ≤ 1073741824 := by omega
    have hne := P.toList_ne S hz1
    have HS := Lib.hid hS
    clear hS hz1 hz2
    by_cases h0 : n < 0
    · have H1 := Lib.hid (p1 h0)
      have h0' : ¬ 0 ≤ n := by omega
      clear p1 p2
      obtain ⟨v, hv⟩ : ∃ v, P.puV S = v := ⟨_, rfl⟩
      have HV := Lib.hid hv
      clear hv
      go_wp2_with (first | (go_at_call 8; refine (c_impl_FormatInt n hn _ (hT.bel hb)).mono ?_; rintro e w2 ⟨he, h2⟩; rw [HS.out] at he; subst he) | (go_at_call 11; refine (c_impl_ParseUint S hss _).mono ?_; rintro e w3 ⟨he, h3⟩; rw [HV.out, H1.out] at he; subst he))
      go_ret
      exact ⟨rfl, (by repeat (first | with_reducible assumption | with_reducible exact Bel.refl _ | with_reducible refine Bel.alloc ?_ _ | with_reducible refine Bel.drew ?_ | with_reducible refine Bel.drewN ?_ _ | with_reducible refine Bel.setCell ?_ ?_ _ | with_reducible exact Nat.le_refl _ | (dsimp only; omega) | (refine Bel.trans ?_ (by with_reducible assumption))))⟩
    · obtain ⟨q1, q2⟩ := p2 (by omega)
      have h0' : 0 ≤ n := by omega
      clear p1 p2
      by_cases h1 : n ≤ 1000000000
      · have q3 := q2 h1
        rw [decide_eq_true h1] at q1
        have H1 := Lib.hid q1
        have HV := Lib.hid q3
        clear q1 q2 q3
        go_wp2_with (first | (go_at_call 8; refine (c_impl_FormatInt n hn _ (hT.bel hb)).mono ?_; rintro e w2 ⟨he, h2⟩; rw [HS.out] at he; subst he) | (go_at_call 11; refine (c_impl_ParseUint S hss _).mono ?_; rintro e w3 ⟨he, h3⟩; rw [HV.out, H1.out] at he; subst he))
        go_ret
        exact ⟨rfl, (by repeat (first | with_reducible assumption | with_reducible exact Bel.refl _ | with_reducible refine Bel.alloc ?_ _ | with_reducible refine Bel.drew ?_ | with_reducible refine Bel.drewN ?_ _ | with_reducible refine Bel.setCell ?_ ?_ _ | with_reducible exact Nat.le_refl _ | (dsimp only; omega) | (refine Bel.trans ?_ (by with_reducible assumption))))⟩
      · rw [decide_eq_false h1] at q1
        have H1 := Lib.hid q1
        clear q1 q2
        obtain ⟨v, hv⟩ : ∃ v, P.puV S = v := ⟨_, rfl⟩
        have HV := Lib.hid hv
        clear hv
        go_wp2_with (first | (go_at_call 8; refine (c_impl_FormatInt n hn _ (hT.bel hb)).mono ?_; rintro e w2 ⟨he, h2⟩; rw [HS.out] at he; subst he) | (go_at_call 11; refine (c_impl_ParseUint S hss _).mono ?_; rintro e w3 ⟨he, h3⟩; rw [HV.out, H1.out] at he; subst he))
        go_ret
        exact ⟨rfl, (by repeat (first | with_reducible assumption | with_reducible exact Bel.refl _ | with_reducible refine Bel.alloc ?_ _ | with_reducible refine Bel.drew ?_ | with_reducible refine Bel.drewN ?_ _ | with_reducible refine Bel.setCell ?_ ?_ _ | with_reducible exact Nat.le_refl _ | (dsimp only; omega) | (refine Bel.trans ?_ (by with_reducible assumption))))⟩
  · have hbig2 : len0 ≤ 9223372036854775807 := w0.small
    go_enter Tryd.func4, Tryd.ntmps4
    go_wp2_with (go_at_call 9; go_in)
    go_ret
    exact ⟨rfl, Bel.refl _⟩
theorem own : ownKnob Tryd.prog.godebug = none := by kernel_rfl
theorem laidOut : laidOutB Tryd.prog = true := by kernel_rfl
theorem door_met (os : Os) (args : Array Value) : laidMetH Tryd.prog Rows.fnNumbersRow.laid ((World.doorLaid Tryd.prog 24 os).forCall (fun _ _ => 0) ⟨#[], args, []⟩).memory :=
  laidMetH_of_parts3 (fuel := 8) (laidMet_of_run' 8 (by kernel_rfl) (by kernel_rfl)) (by kernel_rfl) (by kernel_rfl)

set_option maxRecDepth 100000 in
theorem lifted (os : Os) (started : os.Started) (H : Type) (enc : TypeId × Value → H) :
    ReturnsInHanded {} Tryd.checked os 4 .any (fun w args => (Rows.fnNumbersSpec.pre enc Tryd.prog Tryd.f4 [] false w args ∧ laidMetH Tryd.prog Rows.fnNumbersRow.laid w) ∧ sizedMet enc Tryd.prog Tryd.f4 (OpenSpec.ofChange Rows.fnNumbersSpec) false w args)
      (Rows.fnNumbersSpec.post enc Tryd.prog Tryd.f4 false true false false) := by
  refine returnsInHanded_of_change_and (C := Tryd.checked) (X := fun w _ => laidMetH Tryd.prog Rows.fnNumbersRow.laid w) (fun _ _ _ hh h => h.of_heap hh) own started (by kernel_rfl) Tryd.func4
    (ChangeSpec.witness_shaped (enc := enc) (C := Tryd.checked) (os := os) (X := fun w _ => laidMetH Tryd.prog Rows.fnNumbersRow.laid w) false (World.doorLaid Tryd.prog 24 os) #[.slice none 0 0] 8 rfl (World.shaped_of_RefB (by kernel_rfl) (by kernel_rfl)) (by kernel_rfl) (by kernel_rfl) (by kernel_rfl) (door_met os _)) ?_
  intro W base args ds gs before hval0 hW _ _ hL _
  have hval : ∀ (j : Nat) t v, Tryd.f4.params[j]? = some t → args[j]? = some v → Value.okWide Tryd.prog W .any base t v := hval0
  have hT := tab_of_laid hL
  have hW' := hW
  obtain ⟨p, q, hA0, hV, rfl, hfz, hnd⟩ := hW
  have hA : DataW.TrodAll enc Tryd.prog W 0 (fun _ => true) true Tryd.f4.params.toList args.toList ds p := hA0
  rw [Tryd.params4] at hA hval
  obtain ⟨v0, vs0, d0, ds0, p0, q0, hargs, rfl, rfl, h0, r0⟩ := trodAll_cons hA
  obtain ⟨rfl, rfl, rfl⟩ := trodAll_nil r0
  obtain rfl : args = #[v0] := by cases args; simp_all
  obtain ⟨rfl, rfl⟩ := trodVars_none hV
  have k0 := h0
  have lt0 : ∀ x ∈ p0, x.block < W.heap.size := by obtain ⟨m, hm⟩ := k0; exact DataW.trod_lt m _ _ _ hm
  obtain ⟨a0, len0, cap0, z0, rfl, w0⟩ := val_bytes (hval 0 _ v0 rfl rfl) k0
  clear hA0 hval0
  refine (walk a0 len0 cap0 z0 W w0 hT).mono fun e W' ⟨he, bel⟩ => ?_
  subst he
  exact ⟨_, rfl, _, _, _, [], _, [], hW', trodAll_mk1 (shut_bool Tryd.underlying4 _), (trodAll_cons_mk (Below.trod laidOut (by kernel_rfl) (of_decide_eq_true (by kernel_rfl)) k0 bel lt0) trodAll_mk0), rfl, Below.frame bel _, fun h => by cases h⟩

theorem over : Rows.fnNumbersRow.holds Tryd.pinned (OpenSpec.ofChange Rows.fnNumbersSpec) :=
  OpenClaim.holds_of_wide 4 Tryd.f4 rfl rfl rfl rfl rfl rfl rfl ⟨rfl, rfl, rfl, rfl, rfl⟩ rfl rfl rfl rfl rfl (by kernel_rfl) Tryd.func4 (by kernel_rfl)
    (of_decide_eq_true (by kernel_rfl)) (by unfold Func.isWrapper; first | (rw [if_pos (by decide +kernel)]; kernel_rfl) | (rw [if_neg (by decide +kernel)]; exact ⟨rfl, rfl⟩))
    (fun os started H enc _ => lifted os started H enc)

theorem proved : Rows.FnNumbersCardSaid :=
  Claim7.holds_tied_plain_at .later [] [.data, .data, .data] true _ false
    over (fun _ h => by cases h) (by kernel_rfl) (fun _ h => by cases h) fnNumbers_row_tie rfl ⟨rfl, rfl⟩ (by kernel_rfl) rfl
    (fun f fn hf hfn => by
      obtain rfl : f = 4 := Option.some.inj ((show Tryd.prog.funcNamed Rows.fnNumbersRow.func = some 4 by kernel_rfl).symm.trans hf) |>.symm
      obtain rfl : fn = Tryd.f4 := (Option.some.inj (Tryd.func4.symm.trans hfn)).symm
      exact ⟨by kernel_rfl, fun j t ht => by
        rw [Tryd.params4] at ht
        have hm : t ∈ [24] := by simpa using Array.mem_of_getElem? ht
        have hall : ([24].all fun u => !Tryd.prog.wantsStandIn u) = true := by kernel_rfl
        exact (show Tryd.prog.wantsStandIn t = false by simpa using List.all_eq_true.1 hall t hm)⟩)
    (by kernel_rfl)
#print axioms proved
end Go.Proofs.YtoikpdijkdmimaaDoor.fnNumbers
