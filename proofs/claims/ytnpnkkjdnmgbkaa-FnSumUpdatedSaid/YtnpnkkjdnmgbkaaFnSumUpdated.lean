/-
  FnSumUpdatedSaid: an updated checksum is the one of the changed data, unless these are all zero. No condition.
-/
import Derived.Test.YtnpnkkjdnmgbkaaRows
import Derived.Test.YtnpnkkjdnmgbkaaOpen
import Derived.Test.YtnpnkkjdnmgbkaaRow
import Derived.Test.Ytnpnkkjdnmgbkaa22
import Derived.Test.Ytnpnkkjdnmgbkaa02
import Derived.Test.Ytnpnkkjdnmgbkaa23
import Derived.Test.YtnpnkkjdnmgbkaaPureH
import Derived.ChangeOld
import Derived.OpenShut
namespace Go.Proofs.Ytnpnkkjdnmgbkaa.fnSumUpdated
open Go.ChangeShapes Go.WideShapes Go.ChangeAt Go.RowKit
set_option linter.unusedVariables false

set_option maxHeartbeats 1000000 in
theorem walk (a0 : Option Addr) (len0 cap0 : Nat) (z0 : List Int) (w : World) (w0 : IsRow w a0 len0 cap0 z0) :
    Calls Try.prog 6 #[.slice a0 len0 cap0] w fun e w' => e = .returned (.bool true) ∧ Bel w w' := by
  by_cases hbig : (len0 : Int) ≤ 1048576
  · have hsm : len0 ≤ 1048576 := by omega
    go_enter Try.func6, Try.ntmps6
    go_wp2_with (go_at_call 13; go_in)
    refine (c_DrawData w a0 len0 cap0 z0 w w0 hsm (Bel.refl w)).mono ?_
    rintro e w1 ⟨s0, hs0, rfl, hb⟩
    obtain ⟨x0, hx0, hl0⟩ : ∃ x : Nat, atV len0 z0 0 = (x : Int) ∧ x ≤ 255 := by have := atV_range w0 0; exact ⟨(atV len0 z0 0).toNat, by omega, by omega⟩
    have A0 := Lib.hid hx0
    clear hx0
    obtain ⟨x1, hx1, hl1⟩ : ∃ x : Nat, atV len0 z0 1 = (x : Int) ∧ x ≤ 255 := by have := atV_range w0 1; exact ⟨(atV len0 z0 1).toNat, by omega, by omega⟩
    have A1 := Lib.hid hx1
    clear hx1
    obtain ⟨x2, hx2, hl2⟩ : ∃ x : Nat, atV len0 z0 2 = (x : Int) ∧ x ≤ 255 := by have := atV_range w0 2; exact ⟨(atV len0 z0 2).toNat, by omega, by omega⟩
    have A2 := Lib.hid hx2
    clear hx2
    go_wp2_with fail
    obtain ⟨s, hS⟩ : ∃ s, s0 ++ ⟨#[97, 98]⟩ = s := ⟨_, rfl⟩
    have hsz : s.size = s0.size + 2 := by rw [← hS, ByteArray.size_append]; rfl
    rw [hS]
    clear hS
    have h6 : 2 ≤ s.size := by omega
    have h36 : s.size ≤ 36 := by omega
    clear hsz
    refine (c_atII w a0 len0 cap0 z0 _ _ _ (by exact ⟨0, rfl, by decide, A0.out⟩) w0 hsm (by repeat (first | with_reducible assumption | with_reducible exact Bel.refl _ | with_reducible refine Bel.alloc ?_ _ | with_reducible refine Bel.drew ?_ | with_reducible refine Bel.drewN ?_ _ | with_reducible refine Bel.setCell ?_ ?_ _ | with_reducible exact Nat.le_refl _ | (dsimp only; omega) | (refine Bel.trans ?_ (by with_reducible assumption))))).mono ?_
    rintro e y0 ⟨rfl, hy0⟩
    
    obtain ⟨j, hj⟩ : ∃ j : Nat, x0 % (s.size / 2) = j := ⟨_, rfl⟩
    have hj2 : 2 * j + 2 ≤ s.size := by have := Nat.mod_lt x0 (show 0 < s.size / 2 by omega); omega
    have hm : (x0 : Int) % ((s.size : Int) / 2) = (j : Int) := by rw [show (s.size : Int) / 2 = ((s.size / 2 : Nat) : Int) by omega, ← Int.natCast_emod, hj]
    obtain ⟨k, hk⟩ : ∃ k : Nat, 2 * j = k := ⟨_, rfl⟩
    have hm2 : (j : Int) * 2 = (k : Int) := by omega
    clear hj
    go_wp2_with fail
    refine (c_atII w a0 len0 cap0 z0 _ _ _ (by exact ⟨1, rfl, by decide, A1.out⟩) w0 hsm (by repeat (first | with_reducible assumption | with_reducible exact Bel.refl _ | with_reducible refine Bel.alloc ?_ _ | with_reducible refine Bel.drew ?_ | with_reducible refine Bel.drewN ?_ _ | with_reducible refine Bel.setCell ?_ ?_ _ | with_reducible exact Nat.le_refl _ | (dsimp only; omega) | (refine Bel.trans ?_ (by with_reducible assumption))))).mono ?_
    rintro e y1 ⟨rfl, hy1⟩
    clear hm2 hm
    obtain ⟨v, hv⟩ : ∃ v : Int, (x1 : Int) * 256 + x2 = v := ⟨_, rfl⟩
    have hv0 : 0 ≤ v ∧ v ≤ 65535 := by omega
    
    obtain ⟨t, ht⟩ : ∃ t, P.putBytes s (k : Int) (P.word16 v) = t := ⟨_, rfl⟩
    have hzt : t.size = s.size := by rw [← ht, P.putBytes_size]
    have r1 := P.get16_put s (2 * j) v hv0 hj2
    have r2 := P.get16_word s j hj2
    have r3 := P.law_updated s j hj2 v hv0
    have r4 := P.law_updated0 s j hj2 v hv0
    rw [hk] at r1 r2 r3 r4
    rw [ht] at r1 r3 r4
    clear hk
    have tr := P.sumWords_range t
    have ts1 : t.size ≤ 1073741824 := by omega
    have ss1 : s.size ≤ 1073741824 := by omega
    have HT := Lib.hid ht
    have H2 := Lib.hid r2
    clear ht r2
    obtain ⟨q, hq⟩ : ∃ q, P.sumWords t = q := ⟨_, rfl⟩
    rw [hq] at r3 r4 tr
    have HQ := Lib.hid hq
    clear hq
    by_cases hz : q = 0
    · have H1 := Lib.hid (r1.trans (r4 hz))
      clear r1 r3 r4
      subst hz
      go_wp2_with (first | (go_at_call 18; refine (c_atII w a0 len0 cap0 z0 _ _ _ (by first | exact ⟨0, rfl, by decide, A0.out⟩ | exact ⟨1, rfl, by decide, A1.out⟩ | exact ⟨2, rfl, by decide, A2.out⟩) w0 hsm (by repeat (first | with_reducible assumption | with_reducible exact Bel.refl _ | with_reducible refine Bel.alloc ?_ _ | with_reducible refine Bel.drew ?_ | with_reducible refine Bel.drewN ?_ _ | with_reducible refine Bel.setCell ?_ ?_ _ | with_reducible exact Nat.le_refl _ | (dsimp only; omega) | (refine Bel.trans ?_ (by with_reducible assumption))))).mono ?_; rintro e w' ⟨rfl, hb⟩) | (go_at_call 21; refine (c_impl_Word16 _ _).mono ?_; rintro e w' ⟨rfl, hb⟩) | (go_at_call 24; refine (c_impl_PutBytes _ _ _ (by first | exact ss1 | exact ts1) (by first | exact Nat.le_trans (P.word16_size_le _) (by decide) | exact Nat.le_trans (P.word32_size_le _) (by decide) | (rw [ByteArray.size_extract]; omega)) _).mono ?_; rintro e w' ⟨he, hb⟩; rw [HT.out] at he; subst he) | (go_at_call 23; refine (c_impl_Get16 _ _ (by first | exact ss1 | exact ts1) _).mono ?_; rintro e w' ⟨he, hb⟩; (first | rw [H1.out] at he | rw [H2.out] at he); subst he) | (go_at_call 28; refine (c_spec_SumWords _ (by first | exact ss1 | exact ts1) _).mono ?_; rintro e w' ⟨he, rfl⟩; rw [HQ.out] at he; subst he))
      go_ret
      exact ⟨rfl, (by repeat (first | with_reducible assumption | with_reducible exact Bel.refl _ | with_reducible refine Bel.alloc ?_ _ | with_reducible refine Bel.drew ?_ | with_reducible refine Bel.drewN ?_ _ | with_reducible refine Bel.setCell ?_ ?_ _ | with_reducible exact Nat.le_refl _ | (dsimp only; omega) | (refine Bel.trans ?_ (by with_reducible assumption))))⟩
    · have r5 := r3 hz
      clear r3 r4
      have hqb : (q == 0) = false := by simpa using hz
      have H5 := Lib.hid r5
      clear r5
      go_wp2_with (first | (go_at_call 18; refine (c_atII w a0 len0 cap0 z0 _ _ _ (by first | exact ⟨0, rfl, by decide, A0.out⟩ | exact ⟨1, rfl, by decide, A1.out⟩ | exact ⟨2, rfl, by decide, A2.out⟩) w0 hsm (by repeat (first | with_reducible assumption | with_reducible exact Bel.refl _ | with_reducible refine Bel.alloc ?_ _ | with_reducible refine Bel.drew ?_ | with_reducible refine Bel.drewN ?_ _ | with_reducible refine Bel.setCell ?_ ?_ _ | with_reducible exact Nat.le_refl _ | (dsimp only; omega) | (refine Bel.trans ?_ (by with_reducible assumption))))).mono ?_; rintro e w' ⟨rfl, hb⟩) | (go_at_call 21; refine (c_impl_Word16 _ _).mono ?_; rintro e w' ⟨rfl, hb⟩) | (go_at_call 24; refine (c_impl_PutBytes _ _ _ (by first | exact ss1 | exact ts1) (by first | exact Nat.le_trans (P.word16_size_le _) (by decide) | exact Nat.le_trans (P.word32_size_le _) (by decide) | (rw [ByteArray.size_extract]; omega)) _).mono ?_; rintro e w' ⟨he, hb⟩; rw [HT.out] at he; subst he) | (go_at_call 23; refine (c_impl_Get16 _ _ (by first | exact ss1 | exact ts1) _).mono ?_; rintro e w' ⟨he, hb⟩; (first | rw [H1.out] at he | rw [H2.out] at he); subst he) | (go_at_call 28; refine (c_spec_SumWords _ (by first | exact ss1 | exact ts1) _).mono ?_; rintro e w' ⟨he, rfl⟩; rw [HQ.out] at he; subst he) | (go_at_call 20; refine (c_impl_Checksum _ (by first | exact ss1 | exact ts1) _).mono ?_; rintro e w' ⟨rfl, rfl⟩) | (go_at_call 29; refine (c_impl_UpdateChecksum _ _ _ _).mono ?_; rintro e w' ⟨he, rfl⟩; rw [H5.out] at he; subst he))
      go_ret
      exact ⟨rfl, (by repeat (first | with_reducible assumption | with_reducible exact Bel.refl _ | with_reducible refine Bel.alloc ?_ _ | with_reducible refine Bel.drew ?_ | with_reducible refine Bel.drewN ?_ _ | with_reducible refine Bel.setCell ?_ ?_ _ | with_reducible exact Nat.le_refl _ | (dsimp only; omega) | (refine Bel.trans ?_ (by with_reducible assumption))))⟩
  · have hbig2 : len0 ≤ 9223372036854775807 := w0.small
    go_enter Try.func6, Try.ntmps6
    go_wp2_with (go_at_call 13; go_in)
    go_ret
    exact ⟨rfl, Bel.refl _⟩
theorem own : ownKnob Try.prog.godebug = none := by kernel_rfl
theorem laidOut : laidOutB Try.prog = true := by kernel_rfl

set_option maxRecDepth 100000 in
theorem lifted (os : Os) (started : os.Started) (H : Type) (enc : TypeId × Value → H) :
    ReturnsInHanded {} Try.checked os 6 .any (Rows.fnSumUpdatedSpec.pre6 enc Try.prog Try.f6 Rows.fnSumUpdatedRow.domain false) (Rows.fnSumUpdatedSpec.post enc Try.prog Try.f6 false true false false) := by
  refine returnsInHanded_of_change (C := Try.checked) own started (by kernel_rfl) Try.func6
    (ChangeSpec.witness6 (enc := enc) (C := Try.checked) false ⟨#[], #[.slice none 0 0], []⟩ 8 (by kernel_rfl) (by kernel_rfl) (by kernel_rfl) (by kernel_rfl)) ?_
  intro W base args ds gs before hval0 hW hcnd _
  have hval : ∀ (j : Nat) t v, Try.f6.params[j]? = some t → args[j]? = some v → Value.okWide Try.prog W .any base t v := hval0
  have hW' := hW
  obtain ⟨p, q, hA0, hV, rfl, hfz, hnd⟩ := hW
  have hA : DataW.TrodAll enc Try.prog W 0 (fun _ => true) true Try.f6.params.toList args.toList ds p := hA0
  rw [Try.params6] at hA hval
  obtain ⟨v0, vs0, d0, ds0, p0, q0, hargs, rfl, rfl, h0, r0⟩ := trodAll_cons hA
  obtain ⟨rfl, rfl, rfl⟩ := trodAll_nil r0
  obtain rfl : args = #[v0] := by cases args; simp_all
  obtain ⟨rfl, rfl⟩ := trodVars_none hV
  have k0 := h0
  have lt0 : ∀ x ∈ p0, x.block < W.heap.size := by obtain ⟨m, hm⟩ := k0; exact DataW.trod_lt m _ _ _ hm
  obtain ⟨a0, len0, cap0, z0, rfl, w0⟩ := val_bytes (hval 0 _ v0 rfl rfl) k0
  clear hA0 hval0
  refine (walk a0 len0 cap0 z0 W w0).mono fun e W' ⟨he, bel⟩ => ?_
  subst he
  exact ⟨_, rfl, _, _, _, [], _, [], hW', trodAll_mk1 (shut_bool Try.underlying4 _), (trodAll_cons_mk (Below.trod laidOut (by kernel_rfl) (of_decide_eq_true (by kernel_rfl)) k0 bel lt0) trodAll_mk0), rfl, Below.frame bel _, fun h => by cases h⟩

theorem over : Rows.fnSumUpdatedRow.holds Try.pinned (OpenSpec.ofChange Rows.fnSumUpdatedSpec) :=
  OpenClaim.holds_of_wide 6 Try.f6 rfl rfl rfl rfl rfl rfl rfl ⟨rfl, rfl, rfl, rfl, rfl⟩ rfl rfl rfl rfl rfl (by kernel_rfl) Try.func6 (by kernel_rfl)
    (of_decide_eq_true (by kernel_rfl)) (by unfold Func.isWrapper; first | (rw [if_pos (by decide +kernel)]; kernel_rfl) | (rw [if_neg (by decide +kernel)]; exact ⟨rfl, rfl⟩))
    (fun os started H enc _ => lifted os started H enc)

theorem proved : Rows.FnSumUpdatedSaid := over
#print axioms proved
end Go.Proofs.Ytnpnkkjdnmgbkaa.fnSumUpdated
