/-
  FnSumInsertedSaid: if the checksum of data is put into the place of a zero word, the sum of all words is 65535. No condition.
-/
import Derived.Test.YtnpnkkjdnmgbkaaRows
import Derived.Test.YtnpnkkjdnmgbkaaOpen
import Derived.Test.YtnpnkkjdnmgbkaaRow
import Derived.Test.Ytnpnkkjdnmgbkaa22
import Derived.Test.Ytnpnkkjdnmgbkaa02
import Derived.Test.YtnpnkkjdnmgbkaaPure8
import Derived.ChangeOld
import Derived.OpenShut
namespace Go.Proofs.Ytnpnkkjdnmgbkaa.fnSumInserted
open Go.ChangeShapes Go.WideShapes Go.ChangeAt Go.RowKit
set_option linter.unusedVariables false

set_option maxHeartbeats 1000000 in
theorem walk (a0 : Option Addr) (len0 cap0 : Nat) (z0 : List Int) (w : World) (w0 : IsRow w a0 len0 cap0 z0) :
    Calls Try.prog 4 #[.slice a0 len0 cap0] w fun e w' => e = .returned (.bool true) ∧ Bel w w' := by
  by_cases hbig : (len0 : Int) ≤ 1048576
  · have hsm : len0 ≤ 1048576 := by omega
    go_enter Try.func4, Try.ntmps4
    go_wp2_with (go_at_call 13; go_in)
    refine (c_DrawData w a0 len0 cap0 z0 w w0 hsm (Bel.refl w)).mono ?_
    rintro e w1 ⟨s0, hs0, rfl, hb⟩
    
    by_cases h2 : (s0.size : Int) % 2 = 1
    · go_wp2_with fail
      obtain ⟨s, hS⟩ : ∃ s, s0 ++ ⟨#[120]⟩ = s := ⟨_, rfl⟩
      have hsz : s.size = s0.size + 1 := by rw [← hS, ByteArray.size_append]; rfl
      rw [hS]
      clear hS
      have hev : s.size % 2 = 0 := by omega
      have h31 : s.size ≤ 31 := by omega
      clear hsz
      have hs : s.size ≤ 1073741824 := by omega
      have HL := Lib.hid (P.law_inserted s hev)
      have hr := P.sumWords_range s
      have hcs : P.checksum s = 65535 - P.sumWords s := rfl
      have hzs := P.word16_size (P.checksum s) (by omega)
      obtain ⟨x, hx⟩ : ∃ x, P.checksum s = x := ⟨_, rfl⟩
      obtain ⟨q, hq⟩ : ∃ q, P.sumWords s = q := ⟨_, rfl⟩
      rw [hx] at HL hcs hzs
      rw [hq] at HL hr hcs
      have HX := Lib.hid hx
      have HQ := Lib.hid hq
      clear hx hq
      have c1 : q + x = 65535 := by omega
      have hx0 : 0 ≤ x ∧ x ≤ 65535 := by omega
      clear hcs
      go_wp2_with (first | (go_at_call 20; refine (c_impl_Checksum _ hs _).mono ?_; rintro e w' ⟨he, rfl⟩; rw [HX.out] at he; subst he) | (go_at_call 21; refine (c_impl_Word16 _ _).mono ?_; rintro e w' ⟨rfl, hb1⟩) | (go_at_call 22; refine (c_impl_SumWords _ (by (try simp only [ByteArray.size_append, ByteArray.size_extract, P.withFcs_size, P.putBytes_size, hzs]); omega) _).mono ?_; rintro e w' ⟨he, rfl⟩; (first | rw [HL.out.1] at he | rw [HQ.out] at he); subst he) | (go_at_call 23; refine (c_impl_Get16 _ _ (by (try simp only [ByteArray.size_append, ByteArray.size_extract, P.withFcs_size, P.putBytes_size, hzs]); omega) _).mono ?_; rintro e w' ⟨he, hb2⟩; rw [HL.out.2.1] at he; subst he))
      go_ret
      exact ⟨rfl, (by repeat (first | with_reducible assumption | with_reducible exact Bel.refl _ | with_reducible refine Bel.alloc ?_ _ | with_reducible refine Bel.drew ?_ | with_reducible refine Bel.drewN ?_ _ | with_reducible refine Bel.setCell ?_ ?_ _ | with_reducible exact Nat.le_refl _ | (dsimp only; omega) | (refine Bel.trans ?_ (by with_reducible assumption))))⟩
    · have hev : s0.size % 2 = 0 := by omega
      have h3 : (s0.size : Int) % 2 = 0 := by omega
      have hs : s0.size ≤ 1073741824 := by omega
      have HL := Lib.hid (P.law_inserted s0 hev)
      have hr := P.sumWords_range s0
      have hcs : P.checksum s0 = 65535 - P.sumWords s0 := rfl
      have hzs := P.word16_size (P.checksum s0) (by omega)
      obtain ⟨x, hx⟩ : ∃ x, P.checksum s0 = x := ⟨_, rfl⟩
      obtain ⟨q, hq⟩ : ∃ q, P.sumWords s0 = q := ⟨_, rfl⟩
      rw [hx] at HL hcs hzs
      rw [hq] at HL hr hcs
      have HX := Lib.hid hx
      have HQ := Lib.hid hq
      clear hx hq
      have c1 : q + x = 65535 := by omega
      have hx0 : 0 ≤ x ∧ x ≤ 65535 := by omega
      clear hcs
      go_wp2_with (first | (go_at_call 20; refine (c_impl_Checksum _ hs _).mono ?_; rintro e w' ⟨he, rfl⟩; rw [HX.out] at he; subst he) | (go_at_call 21; refine (c_impl_Word16 _ _).mono ?_; rintro e w' ⟨rfl, hb1⟩) | (go_at_call 22; refine (c_impl_SumWords _ (by (try simp only [ByteArray.size_append, ByteArray.size_extract, P.withFcs_size, P.putBytes_size, hzs]); omega) _).mono ?_; rintro e w' ⟨he, rfl⟩; (first | rw [HL.out.1] at he | rw [HQ.out] at he); subst he) | (go_at_call 23; refine (c_impl_Get16 _ _ (by (try simp only [ByteArray.size_append, ByteArray.size_extract, P.withFcs_size, P.putBytes_size, hzs]); omega) _).mono ?_; rintro e w' ⟨he, hb2⟩; rw [HL.out.2.1] at he; subst he))
      go_ret
      exact ⟨rfl, (by repeat (first | with_reducible assumption | with_reducible exact Bel.refl _ | with_reducible refine Bel.alloc ?_ _ | with_reducible refine Bel.drew ?_ | with_reducible refine Bel.drewN ?_ _ | with_reducible refine Bel.setCell ?_ ?_ _ | with_reducible exact Nat.le_refl _ | (dsimp only; omega) | (refine Bel.trans ?_ (by with_reducible assumption))))⟩
  · have hbig2 : len0 ≤ 9223372036854775807 := w0.small
    go_enter Try.func4, Try.ntmps4
    go_wp2_with (go_at_call 13; go_in)
    go_ret
    exact ⟨rfl, Bel.refl _⟩
theorem own : ownKnob Try.prog.godebug = none := by kernel_rfl
theorem laidOut : laidOutB Try.prog = true := by kernel_rfl

set_option maxRecDepth 100000 in
theorem lifted (os : Os) (started : os.Started) (H : Type) (enc : TypeId × Value → H) :
    ReturnsInHanded {} Try.checked os 4 .any (Rows.fnSumInsertedSpec.pre6 enc Try.prog Try.f4 Rows.fnSumInsertedRow.domain false) (Rows.fnSumInsertedSpec.post enc Try.prog Try.f4 false true false false) := by
  refine returnsInHanded_of_change (C := Try.checked) own started (by kernel_rfl) Try.func4
    (ChangeSpec.witness6 (enc := enc) (C := Try.checked) false ⟨#[], #[.slice none 0 0], []⟩ 8 (by kernel_rfl) (by kernel_rfl) (by kernel_rfl) (by kernel_rfl)) ?_
  intro W base args ds gs before hval0 hW hcnd _
  have hval : ∀ (j : Nat) t v, Try.f4.params[j]? = some t → args[j]? = some v → Value.okWide Try.prog W .any base t v := hval0
  have hW' := hW
  obtain ⟨p, q, hA0, hV, rfl, hfz, hnd⟩ := hW
  have hA : DataW.TrodAll enc Try.prog W 0 (fun _ => true) true Try.f4.params.toList args.toList ds p := hA0
  rw [Try.params4] at hA hval
  obtain ⟨v0, vs0, d0, ds0, p0, q0, hargs, rfl, rfl, h0, r0⟩ := trodAll_cons hA
  obtain ⟨rfl, rfl, rfl⟩ := trodAll_nil r0
  obtain rfl : args = #[v0] := by cases args; simp_all
  obtain ⟨rfl, rfl⟩ := trodVars_none hV
  have k0 := h0
  have lt0 : ∀ x ∈ p0, x.block < W.heap.size := by obtain ⟨m, hm⟩ := k0; exact DataW.trod_lt m _ _ _ hm
  obtain ⟨a0, len0, cap0, z0, rfl, w0⟩ := val_bytes (hval 0 _ v0 rfl rfl) k0
  clear hA0 hval0
  refine (walk a0 len0 cap0 z0 W w0).mono fun e W' ⟨he, bel⟩ => ?_
  subst he
  exact ⟨_, rfl, _, _, _, [], _, [], hW', trodAll_mk1 (shut_bool Try.underlying4 _), (trodAll_cons_mk (Below.trod laidOut (by kernel_rfl) (of_decide_eq_true (by kernel_rfl)) k0 bel lt0) trodAll_mk0), rfl, Below.frame bel _, fun h => by cases h⟩

theorem over : Rows.fnSumInsertedRow.holds Try.pinned (OpenSpec.ofChange Rows.fnSumInsertedSpec) :=
  OpenClaim.holds_of_wide 4 Try.f4 rfl rfl rfl rfl rfl rfl rfl ⟨rfl, rfl, rfl, rfl, rfl⟩ rfl rfl rfl rfl rfl (by kernel_rfl) Try.func4 (by kernel_rfl)
    (of_decide_eq_true (by kernel_rfl)) (by unfold Func.isWrapper; first | (rw [if_pos (by decide +kernel)]; kernel_rfl) | (rw [if_neg (by decide +kernel)]; exact ⟨rfl, rfl⟩))
    (fun os started H enc _ => lifted os started H enc)

theorem proved : Rows.FnSumInsertedSaid := over
#print axioms proved
end Go.Proofs.Ytnpnkkjdnmgbkaa.fnSumInserted
