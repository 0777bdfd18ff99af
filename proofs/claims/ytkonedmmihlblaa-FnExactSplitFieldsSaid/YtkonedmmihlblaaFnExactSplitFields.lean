/-
  FnExactSplitFieldsSaid: for all arguments the program's SplitFields returns what the reference's returns. No condition.
-/
import Derived.Test.YtkonedmmihlblaaRows
import Derived.Test.YtkonedmmihlblaaOpen
import Derived.Test.Ytkonedmmihlblaa35
import Derived.ChangeOld
import Derived.OpenShut
namespace Go.Proofs.Ytkonedmmihlblaa.fnExactSplitFields
open Go.ChangeShapes Go.WideShapes Go.ChangeAt Go.RowKit
set_option linter.unusedVariables false

set_option maxHeartbeats 1000000 in
theorem walk (a0 : ByteArray) (w : World) (w0 : a0.size ≤ maxLen) :
    Calls Try.prog 5 #[.string a0] w fun e w' => e = .returned (.bool true) ∧ Bel w w' := by
  by_cases hbig0 : a0.size ≤ 1048576
  · have hs0 : a0.size ≤ 1073741824 := by omega
    have hl := P.sfL_length a0
    obtain ⟨L, hL⟩ : ∃ L, P.sfL a0 = L := ⟨_, rfl⟩
    obtain ⟨ok, hok⟩ : ∃ ok, P.sfOk a0 = ok := ⟨_, rfl⟩
    have CS := Lib.hid (show ∀ w, Calls Try.prog 19 #[.string a0] w (fun e w' => ∃ v, e = .returned (.tuple #[v, .bool ok]) ∧ w'.ownsRow w.heap.size 9 1 v L.length (L.map Value.string) ∧ Bel w w') from fun w => by have := c_spec_SplitFields a0 hs0 w; unfold Split at this; rwa [hL, hok] at this)
    have CI := Lib.hid (show ∀ w, Calls Try.prog 20 #[.string a0] w (fun e w' => ∃ v, e = .returned (.tuple #[v, .bool ok]) ∧ w'.ownsRow w.heap.size 9 1 v L.length (L.map Value.string) ∧ Bel w w') from fun w => by have := c_impl_SplitFields a0 hs0 w; unfold Split at this; rwa [hL, hok] at this)
    rw [hL] at hl
    clear hL hok
    obtain ⟨n, hn⟩ : ∃ n, L.length = n := ⟨_, rfl⟩
    rw [hn] at hl CS CI
    have HN := Lib.hid hn
    clear hn
    go_enter Try.func5, Try.ntmps5
    go_wp2_with fail
    refine (CS.out _).mono ?_
    rintro e w1 ⟨v0, rfl, o1, h1⟩
    go_wp2_with fail
    refine (CI.out _).mono ?_
    rintro e w2 ⟨v1, rfl, p2, h2⟩
    have o2 := h2.owns o1
    have hne : v0.ownBlock = none ∨ v0.ownBlock ≠ v1.ownBlock := by
      cases hv : v0.ownBlock with
      | none => exact .inl rfl
      | some g =>
        right
        intro he
        have e1 := (World.ownsRow.lt o1 g hv).2
        have e2 := (World.ownsRow.lt p2 g he.symm).1
        omega
    have hlow : ∀ k, v1.ownBlock = some k → w.heap.size ≤ k := fun k hk => Nat.le_trans h1.size (World.ownsRow.lt p2 k hk).1
    clear o1
    go_wp2_with fail
    refine (c_eqStringS L v1 v0 w2 (strIs_of p2) (strIs_of o2) (by rw [HN.out]; omega)).mono ?_
    rintro e w3 ⟨rfl, h3⟩
    have o3 := h3.owns o2
    have p3 := h3.owns p2
    clear o2 p2
    go_wp2_with fail
    refine (c_markStringS 1 n v1 w1.heap.size _ w3 p3 (by omega) (by decide)).mono ?_
    rintro e w4 ⟨rfl, p4, g4⟩
    have o4 := o3.kept g4 hne
    have b4 : Bel w w4 := ((h1.trans h2).trans h3).grown g4 hlow
    clear o3 p3 g4 h1 h2 h3
    go_wp2_with fail
    refine (c_heldStringS 1 n v1 w4 (strIs_of p4) (by omega) (by decide)).mono ?_
    rintro e w5 ⟨rfl, h5⟩
    have o5 := h5.owns o4
    have p5 := h5.owns p4
    clear o4 p4
    go_wp2_with fail
    refine (CI.out _).mono ?_
    rintro e w6 ⟨v2, rfl, q6, h6⟩
    have o6 := h6.owns o5
    have p6 := h6.owns p5
    clear o5 p5
    go_wp2_with fail
    refine (c_eqStringS L v2 v0 w6 (strIs_of q6) (strIs_of o6) (by rw [HN.out]; omega)).mono ?_
    rintro e w7 ⟨rfl, h7⟩
    have p7 := h7.owns p6
    clear q6 o6 p6
    go_wp2_with fail
    refine (c_heldStringS 1 n v1 w7 (strIs_of p7) (by omega) (by decide)).mono ?_
    rintro e w8 ⟨rfl, h8⟩
    go_wp2
    go_ret
    exact ⟨rfl, (((b4.trans h5).trans h6).trans h7).trans h8⟩
  · go_enter Try.func5, Try.ntmps5
    go_wp2
    go_ret
    exact ⟨rfl, Bel.refl _⟩
theorem own : ownKnob Try.prog.godebug = none := by kernel_rfl
theorem laidOut : laidOutB Try.prog = true := by kernel_rfl

set_option maxRecDepth 100000 in
theorem lifted (os : Os) (started : os.Started) (H : Type) (enc : TypeId × Value → H) :
    ReturnsInHanded {} Try.checked os 5 .any (Rows.fnExactSplitFieldsSpec.pre6 enc Try.prog Try.f5 Rows.fnExactSplitFieldsRow.domain false) (Rows.fnExactSplitFieldsSpec.post enc Try.prog Try.f5 false true false false) := by
  refine returnsInHanded_of_change (C := Try.checked) own started (by kernel_rfl) Try.func5
    (ChangeSpec.witness6 (enc := enc) (C := Try.checked) false ⟨#[], #[.string ⟨#[]⟩], []⟩ 8 (by kernel_rfl) (by kernel_rfl) (by kernel_rfl) (by kernel_rfl)) ?_
  intro W base args ds gs before hval0 hW hcnd _
  have hval : ∀ (j : Nat) t v, Try.f5.params[j]? = some t → args[j]? = some v → Value.okWide Try.prog W .any base t v := hval0
  have hW' := hW
  obtain ⟨p, q, hA0, hV, rfl, hfz, hnd⟩ := hW
  have hA : DataW.TrodAll enc Try.prog W 0 (fun _ => true) true Try.f5.params.toList args.toList ds p := hA0
  rw [Try.params5] at hA hval
  obtain ⟨v0, vs0, d0, ds0, p0, q0, hargs, rfl, rfl, h0, r0⟩ := trodAll_cons hA
  obtain ⟨rfl, rfl, rfl⟩ := trodAll_nil r0
  obtain rfl : args = #[v0] := by cases args; simp_all
  obtain ⟨rfl, rfl⟩ := trodVars_none hV
  have k0 := h0
  have lt0 : ∀ x ∈ p0, x.block < W.heap.size := by obtain ⟨m, hm⟩ := k0; exact DataW.trod_lt m _ _ _ hm
  obtain ⟨a0, rfl, w0⟩ := val_string Try.underlying9 (hval 0 _ v0 rfl rfl)
  clear hA0 hval0
  refine (walk a0 W w0).mono fun e W' ⟨he, bel⟩ => ?_
  subst he
  exact ⟨_, rfl, _, _, _, [], _, [], hW', trodAll_mk1 (shut_bool Try.underlying4 _), (trodAll_cons_mk (Below.trod laidOut (by kernel_rfl) (of_decide_eq_true (by kernel_rfl)) k0 bel lt0) trodAll_mk0), rfl, Below.frame bel _, fun h => by cases h⟩

theorem over : Rows.fnExactSplitFieldsRow.holds Try.pinned (OpenSpec.ofChange Rows.fnExactSplitFieldsSpec) :=
  OpenClaim.holds_of_wide 5 Try.f5 rfl rfl rfl rfl rfl rfl rfl ⟨rfl, rfl, rfl, rfl, rfl⟩ rfl rfl rfl rfl rfl (by kernel_rfl) Try.func5 (by kernel_rfl)
    (of_decide_eq_true (by kernel_rfl)) (by unfold Func.isWrapper; first | (rw [if_pos (by decide +kernel)]; kernel_rfl) | (rw [if_neg (by decide +kernel)]; exact ⟨rfl, rfl⟩))
    (fun os started H enc _ => lifted os started H enc)

theorem proved : Rows.FnExactSplitFieldsSaid := over
#print axioms proved
end Go.Proofs.Ytkonedmmihlblaa.fnExactSplitFields
