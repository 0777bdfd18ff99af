/-
  FnFieldsAgainCardSaid: the fields of a line, joined by single spaces, have the same fields. The library's table of powers reads as its initialiser lays it (tied).
-/
import Derived.Test.YtoikpdijkdmimaaDoorRows
import Derived.Test.YtoikpdijkdmimaaDoorOpen
import Derived.Test.YtoikpdijkdmimaaDoorItoa
import Derived.Test.YtoikpdijkdmimaaDoorRow
import Derived.Test.YtoikpdijkdmimaaDoor36
import Derived.Test.YtoikpdijkdmimaaDoor35
import Derived.Test.YtoikpdijkdmimaaDoor37
import Derived.Test.YtoikpdijkdmimaaDoorPureJ
import Derived.Test.YtoikpdijkdmimaaDoorPureI
import Derived.Test.YtoikpdijkdmimaaDoorCards
import Derived.Test.YtoikpdijkdmimaaDoorTie
import Derived.ChangeOld
import Derived.OpenShut
import Derived.ProofKit
import Derived.LaidMore
import Derived.Stop.Joined
import Derived.SevenTiedAt
namespace Go.Proofs.YtoikpdijkdmimaaDoor.fnFieldsAgain
open Go.ChangeShapes Go.WideShapes Go.ChangeAt Go.RowKit Go.WideMaps Go.WideElems
set_option linter.unusedVariables false

set_option maxHeartbeats 1000000 in
theorem walk (a0 : Option Addr) (len0 cap0 : Nat) (z0 : List Int) (w : World) (w0 : IsRow w a0 len0 cap0 z0) (hT : Tab w) :
    Calls Tryd.prog 6 #[.slice a0 len0 cap0] w fun e w' => e = .returned (.bool true) ∧ Bel w w' := by
  by_cases hbig : (len0 : Int) ≤ 1048576
  · have hsm : len0 ≤ 1048576 := by omega
    go_enter Tryd.func6, Tryd.ntmps6
    go_wp2_with (go_at_call 9; go_in)
    refine (c_DrawSplitFields w a0 len0 cap0 z0 w w0 hsm (Bel.refl w)).mono ?_
    rintro e w1 ⟨line, hline, rfl, hb⟩
    have hls : line.size ≤ 1073741824 := by omega
    have hl := P.sfL_length line
    have hsz := P.fin_small line
    have hag := P.fields_again line
    obtain ⟨L, hL⟩ : ∃ L, P.sfL line = L := ⟨_, rfl⟩
    rw [hL] at hl hsz hag
    cases hok : P.sfOk line with
    | false =>
      have CS := Lib.hid (show ∀ w, Calls Tryd.prog 17 #[.string line] w (fun e w' => ∃ v, e = .returned (.tuple #[v, .bool false]) ∧ w'.ownsRow w.heap.size 9 1 v 0 [] ∧ Bel w w') from fun w => by have := c_spec_SplitFields line hls w; unfold Split at this; rwa [hok, show P.sfL line = [] by unfold P.sfL; rw [hok]; rfl] at this)
      have CI := Lib.hid (show ∀ w, Calls Tryd.prog 16 #[.string line] w (fun e w' => ∃ v, e = .returned (.tuple #[v, .bool false]) ∧ w'.ownsRow w.heap.size 9 1 v 0 [] ∧ Bel w w') from fun w => by have := c_impl_SplitFields line hls w; unfold Split at this; rwa [hok, show P.sfL line = [] by unfold P.sfL; rw [hok]; rfl] at this)
      clear hl hsz hag hL hok L
      go_wp2_with fail
      refine (CI.out _).mono ?_
      rintro e w2 ⟨v0, rfl, o2, h2⟩
      obtain ⟨pa, ca, rfl⟩ := owns_slice o2
      clear o2
      go_wp2_with fail
      refine (CS.out _).mono ?_
      rintro e w3 ⟨v1, rfl, -, h3⟩
      have hT3 : Tab w3 := ((hT.bel hb).bel h2).bel h3
      go_wp2_with (go_at_call 8; refine (c_impl_FormatInt (-3) (by decide) _ hT3).mono ?_; rintro e w4 ⟨he, h4⟩; rw [P.itoa_m3] at he; subst he)
      go_ret
      exact ⟨rfl, (by repeat (first | with_reducible assumption | with_reducible exact Bel.refl _ | with_reducible refine Bel.alloc ?_ _ | with_reducible refine Bel.drew ?_ | with_reducible refine Bel.drewN ?_ _ | with_reducible refine Bel.setCell ?_ ?_ _ | with_reducible exact Nat.le_refl _ | (dsimp only; omega) | (refine Bel.trans ?_ (by with_reducible assumption))))⟩
    | true =>
      have CS := Lib.hid (show ∀ w, Calls Tryd.prog 17 #[.string line] w (fun e w' => ∃ v, e = .returned (.tuple #[v, .bool true]) ∧ w'.ownsRow w.heap.size 9 1 v L.length (L.map Value.string) ∧ Bel w w') from fun w => by have := c_spec_SplitFields line hls w; unfold Split at this; rwa [hok, hL] at this)
      have CI := Lib.hid (show ∀ w, Calls Tryd.prog 16 #[.string line] w (fun e w' => ∃ v, e = .returned (.tuple #[v, .bool true]) ∧ w'.ownsRow w.heap.size 9 1 v L.length (L.map Value.string) ∧ Bel w w') from fun w => by have := c_impl_SplitFields line hls w; unfold Split at this; rwa [hok, hL] at this)
      have hjz := P.joinTo_size L 600 hsz
      clear hL hok
      obtain ⟨n, hn⟩ : ∃ n, L.length = n := ⟨_, rfl⟩
      rw [hn] at hl CS CI hag hjz
      have HN := Lib.hid hn
      clear hn
      have hje : ∀ k, k ≤ n → (P.joinTo L k).size ≤ 20000 := fun k hk => Nat.le_trans (hjz k hk) (Nat.le_trans (Nat.mul_le_mul_right 601 (Nat.le_trans hk hl)) (by decide))
      have hxz : ∀ k, k < n → (L.getD k ⟨#[]⟩).size ≤ 600 := fun k hk => by
        have hk2 : k < L.length := by rw [HN.out]; exact hk
        rw [List.getD_eq_getElem?_getD, List.getElem?_eq_getElem hk2]
        exact hsz _ (List.getElem_mem hk2)
      have hT1 := hje n (Nat.le_refl _)
      obtain ⟨T, hT2⟩ : ∃ T, P.joinTo L n = T := ⟨_, rfl⟩
      rw [hT2] at hT1 hag
      have HT := Lib.hid hT2
      have HJE := Lib.hid hje
      have HXZ := Lib.hid hxz
      clear hT2 hjz hsz hje hxz
      have hTs : T.size ≤ 1073741824 := by omega
      go_wp2_with fail
      refine (CI.out _).mono ?_
      rintro e w2 ⟨v0, rfl, o2, h2⟩
      go_wp2_with fail
      refine (CS.out _).mono ?_
      rintro e w3 ⟨v1, rfl, -, h3⟩
      have s3 := strIs_of (h3.owns o2)
      clear o2 CS CI
      have HS := Lib.hid s3
      obtain ⟨pa, ca, rfl, hca⟩ := s3
      rw [HN.out] at hca HS ⊢
      have HC := Lib.hid hca
      clear hca
      have h13 : Bel w w3 := (by repeat (first | with_reducible assumption | with_reducible exact Bel.refl _ | with_reducible refine Bel.alloc ?_ _ | with_reducible refine Bel.drew ?_ | with_reducible refine Bel.drewN ?_ _ | with_reducible refine Bel.setCell ?_ ?_ _ | with_reducible exact Nat.le_refl _ | (dsimp only; omega) | (refine Bel.trans ?_ (by with_reducible assumption))))
      clear h2 h3 hb
      go_wp2
      go_loopw [8, 9] (fun s i wr => ∃ k : Nat, k ≤ n ∧ i = .int .i64 k ∧ s = .string (P.joinTo L k) ∧ Bel w3 wr) (fun _ i _ => n - (intOf i).toNat)
      case atStart => exact ⟨0, Nat.zero_le _, rfl, rfl, Bel.refl _⟩
      case round =>
        obtain ⟨k, hk, rfl, rfl, hbel⟩ := hrel
        by_cases hlt : k < n
        · obtain ⟨b1, rfl, g1⟩ := HC.out k (by first | exact hlt | (rw [HN.out]; exact hlt))
          have d1 := hbel.at g1
          have z1 := HJE.out k hk
          have z2 := HXZ.out k hlt
          have HJ := Lib.hid (show P.joinTo L (k + 1) = P.joinTo L k ++ L.getD k ⟨#[]⟩ ++ P.bs [32] from rfl)
          generalize L.getD k ⟨#[]⟩ = x at g1 d1 z2 HJ
          generalize P.joinTo L k = J at z1 HJ ⊢
          have z3 : (J ++ x).size = J.size + x.size := ByteArray.size_append
          have h3 : (k : Int) < n := by omega
          go_wp2
          go_roundw
          case rel => exact ⟨k + 1, by omega, by go_num, by rw [HJ.out]; rfl, hbel⟩
          case measure => simp [intOf]; omega
        · obtain rfl : k = n := by omega
          rw [HT.out]
          have hlen : L.length ≤ 1000000 := by rw [HN.out]; omega
          have hb1 : Bel w wr := h13.trans hbel
          by_cases h600 : T.size ≤ 600
          · obtain ⟨a1, a2⟩ := hag h600 hl
            have CT := Lib.hid (show ∀ w, Calls Tryd.prog 16 #[.string T] w (fun e w' => ∃ v, e = .returned (.tuple #[v, .bool true]) ∧ w'.ownsRow w.heap.size 9 1 v L.length (L.map Value.string) ∧ Bel w w') from fun w => by have := c_impl_SplitFields T hTs w; unfold Split at this; rwa [a1, a2] at this)
            have h6 : ¬ (600 : Int) < T.size := by omega
            clear a1 a2 hag HC HJE HXZ HT
            go_wp2_with fail
            refine (CT.out _).mono ?_
            rintro e w5 ⟨v2, rfl, o5, h5⟩
            have q1 := HS.out.bel (hbel.trans h5)
            have q2 := strIs_of o5
            clear o5 CT
            go_wp2_with (go_at_call 18; refine (c_sameTexts L _ v2 w5 q1 q2 hlen).mono ?_; rintro e w6 ⟨rfl, h7⟩)
            go_ret
            exact ⟨rfl, (by repeat (first | with_reducible assumption | with_reducible exact Bel.refl _ | with_reducible refine Bel.alloc ?_ _ | with_reducible refine Bel.drew ?_ | with_reducible refine Bel.drewN ?_ _ | with_reducible refine Bel.setCell ?_ ?_ _ | with_reducible exact Nat.le_refl _ | (dsimp only; omega) | (refine Bel.trans ?_ (by with_reducible assumption))))⟩
          · obtain ⟨ok2, ho⟩ : ∃ ok2, P.sfOk T = ok2 := ⟨_, rfl⟩
            have CT := Lib.hid (show ∀ w, Calls Tryd.prog 16 #[.string T] w (fun e w' => ∃ v, e = .returned (.tuple #[v, .bool ok2]) ∧ Bel w w') from fun w => (c_impl_SplitFields T hTs w).mono fun e w' ⟨v, he, _, hb⟩ => ⟨v, by rw [he, ho], hb⟩)
            have h6 : (600 : Int) < T.size := by omega
            clear ho hag HC HJE HXZ HT
            go_wp2_with fail
            refine (CT.out _).mono ?_
            rintro e w5 ⟨v2, rfl, h5⟩
            go_wp2
            go_ret
            exact ⟨rfl, (by repeat (first | with_reducible assumption | with_reducible exact Bel.refl _ | with_reducible refine Bel.alloc ?_ _ | with_reducible refine Bel.drew ?_ | with_reducible refine Bel.drewN ?_ _ | with_reducible refine Bel.setCell ?_ ?_ _ | with_reducible exact Nat.le_refl _ | (dsimp only; omega) | (refine Bel.trans ?_ (by with_reducible assumption))))⟩
  · have hbig2 : len0 ≤ 9223372036854775807 := w0.small
    go_enter Tryd.func6, Tryd.ntmps6
    go_wp2_with (go_at_call 9; go_in)
    go_ret
    exact ⟨rfl, Bel.refl _⟩
theorem own : ownKnob Tryd.prog.godebug = none := by kernel_rfl
theorem laidOut : laidOutB Tryd.prog = true := by kernel_rfl
theorem door_met (os : Os) (args : Array Value) : laidMetH Tryd.prog Rows.fnFieldsAgainRow.laid ((World.doorLaid Tryd.prog 24 os).forCall (fun _ _ => 0) ⟨#[], args, []⟩).memory :=
  laidMetH_of_parts3 (fuel := 8) (laidMet_of_run' 8 (by kernel_rfl) (by kernel_rfl)) (by kernel_rfl) (by kernel_rfl)

set_option maxRecDepth 100000 in
theorem lifted (os : Os) (started : os.Started) (H : Type) (enc : TypeId × Value → H) :
    ReturnsInHanded {} Tryd.checked os 6 .any (fun w args => (Rows.fnFieldsAgainSpec.pre enc Tryd.prog Tryd.f6 [] false w args ∧ laidMetH Tryd.prog Rows.fnFieldsAgainRow.laid w) ∧ sizedMet enc Tryd.prog Tryd.f6 (OpenSpec.ofChange Rows.fnFieldsAgainSpec) false w args)
      (Rows.fnFieldsAgainSpec.post enc Tryd.prog Tryd.f6 false true false false) := by
  refine returnsInHanded_of_change_and (C := Tryd.checked) (X := fun w _ => laidMetH Tryd.prog Rows.fnFieldsAgainRow.laid w) (fun _ _ _ hh h => h.of_heap hh) own started (by kernel_rfl) Tryd.func6
    (ChangeSpec.witness_shaped (enc := enc) (C := Tryd.checked) (os := os) (X := fun w _ => laidMetH Tryd.prog Rows.fnFieldsAgainRow.laid w) false (World.doorLaid Tryd.prog 24 os) #[.slice none 0 0] 8 rfl (World.shaped_of_RefB (by kernel_rfl) (by kernel_rfl)) (by kernel_rfl) (by kernel_rfl) (by kernel_rfl) (door_met os _)) ?_
  intro W base args ds gs before hval0 hW _ _ hL _
  have hval : ∀ (j : Nat) t v, Tryd.f6.params[j]? = some t → args[j]? = some v → Value.okWide Tryd.prog W .any base t v := hval0
  have hT := tab_of_laid hL
  have hW' := hW
  obtain ⟨p, q, hA0, hV, rfl, hfz, hnd⟩ := hW
  have hA : DataW.TrodAll enc Tryd.prog W 0 (fun _ => true) true Tryd.f6.params.toList args.toList ds p := hA0
  rw [Tryd.params6] at hA hval
  obtain ⟨v0, vs0, d0, ds0, p0, q0, hargs, rfl, rfl, h0, r0⟩ := trodAll_cons hA
  obtain ⟨rfl, rfl, rfl⟩ := trodAll_nil r0
  obtain rfl : args = #[v0] := by cases args; simp_all
  obtain ⟨rfl, rfl⟩ := trodVars_none hV
  have k0 := h0
  have lt0 : ∀ x ∈ p0, x.block < W.heap.size := by obtain ⟨m, hm⟩ := k0; exact DataW.trod_lt m _ _ _ hm
  obtain ⟨a0, len0, cap0, z0, rfl, w0⟩ := val_bytes (hval 0 _ v0 rfl rfl) k0
  clear hA0 hval0
  refine (walk a0 len0 cap0 z0 W w0 hT).mono fun e W' ⟨he, bel⟩ => ?_
  subst he
  exact ⟨_, rfl, _, _, _, [], _, [], hW', trodAll_mk1 (shut_bool Tryd.underlying4 _), (trodAll_cons_mk (Below.trod laidOut (by kernel_rfl) (of_decide_eq_true (by kernel_rfl)) k0 bel lt0) trodAll_mk0), rfl, Below.frame bel _, fun h => by cases h⟩

theorem over : Rows.fnFieldsAgainRow.holds Tryd.pinned (OpenSpec.ofChange Rows.fnFieldsAgainSpec) :=
  OpenClaim.holds_of_wide 6 Tryd.f6 rfl rfl rfl rfl rfl rfl rfl ⟨rfl, rfl, rfl, rfl, rfl⟩ rfl rfl rfl rfl rfl (by kernel_rfl) Tryd.func6 (by kernel_rfl)
    (of_decide_eq_true (by kernel_rfl)) (by unfold Func.isWrapper; first | (rw [if_pos (by decide +kernel)]; kernel_rfl) | (rw [if_neg (by decide +kernel)]; exact ⟨rfl, rfl⟩))
    (fun os started H enc _ => lifted os started H enc)

theorem proved : Rows.FnFieldsAgainCardSaid :=
  Claim7.holds_tied_plain_at .later [] [.data, .data, .data] true _ false
    over (fun _ h => by cases h) (by kernel_rfl) (fun _ h => by cases h) fnFieldsAgain_row_tie rfl ⟨rfl, rfl⟩ (by kernel_rfl) rfl
    (fun f fn hf hfn => by
      obtain rfl : f = 6 := Option.some.inj ((show Tryd.prog.funcNamed Rows.fnFieldsAgainRow.func = some 6 by kernel_rfl).symm.trans hf) |>.symm
      obtain rfl : fn = Tryd.f6 := (Option.some.inj (Tryd.func6.symm.trans hfn)).symm
      exact ⟨by kernel_rfl, fun j t ht => by
        rw [Tryd.params6] at ht
        have hm : t ∈ [24] := by simpa using Array.mem_of_getElem? ht
        have hall : ([24].all fun u => !Tryd.prog.wantsStandIn u) = true := by kernel_rfl
        exact (show Tryd.prog.wantsStandIn t = false by simpa using List.all_eq_true.1 hall t hm)⟩)
    (by kernel_rfl)
#print axioms proved
end Go.Proofs.YtoikpdijkdmimaaDoor.fnFieldsAgain
