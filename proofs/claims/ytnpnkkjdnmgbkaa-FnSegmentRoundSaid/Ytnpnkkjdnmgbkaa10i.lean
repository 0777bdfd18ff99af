/-
  The contracts of chapter 5, third part: datagrams built and read back, a lowered time to live (the program's).
-/
import Derived.Test.Ytnpnkkjdnmgbkaa09i
import Derived.Test.YtnpnkkjdnmgbkaaBox
import Derived.Test.YtnpnkkjdnmgbkaaPure2
namespace Go.Proofs.Ytnpnkkjdnmgbkaa
open Go.RowKit
set_option linter.unusedVariables false

theorem c_impl_BuildIp (tos id ttl proto src dst : Int) (b : ByteArray) (hb : b.size ≤ 1073741824) (w : World) :
    Calls Try.prog 37 #[.agg #[.int .i64 tos, .int .i64 id, .int .i64 ttl, .int .i64 proto, .int .i64 src, .int .i64 dst, .string b]] w fun e w' => e = .returned (.tuple #[.string (P.buildIp tos id ttl proto src dst b), .bool (P.ipOk tos id ttl proto src dst b.size)]) ∧ Bel w w' := by
  have hz := P.ipHead_size_le tos id ttl proto src dst b.size
  cases hok : P.ipOk tos id ttl proto src dst b.size with
  | false =>
    go_enter Try.func37, Try.ntmps37
    go_wp2_with (go_at_call 38; refine (c_impl_IpHeader _ _ _ _ _ _ _ hb _).mono ?_; rintro e w1 ⟨he, h1⟩; rw [hok] at he; subst he; obtain ⟨hc1, hz1⟩ := h1.keep (b := w.heap.size) (by simp))
    go_ret2
    exact ⟨ret_sb (by unfold P.buildIp; rw [hok]; rfl) rfl, (by repeat (first | with_reducible assumption | with_reducible exact Bel.refl _ | with_reducible refine Bel.alloc ?_ _ | with_reducible refine Bel.drew ?_ | with_reducible refine Bel.drewN ?_ _ | with_reducible refine Bel.setCell ?_ ?_ _ | with_reducible exact Nat.le_refl _ | (dsimp only; omega) | (refine Bel.trans ?_ (by with_reducible assumption))))⟩
  | true =>
    go_enter Try.func37, Try.ntmps37
    go_wp2_with (go_at_call 38; refine (c_impl_IpHeader _ _ _ _ _ _ _ hb _).mono ?_; rintro e w1 ⟨he, h1⟩; rw [hok] at he; subst he; obtain ⟨hc1, hz1⟩ := h1.keep (b := w.heap.size) (by simp))
    go_ret2
    exact ⟨ret_sb (by unfold P.buildIp; rw [if_pos hok]) rfl, (by repeat (first | with_reducible assumption | with_reducible exact Bel.refl _ | with_reducible refine Bel.alloc ?_ _ | with_reducible refine Bel.drew ?_ | with_reducible refine Bel.drewN ?_ _ | with_reducible refine Bel.setCell ?_ ?_ _ | with_reducible exact Nat.le_refl _ | (dsimp only; omega) | (refine Bel.trans ?_ (by with_reducible assumption))))⟩
set_option maxHeartbeats 6000000 in
theorem c_impl_ParseIp (s : ByteArray) (hs : s.size ≤ 1073741824) (w : World) :
    Calls Try.prog 39 #[.string s] w fun e w' => e = .returned (.tuple #[.agg #[.int .i64 (P.piTos s), .int .i64 (P.piId s), .int .i64 (P.piTtl s), .int .i64 (P.piProto s), .int .i64 (P.piSrc s), .int .i64 (P.piDst s), .string (P.piB s)], .bool (P.piOk s)]) ∧ Bel w w' := by
  have hr := P.get16_range s 2
  cases hin : P.piIn s with
  | false =>
    have hbad := P.piOk_in s hin
    have hin' := of_decide_eq_false hin
    obtain ⟨q1, q2, q3, q4, q5, q6, q7⟩ := P.pi_bad s hbad
    rw [q1, q2, q3, q4, q5, q6, q7, hbad]
    clear q1 q2 q3 q4 q5 q6 q7 hbad hin
    have hcase : s.size < 20 ∨ (20 ≤ s.size ∧ P.get16 s 2 < 20) ∨ (20 ≤ s.size ∧ 20 ≤ P.get16 s 2 ∧ (s.size : Int) < P.get16 s 2) := by omega
    clear hin'
    rcases hcase with h1 | ⟨h1, h2⟩ | ⟨h1, h2, h3⟩
    all_goals
      go_enter Try.func39, Try.ntmps39
      go_wp2_with (first | (go_at_call 23; refine (c_impl_Get16 _ _ hs _).mono ?_; rintro e w1 ⟨rfl, h1⟩; have R1 := BoxAt.bel (boxAt_alloc (n := w.heap.size) (w := w) (Nat.le_refl _) #[.int .i64 0, .int .i64 0, .int .i64 0, .int .i64 0, .int .i64 0, .int .i64 0, .string (P.bs [])] 47) h1; have r0 := R1.cell 0; have r1 := R1.cell 1; have r2 := R1.cell 2; have r3 := R1.cell 3; have r4 := R1.cell 4; have r5 := R1.cell 5; have r6 := R1.cell 6; have hfr := R1.frozen; have hzr := R1.old; simp at r0 r1 r2 r3 r4 r5 r6))
      refine post_box (w := w) (by repeat (first | with_reducible assumption | with_reducible exact Bel.refl _ | with_reducible refine Bel.alloc ?_ _ | with_reducible refine Bel.drew ?_ | with_reducible refine Bel.drewN ?_ _ | with_reducible refine Bel.setCell ?_ ?_ _ | with_reducible exact Nat.le_refl _ | (dsimp only; omega) | (refine Bel.trans ?_ (by with_reducible assumption)))) (BoxAt.set (BoxAt.set (BoxAt.set (BoxAt.set (BoxAt.set (BoxAt.set (BoxAt.set R1 0 (by simp) _) 1 (by simp) _) 2 (by simp) _) 3 (by simp) _) 4 (by simp) _) 5 (by simp) _) 6 (by simp) _) ?_
      intro W hB RF
      have t0 := RF.cell 0
      have t1 := RF.cell 1
      have t2 := RF.cell 2
      have t3 := RF.cell 3
      have t4 := RF.cell 4
      have t5 := RF.cell 5
      have t6 := RF.cell 6
      simp at t0 t1 t2 t3 t4 t5 t6
      exact bodyPost_ret (v := .tuple #[.agg #[.int .i64 0, .int .i64 0, .int .i64 0, .int .i64 0, .int .i64 0, .int .i64 0, .string (P.bs [])], .bool false]) (by simp [results, Try.results39, go_sem, t0, t1, t2, t3, t4, t5, t6] <;> rfl) rfl ⟨rfl, hB⟩
  | true =>
    have hin' := of_decide_eq_true hin
    have g4 := P.get16_pos s 4 (by omega)
    have g12 := P.get32_pos s 12 (by omega)
    have g16 := P.get32_pos s 16 (by omega)
    have hs20 : 20 ≤ s.size := by omega
    have hn20 : 20 ≤ P.get16 s 2 := by omega
    have hnle : P.get16 s 2 ≤ s.size := by omega
    have hlen : (P.get16 s 2).toNat ≤ s.size := by omega
    clear hin'
    have f1 : (s[1].toNat : Int) = P.at8 s 1 := P.at8_eq s _ _
    have v1 := P.at8_range s 1
    have f8 : (s[8].toNat : Int) = P.at8 s 8 := P.at8_eq s _ _
    have v8 := P.at8_range s 8
    have f9 : (s[9].toNat : Int) = P.at8 s 9 := P.at8_eq s _ _
    have v9 := P.at8_range s 9
    have F1 := Lib.hid f1
    have F8 := Lib.hid f8
    have F9 := Lib.hid f9
    clear f1 f8 f9
    go_enter Try.func39, Try.ntmps39
    go_wp2_with (first | (go_at_call 23; refine (c_impl_Get16 _ _ hs _).mono ?_; rintro e w1 ⟨rfl, h1⟩; have R1 := BoxAt.bel (boxAt_alloc (n := w.heap.size) (w := w) (Nat.le_refl _) #[.int .i64 0, .int .i64 0, .int .i64 0, .int .i64 0, .int .i64 0, .int .i64 0, .string (P.bs [])] 47) h1; have r0 := R1.cell 0; have r1 := R1.cell 1; have r2 := R1.cell 2; have r3 := R1.cell 3; have r4 := R1.cell 4; have r5 := R1.cell 5; have r6 := R1.cell 6; have hfr := R1.frozen; have hzr := R1.old; simp at r0 r1 r2 r3 r4 r5 r6))
    refine wp_region_spot 20 [.string s, .int .u8 (P.at8 s 1), .int .i64 (P.at8 s 1), .string s, .int .i64 (P.get16 s 4), .string s, .int .u8 (P.at8 s 8), .int .i64 (P.at8 s 8), .string s, .int .u8 (P.at8 s 9), .int .i64 (P.at8 s 9), .string s, .int .i64 (P.get32 s 12), .string s, .int .i64 (P.get32 s 16), .string s, .int .i64 (P.get16 s 2), .string (s.extract 20 (P.get16 s 2).toNat), .agg #[.int .i64 (P.at8 s 1), .int .i64 (P.get16 s 4), .int .i64 (P.at8 s 8), .int .i64 (P.at8 s 9), .int .i64 (P.get32 s 12), .int .i64 (P.get32 s 16), .string (s.extract 20 (P.get16 s 2).toNat)], undef]
      [none, none, none, none, none, none, none, none, none, none, none, none, none, none, none, none, none, none, none, some (Spot.box (w.heap.size + 1) [.int .i64 0, .int .i64 0, .int .i64 0, .int .i64 0, .int .i64 0, .int .i64 0, .string (P.bs [])])] (by kernel_rfl) (by kernel_rfl) (Nat.le_of_ble_eq_true (by kernel_rfl)) (by kernel_rfl) ?_ ?_
    · refine ⟨?_, ?_, ?_, ?_, ?_, ?_, ?_, ?_, ?_, ?_, ?_, ?_, ?_, ?_, ?_, ?_, ?_, ?_, ?_, ?_, trivial⟩
      all_goals intro β w' hb hrow
      all_goals simp [lastSp, putL, spVal, Spot.box_val, Spot.box_lies, List.range, List.range.loop, QB, seen, dep, dstOf, go_sem, Region.binds] at hrow ⊢
      all_goals first | exact Bel.refl _ | exact c_impl_Get16 _ _ hs _ | exact c_impl_Get32 _ _ hs _ | (rw [dif_pos (by omega)]; exact ⟨Bel.refl _, by first | rw [F1.out] | rw [F8.out] | rw [F9.out]⟩) | exact ⟨Bel.refl _, by first | with_reducible assumption | exact IntWalk.i64_in _ (by omega)⟩ | (rw [if_pos (by omega), if_pos (by omega)]; exact ⟨Bel.refl _, rfl⟩) | exact ⟨(Bel.refl _).alloc _, boxAt_alloc (by have := hb.size; omega) _ _⟩
    · intro β w2 h2 hx
      simp [lastSp, putL, spVal, Spot.box_val, List.range, List.range.loop]
      have B2 := hx 19 _ (by decide) rfl
      rw [Spot.box_lies] at B2
      clear hx F1 F8 F9 r0 r1 r2 r3 r4 r5 r6 hfr hzr
      generalize β 19 = b at B2 ⊢
      have R2 := BoxAt.bel R1 h2
      have hnb := B2.new
      have hn1 : ¬ b = w.heap.size := by omega
      have hn2 : ¬ w.heap.size = b := by omega
      have k0 := B2.cell 0
      have k1 := B2.cell 1
      have k2 := B2.cell 2
      have k3 := B2.cell 3
      have k4 := B2.cell 4
      have k5 := B2.cell 5
      have k6 := B2.cell 6
      have hfb := B2.frozen
      have hzb := B2.old
      simp at k0 k1 k2 k3 k4 k5 k6
      have r0 := R2.cell 0
      have r1 := R2.cell 1
      have r2 := R2.cell 2
      have r3 := R2.cell 3
      have r4 := R2.cell 4
      have r5 := R2.cell 5
      have r6 := R2.cell 6
      have hfr := R2.frozen
      have hzr := R2.old
      simp at r0 r1 r2 r3 r4 r5 r6
      go_wp2_with fail
      refine (c_impl_BuildIp _ _ _ _ _ _ _ (by simp [ByteArray.size_extract]; omega) _).mono ?_
      rintro e w3 ⟨he, h3⟩
      have B3 := BoxAt.bel (BoxAt.set (BoxAt.set (BoxAt.set (BoxAt.set (BoxAt.set (BoxAt.set (BoxAt.set B2 0 (by simp) _) 1 (by simp) _) 2 (by simp) _) 3 (by simp) _) 4 (by simp) _) 5 (by simp) _) 6 (by simp) _) h3
      have R3 := BoxAt.bel (BoxAt.other (BoxAt.other (BoxAt.other (BoxAt.other (BoxAt.other (BoxAt.other (BoxAt.other R2 hn1 _) hn1 _) hn1 _) hn1 _) hn1 _) hn1 _) hn1 _) h3
      clear k0 k1 k2 k3 k4 k5 k6 hfb hzb r0 r1 r2 r3 r4 r5 r6 hfr hzr
      have k0 := B3.cell 0
      have k1 := B3.cell 1
      have k2 := B3.cell 2
      have k3 := B3.cell 3
      have k4 := B3.cell 4
      have k5 := B3.cell 5
      have k6 := B3.cell 6
      have hfb := B3.frozen
      have hzb := B3.old
      simp at k0 k1 k2 k3 k4 k5 k6
      have r0 := R3.cell 0
      have r1 := R3.cell 1
      have r2 := R3.cell 2
      have r3 := R3.cell 3
      have r4 := R3.cell 4
      have r5 := R3.cell 5
      have r6 := R3.cell 6
      have hfr := R3.frozen
      have hzr := R3.old
      simp at r0 r1 r2 r3 r4 r5 r6
      cases hok : P.ipOk (P.at8 s 1) (P.get16 s 4) (P.at8 s 8) (P.at8 s 9) (P.get32 s 12) (P.get32 s 16) (s.extract 20 (P.get16 s 2).toNat).size with
      | false =>
        rw [hok] at he
        subst he
        have hpi := P.piOk_no s hok
        obtain ⟨q1, q2, q3, q4, q5, q6, q7⟩ := P.pi_bad s hpi
        have HF := Lib.hid (show Ending.returned (.tuple #[.agg #[.int .i64 0, .int .i64 0, .int .i64 0, .int .i64 0, .int .i64 0, .int .i64 0, .string (P.bs [])], .bool false]) = Ending.returned (.tuple #[.agg #[.int .i64 (P.piTos s), .int .i64 (P.piId s), .int .i64 (P.piTtl s), .int .i64 (P.piProto s), .int .i64 (P.piSrc s), .int .i64 (P.piDst s), .string (P.piB s)], .bool (P.piOk s)]) from by rw [q1, q2, q3, q4, q5, q6, q7, hpi])
        clear q1 q2 q3 q4 q5 q6 q7 hpi
        go_wp2
        refine post_box (w := w) (by repeat (first | with_reducible assumption | with_reducible exact Bel.refl _ | with_reducible refine Bel.alloc ?_ _ | with_reducible refine Bel.drew ?_ | with_reducible refine Bel.drewN ?_ _ | with_reducible refine Bel.setCell ?_ ?_ _ | with_reducible exact Nat.le_refl _ | (dsimp only; omega) | (refine Bel.trans ?_ (by with_reducible assumption)))) (BoxAt.set (BoxAt.set (BoxAt.set (BoxAt.set (BoxAt.set (BoxAt.set (BoxAt.set R3 0 (by simp) _) 1 (by simp) _) 2 (by simp) _) 3 (by simp) _) 4 (by simp) _) 5 (by simp) _) 6 (by simp) _) ?_
        intro W hB RF
        have t0 := RF.cell 0
        have t1 := RF.cell 1
        have t2 := RF.cell 2
        have t3 := RF.cell 3
        have t4 := RF.cell 4
        have t5 := RF.cell 5
        have t6 := RF.cell 6
        simp at t0 t1 t2 t3 t4 t5 t6
        exact bodyPost_ret (v := .tuple #[.agg #[.int .i64 0, .int .i64 0, .int .i64 0, .int .i64 0, .int .i64 0, .int .i64 0, .string (P.bs [])], .bool false]) (by simp [results, Try.results39, go_sem, t0, t1, t2, t3, t4, t5, t6] <;> rfl) rfl ⟨HF.out, hB⟩
      | true =>
        rw [hok] at he
        subst he
        by_cases heq : P.buildIp (P.at8 s 1) (P.get16 s 4) (P.at8 s 8) (P.at8 s 9) (P.get32 s 12) (P.get32 s 16) (s.extract 20 (P.get16 s 2).toNat) = s.extract 0 (P.get16 s 2).toNat
        · have hpi := P.piOk_yes s hin hok heq
          obtain ⟨q1, q2, q3, q4, q5, q6, q7⟩ := P.pi_good s hpi
          have HF := Lib.hid (show Ending.returned (.tuple #[.agg #[.int .i64 (P.at8 s 1), .int .i64 (P.get16 s 4), .int .i64 (P.at8 s 8), .int .i64 (P.at8 s 9), .int .i64 (P.get32 s 12), .int .i64 (P.get32 s 16), .string (s.extract 20 (P.get16 s 2).toNat)], .bool true]) = Ending.returned (.tuple #[.agg #[.int .i64 (P.piTos s), .int .i64 (P.piId s), .int .i64 (P.piTtl s), .int .i64 (P.piProto s), .int .i64 (P.piSrc s), .int .i64 (P.piDst s), .string (P.piB s)], .bool (P.piOk s)]) from by rw [q1, q2, q3, q4, q5, q6, q7, hpi])
          clear q1 q2 q3 q4 q5 q6 q7 hpi
          go_wp2
          refine post_box (w := w) (by repeat (first | with_reducible assumption | with_reducible exact Bel.refl _ | with_reducible refine Bel.alloc ?_ _ | with_reducible refine Bel.drew ?_ | with_reducible refine Bel.drewN ?_ _ | with_reducible refine Bel.setCell ?_ ?_ _ | with_reducible exact Nat.le_refl _ | (dsimp only; omega) | (refine Bel.trans ?_ (by with_reducible assumption)))) (BoxAt.set (BoxAt.set (BoxAt.set (BoxAt.set (BoxAt.set (BoxAt.set (BoxAt.set R3 0 (by simp) _) 1 (by simp) _) 2 (by simp) _) 3 (by simp) _) 4 (by simp) _) 5 (by simp) _) 6 (by simp) _) ?_
          intro W hB RF
          have t0 := RF.cell 0
          have t1 := RF.cell 1
          have t2 := RF.cell 2
          have t3 := RF.cell 3
          have t4 := RF.cell 4
          have t5 := RF.cell 5
          have t6 := RF.cell 6
          simp at t0 t1 t2 t3 t4 t5 t6
          exact bodyPost_ret (v := .tuple #[.agg #[.int .i64 (P.at8 s 1), .int .i64 (P.get16 s 4), .int .i64 (P.at8 s 8), .int .i64 (P.at8 s 9), .int .i64 (P.get32 s 12), .int .i64 (P.get32 s 16), .string (s.extract 20 (P.get16 s 2).toNat)], .bool true]) (by simp [results, Try.results39, go_sem, t0, t1, t2, t3, t4, t5, t6]) rfl ⟨HF.out, hB⟩
        · have hpi := P.piOk_ne s heq
          obtain ⟨q1, q2, q3, q4, q5, q6, q7⟩ := P.pi_bad s hpi
          have HF := Lib.hid (show Ending.returned (.tuple #[.agg #[.int .i64 0, .int .i64 0, .int .i64 0, .int .i64 0, .int .i64 0, .int .i64 0, .string (P.bs [])], .bool false]) = Ending.returned (.tuple #[.agg #[.int .i64 (P.piTos s), .int .i64 (P.piId s), .int .i64 (P.piTtl s), .int .i64 (P.piProto s), .int .i64 (P.piSrc s), .int .i64 (P.piDst s), .string (P.piB s)], .bool (P.piOk s)]) from by rw [q1, q2, q3, q4, q5, q6, q7, hpi])
          clear q1 q2 q3 q4 q5 q6 q7 hpi
          go_wp2
          refine post_box (w := w) (by repeat (first | with_reducible assumption | with_reducible exact Bel.refl _ | with_reducible refine Bel.alloc ?_ _ | with_reducible refine Bel.drew ?_ | with_reducible refine Bel.drewN ?_ _ | with_reducible refine Bel.setCell ?_ ?_ _ | with_reducible exact Nat.le_refl _ | (dsimp only; omega) | (refine Bel.trans ?_ (by with_reducible assumption)))) (BoxAt.set (BoxAt.set (BoxAt.set (BoxAt.set (BoxAt.set (BoxAt.set (BoxAt.set R3 0 (by simp) _) 1 (by simp) _) 2 (by simp) _) 3 (by simp) _) 4 (by simp) _) 5 (by simp) _) 6 (by simp) _) ?_
          intro W hB RF
          have t0 := RF.cell 0
          have t1 := RF.cell 1
          have t2 := RF.cell 2
          have t3 := RF.cell 3
          have t4 := RF.cell 4
          have t5 := RF.cell 5
          have t6 := RF.cell 6
          simp at t0 t1 t2 t3 t4 t5 t6
          exact bodyPost_ret (v := .tuple #[.agg #[.int .i64 0, .int .i64 0, .int .i64 0, .int .i64 0, .int .i64 0, .int .i64 0, .string (P.bs [])], .bool false]) (by simp [results, Try.results39, go_sem, t0, t1, t2, t3, t4, t5, t6] <;> rfl) rfl ⟨HF.out, hB⟩
set_option maxHeartbeats 2000000 in
theorem c_impl_LowerTtl (s : ByteArray) (hs : s.size ≤ 1073741824) (w : World) :
    Calls Try.prog 45 #[.string s] w fun e w' => e = .returned (.tuple #[.string (P.lowerTtl s), .bool (P.ttlOk s)]) ∧ Bel w w' := by
  cases hok : P.piOk s with
  | false =>
    obtain ⟨q1, q2, q3, q4, q5, q6, q7⟩ := P.pi_bad s hok
    have HF := Lib.hid (P.ttl_bad s hok)
    go_enter Try.func45, Try.ntmps45
    go_wp2_with (go_at_call 39; refine (c_impl_ParseIp _ hs _).mono ?_; rintro e w1 ⟨he, h1⟩; rw [q1, q2, q3, q4, q5, q6, q7, hok] at he; subst he; clear q1 q2 q3 q4 q5 q6 q7 hok)
    go_ret2
    exact ⟨ret_sb HF.out.1.symm HF.out.2.symm, (by repeat (first | with_reducible assumption | with_reducible exact Bel.refl _ | with_reducible refine Bel.alloc ?_ _ | with_reducible refine Bel.drew ?_ | with_reducible refine Bel.drewN ?_ _ | with_reducible refine Bel.setCell ?_ ?_ _ | with_reducible exact Nat.le_refl _ | (dsimp only; omega) | (refine Bel.trans ?_ (by with_reducible assumption))))⟩
  | true =>
    obtain ⟨q1, q2, q3, q4, q5, q6, q7⟩ := P.pi_good s hok
    have hsz := P.piOk_size s hok
    have v8 := P.at8_range s 8
    have v9 := P.at8_range s 9
    by_cases ht : P.at8 s 8 = 0
    · have HF := Lib.hid (P.ttl_zero s ht)
      go_enter Try.func45, Try.ntmps45
      go_wp2_with (go_at_call 39; refine (c_impl_ParseIp _ hs _).mono ?_; rintro e w1 ⟨he, h1⟩; rw [q1, q2, q3, q4, q5, q6, q7, hok] at he; subst he; clear q1 q2 q3 q4 q5 q6 q7 hok)
      go_ret2
      exact ⟨ret_sb HF.out.1.symm HF.out.2.symm, (by repeat (first | with_reducible assumption | with_reducible exact Bel.refl _ | with_reducible refine Bel.alloc ?_ _ | with_reducible refine Bel.drew ?_ | with_reducible refine Bel.drewN ?_ _ | with_reducible refine Bel.setCell ?_ ?_ _ | with_reducible exact Nat.le_refl _ | (dsimp only; omega) | (refine Bel.trans ?_ (by with_reducible assumption))))⟩
    · have HF := Lib.hid (P.ttl_good s hok ht)
      have e1 : bits .or .i64 (P.at8 s 8 * 256) (P.at8 s 9) = P.at8 s 8 * 256 + P.at8 s 9 := P.or_low8 _ _ (by omega) (by omega)
      have e2 : P.get16 s 8 = P.at8 s 8 * 256 + P.at8 s 9 := P.get16_at s 8 (by omega)
      have z1 := P.word16_size_le (P.at8 s 8 * 256 + P.at8 s 9 - 256)
      have hp : (P.putBytes s 8 (P.word16 (P.at8 s 8 * 256 + P.at8 s 9 - 256))).size ≤ 1073741824 := by rw [P.putBytes_size]; exact hs
      clear e2
      go_enter Try.func45, Try.ntmps45
      go_wp2_with (first | (go_at_call 39; refine (c_impl_ParseIp _ hs _).mono ?_; rintro e w1 ⟨he, h1⟩; rw [q1, q2, q3, q4, q5, q6, q7, hok] at he; subst he; clear q1 q2 q3 q4 q5 q6 q7 hok) | (go_at_call 23; refine (c_impl_Get16 _ _ hs _).mono ?_; rintro e w2 ⟨rfl, h2⟩) | (go_at_call 29; refine (c_impl_UpdateChecksum _ _ _ _).mono ?_; rintro e w3 ⟨rfl, rfl⟩) | (go_at_call 21; refine (c_impl_Word16 _ _).mono ?_; rintro e w4 ⟨rfl, h4⟩) | (go_at_call 24; refine (c_impl_PutBytes _ _ _ (by first | exact hs | exact hp) (Nat.le_trans (P.word16_size_le _) (by decide)) _).mono ?_; rintro e w5 ⟨rfl, h5⟩))
      go_ret2
      exact ⟨ret_sb HF.out.1.symm HF.out.2.symm, (by repeat (first | with_reducible assumption | with_reducible exact Bel.refl _ | with_reducible refine Bel.alloc ?_ _ | with_reducible refine Bel.drew ?_ | with_reducible refine Bel.drewN ?_ _ | with_reducible refine Bel.setCell ?_ ?_ _ | with_reducible exact Nat.le_refl _ | (dsimp only; omega) | (refine Bel.trans ?_ (by with_reducible assumption))))⟩
end Go.Proofs.Ytnpnkkjdnmgbkaa
