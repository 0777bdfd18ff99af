/-
  The contracts of chapter 6, third part: segments read back (the program's).
-/
import Derived.Test.Ytnpnkkjdnmgbkaa12i
import Derived.Test.YtnpnkkjdnmgbkaaBox
import Derived.Test.YtnpnkkjdnmgbkaaPure4
namespace Go.Proofs.Ytnpnkkjdnmgbkaa
open Go.RowKit
set_option linter.unusedVariables false

set_option maxHeartbeats 8000000 in
theorem c_impl_ParseSegment (src dst kind : Int) (s : ByteArray) (hs : s.size ≤ 1073741824) (w : World) :
    Calls Try.prog 42 #[.int .i64 src, .int .i64 dst, .int .i64 kind, .string s] w fun e w' => e = .returned (.tuple #[.agg #[.int .i64 (P.psKind src dst kind s), .int .i64 (P.psSp src dst kind s), .int .i64 (P.psDp src dst kind s), .int .i64 (P.psSeq src dst kind s), .int .i64 (P.psAck src dst kind s), .int .i64 (P.psFlags src dst kind s), .int .i64 (P.psWin src dst kind s), .string (P.psB src dst kind s)], .bool (P.psOk src dst kind s)]) ∧ Bel w w' := by
  by_cases h6 : kind = 6
  · subst h6
    by_cases hsz : 20 ≤ s.size
    · have f13 : (s[13].toNat : Int) = P.at8 s 13 := P.at8_eq s _ _
      have v13 := P.at8_range s 13
      go_enter Try.func42, Try.ntmps42
      go_wp2_with fail
      refine (c_impl_Get16 _ _ hs _).mono ?_
      rintro e w1 ⟨rfl, h1⟩
      have R1 := BoxAt.bel (boxAt_alloc (n := w.heap.size) (w := w) (Nat.le_refl _) #[.int .i64 0, .int .i64 0, .int .i64 0, .int .i64 0, .int .i64 0, .int .i64 0, .int .i64 0, .string (P.bs [])] 53) h1
      go_wp2_with fail
      refine (c_impl_Get16 _ _ hs _).mono ?_
      rintro e w2 ⟨rfl, h2⟩
      have R2 := BoxAt.bel R1 h2
      have r0 := R2.cell 0
      have r1 := R2.cell 1
      have r2 := R2.cell 2
      have r3 := R2.cell 3
      have r4 := R2.cell 4
      have r5 := R2.cell 5
      have r6 := R2.cell 6
      have r7 := R2.cell 7
      have hfr := R2.frozen
      have hzr := R2.old
      simp at r0 r1 r2 r3 r4 r5 r6 r7
      have hn1 : ¬ w2.heap.size = w.heap.size := by omega
      have hle2 : w.heap.size ≤ w2.heap.size := by omega
      have hn2 : ¬ w.heap.size = w2.heap.size := by omega
      have B2 := boxAt_alloc (n := w.heap.size + 1) (w := w2) (by omega) #[.int .i64 6, .int .i64 (P.get16 s 0), .int .i64 (P.get16 s 2), .int .i64 0, .int .i64 0, .int .i64 0, .int .i64 0, .string ⟨#[]⟩] 53
      go_wp2_with fail
      refine (c_impl_Get32 _ _ hs _).mono ?_
      rintro e w3 ⟨rfl, h3⟩
      have B3 := BoxAt.bel B2 h3
      have R3 := BoxAt.bel (BoxAt.alloc R2 _) h3
      clear r0 r1 r2 r3 r4 r5 r6 r7 hfr hzr
      have k0 := B3.cell 0
      have k1 := B3.cell 1
      have k2 := B3.cell 2
      have k3 := B3.cell 3
      have k4 := B3.cell 4
      have k5 := B3.cell 5
      have k6 := B3.cell 6
      have k7 := B3.cell 7
      have hfb := B3.frozen
      have hzb := B3.old
      simp at k0 k1 k2 k3 k4 k5 k6 k7
      have r0 := R3.cell 0
      have r1 := R3.cell 1
      have r2 := R3.cell 2
      have r3 := R3.cell 3
      have r4 := R3.cell 4
      have r5 := R3.cell 5
      have r6 := R3.cell 6
      have r7 := R3.cell 7
      have hfr := R3.frozen
      have hzr := R3.old
      simp at r0 r1 r2 r3 r4 r5 r6 r7
      go_wp2_with fail
      refine (c_impl_Get32 _ _ hs _).mono ?_
      rintro e w4 ⟨rfl, h4⟩
      have B4 := BoxAt.bel (BoxAt.set B3 3 (by simp) _) h4
      have R4 := BoxAt.bel (BoxAt.other R3 hn1 _) h4
      clear r0 r1 r2 r3 r4 r5 r6 r7 hfr hzr
      clear k0 k1 k2 k3 k4 k5 k6 k7 hfb hzb
      have k0 := B4.cell 0
      have k1 := B4.cell 1
      have k2 := B4.cell 2
      have k3 := B4.cell 3
      have k4 := B4.cell 4
      have k5 := B4.cell 5
      have k6 := B4.cell 6
      have k7 := B4.cell 7
      have hfb := B4.frozen
      have hzb := B4.old
      simp at k0 k1 k2 k3 k4 k5 k6 k7
      have r0 := R4.cell 0
      have r1 := R4.cell 1
      have r2 := R4.cell 2
      have r3 := R4.cell 3
      have r4 := R4.cell 4
      have r5 := R4.cell 5
      have r6 := R4.cell 6
      have r7 := R4.cell 7
      have hfr := R4.frozen
      have hzr := R4.old
      simp at r0 r1 r2 r3 r4 r5 r6 r7
      go_wp2_with fail
      refine (c_impl_Get16 _ _ hs _).mono ?_
      rintro e w5 ⟨rfl, h5⟩
      have B5 := BoxAt.bel (BoxAt.set (BoxAt.set B4 4 (by simp) _) 5 (by simp) _) h5
      have R5 := BoxAt.bel (BoxAt.other (BoxAt.other R4 hn1 _) hn1 _) h5
      clear r0 r1 r2 r3 r4 r5 r6 r7 hfr hzr
      clear k0 k1 k2 k3 k4 k5 k6 k7 hfb hzb
      have k0 := B5.cell 0
      have k1 := B5.cell 1
      have k2 := B5.cell 2
      have k3 := B5.cell 3
      have k4 := B5.cell 4
      have k5 := B5.cell 5
      have k6 := B5.cell 6
      have k7 := B5.cell 7
      have hfb := B5.frozen
      have hzb := B5.old
      simp at k0 k1 k2 k3 k4 k5 k6 k7
      have r0 := R5.cell 0
      have r1 := R5.cell 1
      have r2 := R5.cell 2
      have r3 := R5.cell 3
      have r4 := R5.cell 4
      have r5 := R5.cell 5
      have r6 := R5.cell 6
      have r7 := R5.cell 7
      have hfr := R5.frozen
      have hzr := R5.old
      simp at r0 r1 r2 r3 r4 r5 r6 r7
      go_wp2_with fail
      refine (c_impl_BuildSegment _ _ _ _ _ _ _ _ _ _ (by simp [ByteArray.size_extract]; omega) _).mono ?_
      rintro e w6 ⟨he, h6⟩
      have B6 := BoxAt.bel (BoxAt.set (BoxAt.set B5 6 (by simp) _) 7 (by simp) _) h6
      have R6 := BoxAt.bel (BoxAt.other (BoxAt.other R5 hn1 _) hn1 _) h6
      clear r0 r1 r2 r3 r4 r5 r6 r7 hfr hzr
      clear k0 k1 k2 k3 k4 k5 k6 k7 hfb hzb
      have k0 := B6.cell 0
      have k1 := B6.cell 1
      have k2 := B6.cell 2
      have k3 := B6.cell 3
      have k4 := B6.cell 4
      have k5 := B6.cell 5
      have k6 := B6.cell 6
      have k7 := B6.cell 7
      have hfb := B6.frozen
      have hzb := B6.old
      simp at k0 k1 k2 k3 k4 k5 k6 k7
      have r0 := R6.cell 0
      have r1 := R6.cell 1
      have r2 := R6.cell 2
      have r3 := R6.cell 3
      have r4 := R6.cell 4
      have r5 := R6.cell 5
      have r6 := R6.cell 6
      have r7 := R6.cell 7
      have hfr := R6.frozen
      have hzr := R6.old
      simp at r0 r1 r2 r3 r4 r5 r6 r7
      cases hok : P.bsOk src dst 6 (P.get16 s 0) (P.get16 s 2) (P.get32 s 4) (P.get32 s 8) (P.at8 s 13) (P.get16 s 14) (s.extract 20 s.size) with
      | false =>
        rw [hok] at he
        subst he
        have hps := P.ps_tcp_no src dst s hok
        obtain ⟨q1, q2, q3, q4, q5, q6, q7, q8⟩ := P.ps_bad src dst 6 s hps
        have HF := Lib.hid (show Ending.returned (.tuple #[.agg #[.int .i64 0, .int .i64 0, .int .i64 0, .int .i64 0, .int .i64 0, .int .i64 0, .int .i64 0, .string (P.bs [])], .bool false]) = Ending.returned (.tuple #[.agg #[.int .i64 (P.psKind src dst 6 s), .int .i64 (P.psSp src dst 6 s), .int .i64 (P.psDp src dst 6 s), .int .i64 (P.psSeq src dst 6 s), .int .i64 (P.psAck src dst 6 s), .int .i64 (P.psFlags src dst 6 s), .int .i64 (P.psWin src dst 6 s), .string (P.psB src dst 6 s)], .bool (P.psOk src dst 6 s)]) from by rw [q1, q2, q3, q4, q5, q6, q7, q8, hps])
        clear q1 q2 q3 q4 q5 q6 q7 q8 hps
        go_wp2
        refine post_box (w := w) (by repeat (first | with_reducible assumption | with_reducible exact Bel.refl _ | with_reducible refine Bel.alloc ?_ _ | with_reducible refine Bel.drew ?_ | with_reducible refine Bel.drewN ?_ _ | with_reducible refine Bel.setCell ?_ ?_ _ | with_reducible exact Nat.le_refl _ | (dsimp only; omega) | (refine Bel.trans ?_ (by with_reducible assumption)))) (BoxAt.set (BoxAt.set (BoxAt.set (BoxAt.set (BoxAt.set (BoxAt.set (BoxAt.set (BoxAt.set R6 0 (by simp) _) 1 (by simp) _) 2 (by simp) _) 3 (by simp) _) 4 (by simp) _) 5 (by simp) _) 6 (by simp) _) 7 (by simp) _) ?_
        intro W hB RF
        have t0 := RF.cell 0
        have t1 := RF.cell 1
        have t2 := RF.cell 2
        have t3 := RF.cell 3
        have t4 := RF.cell 4
        have t5 := RF.cell 5
        have t6 := RF.cell 6
        have t7 := RF.cell 7
        simp at t0 t1 t2 t3 t4 t5 t6 t7
        exact bodyPost_ret (v := .tuple #[.agg #[.int .i64 0, .int .i64 0, .int .i64 0, .int .i64 0, .int .i64 0, .int .i64 0, .int .i64 0, .string (P.bs [])], .bool false]) (by simp [results, Try.results42, go_sem, t0, t1, t2, t3, t4, t5, t6, t7] <;> rfl) rfl ⟨HF.out, hB⟩
      | true =>
        rw [hok] at he
        subst he
        by_cases heq : P.buildSeg src dst 6 (P.get16 s 0) (P.get16 s 2) (P.get32 s 4) (P.get32 s 8) (P.at8 s 13) (P.get16 s 14) (s.extract 20 s.size) = s
        · have hps := P.ps_tcp_yes src dst s hsz hok heq
          obtain ⟨q1, q2, q3, q4, q5, q6, q7, q8⟩ := P.ps_tcp src dst s hps
          have HF := Lib.hid (show Ending.returned (.tuple #[.agg #[.int .i64 6, .int .i64 (P.get16 s 0), .int .i64 (P.get16 s 2), .int .i64 (P.get32 s 4), .int .i64 (P.get32 s 8), .int .i64 (P.at8 s 13), .int .i64 (P.get16 s 14), .string (s.extract 20 s.size)], .bool true]) = Ending.returned (.tuple #[.agg #[.int .i64 (P.psKind src dst 6 s), .int .i64 (P.psSp src dst 6 s), .int .i64 (P.psDp src dst 6 s), .int .i64 (P.psSeq src dst 6 s), .int .i64 (P.psAck src dst 6 s), .int .i64 (P.psFlags src dst 6 s), .int .i64 (P.psWin src dst 6 s), .string (P.psB src dst 6 s)], .bool (P.psOk src dst 6 s)]) from by rw [q1, q2, q3, q4, q5, q6, q7, q8, hps])
          clear q1 q2 q3 q4 q5 q6 q7 q8 hps
          go_wp2
          refine post_box (w := w) (by repeat (first | with_reducible assumption | with_reducible exact Bel.refl _ | with_reducible refine Bel.alloc ?_ _ | with_reducible refine Bel.drew ?_ | with_reducible refine Bel.drewN ?_ _ | with_reducible refine Bel.setCell ?_ ?_ _ | with_reducible exact Nat.le_refl _ | (dsimp only; omega) | (refine Bel.trans ?_ (by with_reducible assumption)))) (BoxAt.set (BoxAt.set (BoxAt.set (BoxAt.set (BoxAt.set (BoxAt.set (BoxAt.set (BoxAt.set R6 0 (by simp) _) 1 (by simp) _) 2 (by simp) _) 3 (by simp) _) 4 (by simp) _) 5 (by simp) _) 6 (by simp) _) 7 (by simp) _) ?_
          intro W hB RF
          have t0 := RF.cell 0
          have t1 := RF.cell 1
          have t2 := RF.cell 2
          have t3 := RF.cell 3
          have t4 := RF.cell 4
          have t5 := RF.cell 5
          have t6 := RF.cell 6
          have t7 := RF.cell 7
          simp at t0 t1 t2 t3 t4 t5 t6 t7
          exact bodyPost_ret (v := .tuple #[.agg #[.int .i64 6, .int .i64 (P.get16 s 0), .int .i64 (P.get16 s 2), .int .i64 (P.get32 s 4), .int .i64 (P.get32 s 8), .int .i64 (P.at8 s 13), .int .i64 (P.get16 s 14), .string (s.extract 20 s.size)], .bool true]) (by simp [results, Try.results42, go_sem, t0, t1, t2, t3, t4, t5, t6, t7]) rfl ⟨HF.out, hB⟩
        · have hps := P.ps_tcp_ne src dst s heq
          obtain ⟨q1, q2, q3, q4, q5, q6, q7, q8⟩ := P.ps_bad src dst 6 s hps
          have HF := Lib.hid (show Ending.returned (.tuple #[.agg #[.int .i64 0, .int .i64 0, .int .i64 0, .int .i64 0, .int .i64 0, .int .i64 0, .int .i64 0, .string (P.bs [])], .bool false]) = Ending.returned (.tuple #[.agg #[.int .i64 (P.psKind src dst 6 s), .int .i64 (P.psSp src dst 6 s), .int .i64 (P.psDp src dst 6 s), .int .i64 (P.psSeq src dst 6 s), .int .i64 (P.psAck src dst 6 s), .int .i64 (P.psFlags src dst 6 s), .int .i64 (P.psWin src dst 6 s), .string (P.psB src dst 6 s)], .bool (P.psOk src dst 6 s)]) from by rw [q1, q2, q3, q4, q5, q6, q7, q8, hps])
          clear q1 q2 q3 q4 q5 q6 q7 q8 hps
          go_wp2
          refine post_box (w := w) (by repeat (first | with_reducible assumption | with_reducible exact Bel.refl _ | with_reducible refine Bel.alloc ?_ _ | with_reducible refine Bel.drew ?_ | with_reducible refine Bel.drewN ?_ _ | with_reducible refine Bel.setCell ?_ ?_ _ | with_reducible exact Nat.le_refl _ | (dsimp only; omega) | (refine Bel.trans ?_ (by with_reducible assumption)))) (BoxAt.set (BoxAt.set (BoxAt.set (BoxAt.set (BoxAt.set (BoxAt.set (BoxAt.set (BoxAt.set R6 0 (by simp) _) 1 (by simp) _) 2 (by simp) _) 3 (by simp) _) 4 (by simp) _) 5 (by simp) _) 6 (by simp) _) 7 (by simp) _) ?_
          intro W hB RF
          have t0 := RF.cell 0
          have t1 := RF.cell 1
          have t2 := RF.cell 2
          have t3 := RF.cell 3
          have t4 := RF.cell 4
          have t5 := RF.cell 5
          have t6 := RF.cell 6
          have t7 := RF.cell 7
          simp at t0 t1 t2 t3 t4 t5 t6 t7
          exact bodyPost_ret (v := .tuple #[.agg #[.int .i64 0, .int .i64 0, .int .i64 0, .int .i64 0, .int .i64 0, .int .i64 0, .int .i64 0, .string (P.bs [])], .bool false]) (by simp [results, Try.results42, go_sem, t0, t1, t2, t3, t4, t5, t6, t7] <;> rfl) rfl ⟨HF.out, hB⟩
    · skip
      have hps := P.ps_in src dst 6 s (decide_eq_false (by omega))
      obtain ⟨q1, q2, q3, q4, q5, q6, q7, q8⟩ := P.ps_bad src dst 6 s hps
      have HF := Lib.hid (show Ending.returned (.tuple #[.agg #[.int .i64 0, .int .i64 0, .int .i64 0, .int .i64 0, .int .i64 0, .int .i64 0, .int .i64 0, .string (P.bs [])], .bool false]) = Ending.returned (.tuple #[.agg #[.int .i64 (P.psKind src dst 6 s), .int .i64 (P.psSp src dst 6 s), .int .i64 (P.psDp src dst 6 s), .int .i64 (P.psSeq src dst 6 s), .int .i64 (P.psAck src dst 6 s), .int .i64 (P.psFlags src dst 6 s), .int .i64 (P.psWin src dst 6 s), .string (P.psB src dst 6 s)], .bool (P.psOk src dst 6 s)]) from by rw [q1, q2, q3, q4, q5, q6, q7, q8, hps])
      clear q1 q2 q3 q4 q5 q6 q7 q8 hps
      go_enter Try.func42, Try.ntmps42
      go_wp2_with fail
      refine (c_impl_Get16 _ _ hs _).mono ?_
      rintro e w1 ⟨rfl, h1⟩
      have R1 := BoxAt.bel (boxAt_alloc (n := w.heap.size) (w := w) (Nat.le_refl _) #[.int .i64 0, .int .i64 0, .int .i64 0, .int .i64 0, .int .i64 0, .int .i64 0, .int .i64 0, .string (P.bs [])] 53) h1
      go_wp2_with fail
      refine (c_impl_Get16 _ _ hs _).mono ?_
      rintro e w2 ⟨rfl, h2⟩
      have R2 := BoxAt.bel R1 h2
      have r0 := R2.cell 0
      have r1 := R2.cell 1
      have r2 := R2.cell 2
      have r3 := R2.cell 3
      have r4 := R2.cell 4
      have r5 := R2.cell 5
      have r6 := R2.cell 6
      have r7 := R2.cell 7
      have hfr := R2.frozen
      have hzr := R2.old
      simp at r0 r1 r2 r3 r4 r5 r6 r7
      have hn1 : ¬ w2.heap.size = w.heap.size := by omega
      have hle2 : w.heap.size ≤ w2.heap.size := by omega
      have hn2 : ¬ w.heap.size = w2.heap.size := by omega
      go_wp2
      refine post_box (w := w) (by repeat (first | with_reducible assumption | with_reducible exact Bel.refl _ | with_reducible refine Bel.alloc ?_ _ | with_reducible refine Bel.drew ?_ | with_reducible refine Bel.drewN ?_ _ | with_reducible refine Bel.setCell ?_ ?_ _ | with_reducible exact Nat.le_refl _ | (dsimp only; omega) | (refine Bel.trans ?_ (by with_reducible assumption)))) (BoxAt.alloc (BoxAt.set (BoxAt.set (BoxAt.set (BoxAt.set (BoxAt.set (BoxAt.set (BoxAt.set (BoxAt.set R2 0 (by simp) _) 1 (by simp) _) 2 (by simp) _) 3 (by simp) _) 4 (by simp) _) 5 (by simp) _) 6 (by simp) _) 7 (by simp) _) _) ?_
      intro W hB RF
      have t0 := RF.cell 0
      have t1 := RF.cell 1
      have t2 := RF.cell 2
      have t3 := RF.cell 3
      have t4 := RF.cell 4
      have t5 := RF.cell 5
      have t6 := RF.cell 6
      have t7 := RF.cell 7
      simp at t0 t1 t2 t3 t4 t5 t6 t7
      exact bodyPost_ret (v := .tuple #[.agg #[.int .i64 0, .int .i64 0, .int .i64 0, .int .i64 0, .int .i64 0, .int .i64 0, .int .i64 0, .string (P.bs [])], .bool false]) (by simp [results, Try.results42, go_sem, t0, t1, t2, t3, t4, t5, t6, t7] <;> rfl) rfl ⟨HF.out, hB⟩
  · by_cases h17 : kind = 17
    · subst h17
      by_cases hsz : 8 ≤ s.size
      · skip
        go_enter Try.func42, Try.ntmps42
        go_wp2_with fail
        refine (c_impl_Get16 _ _ hs _).mono ?_
        rintro e w1 ⟨rfl, h1⟩
        have R1 := BoxAt.bel (boxAt_alloc (n := w.heap.size) (w := w) (Nat.le_refl _) #[.int .i64 0, .int .i64 0, .int .i64 0, .int .i64 0, .int .i64 0, .int .i64 0, .int .i64 0, .string (P.bs [])] 53) h1
        go_wp2_with fail
        refine (c_impl_Get16 _ _ hs _).mono ?_
        rintro e w2 ⟨rfl, h2⟩
        have R2 := BoxAt.bel R1 h2
        have r0 := R2.cell 0
        have r1 := R2.cell 1
        have r2 := R2.cell 2
        have r3 := R2.cell 3
        have r4 := R2.cell 4
        have r5 := R2.cell 5
        have r6 := R2.cell 6
        have r7 := R2.cell 7
        have hfr := R2.frozen
        have hzr := R2.old
        simp at r0 r1 r2 r3 r4 r5 r6 r7
        have hn1 : ¬ w2.heap.size = w.heap.size := by omega
        have hle2 : w.heap.size ≤ w2.heap.size := by omega
        have hn2 : ¬ w.heap.size = w2.heap.size := by omega
        have B2 := boxAt_alloc (n := w.heap.size + 1) (w := w2) (by omega) #[.int .i64 17, .int .i64 (P.get16 s 0), .int .i64 (P.get16 s 2), .int .i64 0, .int .i64 0, .int .i64 0, .int .i64 0, .string (s.extract 8 s.size)] 53
        go_wp2_with fail
        refine (c_impl_BuildSegment _ _ _ _ _ _ _ _ _ _ (by simp [ByteArray.size_extract]; omega) _).mono ?_
        rintro e w6 ⟨he, h6⟩
        have B6 := BoxAt.bel B2 h6
        have R6 := BoxAt.bel (BoxAt.alloc R2 _) h6
        clear r0 r1 r2 r3 r4 r5 r6 r7 hfr hzr
        have k0 := B6.cell 0
        have k1 := B6.cell 1
        have k2 := B6.cell 2
        have k3 := B6.cell 3
        have k4 := B6.cell 4
        have k5 := B6.cell 5
        have k6 := B6.cell 6
        have k7 := B6.cell 7
        have hfb := B6.frozen
        have hzb := B6.old
        simp at k0 k1 k2 k3 k4 k5 k6 k7
        have r0 := R6.cell 0
        have r1 := R6.cell 1
        have r2 := R6.cell 2
        have r3 := R6.cell 3
        have r4 := R6.cell 4
        have r5 := R6.cell 5
        have r6 := R6.cell 6
        have r7 := R6.cell 7
        have hfr := R6.frozen
        have hzr := R6.old
        simp at r0 r1 r2 r3 r4 r5 r6 r7
        cases hok : P.bsOk src dst 17 (P.get16 s 0) (P.get16 s 2) 0 0 0 0 (s.extract 8 s.size) with
        | false =>
          rw [hok] at he
          subst he
          have hps := P.ps_udp_no src dst s hok
          obtain ⟨q1, q2, q3, q4, q5, q6, q7, q8⟩ := P.ps_bad src dst 17 s hps
          have HF := Lib.hid (show Ending.returned (.tuple #[.agg #[.int .i64 0, .int .i64 0, .int .i64 0, .int .i64 0, .int .i64 0, .int .i64 0, .int .i64 0, .string (P.bs [])], .bool false]) = Ending.returned (.tuple #[.agg #[.int .i64 (P.psKind src dst 17 s), .int .i64 (P.psSp src dst 17 s), .int .i64 (P.psDp src dst 17 s), .int .i64 (P.psSeq src dst 17 s), .int .i64 (P.psAck src dst 17 s), .int .i64 (P.psFlags src dst 17 s), .int .i64 (P.psWin src dst 17 s), .string (P.psB src dst 17 s)], .bool (P.psOk src dst 17 s)]) from by rw [q1, q2, q3, q4, q5, q6, q7, q8, hps])
          clear q1 q2 q3 q4 q5 q6 q7 q8 hps
          go_wp2
          refine post_box (w := w) (by repeat (first | with_reducible assumption | with_reducible exact Bel.refl _ | with_reducible refine Bel.alloc ?_ _ | with_reducible refine Bel.drew ?_ | with_reducible refine Bel.drewN ?_ _ | with_reducible refine Bel.setCell ?_ ?_ _ | with_reducible exact Nat.le_refl _ | (dsimp only; omega) | (refine Bel.trans ?_ (by with_reducible assumption)))) (BoxAt.set (BoxAt.set (BoxAt.set (BoxAt.set (BoxAt.set (BoxAt.set (BoxAt.set (BoxAt.set R6 0 (by simp) _) 1 (by simp) _) 2 (by simp) _) 3 (by simp) _) 4 (by simp) _) 5 (by simp) _) 6 (by simp) _) 7 (by simp) _) ?_
          intro W hB RF
          have t0 := RF.cell 0
          have t1 := RF.cell 1
          have t2 := RF.cell 2
          have t3 := RF.cell 3
          have t4 := RF.cell 4
          have t5 := RF.cell 5
          have t6 := RF.cell 6
          have t7 := RF.cell 7
          simp at t0 t1 t2 t3 t4 t5 t6 t7
          exact bodyPost_ret (v := .tuple #[.agg #[.int .i64 0, .int .i64 0, .int .i64 0, .int .i64 0, .int .i64 0, .int .i64 0, .int .i64 0, .string (P.bs [])], .bool false]) (by simp [results, Try.results42, go_sem, t0, t1, t2, t3, t4, t5, t6, t7] <;> rfl) rfl ⟨HF.out, hB⟩
        | true =>
          rw [hok] at he
          subst he
          by_cases heq : P.buildSeg src dst 17 (P.get16 s 0) (P.get16 s 2) 0 0 0 0 (s.extract 8 s.size) = s
          · have hps := P.ps_udp_yes src dst s hsz hok heq
            obtain ⟨q1, q2, q3, q4, q5, q6, q7, q8⟩ := P.ps_udp src dst s hps
            have HF := Lib.hid (show Ending.returned (.tuple #[.agg #[.int .i64 17, .int .i64 (P.get16 s 0), .int .i64 (P.get16 s 2), .int .i64 0, .int .i64 0, .int .i64 0, .int .i64 0, .string (s.extract 8 s.size)], .bool true]) = Ending.returned (.tuple #[.agg #[.int .i64 (P.psKind src dst 17 s), .int .i64 (P.psSp src dst 17 s), .int .i64 (P.psDp src dst 17 s), .int .i64 (P.psSeq src dst 17 s), .int .i64 (P.psAck src dst 17 s), .int .i64 (P.psFlags src dst 17 s), .int .i64 (P.psWin src dst 17 s), .string (P.psB src dst 17 s)], .bool (P.psOk src dst 17 s)]) from by rw [q1, q2, q3, q4, q5, q6, q7, q8, hps])
            clear q1 q2 q3 q4 q5 q6 q7 q8 hps
            go_wp2
            refine post_box (w := w) (by repeat (first | with_reducible assumption | with_reducible exact Bel.refl _ | with_reducible refine Bel.alloc ?_ _ | with_reducible refine Bel.drew ?_ | with_reducible refine Bel.drewN ?_ _ | with_reducible refine Bel.setCell ?_ ?_ _ | with_reducible exact Nat.le_refl _ | (dsimp only; omega) | (refine Bel.trans ?_ (by with_reducible assumption)))) (BoxAt.set (BoxAt.set (BoxAt.set (BoxAt.set (BoxAt.set (BoxAt.set (BoxAt.set (BoxAt.set R6 0 (by simp) _) 1 (by simp) _) 2 (by simp) _) 3 (by simp) _) 4 (by simp) _) 5 (by simp) _) 6 (by simp) _) 7 (by simp) _) ?_
            intro W hB RF
            have t0 := RF.cell 0
            have t1 := RF.cell 1
            have t2 := RF.cell 2
            have t3 := RF.cell 3
            have t4 := RF.cell 4
            have t5 := RF.cell 5
            have t6 := RF.cell 6
            have t7 := RF.cell 7
            simp at t0 t1 t2 t3 t4 t5 t6 t7
            exact bodyPost_ret (v := .tuple #[.agg #[.int .i64 17, .int .i64 (P.get16 s 0), .int .i64 (P.get16 s 2), .int .i64 0, .int .i64 0, .int .i64 0, .int .i64 0, .string (s.extract 8 s.size)], .bool true]) (by simp [results, Try.results42, go_sem, t0, t1, t2, t3, t4, t5, t6, t7]) rfl ⟨HF.out, hB⟩
          · have hps := P.ps_udp_ne src dst s heq
            obtain ⟨q1, q2, q3, q4, q5, q6, q7, q8⟩ := P.ps_bad src dst 17 s hps
            have HF := Lib.hid (show Ending.returned (.tuple #[.agg #[.int .i64 0, .int .i64 0, .int .i64 0, .int .i64 0, .int .i64 0, .int .i64 0, .int .i64 0, .string (P.bs [])], .bool false]) = Ending.returned (.tuple #[.agg #[.int .i64 (P.psKind src dst 17 s), .int .i64 (P.psSp src dst 17 s), .int .i64 (P.psDp src dst 17 s), .int .i64 (P.psSeq src dst 17 s), .int .i64 (P.psAck src dst 17 s), .int .i64 (P.psFlags src dst 17 s), .int .i64 (P.psWin src dst 17 s), .string (P.psB src dst 17 s)], .bool (P.psOk src dst 17 s)]) from by rw [q1, q2, q3, q4, q5, q6, q7, q8, hps])
            clear q1 q2 q3 q4 q5 q6 q7 q8 hps
            go_wp2
            refine post_box (w := w) (by repeat (first | with_reducible assumption | with_reducible exact Bel.refl _ | with_reducible refine Bel.alloc ?_ _ | with_reducible refine Bel.drew ?_ | with_reducible refine Bel.drewN ?_ _ | with_reducible refine Bel.setCell ?_ ?_ _ | with_reducible exact Nat.le_refl _ | (dsimp only; omega) | (refine Bel.trans ?_ (by with_reducible assumption)))) (BoxAt.set (BoxAt.set (BoxAt.set (BoxAt.set (BoxAt.set (BoxAt.set (BoxAt.set (BoxAt.set R6 0 (by simp) _) 1 (by simp) _) 2 (by simp) _) 3 (by simp) _) 4 (by simp) _) 5 (by simp) _) 6 (by simp) _) 7 (by simp) _) ?_
            intro W hB RF
            have t0 := RF.cell 0
            have t1 := RF.cell 1
            have t2 := RF.cell 2
            have t3 := RF.cell 3
            have t4 := RF.cell 4
            have t5 := RF.cell 5
            have t6 := RF.cell 6
            have t7 := RF.cell 7
            simp at t0 t1 t2 t3 t4 t5 t6 t7
            exact bodyPost_ret (v := .tuple #[.agg #[.int .i64 0, .int .i64 0, .int .i64 0, .int .i64 0, .int .i64 0, .int .i64 0, .int .i64 0, .string (P.bs [])], .bool false]) (by simp [results, Try.results42, go_sem, t0, t1, t2, t3, t4, t5, t6, t7] <;> rfl) rfl ⟨HF.out, hB⟩
      · skip
        have hps := P.ps_in src dst 17 s (decide_eq_false (by omega))
        obtain ⟨q1, q2, q3, q4, q5, q6, q7, q8⟩ := P.ps_bad src dst 17 s hps
        have HF := Lib.hid (show Ending.returned (.tuple #[.agg #[.int .i64 0, .int .i64 0, .int .i64 0, .int .i64 0, .int .i64 0, .int .i64 0, .int .i64 0, .string (P.bs [])], .bool false]) = Ending.returned (.tuple #[.agg #[.int .i64 (P.psKind src dst 17 s), .int .i64 (P.psSp src dst 17 s), .int .i64 (P.psDp src dst 17 s), .int .i64 (P.psSeq src dst 17 s), .int .i64 (P.psAck src dst 17 s), .int .i64 (P.psFlags src dst 17 s), .int .i64 (P.psWin src dst 17 s), .string (P.psB src dst 17 s)], .bool (P.psOk src dst 17 s)]) from by rw [q1, q2, q3, q4, q5, q6, q7, q8, hps])
        clear q1 q2 q3 q4 q5 q6 q7 q8 hps
        go_enter Try.func42, Try.ntmps42
        go_wp2_with fail
        refine (c_impl_Get16 _ _ hs _).mono ?_
        rintro e w1 ⟨rfl, h1⟩
        have R1 := BoxAt.bel (boxAt_alloc (n := w.heap.size) (w := w) (Nat.le_refl _) #[.int .i64 0, .int .i64 0, .int .i64 0, .int .i64 0, .int .i64 0, .int .i64 0, .int .i64 0, .string (P.bs [])] 53) h1
        go_wp2_with fail
        refine (c_impl_Get16 _ _ hs _).mono ?_
        rintro e w2 ⟨rfl, h2⟩
        have R2 := BoxAt.bel R1 h2
        have r0 := R2.cell 0
        have r1 := R2.cell 1
        have r2 := R2.cell 2
        have r3 := R2.cell 3
        have r4 := R2.cell 4
        have r5 := R2.cell 5
        have r6 := R2.cell 6
        have r7 := R2.cell 7
        have hfr := R2.frozen
        have hzr := R2.old
        simp at r0 r1 r2 r3 r4 r5 r6 r7
        have hn1 : ¬ w2.heap.size = w.heap.size := by omega
        have hle2 : w.heap.size ≤ w2.heap.size := by omega
        have hn2 : ¬ w.heap.size = w2.heap.size := by omega
        go_wp2
        refine post_box (w := w) (by repeat (first | with_reducible assumption | with_reducible exact Bel.refl _ | with_reducible refine Bel.alloc ?_ _ | with_reducible refine Bel.drew ?_ | with_reducible refine Bel.drewN ?_ _ | with_reducible refine Bel.setCell ?_ ?_ _ | with_reducible exact Nat.le_refl _ | (dsimp only; omega) | (refine Bel.trans ?_ (by with_reducible assumption)))) (BoxAt.alloc (BoxAt.set (BoxAt.set (BoxAt.set (BoxAt.set (BoxAt.set (BoxAt.set (BoxAt.set (BoxAt.set R2 0 (by simp) _) 1 (by simp) _) 2 (by simp) _) 3 (by simp) _) 4 (by simp) _) 5 (by simp) _) 6 (by simp) _) 7 (by simp) _) _) ?_
        intro W hB RF
        have t0 := RF.cell 0
        have t1 := RF.cell 1
        have t2 := RF.cell 2
        have t3 := RF.cell 3
        have t4 := RF.cell 4
        have t5 := RF.cell 5
        have t6 := RF.cell 6
        have t7 := RF.cell 7
        simp at t0 t1 t2 t3 t4 t5 t6 t7
        exact bodyPost_ret (v := .tuple #[.agg #[.int .i64 0, .int .i64 0, .int .i64 0, .int .i64 0, .int .i64 0, .int .i64 0, .int .i64 0, .string (P.bs [])], .bool false]) (by simp [results, Try.results42, go_sem, t0, t1, t2, t3, t4, t5, t6, t7] <;> rfl) rfl ⟨HF.out, hB⟩
    · have e6 : (kind == 6) = false := by simpa using h6
      have e17 : (kind == 17) = false := by simpa using h17
      have hps := P.ps_in src dst kind s (decide_eq_false (by omega))
      obtain ⟨q1, q2, q3, q4, q5, q6, q7, q8⟩ := P.ps_bad src dst kind s hps
      have HF := Lib.hid (show Ending.returned (.tuple #[.agg #[.int .i64 0, .int .i64 0, .int .i64 0, .int .i64 0, .int .i64 0, .int .i64 0, .int .i64 0, .string (P.bs [])], .bool false]) = Ending.returned (.tuple #[.agg #[.int .i64 (P.psKind src dst kind s), .int .i64 (P.psSp src dst kind s), .int .i64 (P.psDp src dst kind s), .int .i64 (P.psSeq src dst kind s), .int .i64 (P.psAck src dst kind s), .int .i64 (P.psFlags src dst kind s), .int .i64 (P.psWin src dst kind s), .string (P.psB src dst kind s)], .bool (P.psOk src dst kind s)]) from by rw [q1, q2, q3, q4, q5, q6, q7, q8, hps])
      clear q1 q2 q3 q4 q5 q6 q7 q8 hps
      go_enter Try.func42, Try.ntmps42
      go_wp2_with fail
      refine (c_impl_Get16 _ _ hs _).mono ?_
      rintro e w1 ⟨rfl, h1⟩
      have R1 := BoxAt.bel (boxAt_alloc (n := w.heap.size) (w := w) (Nat.le_refl _) #[.int .i64 0, .int .i64 0, .int .i64 0, .int .i64 0, .int .i64 0, .int .i64 0, .int .i64 0, .string (P.bs [])] 53) h1
      go_wp2_with fail
      refine (c_impl_Get16 _ _ hs _).mono ?_
      rintro e w2 ⟨rfl, h2⟩
      have R2 := BoxAt.bel R1 h2
      have r0 := R2.cell 0
      have r1 := R2.cell 1
      have r2 := R2.cell 2
      have r3 := R2.cell 3
      have r4 := R2.cell 4
      have r5 := R2.cell 5
      have r6 := R2.cell 6
      have r7 := R2.cell 7
      have hfr := R2.frozen
      have hzr := R2.old
      simp at r0 r1 r2 r3 r4 r5 r6 r7
      have hn1 : ¬ w2.heap.size = w.heap.size := by omega
      have hle2 : w.heap.size ≤ w2.heap.size := by omega
      have hn2 : ¬ w.heap.size = w2.heap.size := by omega
      go_wp2
      refine post_box (w := w) (by repeat (first | with_reducible assumption | with_reducible exact Bel.refl _ | with_reducible refine Bel.alloc ?_ _ | with_reducible refine Bel.drew ?_ | with_reducible refine Bel.drewN ?_ _ | with_reducible refine Bel.setCell ?_ ?_ _ | with_reducible exact Nat.le_refl _ | (dsimp only; omega) | (refine Bel.trans ?_ (by with_reducible assumption)))) (BoxAt.alloc (BoxAt.set (BoxAt.set (BoxAt.set (BoxAt.set (BoxAt.set (BoxAt.set (BoxAt.set (BoxAt.set R2 0 (by simp) _) 1 (by simp) _) 2 (by simp) _) 3 (by simp) _) 4 (by simp) _) 5 (by simp) _) 6 (by simp) _) 7 (by simp) _) _) ?_
      intro W hB RF
      have t0 := RF.cell 0
      have t1 := RF.cell 1
      have t2 := RF.cell 2
      have t3 := RF.cell 3
      have t4 := RF.cell 4
      have t5 := RF.cell 5
      have t6 := RF.cell 6
      have t7 := RF.cell 7
      simp at t0 t1 t2 t3 t4 t5 t6 t7
      exact bodyPost_ret (v := .tuple #[.agg #[.int .i64 0, .int .i64 0, .int .i64 0, .int .i64 0, .int .i64 0, .int .i64 0, .int .i64 0, .string (P.bs [])], .bool false]) (by simp [results, Try.results42, go_sem, t0, t1, t2, t3, t4, t5, t6, t7] <;> rfl) rfl ⟨HF.out, hB⟩
end Go.Proofs.Ytnpnkkjdnmgbkaa
