/-
  The walks of chapter 7, fourth part: frames read back (the program's), whatever the parts come to.
-/
import Derived.Test.YtnpnkkjdnmgbkaaRes
namespace Go.Proofs.Ytnpnkkjdnmgbkaa
open Go.RowKit
set_option linter.unusedVariables false

set_option maxHeartbeats 4000000 in
theorem g_impl_ReadFrame_1 (s t xb : ByteArray) (code x0 x1 x2 x3 x4 x5 x6 x7 x8 x9 x10 x11 x12 x13 x14 : Int) (hC : ∀ w, Calls Try.prog 16 #[.string s] w fun e w' => e = .returned (.tuple #[.string t, .bool false]) ∧ Bel w w') (w : World) :
    Calls Try.prog 50 #[.string s] w fun e w' => e = .returned (.tuple #[.agg #[.int .i64 0, .int .i64 0, .int .i64 0, .int .i64 0, .int .i64 0, .int .i64 0, .int .i64 0, .int .i64 0, .int .i64 0, .int .i64 0, .int .i64 0, .int .i64 0, .int .i64 0, .int .i64 0, .int .i64 0, .string (P.bs [])], .int .i64 1]) ∧ Bel w w' := by
  have HhC := Lib.hid hC
  clear hC
  go_enter Try.func50, Try.ntmps50
  go_wp2_with fail
  refine (HhC.out _).mono ?_
  rintro e w1 ⟨rfl, h1⟩
  have R1 := BoxAt.bel (boxAt_alloc (n := w.heap.size) (w := w) (Nat.le_refl _) #[.int .i64 0, .int .i64 0, .int .i64 0, .int .i64 0, .int .i64 0, .int .i64 0, .int .i64 0, .int .i64 0, .int .i64 0, .int .i64 0, .int .i64 0, .int .i64 0, .int .i64 0, .int .i64 0, .int .i64 0, .string (P.bs [])] 55) h1
  have r0 := R1.cell 0
  have r1 := R1.cell 1
  have r2 := R1.cell 2
  have r3 := R1.cell 3
  have r4 := R1.cell 4
  have r5 := R1.cell 5
  have r6 := R1.cell 6
  have r7 := R1.cell 7
  have r8 := R1.cell 8
  have r9 := R1.cell 9
  have r10 := R1.cell 10
  have r11 := R1.cell 11
  have r12 := R1.cell 12
  have r13 := R1.cell 13
  have r14 := R1.cell 14
  have r15 := R1.cell 15
  have hfr := R1.frozen
  have hzr := R1.old
  simp at r0 r1 r2 r3 r4 r5 r6 r7 r8 r9 r10 r11 r12 r13 r14 r15
  go_wp2
  refine post_box (w := w) (Bel.set16 (by repeat (first | with_reducible assumption | with_reducible exact Bel.refl _ | with_reducible refine Bel.alloc ?_ _ | with_reducible refine Bel.drew ?_ | with_reducible refine Bel.drewN ?_ _ | with_reducible refine Bel.setCell ?_ ?_ _ | with_reducible exact Nat.le_refl _ | (dsimp only; omega) | (refine Bel.trans ?_ (by with_reducible assumption)))) (Nat.le_refl _) _ _ _ _ _ _ _ _ _ _ _ _ _ _ _ _) (BoxAt.set16 R1 rfl _ _ _ _ _ _ _ _ _ _ _ _ _ _ _ _) ?_
  intro W hB RF
  exact bodyPost_ret (v := .tuple #[.agg #[.int .i64 0, .int .i64 0, .int .i64 0, .int .i64 0, .int .i64 0, .int .i64 0, .int .i64 0, .int .i64 0, .int .i64 0, .int .i64 0, .int .i64 0, .int .i64 0, .int .i64 0, .int .i64 0, .int .i64 0, .string (P.bs [])], .int .i64 1]) (results_box RF Try.results50 rfl Try.underlying55 rfl (by kernel_rfl)) rfl ⟨rfl, hB⟩
set_option maxHeartbeats 4000000 in
theorem g_impl_ReadFrame_2 (s t xb : ByteArray) (code x0 x1 x2 x3 x4 x5 x6 x7 x8 x9 x10 x11 x12 x13 x14 : Int) (hC : ∀ w, Calls Try.prog 16 #[.string s] w fun e w' => e = .returned (.tuple #[.string t, .bool true]) ∧ Bel w w') (hR : ∀ w, Calls Try.prog 48 #[.string t] w fun e w' => e = .returned (.tuple #[.agg #[.int .i64 x0, .int .i64 x1, .int .i64 x2, .int .i64 x3, .int .i64 x4, .int .i64 x5, .int .i64 x6, .int .i64 x7, .int .i64 x8, .int .i64 x9, .int .i64 x10, .int .i64 x11, .int .i64 x12, .int .i64 x13, .int .i64 x14, .string xb], .int .i64 code]) ∧ Bel w w') (hcode : (code == 0) = false) (w : World) :
    Calls Try.prog 50 #[.string s] w fun e w' => e = .returned (.tuple #[.agg #[.int .i64 0, .int .i64 0, .int .i64 0, .int .i64 0, .int .i64 0, .int .i64 0, .int .i64 0, .int .i64 0, .int .i64 0, .int .i64 0, .int .i64 0, .int .i64 0, .int .i64 0, .int .i64 0, .int .i64 0, .string (P.bs [])], .int .i64 code]) ∧ Bel w w' := by
  have HhC := Lib.hid hC
  clear hC
  have HhR := Lib.hid hR
  clear hR
  go_enter Try.func50, Try.ntmps50
  go_wp2_with fail
  refine (HhC.out _).mono ?_
  rintro e w1 ⟨rfl, h1⟩
  have R1 := BoxAt.bel (boxAt_alloc (n := w.heap.size) (w := w) (Nat.le_refl _) #[.int .i64 0, .int .i64 0, .int .i64 0, .int .i64 0, .int .i64 0, .int .i64 0, .int .i64 0, .int .i64 0, .int .i64 0, .int .i64 0, .int .i64 0, .int .i64 0, .int .i64 0, .int .i64 0, .int .i64 0, .string (P.bs [])] 55) h1
  have r0 := R1.cell 0
  have r1 := R1.cell 1
  have r2 := R1.cell 2
  have r3 := R1.cell 3
  have r4 := R1.cell 4
  have r5 := R1.cell 5
  have r6 := R1.cell 6
  have r7 := R1.cell 7
  have r8 := R1.cell 8
  have r9 := R1.cell 9
  have r10 := R1.cell 10
  have r11 := R1.cell 11
  have r12 := R1.cell 12
  have r13 := R1.cell 13
  have r14 := R1.cell 14
  have r15 := R1.cell 15
  have hfr := R1.frozen
  have hzr := R1.old
  simp at r0 r1 r2 r3 r4 r5 r6 r7 r8 r9 r10 r11 r12 r13 r14 r15
  go_wp2_with fail
  refine (HhR.out _).mono ?_
  rintro e w2 ⟨rfl, h2⟩
  have R2 := BoxAt.bel R1 h2
  clear r0 r1 r2 r3 r4 r5 r6 r7 r8 r9 r10 r11 r12 r13 r14 r15 hfr hzr
  have r0 := R2.cell 0
  have r1 := R2.cell 1
  have r2 := R2.cell 2
  have r3 := R2.cell 3
  have r4 := R2.cell 4
  have r5 := R2.cell 5
  have r6 := R2.cell 6
  have r7 := R2.cell 7
  have r8 := R2.cell 8
  have r9 := R2.cell 9
  have r10 := R2.cell 10
  have r11 := R2.cell 11
  have r12 := R2.cell 12
  have r13 := R2.cell 13
  have r14 := R2.cell 14
  have r15 := R2.cell 15
  have hfr := R2.frozen
  have hzr := R2.old
  simp at r0 r1 r2 r3 r4 r5 r6 r7 r8 r9 r10 r11 r12 r13 r14 r15
  go_wp2
  refine post_box (w := w) (Bel.alloc (Bel.set16 (by repeat (first | with_reducible assumption | with_reducible exact Bel.refl _ | with_reducible refine Bel.alloc ?_ _ | with_reducible refine Bel.drew ?_ | with_reducible refine Bel.drewN ?_ _ | with_reducible refine Bel.setCell ?_ ?_ _ | with_reducible exact Nat.le_refl _ | (dsimp only; omega) | (refine Bel.trans ?_ (by with_reducible assumption)))) (Nat.le_refl _) _ _ _ _ _ _ _ _ _ _ _ _ _ _ _ _) _) (BoxAt.alloc (BoxAt.set16 R2 rfl _ _ _ _ _ _ _ _ _ _ _ _ _ _ _ _) _) ?_
  intro W hB RF
  exact bodyPost_ret (v := .tuple #[.agg #[.int .i64 0, .int .i64 0, .int .i64 0, .int .i64 0, .int .i64 0, .int .i64 0, .int .i64 0, .int .i64 0, .int .i64 0, .int .i64 0, .int .i64 0, .int .i64 0, .int .i64 0, .int .i64 0, .int .i64 0, .string (P.bs [])], .int .i64 code]) (results_box RF Try.results50 rfl Try.underlying55 rfl (by kernel_rfl)) rfl ⟨rfl, hB⟩
set_option maxHeartbeats 4000000 in
theorem g_impl_ReadFrame_3 (s t xb : ByteArray) (code x0 x1 x2 x3 x4 x5 x6 x7 x8 x9 x10 x11 x12 x13 x14 : Int) (hC : ∀ w, Calls Try.prog 16 #[.string s] w fun e w' => e = .returned (.tuple #[.string t, .bool true]) ∧ Bel w w') (hR : ∀ w, Calls Try.prog 48 #[.string t] w fun e w' => e = .returned (.tuple #[.agg #[.int .i64 x0, .int .i64 x1, .int .i64 x2, .int .i64 x3, .int .i64 x4, .int .i64 x5, .int .i64 x6, .int .i64 x7, .int .i64 x8, .int .i64 x9, .int .i64 x10, .int .i64 x11, .int .i64 x12, .int .i64 x13, .int .i64 x14, .string xb], .int .i64 0]) ∧ Bel w w') (hP : ∀ w, Calls Try.prog 66 #[.agg #[.int .i64 x0, .int .i64 x1, .int .i64 x2, .int .i64 x3, .int .i64 x4, .int .i64 x5, .int .i64 x6, .int .i64 x7, .int .i64 x8, .int .i64 x9, .int .i64 x10, .int .i64 x11, .int .i64 x12, .int .i64 x13, .int .i64 x14, .string xb]] w fun e w' => e = .returned (.bool false) ∧ Bel w w') (w : World) :
    Calls Try.prog 50 #[.string s] w fun e w' => e = .returned (.tuple #[.agg #[.int .i64 0, .int .i64 0, .int .i64 0, .int .i64 0, .int .i64 0, .int .i64 0, .int .i64 0, .int .i64 0, .int .i64 0, .int .i64 0, .int .i64 0, .int .i64 0, .int .i64 0, .int .i64 0, .int .i64 0, .string (P.bs [])], .int .i64 5]) ∧ Bel w w' := by
  have HhC := Lib.hid hC
  clear hC
  have HhR := Lib.hid hR
  clear hR
  have HhP := Lib.hid hP
  clear hP
  go_enter Try.func50, Try.ntmps50
  go_wp2_with fail
  refine (HhC.out _).mono ?_
  rintro e w1 ⟨rfl, h1⟩
  have R1 := BoxAt.bel (boxAt_alloc (n := w.heap.size) (w := w) (Nat.le_refl _) #[.int .i64 0, .int .i64 0, .int .i64 0, .int .i64 0, .int .i64 0, .int .i64 0, .int .i64 0, .int .i64 0, .int .i64 0, .int .i64 0, .int .i64 0, .int .i64 0, .int .i64 0, .int .i64 0, .int .i64 0, .string (P.bs [])] 55) h1
  have r0 := R1.cell 0
  have r1 := R1.cell 1
  have r2 := R1.cell 2
  have r3 := R1.cell 3
  have r4 := R1.cell 4
  have r5 := R1.cell 5
  have r6 := R1.cell 6
  have r7 := R1.cell 7
  have r8 := R1.cell 8
  have r9 := R1.cell 9
  have r10 := R1.cell 10
  have r11 := R1.cell 11
  have r12 := R1.cell 12
  have r13 := R1.cell 13
  have r14 := R1.cell 14
  have r15 := R1.cell 15
  have hfr := R1.frozen
  have hzr := R1.old
  simp at r0 r1 r2 r3 r4 r5 r6 r7 r8 r9 r10 r11 r12 r13 r14 r15
  go_wp2_with fail
  refine (HhR.out _).mono ?_
  rintro e w2 ⟨rfl, h2⟩
  have R2 := BoxAt.bel R1 h2
  clear r0 r1 r2 r3 r4 r5 r6 r7 r8 r9 r10 r11 r12 r13 r14 r15 hfr hzr
  have r0 := R2.cell 0
  have r1 := R2.cell 1
  have r2 := R2.cell 2
  have r3 := R2.cell 3
  have r4 := R2.cell 4
  have r5 := R2.cell 5
  have r6 := R2.cell 6
  have r7 := R2.cell 7
  have r8 := R2.cell 8
  have r9 := R2.cell 9
  have r10 := R2.cell 10
  have r11 := R2.cell 11
  have r12 := R2.cell 12
  have r13 := R2.cell 13
  have r14 := R2.cell 14
  have r15 := R2.cell 15
  have hfr := R2.frozen
  have hzr := R2.old
  simp at r0 r1 r2 r3 r4 r5 r6 r7 r8 r9 r10 r11 r12 r13 r14 r15
  go_wp2_with fail
  refine (HhP.out _).mono ?_
  rintro e w3 ⟨rfl, h3⟩
  have R3 := BoxAt.bel (BoxAt.alloc R2 _) h3
  have P3 := BoxAt.bel (boxAt_alloc (n := w.heap.size + 1) (w := w2) (by omega) #[.int .i64 x0, .int .i64 x1, .int .i64 x2, .int .i64 x3, .int .i64 x4, .int .i64 x5, .int .i64 x6, .int .i64 x7, .int .i64 x8, .int .i64 x9, .int .i64 x10, .int .i64 x11, .int .i64 x12, .int .i64 x13, .int .i64 x14, .string xb] 55) h3
  clear r0 r1 r2 r3 r4 r5 r6 r7 r8 r9 r10 r11 r12 r13 r14 r15 hfr hzr
  have r0 := R3.cell 0
  have r1 := R3.cell 1
  have r2 := R3.cell 2
  have r3 := R3.cell 3
  have r4 := R3.cell 4
  have r5 := R3.cell 5
  have r6 := R3.cell 6
  have r7 := R3.cell 7
  have r8 := R3.cell 8
  have r9 := R3.cell 9
  have r10 := R3.cell 10
  have r11 := R3.cell 11
  have r12 := R3.cell 12
  have r13 := R3.cell 13
  have r14 := R3.cell 14
  have r15 := R3.cell 15
  have hfr := R3.frozen
  have hzr := R3.old
  simp at r0 r1 r2 r3 r4 r5 r6 r7 r8 r9 r10 r11 r12 r13 r14 r15
  have p0 := P3.cell 0
  have p1 := P3.cell 1
  have p2 := P3.cell 2
  have p3 := P3.cell 3
  have p4 := P3.cell 4
  have p5 := P3.cell 5
  have p6 := P3.cell 6
  have p7 := P3.cell 7
  have p8 := P3.cell 8
  have p9 := P3.cell 9
  have p10 := P3.cell 10
  have p11 := P3.cell 11
  have p12 := P3.cell 12
  have p13 := P3.cell 13
  have p14 := P3.cell 14
  have p15 := P3.cell 15
  have hfp := P3.frozen
  have hzp := P3.old
  simp at p0 p1 p2 p3 p4 p5 p6 p7 p8 p9 p10 p11 p12 p13 p14 p15
  go_wp2
  refine post_box (w := w) (Bel.set16 (by repeat (first | with_reducible assumption | with_reducible exact Bel.refl _ | with_reducible refine Bel.alloc ?_ _ | with_reducible refine Bel.drew ?_ | with_reducible refine Bel.drewN ?_ _ | with_reducible refine Bel.setCell ?_ ?_ _ | with_reducible exact Nat.le_refl _ | (dsimp only; omega) | (refine Bel.trans ?_ (by with_reducible assumption)))) (Nat.le_refl _) _ _ _ _ _ _ _ _ _ _ _ _ _ _ _ _) (BoxAt.set16 R3 rfl _ _ _ _ _ _ _ _ _ _ _ _ _ _ _ _) ?_
  intro W hB RF
  exact bodyPost_ret (v := .tuple #[.agg #[.int .i64 0, .int .i64 0, .int .i64 0, .int .i64 0, .int .i64 0, .int .i64 0, .int .i64 0, .int .i64 0, .int .i64 0, .int .i64 0, .int .i64 0, .int .i64 0, .int .i64 0, .int .i64 0, .int .i64 0, .string (P.bs [])], .int .i64 5]) (results_box RF Try.results50 rfl Try.underlying55 rfl (by kernel_rfl)) rfl ⟨rfl, hB⟩
set_option maxHeartbeats 4000000 in
theorem g_impl_ReadFrame_4 (s t xb : ByteArray) (code x0 x1 x2 x3 x4 x5 x6 x7 x8 x9 x10 x11 x12 x13 x14 : Int) (hC : ∀ w, Calls Try.prog 16 #[.string s] w fun e w' => e = .returned (.tuple #[.string t, .bool true]) ∧ Bel w w') (hR : ∀ w, Calls Try.prog 48 #[.string t] w fun e w' => e = .returned (.tuple #[.agg #[.int .i64 x0, .int .i64 x1, .int .i64 x2, .int .i64 x3, .int .i64 x4, .int .i64 x5, .int .i64 x6, .int .i64 x7, .int .i64 x8, .int .i64 x9, .int .i64 x10, .int .i64 x11, .int .i64 x12, .int .i64 x13, .int .i64 x14, .string xb], .int .i64 0]) ∧ Bel w w') (hP : ∀ w, Calls Try.prog 66 #[.agg #[.int .i64 x0, .int .i64 x1, .int .i64 x2, .int .i64 x3, .int .i64 x4, .int .i64 x5, .int .i64 x6, .int .i64 x7, .int .i64 x8, .int .i64 x9, .int .i64 x10, .int .i64 x11, .int .i64 x12, .int .i64 x13, .int .i64 x14, .string xb]] w fun e w' => e = .returned (.bool true) ∧ Bel w w') (w : World) :
    Calls Try.prog 50 #[.string s] w fun e w' => e = .returned (.tuple #[.agg #[.int .i64 x0, .int .i64 x1, .int .i64 x2, .int .i64 x3, .int .i64 x4, .int .i64 x5, .int .i64 x6, .int .i64 x7, .int .i64 x8, .int .i64 x9, .int .i64 x10, .int .i64 x11, .int .i64 x12, .int .i64 x13, .int .i64 x14, .string xb], .int .i64 0]) ∧ Bel w w' := by
  have HhC := Lib.hid hC
  clear hC
  have HhR := Lib.hid hR
  clear hR
  have HhP := Lib.hid hP
  clear hP
  go_enter Try.func50, Try.ntmps50
  go_wp2_with fail
  refine (HhC.out _).mono ?_
  rintro e w1 ⟨rfl, h1⟩
  have R1 := BoxAt.bel (boxAt_alloc (n := w.heap.size) (w := w) (Nat.le_refl _) #[.int .i64 0, .int .i64 0, .int .i64 0, .int .i64 0, .int .i64 0, .int .i64 0, .int .i64 0, .int .i64 0, .int .i64 0, .int .i64 0, .int .i64 0, .int .i64 0, .int .i64 0, .int .i64 0, .int .i64 0, .string (P.bs [])] 55) h1
  have r0 := R1.cell 0
  have r1 := R1.cell 1
  have r2 := R1.cell 2
  have r3 := R1.cell 3
  have r4 := R1.cell 4
  have r5 := R1.cell 5
  have r6 := R1.cell 6
  have r7 := R1.cell 7
  have r8 := R1.cell 8
  have r9 := R1.cell 9
  have r10 := R1.cell 10
  have r11 := R1.cell 11
  have r12 := R1.cell 12
  have r13 := R1.cell 13
  have r14 := R1.cell 14
  have r15 := R1.cell 15
  have hfr := R1.frozen
  have hzr := R1.old
  simp at r0 r1 r2 r3 r4 r5 r6 r7 r8 r9 r10 r11 r12 r13 r14 r15
  go_wp2_with fail
  refine (HhR.out _).mono ?_
  rintro e w2 ⟨rfl, h2⟩
  have R2 := BoxAt.bel R1 h2
  clear r0 r1 r2 r3 r4 r5 r6 r7 r8 r9 r10 r11 r12 r13 r14 r15 hfr hzr
  have r0 := R2.cell 0
  have r1 := R2.cell 1
  have r2 := R2.cell 2
  have r3 := R2.cell 3
  have r4 := R2.cell 4
  have r5 := R2.cell 5
  have r6 := R2.cell 6
  have r7 := R2.cell 7
  have r8 := R2.cell 8
  have r9 := R2.cell 9
  have r10 := R2.cell 10
  have r11 := R2.cell 11
  have r12 := R2.cell 12
  have r13 := R2.cell 13
  have r14 := R2.cell 14
  have r15 := R2.cell 15
  have hfr := R2.frozen
  have hzr := R2.old
  simp at r0 r1 r2 r3 r4 r5 r6 r7 r8 r9 r10 r11 r12 r13 r14 r15
  go_wp2_with fail
  refine (HhP.out _).mono ?_
  rintro e w3 ⟨rfl, h3⟩
  have R3 := BoxAt.bel (BoxAt.alloc R2 _) h3
  have P3 := BoxAt.bel (boxAt_alloc (n := w.heap.size + 1) (w := w2) (by omega) #[.int .i64 x0, .int .i64 x1, .int .i64 x2, .int .i64 x3, .int .i64 x4, .int .i64 x5, .int .i64 x6, .int .i64 x7, .int .i64 x8, .int .i64 x9, .int .i64 x10, .int .i64 x11, .int .i64 x12, .int .i64 x13, .int .i64 x14, .string xb] 55) h3
  clear r0 r1 r2 r3 r4 r5 r6 r7 r8 r9 r10 r11 r12 r13 r14 r15 hfr hzr
  have r0 := R3.cell 0
  have r1 := R3.cell 1
  have r2 := R3.cell 2
  have r3 := R3.cell 3
  have r4 := R3.cell 4
  have r5 := R3.cell 5
  have r6 := R3.cell 6
  have r7 := R3.cell 7
  have r8 := R3.cell 8
  have r9 := R3.cell 9
  have r10 := R3.cell 10
  have r11 := R3.cell 11
  have r12 := R3.cell 12
  have r13 := R3.cell 13
  have r14 := R3.cell 14
  have r15 := R3.cell 15
  have hfr := R3.frozen
  have hzr := R3.old
  simp at r0 r1 r2 r3 r4 r5 r6 r7 r8 r9 r10 r11 r12 r13 r14 r15
  have p0 := P3.cell 0
  have p1 := P3.cell 1
  have p2 := P3.cell 2
  have p3 := P3.cell 3
  have p4 := P3.cell 4
  have p5 := P3.cell 5
  have p6 := P3.cell 6
  have p7 := P3.cell 7
  have p8 := P3.cell 8
  have p9 := P3.cell 9
  have p10 := P3.cell 10
  have p11 := P3.cell 11
  have p12 := P3.cell 12
  have p13 := P3.cell 13
  have p14 := P3.cell 14
  have p15 := P3.cell 15
  have hfp := P3.frozen
  have hzp := P3.old
  simp at p0 p1 p2 p3 p4 p5 p6 p7 p8 p9 p10 p11 p12 p13 p14 p15
  go_wp2
  refine post_box (w := w) (Bel.set16 (by repeat (first | with_reducible assumption | with_reducible exact Bel.refl _ | with_reducible refine Bel.alloc ?_ _ | with_reducible refine Bel.drew ?_ | with_reducible refine Bel.drewN ?_ _ | with_reducible refine Bel.setCell ?_ ?_ _ | with_reducible exact Nat.le_refl _ | (dsimp only; omega) | (refine Bel.trans ?_ (by with_reducible assumption)))) (Nat.le_refl _) _ _ _ _ _ _ _ _ _ _ _ _ _ _ _ _) (BoxAt.set16 R3 rfl _ _ _ _ _ _ _ _ _ _ _ _ _ _ _ _) ?_
  intro W hB RF
  exact bodyPost_ret (v := .tuple #[.agg #[.int .i64 x0, .int .i64 x1, .int .i64 x2, .int .i64 x3, .int .i64 x4, .int .i64 x5, .int .i64 x6, .int .i64 x7, .int .i64 x8, .int .i64 x9, .int .i64 x10, .int .i64 x11, .int .i64 x12, .int .i64 x13, .int .i64 x14, .string xb], .int .i64 0]) (results_box RF Try.results50 rfl Try.underlying55 rfl (by kernel_rfl)) rfl ⟨rfl, hB⟩
end Go.Proofs.Ytnpnkkjdnmgbkaa
