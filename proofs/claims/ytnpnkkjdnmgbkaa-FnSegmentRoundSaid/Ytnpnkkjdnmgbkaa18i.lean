/-
  The walks of chapter 7, third part: images read back (the program's), whatever the parts come to.
-/
import Derived.Test.YtnpnkkjdnmgbkaaRes
namespace Go.Proofs.Ytnpnkkjdnmgbkaa
open Go.RowKit
set_option linter.unusedVariables false

set_option maxHeartbeats 4000000 in
theorem g_impl_ReadImage_1 (s eb ib xb : ByteArray) (pr ty x0 x1 x2 x3 x4 x5 x6 x7 x8 x9 x10 x11 x12 x13 x14 : Int) (hE : ∀ w, Calls Try.prog 32 #[.string s] w fun e w' => e = .returned (.tuple #[.agg #[.int .i64 x0, .int .i64 x1, .int .i64 x2, .int .i64 ty, .string eb], .bool false]) ∧ Bel w w') (w : World) :
    Calls Try.prog 48 #[.string s] w fun e w' => e = .returned (.tuple #[.agg #[.int .i64 0, .int .i64 0, .int .i64 0, .int .i64 0, .int .i64 0, .int .i64 0, .int .i64 0, .int .i64 0, .int .i64 0, .int .i64 0, .int .i64 0, .int .i64 0, .int .i64 0, .int .i64 0, .int .i64 0, .string (P.bs [])], .int .i64 2]) ∧ Bel w w' := by
  have HhE := Lib.hid hE
  clear hE
  go_enter Try.func48, Try.ntmps48
  go_wp2_with fail
  refine (HhE.out _).mono ?_
  rintro e w1 ⟨rfl, h1⟩
  have R1 := BoxAt.bel (boxAt_alloc (n := w.heap.size) (w := w) (Nat.le_refl _) #[.int .i64 0, .int .i64 0, .int .i64 0, .int .i64 0, .int .i64 0, .int .i64 0, .int .i64 0, .int .i64 0, .int .i64 0, .int .i64 0, .int .i64 0, .int .i64 0, .int .i64 0, .int .i64 0, .int .i64 0, .string (P.bs [])] 55) h1
  have r0 := R1.cell 0
  have r1 := R1.cell 1
  have r2 := R1.cell 2
  have r3 := R1.cell 3
  have r4 := R1.cell 4
  have r5 := R1.cell 5
  have r6 := R1.cell 6
  have r7 := R1.cell 7
  have r8 := R1.cell 8
  have r9 := R1.cell 9
  have r10 := R1.cell 10
  have r11 := R1.cell 11
  have r12 := R1.cell 12
  have r13 := R1.cell 13
  have r14 := R1.cell 14
  have r15 := R1.cell 15
  have hfr := R1.frozen
  have hzr := R1.old
  simp at r0 r1 r2 r3 r4 r5 r6 r7 r8 r9 r10 r11 r12 r13 r14 r15
  go_wp2
  refine post_box (w := w) (Bel.alloc (Bel.set16 (by repeat (first | with_reducible assumption | with_reducible exact Bel.refl _ | with_reducible refine Bel.alloc ?_ _ | with_reducible refine Bel.drew ?_ | with_reducible refine Bel.drewN ?_ _ | with_reducible refine Bel.setCell ?_ ?_ _ | with_reducible exact Nat.le_refl _ | (dsimp only; omega) | (refine Bel.trans ?_ (by with_reducible assumption)))) (Nat.le_refl _) _ _ _ _ _ _ _ _ _ _ _ _ _ _ _ _) _) (BoxAt.alloc (BoxAt.set16 R1 rfl _ _ _ _ _ _ _ _ _ _ _ _ _ _ _ _) _) ?_
  intro W hB RF
  exact bodyPost_ret (v := .tuple #[.agg #[.int .i64 0, .int .i64 0, .int .i64 0, .int .i64 0, .int .i64 0, .int .i64 0, .int .i64 0, .int .i64 0, .int .i64 0, .int .i64 0, .int .i64 0, .int .i64 0, .int .i64 0, .int .i64 0, .int .i64 0, .string (P.bs [])], .int .i64 2]) (results_box RF Try.results48 rfl Try.underlying55 rfl (by kernel_rfl)) rfl ⟨rfl, hB⟩
set_option maxHeartbeats 4000000 in
theorem g_impl_ReadImage_2 (s eb ib xb : ByteArray) (pr ty x0 x1 x2 x3 x4 x5 x6 x7 x8 x9 x10 x11 x12 x13 x14 : Int) (hE : ∀ w, Calls Try.prog 32 #[.string s] w fun e w' => e = .returned (.tuple #[.agg #[.int .i64 x0, .int .i64 x1, .int .i64 x2, .int .i64 ty, .string eb], .bool true]) ∧ Bel w w') (hty : (ty == 2048) = false) (w : World) :
    Calls Try.prog 48 #[.string s] w fun e w' => e = .returned (.tuple #[.agg #[.int .i64 0, .int .i64 0, .int .i64 0, .int .i64 0, .int .i64 0, .int .i64 0, .int .i64 0, .int .i64 0, .int .i64 0, .int .i64 0, .int .i64 0, .int .i64 0, .int .i64 0, .int .i64 0, .int .i64 0, .string (P.bs [])], .int .i64 2]) ∧ Bel w w' := by
  have HhE := Lib.hid hE
  clear hE
  go_enter Try.func48, Try.ntmps48
  go_wp2_with fail
  refine (HhE.out _).mono ?_
  rintro e w1 ⟨rfl, h1⟩
  have R1 := BoxAt.bel (boxAt_alloc (n := w.heap.size) (w := w) (Nat.le_refl _) #[.int .i64 0, .int .i64 0, .int .i64 0, .int .i64 0, .int .i64 0, .int .i64 0, .int .i64 0, .int .i64 0, .int .i64 0, .int .i64 0, .int .i64 0, .int .i64 0, .int .i64 0, .int .i64 0, .int .i64 0, .string (P.bs [])] 55) h1
  have r0 := R1.cell 0
  have r1 := R1.cell 1
  have r2 := R1.cell 2
  have r3 := R1.cell 3
  have r4 := R1.cell 4
  have r5 := R1.cell 5
  have r6 := R1.cell 6
  have r7 := R1.cell 7
  have r8 := R1.cell 8
  have r9 := R1.cell 9
  have r10 := R1.cell 10
  have r11 := R1.cell 11
  have r12 := R1.cell 12
  have r13 := R1.cell 13
  have r14 := R1.cell 14
  have r15 := R1.cell 15
  have hfr := R1.frozen
  have hzr := R1.old
  simp at r0 r1 r2 r3 r4 r5 r6 r7 r8 r9 r10 r11 r12 r13 r14 r15
  go_wp2
  refine post_box (w := w) (Bel.alloc (Bel.set16 (by repeat (first | with_reducible assumption | with_reducible exact Bel.refl _ | with_reducible refine Bel.alloc ?_ _ | with_reducible refine Bel.drew ?_ | with_reducible refine Bel.drewN ?_ _ | with_reducible refine Bel.setCell ?_ ?_ _ | with_reducible exact Nat.le_refl _ | (dsimp only; omega) | (refine Bel.trans ?_ (by with_reducible assumption)))) (Nat.le_refl _) _ _ _ _ _ _ _ _ _ _ _ _ _ _ _ _) _) (BoxAt.alloc (BoxAt.set16 R1 rfl _ _ _ _ _ _ _ _ _ _ _ _ _ _ _ _) _) ?_
  intro W hB RF
  exact bodyPost_ret (v := .tuple #[.agg #[.int .i64 0, .int .i64 0, .int .i64 0, .int .i64 0, .int .i64 0, .int .i64 0, .int .i64 0, .int .i64 0, .int .i64 0, .int .i64 0, .int .i64 0, .int .i64 0, .int .i64 0, .int .i64 0, .int .i64 0, .string (P.bs [])], .int .i64 2]) (results_box RF Try.results48 rfl Try.underlying55 rfl (by kernel_rfl)) rfl ⟨rfl, hB⟩
set_option maxHeartbeats 4000000 in
theorem g_impl_ReadImage_3 (s eb ib xb : ByteArray) (pr x0 x1 x2 x3 x4 x5 x6 x7 x8 x9 x10 x11 x12 x13 x14 : Int) (hE : ∀ w, Calls Try.prog 32 #[.string s] w fun e w' => e = .returned (.tuple #[.agg #[.int .i64 x0, .int .i64 x1, .int .i64 x2, .int .i64 2048, .string eb], .bool true]) ∧ Bel w w') (hI : ∀ w, Calls Try.prog 39 #[.string eb] w fun e w' => e = .returned (.tuple #[.agg #[.int .i64 x3, .int .i64 x4, .int .i64 x5, .int .i64 pr, .int .i64 x6, .int .i64 x7, .string ib], .bool false]) ∧ Bel w w') (w : World) :
    Calls Try.prog 48 #[.string s] w fun e w' => e = .returned (.tuple #[.agg #[.int .i64 0, .int .i64 0, .int .i64 0, .int .i64 0, .int .i64 0, .int .i64 0, .int .i64 0, .int .i64 0, .int .i64 0, .int .i64 0, .int .i64 0, .int .i64 0, .int .i64 0, .int .i64 0, .int .i64 0, .string (P.bs [])], .int .i64 3]) ∧ Bel w w' := by
  have HhE := Lib.hid hE
  clear hE
  have HhI := Lib.hid hI
  clear hI
  go_enter Try.func48, Try.ntmps48
  go_wp2_with fail
  refine (HhE.out _).mono ?_
  rintro e w1 ⟨rfl, h1⟩
  have R1 := BoxAt.bel (boxAt_alloc (n := w.heap.size) (w := w) (Nat.le_refl _) #[.int .i64 0, .int .i64 0, .int .i64 0, .int .i64 0, .int .i64 0, .int .i64 0, .int .i64 0, .int .i64 0, .int .i64 0, .int .i64 0, .int .i64 0, .int .i64 0, .int .i64 0, .int .i64 0, .int .i64 0, .string (P.bs [])] 55) h1
  have r0 := R1.cell 0
  have r1 := R1.cell 1
  have r2 := R1.cell 2
  have r3 := R1.cell 3
  have r4 := R1.cell 4
  have r5 := R1.cell 5
  have r6 := R1.cell 6
  have r7 := R1.cell 7
  have r8 := R1.cell 8
  have r9 := R1.cell 9
  have r10 := R1.cell 10
  have r11 := R1.cell 11
  have r12 := R1.cell 12
  have r13 := R1.cell 13
  have r14 := R1.cell 14
  have r15 := R1.cell 15
  have hfr := R1.frozen
  have hzr := R1.old
  simp at r0 r1 r2 r3 r4 r5 r6 r7 r8 r9 r10 r11 r12 r13 r14 r15
  go_wp2_with fail
  refine (HhI.out _).mono ?_
  rintro e w2 ⟨rfl, h2⟩
  have R2 := BoxAt.bel (BoxAt.alloc R1 _) h2
  have E2 := BoxAt.bel (boxAt_alloc (n := w.heap.size + 1) (w := w1) (by omega) #[.int .i64 x0, .int .i64 x1, .int .i64 x2, .int .i64 2048, .string eb] 37) h2
  clear r0 r1 r2 r3 r4 r5 r6 r7 r8 r9 r10 r11 r12 r13 r14 r15 hfr hzr
  have r0 := R2.cell 0
  have r1 := R2.cell 1
  have r2 := R2.cell 2
  have r3 := R2.cell 3
  have r4 := R2.cell 4
  have r5 := R2.cell 5
  have r6 := R2.cell 6
  have r7 := R2.cell 7
  have r8 := R2.cell 8
  have r9 := R2.cell 9
  have r10 := R2.cell 10
  have r11 := R2.cell 11
  have r12 := R2.cell 12
  have r13 := R2.cell 13
  have r14 := R2.cell 14
  have r15 := R2.cell 15
  have hfr := R2.frozen
  have hzr := R2.old
  simp at r0 r1 r2 r3 r4 r5 r6 r7 r8 r9 r10 r11 r12 r13 r14 r15
  have k0 := E2.cell 0
  have k1 := E2.cell 1
  have k2 := E2.cell 2
  have k3 := E2.cell 3
  have k4 := E2.cell 4
  have hfe := E2.frozen
  have hze := E2.old
  simp at k0 k1 k2 k3 k4
  go_wp2
  refine post_box (w := w) (Bel.alloc (Bel.set16 (by repeat (first | with_reducible assumption | with_reducible exact Bel.refl _ | with_reducible refine Bel.alloc ?_ _ | with_reducible refine Bel.drew ?_ | with_reducible refine Bel.drewN ?_ _ | with_reducible refine Bel.setCell ?_ ?_ _ | with_reducible exact Nat.le_refl _ | (dsimp only; omega) | (refine Bel.trans ?_ (by with_reducible assumption)))) (Nat.le_refl _) _ _ _ _ _ _ _ _ _ _ _ _ _ _ _ _) _) (BoxAt.alloc (BoxAt.set16 R2 rfl _ _ _ _ _ _ _ _ _ _ _ _ _ _ _ _) _) ?_
  intro W hB RF
  exact bodyPost_ret (v := .tuple #[.agg #[.int .i64 0, .int .i64 0, .int .i64 0, .int .i64 0, .int .i64 0, .int .i64 0, .int .i64 0, .int .i64 0, .int .i64 0, .int .i64 0, .int .i64 0, .int .i64 0, .int .i64 0, .int .i64 0, .int .i64 0, .string (P.bs [])], .int .i64 3]) (results_box RF Try.results48 rfl Try.underlying55 rfl (by kernel_rfl)) rfl ⟨rfl, hB⟩
set_option maxHeartbeats 4000000 in
theorem g_impl_ReadImage_4 (s eb ib xb : ByteArray) (pr x0 x1 x2 x3 x4 x5 x6 x7 x8 x9 x10 x11 x12 x13 x14 : Int) (hE : ∀ w, Calls Try.prog 32 #[.string s] w fun e w' => e = .returned (.tuple #[.agg #[.int .i64 x0, .int .i64 x1, .int .i64 x2, .int .i64 2048, .string eb], .bool true]) ∧ Bel w w') (hI : ∀ w, Calls Try.prog 39 #[.string eb] w fun e w' => e = .returned (.tuple #[.agg #[.int .i64 x3, .int .i64 x4, .int .i64 x5, .int .i64 pr, .int .i64 x6, .int .i64 x7, .string ib], .bool true]) ∧ Bel w w') (hS : ∀ w, Calls Try.prog 42 #[.int .i64 x6, .int .i64 x7, .int .i64 pr, .string ib] w fun e w' => e = .returned (.tuple #[.agg #[.int .i64 x8, .int .i64 x9, .int .i64 x10, .int .i64 x11, .int .i64 x12, .int .i64 x13, .int .i64 x14, .string xb], .bool false]) ∧ Bel w w') (w : World) :
    Calls Try.prog 48 #[.string s] w fun e w' => e = .returned (.tuple #[.agg #[.int .i64 0, .int .i64 0, .int .i64 0, .int .i64 0, .int .i64 0, .int .i64 0, .int .i64 0, .int .i64 0, .int .i64 0, .int .i64 0, .int .i64 0, .int .i64 0, .int .i64 0, .int .i64 0, .int .i64 0, .string (P.bs [])], .int .i64 4]) ∧ Bel w w' := by
  have HhE := Lib.hid hE
  clear hE
  have HhI := Lib.hid hI
  clear hI
  have HhS := Lib.hid hS
  clear hS
  go_enter Try.func48, Try.ntmps48
  go_wp2_with fail
  refine (HhE.out _).mono ?_
  rintro e w1 ⟨rfl, h1⟩
  have R1 := BoxAt.bel (boxAt_alloc (n := w.heap.size) (w := w) (Nat.le_refl _) #[.int .i64 0, .int .i64 0, .int .i64 0, .int .i64 0, .int .i64 0, .int .i64 0, .int .i64 0, .int .i64 0, .int .i64 0, .int .i64 0, .int .i64 0, .int .i64 0, .int .i64 0, .int .i64 0, .int .i64 0, .string (P.bs [])] 55) h1
  have r0 := R1.cell 0
  have r1 := R1.cell 1
  have r2 := R1.cell 2
  have r3 := R1.cell 3
  have r4 := R1.cell 4
  have r5 := R1.cell 5
  have r6 := R1.cell 6
  have r7 := R1.cell 7
  have r8 := R1.cell 8
  have r9 := R1.cell 9
  have r10 := R1.cell 10
  have r11 := R1.cell 11
  have r12 := R1.cell 12
  have r13 := R1.cell 13
  have r14 := R1.cell 14
  have r15 := R1.cell 15
  have hfr := R1.frozen
  have hzr := R1.old
  simp at r0 r1 r2 r3 r4 r5 r6 r7 r8 r9 r10 r11 r12 r13 r14 r15
  go_wp2_with fail
  refine (HhI.out _).mono ?_
  rintro e w2 ⟨rfl, h2⟩
  have R2 := BoxAt.bel (BoxAt.alloc R1 _) h2
  have E2 := BoxAt.bel (boxAt_alloc (n := w.heap.size + 1) (w := w1) (by omega) #[.int .i64 x0, .int .i64 x1, .int .i64 x2, .int .i64 2048, .string eb] 37) h2
  clear r0 r1 r2 r3 r4 r5 r6 r7 r8 r9 r10 r11 r12 r13 r14 r15 hfr hzr
  have r0 := R2.cell 0
  have r1 := R2.cell 1
  have r2 := R2.cell 2
  have r3 := R2.cell 3
  have r4 := R2.cell 4
  have r5 := R2.cell 5
  have r6 := R2.cell 6
  have r7 := R2.cell 7
  have r8 := R2.cell 8
  have r9 := R2.cell 9
  have r10 := R2.cell 10
  have r11 := R2.cell 11
  have r12 := R2.cell 12
  have r13 := R2.cell 13
  have r14 := R2.cell 14
  have r15 := R2.cell 15
  have hfr := R2.frozen
  have hzr := R2.old
  simp at r0 r1 r2 r3 r4 r5 r6 r7 r8 r9 r10 r11 r12 r13 r14 r15
  have k0 := E2.cell 0
  have k1 := E2.cell 1
  have k2 := E2.cell 2
  have k3 := E2.cell 3
  have k4 := E2.cell 4
  have hfe := E2.frozen
  have hze := E2.old
  simp at k0 k1 k2 k3 k4
  go_wp2_with fail
  refine (HhS.out _).mono ?_
  rintro e w3 ⟨rfl, h3⟩
  have R3 := BoxAt.bel (BoxAt.alloc R2 _) h3
  have E3 := BoxAt.bel (BoxAt.alloc E2 _) h3
  have D3 := BoxAt.bel (boxAt_alloc (n := w.heap.size + 1) (w := w2) (by omega) #[.int .i64 x3, .int .i64 x4, .int .i64 x5, .int .i64 pr, .int .i64 x6, .int .i64 x7, .string ib] 47) h3
  clear r0 r1 r2 r3 r4 r5 r6 r7 r8 r9 r10 r11 r12 r13 r14 r15 hfr hzr k0 k1 k2 k3 k4 hfe hze
  have r0 := R3.cell 0
  have r1 := R3.cell 1
  have r2 := R3.cell 2
  have r3 := R3.cell 3
  have r4 := R3.cell 4
  have r5 := R3.cell 5
  have r6 := R3.cell 6
  have r7 := R3.cell 7
  have r8 := R3.cell 8
  have r9 := R3.cell 9
  have r10 := R3.cell 10
  have r11 := R3.cell 11
  have r12 := R3.cell 12
  have r13 := R3.cell 13
  have r14 := R3.cell 14
  have r15 := R3.cell 15
  have hfr := R3.frozen
  have hzr := R3.old
  simp at r0 r1 r2 r3 r4 r5 r6 r7 r8 r9 r10 r11 r12 r13 r14 r15
  have k0 := E3.cell 0
  have k1 := E3.cell 1
  have k2 := E3.cell 2
  have k3 := E3.cell 3
  have k4 := E3.cell 4
  have hfe := E3.frozen
  have hze := E3.old
  simp at k0 k1 k2 k3 k4
  have d0 := D3.cell 0
  have d1 := D3.cell 1
  have d2 := D3.cell 2
  have d3 := D3.cell 3
  have d4 := D3.cell 4
  have d5 := D3.cell 5
  have d6 := D3.cell 6
  have hfd := D3.frozen
  have hzd := D3.old
  simp at d0 d1 d2 d3 d4 d5 d6
  go_wp2
  refine post_box (w := w) (Bel.alloc (Bel.set16 (by repeat (first | with_reducible assumption | with_reducible exact Bel.refl _ | with_reducible refine Bel.alloc ?_ _ | with_reducible refine Bel.drew ?_ | with_reducible refine Bel.drewN ?_ _ | with_reducible refine Bel.setCell ?_ ?_ _ | with_reducible exact Nat.le_refl _ | (dsimp only; omega) | (refine Bel.trans ?_ (by with_reducible assumption)))) (Nat.le_refl _) _ _ _ _ _ _ _ _ _ _ _ _ _ _ _ _) _) (BoxAt.alloc (BoxAt.set16 R3 rfl _ _ _ _ _ _ _ _ _ _ _ _ _ _ _ _) _) ?_
  intro W hB RF
  exact bodyPost_ret (v := .tuple #[.agg #[.int .i64 0, .int .i64 0, .int .i64 0, .int .i64 0, .int .i64 0, .int .i64 0, .int .i64 0, .int .i64 0, .int .i64 0, .int .i64 0, .int .i64 0, .int .i64 0, .int .i64 0, .int .i64 0, .int .i64 0, .string (P.bs [])], .int .i64 4]) (results_box RF Try.results48 rfl Try.underlying55 rfl (by kernel_rfl)) rfl ⟨rfl, hB⟩
set_option maxHeartbeats 4000000 in
theorem g_impl_ReadImage_5 (s eb ib xb : ByteArray) (pr x0 x1 x2 x3 x4 x5 x6 x7 x8 x9 x10 x11 x12 x13 x14 : Int) (hE : ∀ w, Calls Try.prog 32 #[.string s] w fun e w' => e = .returned (.tuple #[.agg #[.int .i64 x0, .int .i64 x1, .int .i64 x2, .int .i64 2048, .string eb], .bool true]) ∧ Bel w w') (hI : ∀ w, Calls Try.prog 39 #[.string eb] w fun e w' => e = .returned (.tuple #[.agg #[.int .i64 x3, .int .i64 x4, .int .i64 x5, .int .i64 pr, .int .i64 x6, .int .i64 x7, .string ib], .bool true]) ∧ Bel w w') (hS : ∀ w, Calls Try.prog 42 #[.int .i64 x6, .int .i64 x7, .int .i64 pr, .string ib] w fun e w' => e = .returned (.tuple #[.agg #[.int .i64 x8, .int .i64 x9, .int .i64 x10, .int .i64 x11, .int .i64 x12, .int .i64 x13, .int .i64 x14, .string xb], .bool true]) ∧ Bel w w') (hU : ∀ w, Calls Try.prog 64 #[.agg #[.int .i64 x0, .int .i64 x1, .int .i64 x2, .int .i64 x3, .int .i64 x4, .int .i64 x5, .int .i64 x6, .int .i64 x7, .int .i64 x8, .int .i64 x9, .int .i64 x10, .int .i64 x11, .int .i64 x12, .int .i64 x13, .int .i64 x14, .string xb]] w fun e w' => e = .returned (.bool false) ∧ Bel w w') (w : World) :
    Calls Try.prog 48 #[.string s] w fun e w' => e = .returned (.tuple #[.agg #[.int .i64 0, .int .i64 0, .int .i64 0, .int .i64 0, .int .i64 0, .int .i64 0, .int .i64 0, .int .i64 0, .int .i64 0, .int .i64 0, .int .i64 0, .int .i64 0, .int .i64 0, .int .i64 0, .int .i64 0, .string (P.bs [])], .int .i64 5]) ∧ Bel w w' := by
  have HhE := Lib.hid hE
  clear hE
  have HhI := Lib.hid hI
  clear hI
  have HhS := Lib.hid hS
  clear hS
  have HhU := Lib.hid hU
  clear hU
  go_enter Try.func48, Try.ntmps48
  go_wp2_with fail
  refine (HhE.out _).mono ?_
  rintro e w1 ⟨rfl, h1⟩
  have R1 := BoxAt.bel (boxAt_alloc (n := w.heap.size) (w := w) (Nat.le_refl _) #[.int .i64 0, .int .i64 0, .int .i64 0, .int .i64 0, .int .i64 0, .int .i64 0, .int .i64 0, .int .i64 0, .int .i64 0, .int .i64 0, .int .i64 0, .int .i64 0, .int .i64 0, .int .i64 0, .int .i64 0, .string (P.bs [])] 55) h1
  have r0 := R1.cell 0
  have r1 := R1.cell 1
  have r2 := R1.cell 2
  have r3 := R1.cell 3
  have r4 := R1.cell 4
  have r5 := R1.cell 5
  have r6 := R1.cell 6
  have r7 := R1.cell 7
  have r8 := R1.cell 8
  have r9 := R1.cell 9
  have r10 := R1.cell 10
  have r11 := R1.cell 11
  have r12 := R1.cell 12
  have r13 := R1.cell 13
  have r14 := R1.cell 14
  have r15 := R1.cell 15
  have hfr := R1.frozen
  have hzr := R1.old
  simp at r0 r1 r2 r3 r4 r5 r6 r7 r8 r9 r10 r11 r12 r13 r14 r15
  go_wp2_with fail
  refine (HhI.out _).mono ?_
  rintro e w2 ⟨rfl, h2⟩
  have R2 := BoxAt.bel (BoxAt.alloc R1 _) h2
  have E2 := BoxAt.bel (boxAt_alloc (n := w.heap.size + 1) (w := w1) (by omega) #[.int .i64 x0, .int .i64 x1, .int .i64 x2, .int .i64 2048, .string eb] 37) h2
  clear r0 r1 r2 r3 r4 r5 r6 r7 r8 r9 r10 r11 r12 r13 r14 r15 hfr hzr
  have r0 := R2.cell 0
  have r1 := R2.cell 1
  have r2 := R2.cell 2
  have r3 := R2.cell 3
  have r4 := R2.cell 4
  have r5 := R2.cell 5
  have r6 := R2.cell 6
  have r7 := R2.cell 7
  have r8 := R2.cell 8
  have r9 := R2.cell 9
  have r10 := R2.cell 10
  have r11 := R2.cell 11
  have r12 := R2.cell 12
  have r13 := R2.cell 13
  have r14 := R2.cell 14
  have r15 := R2.cell 15
  have hfr := R2.frozen
  have hzr := R2.old
  simp at r0 r1 r2 r3 r4 r5 r6 r7 r8 r9 r10 r11 r12 r13 r14 r15
  have k0 := E2.cell 0
  have k1 := E2.cell 1
  have k2 := E2.cell 2
  have k3 := E2.cell 3
  have k4 := E2.cell 4
  have hfe := E2.frozen
  have hze := E2.old
  simp at k0 k1 k2 k3 k4
  go_wp2_with fail
  refine (HhS.out _).mono ?_
  rintro e w3 ⟨rfl, h3⟩
  have R3 := BoxAt.bel (BoxAt.alloc R2 _) h3
  have E3 := BoxAt.bel (BoxAt.alloc E2 _) h3
  have D3 := BoxAt.bel (boxAt_alloc (n := w.heap.size + 1) (w := w2) (by omega) #[.int .i64 x3, .int .i64 x4, .int .i64 x5, .int .i64 pr, .int .i64 x6, .int .i64 x7, .string ib] 47) h3
  clear r0 r1 r2 r3 r4 r5 r6 r7 r8 r9 r10 r11 r12 r13 r14 r15 hfr hzr k0 k1 k2 k3 k4 hfe hze
  have r0 := R3.cell 0
  have r1 := R3.cell 1
  have r2 := R3.cell 2
  have r3 := R3.cell 3
  have r4 := R3.cell 4
  have r5 := R3.cell 5
  have r6 := R3.cell 6
  have r7 := R3.cell 7
  have r8 := R3.cell 8
  have r9 := R3.cell 9
  have r10 := R3.cell 10
  have r11 := R3.cell 11
  have r12 := R3.cell 12
  have r13 := R3.cell 13
  have r14 := R3.cell 14
  have r15 := R3.cell 15
  have hfr := R3.frozen
  have hzr := R3.old
  simp at r0 r1 r2 r3 r4 r5 r6 r7 r8 r9 r10 r11 r12 r13 r14 r15
  have k0 := E3.cell 0
  have k1 := E3.cell 1
  have k2 := E3.cell 2
  have k3 := E3.cell 3
  have k4 := E3.cell 4
  have hfe := E3.frozen
  have hze := E3.old
  simp at k0 k1 k2 k3 k4
  have d0 := D3.cell 0
  have d1 := D3.cell 1
  have d2 := D3.cell 2
  have d3 := D3.cell 3
  have d4 := D3.cell 4
  have d5 := D3.cell 5
  have d6 := D3.cell 6
  have hfd := D3.frozen
  have hzd := D3.old
  simp at d0 d1 d2 d3 d4 d5 d6
  go_wp2_with fail
  refine (HhU.out _).mono ?_
  rintro e w4 ⟨rfl, h4⟩
  have R4 := BoxAt.bel (BoxAt.alloc (BoxAt.alloc R3 _) _) h4
  have P4 := BoxAt.bel (boxAt_alloc (n := w.heap.size + 1) (w := w3.alloc (.cells #[.int .i64 x8, .int .i64 x9, .int .i64 x10, .int .i64 x11, .int .i64 x12, .int .i64 x13, .int .i64 x14, .string xb] 53)) (by simp; omega) #[.int .i64 x0, .int .i64 x1, .int .i64 x2, .int .i64 x3, .int .i64 x4, .int .i64 x5, .int .i64 x6, .int .i64 x7, .int .i64 x8, .int .i64 x9, .int .i64 x10, .int .i64 x11, .int .i64 x12, .int .i64 x13, .int .i64 x14, .string xb] 55) h4
  simp only [World.size_alloc] at P4
  clear r0 r1 r2 r3 r4 r5 r6 r7 r8 r9 r10 r11 r12 r13 r14 r15 hfr hzr k0 k1 k2 k3 k4 hfe hze d0 d1 d2 d3 d4 d5 d6 hfd hzd
  have r0 := R4.cell 0
  have r1 := R4.cell 1
  have r2 := R4.cell 2
  have r3 := R4.cell 3
  have r4 := R4.cell 4
  have r5 := R4.cell 5
  have r6 := R4.cell 6
  have r7 := R4.cell 7
  have r8 := R4.cell 8
  have r9 := R4.cell 9
  have r10 := R4.cell 10
  have r11 := R4.cell 11
  have r12 := R4.cell 12
  have r13 := R4.cell 13
  have r14 := R4.cell 14
  have r15 := R4.cell 15
  have hfr := R4.frozen
  have hzr := R4.old
  simp at r0 r1 r2 r3 r4 r5 r6 r7 r8 r9 r10 r11 r12 r13 r14 r15
  have p0 := P4.cell 0
  have p1 := P4.cell 1
  have p2 := P4.cell 2
  have p3 := P4.cell 3
  have p4 := P4.cell 4
  have p5 := P4.cell 5
  have p6 := P4.cell 6
  have p7 := P4.cell 7
  have p8 := P4.cell 8
  have p9 := P4.cell 9
  have p10 := P4.cell 10
  have p11 := P4.cell 11
  have p12 := P4.cell 12
  have p13 := P4.cell 13
  have p14 := P4.cell 14
  have p15 := P4.cell 15
  have hfp := P4.frozen
  have hzp := P4.old
  simp at p0 p1 p2 p3 p4 p5 p6 p7 p8 p9 p10 p11 p12 p13 p14 p15
  go_wp2
  refine post_box (w := w) (Bel.set16 (by repeat (first | with_reducible assumption | with_reducible exact Bel.refl _ | with_reducible refine Bel.alloc ?_ _ | with_reducible refine Bel.drew ?_ | with_reducible refine Bel.drewN ?_ _ | with_reducible refine Bel.setCell ?_ ?_ _ | with_reducible exact Nat.le_refl _ | (dsimp only; omega) | (refine Bel.trans ?_ (by with_reducible assumption)))) (Nat.le_refl _) _ _ _ _ _ _ _ _ _ _ _ _ _ _ _ _) (BoxAt.set16 R4 rfl _ _ _ _ _ _ _ _ _ _ _ _ _ _ _ _) ?_
  intro W hB RF
  exact bodyPost_ret (v := .tuple #[.agg #[.int .i64 0, .int .i64 0, .int .i64 0, .int .i64 0, .int .i64 0, .int .i64 0, .int .i64 0, .int .i64 0, .int .i64 0, .int .i64 0, .int .i64 0, .int .i64 0, .int .i64 0, .int .i64 0, .int .i64 0, .string (P.bs [])], .int .i64 5]) (results_box RF Try.results48 rfl Try.underlying55 rfl (by kernel_rfl)) rfl ⟨rfl, hB⟩
set_option maxHeartbeats 4000000 in
theorem g_impl_ReadImage_6 (s eb ib xb : ByteArray) (pr x0 x1 x2 x3 x4 x5 x6 x7 x8 x9 x10 x11 x12 x13 x14 : Int) (hE : ∀ w, Calls Try.prog 32 #[.string s] w fun e w' => e = .returned (.tuple #[.agg #[.int .i64 x0, .int .i64 x1, .int .i64 x2, .int .i64 2048, .string eb], .bool true]) ∧ Bel w w') (hI : ∀ w, Calls Try.prog 39 #[.string eb] w fun e w' => e = .returned (.tuple #[.agg #[.int .i64 x3, .int .i64 x4, .int .i64 x5, .int .i64 pr, .int .i64 x6, .int .i64 x7, .string ib], .bool true]) ∧ Bel w w') (hS : ∀ w, Calls Try.prog 42 #[.int .i64 x6, .int .i64 x7, .int .i64 pr, .string ib] w fun e w' => e = .returned (.tuple #[.agg #[.int .i64 x8, .int .i64 x9, .int .i64 x10, .int .i64 x11, .int .i64 x12, .int .i64 x13, .int .i64 x14, .string xb], .bool true]) ∧ Bel w w') (hU : ∀ w, Calls Try.prog 64 #[.agg #[.int .i64 x0, .int .i64 x1, .int .i64 x2, .int .i64 x3, .int .i64 x4, .int .i64 x5, .int .i64 x6, .int .i64 x7, .int .i64 x8, .int .i64 x9, .int .i64 x10, .int .i64 x11, .int .i64 x12, .int .i64 x13, .int .i64 x14, .string xb]] w fun e w' => e = .returned (.bool true) ∧ Bel w w') (w : World) :
    Calls Try.prog 48 #[.string s] w fun e w' => e = .returned (.tuple #[.agg #[.int .i64 x0, .int .i64 x1, .int .i64 x2, .int .i64 x3, .int .i64 x4, .int .i64 x5, .int .i64 x6, .int .i64 x7, .int .i64 x8, .int .i64 x9, .int .i64 x10, .int .i64 x11, .int .i64 x12, .int .i64 x13, .int .i64 x14, .string xb], .int .i64 0]) ∧ Bel w w' := by
  have HhE := Lib.hid hE
  clear hE
  have HhI := Lib.hid hI
  clear hI
  have HhS := Lib.hid hS
  clear hS
  have HhU := Lib.hid hU
  clear hU
  go_enter Try.func48, Try.ntmps48
  go_wp2_with fail
  refine (HhE.out _).mono ?_
  rintro e w1 ⟨rfl, h1⟩
  have R1 := BoxAt.bel (boxAt_alloc (n := w.heap.size) (w := w) (Nat.le_refl _) #[.int .i64 0, .int .i64 0, .int .i64 0, .int .i64 0, .int .i64 0, .int .i64 0, .int .i64 0, .int .i64 0, .int .i64 0, .int .i64 0, .int .i64 0, .int .i64 0, .int .i64 0, .int .i64 0, .int .i64 0, .string (P.bs [])] 55) h1
  have r0 := R1.cell 0
  have r1 := R1.cell 1
  have r2 := R1.cell 2
  have r3 := R1.cell 3
  have r4 := R1.cell 4
  have r5 := R1.cell 5
  have r6 := R1.cell 6
  have r7 := R1.cell 7
  have r8 := R1.cell 8
  have r9 := R1.cell 9
  have r10 := R1.cell 10
  have r11 := R1.cell 11
  have r12 := R1.cell 12
  have r13 := R1.cell 13
  have r14 := R1.cell 14
  have r15 := R1.cell 15
  have hfr := R1.frozen
  have hzr := R1.old
  simp at r0 r1 r2 r3 r4 r5 r6 r7 r8 r9 r10 r11 r12 r13 r14 r15
  go_wp2_with fail
  refine (HhI.out _).mono ?_
  rintro e w2 ⟨rfl, h2⟩
  have R2 := BoxAt.bel (BoxAt.alloc R1 _) h2
  have E2 := BoxAt.bel (boxAt_alloc (n := w.heap.size + 1) (w := w1) (by omega) #[.int .i64 x0, .int .i64 x1, .int .i64 x2, .int .i64 2048, .string eb] 37) h2
  clear r0 r1 r2 r3 r4 r5 r6 r7 r8 r9 r10 r11 r12 r13 r14 r15 hfr hzr
  have r0 := R2.cell 0
  have r1 := R2.cell 1
  have r2 := R2.cell 2
  have r3 := R2.cell 3
  have r4 := R2.cell 4
  have r5 := R2.cell 5
  have r6 := R2.cell 6
  have r7 := R2.cell 7
  have r8 := R2.cell 8
  have r9 := R2.cell 9
  have r10 := R2.cell 10
  have r11 := R2.cell 11
  have r12 := R2.cell 12
  have r13 := R2.cell 13
  have r14 := R2.cell 14
  have r15 := R2.cell 15
  have hfr := R2.frozen
  have hzr := R2.old
  simp at r0 r1 r2 r3 r4 r5 r6 r7 r8 r9 r10 r11 r12 r13 r14 r15
  have k0 := E2.cell 0
  have k1 := E2.cell 1
  have k2 := E2.cell 2
  have k3 := E2.cell 3
  have k4 := E2.cell 4
  have hfe := E2.frozen
  have hze := E2.old
  simp at k0 k1 k2 k3 k4
  go_wp2_with fail
  refine (HhS.out _).mono ?_
  rintro e w3 ⟨rfl, h3⟩
  have R3 := BoxAt.bel (BoxAt.alloc R2 _) h3
  have E3 := BoxAt.bel (BoxAt.alloc E2 _) h3
  have D3 := BoxAt.bel (boxAt_alloc (n := w.heap.size + 1) (w := w2) (by omega) #[.int .i64 x3, .int .i64 x4, .int .i64 x5, .int .i64 pr, .int .i64 x6, .int .i64 x7, .string ib] 47) h3
  clear r0 r1 r2 r3 r4 r5 r6 r7 r8 r9 r10 r11 r12 r13 r14 r15 hfr hzr k0 k1 k2 k3 k4 hfe hze
  have r0 := R3.cell 0
  have r1 := R3.cell 1
  have r2 := R3.cell 2
  have r3 := R3.cell 3
  have r4 := R3.cell 4
  have r5 := R3.cell 5
  have r6 := R3.cell 6
  have r7 := R3.cell 7
  have r8 := R3.cell 8
  have r9 := R3.cell 9
  have r10 := R3.cell 10
  have r11 := R3.cell 11
  have r12 := R3.cell 12
  have r13 := R3.cell 13
  have r14 := R3.cell 14
  have r15 := R3.cell 15
  have hfr := R3.frozen
  have hzr := R3.old
  simp at r0 r1 r2 r3 r4 r5 r6 r7 r8 r9 r10 r11 r12 r13 r14 r15
  have k0 := E3.cell 0
  have k1 := E3.cell 1
  have k2 := E3.cell 2
  have k3 := E3.cell 3
  have k4 := E3.cell 4
  have hfe := E3.frozen
  have hze := E3.old
  simp at k0 k1 k2 k3 k4
  have d0 := D3.cell 0
  have d1 := D3.cell 1
  have d2 := D3.cell 2
  have d3 := D3.cell 3
  have d4 := D3.cell 4
  have d5 := D3.cell 5
  have d6 := D3.cell 6
  have hfd := D3.frozen
  have hzd := D3.old
  simp at d0 d1 d2 d3 d4 d5 d6
  go_wp2_with fail
  refine (HhU.out _).mono ?_
  rintro e w4 ⟨rfl, h4⟩
  have R4 := BoxAt.bel (BoxAt.alloc (BoxAt.alloc R3 _) _) h4
  have P4 := BoxAt.bel (boxAt_alloc (n := w.heap.size + 1) (w := w3.alloc (.cells #[.int .i64 x8, .int .i64 x9, .int .i64 x10, .int .i64 x11, .int .i64 x12, .int .i64 x13, .int .i64 x14, .string xb] 53)) (by simp; omega) #[.int .i64 x0, .int .i64 x1, .int .i64 x2, .int .i64 x3, .int .i64 x4, .int .i64 x5, .int .i64 x6, .int .i64 x7, .int .i64 x8, .int .i64 x9, .int .i64 x10, .int .i64 x11, .int .i64 x12, .int .i64 x13, .int .i64 x14, .string xb] 55) h4
  simp only [World.size_alloc] at P4
  clear r0 r1 r2 r3 r4 r5 r6 r7 r8 r9 r10 r11 r12 r13 r14 r15 hfr hzr k0 k1 k2 k3 k4 hfe hze d0 d1 d2 d3 d4 d5 d6 hfd hzd
  have r0 := R4.cell 0
  have r1 := R4.cell 1
  have r2 := R4.cell 2
  have r3 := R4.cell 3
  have r4 := R4.cell 4
  have r5 := R4.cell 5
  have r6 := R4.cell 6
  have r7 := R4.cell 7
  have r8 := R4.cell 8
  have r9 := R4.cell 9
  have r10 := R4.cell 10
  have r11 := R4.cell 11
  have r12 := R4.cell 12
  have r13 := R4.cell 13
  have r14 := R4.cell 14
  have r15 := R4.cell 15
  have hfr := R4.frozen
  have hzr := R4.old
  simp at r0 r1 r2 r3 r4 r5 r6 r7 r8 r9 r10 r11 r12 r13 r14 r15
  have p0 := P4.cell 0
  have p1 := P4.cell 1
  have p2 := P4.cell 2
  have p3 := P4.cell 3
  have p4 := P4.cell 4
  have p5 := P4.cell 5
  have p6 := P4.cell 6
  have p7 := P4.cell 7
  have p8 := P4.cell 8
  have p9 := P4.cell 9
  have p10 := P4.cell 10
  have p11 := P4.cell 11
  have p12 := P4.cell 12
  have p13 := P4.cell 13
  have p14 := P4.cell 14
  have p15 := P4.cell 15
  have hfp := P4.frozen
  have hzp := P4.old
  simp at p0 p1 p2 p3 p4 p5 p6 p7 p8 p9 p10 p11 p12 p13 p14 p15
  go_wp2
  refine post_box (w := w) (Bel.set16 (by repeat (first | with_reducible assumption | with_reducible exact Bel.refl _ | with_reducible refine Bel.alloc ?_ _ | with_reducible refine Bel.drew ?_ | with_reducible refine Bel.drewN ?_ _ | with_reducible refine Bel.setCell ?_ ?_ _ | with_reducible exact Nat.le_refl _ | (dsimp only; omega) | (refine Bel.trans ?_ (by with_reducible assumption)))) (Nat.le_refl _) _ _ _ _ _ _ _ _ _ _ _ _ _ _ _ _) (BoxAt.set16 R4 rfl _ _ _ _ _ _ _ _ _ _ _ _ _ _ _ _) ?_
  intro W hB RF
  exact bodyPost_ret (v := .tuple #[.agg #[.int .i64 x0, .int .i64 x1, .int .i64 x2, .int .i64 x3, .int .i64 x4, .int .i64 x5, .int .i64 x6, .int .i64 x7, .int .i64 x8, .int .i64 x9, .int .i64 x10, .int .i64 x11, .int .i64 x12, .int .i64 x13, .int .i64 x14, .string xb], .int .i64 0]) (results_box RF Try.results48 rfl Try.underlying55 rfl (by kernel_rfl)) rfl ⟨rfl, hB⟩
end Go.Proofs.Ytnpnkkjdnmgbkaa
