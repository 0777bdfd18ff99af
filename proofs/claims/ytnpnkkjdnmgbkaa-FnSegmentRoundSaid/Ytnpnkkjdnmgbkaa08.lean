/-
  The contracts of chapter 4, second part: frames read back (the program's).
-/
import Derived.Test.Ytnpnkkjdnmgbkaa04
import Derived.Test.YtnpnkkjdnmgbkaaBox
import Derived.Test.YtnpnkkjdnmgbkaaPure2
namespace Go.Proofs.Ytnpnkkjdnmgbkaa
open Go.RowKit
set_option linter.unusedVariables false

set_option maxHeartbeats 6000000 in
theorem c_impl_ParseEth (s : ByteArray) (hs : s.size ≤ 1073741824) (w : World) :
    Calls Try.prog 32 #[.string s] w fun e w' => e = .returned (.tuple #[.agg #[.int .i64 (P.peD s), .int .i64 (P.peS s), .int .i64 (P.peV s), .int .i64 (P.peT s), .string (P.peB s)], .bool (P.peOk s)]) ∧ Bel w w' := by
  by_cases h14 : s.size < 14
  · have hbad := P.peOk_short s (by omega)
    obtain ⟨q1, q2, q3, q4, q5⟩ := P.pe_bad s hbad
    rw [q1, q2, q3, q4, q5, hbad]
    clear q1 q2 q3 q4 q5 hbad
    go_enter Try.func32, Try.ntmps32
    go_wp2
    exact bodyPost_ret (v := .tuple #[.agg #[.int .i64 0, .int .i64 0, .int .i64 0, .int .i64 0, .string (P.bs [])], .bool false]) (by simp [results, Try.results32, go_sem]; rfl) rfl ⟨rfl, (Bel.refl _).alloc _⟩
  · have g0 := P.get16_pos s 0 (by omega)
    have g6 := P.get16_pos s 6 (by omega)
    have g12 := P.get16_pos s 12 (by omega)
    have g2 := P.get32_pos s 2 (by omega)
    have g8 := P.get32_pos s 8 (by omega)
    have e0 : bits .or .i64 (P.get16 s 0 * 4294967296) (P.get32 s 2) = P.mac48 s 0 2 := P.or_low32 _ _ g0 g2
    have e6 : bits .or .i64 (P.get16 s 6 * 4294967296) (P.get32 s 8) = P.mac48 s 6 8 := P.or_low32 _ _ g6 g8
    have hle : (14 : Int) ≤ s.size := by omega
    go_enter Try.func32, Try.ntmps32
    go_wp2
    refine wp_region_spot 18 [.string s, .int .i64 (P.get16 s 0), .int .i64 (P.get16 s 0 * 4294967296), .string s, .int .i64 (P.get32 s 2), .int .i64 (P.mac48 s 0 2), .string s, .int .i64 (P.get16 s 6), .int .i64 (P.get16 s 6 * 4294967296), .string s, .int .i64 (P.get32 s 8), .int .i64 (P.mac48 s 6 8), .string s, .int .i64 (P.get16 s 12), .string s, .string (s.extract 14 s.size), .agg #[.int .i64 (P.mac48 s 0 2), .int .i64 (P.mac48 s 6 8), .int .i64 (-1), .int .i64 (P.get16 s 12), .string (s.extract 14 s.size)]]
      [none, none, none, none, none, none, none, none, none, none, none, none, none, none, none, none, none, some (Spot.box (w.heap.size + 1) [.int .i64 0, .int .i64 0, .int .i64 0, .int .i64 0, .string (P.bs [])])] (by kernel_rfl) (by kernel_rfl) (Nat.le_of_ble_eq_true (by kernel_rfl)) (by kernel_rfl) ?_ ?_
    · refine ⟨?_, ?_, ?_, ?_, ?_, ?_, ?_, ?_, ?_, ?_, ?_, ?_, ?_, ?_, ?_, ?_, ?_, ?_, trivial⟩
      all_goals intro β w' hb hrow
      all_goals simp [lastSp, putL, spVal, Spot.box_val, Spot.box_lies, List.range, List.range.loop, QB, seen, dep, dstOf, go_sem, Region.binds] at hrow ⊢
      all_goals first | exact Bel.refl _ | exact c_impl_Get16 _ _ hs _ | exact c_impl_Get32 _ _ hs _ | exact ⟨Bel.refl _, by first | with_reducible assumption | exact IntWalk.i64_in _ (by omega)⟩ | (rw [if_pos hle]; exact ⟨Bel.refl _, rfl⟩) | exact ⟨(Bel.refl _).alloc _, boxAt_alloc (by have := hb.size; simp at this; omega) _ _⟩
    · intro β w2 h2 hx
      simp [lastSp, putL, spVal, Spot.box_val, List.range, List.range.loop]
      have B2 := hx 17 _ (by decide) rfl
      rw [Spot.box_lies] at B2
      clear hx e0 e6
      generalize β 17 = b at B2 ⊢
      have R2 := BoxAt.bel (boxAt_alloc (n := w.heap.size) (w := w) (Nat.le_refl _) #[.int .i64 0, .int .i64 0, .int .i64 0, .int .i64 0, .string (P.bs [])] 37) h2
      have hnb := B2.new
      have hn1 : ¬ b = w.heap.size := by omega
      have hn2 : ¬ w.heap.size = b := by omega
      have k0 := B2.cell 0
      have k1 := B2.cell 1
      have k2 := B2.cell 2
      have k3 := B2.cell 3
      have k4 := B2.cell 4
      have hfb := B2.frozen
      have hzb := B2.old
      simp at k0 k1 k2 k3 k4
      have r0 := R2.cell 0
      have r1 := R2.cell 1
      have r2 := R2.cell 2
      have r3 := R2.cell 3
      have r4 := R2.cell 4
      have hfr := R2.frozen
      have hzr := R2.old
      simp at r0 r1 r2 r3 r4
      by_cases htag : P.get16 s 12 = 33024
      · by_cases h18 : 18 ≤ s.size
        · have h18' : (18 : Int) ≤ s.size := by omega
          have hpe := P.peOk_tag s htag h18
          cases hok : P.ethOk (P.mac48 s 0 2) (P.mac48 s 6 8) (P.get16 s 14) (P.get16 s 16) (s.extract 18 s.size).size with
          | false =>
            rw [hok] at hpe
            obtain ⟨q1, q2, q3, q4, q5⟩ := P.pe_bad s hpe
            have HF := Lib.hid (show Ending.returned (.tuple #[.agg #[.int .i64 0, .int .i64 0, .int .i64 0, .int .i64 0, .string (P.bs [])], .bool false]) = Ending.returned (.tuple #[.agg #[.int .i64 (P.peD s), .int .i64 (P.peS s), .int .i64 (P.peV s), .int .i64 (P.peT s), .string (P.peB s)], .bool (P.peOk s)]) from by rw [q1, q2, q3, q4, q5, hpe])
            clear q1 q2 q3 q4 q5 hpe
            go_wp2_with fail
            refine (c_impl_Get16 _ _ hs _).mono ?_
            rintro e w4 ⟨rfl, h4⟩
            have B4 := BoxAt.bel (BoxAt.set (BoxAt.set (BoxAt.set (BoxAt.set (BoxAt.set B2 0 (by simp) _) 1 (by simp) _) 2 (by simp) _) 3 (by simp) _) 4 (by simp) _) h4
            have R4 := BoxAt.bel (BoxAt.other (BoxAt.other (BoxAt.other (BoxAt.other (BoxAt.other R2 hn1 _) hn1 _) hn1 _) hn1 _) hn1 _) h4
            clear k0 k1 k2 k3 k4 hfb hzb r0 r1 r2 r3 r4 hfr hzr
            have k0 := B4.cell 0
            have k1 := B4.cell 1
            have k2 := B4.cell 2
            have k3 := B4.cell 3
            have k4 := B4.cell 4
            have hfb := B4.frozen
            have hzb := B4.old
            simp at k0 k1 k2 k3 k4
            have r0 := R4.cell 0
            have r1 := R4.cell 1
            have r2 := R4.cell 2
            have r3 := R4.cell 3
            have r4 := R4.cell 4
            have hfr := R4.frozen
            have hzr := R4.old
            simp at r0 r1 r2 r3 r4
            go_wp2_with fail
            refine (c_impl_Get16 _ _ hs _).mono ?_
            rintro e w5 ⟨rfl, h5⟩
            have B5 := BoxAt.bel (BoxAt.set B4 2 (by simp) _) h5
            have R5 := BoxAt.bel (BoxAt.other R4 hn1 _) h5
            clear k0 k1 k2 k3 k4 hfb hzb r0 r1 r2 r3 r4 hfr hzr
            have k0 := B5.cell 0
            have k1 := B5.cell 1
            have k2 := B5.cell 2
            have k3 := B5.cell 3
            have k4 := B5.cell 4
            have hfb := B5.frozen
            have hzb := B5.old
            simp at k0 k1 k2 k3 k4
            have r0 := R5.cell 0
            have r1 := R5.cell 1
            have r2 := R5.cell 2
            have r3 := R5.cell 3
            have r4 := R5.cell 4
            have hfr := R5.frozen
            have hzr := R5.old
            simp at r0 r1 r2 r3 r4
            go_wp2_with fail
            refine (c_impl_EthOk _ _ _ _ _ (by simp [ByteArray.size_extract]; omega) _).mono ?_
            rintro e w6 ⟨he, h6⟩
            rw [hok] at he
            subst he
            have B6 := BoxAt.bel (BoxAt.set (BoxAt.set B5 3 (by simp) _) 4 (by simp) _) h6
            have R6 := BoxAt.bel (BoxAt.other (BoxAt.other R5 hn1 _) hn1 _) h6
            clear k0 k1 k2 k3 k4 hfb hzb r0 r1 r2 r3 r4 hfr hzr
            have k0 := B6.cell 0
            have k1 := B6.cell 1
            have k2 := B6.cell 2
            have k3 := B6.cell 3
            have k4 := B6.cell 4
            have hfb := B6.frozen
            have hzb := B6.old
            simp at k0 k1 k2 k3 k4
            have r0 := R6.cell 0
            have r1 := R6.cell 1
            have r2 := R6.cell 2
            have r3 := R6.cell 3
            have r4 := R6.cell 4
            have hfr := R6.frozen
            have hzr := R6.old
            simp at r0 r1 r2 r3 r4
            go_wp2
            exact bodyPost_ret (v := .tuple #[.agg #[.int .i64 0, .int .i64 0, .int .i64 0, .int .i64 0, .string (P.bs [])], .bool false]) (by simp [results, Try.results32, go_sem, *]; rfl) rfl ⟨HF.out, (by repeat (first | with_reducible assumption | with_reducible exact Bel.refl _ | with_reducible refine Bel.alloc ?_ _ | with_reducible refine Bel.drew ?_ | with_reducible refine Bel.drewN ?_ _ | with_reducible refine Bel.setCell ?_ ?_ _ | with_reducible exact Nat.le_refl _ | (dsimp only; omega) | (refine Bel.trans ?_ (by with_reducible assumption))))⟩
          | true =>
            rw [hok] at hpe
            obtain ⟨q1, q2, q3, q4, q5⟩ := P.pe_tag s hpe htag
            have HF := Lib.hid (show Ending.returned (.tuple #[.agg #[.int .i64 (P.mac48 s 0 2), .int .i64 (P.mac48 s 6 8), .int .i64 (P.get16 s 14), .int .i64 (P.get16 s 16), .string (s.extract 18 s.size)], .bool true]) = Ending.returned (.tuple #[.agg #[.int .i64 (P.peD s), .int .i64 (P.peS s), .int .i64 (P.peV s), .int .i64 (P.peT s), .string (P.peB s)], .bool (P.peOk s)]) from by rw [q1, q2, q3, q4, q5, hpe])
            clear q1 q2 q3 q4 q5 hpe
            go_wp2_with fail
            refine (c_impl_Get16 _ _ hs _).mono ?_
            rintro e w4 ⟨rfl, h4⟩
            have B4 := BoxAt.bel (BoxAt.set (BoxAt.set (BoxAt.set (BoxAt.set (BoxAt.set B2 0 (by simp) _) 1 (by simp) _) 2 (by simp) _) 3 (by simp) _) 4 (by simp) _) h4
            have R4 := BoxAt.bel (BoxAt.other (BoxAt.other (BoxAt.other (BoxAt.other (BoxAt.other R2 hn1 _) hn1 _) hn1 _) hn1 _) hn1 _) h4
            clear k0 k1 k2 k3 k4 hfb hzb r0 r1 r2 r3 r4 hfr hzr
            have k0 := B4.cell 0
            have k1 := B4.cell 1
            have k2 := B4.cell 2
            have k3 := B4.cell 3
            have k4 := B4.cell 4
            have hfb := B4.frozen
            have hzb := B4.old
            simp at k0 k1 k2 k3 k4
            have r0 := R4.cell 0
            have r1 := R4.cell 1
            have r2 := R4.cell 2
            have r3 := R4.cell 3
            have r4 := R4.cell 4
            have hfr := R4.frozen
            have hzr := R4.old
            simp at r0 r1 r2 r3 r4
            go_wp2_with fail
            refine (c_impl_Get16 _ _ hs _).mono ?_
            rintro e w5 ⟨rfl, h5⟩
            have B5 := BoxAt.bel (BoxAt.set B4 2 (by simp) _) h5
            have R5 := BoxAt.bel (BoxAt.other R4 hn1 _) h5
            clear k0 k1 k2 k3 k4 hfb hzb r0 r1 r2 r3 r4 hfr hzr
            have k0 := B5.cell 0
            have k1 := B5.cell 1
            have k2 := B5.cell 2
            have k3 := B5.cell 3
            have k4 := B5.cell 4
            have hfb := B5.frozen
            have hzb := B5.old
            simp at k0 k1 k2 k3 k4
            have r0 := R5.cell 0
            have r1 := R5.cell 1
            have r2 := R5.cell 2
            have r3 := R5.cell 3
            have r4 := R5.cell 4
            have hfr := R5.frozen
            have hzr := R5.old
            simp at r0 r1 r2 r3 r4
            go_wp2_with fail
            refine (c_impl_EthOk _ _ _ _ _ (by simp [ByteArray.size_extract]; omega) _).mono ?_
            rintro e w6 ⟨he, h6⟩
            rw [hok] at he
            subst he
            have B6 := BoxAt.bel (BoxAt.set (BoxAt.set B5 3 (by simp) _) 4 (by simp) _) h6
            have R6 := BoxAt.bel (BoxAt.other (BoxAt.other R5 hn1 _) hn1 _) h6
            clear k0 k1 k2 k3 k4 hfb hzb r0 r1 r2 r3 r4 hfr hzr
            have k0 := B6.cell 0
            have k1 := B6.cell 1
            have k2 := B6.cell 2
            have k3 := B6.cell 3
            have k4 := B6.cell 4
            have hfb := B6.frozen
            have hzb := B6.old
            simp at k0 k1 k2 k3 k4
            have r0 := R6.cell 0
            have r1 := R6.cell 1
            have r2 := R6.cell 2
            have r3 := R6.cell 3
            have r4 := R6.cell 4
            have hfr := R6.frozen
            have hzr := R6.old
            simp at r0 r1 r2 r3 r4
            go_wp2
            exact bodyPost_ret (v := .tuple #[.agg #[.int .i64 (P.mac48 s 0 2), .int .i64 (P.mac48 s 6 8), .int .i64 (P.get16 s 14), .int .i64 (P.get16 s 16), .string (s.extract 18 s.size)], .bool true]) (by simp [results, Try.results32, go_sem, *]) rfl ⟨HF.out, (by repeat (first | with_reducible assumption | with_reducible exact Bel.refl _ | with_reducible refine Bel.alloc ?_ _ | with_reducible refine Bel.drew ?_ | with_reducible refine Bel.drewN ?_ _ | with_reducible refine Bel.setCell ?_ ?_ _ | with_reducible exact Nat.le_refl _ | (dsimp only; omega) | (refine Bel.trans ?_ (by with_reducible assumption))))⟩
        · have hpe := P.peOk_short s (by omega)
          have hok := P.ethOk_tag (P.mac48 s 0 2) (P.mac48 s 6 8) (-1) (s.extract 14 s.size).size
          obtain ⟨q1, q2, q3, q4, q5⟩ := P.pe_bad s hpe
          have HF := Lib.hid (show Ending.returned (.tuple #[.agg #[.int .i64 0, .int .i64 0, .int .i64 0, .int .i64 0, .string (P.bs [])], .bool false]) = Ending.returned (.tuple #[.agg #[.int .i64 (P.peD s), .int .i64 (P.peS s), .int .i64 (P.peV s), .int .i64 (P.peT s), .string (P.peB s)], .bool (P.peOk s)]) from by rw [q1, q2, q3, q4, q5, hpe])
          clear q1 q2 q3 q4 q5 hpe
          go_wp2_with fail
          refine (c_impl_EthOk _ _ _ _ _ (by simp [ByteArray.size_extract]; omega) _).mono ?_
          rintro e w6 ⟨he, h6⟩
          rw [hok] at he
          subst he
          have B6 := BoxAt.bel (BoxAt.set (BoxAt.set (BoxAt.set (BoxAt.set (BoxAt.set B2 0 (by simp) _) 1 (by simp) _) 2 (by simp) _) 3 (by simp) _) 4 (by simp) _) h6
          have R6 := BoxAt.bel (BoxAt.other (BoxAt.other (BoxAt.other (BoxAt.other (BoxAt.other R2 hn1 _) hn1 _) hn1 _) hn1 _) hn1 _) h6
          clear k0 k1 k2 k3 k4 hfb hzb r0 r1 r2 r3 r4 hfr hzr
          have k0 := B6.cell 0
          have k1 := B6.cell 1
          have k2 := B6.cell 2
          have k3 := B6.cell 3
          have k4 := B6.cell 4
          have hfb := B6.frozen
          have hzb := B6.old
          simp at k0 k1 k2 k3 k4
          have r0 := R6.cell 0
          have r1 := R6.cell 1
          have r2 := R6.cell 2
          have r3 := R6.cell 3
          have r4 := R6.cell 4
          have hfr := R6.frozen
          have hzr := R6.old
          simp at r0 r1 r2 r3 r4
          go_wp2
          exact bodyPost_ret (v := .tuple #[.agg #[.int .i64 0, .int .i64 0, .int .i64 0, .int .i64 0, .string (P.bs [])], .bool false]) (by simp [results, Try.results32, go_sem, *]; rfl) rfl ⟨HF.out, (by repeat (first | with_reducible assumption | with_reducible exact Bel.refl _ | with_reducible refine Bel.alloc ?_ _ | with_reducible refine Bel.drew ?_ | with_reducible refine Bel.drewN ?_ _ | with_reducible refine Bel.setCell ?_ ?_ _ | with_reducible exact Nat.le_refl _ | (dsimp only; omega) | (refine Bel.trans ?_ (by with_reducible assumption))))⟩
      · skip
        have hpe := P.peOk_plain s htag (by omega)
        cases hok : P.ethOk (P.mac48 s 0 2) (P.mac48 s 6 8) (-1) (P.get16 s 12) (s.extract 14 s.size).size with
        | false =>
          rw [hok] at hpe
          obtain ⟨q1, q2, q3, q4, q5⟩ := P.pe_bad s hpe
          have HF := Lib.hid (show Ending.returned (.tuple #[.agg #[.int .i64 0, .int .i64 0, .int .i64 0, .int .i64 0, .string (P.bs [])], .bool false]) = Ending.returned (.tuple #[.agg #[.int .i64 (P.peD s), .int .i64 (P.peS s), .int .i64 (P.peV s), .int .i64 (P.peT s), .string (P.peB s)], .bool (P.peOk s)]) from by rw [q1, q2, q3, q4, q5, hpe])
          clear q1 q2 q3 q4 q5 hpe
          go_wp2_with fail
          refine (c_impl_EthOk _ _ _ _ _ (by simp [ByteArray.size_extract]; omega) _).mono ?_
          rintro e w6 ⟨he, h6⟩
          rw [hok] at he
          subst he
          have B6 := BoxAt.bel (BoxAt.set (BoxAt.set (BoxAt.set (BoxAt.set (BoxAt.set B2 0 (by simp) _) 1 (by simp) _) 2 (by simp) _) 3 (by simp) _) 4 (by simp) _) h6
          have R6 := BoxAt.bel (BoxAt.other (BoxAt.other (BoxAt.other (BoxAt.other (BoxAt.other R2 hn1 _) hn1 _) hn1 _) hn1 _) hn1 _) h6
          clear k0 k1 k2 k3 k4 hfb hzb r0 r1 r2 r3 r4 hfr hzr
          have k0 := B6.cell 0
          have k1 := B6.cell 1
          have k2 := B6.cell 2
          have k3 := B6.cell 3
          have k4 := B6.cell 4
          have hfb := B6.frozen
          have hzb := B6.old
          simp at k0 k1 k2 k3 k4
          have r0 := R6.cell 0
          have r1 := R6.cell 1
          have r2 := R6.cell 2
          have r3 := R6.cell 3
          have r4 := R6.cell 4
          have hfr := R6.frozen
          have hzr := R6.old
          simp at r0 r1 r2 r3 r4
          go_wp2
          exact bodyPost_ret (v := .tuple #[.agg #[.int .i64 0, .int .i64 0, .int .i64 0, .int .i64 0, .string (P.bs [])], .bool false]) (by simp [results, Try.results32, go_sem, *]; rfl) rfl ⟨HF.out, (by repeat (first | with_reducible assumption | with_reducible exact Bel.refl _ | with_reducible refine Bel.alloc ?_ _ | with_reducible refine Bel.drew ?_ | with_reducible refine Bel.drewN ?_ _ | with_reducible refine Bel.setCell ?_ ?_ _ | with_reducible exact Nat.le_refl _ | (dsimp only; omega) | (refine Bel.trans ?_ (by with_reducible assumption))))⟩
        | true =>
          rw [hok] at hpe
          obtain ⟨q1, q2, q3, q4, q5⟩ := P.pe_plain s hpe htag
          have HF := Lib.hid (show Ending.returned (.tuple #[.agg #[.int .i64 (P.mac48 s 0 2), .int .i64 (P.mac48 s 6 8), .int .i64 (-1), .int .i64 (P.get16 s 12), .string (s.extract 14 s.size)], .bool true]) = Ending.returned (.tuple #[.agg #[.int .i64 (P.peD s), .int .i64 (P.peS s), .int .i64 (P.peV s), .int .i64 (P.peT s), .string (P.peB s)], .bool (P.peOk s)]) from by rw [q1, q2, q3, q4, q5, hpe])
          clear q1 q2 q3 q4 q5 hpe
          go_wp2_with fail
          refine (c_impl_EthOk _ _ _ _ _ (by simp [ByteArray.size_extract]; omega) _).mono ?_
          rintro e w6 ⟨he, h6⟩
          rw [hok] at he
          subst he
          have B6 := BoxAt.bel (BoxAt.set (BoxAt.set (BoxAt.set (BoxAt.set (BoxAt.set B2 0 (by simp) _) 1 (by simp) _) 2 (by simp) _) 3 (by simp) _) 4 (by simp) _) h6
          have R6 := BoxAt.bel (BoxAt.other (BoxAt.other (BoxAt.other (BoxAt.other (BoxAt.other R2 hn1 _) hn1 _) hn1 _) hn1 _) hn1 _) h6
          clear k0 k1 k2 k3 k4 hfb hzb r0 r1 r2 r3 r4 hfr hzr
          have k0 := B6.cell 0
          have k1 := B6.cell 1
          have k2 := B6.cell 2
          have k3 := B6.cell 3
          have k4 := B6.cell 4
          have hfb := B6.frozen
          have hzb := B6.old
          simp at k0 k1 k2 k3 k4
          have r0 := R6.cell 0
          have r1 := R6.cell 1
          have r2 := R6.cell 2
          have r3 := R6.cell 3
          have r4 := R6.cell 4
          have hfr := R6.frozen
          have hzr := R6.old
          simp at r0 r1 r2 r3 r4
          go_wp2
          exact bodyPost_ret (v := .tuple #[.agg #[.int .i64 (P.mac48 s 0 2), .int .i64 (P.mac48 s 6 8), .int .i64 (-1), .int .i64 (P.get16 s 12), .string (s.extract 14 s.size)], .bool true]) (by simp [results, Try.results32, go_sem, *]) rfl ⟨HF.out, (by repeat (first | with_reducible assumption | with_reducible exact Bel.refl _ | with_reducible refine Bel.alloc ?_ _ | with_reducible refine Bel.drew ?_ | with_reducible refine Bel.drewN ?_ _ | with_reducible refine Bel.setCell ?_ ?_ _ | with_reducible exact Nat.le_refl _ | (dsimp only; omega) | (refine Bel.trans ?_ (by with_reducible assumption))))⟩
end Go.Proofs.Ytnpnkkjdnmgbkaa
