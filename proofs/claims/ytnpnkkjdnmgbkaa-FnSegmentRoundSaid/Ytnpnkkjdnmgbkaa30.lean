/-
  Packets built and read back: the contracts at packets that can be built.
-/
import Derived.Test.Ytnpnkkjdnmgbkaa14i
import Derived.Test.Ytnpnkkjdnmgbkaa16i
import Derived.Test.YtnpnkkjdnmgbkaaPureD
import Derived.Test.YtnpnkkjdnmgbkaaLoad
namespace Go.Proofs.Ytnpnkkjdnmgbkaa
open Go.RowKit
set_option linter.unusedVariables false

theorem P.frame_size_le (dm sm vl tos id ttl si di kind sp dp sq ak fl wn : Int) (body : ByteArray) (h : P.packetOk dm sm vl tos id ttl si di kind sp dp sq ak fl wn body.size = true) : (P.frame dm sm vl tos id ttl si di kind sp dp sq ak fl wn body).size ≤ 1000 := by
  have h1 := (P.frame_round dm sm vl tos id ttl si di kind sp dp sq ak fl wn body h).1
  rw [h1, P.withFcs_size]
  have := P.image_size_le dm sm vl tos id ttl si di kind sp dp sq ak fl wn body
  omega
theorem c_bf_ok (dm sm vl tos id ttl si di kind sp dp sq ak fl wn : Int) (body : ByteArray) (hs : body.size ≤ 1073741824) (h : P.packetOk dm sm vl tos id ttl si di kind sp dp sq ak fl wn body.size = true) (F : ByteArray) (hF : P.frame dm sm vl tos id ttl si di kind sp dp sq ak fl wn body = F) (w : World) :
    Calls Try.prog 49 #[.agg #[.int .i64 dm, .int .i64 sm, .int .i64 vl, .int .i64 tos, .int .i64 id, .int .i64 ttl, .int .i64 si, .int .i64 di, .int .i64 kind, .int .i64 sp, .int .i64 dp, .int .i64 sq, .int .i64 ak, .int .i64 fl, .int .i64 wn, .string body]] w fun e w' => e = .returned (.tuple #[.string F, .bool true]) ∧ Bel w w' :=
  (c_impl_BuildFrame dm sm vl tos id ttl si di kind sp dp sq ak fl wn body hs w).mono fun e w' ⟨he, hb⟩ => ⟨by rw [he, h, hF], hb⟩
theorem c_rf_ok (dm sm vl tos id ttl si di kind sp dp sq ak fl wn : Int) (body : ByteArray) (h : P.packetOk dm sm vl tos id ttl si di kind sp dp sq ak fl wn body.size = true) (F : ByteArray) (hF : P.frame dm sm vl tos id ttl si di kind sp dp sq ak fl wn body = F) (w : World) :
    Calls Try.prog 50 #[.string F] w fun e w' => e = .returned (.tuple #[.agg #[.int .i64 dm, .int .i64 sm, .int .i64 vl, .int .i64 tos, .int .i64 id, .int .i64 ttl, .int .i64 si, .int .i64 di, .int .i64 kind, .int .i64 sp, .int .i64 dp, .int .i64 sq, .int .i64 ak, .int .i64 fl, .int .i64 wn, .string body], .int .i64 0]) ∧ Bel w w' := by
  have hz := P.frame_size_le dm sm vl tos id ttl si di kind sp dp sq ak fl wn body h
  obtain ⟨f1, f2, f3, f4, f5⟩ := P.frame_round dm sm vl tos id ttl si di kind sp dp sq ak fl wn body h
  obtain ⟨i0, i1, i2, i3, i4, i5, i6, i7, i8, i9, i10, i11, i12, i13, i14, i15, i16⟩ := P.img_round dm sm vl tos id ttl si di kind sp dp sq ak fl wn body (P.packetOk_super h)
  rw [hF] at hz f1 f2 f3 f4 f5
  generalize P.image dm sm vl tos id ttl si di kind sp dp sq ak fl wn body = X at *
  refine (c_impl_ReadFrame F (by omega) w).mono fun e w' ⟨he, hb⟩ => ⟨?_, hb⟩
  rw [he, P.rfBody_yes F f4]
  simp only [f3, f4, f5, i9, i10, i11, i12, i13, i14, i15]
  simp only [i1, i2, i3, i4, i5, i6, i7, i8, i16]
theorem c_rf_bad (s : ByteArray) (hs : s.size ≤ 1073741824) (h : P.fcsOk s = false) (w : World) :
    Calls Try.prog 50 #[.string s] w fun e w' => e = .returned (.tuple #[.agg #[.int .i64 0, .int .i64 0, .int .i64 0, .int .i64 0, .int .i64 0, .int .i64 0, .int .i64 0, .int .i64 0, .int .i64 0, .int .i64 0, .int .i64 0, .int .i64 0, .int .i64 0, .int .i64 0, .int .i64 0, .string (P.bs [])], .int .i64 1]) ∧ Bel w w' := by
  have hc := P.rf_c1 s h
  have hno : ¬ P.rfCode s = 0 := by rw [hc]; decide
  refine (c_impl_ReadFrame s hs w).mono fun e w' ⟨he, hb⟩ => ⟨?_, hb⟩
  rw [he]
  simp only [P.rf_no s hno, P.rfBody_no s hno, hc]
theorem c_bi_ok (dm sm vl tos id ttl si di kind sp dp sq ak fl wn : Int) (body : ByteArray) (hs : body.size ≤ 1073741824) (h : P.superOk dm sm vl tos id ttl si di kind sp dp sq ak fl wn body.size = true) (X : ByteArray) (hX : P.image dm sm vl tos id ttl si di kind sp dp sq ak fl wn body = X) (w : World) :
    Calls Try.prog 47 #[.agg #[.int .i64 dm, .int .i64 sm, .int .i64 vl, .int .i64 tos, .int .i64 id, .int .i64 ttl, .int .i64 si, .int .i64 di, .int .i64 kind, .int .i64 sp, .int .i64 dp, .int .i64 sq, .int .i64 ak, .int .i64 fl, .int .i64 wn, .string body]] w fun e w' => e = .returned (.tuple #[.string X, .bool true]) ∧ Bel w w' :=
  (c_impl_BuildImage dm sm vl tos id ttl si di kind sp dp sq ak fl wn body hs w).mono fun e w' ⟨he, hb⟩ => ⟨by rw [he, hX, P.imgOk_super, h], hb⟩
theorem c_ri_ok (dm sm vl tos id ttl si di kind sp dp sq ak fl wn : Int) (body : ByteArray) (h : P.superOk dm sm vl tos id ttl si di kind sp dp sq ak fl wn body.size = true) (X : ByteArray) (hX : P.image dm sm vl tos id ttl si di kind sp dp sq ak fl wn body = X) (w : World) :
    Calls Try.prog 48 #[.string X] w fun e w' => e = .returned (.tuple #[.agg #[.int .i64 dm, .int .i64 sm, .int .i64 vl, .int .i64 tos, .int .i64 id, .int .i64 ttl, .int .i64 si, .int .i64 di, .int .i64 kind, .int .i64 sp, .int .i64 dp, .int .i64 sq, .int .i64 ak, .int .i64 fl, .int .i64 wn, .string body], .int .i64 0]) ∧ Bel w w' := by
  have hz := P.image_size_le dm sm vl tos id ttl si di kind sp dp sq ak fl wn body
  obtain ⟨i0, i1, i2, i3, i4, i5, i6, i7, i8, i9, i10, i11, i12, i13, i14, i15, i16⟩ := P.img_round dm sm vl tos id ttl si di kind sp dp sq ak fl wn body h
  rw [hX] at hz
  generalize P.image dm sm vl tos id ttl si di kind sp dp sq ak fl wn body = Y at *
  subst hX
  refine (c_impl_ReadImage Y (by omega) w).mono fun e w' ⟨he, hb⟩ => ⟨?_, hb⟩
  rw [he]
  simp only [P.ri, i0, if_true, i9, i10, i11, i12, i13, i14, i15]
  simp only [i1, i2, i3, i4, i5, i6, i7, i8, i16]
theorem eq16 (dm sm vl tos id ttl si di kind sp dp sq ak fl wn : Int) (body : ByteArray) (w : World) : (binOp .eql 55 (.agg #[.int .i64 dm, .int .i64 sm, .int .i64 vl, .int .i64 tos, .int .i64 id, .int .i64 ttl, .int .i64 si, .int .i64 di, .int .i64 kind, .int .i64 sp, .int .i64 dp, .int .i64 sq, .int .i64 ak, .int .i64 fl, .int .i64 wn, .string body]) (.agg #[.int .i64 dm, .int .i64 sm, .int .i64 vl, .int .i64 tos, .int .i64 id, .int .i64 ttl, .int .i64 si, .int .i64 di, .int .i64 kind, .int .i64 sp, .int .i64 dp, .int .i64 sq, .int .i64 ak, .int .i64 fl, .int .i64 wn, .string body])).run Try.prog w = .ok (.bool true) w := by
  have u1 := Try.underlying3
  have u2 := Try.underlying9
  have u3 := Try.underlying53
  have u4 := Try.underlying55
  simp [go_sem]
theorem ne16 (dm sm vl tos id ttl si di kind sp dp sq ak fl wn : Int) (body : ByteArray) (w : World) : (binOp .neq 55 (.agg #[.int .i64 dm, .int .i64 sm, .int .i64 vl, .int .i64 tos, .int .i64 id, .int .i64 ttl, .int .i64 si, .int .i64 di, .int .i64 kind, .int .i64 sp, .int .i64 dp, .int .i64 sq, .int .i64 ak, .int .i64 fl, .int .i64 wn, .string body]) (.agg #[.int .i64 dm, .int .i64 sm, .int .i64 vl, .int .i64 tos, .int .i64 id, .int .i64 ttl, .int .i64 si, .int .i64 di, .int .i64 kind, .int .i64 sp, .int .i64 dp, .int .i64 sq, .int .i64 ak, .int .i64 fl, .int .i64 wn, .string body])).run Try.prog w = .ok (.bool false) w := by
  have u1 := Try.underlying3
  have u2 := Try.underlying9
  have u3 := Try.underlying53
  have u4 := Try.underlying55
  simp [go_sem]
theorem wpList_cmp {P : Program} {ops : Array Oper} {Q : Exit → Act → World → Prop} {rest : List Oper} {o : Oper} {a : Act} {w : World} (hw : Region.wanted o (yielded ops a.tmps) = true) (op : BinOp) (ty : TypeId) (x y : Operand) (t2 : TypeId) (ho : o.op = .binOp op ty x y t2)
    {xs ys : Array Value} {r : Value} (hx : a.eval x = .agg xs) (hy : a.eval y = .agg ys) (hg : P.eqGuardType P.depth ty = false) (hE : (binOp op ty (.agg xs) (.agg ys)).run P w = .ok r w) (h : wpList P ops Q rest (a.put o.dst r) w) : wpList P ops Q (o :: rest) a w := by
  show (if Region.wanted o (yielded ops a.tmps) then o.wp P a w (wpList P ops Q rest) Q ∨ (o.asks P a w ∧ LetsOut Q) else wpList P ops Q rest (a.put o.dst undef) w)
  rw [if_pos hw]
  left
  unfold Oper.wp execOp
  simp only [ho, hx, hy, Sem.run_bind, run_eqGuard_agg, hg, Result.andThen_ok, Sem.run_pure, hE]
  exact h
/-- a packet read whole out of its box -/
theorem load16 {b : Nat} {w : World} {dm sm vl tos id ttl si di kind sp dp sq ak fl wn : Int} {body : ByteArray} (h : BoxAt 0 [.int .i64 dm, .int .i64 sm, .int .i64 vl, .int .i64 tos, .int .i64 id, .int .i64 ttl, .int .i64 si, .int .i64 di, .int .i64 kind, .int .i64 sp, .int .i64 dp, .int .i64 sq, .int .i64 ak, .int .i64 fl, .int .i64 wn, .string body] b w) : (loadVar 55 ⟨b, 0, none⟩).run Try.prog w = .ok (.agg #[.int .i64 dm, .int .i64 sm, .int .i64 vl, .int .i64 tos, .int .i64 id, .int .i64 ttl, .int .i64 si, .int .i64 di, .int .i64 kind, .int .i64 sp, .int .i64 dp, .int .i64 sq, .int .i64 ak, .int .i64 fl, .int .i64 wn, .string body]) w :=
  run_load_box h Try.underlying55 rfl (by kernel_rfl)
end Go.Proofs.Ytnpnkkjdnmgbkaa
