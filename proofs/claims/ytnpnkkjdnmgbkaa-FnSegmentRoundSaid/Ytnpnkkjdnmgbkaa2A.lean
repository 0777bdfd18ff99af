/-
  The contracts of the reference's draws, eighth part: short packets, drawn.
-/
import Derived.Test.Ytnpnkkjdnmgbkaa28
namespace Go.Proofs.Ytnpnkkjdnmgbkaa
open Go.RowKit
set_option linter.unusedVariables false

def DrewPacket (w : World) (e : Ending) (w' : World) : Prop := ∃ (dm : Int) (sm : Int) (vl : Int) (tos : Int) (id : Int) (ttl : Int) (si : Int) (di : Int) (kind : Int) (sp : Int) (dp : Int) (sq : Int) (ak : Int) (fl : Int) (wn : Int) (body : ByteArray), P.superOk dm sm vl tos id ttl si di kind sp dp sq ak fl wn body.size = true ∧ body.size ≤ 60 ∧ e = .returned (.agg #[.int .i64 dm, .int .i64 sm, .int .i64 vl, .int .i64 tos, .int .i64 id, .int .i64 ttl, .int .i64 si, .int .i64 di, .int .i64 kind, .int .i64 sp, .int .i64 dp, .int .i64 sq, .int .i64 ak, .int .i64 fl, .int .i64 wn, .string body]) ∧ Bel w w'
set_option maxHeartbeats 2000000 in
theorem c_DrawPacket (W : World) (a : Option Addr) (len cap : Nat) (z : List Int) (w : World) (hrow : IsRow W a len cap z) (hsmall : len ≤ 1048576) (hW : Bel W w) :
    Calls Try.prog 40 #[.slice a len cap] w (DrewPacket w) := by
  go_enter Try.func40, Try.ntmps40
  have R0 := boxAt_alloc (n := w.heap.size) (w := w) (Nat.le_refl _) #[.int .i64 0, .int .i64 0, .int .i64 0, .int .i64 0, .int .i64 0, .int .i64 0, .int .i64 0, .int .i64 0, .int .i64 0, .int .i64 0, .int .i64 0, .int .i64 0, .int .i64 0, .int .i64 0, .int .i64 0, .string (P.bs [])] 55
  go_wp2_with fail
  refine (c_l01New W a len cap z _ hrow hsmall (hW.alloc _)).mono ?_
  rintro e w0 ⟨b, rfl, hb0, hnb, hc0⟩
  simp at hnb
  have hne : ¬ w.heap.size = b := by omega
  have R1 := R0.bel hb0
  clear R0
  have q0 := R1.cell 0
  have q1 := R1.cell 1
  have q2 := R1.cell 2
  have q3 := R1.cell 3
  have q4 := R1.cell 4
  have q5 := R1.cell 5
  have q6 := R1.cell 6
  have q7 := R1.cell 7
  have q8 := R1.cell 8
  have q9 := R1.cell 9
  have q10 := R1.cell 10
  have q11 := R1.cell 11
  have q12 := R1.cell 12
  have q13 := R1.cell 13
  have q14 := R1.cell 14
  have q15 := R1.cell 15
  have hfq := R1.frozen
  have hzq := R1.old
  simp at q0 q1 q2 q3 q4 q5 q6 q7 q8 q9 q10 q11 q12 q13 q14 q15
  go_wp2_with fail
  refine (c_l07Packet _ b 60 _ hc0 (by decide)).mono ?_
  rintro e w1 ⟨v, ⟨dm, sm, vl, tos, id, ttl, si, di, kind, sp, dp, sq, ak, fl, wn, body, rfl, hok, hlen⟩, rfl, hb1, hc1⟩
  clear q0 q1 q2 q3 q4 q5 q6 q7 q8 q9 q10 q11 q12 q13 q14 q15 hfq hzq
  have R2 := R1.bex hb1 hne
  have hB1 : Bel w w1 := (((Bel.refl w).alloc _).trans hb0).bex hb1 (by omega)
  clear R1 hb0 hb1
  have r0 := R2.cell 0
  have r1 := R2.cell 1
  have r2 := R2.cell 2
  have r3 := R2.cell 3
  have r4 := R2.cell 4
  have r5 := R2.cell 5
  have r6 := R2.cell 6
  have r7 := R2.cell 7
  have r8 := R2.cell 8
  have r9 := R2.cell 9
  have r10 := R2.cell 10
  have r11 := R2.cell 11
  have r12 := R2.cell 12
  have r13 := R2.cell 13
  have r14 := R2.cell 14
  have r15 := R2.cell 15
  have hfr := R2.frozen
  have hzr := R2.old
  simp at r0 r1 r2 r3 r4 r5 r6 r7 r8 r9 r10 r11 r12 r13 r14 r15
  go_wp2
  refine post_at (I := fun W' => Bel w W') (Bel.set16 hB1 (Nat.le_refl _) _ _ _ _ _ _ _ _ _ _ _ _ _ _ _ _) (BoxAt.set16 R2 rfl _ _ _ _ _ _ _ _ _ _ _ _ _ _ _ _) ?_
  intro W' hB RF
  exact bodyPost_ret (v := .agg #[.int .i64 dm, .int .i64 sm, .int .i64 vl, .int .i64 tos, .int .i64 id, .int .i64 ttl, .int .i64 si, .int .i64 di, .int .i64 kind, .int .i64 sp, .int .i64 dp, .int .i64 sq, .int .i64 ak, .int .i64 fl, .int .i64 wn, .string body]) (result_box RF Try.results40 rfl Try.underlying55 rfl (by kernel_rfl)) rfl ⟨_, _, _, _, _, _, _, _, _, _, _, _, _, _, _, _, hok, hlen, rfl, hB⟩
end Go.Proofs.Ytnpnkkjdnmgbkaa
