/-
  The contracts of the reference's draws, fourth part: frames, datagrams. They say that these can be built.
-/
import Derived.Test.Ytnpnkkjdnmgbkaa22
import Derived.Test.YtnpnkkjdnmgbkaaDr
namespace Go.Proofs.Ytnpnkkjdnmgbkaa
open Go.RowKit
set_option linter.unusedVariables false

set_option maxHeartbeats 1000000 in
theorem c_l02Half (c : Src) (b : Nat) (w : World) (hc : Cur c b w) :
    Calls Try.prog 74 #[.pointer (some ⟨b, 0, none⟩)] w (Drew c b w (IntIn 0 65535)) := by
  go_enter Try.func74, Try.ntmps74
  go_wp2_with fail
  refine (c_l01Below c b 65536 _ hc (by omega)).mono ?_
  rintro e w1 ⟨v1, ⟨x, rfl, hxa, hxb⟩, rfl, hb1, hc1⟩
  rw [if_neg (by omega)] at hxb
  go_wp2_with fail
  refine (c_l01Below c b 65536 _ hc1 (by omega)).mono ?_
  rintro e w2 ⟨v2, ⟨y, rfl, hya, hyb⟩, rfl, hb2, hc2⟩
  rw [if_neg (by omega)] at hyb
  go_wp2_with fail
  refine (c_l01PickInt c b w2.heap.size [0, 1, 65535, 65534, x, y] 6 rfl (by decide) (by decide) _ (by have := hc2.old; omega) (rowI_alloc w2 _ 3) (Cur.alloc hc2 _)).mono ?_
  rintro e w3 ⟨v3, ⟨z, hz, rfl⟩, rfl, hb3, hc3⟩
  have rz : 0 ≤ z ∧ z ≤ 65535 := by simp at hz; omega
  clear hz
  go_wp2
  go_ret
  exact ⟨_, ⟨_, rfl, rz.1, rz.2⟩, rfl, (by repeat (first | with_reducible assumption | with_reducible exact Bex.refl _ _ | with_reducible refine Bex.alloc ?_ _ | with_reducible refine Bex.drew ?_ | with_reducible refine Bex.drewN ?_ _ | with_reducible refine Bex.set ?_ _ _ | (refine Bex.trans ?_ (by with_reducible assumption)) | (refine Bex.of ?_ (by with_reducible assumption)))), (by repeat (first | with_reducible assumption | with_reducible refine Cur.alloc ?_ _ | with_reducible refine Cur.drew ?_ | with_reducible refine Cur.drewN ?_ _ | (refine Cur.next ?_ (by with_reducible assumption))))⟩
set_option maxHeartbeats 1000000 in
theorem c_l04Station (c : Src) (b : Nat) (w : World) (hc : Cur c b w) :
    Calls Try.prog 72 #[.pointer (some ⟨b, 0, none⟩)] w (Drew c b w (IntIn 0 281474976710655)) := by
  go_enter Try.func72, Try.ntmps72
  go_wp2_with fail
  refine (c_l01PickInt c b w.heap.size [2, 4, 6, 8, 281474976710655, 1099511627776] 6 rfl (by decide) (by decide) _ (by have := hc.old; omega) (rowI_alloc w _ 3) (Cur.alloc hc _)).mono ?_
  rintro e w1 ⟨v1, ⟨z, hz, rfl⟩, rfl, hb1, hc1⟩
  have rz : 0 ≤ z ∧ z ≤ 281474976710655 := by simp at hz; omega
  clear hz
  go_wp2
  go_ret
  exact ⟨_, ⟨_, rfl, rz.1, rz.2⟩, rfl, (by repeat (first | with_reducible assumption | with_reducible exact Bex.refl _ _ | with_reducible refine Bex.alloc ?_ _ | with_reducible refine Bex.drew ?_ | with_reducible refine Bex.drewN ?_ _ | with_reducible refine Bex.set ?_ _ _ | (refine Bex.trans ?_ (by with_reducible assumption)) | (refine Bex.of ?_ (by with_reducible assumption)))), (by repeat (first | with_reducible assumption | with_reducible refine Cur.alloc ?_ _ | with_reducible refine Cur.drew ?_ | with_reducible refine Cur.drewN ?_ _ | (refine Cur.next ?_ (by with_reducible assumption))))⟩
/-- a frame that can be built -/
def EthV (v : Value) : Prop := ∃ (d s vl ty : Int) (body : ByteArray), v = .agg #[.int .i64 d, .int .i64 s, .int .i64 vl, .int .i64 ty, .string body] ∧ P.ethOk d s vl ty body.size = true
theorem P.ethOk_mk {d s v t : Int} {n : Nat} (hd : 0 ≤ d ∧ d ≤ 281474976710655) (hs : 0 ≤ s ∧ s ≤ 281474976710655) (hv : -1 ≤ v ∧ v ≤ 4095) (ht : 1536 ≤ t ∧ t ≤ 65535 ∧ t ≠ 33024) (hn : 46 ≤ n ∧ n ≤ 400) : P.ethOk d s v t n = true := by
  unfold P.ethOk
  exact decide_eq_true ⟨hd.1, hd.2, hs.1, hs.2, hv.1, hv.2, ht.1, ht.2.1, ht.2.2, hn.1, hn.2⟩
set_option maxHeartbeats 4000000 in
theorem c_l04Eth (c : Src) (b : Nat) (w : World) (hc : Cur c b w) :
    Calls Try.prog 55 #[.pointer (some ⟨b, 0, none⟩)] w (Drew c b w EthV) := by
  have hne : ¬ w.heap.size = b := by have := hc.old; omega
  go_enter Try.func55, Try.ntmps55
  have R0 := boxAt_alloc (n := w.heap.size) (w := w) (Nat.le_refl _) #[.int .i64 0, .int .i64 0, .int .i64 0, .int .i64 0, .string (P.bs [])] 37
  go_wp2_with fail
  refine (c_l04Station c b _ (Cur.alloc hc _)).mono ?_
  rintro e w1 ⟨v1, ⟨d, rfl, hd0, hd1⟩, rfl, hb1, hc1⟩
  go_wp2_with fail
  refine (c_l04Station c b _ hc1).mono ?_
  rintro e w2 ⟨v2, ⟨s, rfl, hs0, hs1⟩, rfl, hb2, hc2⟩
  go_wp2_with fail
  refine (c_l01PickInt c b w2.heap.size [-1, -1, 0, 7, 4095] 5 rfl (by decide) (by decide) _ (by have := hc2.old; omega) (rowI_alloc w2 _ 3) (Cur.alloc hc2 _)).mono ?_
  rintro e w3 ⟨v3, ⟨vl, hvl, rfl⟩, rfl, hb3, hc3⟩
  have rvl : -1 ≤ vl ∧ vl ≤ 4095 := by simp at hvl; omega
  clear hvl
  go_wp2_with fail
  refine (c_l01PickInt c b w3.heap.size [2048, 1536, 65535, 33025] 4 rfl (by decide) (by decide) _ (by have := hc3.old; omega) (rowI_alloc w3 _ 3) (Cur.alloc hc3 _)).mono ?_
  rintro e w4 ⟨v4, ⟨ty, hty, rfl⟩, rfl, hb4, hc4⟩
  have rty : 1536 ≤ ty ∧ ty ≤ 65535 ∧ ty ≠ 33024 := by simp at hty; omega
  clear hty
  go_wp2_with fail
  refine (c_l01Below c b 20 _ hc4 (by omega)).mono ?_
  rintro e w5 ⟨v5, ⟨y, rfl, hya, hyb⟩, rfl, hb5, hc5⟩
  rw [if_neg (by omega)] at hyb
  go_wp2_with fail
  refine (c_l01Text c b (46 + y) _ hc5 (by omega)).mono ?_
  rintro e w6 ⟨v6, ⟨body, rfl, hbody⟩, rfl, hb6, hc6⟩
  have R6 := ((((((R0.bex hb1 hne).bex hb2 hne).alloc _).bex hb3 hne).alloc _).bex hb4 hne).bex hb5 hne |>.bex hb6 hne
  clear R0
  have hz6 := R6.old
  have hl6 : ¬ w6.heap.size = b := by have := hc6.old; omega
  have hlr : ¬ w6.heap.size = w.heap.size := by omega
  have L6 := boxAt_alloc (n := w.heap.size) (w := w6) (by omega) #[.int .i64 d, .int .i64 s, .int .i64 vl, .int .i64 ty, .string body] 37
  have b6 : Bex b w w6 := (by repeat (first | with_reducible assumption | with_reducible exact Bex.refl _ _ | with_reducible refine Bex.alloc ?_ _ | with_reducible refine Bex.drew ?_ | with_reducible refine Bex.drewN ?_ _ | with_reducible refine Bex.own ?_ ?_ _ | with_reducible exact Nat.le_refl _ | (dsimp only; omega) | (refine Bex.trans ?_ (by with_reducible assumption)) | (refine Bex.of ?_ (by with_reducible assumption))))
  have hWz := hc6.new
  have hWo := hc.old
  go_wp2_with fail
  refine (c_l01Once c b 12 _ (by repeat (first | with_reducible assumption | with_reducible refine Cur.alloc ?_ _ | with_reducible refine Cur.drew ?_ | with_reducible refine Cur.drewN ?_ _ | with_reducible refine Cur.other ?_ ?_ ?_ _ | (dsimp only; omega) | (refine Cur.next ?_ (by with_reducible assumption)))) (by omega)).mono ?_
  rintro e w7 ⟨v7, ⟨x, rfl⟩, rfl, hb7, hc7⟩
  have L7 := BoxAt.bex L6 hb7 hl6
  have R7 := BoxAt.bex (BoxAt.alloc R6 _) hb7 hne
  have b7 : Bex b w w7 := (by repeat (first | with_reducible assumption | with_reducible exact Bex.refl _ _ | with_reducible refine Bex.alloc ?_ _ | with_reducible refine Bex.drew ?_ | with_reducible refine Bex.drewN ?_ _ | with_reducible refine Bex.own ?_ ?_ _ | with_reducible exact Nat.le_refl _ | (dsimp only; omega) | (refine Bex.trans ?_ hb7) | (refine Bex.of ?_ (by with_reducible assumption))))
  clear hb1 hb2 hb3 hb4 hb5 hb6 hb7 b6 hc1 hc2 hc3 hc4 hc5 hc6 R6 L6
  have k0 := L7.cell 0
  have k1 := L7.cell 1
  have k2 := L7.cell 2
  have k3 := L7.cell 3
  have k4 := L7.cell 4
  have hfk := L7.frozen
  have hzk := L7.old
  simp at k0 k1 k2 k3 k4
  have r0 := R7.cell 0
  have r1 := R7.cell 1
  have r2 := R7.cell 2
  have r3 := R7.cell 3
  have r4 := R7.cell 4
  have hfr := R7.frozen
  have hzr := R7.old
  simp at r0 r1 r2 r3 r4
  cases x with
  | true =>
    go_wp2_with fail
    refine (c_spec_l01Long 400 7 (by omega) (by omega) _).mono ?_
    rintro e w8 ⟨rfl, hb8⟩
    clear k0 k1 k2 k3 k4 hfk hzk
    clear r0 r1 r2 r3 r4 hfr hzr
    have L8 := BoxAt.bel L7 hb8
    have R8 := BoxAt.bel R7 hb8
    have b8 := b7.of hb8
    have hc8 := hc7.next hb8
    clear b7 hb8 hc7 L7 R7
    have k0 := L8.cell 0
    have k1 := L8.cell 1
    have k2 := L8.cell 2
    have k3 := L8.cell 3
    have k4 := L8.cell 4
    have hfk := L8.frozen
    have hzk := L8.old
    simp at k0 k1 k2 k3 k4
    have r0 := R8.cell 0
    have r1 := R8.cell 1
    have r2 := R8.cell 2
    have r3 := R8.cell 3
    have r4 := R8.cell 4
    have hfr := R8.frozen
    have hzr := R8.old
    simp at r0 r1 r2 r3 r4
    go_wp2
    refine post_at (I := fun W => Bex b w W ∧ Cur c b W) ⟨(by repeat (first | with_reducible assumption | with_reducible exact Bex.refl _ _ | with_reducible refine Bex.alloc ?_ _ | with_reducible refine Bex.drew ?_ | with_reducible refine Bex.drewN ?_ _ | with_reducible refine Bex.own ?_ ?_ _ | with_reducible exact Nat.le_refl _ | (dsimp only; omega) | (refine Bex.trans ?_ (by with_reducible assumption)) | (refine Bex.of ?_ (by with_reducible assumption)))), (by repeat (first | with_reducible assumption | with_reducible refine Cur.alloc ?_ _ | with_reducible refine Cur.drew ?_ | with_reducible refine Cur.drewN ?_ _ | with_reducible refine Cur.other ?_ ?_ ?_ _ | (dsimp only; omega) | (refine Cur.next ?_ (by with_reducible assumption))))⟩ (BoxAt.set (BoxAt.set (BoxAt.set (BoxAt.set (BoxAt.set (BoxAt.other R8 hlr _) 0 (by simp) _) 1 (by simp) _) 2 (by simp) _) 3 (by simp) _) 4 (by simp) _) ?_
    rintro W ⟨hB, hC⟩ RF
    exact bodyPost_ret (v := .agg #[.int .i64 d, .int .i64 s, .int .i64 vl, .int .i64 ty, .string _]) (result_box RF Try.results55 rfl Try.underlying37 rfl (by kernel_rfl)) rfl ⟨_, ⟨_, _, _, _, _, rfl, P.ethOk_mk ⟨hd0, hd1⟩ ⟨hs0, hs1⟩ rvl rty (by rw [P.rep_size]; omega)⟩, rfl, hB, hC⟩
  | false =>
    go_wp2
    refine post_at (I := fun W => Bex b w W ∧ Cur c b W) ⟨(by repeat (first | with_reducible assumption | with_reducible exact Bex.refl _ _ | with_reducible refine Bex.alloc ?_ _ | with_reducible refine Bex.drew ?_ | with_reducible refine Bex.drewN ?_ _ | with_reducible refine Bex.own ?_ ?_ _ | with_reducible exact Nat.le_refl _ | (dsimp only; omega) | (refine Bex.trans ?_ (by with_reducible assumption)) | (refine Bex.of ?_ (by with_reducible assumption)))), (by repeat (first | with_reducible assumption | with_reducible refine Cur.alloc ?_ _ | with_reducible refine Cur.drew ?_ | with_reducible refine Cur.drewN ?_ _ | with_reducible refine Cur.other ?_ ?_ ?_ _ | (dsimp only; omega) | (refine Cur.next ?_ (by with_reducible assumption))))⟩ (BoxAt.set (BoxAt.set (BoxAt.set (BoxAt.set (BoxAt.set R7 0 (by simp) _) 1 (by simp) _) 2 (by simp) _) 3 (by simp) _) 4 (by simp) _) ?_
    rintro W ⟨hB, hC⟩ RF
    exact bodyPost_ret (v := .agg #[.int .i64 d, .int .i64 s, .int .i64 vl, .int .i64 ty, .string body]) (result_box RF Try.results55 rfl Try.underlying37 rfl (by kernel_rfl)) rfl ⟨_, ⟨_, _, _, _, _, rfl, P.ethOk_mk ⟨hd0, hd1⟩ ⟨hs0, hs1⟩ rvl rty (by omega)⟩, rfl, hB, hC⟩
def DrewEth (w : World) (e : Ending) (w' : World) : Prop := ∃ (d : Int) (s : Int) (vl : Int) (ty : Int) (body : ByteArray), P.ethOk d s vl ty body.size = true ∧ e = .returned (.agg #[.int .i64 d, .int .i64 s, .int .i64 vl, .int .i64 ty, .string body]) ∧ Bel w w'
set_option maxHeartbeats 2000000 in
theorem c_DrawEth (W : World) (a : Option Addr) (len cap : Nat) (z : List Int) (w : World) (hrow : IsRow W a len cap z) (hsmall : len ≤ 1048576) (hW : Bel W w) :
    Calls Try.prog 30 #[.slice a len cap] w (DrewEth w) := by
  go_enter Try.func30, Try.ntmps30
  have R0 := boxAt_alloc (n := w.heap.size) (w := w) (Nat.le_refl _) #[.int .i64 0, .int .i64 0, .int .i64 0, .int .i64 0, .string (P.bs [])] 37
  go_wp2_with fail
  refine (c_l01New W a len cap z _ hrow hsmall (hW.alloc _)).mono ?_
  rintro e w0 ⟨b, rfl, hb0, hnb, hc0⟩
  simp at hnb
  have hne : ¬ w.heap.size = b := by omega
  have R1 := R0.bel hb0
  clear R0
  have q0 := R1.cell 0
  have q1 := R1.cell 1
  have q2 := R1.cell 2
  have q3 := R1.cell 3
  have q4 := R1.cell 4
  have hfq := R1.frozen
  have hzq := R1.old
  simp at q0 q1 q2 q3 q4
  go_wp2_with fail
  refine (c_l04Eth _ b _ hc0).mono ?_
  rintro e w1 ⟨v, ⟨d, s, vl, ty, body, rfl, hok⟩, rfl, hb1, hc1⟩
  clear q0 q1 q2 q3 q4 hfq hzq
  have R2 := R1.bex hb1 hne
  have hB1 : Bel w w1 := (((Bel.refl w).alloc _).trans hb0).bex hb1 (by omega)
  clear R1 hb0 hb1
  have r0 := R2.cell 0
  have r1 := R2.cell 1
  have r2 := R2.cell 2
  have r3 := R2.cell 3
  have r4 := R2.cell 4
  have hfr := R2.frozen
  have hzr := R2.old
  simp at r0 r1 r2 r3 r4
  go_wp2
  refine post_at (I := fun W' => Bel w W') (by repeat (first | with_reducible assumption | with_reducible exact Bel.refl _ | with_reducible refine Bel.alloc ?_ _ | with_reducible refine Bel.drew ?_ | with_reducible refine Bel.drewN ?_ _ | with_reducible refine Bel.setCell ?_ ?_ _ | with_reducible exact Nat.le_refl _ | (dsimp only; omega) | (refine Bel.trans ?_ (by with_reducible assumption)))) (BoxAt.set (BoxAt.set (BoxAt.set (BoxAt.set (BoxAt.set R2 0 (by simp) _) 1 (by simp) _) 2 (by simp) _) 3 (by simp) _) 4 (by simp) _) ?_
  intro W' hB RF
  exact bodyPost_ret (v := .agg #[.int .i64 d, .int .i64 s, .int .i64 vl, .int .i64 ty, .string body]) (result_box RF Try.results30 rfl Try.underlying37 rfl (by kernel_rfl)) rfl ⟨_, _, _, _, _, hok, rfl, hB⟩
/-- a datagram that can be built -/
def IpV (v : Value) : Prop := ∃ (tos id ttl pr si di : Int) (body : ByteArray), v = .agg #[.int .i64 tos, .int .i64 id, .int .i64 ttl, .int .i64 pr, .int .i64 si, .int .i64 di, .string body] ∧ P.ipOk tos id ttl pr si di body.size = true
theorem P.ipOk_mk {tos id ttl pr si di : Int} {n : Nat} (h1 : 0 ≤ tos ∧ tos ≤ 255) (h2 : 0 ≤ id ∧ id ≤ 65535) (h3 : 0 ≤ ttl ∧ ttl ≤ 255) (h4 : 0 ≤ pr ∧ pr ≤ 255) (h5 : 0 ≤ si ∧ si ≤ 4294967295) (h6 : 0 ≤ di ∧ di ≤ 4294967295) (hn : n ≤ 380) : P.ipOk tos id ttl pr si di n = true := by
  unfold P.ipOk
  exact decide_eq_true ⟨h1.1, h1.2, h3.1, h3.2, h4.1, h4.2, h2.1, h2.2, h5.1, h5.2, h6.1, h6.2, hn⟩
set_option maxHeartbeats 4000000 in
theorem c_l05Ip (c : Src) (b : Nat) (w : World) (hc : Cur c b w) :
    Calls Try.prog 57 #[.pointer (some ⟨b, 0, none⟩)] w (Drew c b w IpV) := by
  have hne : ¬ w.heap.size = b := by have := hc.old; omega
  go_enter Try.func57, Try.ntmps57
  have R0 := boxAt_alloc (n := w.heap.size) (w := w) (Nat.le_refl _) #[.int .i64 0, .int .i64 0, .int .i64 0, .int .i64 0, .int .i64 0, .int .i64 0, .string (P.bs [])] 47
  go_wp2_with fail
  refine (c_l01Below c b 256 _ (Cur.alloc hc _) (by omega)).mono ?_
  rintro e w1 ⟨v1, ⟨tos, rfl, htosa, htosb⟩, rfl, hb1, hc1⟩
  rw [if_neg (by omega)] at htosb
  go_wp2_with fail
  refine (c_l02Half c b _ hc1).mono ?_
  rintro e w2 ⟨v2, ⟨id, rfl, hid0, hid1⟩, rfl, hb2, hc2⟩
  go_wp2_with fail
  refine (c_l01PickInt c b w2.heap.size [0, 1, 64, 255] 4 rfl (by decide) (by decide) _ (by have := hc2.old; omega) (rowI_alloc w2 _ 3) (Cur.alloc hc2 _)).mono ?_
  rintro e w3 ⟨v3, ⟨ttl, httl, rfl⟩, rfl, hb3, hc3⟩
  have rttl : 0 ≤ ttl ∧ ttl ≤ 255 := by simp at httl; omega
  clear httl
  go_wp2_with fail
  refine (c_l01PickInt c b w3.heap.size [6, 17, 1, 255] 4 rfl (by decide) (by decide) _ (by have := hc3.old; omega) (rowI_alloc w3 _ 3) (Cur.alloc hc3 _)).mono ?_
  rintro e w4 ⟨v4, ⟨pr, hpr, rfl⟩, rfl, hb4, hc4⟩
  have rpr : 0 ≤ pr ∧ pr ≤ 255 := by simp at hpr; omega
  clear hpr
  go_wp2_with fail
  refine (c_l01Below c b 4 _ hc4 (by omega)).mono ?_
  rintro e w5 ⟨v5, ⟨si, rfl, hsia, hsib⟩, rfl, hb5, hc5⟩
  rw [if_neg (by omega)] at hsib
  go_wp2_with fail
  refine (c_l01Below c b 256 _ hc5 (by omega)).mono ?_
  rintro e w6 ⟨v6, ⟨di, rfl, hdia, hdib⟩, rfl, hb6, hc6⟩
  rw [if_neg (by omega)] at hdib
  go_wp2_with fail
  refine (c_l02Data c b _ hc6).mono ?_
  rintro e w7 ⟨v7, ⟨body, rfl, hbody⟩, rfl, hb7, hc7⟩
  have R7 := ((((((R0.bex hb1 hne).bex hb2 hne).alloc _).bex hb3 hne).alloc _).bex hb4 hne).bex hb5 hne |>.bex hb6 hne |>.bex hb7 hne
  have b7 : Bex b w w7 := (by repeat (first | with_reducible assumption | with_reducible exact Bex.refl _ _ | with_reducible refine Bex.alloc ?_ _ | with_reducible refine Bex.drew ?_ | with_reducible refine Bex.drewN ?_ _ | with_reducible refine Bex.own ?_ ?_ _ | with_reducible exact Nat.le_refl _ | (dsimp only; omega) | (refine Bex.trans ?_ (by with_reducible assumption)) | (refine Bex.of ?_ (by with_reducible assumption))))
  have hWz := hc7.new
  have hWo := hc.old
  have hcn := hc.new
  have hcb := hc.bel.size
  clear R0 hb1 hb2 hb3 hb4 hb5 hb6 hb7 hc1 hc2 hc3 hc4 hc5 hc6
  have r0 := R7.cell 0
  have r1 := R7.cell 1
  have r2 := R7.cell 2
  have r3 := R7.cell 3
  have r4 := R7.cell 4
  have r5 := R7.cell 5
  have r6 := R7.cell 6
  have hfr := R7.frozen
  have hzr := R7.old
  simp at r0 r1 r2 r3 r4 r5 r6
  go_wp2
  refine post_at (I := fun W => Bex b w W ∧ Cur c b W) ⟨(by repeat (first | with_reducible assumption | with_reducible exact Bex.refl _ _ | with_reducible refine Bex.alloc ?_ _ | with_reducible refine Bex.drew ?_ | with_reducible refine Bex.drewN ?_ _ | with_reducible refine Bex.own ?_ ?_ _ | with_reducible exact Nat.le_refl _ | (dsimp only; omega) | (refine Bex.trans ?_ (by with_reducible assumption)) | (refine Bex.of ?_ (by with_reducible assumption)))), (by repeat (first | with_reducible assumption | with_reducible refine Cur.alloc ?_ _ | with_reducible refine Cur.drew ?_ | with_reducible refine Cur.drewN ?_ _ | with_reducible refine Cur.other ?_ ?_ ?_ _ | (dsimp only; omega) | (refine Cur.next ?_ (by with_reducible assumption))))⟩ (BoxAt.set (BoxAt.set (BoxAt.set (BoxAt.set (BoxAt.set (BoxAt.set (BoxAt.set R7 0 (by simp) _) 1 (by simp) _) 2 (by simp) _) 3 (by simp) _) 4 (by simp) _) 5 (by simp) _) 6 (by simp) _) ?_
  rintro W ⟨hB, hC⟩ RF
  exact bodyPost_ret (v := .agg #[.int .i64 tos, .int .i64 id, .int .i64 ttl, .int .i64 pr, .int .i64 (167772160 + si), .int .i64 (167772160 + di), .string body]) (result_box RF Try.results57 rfl Try.underlying47 rfl (by kernel_rfl)) rfl ⟨_, ⟨_, _, _, _, _, _, _, rfl, P.ipOk_mk (by omega) (by omega) (by omega) (by omega) (by omega) (by omega) (by omega)⟩, rfl, hB, hC⟩
def DrewIp (w : World) (e : Ending) (w' : World) : Prop := ∃ (tos : Int) (id : Int) (ttl : Int) (pr : Int) (si : Int) (di : Int) (body : ByteArray), P.ipOk tos id ttl pr si di body.size = true ∧ e = .returned (.agg #[.int .i64 tos, .int .i64 id, .int .i64 ttl, .int .i64 pr, .int .i64 si, .int .i64 di, .string body]) ∧ Bel w w'
set_option maxHeartbeats 2000000 in
theorem c_DrawIp (W : World) (a : Option Addr) (len cap : Nat) (z : List Int) (w : World) (hrow : IsRow W a len cap z) (hsmall : len ≤ 1048576) (hW : Bel W w) :
    Calls Try.prog 36 #[.slice a len cap] w (DrewIp w) := by
  go_enter Try.func36, Try.ntmps36
  have R0 := boxAt_alloc (n := w.heap.size) (w := w) (Nat.le_refl _) #[.int .i64 0, .int .i64 0, .int .i64 0, .int .i64 0, .int .i64 0, .int .i64 0, .string (P.bs [])] 47
  go_wp2_with fail
  refine (c_l01New W a len cap z _ hrow hsmall (hW.alloc _)).mono ?_
  rintro e w0 ⟨b, rfl, hb0, hnb, hc0⟩
  simp at hnb
  have hne : ¬ w.heap.size = b := by omega
  have R1 := R0.bel hb0
  clear R0
  have q0 := R1.cell 0
  have q1 := R1.cell 1
  have q2 := R1.cell 2
  have q3 := R1.cell 3
  have q4 := R1.cell 4
  have q5 := R1.cell 5
  have q6 := R1.cell 6
  have hfq := R1.frozen
  have hzq := R1.old
  simp at q0 q1 q2 q3 q4 q5 q6
  go_wp2_with fail
  refine (c_l05Ip _ b _ hc0).mono ?_
  rintro e w1 ⟨v, ⟨tos, id, ttl, pr, si, di, body, rfl, hok⟩, rfl, hb1, hc1⟩
  clear q0 q1 q2 q3 q4 q5 q6 hfq hzq
  have R2 := R1.bex hb1 hne
  have hB1 : Bel w w1 := (((Bel.refl w).alloc _).trans hb0).bex hb1 (by omega)
  clear R1 hb0 hb1
  have r0 := R2.cell 0
  have r1 := R2.cell 1
  have r2 := R2.cell 2
  have r3 := R2.cell 3
  have r4 := R2.cell 4
  have r5 := R2.cell 5
  have r6 := R2.cell 6
  have hfr := R2.frozen
  have hzr := R2.old
  simp at r0 r1 r2 r3 r4 r5 r6
  go_wp2
  refine post_at (I := fun W' => Bel w W') (by repeat (first | with_reducible assumption | with_reducible exact Bel.refl _ | with_reducible refine Bel.alloc ?_ _ | with_reducible refine Bel.drew ?_ | with_reducible refine Bel.drewN ?_ _ | with_reducible refine Bel.setCell ?_ ?_ _ | with_reducible exact Nat.le_refl _ | (dsimp only; omega) | (refine Bel.trans ?_ (by with_reducible assumption)))) (BoxAt.set (BoxAt.set (BoxAt.set (BoxAt.set (BoxAt.set (BoxAt.set (BoxAt.set R2 0 (by simp) _) 1 (by simp) _) 2 (by simp) _) 3 (by simp) _) 4 (by simp) _) 5 (by simp) _) 6 (by simp) _) ?_
  intro W' hB RF
  exact bodyPost_ret (v := .agg #[.int .i64 tos, .int .i64 id, .int .i64 ttl, .int .i64 pr, .int .i64 si, .int .i64 di, .string body]) (result_box RF Try.results36 rfl Try.underlying47 rfl (by kernel_rfl)) rfl ⟨_, _, _, _, _, _, _, hok, rfl, hB⟩
end Go.Proofs.Ytnpnkkjdnmgbkaa
