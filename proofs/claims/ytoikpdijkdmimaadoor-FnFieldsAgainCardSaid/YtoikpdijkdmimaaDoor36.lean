/-
  The contract of the draw of a line. It says a length alone.
-/
import Derived.Test.YtoikpdijkdmimaaDoor22
namespace Go.Proofs.YtoikpdijkdmimaaDoor
open Go.RowKit
set_option linter.unusedVariables false

/-- one of a list's strings -/
def OneOfS (l : List ByteArray) (v : Value) : Prop := ∃ x, x ∈ l ∧ v = .string x
theorem rowS_alloc (w : World) (l : List ByteArray) (t : TypeId) : ∀ j (hj : j < l.length), (w.alloc (.cells (l.map Value.string).toArray t)).cell? ⟨w.heap.size, j, none⟩ = some (.string l[j]) := fun j hj => by
  rw [World.cell?_alloc_mark w _ t (0, 0) j]
  simp [List.getElem?_eq_getElem hj]
set_option maxHeartbeats 1000000 in
theorem c_l01Pick (c : Src) (b g : Nat) (l : List ByteArray) (n : Nat) (hn : n = l.length) (h0 : 0 < n) (hn2 : n ≤ 1000) (w : World) (hg : g ≠ b) (hl : ∀ j (hj : j < l.length), w.cell? ⟨g, j, none⟩ = some (.string l[j])) (hc : Cur c b w) :
    Calls Tryd.prog 28 #[.pointer (some ⟨b, 0, none⟩), .slice (some ⟨g, 0, none⟩) n n] w (Drew c b w (OneOfS l)) := by
  have HN := Lib.hid hn
  clear hn
  go_enter Tryd.func28, Tryd.ntmps28
  go_wp2_with fail
  refine (c_l01Below c b n _ hc (by omega)).mono ?_
  rintro e w1 ⟨v, ⟨x, rfl, hx0, hx1⟩, rfl, hb1, hc1⟩
  rw [if_neg (by omega)] at hx1
  obtain ⟨k, rfl⟩ := Int.eq_ofNat_of_zero_le hx0
  have hk : k < l.length := by have := HN.out; omega
  have hlt : (k : Int) < n := by omega
  have hgw : g < w.heap.size := World.block_lt_of_cell? _ _ (hl k hk)
  have hcell : w1.cell? ⟨g, k, none⟩ = some (.string l[k]) := (hb1.cell (p := ⟨g, k, none⟩) hgw hg).trans (hl k hk)
  have hmem : l[k] ∈ l := List.getElem_mem hk
  generalize l[k] = x at hcell hmem
  clear hl hk
  go_wp2
  go_ret
  exact ⟨_, ⟨_, hmem, rfl⟩, rfl, hb1, hc1⟩
set_option maxHeartbeats 4000000 in
theorem c_DrawSplitFields (W : World) (a : Option Addr) (len cap : Nat) (z : List Int) (w : World) (hrow : IsRow W a len cap z) (hsmall : len ≤ 1048576) (hW : Bel W w) :
    Calls Tryd.prog 15 #[.slice a len cap] w (DrewText 2000 w) := by
  go_enter Tryd.func15, Tryd.ntmps15
  go_wp2_with fail
  refine (c_l01New W a len cap z w hrow hsmall hW).mono ?_
  rintro e w0 ⟨b, rfl, hb0, hnb, hc0⟩
  go_wp2_with fail
  refine (c_l01Below _ b 9 _ hc0 (by omega)).mono ?_
  rintro e w1 ⟨v, ⟨n0, rfl, hn0, hn1⟩, rfl, hb1, hc1⟩
  rw [if_neg (by omega)] at hn1
  go_wp2_with fail
  refine (c_l01Once _ b 15 _ hc1 (by omega)).mono ?_
  rintro e w2 ⟨v, ⟨x, rfl⟩, rfl, hb2, hc2⟩
  cases x with
  | true =>
    go_wp2_with fail
    refine (c_l01Below _ b 2 _ hc2 (by omega)).mono ?_
    rintro e w3 ⟨v, ⟨n1, rfl, hna, hnb2⟩, rfl, hb3, hc3⟩
    rw [if_neg (by omega)] at hnb2
    obtain ⟨N1, rfl⟩ := Int.eq_ofNat_of_zero_le hna
    obtain ⟨N, hN⟩ : ∃ N : Nat, N = 24 + N1 := ⟨_, rfl⟩
    have hN1 : (24 : Int) + N1 = N := by omega
    have hN2 : N ≤ 25 := by omega
    clear hN hna hnb2
    have hbz : Bex b w0 w3 := (by repeat (first | with_reducible assumption | with_reducible exact Bex.refl _ _ | with_reducible refine Bex.alloc ?_ _ | with_reducible refine Bex.drew ?_ | with_reducible refine Bex.drewN ?_ _ | with_reducible refine Bex.set ?_ _ _ | (refine Bex.trans ?_ (by with_reducible assumption)) | (refine Bex.of ?_ (by with_reducible assumption))))
    have hcz := hc3
    clear hb1 hb2 hb3 hc1 hc2 hc3
    go_wp2
    go_loopw [5, 6, 7] (fun s i _ wr => ∃ (k : Nat) (t : ByteArray), s = .string t ∧ k ≤ N ∧ i = .int .i64 k ∧ t.size ≤ 8 * k ∧ Bex b w0 wr ∧ Cur ⟨W, a, len, cap, z⟩ b wr) (fun _ i _ _ => N - (intOf i).toNat)
    case atStart => exact ⟨0, ⟨#[]⟩, rfl, Nat.zero_le _, rfl, by decide, hbz, hcz⟩
    case round =>
      obtain ⟨k, t, rfl, hk, rfl, htz, hbk, hck⟩ := hrel
      obtain ⟨wo, rfl⟩ : ∃ wo : World, wo = wr := ⟨_, rfl⟩
      by_cases hlt : k < N
      · have h3 : (k : Int) < N := by omega
        by_cases hk0 : k = 0
        · have h4 : ¬ (0 : Int) < k := by omega
          clear hk0
          go_wp2_with fail
          refine (c_l01Once _ b 5 _ hck (by omega)).mono ?_
          rintro e wa ⟨v, ⟨x5, rfl⟩, rfl, hba, hca⟩
          cases x5 with
          | true =>
            have hbb : Bex b w0 wa := (by repeat (first | with_reducible assumption | with_reducible exact Bex.refl _ _ | with_reducible refine Bex.alloc ?_ _ | with_reducible refine Bex.drew ?_ | with_reducible refine Bex.drewN ?_ _ | with_reducible refine Bex.set ?_ _ _ | (refine Bex.trans ?_ (by with_reducible assumption)) | (refine Bex.of ?_ (by with_reducible assumption))))
            clear hbk hba hck
            go_wp2_with fail
            refine (c_l01Below _ b 2 _ hca (by omega)).mono ?_
            rintro e x1 ⟨v, ⟨y1, rfl, hya, hyb⟩, rfl, hbx1, hcx1⟩
            rw [if_neg (by omega)] at hyb
            go_wp2_with fail
            refine (c_l01Below _ b 3 _ hcx1 (by omega)).mono ?_
            rintro e x2 ⟨v, ⟨y2, rfl, hyc, hyd⟩, rfl, hbx2, hcx2⟩
            rw [if_neg (by omega)] at hyd
            obtain ⟨q, hq, hq2⟩ : ∃ q : Nat, y1 * y2 = (q : Int) ∧ q ≤ 2 := by
              have h1 : y1 = 0 ∨ y1 = 1 := by omega
              rcases h1 with rfl | rfl
              · exact ⟨0, by simp, by omega⟩
              · exact ⟨y2.toNat, by rw [Int.one_mul]; omega, by omega⟩
            have LL := Lib.hid (show ∀ w, Calls Tryd.prog 25 #[.int .i64 (1 + (q : Int)), .int .u8 32] w (fun e w' => e = .returned (.string (P.rep 32 (1 + q))) ∧ Bel w w') from fun w => by have := c_spec_l01Long (1 + q) 32 (by omega) (by omega) w; rwa [Int.natCast_add] at this)
            have hrs : (P.rep 32 (1 + q)).size = 1 + q := P.rep_size _ _
            have hrz : (t ++ P.rep 32 (1 + q)).size = t.size + (1 + q) := by rw [ByteArray.size_append, hrs]
            go_wp2_with fail
            refine (LL.out _).mono ?_
            rintro e x3 ⟨rfl, hbx3⟩
            have hbx4 : Bex b w0 x3 := (by repeat (first | with_reducible assumption | with_reducible exact Bex.refl _ _ | with_reducible refine Bex.alloc ?_ _ | with_reducible refine Bex.drew ?_ | with_reducible refine Bex.drewN ?_ _ | with_reducible refine Bex.set ?_ _ _ | (refine Bex.trans ?_ (by with_reducible assumption)) | (refine Bex.of ?_ (by with_reducible assumption))))
            have hcx4 : Cur ⟨W, a, len, cap, z⟩ b x3 := (by repeat (first | with_reducible assumption | with_reducible refine Cur.alloc ?_ _ | with_reducible refine Cur.drew ?_ | with_reducible refine Cur.drewN ?_ _ | (refine Cur.next ?_ (by with_reducible assumption))))
            clear hbx1 hcx1 hbx2 hcx2 hbx3 LL hq
            go_wp2
            go_loopw [5, 7] (fun s j wr => ∃ (m : Nat) (u : ByteArray), s = .string u ∧ m ≤ 5 ∧ j = .int .i64 m ∧ u.size ≤ 8 * k + 3 + m ∧ Bex b w0 wr ∧ Cur ⟨W, a, len, cap, z⟩ b wr) (fun _ j _ => 5 - (intOf j).toNat)
            case atStart => exact ⟨0, _, rfl, by omega, rfl, by omega, hbx4, hcx4⟩
            case round =>
              obtain ⟨m, u, rfl, hm, rfl, hu, hbm, hcm⟩ := hrel
              go_wp2_with fail
              refine (c_l01Below _ b 5 _ hcm (by omega)).mono ?_
              rintro e v1 ⟨v, ⟨y, rfl, hy0, hy1⟩, rfl, hbv1, hcv1⟩
              rw [if_neg (by omega)] at hy1
              by_cases hmy : (m : Int) ≤ y
              · go_wp2_with fail
                refine (c_l01Below _ b 94 _ hcv1 (by omega)).mono ?_
                rintro e v2 ⟨v, ⟨q2, rfl, hq0, hq1⟩, rfl, hbv2, hcv2⟩
                rw [if_neg (by omega)] at hq1
                have e8 : IntKind.u8.wrap (33 + q2) = 33 + q2 := IntWalk.u8_in _ (by omega)
                have hsz : (u ++ P.bs [P.by8 (33 + q2)]).size = u.size + 1 := by rw [ByteArray.size_append, P.bs_size]; rfl
                go_wp2
                go_roundw
                case rel => exact ⟨m + 1, _, rfl, by omega, by go_num, by omega, (by repeat (first | with_reducible assumption | with_reducible exact Bex.refl _ _ | with_reducible refine Bex.alloc ?_ _ | with_reducible refine Bex.drew ?_ | with_reducible refine Bex.drewN ?_ _ | with_reducible refine Bex.set ?_ _ _ | (refine Bex.trans ?_ (by with_reducible assumption)) | (refine Bex.of ?_ (by with_reducible assumption)))), (by repeat (first | with_reducible assumption | with_reducible refine Cur.alloc ?_ _ | with_reducible refine Cur.drew ?_ | with_reducible refine Cur.drewN ?_ _ | (refine Cur.next ?_ (by with_reducible assumption))))⟩
                case measure => simp [intOf]; omega
              · go_wp2
                go_roundw
                case rel => exact ⟨k + 1, u, rfl, by omega, by go_num, by omega, (by repeat (first | with_reducible assumption | with_reducible exact Bex.refl _ _ | with_reducible refine Bex.alloc ?_ _ | with_reducible refine Bex.drew ?_ | with_reducible refine Bex.drewN ?_ _ | with_reducible refine Bex.set ?_ _ _ | (refine Bex.trans ?_ (by with_reducible assumption)) | (refine Bex.of ?_ (by with_reducible assumption)))), (by repeat (first | with_reducible assumption | with_reducible refine Cur.alloc ?_ _ | with_reducible refine Cur.drew ?_ | with_reducible refine Cur.drewN ?_ _ | (refine Cur.next ?_ (by with_reducible assumption))))⟩
                case measure => simp [intOf]; omega
          | false =>
            have hbb : Bex b w0 wa := (by repeat (first | with_reducible assumption | with_reducible exact Bex.refl _ _ | with_reducible refine Bex.alloc ?_ _ | with_reducible refine Bex.drew ?_ | with_reducible refine Bex.drewN ?_ _ | with_reducible refine Bex.set ?_ _ _ | (refine Bex.trans ?_ (by with_reducible assumption)) | (refine Bex.of ?_ (by with_reducible assumption))))
            clear hbk hba hck
            go_wp2
            go_loopw [5, 7] (fun s j wr => ∃ (m : Nat) (u : ByteArray), s = .string u ∧ m ≤ 5 ∧ j = .int .i64 m ∧ u.size ≤ 8 * k + 3 + m ∧ Bex b w0 wr ∧ Cur ⟨W, a, len, cap, z⟩ b wr) (fun _ j _ => 5 - (intOf j).toNat)
            case atStart => exact ⟨0, _, rfl, by omega, rfl, by omega, hbb, hca⟩
            case round =>
              obtain ⟨m, u, rfl, hm, rfl, hu, hbm, hcm⟩ := hrel
              go_wp2_with fail
              refine (c_l01Below _ b 5 _ hcm (by omega)).mono ?_
              rintro e v1 ⟨v, ⟨y, rfl, hy0, hy1⟩, rfl, hbv1, hcv1⟩
              rw [if_neg (by omega)] at hy1
              by_cases hmy : (m : Int) ≤ y
              · go_wp2_with fail
                refine (c_l01Below _ b 94 _ hcv1 (by omega)).mono ?_
                rintro e v2 ⟨v, ⟨q2, rfl, hq0, hq1⟩, rfl, hbv2, hcv2⟩
                rw [if_neg (by omega)] at hq1
                have e8 : IntKind.u8.wrap (33 + q2) = 33 + q2 := IntWalk.u8_in _ (by omega)
                have hsz : (u ++ P.bs [P.by8 (33 + q2)]).size = u.size + 1 := by rw [ByteArray.size_append, P.bs_size]; rfl
                go_wp2
                go_roundw
                case rel => exact ⟨m + 1, _, rfl, by omega, by go_num, by omega, (by repeat (first | with_reducible assumption | with_reducible exact Bex.refl _ _ | with_reducible refine Bex.alloc ?_ _ | with_reducible refine Bex.drew ?_ | with_reducible refine Bex.drewN ?_ _ | with_reducible refine Bex.set ?_ _ _ | (refine Bex.trans ?_ (by with_reducible assumption)) | (refine Bex.of ?_ (by with_reducible assumption)))), (by repeat (first | with_reducible assumption | with_reducible refine Cur.alloc ?_ _ | with_reducible refine Cur.drew ?_ | with_reducible refine Cur.drewN ?_ _ | (refine Cur.next ?_ (by with_reducible assumption))))⟩
                case measure => simp [intOf]; omega
              · go_wp2
                go_roundw
                case rel => exact ⟨k + 1, u, rfl, by omega, by go_num, by omega, (by repeat (first | with_reducible assumption | with_reducible exact Bex.refl _ _ | with_reducible refine Bex.alloc ?_ _ | with_reducible refine Bex.drew ?_ | with_reducible refine Bex.drewN ?_ _ | with_reducible refine Bex.set ?_ _ _ | (refine Bex.trans ?_ (by with_reducible assumption)) | (refine Bex.of ?_ (by with_reducible assumption)))), (by repeat (first | with_reducible assumption | with_reducible refine Cur.alloc ?_ _ | with_reducible refine Cur.drew ?_ | with_reducible refine Cur.drewN ?_ _ | (refine Cur.next ?_ (by with_reducible assumption))))⟩
                case measure => simp [intOf]; omega
        · have h4 : (0 : Int) < k := by omega
          clear hk0
          go_wp2_with fail
          refine (c_l01Below _ b 2 _ hck (by omega)).mono ?_
          rintro e x1 ⟨v, ⟨y1, rfl, hya, hyb⟩, rfl, hbx1, hcx1⟩
          rw [if_neg (by omega)] at hyb
          go_wp2_with fail
          refine (c_l01Below _ b 3 _ hcx1 (by omega)).mono ?_
          rintro e x2 ⟨v, ⟨y2, rfl, hyc, hyd⟩, rfl, hbx2, hcx2⟩
          rw [if_neg (by omega)] at hyd
          obtain ⟨q, hq, hq2⟩ : ∃ q : Nat, y1 * y2 = (q : Int) ∧ q ≤ 2 := by
            have h1 : y1 = 0 ∨ y1 = 1 := by omega
            rcases h1 with rfl | rfl
            · exact ⟨0, by simp, by omega⟩
            · exact ⟨y2.toNat, by rw [Int.one_mul]; omega, by omega⟩
          have LL := Lib.hid (show ∀ w, Calls Tryd.prog 25 #[.int .i64 (1 + (q : Int)), .int .u8 32] w (fun e w' => e = .returned (.string (P.rep 32 (1 + q))) ∧ Bel w w') from fun w => by have := c_spec_l01Long (1 + q) 32 (by omega) (by omega) w; rwa [Int.natCast_add] at this)
          have hrs : (P.rep 32 (1 + q)).size = 1 + q := P.rep_size _ _
          have hrz : (t ++ P.rep 32 (1 + q)).size = t.size + (1 + q) := by rw [ByteArray.size_append, hrs]
          go_wp2_with fail
          refine (LL.out _).mono ?_
          rintro e x3 ⟨rfl, hbx3⟩
          have hbx4 : Bex b w0 x3 := (by repeat (first | with_reducible assumption | with_reducible exact Bex.refl _ _ | with_reducible refine Bex.alloc ?_ _ | with_reducible refine Bex.drew ?_ | with_reducible refine Bex.drewN ?_ _ | with_reducible refine Bex.set ?_ _ _ | (refine Bex.trans ?_ (by with_reducible assumption)) | (refine Bex.of ?_ (by with_reducible assumption))))
          have hcx4 : Cur ⟨W, a, len, cap, z⟩ b x3 := (by repeat (first | with_reducible assumption | with_reducible refine Cur.alloc ?_ _ | with_reducible refine Cur.drew ?_ | with_reducible refine Cur.drewN ?_ _ | (refine Cur.next ?_ (by with_reducible assumption))))
          clear hbx1 hcx1 hbx2 hcx2 hbx3 LL hq
          go_wp2
          go_loopw [5, 7] (fun s j wr => ∃ (m : Nat) (u : ByteArray), s = .string u ∧ m ≤ 5 ∧ j = .int .i64 m ∧ u.size ≤ 8 * k + 3 + m ∧ Bex b w0 wr ∧ Cur ⟨W, a, len, cap, z⟩ b wr) (fun _ j _ => 5 - (intOf j).toNat)
          case atStart => exact ⟨0, _, rfl, by omega, rfl, by omega, hbx4, hcx4⟩
          case round =>
            obtain ⟨m, u, rfl, hm, rfl, hu, hbm, hcm⟩ := hrel
            go_wp2_with fail
            refine (c_l01Below _ b 5 _ hcm (by omega)).mono ?_
            rintro e v1 ⟨v, ⟨y, rfl, hy0, hy1⟩, rfl, hbv1, hcv1⟩
            rw [if_neg (by omega)] at hy1
            by_cases hmy : (m : Int) ≤ y
            · go_wp2_with fail
              refine (c_l01Below _ b 94 _ hcv1 (by omega)).mono ?_
              rintro e v2 ⟨v, ⟨q2, rfl, hq0, hq1⟩, rfl, hbv2, hcv2⟩
              rw [if_neg (by omega)] at hq1
              have e8 : IntKind.u8.wrap (33 + q2) = 33 + q2 := IntWalk.u8_in _ (by omega)
              have hsz : (u ++ P.bs [P.by8 (33 + q2)]).size = u.size + 1 := by rw [ByteArray.size_append, P.bs_size]; rfl
              go_wp2
              go_roundw
              case rel => exact ⟨m + 1, _, rfl, by omega, by go_num, by omega, (by repeat (first | with_reducible assumption | with_reducible exact Bex.refl _ _ | with_reducible refine Bex.alloc ?_ _ | with_reducible refine Bex.drew ?_ | with_reducible refine Bex.drewN ?_ _ | with_reducible refine Bex.set ?_ _ _ | (refine Bex.trans ?_ (by with_reducible assumption)) | (refine Bex.of ?_ (by with_reducible assumption)))), (by repeat (first | with_reducible assumption | with_reducible refine Cur.alloc ?_ _ | with_reducible refine Cur.drew ?_ | with_reducible refine Cur.drewN ?_ _ | (refine Cur.next ?_ (by with_reducible assumption))))⟩
              case measure => simp [intOf]; omega
            · go_wp2
              go_roundw
              case rel => exact ⟨k + 1, u, rfl, by omega, by go_num, by omega, (by repeat (first | with_reducible assumption | with_reducible exact Bex.refl _ _ | with_reducible refine Bex.alloc ?_ _ | with_reducible refine Bex.drew ?_ | with_reducible refine Bex.drewN ?_ _ | with_reducible refine Bex.set ?_ _ _ | (refine Bex.trans ?_ (by with_reducible assumption)) | (refine Bex.of ?_ (by with_reducible assumption)))), (by repeat (first | with_reducible assumption | with_reducible refine Cur.alloc ?_ _ | with_reducible refine Cur.drew ?_ | with_reducible refine Cur.drewN ?_ _ | (refine Cur.next ?_ (by with_reducible assumption))))⟩
              case measure => simp [intOf]; omega
      · obtain rfl : k = N := by omega
        go_wp2_with fail
        refine (c_l01Below _ b 12 _ hck (by omega)).mono ?_
        rintro e y1 ⟨v, ⟨d, rfl, hd0, hd1⟩, rfl, hby1, hcy1⟩
        rw [if_neg (by omega)] at hd1
        have hby : Bex b w0 y1 := (by repeat (first | with_reducible assumption | with_reducible exact Bex.refl _ _ | with_reducible refine Bex.alloc ?_ _ | with_reducible refine Bex.drew ?_ | with_reducible refine Bex.drewN ?_ _ | with_reducible refine Bex.set ?_ _ _ | (refine Bex.trans ?_ (by with_reducible assumption)) | (refine Bex.of ?_ (by with_reducible assumption))))
        clear hbk hby1 hck
        by_cases d0 : d = 0
        · subst d0
          go_wp2_with fail
          refine (c_l01Pick _ b y1.heap.size [⟨#[32]⟩, ⟨#[32, 32]⟩, ⟨#[9]⟩, ⟨#[10]⟩, ⟨#[127]⟩, ⟨#[233]⟩] 6 rfl (by decide) (by decide) _ (by have := hcy1.old; omega) (rowS_alloc y1 _ 9) (Cur.alloc hcy1 _)).mono ?_
          rintro e y2 ⟨v, ⟨x, hx, rfl⟩, rfl, hby2, hcy2⟩
          have hxs : x.size ≤ 2 := by
            simp only [List.mem_cons, List.not_mem_nil, or_false] at hx
            rcases hx with rfl | rfl | rfl | rfl | rfl | rfl <;> decide
          have hsz : (t ++ x).size = t.size + x.size := ByteArray.size_append
          clear hx
          go_wp2
          go_ret
          exact ⟨_, by omega, rfl, hb0.bex (w' := y2) (b := b) (by repeat (first | with_reducible assumption | with_reducible exact Bex.refl _ _ | with_reducible refine Bex.alloc ?_ _ | with_reducible refine Bex.drew ?_ | with_reducible refine Bex.drewN ?_ _ | with_reducible refine Bex.set ?_ _ _ | (refine Bex.trans ?_ (by with_reducible assumption)) | (refine Bex.of ?_ (by with_reducible assumption)))) hnb⟩
        · have e0 : (d == 0) = false := beq_eq_false_iff_ne.2 d0
          by_cases d1 : d = 1
          · subst d1
            have hts : (t.size : Int) < 600 := by omega
            go_wp2_with fail
            refine (c_l01Below _ b 2 _ hcy1 (by omega)).mono ?_
            rintro e y2 ⟨v, ⟨f, rfl, hf0, hf1⟩, rfl, hby2, hcy2⟩
            rw [if_neg (by omega)] at hf1
            obtain ⟨m, hm⟩ : ∃ m : Nat, m = 600 - t.size + f.toNat := ⟨_, rfl⟩
            have hm2 : (600 : Int) - t.size + f = m := by omega
            have hm3 : m ≤ 601 := by omega
            have LL := Lib.hid (c_spec_l01Long m 32 (by omega) (by omega))
            have hrs : (P.rep 32 m).size = m := P.rep_size _ _
            have hrz : (t ++ P.rep 32 m).size = t.size + m := by rw [ByteArray.size_append, hrs]
            clear hm
            go_wp2_with fail
            refine (LL.out _).mono ?_
            rintro e y3 ⟨rfl, hby3⟩
            go_wp2
            go_ret
            exact ⟨_, by omega, rfl, hb0.bex (w' := y3) (b := b) (by repeat (first | with_reducible assumption | with_reducible exact Bex.refl _ _ | with_reducible refine Bex.alloc ?_ _ | with_reducible refine Bex.drew ?_ | with_reducible refine Bex.drewN ?_ _ | with_reducible refine Bex.set ?_ _ _ | (refine Bex.trans ?_ (by with_reducible assumption)) | (refine Bex.of ?_ (by with_reducible assumption)))) hnb⟩
          · have e1 : (d == 1) = false := beq_eq_false_iff_ne.2 d1
            go_wp2
            go_ret
            exact ⟨_, by omega, rfl, hb0.bex (w' := y1) (b := b) (by repeat (first | with_reducible assumption | with_reducible exact Bex.refl _ _ | with_reducible refine Bex.alloc ?_ _ | with_reducible refine Bex.drew ?_ | with_reducible refine Bex.drewN ?_ _ | with_reducible refine Bex.set ?_ _ _ | (refine Bex.trans ?_ (by with_reducible assumption)) | (refine Bex.of ?_ (by with_reducible assumption)))) hnb⟩
  | false =>
    obtain ⟨N, rfl⟩ := Int.eq_ofNat_of_zero_le hn0
    have hN2 : N ≤ 25 := by omega
    have hbz : Bex b w0 w2 := (by repeat (first | with_reducible assumption | with_reducible exact Bex.refl _ _ | with_reducible refine Bex.alloc ?_ _ | with_reducible refine Bex.drew ?_ | with_reducible refine Bex.drewN ?_ _ | with_reducible refine Bex.set ?_ _ _ | (refine Bex.trans ?_ (by with_reducible assumption)) | (refine Bex.of ?_ (by with_reducible assumption))))
    have hcz := hc2
    clear hb1 hb2 hc1 hc2
    go_wp2
    go_loopw [5, 6, 7] (fun s i _ wr => ∃ (k : Nat) (t : ByteArray), s = .string t ∧ k ≤ N ∧ i = .int .i64 k ∧ t.size ≤ 8 * k ∧ Bex b w0 wr ∧ Cur ⟨W, a, len, cap, z⟩ b wr) (fun _ i _ _ => N - (intOf i).toNat)
    case atStart => exact ⟨0, ⟨#[]⟩, rfl, Nat.zero_le _, rfl, by decide, hbz, hcz⟩
    case round =>
      obtain ⟨k, t, rfl, hk, rfl, htz, hbk, hck⟩ := hrel
      obtain ⟨wo, rfl⟩ : ∃ wo : World, wo = wr := ⟨_, rfl⟩
      by_cases hlt : k < N
      · have h3 : (k : Int) < N := by omega
        by_cases hk0 : k = 0
        · have h4 : ¬ (0 : Int) < k := by omega
          clear hk0
          go_wp2_with fail
          refine (c_l01Once _ b 5 _ hck (by omega)).mono ?_
          rintro e wa ⟨v, ⟨x5, rfl⟩, rfl, hba, hca⟩
          cases x5 with
          | true =>
            have hbb : Bex b w0 wa := (by repeat (first | with_reducible assumption | with_reducible exact Bex.refl _ _ | with_reducible refine Bex.alloc ?_ _ | with_reducible refine Bex.drew ?_ | with_reducible refine Bex.drewN ?_ _ | with_reducible refine Bex.set ?_ _ _ | (refine Bex.trans ?_ (by with_reducible assumption)) | (refine Bex.of ?_ (by with_reducible assumption))))
            clear hbk hba hck
            go_wp2_with fail
            refine (c_l01Below _ b 2 _ hca (by omega)).mono ?_
            rintro e x1 ⟨v, ⟨y1, rfl, hya, hyb⟩, rfl, hbx1, hcx1⟩
            rw [if_neg (by omega)] at hyb
            go_wp2_with fail
            refine (c_l01Below _ b 3 _ hcx1 (by omega)).mono ?_
            rintro e x2 ⟨v, ⟨y2, rfl, hyc, hyd⟩, rfl, hbx2, hcx2⟩
            rw [if_neg (by omega)] at hyd
            obtain ⟨q, hq, hq2⟩ : ∃ q : Nat, y1 * y2 = (q : Int) ∧ q ≤ 2 := by
              have h1 : y1 = 0 ∨ y1 = 1 := by omega
              rcases h1 with rfl | rfl
              · exact ⟨0, by simp, by omega⟩
              · exact ⟨y2.toNat, by rw [Int.one_mul]; omega, by omega⟩
            have LL := Lib.hid (show ∀ w, Calls Tryd.prog 25 #[.int .i64 (1 + (q : Int)), .int .u8 32] w (fun e w' => e = .returned (.string (P.rep 32 (1 + q))) ∧ Bel w w') from fun w => by have := c_spec_l01Long (1 + q) 32 (by omega) (by omega) w; rwa [Int.natCast_add] at this)
            have hrs : (P.rep 32 (1 + q)).size = 1 + q := P.rep_size _ _
            have hrz : (t ++ P.rep 32 (1 + q)).size = t.size + (1 + q) := by rw [ByteArray.size_append, hrs]
            go_wp2_with fail
            refine (LL.out _).mono ?_
            rintro e x3 ⟨rfl, hbx3⟩
            have hbx4 : Bex b w0 x3 := (by repeat (first | with_reducible assumption | with_reducible exact Bex.refl _ _ | with_reducible refine Bex.alloc ?_ _ | with_reducible refine Bex.drew ?_ | with_reducible refine Bex.drewN ?_ _ | with_reducible refine Bex.set ?_ _ _ | (refine Bex.trans ?_ (by with_reducible assumption)) | (refine Bex.of ?_ (by with_reducible assumption))))
            have hcx4 : Cur ⟨W, a, len, cap, z⟩ b x3 := (by repeat (first | with_reducible assumption | with_reducible refine Cur.alloc ?_ _ | with_reducible refine Cur.drew ?_ | with_reducible refine Cur.drewN ?_ _ | (refine Cur.next ?_ (by with_reducible assumption))))
            clear hbx1 hcx1 hbx2 hcx2 hbx3 LL hq
            go_wp2
            go_loopw [5, 7] (fun s j wr => ∃ (m : Nat) (u : ByteArray), s = .string u ∧ m ≤ 5 ∧ j = .int .i64 m ∧ u.size ≤ 8 * k + 3 + m ∧ Bex b w0 wr ∧ Cur ⟨W, a, len, cap, z⟩ b wr) (fun _ j _ => 5 - (intOf j).toNat)
            case atStart => exact ⟨0, _, rfl, by omega, rfl, by omega, hbx4, hcx4⟩
            case round =>
              obtain ⟨m, u, rfl, hm, rfl, hu, hbm, hcm⟩ := hrel
              go_wp2_with fail
              refine (c_l01Below _ b 5 _ hcm (by omega)).mono ?_
              rintro e v1 ⟨v, ⟨y, rfl, hy0, hy1⟩, rfl, hbv1, hcv1⟩
              rw [if_neg (by omega)] at hy1
              by_cases hmy : (m : Int) ≤ y
              · go_wp2_with fail
                refine (c_l01Below _ b 94 _ hcv1 (by omega)).mono ?_
                rintro e v2 ⟨v, ⟨q2, rfl, hq0, hq1⟩, rfl, hbv2, hcv2⟩
                rw [if_neg (by omega)] at hq1
                have e8 : IntKind.u8.wrap (33 + q2) = 33 + q2 := IntWalk.u8_in _ (by omega)
                have hsz : (u ++ P.bs [P.by8 (33 + q2)]).size = u.size + 1 := by rw [ByteArray.size_append, P.bs_size]; rfl
                go_wp2
                go_roundw
                case rel => exact ⟨m + 1, _, rfl, by omega, by go_num, by omega, (by repeat (first | with_reducible assumption | with_reducible exact Bex.refl _ _ | with_reducible refine Bex.alloc ?_ _ | with_reducible refine Bex.drew ?_ | with_reducible refine Bex.drewN ?_ _ | with_reducible refine Bex.set ?_ _ _ | (refine Bex.trans ?_ (by with_reducible assumption)) | (refine Bex.of ?_ (by with_reducible assumption)))), (by repeat (first | with_reducible assumption | with_reducible refine Cur.alloc ?_ _ | with_reducible refine Cur.drew ?_ | with_reducible refine Cur.drewN ?_ _ | (refine Cur.next ?_ (by with_reducible assumption))))⟩
                case measure => simp [intOf]; omega
              · go_wp2
                go_roundw
                case rel => exact ⟨k + 1, u, rfl, by omega, by go_num, by omega, (by repeat (first | with_reducible assumption | with_reducible exact Bex.refl _ _ | with_reducible refine Bex.alloc ?_ _ | with_reducible refine Bex.drew ?_ | with_reducible refine Bex.drewN ?_ _ | with_reducible refine Bex.set ?_ _ _ | (refine Bex.trans ?_ (by with_reducible assumption)) | (refine Bex.of ?_ (by with_reducible assumption)))), (by repeat (first | with_reducible assumption | with_reducible refine Cur.alloc ?_ _ | with_reducible refine Cur.drew ?_ | with_reducible refine Cur.drewN ?_ _ | (refine Cur.next ?_ (by with_reducible assumption))))⟩
                case measure => simp [intOf]; omega
          | false =>
            have hbb : Bex b w0 wa := (by repeat (first | with_reducible assumption | with_reducible exact Bex.refl _ _ | with_reducible refine Bex.alloc ?_ _ | with_reducible refine Bex.drew ?_ | with_reducible refine Bex.drewN ?_ _ | with_reducible refine Bex.set ?_ _ _ | (refine Bex.trans ?_ (by with_reducible assumption)) | (refine Bex.of ?_ (by with_reducible assumption))))
            clear hbk hba hck
            go_wp2
            go_loopw [5, 7] (fun s j wr => ∃ (m : Nat) (u : ByteArray), s = .string u ∧ m ≤ 5 ∧ j = .int .i64 m ∧ u.size ≤ 8 * k + 3 + m ∧ Bex b w0 wr ∧ Cur ⟨W, a, len, cap, z⟩ b wr) (fun _ j _ => 5 - (intOf j).toNat)
            case atStart => exact ⟨0, _, rfl, by omega, rfl, by omega, hbb, hca⟩
            case round =>
              obtain ⟨m, u, rfl, hm, rfl, hu, hbm, hcm⟩ := hrel
              go_wp2_with fail
              refine (c_l01Below _ b 5 _ hcm (by omega)).mono ?_
              rintro e v1 ⟨v, ⟨y, rfl, hy0, hy1⟩, rfl, hbv1, hcv1⟩
              rw [if_neg (by omega)] at hy1
              by_cases hmy : (m : Int) ≤ y
              · go_wp2_with fail
                refine (c_l01Below _ b 94 _ hcv1 (by omega)).mono ?_
                rintro e v2 ⟨v, ⟨q2, rfl, hq0, hq1⟩, rfl, hbv2, hcv2⟩
                rw [if_neg (by omega)] at hq1
                have e8 : IntKind.u8.wrap (33 + q2) = 33 + q2 := IntWalk.u8_in _ (by omega)
                have hsz : (u ++ P.bs [P.by8 (33 + q2)]).size = u.size + 1 := by rw [ByteArray.size_append, P.bs_size]; rfl
                go_wp2
                go_roundw
                case rel => exact ⟨m + 1, _, rfl, by omega, by go_num, by omega, (by repeat (first | with_reducible assumption | with_reducible exact Bex.refl _ _ | with_reducible refine Bex.alloc ?_ _ | with_reducible refine Bex.drew ?_ | with_reducible refine Bex.drewN ?_ _ | with_reducible refine Bex.set ?_ _ _ | (refine Bex.trans ?_ (by with_reducible assumption)) | (refine Bex.of ?_ (by with_reducible assumption)))), (by repeat (first | with_reducible assumption | with_reducible refine Cur.alloc ?_ _ | with_reducible refine Cur.drew ?_ | with_reducible refine Cur.drewN ?_ _ | (refine Cur.next ?_ (by with_reducible assumption))))⟩
                case measure => simp [intOf]; omega
              · go_wp2
                go_roundw
                case rel => exact ⟨k + 1, u, rfl, by omega, by go_num, by omega, (by repeat (first | with_reducible assumption | with_reducible exact Bex.refl _ _ | with_reducible refine Bex.alloc ?_ _ | with_reducible refine Bex.drew ?_ | with_reducible refine Bex.drewN ?_ _ | with_reducible refine Bex.set ?_ _ _ | (refine Bex.trans ?_ (by with_reducible assumption)) | (refine Bex.of ?_ (by with_reducible assumption)))), (by repeat (first | with_reducible assumption | with_reducible refine Cur.alloc ?_ _ | with_reducible refine Cur.drew ?_ | with_reducible refine Cur.drewN ?_ _ | (refine Cur.next ?_ (by with_reducible assumption))))⟩
                case measure => simp [intOf]; omega
        · have h4 : (0 : Int) < k := by omega
          clear hk0
          go_wp2_with fail
          refine (c_l01Below _ b 2 _ hck (by omega)).mono ?_
          rintro e x1 ⟨v, ⟨y1, rfl, hya, hyb⟩, rfl, hbx1, hcx1⟩
          rw [if_neg (by omega)] at hyb
          go_wp2_with fail
          refine (c_l01Below _ b 3 _ hcx1 (by omega)).mono ?_
          rintro e x2 ⟨v, ⟨y2, rfl, hyc, hyd⟩, rfl, hbx2, hcx2⟩
          rw [if_neg (by omega)] at hyd
          obtain ⟨q, hq, hq2⟩ : ∃ q : Nat, y1 * y2 = (q : Int) ∧ q ≤ 2 := by
            have h1 : y1 = 0 ∨ y1 = 1 := by omega
            rcases h1 with rfl | rfl
            · exact ⟨0, by simp, by omega⟩
            · exact ⟨y2.toNat, by rw [Int.one_mul]; omega, by omega⟩
          have LL := Lib.hid (show ∀ w, Calls Tryd.prog 25 #[.int .i64 (1 + (q : Int)), .int .u8 32] w (fun e w' => e = .returned (.string (P.rep 32 (1 + q))) ∧ Bel w w') from fun w => by have := c_spec_l01Long (1 + q) 32 (by omega) (by omega) w; rwa [Int.natCast_add] at this)
          have hrs : (P.rep 32 (1 + q)).size = 1 + q := P.rep_size _ _
          have hrz : (t ++ P.rep 32 (1 + q)).size = t.size + (1 + q) := by rw [ByteArray.size_append, hrs]
          go_wp2_with fail
          refine (LL.out _).mono ?_
          rintro e x3 ⟨rfl, hbx3⟩
          have hbx4 : Bex b w0 x3 := (by repeat (first | with_reducible assumption | with_reducible exact Bex.refl _ _ | with_reducible refine Bex.alloc ?_ _ | with_reducible refine Bex.drew ?_ | with_reducible refine Bex.drewN ?_ _ | with_reducible refine Bex.set ?_ _ _ | (refine Bex.trans ?_ (by with_reducible assumption)) | (refine Bex.of ?_ (by with_reducible assumption))))
          have hcx4 : Cur ⟨W, a, len, cap, z⟩ b x3 := (by repeat (first | with_reducible assumption | with_reducible refine Cur.alloc ?_ _ | with_reducible refine Cur.drew ?_ | with_reducible refine Cur.drewN ?_ _ | (refine Cur.next ?_ (by with_reducible assumption))))
          clear hbx1 hcx1 hbx2 hcx2 hbx3 LL hq
          go_wp2
          go_loopw [5, 7] (fun s j wr => ∃ (m : Nat) (u : ByteArray), s = .string u ∧ m ≤ 5 ∧ j = .int .i64 m ∧ u.size ≤ 8 * k + 3 + m ∧ Bex b w0 wr ∧ Cur ⟨W, a, len, cap, z⟩ b wr) (fun _ j _ => 5 - (intOf j).toNat)
          case atStart => exact ⟨0, _, rfl, by omega, rfl, by omega, hbx4, hcx4⟩
          case round =>
            obtain ⟨m, u, rfl, hm, rfl, hu, hbm, hcm⟩ := hrel
            go_wp2_with fail
            refine (c_l01Below _ b 5 _ hcm (by omega)).mono ?_
            rintro e v1 ⟨v, ⟨y, rfl, hy0, hy1⟩, rfl, hbv1, hcv1⟩
            rw [if_neg (by omega)] at hy1
            by_cases hmy : (m : Int) ≤ y
            · go_wp2_with fail
              refine (c_l01Below _ b 94 _ hcv1 (by omega)).mono ?_
              rintro e v2 ⟨v, ⟨q2, rfl, hq0, hq1⟩, rfl, hbv2, hcv2⟩
              rw [if_neg (by omega)] at hq1
              have e8 : IntKind.u8.wrap (33 + q2) = 33 + q2 := IntWalk.u8_in _ (by omega)
              have hsz : (u ++ P.bs [P.by8 (33 + q2)]).size = u.size + 1 := by rw [ByteArray.size_append, P.bs_size]; rfl
              go_wp2
              go_roundw
              case rel => exact ⟨m + 1, _, rfl, by omega, by go_num, by omega, (by repeat (first | with_reducible assumption | with_reducible exact Bex.refl _ _ | with_reducible refine Bex.alloc ?_ _ | with_reducible refine Bex.drew ?_ | with_reducible refine Bex.drewN ?_ _ | with_reducible refine Bex.set ?_ _ _ | (refine Bex.trans ?_ (by with_reducible assumption)) | (refine Bex.of ?_ (by with_reducible assumption)))), (by repeat (first | with_reducible assumption | with_reducible refine Cur.alloc ?_ _ | with_reducible refine Cur.drew ?_ | with_reducible refine Cur.drewN ?_ _ | (refine Cur.next ?_ (by with_reducible assumption))))⟩
              case measure => simp [intOf]; omega
            · go_wp2
              go_roundw
              case rel => exact ⟨k + 1, u, rfl, by omega, by go_num, by omega, (by repeat (first | with_reducible assumption | with_reducible exact Bex.refl _ _ | with_reducible refine Bex.alloc ?_ _ | with_reducible refine Bex.drew ?_ | with_reducible refine Bex.drewN ?_ _ | with_reducible refine Bex.set ?_ _ _ | (refine Bex.trans ?_ (by with_reducible assumption)) | (refine Bex.of ?_ (by with_reducible assumption)))), (by repeat (first | with_reducible assumption | with_reducible refine Cur.alloc ?_ _ | with_reducible refine Cur.drew ?_ | with_reducible refine Cur.drewN ?_ _ | (refine Cur.next ?_ (by with_reducible assumption))))⟩
              case measure => simp [intOf]; omega
      · obtain rfl : k = N := by omega
        go_wp2_with fail
        refine (c_l01Below _ b 12 _ hck (by omega)).mono ?_
        rintro e y1 ⟨v, ⟨d, rfl, hd0, hd1⟩, rfl, hby1, hcy1⟩
        rw [if_neg (by omega)] at hd1
        have hby : Bex b w0 y1 := (by repeat (first | with_reducible assumption | with_reducible exact Bex.refl _ _ | with_reducible refine Bex.alloc ?_ _ | with_reducible refine Bex.drew ?_ | with_reducible refine Bex.drewN ?_ _ | with_reducible refine Bex.set ?_ _ _ | (refine Bex.trans ?_ (by with_reducible assumption)) | (refine Bex.of ?_ (by with_reducible assumption))))
        clear hbk hby1 hck
        by_cases d0 : d = 0
        · subst d0
          go_wp2_with fail
          refine (c_l01Pick _ b y1.heap.size [⟨#[32]⟩, ⟨#[32, 32]⟩, ⟨#[9]⟩, ⟨#[10]⟩, ⟨#[127]⟩, ⟨#[233]⟩] 6 rfl (by decide) (by decide) _ (by have := hcy1.old; omega) (rowS_alloc y1 _ 9) (Cur.alloc hcy1 _)).mono ?_
          rintro e y2 ⟨v, ⟨x, hx, rfl⟩, rfl, hby2, hcy2⟩
          have hxs : x.size ≤ 2 := by
            simp only [List.mem_cons, List.not_mem_nil, or_false] at hx
            rcases hx with rfl | rfl | rfl | rfl | rfl | rfl <;> decide
          have hsz : (t ++ x).size = t.size + x.size := ByteArray.size_append
          clear hx
          go_wp2
          go_ret
          exact ⟨_, by omega, rfl, hb0.bex (w' := y2) (b := b) (by repeat (first | with_reducible assumption | with_reducible exact Bex.refl _ _ | with_reducible refine Bex.alloc ?_ _ | with_reducible refine Bex.drew ?_ | with_reducible refine Bex.drewN ?_ _ | with_reducible refine Bex.set ?_ _ _ | (refine Bex.trans ?_ (by with_reducible assumption)) | (refine Bex.of ?_ (by with_reducible assumption)))) hnb⟩
        · have e0 : (d == 0) = false := beq_eq_false_iff_ne.2 d0
          by_cases d1 : d = 1
          · subst d1
            have hts : (t.size : Int) < 600 := by omega
            go_wp2_with fail
            refine (c_l01Below _ b 2 _ hcy1 (by omega)).mono ?_
            rintro e y2 ⟨v, ⟨f, rfl, hf0, hf1⟩, rfl, hby2, hcy2⟩
            rw [if_neg (by omega)] at hf1
            obtain ⟨m, hm⟩ : ∃ m : Nat, m = 600 - t.size + f.toNat := ⟨_, rfl⟩
            have hm2 : (600 : Int) - t.size + f = m := by omega
            have hm3 : m ≤ 601 := by omega
            have LL := Lib.hid (c_spec_l01Long m 32 (by omega) (by omega))
            have hrs : (P.rep 32 m).size = m := P.rep_size _ _
            have hrz : (t ++ P.rep 32 m).size = t.size + m := by rw [ByteArray.size_append, hrs]
            clear hm
            go_wp2_with fail
            refine (LL.out _).mono ?_
            rintro e y3 ⟨rfl, hby3⟩
            go_wp2
            go_ret
            exact ⟨_, by omega, rfl, hb0.bex (w' := y3) (b := b) (by repeat (first | with_reducible assumption | with_reducible exact Bex.refl _ _ | with_reducible refine Bex.alloc ?_ _ | with_reducible refine Bex.drew ?_ | with_reducible refine Bex.drewN ?_ _ | with_reducible refine Bex.set ?_ _ _ | (refine Bex.trans ?_ (by with_reducible assumption)) | (refine Bex.of ?_ (by with_reducible assumption)))) hnb⟩
          · have e1 : (d == 1) = false := beq_eq_false_iff_ne.2 d1
            go_wp2
            go_ret
            exact ⟨_, by omega, rfl, hb0.bex (w' := y1) (b := b) (by repeat (first | with_reducible assumption | with_reducible exact Bex.refl _ _ | with_reducible refine Bex.alloc ?_ _ | with_reducible refine Bex.drew ?_ | with_reducible refine Bex.drewN ?_ _ | with_reducible refine Bex.set ?_ _ _ | (refine Bex.trans ?_ (by with_reducible assumption)) | (refine Bex.of ?_ (by with_reducible assumption)))) hnb⟩
end Go.Proofs.YtoikpdijkdmimaaDoor
