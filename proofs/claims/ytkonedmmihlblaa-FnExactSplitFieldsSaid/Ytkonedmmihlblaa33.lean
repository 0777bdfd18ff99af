/-
  Lists of strings: read, compared, marked and read again.
-/
import Derived.Test.YtkonedmmihlblaaRegion
import Derived.Test.YtkonedmmihlblaaPureG
namespace Go.Proofs.Ytkonedmmihlblaa
open Go.RowKit
set_option linter.unusedVariables false

namespace P
/-- the digits of k in front of out -/
def mk (k : Nat) (out : ByteArray) : ByteArray := if h : k = 0 then out else mk (k / 10) (bs [by8 (48 + (k % 10 : Nat))] ++ out)
termination_by k
decreasing_by omega
/-- the mark of number k -/
def mark (k : Nat) : ByteArray := bs [109] ++ mk k (bs [])
theorem mk_zero (out : ByteArray) : mk 0 out = out := by rw [mk]; simp
theorem mk_next (k : Nat) (h : 0 < k) (out : ByteArray) : mk k out = mk (k / 10) (bs [by8 (48 + (k % 10 : Nat))] ++ out) := by rw [mk]; simp [Nat.ne_of_gt h]
/-- n marks from k on -/
def marks (k n : Nat) : List ByteArray := (List.range n).map fun i => mark (k + i)
theorem marks_length (k n : Nat) : (marks k n).length = n := by simp [marks]
theorem marks_at (k n i : Nat) (h : i < (marks k n).length) : (marks k n)[i] = mark (k + i) := by simp [marks]
end P
theorem marks_next (k j n : Nat) (xs : List Value) (hj : j < n) (hx : xs.length = n) :
    ((P.marks k j).map Value.string ++ xs.drop j).set j (.string (P.mark (k + j))) = (P.marks k (j + 1)).map Value.string ++ xs.drop (j + 1) := by
  rw [List.set_append_right _ _ (by simp [P.marks_length])]
  have e : P.marks k (j + 1) = P.marks k j ++ [P.mark (k + j)] := by simp [P.marks, List.range_succ]
  rw [e, List.map_append, List.append_assoc]
  congr 1
  rw [List.length_map, P.marks_length, Nat.sub_self, List.drop_eq_getElem_cons (show j < xs.length by omega), List.set_cons_zero]
  simp

/-- a value reads as a list of strings -/
def StrIs (w : World) (v : Value) (L : List ByteArray) : Prop :=
  ∃ (pa : Option Addr) (cap : Nat), v = .slice pa L.length cap ∧ ∀ j, j < L.length → ∃ b, pa = some ⟨b, 0, none⟩ ∧ w.cell? ⟨b, j, none⟩ = some (.string (L.getD j ⟨#[]⟩))
theorem StrIs.bel {w w' : World} {v : Value} {L : List ByteArray} (h : StrIs w v L) (k : Bel w w') : StrIs w' v L := by
  obtain ⟨pa, cap, hv, hc⟩ := h
  refine ⟨pa, cap, hv, fun j hj => ?_⟩
  obtain ⟨b, hb, hcell⟩ := hc j hj
  exact ⟨b, hb, k.at hcell⟩
theorem strIs_of {w : World} {base : Nat} {v : Value} {n : Nat} {L : List ByteArray} (h : w.ownsRow base 9 1 v n (L.map Value.string)) : StrIs w v L := by
  have hl : L.length = n := by simpa using h.1
  subst hl
  by_cases h0 : 0 < L.length
  · obtain ⟨g, cap, rfl, _, _⟩ := World.ownsRow.form h h0
    exact ⟨_, _, rfl, fun j hj => ⟨g, rfl, by rw [h.cellAt j (by omega)]; simp [hj, List.getD_eq_getElem?_getD]⟩⟩
  · rcases h.2 with ⟨hv, hn⟩ | ⟨g, cap, cur, hv, _⟩
    · exact ⟨none, 0, by rw [hv, hn], fun j hj => by omega⟩
    · exact ⟨_, cap, hv, fun j hj => by omega⟩
theorem Bel.grownBy {w w' : World} (h : Bel w w') (row : Option Nat) : w.grownBy w' row := ⟨h.os, h.tape, h.output, Bel.size h, fun k hk _ => h.block k hk⟩
theorem grownBy_trans {x y z : World} {row : Option Nat} (h : x.grownBy y row) (k : y.grownBy z row) : x.grownBy z row :=
  ⟨k.os.trans h.os, k.tape.trans h.tape, k.output.trans h.output, Nat.le_trans h.size k.size, fun i hi hr => (k.block i (Nat.lt_of_lt_of_le hi h.size) hr).trans (h.block i hi hr)⟩

theorem c_markText (k : Nat) (hk : 0 < k ∧ k ≤ 1000000) (w : World) :
    Calls Try.prog 52 #[.int .i64 k] w fun e w' => e = .returned (.string (P.mark k)) ∧ Bel w w' := by
  have h0 : ¬ (k : Int) ≤ 0 := by omega
  have HM := Lib.hid (show P.mark k = P.bs [109] ++ P.mk k (P.bs []) from rfl)
  go_enter Try.func52, Try.ntmps52
  go_wp2
  go_loopw [0, 3] (fun n out wr => ∃ (r : Nat) (o : ByteArray), n = .int .i64 r ∧ out = .string o ∧ o.size + r ≤ 1000000 ∧ Hid (P.mk r o = P.mk k (P.bs [])) ∧ Bel w wr) (fun n _ _ => (intOf n).toNat)
  case atStart => exact ⟨k, P.bs [], rfl, rfl, by rw [P.bs_size]; simpa using hk.2, Lib.hid rfl, Bel.refl _⟩
  case round =>
    obtain ⟨r, o, rfl, rfl, hr, hm, hbel⟩ := hrel
    by_cases hpos : 0 < r
    · have h1 : (0 : Int) < r := by omega
      have HN := Lib.hid (P.mk_next r hpos o)
      have e1 : IntKind.u8.wrap ((r : Int) % 10) = ((r % 10 : Nat) : Int) := by rw [IntWalk.u8_in _ (by omega)]; omega
      have e2 : IntKind.u8.wrap (48 + ((r : Int) % 10)) = 48 + ((r % 10 : Nat) : Int) := by rw [IntWalk.u8_in _ (by omega)]; omega
      have hsz : (P.bs [P.by8 (48 + (r : Int) % 10)] ++ o).size = o.size + 1 := by rw [ByteArray.size_append, P.bs_size]; simp; omega
      go_wp2
      go_roundw
      case rel => exact ⟨r / 10, _, by congr 1, rfl, by omega, Lib.hid (by rw [← hm.out, HN.out]; congr 3), hbel.alloc _⟩
      case measure => simp [intOf]; omega
    · obtain rfl : r = 0 := by omega
      have HZ := Lib.hid (P.mk_zero o)
      go_wp2
      go_ret
      exact ⟨ret_str (by rw [HM.out, ← hm.out, HZ.out]; rfl), hbel⟩
theorem c_eqStringS (L : List ByteArray) (a b : Value) (w : World) (ha : StrIs w a L) (hb : StrIs w b L) (hl : L.length ≤ 1000000) :
    Calls Try.prog 21 #[a, b] w fun e w' => e = .returned (.bool true) ∧ Bel w w' := by
  obtain ⟨pa, ca, rfl, hca⟩ := ha
  obtain ⟨pb, cb, rfl, hcb⟩ := hb
  obtain ⟨n, hn⟩ : ∃ n, n = L.length := ⟨_, rfl⟩
  rw [← hn] at hl ⊢
  have HN := Lib.hid hn
  rw [← hn] at hca hcb
  clear hn
  go_enter Try.func21, Try.ntmps21
  go_wp2
  go_loopw [5] (fun i wr => ∃ k : Nat, k ≤ n ∧ i = .int .i64 k ∧ Bel w wr) (fun i _ => n - (intOf i).toNat)
  case atStart => exact ⟨0, Nat.zero_le _, rfl, Bel.refl _⟩
  case round =>
    obtain ⟨k, hk, rfl, hbel⟩ := hrel
    by_cases hlt : k < n
    · obtain ⟨b1, rfl, h1⟩ := hca k hlt
      obtain ⟨b2, rfl, h2⟩ := hcb k hlt
      have d1 := hbel.at h1
      have d2 := hbel.at h2
      generalize L.getD k ⟨#[]⟩ = x at h1 h2 d1 d2
      have h3 : (k : Int) < n := by omega
      clear hca hcb
      go_wp2
      go_quiet (fail)
      go_wp2
      go_roundw
      case rel => exact ⟨k + 1, by omega, by go_num, (by repeat (first | with_reducible assumption | with_reducible exact Bel.refl _ | with_reducible refine Bel.alloc ?_ _ | with_reducible refine Bel.drew ?_ | with_reducible refine Bel.drewN ?_ _ | with_reducible refine Bel.setCell ?_ ?_ _ | with_reducible exact Nat.le_refl _ | (dsimp only; omega) | (refine Bel.trans ?_ (by with_reducible assumption))))⟩
      case measure => simp [intOf]; omega
    · go_wp2
      go_ret
      exact ⟨rfl, hbel⟩
theorem c_markStringS (k0 n : Nat) (v : Value) (base : Nat) (xs : List Value) (w : World) (h : w.ownsRow base 9 1 v n xs) (hn : n ≤ 100000) (hk : 0 < k0 ∧ k0 ≤ 100000) :
    Calls Try.prog 22 #[v, .int .i64 k0] w fun e w' => e = .returned (.int .i64 ((k0 + n : Nat) : Int)) ∧ w'.ownsRow base 9 1 v n ((P.marks k0 n).map Value.string) ∧ w.grownBy w' v.ownBlock := by
  obtain ⟨pa, ca, hv⟩ : ∃ (pa : Option Addr) (ca : Nat), v = .slice pa n ca := by
    rcases h.2 with ⟨hv, hn⟩ | ⟨g, cap, cur, hv, _⟩
    · exact ⟨none, 0, by rw [hv, hn]⟩
    · exact ⟨_, cap, hv⟩
  subst hv
  have hx : xs.length = n := by simpa using h.1
  go_enter Try.func22, Try.ntmps22
  go_wp2
  go_loopw [1, 5] (fun kk i wr => ∃ j : Nat, j ≤ n ∧ i = .int .i64 j ∧ kk = .int .i64 ((k0 + j : Nat) : Int) ∧ wr.ownsRow base 9 1 (.slice pa n ca) n ((P.marks k0 j).map Value.string ++ xs.drop j) ∧ w.grownBy wr (Value.slice pa n ca).ownBlock) (fun _ i _ => n - (intOf i).toNat)
  case atStart => exact ⟨0, Nat.zero_le _, rfl, rfl, by simpa [P.marks] using h, (Bel.refl w).grownBy _⟩
  case round =>
    obtain ⟨j, hj, rfl, rfl, hown, hg⟩ := hrel
    by_cases hlt : j < n
    · obtain ⟨g, cap, hvv, hb, hgl⟩ := World.ownsRow.form hown (by omega)
      simp only [Value.slice.injEq, true_and] at hvv
      obtain ⟨rfl, rfl⟩ := hvv
      have h3 : (j : Int) < n := by omega
      go_wp2_with fail
      refine (c_markText (k0 + j) (by omega) _).mono ?_
      rintro e w1 ⟨rfl, hb1⟩
      have hown1 := hb1.owns hown
      have hgl1 := Nat.lt_of_lt_of_le hgl hb1.size
      have hc1 := hown1.cellAt j (by omega)
      have hlen : ((P.marks k0 j).map Value.string ++ xs.drop j).length = n := by simp [P.marks_length]; omega
      rw [List.getElem?_append_right (by simp [P.marks_length])] at hc1
      simp only [List.length_map, P.marks_length, Nat.sub_self, List.getElem?_drop, Nat.add_zero] at hc1
      obtain ⟨x, hxj⟩ : ∃ x, xs[j]? = some x := ⟨xs[j]'(by omega), List.getElem?_eq_getElem (by omega)⟩
      rw [hxj] at hc1
      have hf1 := hown1.frozenAt j
      have hst := hown1.stored j (.string (P.mark (k0 + j)))
      rw [marks_next k0 j n xs hlt hx] at hst
      have HST := Lib.hid hst
      have HG := Lib.hid (grownBy_trans hg (hb1.grownBy _))
      clear hst hown hown1 hxj hx h hlen hg hb1
      go_wp2
      go_roundw
      case rel => exact ⟨j + 1, by omega, by go_num, by congr 1, HST.out.1, grownBy_trans HG.out HST.out.2⟩
      case measure => simp [intOf]; omega
    · obtain rfl : j = n := by omega
      have hd : xs.drop j = [] := List.drop_eq_nil_of_le (by omega)
      rw [hd, List.append_nil] at hown
      clear hd hx h
      go_wp2
      go_ret
      exact ⟨rfl, hown, hg⟩
theorem c_heldStringS (k0 n : Nat) (v : Value) (w : World) (h : StrIs w v (P.marks k0 n)) (hn : n ≤ 100000) (hk : 0 < k0 ∧ k0 ≤ 100000) :
    Calls Try.prog 23 #[v, .int .i64 k0] w fun e w' => e = .returned (.int .i64 ((k0 + n : Nat) : Int)) ∧ Bel w w' := by
  obtain ⟨pa, ca, hv, hca⟩ := h
  rw [P.marks_length] at hv
  subst hv
  go_enter Try.func23, Try.ntmps23
  go_wp2
  go_loopw [1, 5] (fun kk i wr => ∃ j : Nat, j ≤ n ∧ i = .int .i64 j ∧ kk = .int .i64 ((k0 + j : Nat) : Int) ∧ Bel w wr) (fun _ i _ => n - (intOf i).toNat)
  case atStart => exact ⟨0, Nat.zero_le _, rfl, rfl, Bel.refl _⟩
  case round =>
    obtain ⟨j, hj, rfl, rfl, hbel⟩ := hrel
    by_cases hlt : j < n
    · obtain ⟨b1, rfl, h1⟩ := hca j (by rw [P.marks_length]; exact hlt)
      have e1 : (P.marks k0 n).getD j ⟨#[]⟩ = P.mark (k0 + j) := by rw [List.getD_eq_getElem?_getD, List.getElem?_eq_getElem (by rw [P.marks_length]; exact hlt), Option.getD_some, P.marks_at]
      rw [e1] at h1
      have d1 := hbel.at h1
      have hzb := World.block_lt_of_cell? _ _ d1
      have h3 : (j : Int) < n := by omega
      have CM := Lib.hid (c_markText (k0 + j) (by omega))
      clear hca e1
      go_wp2
      refine wp_region_fix [.slice (some ⟨b1, 0, none⟩) n ca, .int .i64 j, .pointer (some ⟨b1, j, none⟩), .string (P.mark (k0 + j)), .int .i64 ((k0 + j : Nat) : Int), .string (P.mark (k0 + j)), .bool false] [] (by kernel_rfl) (by kernel_rfl) ?_ ?_
      · refine ⟨?_, ?_, ?_, ?_, ?_, ?_, ?_, trivial⟩
        all_goals intro β w' hb' hrow
        all_goals have d2 := hb'.at d1
        all_goals simp [lastTmps, putL, theVal, List.range, List.range.loop, QB, seen, dep, dstOf, go_sem, Region.binds, d2] at hrow ⊢
        all_goals first | exact Bel.refl _ | exact ⟨Bel.refl _, rfl⟩ | (rw [if_pos hlt]; exact ⟨Bel.refl _, rfl⟩) | exact CM.out _
      · intro β w2 h2
        simp [lastTmps, putL, theVal, List.range, List.range.loop]
        go_wp2
        go_roundw
        case rel => exact ⟨j + 1, by omega, by go_num, by congr 1, (by repeat (first | with_reducible assumption | with_reducible exact Bel.refl _ | with_reducible refine Bel.alloc ?_ _ | with_reducible refine Bel.drew ?_ | with_reducible refine Bel.drewN ?_ _ | with_reducible refine Bel.setCell ?_ ?_ _ | with_reducible exact Nat.le_refl _ | (dsimp only; omega) | (refine Bel.trans ?_ (by with_reducible assumption))))⟩
        case measure => simp [intOf]; omega
    · obtain rfl : j = n := by omega
      go_wp2
      go_ret
      exact ⟨rfl, hbel⟩
end Go.Proofs.Ytkonedmmihlblaa
