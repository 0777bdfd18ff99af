/-
  A slice of bytes among a law's arguments, opened. No premise but the program's own tables.
-/
import Derived.Test.YtoikpdijkdmimaaDoorOpen
import Derived.Test.YtoikpdijkdmimaaDoorCur
namespace Go.Proofs.YtoikpdijkdmimaaDoor
open Go.RowKit Go.ChangeShapes
set_option linter.unusedVariables false

theorem val_bytes {H : Type} {enc : TypeId × Value → H} {W : World} {r : Reach} {base : Nat} {spare : Nat → Bool} {held : Bool} {v : Value} {d : DataW H} {p : List MemPlace} {b2 : Nat}
    (h : Value.okWide Tryd.prog W r base 24 v) (k : DataW.Trod enc Tryd.prog W b2 spare held 24 v d p) : ∃ (a : Option Addr) (len cap : Nat) (z : List Int), v = .slice a len cap ∧ IsRow W a len cap z := by
  obtain ⟨a, len, cap, rfl⟩ := Go.WideShapes.okWide_slice Tryd.underlying24 h
  obtain ⟨fuel, hf⟩ := k
  rcases open_ints Tryd.underlying24 Tryd.underlying5 (by kernel_rfl) hf with ⟨hcs, hx⟩ | ⟨a', len', cap', zs, hcs, _, hl, hm, hz, hx, hcell, hwz⟩
  · simp [Value.cells] at hcs
    obtain ⟨rfl, rfl, rfl⟩ := hcs
    exact ⟨none, 0, 0, [], rfl, ⟨by unfold maxLen; omega, fun _ => rfl, (fun p hp => by cases hp), fun i hi => by omega⟩⟩
  · simp [Value.cells] at hcs
    obtain ⟨rfl, rfl, rfl⟩ := hcs
    have hlz : len ≤ zs.length := by rw [hz]; split <;> omega
    refine ⟨some a', len, cap, zs, rfl, ⟨by omega, (fun e => by cases e), fun p hp i hi => ?_, fun i hi => ?_⟩⟩
    · obtain rfl := Option.some.inj hp
      exact hcell i (by omega)
    · have hmem : zs.getD i 0 ∈ zs := by rw [List.getD_eq_getElem?_getD, List.getElem?_eq_getElem (by omega)]; exact List.getElem_mem _
      generalize zs.getD i 0 = y at hmem ⊢
      have := hwz _ hmem
      simp [Lit.wf, IntKind.min, IntKind.max, IntKind.signed, IntKind.bits] at this
      omega
end Go.Proofs.YtoikpdijkdmimaaDoor
