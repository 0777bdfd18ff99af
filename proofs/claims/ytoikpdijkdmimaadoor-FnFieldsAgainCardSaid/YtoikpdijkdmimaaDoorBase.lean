/-
  What every walk of this seat uses: 'Bel w w'' (nothing that was there has turned), string([]byte{..}) of a few bytes, a byte as an int.
-/
import Derived.Test.YtoikpdijkdmimaaDoorProg
import Derived.Test.YtoikpdijkdmimaaDoorPure
import Derived.WalkKit
import Derived.WalkSpells
import Derived.WalkLawsBesides
import Derived.Deep.QuietTactic
import Derived.BigQuiet
import Derived.Lib.QuietBelow
import Derived.Lib.Hide
import Derived.Deep.AppendLies
import Derived.Deep.RegionLaw
namespace Go.Proofs.YtoikpdijkdmimaaDoor
open Go.RowKit
set_option linter.unusedVariables false

/-- NOTHING THAT WAS THERE HAS TURNED (new blocks, draws). -/
def Bel (w w' : World) : Prop := Below w.heap.size w w'
theorem Bel.refl (w : World) : Bel w w := Below.refl _ _
theorem Bel.trans {a b c : World} (h : Bel a b) (k : Bel b c) : Bel a c := Below.trans h (Below.mono k h.size)
theorem Bel.alloc {a w : World} (h : Bel a w) (o : Obj) : Bel a (w.alloc o) := Below.alloc h h.size o
theorem Bel.drew {a w : World} (h : Bel a w) : Bel a w.drew := Below.drew h
theorem Bel.drewN {a w : World} (h : Bel a w) (n : Nat) : Bel a (w.drewN n) := h.trans ⟨rfl, rfl, rfl, Nat.le_refl _, fun _ _ => rfl⟩
theorem Bel.setCell {a w : World} (h : Bel a w) {p : Addr} (hp : a.heap.size ≤ p.block) (u : Value) : Bel a (w.setCell p u) := Below.setCell h hp u
theorem Bel.size {a w : World} (h : Bel a w) : a.heap.size ≤ w.heap.size := Below.size h
theorem Bel.cell {a w : World} (h : Bel a w) {p : Addr} (hp : p.block < a.heap.size) : w.cell? p = a.cell? p := Below.cell h hp
theorem Bel.frozen {a w : World} (h : Bel a w) {p : Addr} (hp : p.block < a.heap.size) : w.frozen? p = a.frozen? p := Below.frozen h hp
theorem Bel.grown {a w w' : World} {row : Option Nat} (h : Bel a w) (hg : w.grownBy w' row) (hr : ∀ k, row = some k → a.heap.size ≤ k) : Bel a w' := Below.grown h hg h.size hr
/-- a cell that was there when the call began -/
theorem Bel.at {a w : World} (h : Bel a w) {p : Addr} {v : Value} (hv : a.cell? p = some v) : w.cell? p = some v := by
  rw [h.cell (World.block_lt_of_cell? a p hv)]
  exact hv

/-- a block that was there when the call began: its cells read as they did, and it is still there -/
theorem Bel.keep {a w : World} (h : Bel a w) {b : Nat} (hb : b < a.heap.size) : (∀ o, w.cell? ⟨b, o, none⟩ = a.cell? ⟨b, o, none⟩) ∧ b < w.heap.size :=
  ⟨fun o => h.cell (p := ⟨b, o, none⟩) hb, Nat.lt_of_lt_of_le hb h.size⟩

/-- what the call owns, it owns still -/
theorem Bel.owns {a w : World} (h : Bel a w) {base : Nat} {e : TypeId} {size : Nat} {v : Value} {n : Nat} {xs : List Value} (ho : a.ownsRow base e size v n xs) : w.ownsRow base e size v n xs :=
  ho.kept (row := none) ⟨h.os, h.tape, h.output, Below.size h, fun k hk _ => h.block k hk⟩ (by
    cases hv : v.ownBlock with
    | none => exact .inl rfl
    | some g => exact .inr (by simp))
theorem news1 (w : World) (n : Int) : ∀ (j : Nat) (u : Value), [Value.int .u8 n][j]? = some u → (w.alloc (.cells #[.int .u8 n] 5)).cell? ((⟨w.heap.size, 0, none⟩ : Addr).add j) = some u :=
  fun j u hu => World.news_of_block (w := w.alloc (.cells #[.int .u8 n] 5)) (heap_alloc_new w _) j u hu
theorem oneCell1 (n : Int) : ∀ u ∈ [Value.int .u8 n], u.oneCell' = true := by simp [Value.oneCell']
/-- the same of all blocks, as a rule for the walk -/
theorem Bel.cells {a w : World} (h : Bel a w) : ∀ b o, b < a.heap.size → w.cell? ⟨b, o, none⟩ = a.cell? ⟨b, o, none⟩ := fun b o hb => h.cell (p := ⟨b, o, none⟩) hb

theorem ret_eq {a b : Value} (h : a = b) : Ending.returned a = .returned b := by rw [h]
theorem ret_str {a b : ByteArray} (h : a = b) : Ending.returned (.string a) = .returned (.string b) := by rw [h]
theorem ret_int {k : IntKind} {a b : Int} (h : a = b) : Ending.returned (.int k a) = .returned (.int k b) := by rw [h]
theorem ret_bool {a b : Bool} (h : a = b) : Ending.returned (.bool a) = .returned (.bool b) := by rw [h]
theorem ret_sb {a b : ByteArray} {x y : Bool} (h : a = b) (h2 : x = y) : Ending.returned (.tuple #[.string a, .bool x]) = .returned (.tuple #[.string b, .bool y]) := by rw [h, h2]
theorem ret_ib {k : IntKind} {a b : Int} {x y : Bool} (h : a = b) (h2 : x = y) : Ending.returned (.tuple #[.int k a, .bool x]) = .returned (.tuple #[.int k b, .bool y]) := by rw [h, h2]

@[go_sem] theorem wrap_byte (b : UInt8) : IntKind.i64.wrap (b.toNat : Int) = (b.toNat : Int) := by
  have := b.toNat_lt
  exact IntWalk.i64_in _ (by omega)
@[go_sem] theorem wrap_byte_u32 (b : UInt8) : IntKind.u32.wrap (b.toNat : Int) = (b.toNat : Int) := by
  have := b.toNat_lt
  exact IntWalk.u32_in _ (by omega)
@[go_sem] theorem wrap_byte8 (b : UInt8) : IntKind.i64.wrap ((b.toNat : Int) * 256) = (b.toNat : Int) * 256 := by
  have := b.toNat_lt
  exact IntWalk.i64_in _ (by omega)
@[go_sem] theorem wrap_byte16 (b : UInt8) : IntKind.i64.wrap ((b.toNat : Int) * 65536) = (b.toNat : Int) * 65536 := by
  have := b.toNat_lt
  exact IntWalk.i64_in _ (by omega)
@[go_sem] theorem wrap_byte24 (b : UInt8) : IntKind.i64.wrap ((b.toNat : Int) * 16777216) = (b.toNat : Int) * 16777216 := by
  have := b.toNat_lt
  exact IntWalk.i64_in _ (by omega)
@[go_sem] theorem strEq (a b : ByteArray) : (a.toList == b.toList) = decide (a = b) := by
  by_cases h : a = b
  · subst h; simp
  · have : ¬ a.toList = b.toList := fun e => h (P.toList_inj.1 e)
    simp [h, this]
theorem strSame (a : ByteArray) : (a.toList == a.toList) = true := by simp

theorem num_next (k : Nat) : Value.int .i64 ((k : Int) + 1) = Value.int .i64 ((k + 1 : Nat) : Int) := by congr 1

/-- A callee that leaves the world alone, met in a region that draws. -/
theorem Calls.quietS {P : Program} {f : FuncId} {args : Array Value} {w : World} {n : Nat} {v : Value}
    (h : Calls P f args (w.drewN n) fun e w' => e = .returned v ∧ w.drewN n = w') : Calls P f args (w.drewN n) fun e w'' => e = .returned v ∧ ∃ m, w'' = w.drewN m :=
  h.mono fun _ _ ⟨he, hm⟩ => ⟨he, n, hm.symm⟩

theorem conv_ints (w : World) (b cap : Nat) (ns : List Int) (len : Nat) (hl : len = ns.length) (hc : ∀ j (hj : j < ns.length), w.cell? ⟨b, j, none⟩ = some (.int .u8 ns[j])) :
    (convert 24 9 (.slice (some ⟨b, 0, none⟩) len cap)).run Tryd.prog w = .ok (.string (P.bs (ns.map P.by8))) w := by
  subst hl
  rw [run_convert_bytes_string w 24 9 5 _ _ cap Tryd.underlying24 Tryd.underlying5 Tryd.underlying9]
  have hl := run_loadCells_list (P := Tryd.prog) w ⟨b, 0, none⟩ (ns.map (Value.int .u8)) (fun j v hj => by
    have hj' : j < ns.length := by
      have := (List.getElem?_eq_some_iff.1 hj).1
      simpa using this
    have h1 := hc j hj'
    have h2 : (Addr.add ⟨b, 0, none⟩ j) = ⟨b, j, none⟩ := by
      simp [Addr.add]
      intro e; exact e.symm
    rw [h2, h1]
    simp [List.getElem?_eq_getElem hj'] at hj
    rw [← hj])
  simp only [List.length_map] at hl
  rw [run_bytesToString w _ ns.length cap _ hl]
  congr 2
  have : ∀ (l : List Int) (r : ByteArray), l.foldl (fun r n => r.push (UInt8.ofNat n.toNat)) r = ⟨r.data ++ (l.map P.by8).toArray⟩ := by
    intro l
    induction l with
    | nil => intro r; simp
    | cons a l ih => intro r; rw [List.foldl_cons, ih]; simp [ByteArray.push, P.by8]
  rw [this]
  have he0 : ByteArray.empty.data = #[] := rfl
  rw [he0]
  simp [P.bs]

/-- string(b) of a slice of the call's own whose cells are known -/
theorem conv_row (w : World) (v : Value) (base n : Nat) (ns : List Int) (hn : n = ns.length) (h : w.ownsRow base 5 1 v n (ns.map (Value.int .u8))) :
    (convert 24 9 v).run Tryd.prog w = .ok (.string (P.bs (ns.map P.by8))) w := by
  obtain ⟨h1, h2⟩ := h
  rcases h2 with ⟨rfl, rfl⟩ | ⟨g, cap, cur, rfl, hg, hh, _, _, _, ht⟩
  · have : ns = [] := by cases ns with | nil => rfl | cons => simp at hn
    subst this
    rw [run_convert_bytes_string w 24 9 5 _ _ _ Tryd.underlying24 Tryd.underlying5 Tryd.underlying9]
    rfl
  · exact conv_ints w g cap ns n hn (fun j hj => by
      have hc := World.ownsRow.cells (e := 5) (size := 1) (n := n) (xs := ns.map (Value.int .u8)) ⟨h1, .inr ⟨g, cap, cur, rfl, hg, hh, by assumption, by assumption, by assumption, ht⟩⟩ rfl j (.int .u8 ns[j]) (by simp [List.getElem?_eq_getElem hj])
      have e : (Addr.add ⟨g, 0, none⟩ j) = ⟨g, j, none⟩ := by
        simp [Addr.add]
        intro e; exact e.symm
      rw [e] at hc
      exact hc)

theorem Tryd.info5 : (Tryd.prog.info? 5).map (fun i => (i.zero, i.size, i.bytes)) = some (some (.int .u8 0), 1, 1) := by kernel_rfl

def convSlow (b n cap : Nat) : Sem Value := convert 24 9 (.slice (some ⟨b, 0, none⟩) n cap)
/-- string(b) of a slice of 1 bytes, wherever it lies: read off its cells -/
@[go_sem] theorem conv1 (w : World) (b cap : Nat) : (convert 24 9 (.slice (some ⟨b, 0, none⟩) 1 cap)).run Tryd.prog w = match w.cell? ⟨b, 0, none⟩ with
    | some (.int .u8 n0) => .ok (.string (P.bs [P.by8 n0])) w
    | _ => (convSlow b 1 cap).run Tryd.prog w := by
  split
  · rename_i n0 e0
    exact conv_ints w b cap [n0] 1 rfl (fun j hj => by
      match j, hj with
      | 0, _ => assumption)
  · rfl
/-- string(b) of a slice of 2 bytes, wherever it lies: read off its cells -/
@[go_sem] theorem conv2 (w : World) (b cap : Nat) : (convert 24 9 (.slice (some ⟨b, 0, none⟩) 2 cap)).run Tryd.prog w = match w.cell? ⟨b, 0, none⟩, w.cell? ⟨b, 1, none⟩ with
    | some (.int .u8 n0), some (.int .u8 n1) => .ok (.string (P.bs [P.by8 n0, P.by8 n1])) w
    | _, _ => (convSlow b 2 cap).run Tryd.prog w := by
  split
  · rename_i n0 n1 e0 e1
    exact conv_ints w b cap [n0, n1] 2 rfl (fun j hj => by
      match j, hj with
      | 0, _ => assumption
      | 1, _ => assumption)
  · rfl
/-- string(b) of a slice of 4 bytes, wherever it lies: read off its cells -/
@[go_sem] theorem conv4 (w : World) (b cap : Nat) : (convert 24 9 (.slice (some ⟨b, 0, none⟩) 4 cap)).run Tryd.prog w = match w.cell? ⟨b, 0, none⟩, w.cell? ⟨b, 1, none⟩, w.cell? ⟨b, 2, none⟩, w.cell? ⟨b, 3, none⟩ with
    | some (.int .u8 n0), some (.int .u8 n1), some (.int .u8 n2), some (.int .u8 n3) => .ok (.string (P.bs [P.by8 n0, P.by8 n1, P.by8 n2, P.by8 n3])) w
    | _, _, _, _ => (convSlow b 4 cap).run Tryd.prog w := by
  split
  · rename_i n0 n1 n2 n3 e0 e1 e2 e3
    exact conv_ints w b cap [n0, n1, n2, n3] 4 rfl (fun j hj => by
      match j, hj with
      | 0, _ => assumption
      | 1, _ => assumption
      | 2, _ => assumption
      | 3, _ => assumption)
  · rfl
end Go.Proofs.YtoikpdijkdmimaaDoor
