/-
  What the reference's draws use: bytes that came in, a cursor over them in a box of the call's own, and what a draw may turn (that box alone).
-/
import Derived.Test.YtoikpdijkdmimaaDoorBox
import Derived.ChangeSlices
import Derived.WideShapes
namespace Go.Proofs.YtoikpdijkdmimaaDoor
open Go.RowKit
set_option linter.unusedVariables false

/-- a slice of bytes that came in: its cells read as numbers from 0 to 255 -/
structure IsRow (W : World) (a : Option Addr) (len cap : Nat) (z : List Int) : Prop where
  small : len ≤ maxLen
  nil : a = none → len = 0
  cell : ∀ p, a = some p → ∀ i, i < len → W.cell? (p.add i) = some (.int .u8 (z.getD i 0))
  byte : ∀ i, i < len → 0 ≤ z.getD i 0 ∧ z.getD i 0 ≤ 255

theorem IsRow.at {W : World} {a : Option Addr} {len cap : Nat} {z : List Int} (h : IsRow W a len cap z) (hp : 0 < len) :
    ∃ k off, a = some ⟨k, off, none⟩ ∧ k < W.heap.size ∧ ∀ j, j < len → W.cell? ⟨k, off + j, none⟩ = some (.int .u8 (z.getD j 0)) := by
  cases ha : a with
  | none => have := h.nil ha; omega
  | some p =>
    obtain ⟨k, off, spot⟩ := p
    have h0 := h.cell _ ha 0 hp
    have hspot : spot = none := by simpa [Addr.add] using World.cell?_spot h0
    subst hspot
    have hc : ∀ j, j < len → W.cell? ⟨k, off + j, none⟩ = some (.int .u8 (z.getD j 0)) := fun j hj => by rw [← Go.WideShapes.add_plain]; exact h.cell _ ha j hj
    exact ⟨k, off, rfl, World.block_lt_of_cell? _ _ (hc 0 hp), hc⟩
/-- all that was there reads as it did, but block b -/
structure Bex (b : Nat) (w w' : World) : Prop where
  os : w'.os = w.os
  tape : w'.tape = w.tape
  output : w'.output = w.output
  size : w.heap.size ≤ w'.heap.size
  block : ∀ k, k < w.heap.size → k ≠ b → w'.heap[k]? = w.heap[k]?
theorem Bex.refl (b : Nat) (w : World) : Bex b w w := ⟨rfl, rfl, rfl, Nat.le_refl _, fun _ _ _ => rfl⟩
theorem Bex.trans {b : Nat} {x y z : World} (h : Bex b x y) (k : Bex b y z) : Bex b x z :=
  ⟨k.os.trans h.os, k.tape.trans h.tape, k.output.trans h.output, Nat.le_trans h.size k.size, fun i hi hb => (k.block i (Nat.lt_of_lt_of_le hi h.size) hb).trans (h.block i hi hb)⟩
theorem Bex.of {b : Nat} {x y z : World} (h : Bex b x y) (k : Bel y z) : Bex b x z := h.trans ⟨k.os, k.tape, k.output, k.size, fun i hi _ => k.block i hi⟩
theorem Bex.alloc {b : Nat} {x y : World} (h : Bex b x y) (o : Obj) : Bex b x (y.alloc o) := h.of ((Bel.refl y).alloc o)
theorem Bex.drew {b : Nat} {x y : World} (h : Bex b x y) : Bex b x y.drew := h.of (Bel.refl y).drew
theorem Bex.drewN {b : Nat} {x y : World} (h : Bex b x y) (n : Nat) : Bex b x (y.drewN n) := h.of ((Bel.refl y).drewN n)
/-- a store into block b -/
theorem Bex.set {b : Nat} {x y : World} (h : Bex b x y) (i : Nat) (v : Value) : Bex b x (y.setCell ⟨b, i, none⟩ v) :=
  h.trans ⟨rfl, rfl, rfl, by simp, fun k hk hb => Below.heap_setCell _ _ _ _ hb⟩
/-- behind an append: what may have been written is the call's own -/
theorem Bex.grown {b : Nat} {x y z : World} {row : Option Nat} (h : Bex b x y) (hg : y.grownBy z row) (hr : ∀ k, row = some k → x.heap.size ≤ k) : Bex b x z :=
  ⟨hg.os.trans h.os, hg.tape.trans h.tape, hg.output.trans h.output, Nat.le_trans h.size hg.size, fun k hk hb =>
    (hg.block k (Nat.lt_of_lt_of_le hk h.size) (fun e => by have := hr k e.symm; omega)).trans (h.block k hk hb)⟩
/-- what the call owns, from above block b on, it owns still -/
theorem Bex.owns {b : Nat} {a w : World} (h : Bex b a w) {base : Nat} {e : TypeId} {size : Nat} {v : Value} {n : Nat} {xs : List Value} (ho : a.ownsRow base e size v n xs) (hb : b < base) : w.ownsRow base e size v n xs :=
  ho.kept (row := some b) ⟨h.os, h.tape, h.output, h.size, fun k hk hne => h.block k hk (fun e => hne (by rw [e]))⟩ (by
    cases hv : v.ownBlock with
    | none => exact .inl rfl
    | some g =>
      right
      intro e
      have := World.ownsRow.lt ho g hv
      have e2 : g = b := by simpa using e
      omega)
theorem Bex.cell {b : Nat} {w w' : World} (h : Bex b w w') {p : Addr} (hp : p.block < w.heap.size) (hb : p.block ≠ b) : w'.cell? p = w.cell? p := World.cell?_of_block (w := w) (h.block p.block hp hb)
theorem Bex.frozen {b : Nat} {w w' : World} (h : Bex b w w') {p : Addr} (hp : p.block < w.heap.size) (hb : p.block ≠ b) : w'.frozen? p = w.frozen? p := World.frozen?_of_block (w := w) (h.block p.block hp hb)
/-- a box other than block b -/
theorem BoxAt.bex {n : Nat} {cs : List Value} {b c : Nat} {w w' : World} (h : BoxAt n cs c w) (k : Bex b w w') (hc : c ≠ b) : BoxAt n cs c w' :=
  ⟨h.new, Nat.lt_of_lt_of_le h.old k.size, fun j => (k.cell (p := ⟨c, j, none⟩) h.old hc).trans (h.cell j), fun j => (k.frozen (p := ⟨c, j, none⟩) h.old hc).trans (h.frozen j)⟩
/-- from the world of the call's begin: block b is none of its -/
theorem Bel.bex {W : World} {b : Nat} {w w' : World} (h : Bel W w) (k : Bex b w w') (hb : W.heap.size ≤ b) : Bel W w' :=
  ⟨k.os.trans h.os, k.tape.trans h.tape, k.output.trans h.output, Nat.le_trans h.size k.size, fun i hi => (k.block i (Nat.lt_of_lt_of_le hi h.size) (by omega)).trans (h.block i hi)⟩

/-- the bytes that the draws run over: where they lie, in the world W of the law's begin -/
structure Src where
  W : World
  a : Option Addr
  len : Nat
  cap : Nat
  z : List Int
/-- THE CURSOR, in block b: the bytes, how many have been read, a number -/
structure Cur (c : Src) (b : Nat) (w : World) : Prop where
  row : IsRow c.W c.a c.len c.cap c.z
  bel : Bel c.W w
  new : c.W.heap.size ≤ b
  old : b < w.heap.size
  c0 : w.cell? ⟨b, 0, none⟩ = some (.slice c.a c.len c.cap)
  c1 : ∃ i : Int, w.cell? ⟨b, 1, none⟩ = some (.int .i64 i) ∧ 0 ≤ i ∧ i ≤ c.len
  c2 : ∃ h : Int, w.cell? ⟨b, 2, none⟩ = some (.int .i64 h)
  fr : ∀ j, w.frozen? ⟨b, j, none⟩ = false
theorem Cur.next {c : Src} {b : Nat} {w w' : World} (h : Cur c b w) (k : Bel w w') : Cur c b w' :=
  ⟨h.row, h.bel.trans k, h.new, Nat.lt_of_lt_of_le h.old k.size, by rw [k.cell (p := ⟨b, 0, none⟩) h.old]; exact h.c0, by rw [k.cell (p := ⟨b, 1, none⟩) h.old]; exact h.c1, by rw [k.cell (p := ⟨b, 2, none⟩) h.old]; exact h.c2,
    fun j => by rw [k.frozen (p := ⟨b, j, none⟩) h.old]; exact h.fr j⟩
theorem Cur.grown {c : Src} {b : Nat} {w w' : World} {row : Option Nat} (h : Cur c b w) (hg : w.grownBy w' row) (hr : ∀ k, row = some k → b < k) : Cur c b w' :=
  have hW : ∀ k, row = some k → c.W.heap.size ≤ k := fun k hk => by have := hr k hk; have := h.new; omega
  have hb : w'.heap[b]? = w.heap[b]? := hg.block b h.old (fun e => by have := hr b e.symm; omega)
  have hc : ∀ j, w'.cell? ⟨b, j, none⟩ = w.cell? ⟨b, j, none⟩ := fun j => World.cell?_of_block (w := w) hb
  ⟨h.row, h.bel.grown hg hW, h.new, Nat.lt_of_lt_of_le h.old hg.size, by rw [hc]; exact h.c0, by rw [hc]; exact h.c1, by rw [hc]; exact h.c2, fun j => (World.frozen?_of_block (w := w) (a := ⟨b, j, none⟩) hb).trans (h.fr j)⟩
theorem Cur.alloc {c : Src} {b : Nat} {w : World} (h : Cur c b w) (o : Obj) : Cur c b (w.alloc o) := h.next ((Bel.refl w).alloc o)
theorem Cur.drew {c : Src} {b : Nat} {w : World} (h : Cur c b w) : Cur c b w.drew := h.next (Bel.refl w).drew
theorem Cur.drewN {c : Src} {b : Nat} {w : World} (h : Cur c b w) (n : Nat) : Cur c b (w.drewN n) := h.next ((Bel.refl w).drewN n)
/-- a store into another block, one of the call's own -/
theorem Cur.other {c : Src} {b : Nat} {w : World} (h : Cur c b w) {p : Addr} (hp : p.block ≠ b) (hW : c.W.heap.size ≤ p.block) (v : Value) : Cur c b (w.setCell p v) :=
  have hc : ∀ j, (w.setCell p v).cell? ⟨b, j, none⟩ = w.cell? ⟨b, j, none⟩ := fun j => World.cell?_setCell_other _ _ _ _ (fun e => hp (by rw [e]))
  ⟨h.row, h.bel.setCell hW v, h.new, by rw [World.size_setCell]; exact h.old, by rw [hc]; exact h.c0, by rw [hc]; exact h.c1, by rw [hc]; exact h.c2, fun j => by rw [World.frozen?_setCell]; exact h.fr j⟩

theorem Cur.set1 {c : Src} {b : Nat} {w : World} (h : Cur c b w) (i : Int) (hi : 0 ≤ i ∧ i ≤ c.len) : Cur c b (w.setCell ⟨b, 1, none⟩ (.int .i64 i)) := by
  obtain ⟨j, hj, _⟩ := h.c1
  exact ⟨h.row, h.bel.setCell h.new _, h.new, by rw [World.size_setCell]; exact h.old, by rw [World.cell?_setCell_other _ _ _ _ (by simp)]; exact h.c0,
    ⟨i, World.cell?_setCell_same _ _ _ hj, hi⟩, by rw [World.cell?_setCell_other _ _ _ _ (by simp)]; exact h.c2, fun j => by rw [World.frozen?_setCell]; exact h.fr j⟩
theorem Cur.set2 {c : Src} {b : Nat} {w : World} (h : Cur c b w) (g : Int) : Cur c b (w.setCell ⟨b, 2, none⟩ (.int .i64 g)) := by
  obtain ⟨j, hj⟩ := h.c2
  exact ⟨h.row, h.bel.setCell h.new _, h.new, by rw [World.size_setCell]; exact h.old, by rw [World.cell?_setCell_other _ _ _ _ (by simp)]; exact h.c0,
    by rw [World.cell?_setCell_other _ _ _ _ (by simp)]; exact h.c1, ⟨g, World.cell?_setCell_same _ _ _ hj⟩, fun j => by rw [World.frozen?_setCell]; exact h.fr j⟩

/-- what a draw comes to: some value of V; of what was there the cursor alone has turned -/
def Drew (c : Src) (b : Nat) (w : World) (V : Value → Prop) (e : Ending) (w' : World) : Prop := ∃ v, V v ∧ e = .returned v ∧ Bex b w w' ∧ Cur c b w'
/-- an int from lo to hi -/
def IntIn (lo hi : Int) (v : Value) : Prop := ∃ x : Int, v = .int .i64 x ∧ lo ≤ x ∧ x ≤ hi

/-- some bool -/
def SomeBool (v : Value) : Prop := ∃ x : Bool, v = .bool x
/-- one of a list's ints -/
def OneOf (l : List Int) (v : Value) : Prop := ∃ x, x ∈ l ∧ v = .int .i64 x
/-- a text of some length -/
def TextOf (n : Nat) (v : Value) : Prop := ∃ s : ByteArray, v = .string s ∧ s.size = n
/-- a list of ints in a new block -/
theorem rowI_alloc (w : World) (l : List Int) (t : TypeId) : ∀ j (hj : j < l.length), (w.alloc (.cells (l.map (Value.int .i64)).toArray t)).cell? ⟨w.heap.size, j, none⟩ = some (.int .i64 l[j]) := fun j hj => by
  rw [World.cell?_alloc_mark w _ t (0, 0) j]
  simp [List.getElem?_eq_getElem hj]
/-- a byte of y -/
theorem and255 (y : Int) : 0 ≤ bits .and .i64 y 255 ∧ bits .and .i64 y 255 ≤ 255 := by
  have e : bits .and .i64 y 255 = IntKind.i64.wrap ((BitVec.ofInt 64 y &&& BitVec.ofInt 64 255).toNat : Int) := rfl
  have h : (BitVec.ofInt 64 y &&& BitVec.ofInt 64 255).toNat ≤ 255 := by
    rw [BitVec.toNat_and]
    exact Nat.le_trans Nat.and_le_right (by decide)
  rw [e, IntWalk.i64_in _ (by omega)]
  omega
theorem cur_new {W : World} {a : Option Addr} {len cap : Nat} {z : List Int} {w : World} (hrow : IsRow W a len cap z) (hW : Bel W w) (x : Int) (t : TypeId) :
    Cur ⟨W, a, len, cap, z⟩ w.heap.size (w.alloc (.cells #[.slice a len cap, .int .i64 0, .int .i64 x] t)) := by
  have B := boxAt_alloc (n := 0) (w := w) (Nat.zero_le _) #[.slice a len cap, .int .i64 0, .int .i64 x] t
  exact ⟨hrow, hW.alloc _, hW.size, B.old, B.cell 0, ⟨0, B.cell 1, by omega, by simp⟩, ⟨x, B.cell 2⟩, B.frozen⟩
end Go.Proofs.YtoikpdijkdmimaaDoor
