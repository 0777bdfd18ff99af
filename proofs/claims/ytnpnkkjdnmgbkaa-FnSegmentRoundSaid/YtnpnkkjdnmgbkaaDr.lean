/-
  Helpers of the walks of drawn structs: stores into the call's own blocks, a struct as the one result.
-/
import Derived.Test.YtnpnkkjdnmgbkaaCur
import Derived.Test.YtnpnkkjdnmgbkaaRes
namespace Go.Proofs.Ytnpnkkjdnmgbkaa
open Go.RowKit
set_option linter.unusedVariables false

/-- a store into a block of the call's own -/
theorem Bex.own {b : Nat} {x y : World} (h : Bex b x y) {p : Addr} (hp : x.heap.size ≤ p.block) (v : Value) : Bex b x (y.setCell p v) :=
  ⟨h.os, h.tape, h.output, by rw [World.size_setCell]; exact h.size, fun k hk hb => (Below.heap_setCell _ _ _ _ (show k ≠ p.block from by omega)).trans (h.block k hk hb)⟩
theorem Bex.bel {b : Nat} {x y z : World} (h : Bel x y) (k : Bex b y z) : Bex b x z := (Bex.refl b x).of h |>.trans k
/-- a call's one result, a struct in a box -/
theorem result_box {P : Program} {fn : Func} {tmps : Array Value} {w : World} {n : Nat} {cs : List Value} {b : Nat} {p : Tmp} {ty : TypeId} {d : TypeDesc} (h : BoxAt n cs b w) (hr : fn.results = #[.cell p ty])
    (hp : tmps.getD p undef = .pointer (some ⟨b, 0, none⟩)) (hu : P.underlying ty = some d) (hd : (match d with | .struct _ | .array _ _ => true | _ => false) = true) (hi : (P.info? ty).map (·.size) = some cs.length) :
    (results fn tmps).run P w = .ok (.agg cs.toArray) w := by
  have hp' : tmps[p]?.getD undef = .pointer (some ⟨b, 0, none⟩) := by simpa using hp
  simp [results, hr, hp', asAddr, run_load_box h hu hd hi]
theorem post_at {W : World} {P : Program} {f : Func} {post : Ending → World → Prop} {x : Exit} {a : Act} {I : World → Prop} {n : Nat} {cs : List Value} {b : Nat} (hI : I W) (RF : BoxAt n cs b W)
    (h : ∀ W', I W' → BoxAt n cs b W' → bodyPost P f post x a W') : bodyPost P f post x a W := h W hI RF
end Go.Proofs.Ytnpnkkjdnmgbkaa
