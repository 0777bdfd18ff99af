/-
  No cell of these rows narrows 'for every input' (looked for: loops, veiled, ifaces, maps, wideKeys, modest, calm, conditions, laid).
  DERIVED. THE GIVEN ROWS OF THIS SEAT. 6 by the template 'for every input the law returns true; each argument reads behind the call as it read before'; 0 by the template 'total and deterministic' (their statements: YtoikpdijkdmimaaTotals.lean).
  GIVEN WITH THE SEED: the statements are not yours to turn. If you find one false, say at which input.
  Laid BY PROGRAM, IN A SANDBOX (cutbox-rows.mjs): the forced cells as the released guide's own fill.sh prints them over the translation 938a020778854704… (all of the seat's roots in one cut). By AI agents, Wed Nov 11 2026. No macro, syntax, notation, axiom, sorry.
-/
import Derived.Test.YtoikpdijkdmimaaChecked
import GoSem.Claim
import GoSem.ClaimJoined
import GoSem.ClaimMapViews
import Derived.JoinedTies
import Derived.KernelRfl
namespace Go.Proofs.Ytoikpdijkdmimaa
/- THE CELL 'sum', in the pinned program and in every row, IS THE sha256 OF THE DUMP (.gsa) THAT YtoikpdijkdmimaaProg.lean LOADS. Nothing in Lean hashes anything: it is a label: what it is worth is what the hold of that sum in a sandbox is worth. -/
noncomputable def Try.pinned : Pinned := { name := "ytoikpdijkdmimaa", sum := "938a0207788547040dde739e7bdf9df5edbd7d96bb58a077dd56e53dd31054df", checked := Try.checked }
namespace Rows
def none {H : Type} : Left H := { results := [], args := [] }

/-- 'laws.FnExactSuperOk': WHATEVER THE INPUT: true; the input reads as it did. -/
def fnExactSuperOkSpec : ChangeSpec := { name := "fnExactSuperOk", fn := fun _ => fun
  | [d] => { results := [.lit (.bool true)], args := [d] }
  | _ => none }
def fnExactSuperOkRow : OpenClaim := { program := "ytoikpdijkdmimaa", sum := "938a0207788547040dde739e7bdf9df5edbd7d96bb58a077dd56e53dd31054df", func := "loop.example/g03312/laws.FnExactSuperOk", spec := "fnExactSuperOk", apart := false }
def FnExactSuperOkSaid : Prop := fnExactSuperOkRow.holds Try.pinned (OpenSpec.ofChange fnExactSuperOkSpec)

/-- ITS FALSE NEIGHBOUR: 'it returns false'. Refute it at one input. -/
def fnExactSuperOkWrong : ChangeSpec := { name := "fnExactSuperOk", fn := fun _ => fun
  | [d] => { results := [.lit (.bool false)], args := [d] }
  | _ => none }
def FnExactSuperOkWrongFalsely : Prop := fnExactSuperOkRow.holds Try.pinned (OpenSpec.ofChange fnExactSuperOkWrong)

/-- 'laws.FnExactPacketOk': WHATEVER THE INPUT: true; the input reads as it did. -/
def fnExactPacketOkSpec : ChangeSpec := { name := "fnExactPacketOk", fn := fun _ => fun
  | [d] => { results := [.lit (.bool true)], args := [d] }
  | _ => none }
def fnExactPacketOkRow : OpenClaim := { program := "ytoikpdijkdmimaa", sum := "938a0207788547040dde739e7bdf9df5edbd7d96bb58a077dd56e53dd31054df", func := "loop.example/g03312/laws.FnExactPacketOk", spec := "fnExactPacketOk", apart := false }
def FnExactPacketOkSaid : Prop := fnExactPacketOkRow.holds Try.pinned (OpenSpec.ofChange fnExactPacketOkSpec)

/-- ITS FALSE NEIGHBOUR: 'it returns false'. Refute it at one input. -/
def fnExactPacketOkWrong : ChangeSpec := { name := "fnExactPacketOk", fn := fun _ => fun
  | [d] => { results := [.lit (.bool false)], args := [d] }
  | _ => none }
def FnExactPacketOkWrongFalsely : Prop := fnExactPacketOkRow.holds Try.pinned (OpenSpec.ofChange fnExactPacketOkWrong)

/-- 'laws.FnExactBuildEth': WHATEVER THE INPUT: true; the input reads as it did. -/
def fnExactBuildEthSpec : ChangeSpec := { name := "fnExactBuildEth", fn := fun _ => fun
  | [d] => { results := [.lit (.bool true)], args := [d] }
  | _ => none }
def fnExactBuildEthRow : OpenClaim := { program := "ytoikpdijkdmimaa", sum := "938a0207788547040dde739e7bdf9df5edbd7d96bb58a077dd56e53dd31054df", func := "loop.example/g03312/laws.FnExactBuildEth", spec := "fnExactBuildEth", apart := false }
def FnExactBuildEthSaid : Prop := fnExactBuildEthRow.holds Try.pinned (OpenSpec.ofChange fnExactBuildEthSpec)

/-- ITS FALSE NEIGHBOUR: 'it returns false'. Refute it at one input. -/
def fnExactBuildEthWrong : ChangeSpec := { name := "fnExactBuildEth", fn := fun _ => fun
  | [d] => { results := [.lit (.bool false)], args := [d] }
  | _ => none }
def FnExactBuildEthWrongFalsely : Prop := fnExactBuildEthRow.holds Try.pinned (OpenSpec.ofChange fnExactBuildEthWrong)

/-- 'laws.FnExactInsertTag': WHATEVER THE INPUT: true; the input reads as it did. -/
def fnExactInsertTagSpec : ChangeSpec := { name := "fnExactInsertTag", fn := fun _ => fun
  | [d1, d2] => { results := [.lit (.bool true)], args := [d1, d2] }
  | _ => none }
def fnExactInsertTagRow : OpenClaim := { program := "ytoikpdijkdmimaa", sum := "938a0207788547040dde739e7bdf9df5edbd7d96bb58a077dd56e53dd31054df", func := "loop.example/g03312/laws.FnExactInsertTag", spec := "fnExactInsertTag", apart := false }
def FnExactInsertTagSaid : Prop := fnExactInsertTagRow.holds Try.pinned (OpenSpec.ofChange fnExactInsertTagSpec)

/-- ITS FALSE NEIGHBOUR: 'it returns false'. Refute it at one input. -/
def fnExactInsertTagWrong : ChangeSpec := { name := "fnExactInsertTag", fn := fun _ => fun
  | [d1, d2] => { results := [.lit (.bool false)], args := [d1, d2] }
  | _ => none }
def FnExactInsertTagWrongFalsely : Prop := fnExactInsertTagRow.holds Try.pinned (OpenSpec.ofChange fnExactInsertTagWrong)

/-- 'laws.FnExactStripTag': WHATEVER THE INPUT: true; the input reads as it did. -/
def fnExactStripTagSpec : ChangeSpec := { name := "fnExactStripTag", fn := fun _ => fun
  | [d] => { results := [.lit (.bool true)], args := [d] }
  | _ => none }
def fnExactStripTagRow : OpenClaim := { program := "ytoikpdijkdmimaa", sum := "938a0207788547040dde739e7bdf9df5edbd7d96bb58a077dd56e53dd31054df", func := "loop.example/g03312/laws.FnExactStripTag", spec := "fnExactStripTag", apart := false }
def FnExactStripTagSaid : Prop := fnExactStripTagRow.holds Try.pinned (OpenSpec.ofChange fnExactStripTagSpec)

/-- ITS FALSE NEIGHBOUR: 'it returns false'. Refute it at one input. -/
def fnExactStripTagWrong : ChangeSpec := { name := "fnExactStripTag", fn := fun _ => fun
  | [d] => { results := [.lit (.bool false)], args := [d] }
  | _ => none }
def FnExactStripTagWrongFalsely : Prop := fnExactStripTagRow.holds Try.pinned (OpenSpec.ofChange fnExactStripTagWrong)

/-- 'laws.FnClamped': WHATEVER THE INPUT: true; the input reads as it did. -/
def fnClampedSpec : ChangeSpec := { name := "fnClamped", fn := fun _ => fun
  | [d] => { results := [.lit (.bool true)], args := [d] }
  | _ => none }
def fnClampedRow : OpenClaim := { program := "ytoikpdijkdmimaa", sum := "938a0207788547040dde739e7bdf9df5edbd7d96bb58a077dd56e53dd31054df", func := "loop.example/g03312/laws.FnClamped", spec := "fnClamped", apart := false }
def FnClampedSaid : Prop := fnClampedRow.holds Try.pinned (OpenSpec.ofChange fnClampedSpec)

/-- ITS FALSE NEIGHBOUR: 'it returns false'. Refute it at one input. -/
def fnClampedWrong : ChangeSpec := { name := "fnClamped", fn := fun _ => fun
  | [d] => { results := [.lit (.bool false)], args := [d] }
  | _ => none }
def FnClampedWrongFalsely : Prop := fnClampedRow.holds Try.pinned (OpenSpec.ofChange fnClampedWrong)

/- THE SECOND FORM. 'bulk': how many values and letters a reading holds, each counted each time it is reached (what is shared counts as often as it is met; a slice's spare places count too). A statement '..UptoSaid' is the law's where the arguments, and the package variables that the reading takes, are together of bulk at most 1048576: NARROWER than '..Said'. Prove '..Said' where nothing that the law and all that it calls make is longer than what came in: it says more and counts as full. Else prove '..UptoSaid'. A law counts once. -/
mutual
def uptoBulk {H : Type} : DataW H → Nat
  | .lit (.string bytes) => bytes.length + 1
  | .lit _ => 1
  | .nil => 1
  | .ptr d => uptoBulk d + 1
  | .slice elems spare => uptoBulkAll elems + uptoBulkAll spare + 1
  | .agg parts => uptoBulkAll parts + 1
  | .iface _ d => uptoBulk d + 1
  | .map entries => uptoBulkEntries entries + 1
  | .held _ => 1
def uptoBulkAll {H : Type} : List (DataW H) → Nat
  | [] => 0
  | d :: r => uptoBulk d + uptoBulkAll r
def uptoBulkEntries {H : Type} : List (Lit × DataW H) → Nat
  | [] => 0
  | x :: r => uptoBulkEntry x + uptoBulkEntries r
def uptoBulkEntry {H : Type} : Lit × DataW H → Nat
  | (.string bytes, d) => bytes.length + uptoBulk d + 1
  | (_, d) => uptoBulk d + 1
 end
def uptoSmall : (H : Type) → List (DataW H) → Bool := fun _ ds => decide (uptoBulkAll ds ≤ 1048576)
def OpenSpec.upto (s : _root_.Go.ChangeSpec) : _root_.Go.OpenSpec := { _root_.Go.OpenSpec.ofChange s with cond := some uptoSmall }

/-- 'laws.FnExactSuperOk', WHERE WHAT IT READS IS OF BULK AT MOST 1048576: true; the input reads as it did. -/
def fnExactSuperOkUptoRow : OpenClaim := { program := "ytoikpdijkdmimaa", sum := "938a0207788547040dde739e7bdf9df5edbd7d96bb58a077dd56e53dd31054df", func := "loop.example/g03312/laws.FnExactSuperOk", spec := "fnExactSuperOk", apart := false, narrowed := true }
def FnExactSuperOkUptoSaid : Prop := fnExactSuperOkUptoRow.holds Try.pinned (OpenSpec.upto fnExactSuperOkSpec)

/-- 'laws.FnExactPacketOk', WHERE WHAT IT READS IS OF BULK AT MOST 1048576: true; the input reads as it did. -/
def fnExactPacketOkUptoRow : OpenClaim := { program := "ytoikpdijkdmimaa", sum := "938a0207788547040dde739e7bdf9df5edbd7d96bb58a077dd56e53dd31054df", func := "loop.example/g03312/laws.FnExactPacketOk", spec := "fnExactPacketOk", apart := false, narrowed := true }
def FnExactPacketOkUptoSaid : Prop := fnExactPacketOkUptoRow.holds Try.pinned (OpenSpec.upto fnExactPacketOkSpec)

/-- 'laws.FnExactBuildEth', WHERE WHAT IT READS IS OF BULK AT MOST 1048576: true; the input reads as it did. -/
def fnExactBuildEthUptoRow : OpenClaim := { program := "ytoikpdijkdmimaa", sum := "938a0207788547040dde739e7bdf9df5edbd7d96bb58a077dd56e53dd31054df", func := "loop.example/g03312/laws.FnExactBuildEth", spec := "fnExactBuildEth", apart := false, narrowed := true }
def FnExactBuildEthUptoSaid : Prop := fnExactBuildEthUptoRow.holds Try.pinned (OpenSpec.upto fnExactBuildEthSpec)

/-- 'laws.FnExactInsertTag', WHERE WHAT IT READS IS OF BULK AT MOST 1048576: true; the input reads as it did. -/
def fnExactInsertTagUptoRow : OpenClaim := { program := "ytoikpdijkdmimaa", sum := "938a0207788547040dde739e7bdf9df5edbd7d96bb58a077dd56e53dd31054df", func := "loop.example/g03312/laws.FnExactInsertTag", spec := "fnExactInsertTag", apart := false, narrowed := true }
def FnExactInsertTagUptoSaid : Prop := fnExactInsertTagUptoRow.holds Try.pinned (OpenSpec.upto fnExactInsertTagSpec)

/-- 'laws.FnExactStripTag', WHERE WHAT IT READS IS OF BULK AT MOST 1048576: true; the input reads as it did. -/
def fnExactStripTagUptoRow : OpenClaim := { program := "ytoikpdijkdmimaa", sum := "938a0207788547040dde739e7bdf9df5edbd7d96bb58a077dd56e53dd31054df", func := "loop.example/g03312/laws.FnExactStripTag", spec := "fnExactStripTag", apart := false, narrowed := true }
def FnExactStripTagUptoSaid : Prop := fnExactStripTagUptoRow.holds Try.pinned (OpenSpec.upto fnExactStripTagSpec)

/-- 'laws.FnClamped', WHERE WHAT IT READS IS OF BULK AT MOST 1048576: true; the input reads as it did. -/
def fnClampedUptoRow : OpenClaim := { program := "ytoikpdijkdmimaa", sum := "938a0207788547040dde739e7bdf9df5edbd7d96bb58a077dd56e53dd31054df", func := "loop.example/g03312/laws.FnClamped", spec := "fnClamped", apart := false, narrowed := true }
def FnClampedUptoSaid : Prop := fnClampedUptoRow.holds Try.pinned (OpenSpec.upto fnClampedSpec)

end Rows
end Go.Proofs.Ytoikpdijkdmimaa
