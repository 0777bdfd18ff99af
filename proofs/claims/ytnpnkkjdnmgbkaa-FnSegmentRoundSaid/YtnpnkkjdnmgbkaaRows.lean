/-
  No cell of these rows narrows 'for every input' (looked for: loops, veiled, ifaces, maps, wideKeys, modest, calm, conditions, laid).
  DERIVED. THE GIVEN ROWS OF THIS SEAT. 10 by the template 'for every input the law returns true; each argument reads behind the call as it read before'; 0 by the template 'total and deterministic' (their statements: YtnpnkkjdnmgbkaaTotals.lean).
  GIVEN WITH THE SEED: the statements are not yours to turn. If you find one false, say at which input.
  Laid BY PROGRAM, IN A SANDBOX (cutbox-rows.mjs): the forced cells as the released guide's own fill.sh prints them over the translation 86ba18a659a4e1ac… (all of the seat's roots in one cut). By AI agents, Wed Nov 11 2026. No macro, syntax, notation, axiom, sorry.
-/
import Derived.Test.YtnpnkkjdnmgbkaaChecked
import GoSem.Claim
import GoSem.ClaimJoined
import GoSem.ClaimMapViews
import Derived.JoinedTies
import Derived.KernelRfl
namespace Go.Proofs.Ytnpnkkjdnmgbkaa
/- THE CELL 'sum', in the pinned program and in every row, IS THE sha256 OF THE DUMP (.gsa) THAT YtnpnkkjdnmgbkaaProg.lean LOADS. Nothing in Lean hashes anything: it is a label: what it is worth is what the hold of that sum in a sandbox is worth. -/
noncomputable def Try.pinned : Pinned := { name := "ytnpnkkjdnmgbkaa", sum := "86ba18a659a4e1ac9d20b9d5615210c43204a3aa9b2772e7df6735db05582e88", checked := Try.checked }
namespace Rows
def none {H : Type} : Left H := { results := [], args := [] }

/-- 'laws.FnCrcSees': WHATEVER THE INPUT: true; the input reads as it did. -/
def fnCrcSeesSpec : ChangeSpec := { name := "fnCrcSees", fn := fun _ => fun
  | [d] => { results := [.lit (.bool true)], args := [d] }
  | _ => none }
def fnCrcSeesRow : OpenClaim := { program := "ytnpnkkjdnmgbkaa", sum := "86ba18a659a4e1ac9d20b9d5615210c43204a3aa9b2772e7df6735db05582e88", func := "loop.example/g03312/laws.FnCrcSees", spec := "fnCrcSees", apart := false }
def FnCrcSeesSaid : Prop := fnCrcSeesRow.holds Try.pinned (OpenSpec.ofChange fnCrcSeesSpec)

/-- ITS FALSE NEIGHBOUR: 'it returns false'. Refute it at one input. -/
def fnCrcSeesWrong : ChangeSpec := { name := "fnCrcSees", fn := fun _ => fun
  | [d] => { results := [.lit (.bool false)], args := [d] }
  | _ => none }
def FnCrcSeesWrongFalsely : Prop := fnCrcSeesRow.holds Try.pinned (OpenSpec.ofChange fnCrcSeesWrong)

/-- 'laws.FnSumInserted': WHATEVER THE INPUT: true; the input reads as it did. -/
def fnSumInsertedSpec : ChangeSpec := { name := "fnSumInserted", fn := fun _ => fun
  | [d] => { results := [.lit (.bool true)], args := [d] }
  | _ => none }
def fnSumInsertedRow : OpenClaim := { program := "ytnpnkkjdnmgbkaa", sum := "86ba18a659a4e1ac9d20b9d5615210c43204a3aa9b2772e7df6735db05582e88", func := "loop.example/g03312/laws.FnSumInserted", spec := "fnSumInserted", apart := false }
def FnSumInsertedSaid : Prop := fnSumInsertedRow.holds Try.pinned (OpenSpec.ofChange fnSumInsertedSpec)

/-- ITS FALSE NEIGHBOUR: 'it returns false'. Refute it at one input. -/
def fnSumInsertedWrong : ChangeSpec := { name := "fnSumInserted", fn := fun _ => fun
  | [d] => { results := [.lit (.bool false)], args := [d] }
  | _ => none }
def FnSumInsertedWrongFalsely : Prop := fnSumInsertedRow.holds Try.pinned (OpenSpec.ofChange fnSumInsertedWrong)

/-- 'laws.FnWords': WHATEVER THE INPUT: true; the input reads as it did. -/
def fnWordsSpec : ChangeSpec := { name := "fnWords", fn := fun _ => fun
  | [d] => { results := [.lit (.bool true)], args := [d] }
  | _ => none }
def fnWordsRow : OpenClaim := { program := "ytnpnkkjdnmgbkaa", sum := "86ba18a659a4e1ac9d20b9d5615210c43204a3aa9b2772e7df6735db05582e88", func := "loop.example/g03312/laws.FnWords", spec := "fnWords", apart := false }
def FnWordsSaid : Prop := fnWordsRow.holds Try.pinned (OpenSpec.ofChange fnWordsSpec)

/-- ITS FALSE NEIGHBOUR: 'it returns false'. Refute it at one input. -/
def fnWordsWrong : ChangeSpec := { name := "fnWords", fn := fun _ => fun
  | [d] => { results := [.lit (.bool false)], args := [d] }
  | _ => none }
def FnWordsWrongFalsely : Prop := fnWordsRow.holds Try.pinned (OpenSpec.ofChange fnWordsWrong)

/-- 'laws.FnSumUpdated': WHATEVER THE INPUT: true; the input reads as it did. -/
def fnSumUpdatedSpec : ChangeSpec := { name := "fnSumUpdated", fn := fun _ => fun
  | [d] => { results := [.lit (.bool true)], args := [d] }
  | _ => none }
def fnSumUpdatedRow : OpenClaim := { program := "ytnpnkkjdnmgbkaa", sum := "86ba18a659a4e1ac9d20b9d5615210c43204a3aa9b2772e7df6735db05582e88", func := "loop.example/g03312/laws.FnSumUpdated", spec := "fnSumUpdated", apart := false }
def FnSumUpdatedSaid : Prop := fnSumUpdatedRow.holds Try.pinned (OpenSpec.ofChange fnSumUpdatedSpec)

/-- ITS FALSE NEIGHBOUR: 'it returns false'. Refute it at one input. -/
def fnSumUpdatedWrong : ChangeSpec := { name := "fnSumUpdated", fn := fun _ => fun
  | [d] => { results := [.lit (.bool false)], args := [d] }
  | _ => none }
def FnSumUpdatedWrongFalsely : Prop := fnSumUpdatedRow.holds Try.pinned (OpenSpec.ofChange fnSumUpdatedWrong)

/-- 'laws.FnEthRound': WHATEVER THE INPUT: true; the input reads as it did. -/
def fnEthRoundSpec : ChangeSpec := { name := "fnEthRound", fn := fun _ => fun
  | [d] => { results := [.lit (.bool true)], args := [d] }
  | _ => none }
def fnEthRoundRow : OpenClaim := { program := "ytnpnkkjdnmgbkaa", sum := "86ba18a659a4e1ac9d20b9d5615210c43204a3aa9b2772e7df6735db05582e88", func := "loop.example/g03312/laws.FnEthRound", spec := "fnEthRound", apart := false }
def FnEthRoundSaid : Prop := fnEthRoundRow.holds Try.pinned (OpenSpec.ofChange fnEthRoundSpec)

/-- ITS FALSE NEIGHBOUR: 'it returns false'. Refute it at one input. -/
def fnEthRoundWrong : ChangeSpec := { name := "fnEthRound", fn := fun _ => fun
  | [d] => { results := [.lit (.bool false)], args := [d] }
  | _ => none }
def FnEthRoundWrongFalsely : Prop := fnEthRoundRow.holds Try.pinned (OpenSpec.ofChange fnEthRoundWrong)

/-- 'laws.FnIpRound': WHATEVER THE INPUT: true; the input reads as it did. -/
def fnIpRoundSpec : ChangeSpec := { name := "fnIpRound", fn := fun _ => fun
  | [d] => { results := [.lit (.bool true)], args := [d] }
  | _ => none }
def fnIpRoundRow : OpenClaim := { program := "ytnpnkkjdnmgbkaa", sum := "86ba18a659a4e1ac9d20b9d5615210c43204a3aa9b2772e7df6735db05582e88", func := "loop.example/g03312/laws.FnIpRound", spec := "fnIpRound", apart := false }
def FnIpRoundSaid : Prop := fnIpRoundRow.holds Try.pinned (OpenSpec.ofChange fnIpRoundSpec)

/-- ITS FALSE NEIGHBOUR: 'it returns false'. Refute it at one input. -/
def fnIpRoundWrong : ChangeSpec := { name := "fnIpRound", fn := fun _ => fun
  | [d] => { results := [.lit (.bool false)], args := [d] }
  | _ => none }
def FnIpRoundWrongFalsely : Prop := fnIpRoundRow.holds Try.pinned (OpenSpec.ofChange fnIpRoundWrong)

/-- 'laws.FnSegmentRound': WHATEVER THE INPUT: true; the input reads as it did. -/
def fnSegmentRoundSpec : ChangeSpec := { name := "fnSegmentRound", fn := fun _ => fun
  | [d] => { results := [.lit (.bool true)], args := [d] }
  | _ => none }
def fnSegmentRoundRow : OpenClaim := { program := "ytnpnkkjdnmgbkaa", sum := "86ba18a659a4e1ac9d20b9d5615210c43204a3aa9b2772e7df6735db05582e88", func := "loop.example/g03312/laws.FnSegmentRound", spec := "fnSegmentRound", apart := false }
def FnSegmentRoundSaid : Prop := fnSegmentRoundRow.holds Try.pinned (OpenSpec.ofChange fnSegmentRoundSpec)

/-- ITS FALSE NEIGHBOUR: 'it returns false'. Refute it at one input. -/
def fnSegmentRoundWrong : ChangeSpec := { name := "fnSegmentRound", fn := fun _ => fun
  | [d] => { results := [.lit (.bool false)], args := [d] }
  | _ => none }
def FnSegmentRoundWrongFalsely : Prop := fnSegmentRoundRow.holds Try.pinned (OpenSpec.ofChange fnSegmentRoundWrong)

/-- 'laws.FnTtl': WHATEVER THE INPUT: true; the input reads as it did. -/
def fnTtlSpec : ChangeSpec := { name := "fnTtl", fn := fun _ => fun
  | [d] => { results := [.lit (.bool true)], args := [d] }
  | _ => none }
def fnTtlRow : OpenClaim := { program := "ytnpnkkjdnmgbkaa", sum := "86ba18a659a4e1ac9d20b9d5615210c43204a3aa9b2772e7df6735db05582e88", func := "loop.example/g03312/laws.FnTtl", spec := "fnTtl", apart := false }
def FnTtlSaid : Prop := fnTtlRow.holds Try.pinned (OpenSpec.ofChange fnTtlSpec)

/-- ITS FALSE NEIGHBOUR: 'it returns false'. Refute it at one input. -/
def fnTtlWrong : ChangeSpec := { name := "fnTtl", fn := fun _ => fun
  | [d] => { results := [.lit (.bool false)], args := [d] }
  | _ => none }
def FnTtlWrongFalsely : Prop := fnTtlRow.holds Try.pinned (OpenSpec.ofChange fnTtlWrong)

/-- 'laws.FnPacketRound': WHATEVER THE INPUT: true; the input reads as it did. -/
def fnPacketRoundSpec : ChangeSpec := { name := "fnPacketRound", fn := fun _ => fun
  | [d] => { results := [.lit (.bool true)], args := [d] }
  | _ => none }
def fnPacketRoundRow : OpenClaim := { program := "ytnpnkkjdnmgbkaa", sum := "86ba18a659a4e1ac9d20b9d5615210c43204a3aa9b2772e7df6735db05582e88", func := "loop.example/g03312/laws.FnPacketRound", spec := "fnPacketRound", apart := false }
def FnPacketRoundSaid : Prop := fnPacketRoundRow.holds Try.pinned (OpenSpec.ofChange fnPacketRoundSpec)

/-- ITS FALSE NEIGHBOUR: 'it returns false'. Refute it at one input. -/
def fnPacketRoundWrong : ChangeSpec := { name := "fnPacketRound", fn := fun _ => fun
  | [d] => { results := [.lit (.bool false)], args := [d] }
  | _ => none }
def FnPacketRoundWrongFalsely : Prop := fnPacketRoundRow.holds Try.pinned (OpenSpec.ofChange fnPacketRoundWrong)

/-- 'laws.FnBitNoticed': WHATEVER THE INPUT: true; the input reads as it did. -/
def fnBitNoticedSpec : ChangeSpec := { name := "fnBitNoticed", fn := fun _ => fun
  | [d] => { results := [.lit (.bool true)], args := [d] }
  | _ => none }
def fnBitNoticedRow : OpenClaim := { program := "ytnpnkkjdnmgbkaa", sum := "86ba18a659a4e1ac9d20b9d5615210c43204a3aa9b2772e7df6735db05582e88", func := "loop.example/g03312/laws.FnBitNoticed", spec := "fnBitNoticed", apart := false }
def FnBitNoticedSaid : Prop := fnBitNoticedRow.holds Try.pinned (OpenSpec.ofChange fnBitNoticedSpec)

/-- ITS FALSE NEIGHBOUR: 'it returns false'. Refute it at one input. -/
def fnBitNoticedWrong : ChangeSpec := { name := "fnBitNoticed", fn := fun _ => fun
  | [d] => { results := [.lit (.bool false)], args := [d] }
  | _ => none }
def FnBitNoticedWrongFalsely : Prop := fnBitNoticedRow.holds Try.pinned (OpenSpec.ofChange fnBitNoticedWrong)

/- THE SECOND FORM. 'bulk': how many values and letters a reading holds, each counted each time it is reached (what is shared counts as often as it is met; a slice's spare places count too). A statement '..UptoSaid' is the law's where the arguments, and the package variables that the reading takes, are together of bulk at most 1048576: NARROWER than '..Said'. Prove '..Said' where nothing that the law and all that it calls make is longer than what came in: it says more and counts as full. Else prove '..UptoSaid'. A law counts once. -/
mutual
def uptoBulk {H : Type} : DataW H → Nat
  | .lit (.string bytes) => bytes.length + 1
  | .lit _ => 1
  | .nil => 1
  | .ptr d => uptoBulk d + 1
  | .slice elems spare => uptoBulkAll elems + uptoBulkAll spare + 1
  | .agg parts => uptoBulkAll parts + 1
  | .iface _ d => uptoBulk d + 1
  | .map entries => uptoBulkEntries entries + 1
  | .held _ => 1
def uptoBulkAll {H : Type} : List (DataW H) → Nat
  | [] => 0
  | d :: r => uptoBulk d + uptoBulkAll r
def uptoBulkEntries {H : Type} : List (Lit × DataW H) → Nat
  | [] => 0
  | x :: r => uptoBulkEntry x + uptoBulkEntries r
def uptoBulkEntry {H : Type} : Lit × DataW H → Nat
  | (.string bytes, d) => bytes.length + uptoBulk d + 1
  | (_, d) => uptoBulk d + 1
 end
def uptoSmall : (H : Type) → List (DataW H) → Bool := fun _ ds => decide (uptoBulkAll ds ≤ 1048576)
def OpenSpec.upto (s : _root_.Go.ChangeSpec) : _root_.Go.OpenSpec := { _root_.Go.OpenSpec.ofChange s with cond := some uptoSmall }

/-- 'laws.FnCrcSees', WHERE WHAT IT READS IS OF BULK AT MOST 1048576: true; the input reads as it did. -/
def fnCrcSeesUptoRow : OpenClaim := { program := "ytnpnkkjdnmgbkaa", sum := "86ba18a659a4e1ac9d20b9d5615210c43204a3aa9b2772e7df6735db05582e88", func := "loop.example/g03312/laws.FnCrcSees", spec := "fnCrcSees", apart := false, narrowed := true }
def FnCrcSeesUptoSaid : Prop := fnCrcSeesUptoRow.holds Try.pinned (OpenSpec.upto fnCrcSeesSpec)

/-- 'laws.FnSumInserted', WHERE WHAT IT READS IS OF BULK AT MOST 1048576: true; the input reads as it did. -/
def fnSumInsertedUptoRow : OpenClaim := { program := "ytnpnkkjdnmgbkaa", sum := "86ba18a659a4e1ac9d20b9d5615210c43204a3aa9b2772e7df6735db05582e88", func := "loop.example/g03312/laws.FnSumInserted", spec := "fnSumInserted", apart := false, narrowed := true }
def FnSumInsertedUptoSaid : Prop := fnSumInsertedUptoRow.holds Try.pinned (OpenSpec.upto fnSumInsertedSpec)

/-- 'laws.FnWords', WHERE WHAT IT READS IS OF BULK AT MOST 1048576: true; the input reads as it did. -/
def fnWordsUptoRow : OpenClaim := { program := "ytnpnkkjdnmgbkaa", sum := "86ba18a659a4e1ac9d20b9d5615210c43204a3aa9b2772e7df6735db05582e88", func := "loop.example/g03312/laws.FnWords", spec := "fnWords", apart := false, narrowed := true }
def FnWordsUptoSaid : Prop := fnWordsUptoRow.holds Try.pinned (OpenSpec.upto fnWordsSpec)

/-- 'laws.FnSumUpdated', WHERE WHAT IT READS IS OF BULK AT MOST 1048576: true; the input reads as it did. -/
def fnSumUpdatedUptoRow : OpenClaim := { program := "ytnpnkkjdnmgbkaa", sum := "86ba18a659a4e1ac9d20b9d5615210c43204a3aa9b2772e7df6735db05582e88", func := "loop.example/g03312/laws.FnSumUpdated", spec := "fnSumUpdated", apart := false, narrowed := true }
def FnSumUpdatedUptoSaid : Prop := fnSumUpdatedUptoRow.holds Try.pinned (OpenSpec.upto fnSumUpdatedSpec)

/-- 'laws.FnEthRound', WHERE WHAT IT READS IS OF BULK AT MOST 1048576: true; the input reads as it did. -/
def fnEthRoundUptoRow : OpenClaim := { program := "ytnpnkkjdnmgbkaa", sum := "86ba18a659a4e1ac9d20b9d5615210c43204a3aa9b2772e7df6735db05582e88", func := "loop.example/g03312/laws.FnEthRound", spec := "fnEthRound", apart := false, narrowed := true }
def FnEthRoundUptoSaid : Prop := fnEthRoundUptoRow.holds Try.pinned (OpenSpec.upto fnEthRoundSpec)

/-- 'laws.FnIpRound', WHERE WHAT IT READS IS OF BULK AT MOST 1048576: true; the input reads as it did. -/
def fnIpRoundUptoRow : OpenClaim := { program := "ytnpnkkjdnmgbkaa", sum := "86ba18a659a4e1ac9d20b9d5615210c43204a3aa9b2772e7df6735db05582e88", func := "loop.example/g03312/laws.FnIpRound", spec := "fnIpRound", apart := false, narrowed := true }
def FnIpRoundUptoSaid : Prop := fnIpRoundUptoRow.holds Try.pinned (OpenSpec.upto fnIpRoundSpec)

/-- 'laws.FnSegmentRound', WHERE WHAT IT READS IS OF BULK AT MOST 1048576: true; the input reads as it did. -/
def fnSegmentRoundUptoRow : OpenClaim := { program := "ytnpnkkjdnmgbkaa", sum := "86ba18a659a4e1ac9d20b9d5615210c43204a3aa9b2772e7df6735db05582e88", func := "loop.example/g03312/laws.FnSegmentRound", spec := "fnSegmentRound", apart := false, narrowed := true }
def FnSegmentRoundUptoSaid : Prop := fnSegmentRoundUptoRow.holds Try.pinned (OpenSpec.upto fnSegmentRoundSpec)

/-- 'laws.FnTtl', WHERE WHAT IT READS IS OF BULK AT MOST 1048576: true; the input reads as it did. -/
def fnTtlUptoRow : OpenClaim := { program := "ytnpnkkjdnmgbkaa", sum := "86ba18a659a4e1ac9d20b9d5615210c43204a3aa9b2772e7df6735db05582e88", func := "loop.example/g03312/laws.FnTtl", spec := "fnTtl", apart := false, narrowed := true }
def FnTtlUptoSaid : Prop := fnTtlUptoRow.holds Try.pinned (OpenSpec.upto fnTtlSpec)

/-- 'laws.FnPacketRound', WHERE WHAT IT READS IS OF BULK AT MOST 1048576: true; the input reads as it did. -/
def fnPacketRoundUptoRow : OpenClaim := { program := "ytnpnkkjdnmgbkaa", sum := "86ba18a659a4e1ac9d20b9d5615210c43204a3aa9b2772e7df6735db05582e88", func := "loop.example/g03312/laws.FnPacketRound", spec := "fnPacketRound", apart := false, narrowed := true }
def FnPacketRoundUptoSaid : Prop := fnPacketRoundUptoRow.holds Try.pinned (OpenSpec.upto fnPacketRoundSpec)

/-- 'laws.FnBitNoticed', WHERE WHAT IT READS IS OF BULK AT MOST 1048576: true; the input reads as it did. -/
def fnBitNoticedUptoRow : OpenClaim := { program := "ytnpnkkjdnmgbkaa", sum := "86ba18a659a4e1ac9d20b9d5615210c43204a3aa9b2772e7df6735db05582e88", func := "loop.example/g03312/laws.FnBitNoticed", spec := "fnBitNoticed", apart := false, narrowed := true }
def FnBitNoticedUptoSaid : Prop := fnBitNoticedUptoRow.holds Try.pinned (OpenSpec.upto fnBitNoticedSpec)

end Rows
end Go.Proofs.Ytnpnkkjdnmgbkaa
