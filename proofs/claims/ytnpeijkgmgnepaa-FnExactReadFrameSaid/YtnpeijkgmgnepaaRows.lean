/-
  No cell of these rows narrows 'for every input' (looked for: loops, veiled, ifaces, maps, wideKeys, modest, calm, conditions, laid).
  DERIVED. THE GIVEN ROWS OF THIS SEAT. 12 by the template 'for every input the law returns true; each argument reads behind the call as it read before'; 0 by the template 'total and deterministic' (their statements: YtnpeijkgmgnepaaTotals.lean).
  GIVEN WITH THE SEED: the statements are not yours to turn. If you find one false, say at which input.
  Laid BY PROGRAM, IN A SANDBOX (cutbox-rows.mjs): the forced cells as the released guide's own fill.sh prints them over the translation ae511e2eb2adc3e2… (all of the seat's roots in one cut). By AI agents, Wed Nov 11 2026. No macro, syntax, notation, axiom, sorry.
-/
import Derived.Test.YtnpeijkgmgnepaaChecked
import GoSem.Claim
import GoSem.ClaimJoined
import GoSem.ClaimMapViews
import Derived.JoinedTies
import Derived.KernelRfl
namespace Go.Proofs.Ytnpeijkgmgnepaa
/- THE CELL 'sum', in the pinned program and in every row, IS THE sha256 OF THE DUMP (.gsa) THAT YtnpeijkgmgnepaaProg.lean LOADS. Nothing in Lean hashes anything: it is a label: what it is worth is what the hold of that sum in a sandbox is worth. -/
noncomputable def Try.pinned : Pinned := { name := "ytnpeijkgmgnepaa", sum := "ae511e2eb2adc3e20d5fc4979999c84e3fc5aad91e5cec829d5fa1ac7c13df96", checked := Try.checked }
namespace Rows
def none {H : Type} : Left H := { results := [], args := [] }

/-- 'laws.FnExactBuildFrame': WHATEVER THE INPUT: true; the input reads as it did. -/
def fnExactBuildFrameSpec : ChangeSpec := { name := "fnExactBuildFrame", fn := fun _ => fun
  | [d] => { results := [.lit (.bool true)], args := [d] }
  | _ => none }
def fnExactBuildFrameRow : OpenClaim := { program := "ytnpeijkgmgnepaa", sum := "ae511e2eb2adc3e20d5fc4979999c84e3fc5aad91e5cec829d5fa1ac7c13df96", func := "loop.example/g03312/laws.FnExactBuildFrame", spec := "fnExactBuildFrame", apart := false }
def FnExactBuildFrameSaid : Prop := fnExactBuildFrameRow.holds Try.pinned (OpenSpec.ofChange fnExactBuildFrameSpec)

/-- ITS FALSE NEIGHBOUR: 'it returns false'. Refute it at one input. -/
def fnExactBuildFrameWrong : ChangeSpec := { name := "fnExactBuildFrame", fn := fun _ => fun
  | [d] => { results := [.lit (.bool false)], args := [d] }
  | _ => none }
def FnExactBuildFrameWrongFalsely : Prop := fnExactBuildFrameRow.holds Try.pinned (OpenSpec.ofChange fnExactBuildFrameWrong)

/-- 'laws.FnExactReadImage': WHATEVER THE INPUT: true; the input reads as it did. -/
def fnExactReadImageSpec : ChangeSpec := { name := "fnExactReadImage", fn := fun _ => fun
  | [d] => { results := [.lit (.bool true)], args := [d] }
  | _ => none }
def fnExactReadImageRow : OpenClaim := { program := "ytnpeijkgmgnepaa", sum := "ae511e2eb2adc3e20d5fc4979999c84e3fc5aad91e5cec829d5fa1ac7c13df96", func := "loop.example/g03312/laws.FnExactReadImage", spec := "fnExactReadImage", apart := false }
def FnExactReadImageSaid : Prop := fnExactReadImageRow.holds Try.pinned (OpenSpec.ofChange fnExactReadImageSpec)

/-- ITS FALSE NEIGHBOUR: 'it returns false'. Refute it at one input. -/
def fnExactReadImageWrong : ChangeSpec := { name := "fnExactReadImage", fn := fun _ => fun
  | [d] => { results := [.lit (.bool false)], args := [d] }
  | _ => none }
def FnExactReadImageWrongFalsely : Prop := fnExactReadImageRow.holds Try.pinned (OpenSpec.ofChange fnExactReadImageWrong)

/-- 'laws.FnExactReadFrame': WHATEVER THE INPUT: true; the input reads as it did. -/
def fnExactReadFrameSpec : ChangeSpec := { name := "fnExactReadFrame", fn := fun _ => fun
  | [d] => { results := [.lit (.bool true)], args := [d] }
  | _ => none }
def fnExactReadFrameRow : OpenClaim := { program := "ytnpeijkgmgnepaa", sum := "ae511e2eb2adc3e20d5fc4979999c84e3fc5aad91e5cec829d5fa1ac7c13df96", func := "loop.example/g03312/laws.FnExactReadFrame", spec := "fnExactReadFrame", apart := false }
def FnExactReadFrameSaid : Prop := fnExactReadFrameRow.holds Try.pinned (OpenSpec.ofChange fnExactReadFrameSpec)

/-- ITS FALSE NEIGHBOUR: 'it returns false'. Refute it at one input. -/
def fnExactReadFrameWrong : ChangeSpec := { name := "fnExactReadFrame", fn := fun _ => fun
  | [d] => { results := [.lit (.bool false)], args := [d] }
  | _ => none }
def FnExactReadFrameWrongFalsely : Prop := fnExactReadFrameRow.holds Try.pinned (OpenSpec.ofChange fnExactReadFrameWrong)

/-- 'laws.FnExactBuildImage': WHATEVER THE INPUT: true; the input reads as it did. -/
def fnExactBuildImageSpec : ChangeSpec := { name := "fnExactBuildImage", fn := fun _ => fun
  | [d] => { results := [.lit (.bool true)], args := [d] }
  | _ => none }
def fnExactBuildImageRow : OpenClaim := { program := "ytnpeijkgmgnepaa", sum := "ae511e2eb2adc3e20d5fc4979999c84e3fc5aad91e5cec829d5fa1ac7c13df96", func := "loop.example/g03312/laws.FnExactBuildImage", spec := "fnExactBuildImage", apart := false }
def FnExactBuildImageSaid : Prop := fnExactBuildImageRow.holds Try.pinned (OpenSpec.ofChange fnExactBuildImageSpec)

/-- ITS FALSE NEIGHBOUR: 'it returns false'. Refute it at one input. -/
def fnExactBuildImageWrong : ChangeSpec := { name := "fnExactBuildImage", fn := fun _ => fun
  | [d] => { results := [.lit (.bool false)], args := [d] }
  | _ => none }
def FnExactBuildImageWrongFalsely : Prop := fnExactBuildImageRow.holds Try.pinned (OpenSpec.ofChange fnExactBuildImageWrong)

/-- 'laws.FnExactParseSegment': WHATEVER THE INPUT: true; the input reads as it did. -/
def fnExactParseSegmentSpec : ChangeSpec := { name := "fnExactParseSegment", fn := fun _ => fun
  | [d1, d2, d3, d4] => { results := [.lit (.bool true)], args := [d1, d2, d3, d4] }
  | _ => none }
def fnExactParseSegmentRow : OpenClaim := { program := "ytnpeijkgmgnepaa", sum := "ae511e2eb2adc3e20d5fc4979999c84e3fc5aad91e5cec829d5fa1ac7c13df96", func := "loop.example/g03312/laws.FnExactParseSegment", spec := "fnExactParseSegment", apart := false }
def FnExactParseSegmentSaid : Prop := fnExactParseSegmentRow.holds Try.pinned (OpenSpec.ofChange fnExactParseSegmentSpec)

/-- ITS FALSE NEIGHBOUR: 'it returns false'. Refute it at one input. -/
def fnExactParseSegmentWrong : ChangeSpec := { name := "fnExactParseSegment", fn := fun _ => fun
  | [d1, d2, d3, d4] => { results := [.lit (.bool false)], args := [d1, d2, d3, d4] }
  | _ => none }
def FnExactParseSegmentWrongFalsely : Prop := fnExactParseSegmentRow.holds Try.pinned (OpenSpec.ofChange fnExactParseSegmentWrong)

/-- 'laws.FnExactBuildSegment': WHATEVER THE INPUT: true; the input reads as it did. -/
def fnExactBuildSegmentSpec : ChangeSpec := { name := "fnExactBuildSegment", fn := fun _ => fun
  | [d1, d2, d3] => { results := [.lit (.bool true)], args := [d1, d2, d3] }
  | _ => none }
def fnExactBuildSegmentRow : OpenClaim := { program := "ytnpeijkgmgnepaa", sum := "ae511e2eb2adc3e20d5fc4979999c84e3fc5aad91e5cec829d5fa1ac7c13df96", func := "loop.example/g03312/laws.FnExactBuildSegment", spec := "fnExactBuildSegment", apart := false }
def FnExactBuildSegmentSaid : Prop := fnExactBuildSegmentRow.holds Try.pinned (OpenSpec.ofChange fnExactBuildSegmentSpec)

/-- ITS FALSE NEIGHBOUR: 'it returns false'. Refute it at one input. -/
def fnExactBuildSegmentWrong : ChangeSpec := { name := "fnExactBuildSegment", fn := fun _ => fun
  | [d1, d2, d3] => { results := [.lit (.bool false)], args := [d1, d2, d3] }
  | _ => none }
def FnExactBuildSegmentWrongFalsely : Prop := fnExactBuildSegmentRow.holds Try.pinned (OpenSpec.ofChange fnExactBuildSegmentWrong)

/-- 'laws.FnExactParseIp': WHATEVER THE INPUT: true; the input reads as it did. -/
def fnExactParseIpSpec : ChangeSpec := { name := "fnExactParseIp", fn := fun _ => fun
  | [d] => { results := [.lit (.bool true)], args := [d] }
  | _ => none }
def fnExactParseIpRow : OpenClaim := { program := "ytnpeijkgmgnepaa", sum := "ae511e2eb2adc3e20d5fc4979999c84e3fc5aad91e5cec829d5fa1ac7c13df96", func := "loop.example/g03312/laws.FnExactParseIp", spec := "fnExactParseIp", apart := false }
def FnExactParseIpSaid : Prop := fnExactParseIpRow.holds Try.pinned (OpenSpec.ofChange fnExactParseIpSpec)

/-- ITS FALSE NEIGHBOUR: 'it returns false'. Refute it at one input. -/
def fnExactParseIpWrong : ChangeSpec := { name := "fnExactParseIp", fn := fun _ => fun
  | [d] => { results := [.lit (.bool false)], args := [d] }
  | _ => none }
def FnExactParseIpWrongFalsely : Prop := fnExactParseIpRow.holds Try.pinned (OpenSpec.ofChange fnExactParseIpWrong)

/-- 'laws.FnExactLowerTtl': WHATEVER THE INPUT: true; the input reads as it did. -/
def fnExactLowerTtlSpec : ChangeSpec := { name := "fnExactLowerTtl", fn := fun _ => fun
  | [d] => { results := [.lit (.bool true)], args := [d] }
  | _ => none }
def fnExactLowerTtlRow : OpenClaim := { program := "ytnpeijkgmgnepaa", sum := "ae511e2eb2adc3e20d5fc4979999c84e3fc5aad91e5cec829d5fa1ac7c13df96", func := "loop.example/g03312/laws.FnExactLowerTtl", spec := "fnExactLowerTtl", apart := false }
def FnExactLowerTtlSaid : Prop := fnExactLowerTtlRow.holds Try.pinned (OpenSpec.ofChange fnExactLowerTtlSpec)

/-- ITS FALSE NEIGHBOUR: 'it returns false'. Refute it at one input. -/
def fnExactLowerTtlWrong : ChangeSpec := { name := "fnExactLowerTtl", fn := fun _ => fun
  | [d] => { results := [.lit (.bool false)], args := [d] }
  | _ => none }
def FnExactLowerTtlWrongFalsely : Prop := fnExactLowerTtlRow.holds Try.pinned (OpenSpec.ofChange fnExactLowerTtlWrong)

/-- 'laws.FnExactBuildIp': WHATEVER THE INPUT: true; the input reads as it did. -/
def fnExactBuildIpSpec : ChangeSpec := { name := "fnExactBuildIp", fn := fun _ => fun
  | [d] => { results := [.lit (.bool true)], args := [d] }
  | _ => none }
def fnExactBuildIpRow : OpenClaim := { program := "ytnpeijkgmgnepaa", sum := "ae511e2eb2adc3e20d5fc4979999c84e3fc5aad91e5cec829d5fa1ac7c13df96", func := "loop.example/g03312/laws.FnExactBuildIp", spec := "fnExactBuildIp", apart := false }
def FnExactBuildIpSaid : Prop := fnExactBuildIpRow.holds Try.pinned (OpenSpec.ofChange fnExactBuildIpSpec)

/-- ITS FALSE NEIGHBOUR: 'it returns false'. Refute it at one input. -/
def fnExactBuildIpWrong : ChangeSpec := { name := "fnExactBuildIp", fn := fun _ => fun
  | [d] => { results := [.lit (.bool false)], args := [d] }
  | _ => none }
def FnExactBuildIpWrongFalsely : Prop := fnExactBuildIpRow.holds Try.pinned (OpenSpec.ofChange fnExactBuildIpWrong)

/-- 'laws.FnExactIpHeader': WHATEVER THE INPUT: true; the input reads as it did. -/
def fnExactIpHeaderSpec : ChangeSpec := { name := "fnExactIpHeader", fn := fun _ => fun
  | [d] => { results := [.lit (.bool true)], args := [d] }
  | _ => none }
def fnExactIpHeaderRow : OpenClaim := { program := "ytnpeijkgmgnepaa", sum := "ae511e2eb2adc3e20d5fc4979999c84e3fc5aad91e5cec829d5fa1ac7c13df96", func := "loop.example/g03312/laws.FnExactIpHeader", spec := "fnExactIpHeader", apart := false }
def FnExactIpHeaderSaid : Prop := fnExactIpHeaderRow.holds Try.pinned (OpenSpec.ofChange fnExactIpHeaderSpec)

/-- ITS FALSE NEIGHBOUR: 'it returns false'. Refute it at one input. -/
def fnExactIpHeaderWrong : ChangeSpec := { name := "fnExactIpHeader", fn := fun _ => fun
  | [d] => { results := [.lit (.bool false)], args := [d] }
  | _ => none }
def FnExactIpHeaderWrongFalsely : Prop := fnExactIpHeaderRow.holds Try.pinned (OpenSpec.ofChange fnExactIpHeaderWrong)

/-- 'laws.FnExactCheckFcs': WHATEVER THE INPUT: true; the input reads as it did. -/
def fnExactCheckFcsSpec : ChangeSpec := { name := "fnExactCheckFcs", fn := fun _ => fun
  | [d] => { results := [.lit (.bool true)], args := [d] }
  | _ => none }
def fnExactCheckFcsRow : OpenClaim := { program := "ytnpeijkgmgnepaa", sum := "ae511e2eb2adc3e20d5fc4979999c84e3fc5aad91e5cec829d5fa1ac7c13df96", func := "loop.example/g03312/laws.FnExactCheckFcs", spec := "fnExactCheckFcs", apart := false }
def FnExactCheckFcsSaid : Prop := fnExactCheckFcsRow.holds Try.pinned (OpenSpec.ofChange fnExactCheckFcsSpec)

/-- ITS FALSE NEIGHBOUR: 'it returns false'. Refute it at one input. -/
def fnExactCheckFcsWrong : ChangeSpec := { name := "fnExactCheckFcs", fn := fun _ => fun
  | [d] => { results := [.lit (.bool false)], args := [d] }
  | _ => none }
def FnExactCheckFcsWrongFalsely : Prop := fnExactCheckFcsRow.holds Try.pinned (OpenSpec.ofChange fnExactCheckFcsWrong)

/-- 'laws.FnExactParseEth': WHATEVER THE INPUT: true; the input reads as it did. -/
def fnExactParseEthSpec : ChangeSpec := { name := "fnExactParseEth", fn := fun _ => fun
  | [d] => { results := [.lit (.bool true)], args := [d] }
  | _ => none }
def fnExactParseEthRow : OpenClaim := { program := "ytnpeijkgmgnepaa", sum := "ae511e2eb2adc3e20d5fc4979999c84e3fc5aad91e5cec829d5fa1ac7c13df96", func := "loop.example/g03312/laws.FnExactParseEth", spec := "fnExactParseEth", apart := false }
def FnExactParseEthSaid : Prop := fnExactParseEthRow.holds Try.pinned (OpenSpec.ofChange fnExactParseEthSpec)

/-- ITS FALSE NEIGHBOUR: 'it returns false'. Refute it at one input. -/
def fnExactParseEthWrong : ChangeSpec := { name := "fnExactParseEth", fn := fun _ => fun
  | [d] => { results := [.lit (.bool false)], args := [d] }
  | _ => none }
def FnExactParseEthWrongFalsely : Prop := fnExactParseEthRow.holds Try.pinned (OpenSpec.ofChange fnExactParseEthWrong)

/- THE SECOND FORM. 'bulk': how many values and letters a reading holds, each counted each time it is reached (what is shared counts as often as it is met; a slice's spare places count too). A statement '..UptoSaid' is the law's where the arguments, and the package variables that the reading takes, are together of bulk at most 1048576: NARROWER than '..Said'. Prove '..Said' where nothing that the law and all that it calls make is longer than what came in: it says more and counts as full. Else prove '..UptoSaid'. A law counts once. -/
mutual
def uptoBulk {H : Type} : DataW H → Nat
  | .lit (.string bytes) => bytes.length + 1
  | .lit _ => 1
  | .nil => 1
  | .ptr d => uptoBulk d + 1
  | .slice elems spare => uptoBulkAll elems + uptoBulkAll spare + 1
  | .agg parts => uptoBulkAll parts + 1
  | .iface _ d => uptoBulk d + 1
  | .map entries => uptoBulkEntries entries + 1
  | .held _ => 1
def uptoBulkAll {H : Type} : List (DataW H) → Nat
  | [] => 0
  | d :: r => uptoBulk d + uptoBulkAll r
def uptoBulkEntries {H : Type} : List (Lit × DataW H) → Nat
  | [] => 0
  | x :: r => uptoBulkEntry x + uptoBulkEntries r
def uptoBulkEntry {H : Type} : Lit × DataW H → Nat
  | (.string bytes, d) => bytes.length + uptoBulk d + 1
  | (_, d) => uptoBulk d + 1
 end
def uptoSmall : (H : Type) → List (DataW H) → Bool := fun _ ds => decide (uptoBulkAll ds ≤ 1048576)
def OpenSpec.upto (s : _root_.Go.ChangeSpec) : _root_.Go.OpenSpec := { _root_.Go.OpenSpec.ofChange s with cond := some uptoSmall }

/-- 'laws.FnExactBuildFrame', WHERE WHAT IT READS IS OF BULK AT MOST 1048576: true; the input reads as it did. -/
def fnExactBuildFrameUptoRow : OpenClaim := { program := "ytnpeijkgmgnepaa", sum := "ae511e2eb2adc3e20d5fc4979999c84e3fc5aad91e5cec829d5fa1ac7c13df96", func := "loop.example/g03312/laws.FnExactBuildFrame", spec := "fnExactBuildFrame", apart := false, narrowed := true }
def FnExactBuildFrameUptoSaid : Prop := fnExactBuildFrameUptoRow.holds Try.pinned (OpenSpec.upto fnExactBuildFrameSpec)

/-- 'laws.FnExactReadImage', WHERE WHAT IT READS IS OF BULK AT MOST 1048576: true; the input reads as it did. -/
def fnExactReadImageUptoRow : OpenClaim := { program := "ytnpeijkgmgnepaa", sum := "ae511e2eb2adc3e20d5fc4979999c84e3fc5aad91e5cec829d5fa1ac7c13df96", func := "loop.example/g03312/laws.FnExactReadImage", spec := "fnExactReadImage", apart := false, narrowed := true }
def FnExactReadImageUptoSaid : Prop := fnExactReadImageUptoRow.holds Try.pinned (OpenSpec.upto fnExactReadImageSpec)

/-- 'laws.FnExactReadFrame', WHERE WHAT IT READS IS OF BULK AT MOST 1048576: true; the input reads as it did. -/
def fnExactReadFrameUptoRow : OpenClaim := { program := "ytnpeijkgmgnepaa", sum := "ae511e2eb2adc3e20d5fc4979999c84e3fc5aad91e5cec829d5fa1ac7c13df96", func := "loop.example/g03312/laws.FnExactReadFrame", spec := "fnExactReadFrame", apart := false, narrowed := true }
def FnExactReadFrameUptoSaid : Prop := fnExactReadFrameUptoRow.holds Try.pinned (OpenSpec.upto fnExactReadFrameSpec)

/-- 'laws.FnExactBuildImage', WHERE WHAT IT READS IS OF BULK AT MOST 1048576: true; the input reads as it did. -/
def fnExactBuildImageUptoRow : OpenClaim := { program := "ytnpeijkgmgnepaa", sum := "ae511e2eb2adc3e20d5fc4979999c84e3fc5aad91e5cec829d5fa1ac7c13df96", func := "loop.example/g03312/laws.FnExactBuildImage", spec := "fnExactBuildImage", apart := false, narrowed := true }
def FnExactBuildImageUptoSaid : Prop := fnExactBuildImageUptoRow.holds Try.pinned (OpenSpec.upto fnExactBuildImageSpec)

/-- 'laws.FnExactParseSegment', WHERE WHAT IT READS IS OF BULK AT MOST 1048576: true; the input reads as it did. -/
def fnExactParseSegmentUptoRow : OpenClaim := { program := "ytnpeijkgmgnepaa", sum := "ae511e2eb2adc3e20d5fc4979999c84e3fc5aad91e5cec829d5fa1ac7c13df96", func := "loop.example/g03312/laws.FnExactParseSegment", spec := "fnExactParseSegment", apart := false, narrowed := true }
def FnExactParseSegmentUptoSaid : Prop := fnExactParseSegmentUptoRow.holds Try.pinned (OpenSpec.upto fnExactParseSegmentSpec)

/-- 'laws.FnExactBuildSegment', WHERE WHAT IT READS IS OF BULK AT MOST 1048576: true; the input reads as it did. -/
def fnExactBuildSegmentUptoRow : OpenClaim := { program := "ytnpeijkgmgnepaa", sum := "ae511e2eb2adc3e20d5fc4979999c84e3fc5aad91e5cec829d5fa1ac7c13df96", func := "loop.example/g03312/laws.FnExactBuildSegment", spec := "fnExactBuildSegment", apart := false, narrowed := true }
def FnExactBuildSegmentUptoSaid : Prop := fnExactBuildSegmentUptoRow.holds Try.pinned (OpenSpec.upto fnExactBuildSegmentSpec)

/-- 'laws.FnExactParseIp', WHERE WHAT IT READS IS OF BULK AT MOST 1048576: true; the input reads as it did. -/
def fnExactParseIpUptoRow : OpenClaim := { program := "ytnpeijkgmgnepaa", sum := "ae511e2eb2adc3e20d5fc4979999c84e3fc5aad91e5cec829d5fa1ac7c13df96", func := "loop.example/g03312/laws.FnExactParseIp", spec := "fnExactParseIp", apart := false, narrowed := true }
def FnExactParseIpUptoSaid : Prop := fnExactParseIpUptoRow.holds Try.pinned (OpenSpec.upto fnExactParseIpSpec)

/-- 'laws.FnExactLowerTtl', WHERE WHAT IT READS IS OF BULK AT MOST 1048576: true; the input reads as it did. -/
def fnExactLowerTtlUptoRow : OpenClaim := { program := "ytnpeijkgmgnepaa", sum := "ae511e2eb2adc3e20d5fc4979999c84e3fc5aad91e5cec829d5fa1ac7c13df96", func := "loop.example/g03312/laws.FnExactLowerTtl", spec := "fnExactLowerTtl", apart := false, narrowed := true }
def FnExactLowerTtlUptoSaid : Prop := fnExactLowerTtlUptoRow.holds Try.pinned (OpenSpec.upto fnExactLowerTtlSpec)

/-- 'laws.FnExactBuildIp', WHERE WHAT IT READS IS OF BULK AT MOST 1048576: true; the input reads as it did. -/
def fnExactBuildIpUptoRow : OpenClaim := { program := "ytnpeijkgmgnepaa", sum := "ae511e2eb2adc3e20d5fc4979999c84e3fc5aad91e5cec829d5fa1ac7c13df96", func := "loop.example/g03312/laws.FnExactBuildIp", spec := "fnExactBuildIp", apart := false, narrowed := true }
def FnExactBuildIpUptoSaid : Prop := fnExactBuildIpUptoRow.holds Try.pinned (OpenSpec.upto fnExactBuildIpSpec)

/-- 'laws.FnExactIpHeader', WHERE WHAT IT READS IS OF BULK AT MOST 1048576: true; the input reads as it did. -/
def fnExactIpHeaderUptoRow : OpenClaim := { program := "ytnpeijkgmgnepaa", sum := "ae511e2eb2adc3e20d5fc4979999c84e3fc5aad91e5cec829d5fa1ac7c13df96", func := "loop.example/g03312/laws.FnExactIpHeader", spec := "fnExactIpHeader", apart := false, narrowed := true }
def FnExactIpHeaderUptoSaid : Prop := fnExactIpHeaderUptoRow.holds Try.pinned (OpenSpec.upto fnExactIpHeaderSpec)

/-- 'laws.FnExactCheckFcs', WHERE WHAT IT READS IS OF BULK AT MOST 1048576: true; the input reads as it did. -/
def fnExactCheckFcsUptoRow : OpenClaim := { program := "ytnpeijkgmgnepaa", sum := "ae511e2eb2adc3e20d5fc4979999c84e3fc5aad91e5cec829d5fa1ac7c13df96", func := "loop.example/g03312/laws.FnExactCheckFcs", spec := "fnExactCheckFcs", apart := false, narrowed := true }
def FnExactCheckFcsUptoSaid : Prop := fnExactCheckFcsUptoRow.holds Try.pinned (OpenSpec.upto fnExactCheckFcsSpec)

/-- 'laws.FnExactParseEth', WHERE WHAT IT READS IS OF BULK AT MOST 1048576: true; the input reads as it did. -/
def fnExactParseEthUptoRow : OpenClaim := { program := "ytnpeijkgmgnepaa", sum := "ae511e2eb2adc3e20d5fc4979999c84e3fc5aad91e5cec829d5fa1ac7c13df96", func := "loop.example/g03312/laws.FnExactParseEth", spec := "fnExactParseEth", apart := false, narrowed := true }
def FnExactParseEthUptoSaid : Prop := fnExactParseEthUptoRow.holds Try.pinned (OpenSpec.upto fnExactParseEthSpec)

end Rows
end Go.Proofs.Ytnpeijkgmgnepaa
