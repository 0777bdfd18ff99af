/-
  No cell of these rows narrows 'for every input' (looked for: loops, veiled, ifaces, maps, wideKeys, modest, calm, conditions, laid).
  DERIVED. THE GIVEN ROWS OF THIS SEAT. 12 by the template 'for every input the law returns true; each argument reads behind the call as it read before'; 0 by the template 'total and deterministic' (their statements: YtkonedmmihlblaaTotals.lean).
  GIVEN WITH THE SEED: the statements are not yours to turn. If you find one false, say at which input.
  Laid BY PROGRAM, IN A SANDBOX (cutbox-rows.mjs): the forced cells as the released guide's own fill.sh prints them over the translation d6db117d35af7192… (all of the seat's roots in one cut). By AI agents, Wed Nov 11 2026. No macro, syntax, notation, axiom, sorry.
-/
import Derived.Test.YtkonedmmihlblaaChecked
import GoSem.Claim
import GoSem.ClaimJoined
import GoSem.ClaimMapViews
import Derived.JoinedTies
import Derived.KernelRfl
namespace Go.Proofs.Ytkonedmmihlblaa
/- THE CELL 'sum', in the pinned program and in every row, IS THE sha256 OF THE DUMP (.gsa) THAT YtkonedmmihlblaaProg.lean LOADS. Nothing in Lean hashes anything: it is a label: what it is worth is what the hold of that sum in a sandbox is worth. -/
noncomputable def Try.pinned : Pinned := { name := "ytkonedmmihlblaa", sum := "d6db117d35af719217a04ef68540cae2563c7f0e3f9109ec6e029f75f24dcdcb", checked := Try.checked }
namespace Rows
def none {H : Type} : Left H := { results := [], args := [] }

/-- 'laws.FnExactDecodeHex': WHATEVER THE INPUT: true; the input reads as it did. -/
def fnExactDecodeHexSpec : ChangeSpec := { name := "fnExactDecodeHex", fn := fun _ => fun
  | [d] => { results := [.lit (.bool true)], args := [d] }
  | _ => none }
def fnExactDecodeHexRow : OpenClaim := { program := "ytkonedmmihlblaa", sum := "d6db117d35af719217a04ef68540cae2563c7f0e3f9109ec6e029f75f24dcdcb", func := "loop.example/g03312/laws.FnExactDecodeHex", spec := "fnExactDecodeHex", apart := false }
def FnExactDecodeHexSaid : Prop := fnExactDecodeHexRow.holds Try.pinned (OpenSpec.ofChange fnExactDecodeHexSpec)

/-- ITS FALSE NEIGHBOUR: 'it returns false'. Refute it at one input. -/
def fnExactDecodeHexWrong : ChangeSpec := { name := "fnExactDecodeHex", fn := fun _ => fun
  | [d] => { results := [.lit (.bool false)], args := [d] }
  | _ => none }
def FnExactDecodeHexWrongFalsely : Prop := fnExactDecodeHexRow.holds Try.pinned (OpenSpec.ofChange fnExactDecodeHexWrong)

/-- 'laws.FnExactParseUint': WHATEVER THE INPUT: true; the input reads as it did. -/
def fnExactParseUintSpec : ChangeSpec := { name := "fnExactParseUint", fn := fun _ => fun
  | [d] => { results := [.lit (.bool true)], args := [d] }
  | _ => none }
def fnExactParseUintRow : OpenClaim := { program := "ytkonedmmihlblaa", sum := "d6db117d35af719217a04ef68540cae2563c7f0e3f9109ec6e029f75f24dcdcb", func := "loop.example/g03312/laws.FnExactParseUint", spec := "fnExactParseUint", apart := false }
def FnExactParseUintSaid : Prop := fnExactParseUintRow.holds Try.pinned (OpenSpec.ofChange fnExactParseUintSpec)

/-- ITS FALSE NEIGHBOUR: 'it returns false'. Refute it at one input. -/
def fnExactParseUintWrong : ChangeSpec := { name := "fnExactParseUint", fn := fun _ => fun
  | [d] => { results := [.lit (.bool false)], args := [d] }
  | _ => none }
def FnExactParseUintWrongFalsely : Prop := fnExactParseUintRow.holds Try.pinned (OpenSpec.ofChange fnExactParseUintWrong)

/-- 'laws.FnExactSplitFields': WHATEVER THE INPUT: true; the input reads as it did. -/
def fnExactSplitFieldsSpec : ChangeSpec := { name := "fnExactSplitFields", fn := fun _ => fun
  | [d] => { results := [.lit (.bool true)], args := [d] }
  | _ => none }
def fnExactSplitFieldsRow : OpenClaim := { program := "ytkonedmmihlblaa", sum := "d6db117d35af719217a04ef68540cae2563c7f0e3f9109ec6e029f75f24dcdcb", func := "loop.example/g03312/laws.FnExactSplitFields", spec := "fnExactSplitFields", apart := false }
def FnExactSplitFieldsSaid : Prop := fnExactSplitFieldsRow.holds Try.pinned (OpenSpec.ofChange fnExactSplitFieldsSpec)

/-- ITS FALSE NEIGHBOUR: 'it returns false'. Refute it at one input. -/
def fnExactSplitFieldsWrong : ChangeSpec := { name := "fnExactSplitFields", fn := fun _ => fun
  | [d] => { results := [.lit (.bool false)], args := [d] }
  | _ => none }
def FnExactSplitFieldsWrongFalsely : Prop := fnExactSplitFieldsRow.holds Try.pinned (OpenSpec.ofChange fnExactSplitFieldsWrong)

/-- 'laws.FnExactSumWords': WHATEVER THE INPUT: true; the input reads as it did. -/
def fnExactSumWordsSpec : ChangeSpec := { name := "fnExactSumWords", fn := fun _ => fun
  | [d] => { results := [.lit (.bool true)], args := [d] }
  | _ => none }
def fnExactSumWordsRow : OpenClaim := { program := "ytkonedmmihlblaa", sum := "d6db117d35af719217a04ef68540cae2563c7f0e3f9109ec6e029f75f24dcdcb", func := "loop.example/g03312/laws.FnExactSumWords", spec := "fnExactSumWords", apart := false }
def FnExactSumWordsSaid : Prop := fnExactSumWordsRow.holds Try.pinned (OpenSpec.ofChange fnExactSumWordsSpec)

/-- ITS FALSE NEIGHBOUR: 'it returns false'. Refute it at one input. -/
def fnExactSumWordsWrong : ChangeSpec := { name := "fnExactSumWords", fn := fun _ => fun
  | [d] => { results := [.lit (.bool false)], args := [d] }
  | _ => none }
def FnExactSumWordsWrongFalsely : Prop := fnExactSumWordsRow.holds Try.pinned (OpenSpec.ofChange fnExactSumWordsWrong)

/-- 'laws.FnExactChecksum': WHATEVER THE INPUT: true; the input reads as it did. -/
def fnExactChecksumSpec : ChangeSpec := { name := "fnExactChecksum", fn := fun _ => fun
  | [d] => { results := [.lit (.bool true)], args := [d] }
  | _ => none }
def fnExactChecksumRow : OpenClaim := { program := "ytkonedmmihlblaa", sum := "d6db117d35af719217a04ef68540cae2563c7f0e3f9109ec6e029f75f24dcdcb", func := "loop.example/g03312/laws.FnExactChecksum", spec := "fnExactChecksum", apart := false }
def FnExactChecksumSaid : Prop := fnExactChecksumRow.holds Try.pinned (OpenSpec.ofChange fnExactChecksumSpec)

/-- ITS FALSE NEIGHBOUR: 'it returns false'. Refute it at one input. -/
def fnExactChecksumWrong : ChangeSpec := { name := "fnExactChecksum", fn := fun _ => fun
  | [d] => { results := [.lit (.bool false)], args := [d] }
  | _ => none }
def FnExactChecksumWrongFalsely : Prop := fnExactChecksumRow.holds Try.pinned (OpenSpec.ofChange fnExactChecksumWrong)

/-- 'laws.FnExactUpdateChecksum': WHATEVER THE INPUT: true; the input reads as it did. -/
def fnExactUpdateChecksumSpec : ChangeSpec := { name := "fnExactUpdateChecksum", fn := fun _ => fun
  | [d1, d2, d3] => { results := [.lit (.bool true)], args := [d1, d2, d3] }
  | _ => none }
def fnExactUpdateChecksumRow : OpenClaim := { program := "ytkonedmmihlblaa", sum := "d6db117d35af719217a04ef68540cae2563c7f0e3f9109ec6e029f75f24dcdcb", func := "loop.example/g03312/laws.FnExactUpdateChecksum", spec := "fnExactUpdateChecksum", apart := false }
def FnExactUpdateChecksumSaid : Prop := fnExactUpdateChecksumRow.holds Try.pinned (OpenSpec.ofChange fnExactUpdateChecksumSpec)

/-- ITS FALSE NEIGHBOUR: 'it returns false'. Refute it at one input. -/
def fnExactUpdateChecksumWrong : ChangeSpec := { name := "fnExactUpdateChecksum", fn := fun _ => fun
  | [d1, d2, d3] => { results := [.lit (.bool false)], args := [d1, d2, d3] }
  | _ => none }
def FnExactUpdateChecksumWrongFalsely : Prop := fnExactUpdateChecksumRow.holds Try.pinned (OpenSpec.ofChange fnExactUpdateChecksumWrong)

/-- 'laws.FnExactWithFcs': WHATEVER THE INPUT: true; the input reads as it did. -/
def fnExactWithFcsSpec : ChangeSpec := { name := "fnExactWithFcs", fn := fun _ => fun
  | [d] => { results := [.lit (.bool true)], args := [d] }
  | _ => none }
def fnExactWithFcsRow : OpenClaim := { program := "ytkonedmmihlblaa", sum := "d6db117d35af719217a04ef68540cae2563c7f0e3f9109ec6e029f75f24dcdcb", func := "loop.example/g03312/laws.FnExactWithFcs", spec := "fnExactWithFcs", apart := false }
def FnExactWithFcsSaid : Prop := fnExactWithFcsRow.holds Try.pinned (OpenSpec.ofChange fnExactWithFcsSpec)

/-- ITS FALSE NEIGHBOUR: 'it returns false'. Refute it at one input. -/
def fnExactWithFcsWrong : ChangeSpec := { name := "fnExactWithFcs", fn := fun _ => fun
  | [d] => { results := [.lit (.bool false)], args := [d] }
  | _ => none }
def FnExactWithFcsWrongFalsely : Prop := fnExactWithFcsRow.holds Try.pinned (OpenSpec.ofChange fnExactWithFcsWrong)

/-- 'laws.FnExactIpOk': WHATEVER THE INPUT: true; the input reads as it did. -/
def fnExactIpOkSpec : ChangeSpec := { name := "fnExactIpOk", fn := fun _ => fun
  | [d] => { results := [.lit (.bool true)], args := [d] }
  | _ => none }
def fnExactIpOkRow : OpenClaim := { program := "ytkonedmmihlblaa", sum := "d6db117d35af719217a04ef68540cae2563c7f0e3f9109ec6e029f75f24dcdcb", func := "loop.example/g03312/laws.FnExactIpOk", spec := "fnExactIpOk", apart := false }
def FnExactIpOkSaid : Prop := fnExactIpOkRow.holds Try.pinned (OpenSpec.ofChange fnExactIpOkSpec)

/-- ITS FALSE NEIGHBOUR: 'it returns false'. Refute it at one input. -/
def fnExactIpOkWrong : ChangeSpec := { name := "fnExactIpOk", fn := fun _ => fun
  | [d] => { results := [.lit (.bool false)], args := [d] }
  | _ => none }
def FnExactIpOkWrongFalsely : Prop := fnExactIpOkRow.holds Try.pinned (OpenSpec.ofChange fnExactIpOkWrong)

/-- 'laws.FnExactSegmentOk': WHATEVER THE INPUT: true; the input reads as it did. -/
def fnExactSegmentOkSpec : ChangeSpec := { name := "fnExactSegmentOk", fn := fun _ => fun
  | [d] => { results := [.lit (.bool true)], args := [d] }
  | _ => none }
def fnExactSegmentOkRow : OpenClaim := { program := "ytkonedmmihlblaa", sum := "d6db117d35af719217a04ef68540cae2563c7f0e3f9109ec6e029f75f24dcdcb", func := "loop.example/g03312/laws.FnExactSegmentOk", spec := "fnExactSegmentOk", apart := false }
def FnExactSegmentOkSaid : Prop := fnExactSegmentOkRow.holds Try.pinned (OpenSpec.ofChange fnExactSegmentOkSpec)

/-- ITS FALSE NEIGHBOUR: 'it returns false'. Refute it at one input. -/
def fnExactSegmentOkWrong : ChangeSpec := { name := "fnExactSegmentOk", fn := fun _ => fun
  | [d] => { results := [.lit (.bool false)], args := [d] }
  | _ => none }
def FnExactSegmentOkWrongFalsely : Prop := fnExactSegmentOkRow.holds Try.pinned (OpenSpec.ofChange fnExactSegmentOkWrong)

/-- 'laws.FnExactPseudoHeader': WHATEVER THE INPUT: true; the input reads as it did. -/
def fnExactPseudoHeaderSpec : ChangeSpec := { name := "fnExactPseudoHeader", fn := fun _ => fun
  | [d1, d2, d3, d4] => { results := [.lit (.bool true)], args := [d1, d2, d3, d4] }
  | _ => none }
def fnExactPseudoHeaderRow : OpenClaim := { program := "ytkonedmmihlblaa", sum := "d6db117d35af719217a04ef68540cae2563c7f0e3f9109ec6e029f75f24dcdcb", func := "loop.example/g03312/laws.FnExactPseudoHeader", spec := "fnExactPseudoHeader", apart := false }
def FnExactPseudoHeaderSaid : Prop := fnExactPseudoHeaderRow.holds Try.pinned (OpenSpec.ofChange fnExactPseudoHeaderSpec)

/-- ITS FALSE NEIGHBOUR: 'it returns false'. Refute it at one input. -/
def fnExactPseudoHeaderWrong : ChangeSpec := { name := "fnExactPseudoHeader", fn := fun _ => fun
  | [d1, d2, d3, d4] => { results := [.lit (.bool false)], args := [d1, d2, d3, d4] }
  | _ => none }
def FnExactPseudoHeaderWrongFalsely : Prop := fnExactPseudoHeaderRow.holds Try.pinned (OpenSpec.ofChange fnExactPseudoHeaderWrong)

/-- 'laws.FnExactFlowOf': WHATEVER THE INPUT: true; the input reads as it did. -/
def fnExactFlowOfSpec : ChangeSpec := { name := "fnExactFlowOf", fn := fun _ => fun
  | [d] => { results := [.lit (.bool true)], args := [d] }
  | _ => none }
def fnExactFlowOfRow : OpenClaim := { program := "ytkonedmmihlblaa", sum := "d6db117d35af719217a04ef68540cae2563c7f0e3f9109ec6e029f75f24dcdcb", func := "loop.example/g03312/laws.FnExactFlowOf", spec := "fnExactFlowOf", apart := false }
def FnExactFlowOfSaid : Prop := fnExactFlowOfRow.holds Try.pinned (OpenSpec.ofChange fnExactFlowOfSpec)

/-- ITS FALSE NEIGHBOUR: 'it returns false'. Refute it at one input. -/
def fnExactFlowOfWrong : ChangeSpec := { name := "fnExactFlowOf", fn := fun _ => fun
  | [d] => { results := [.lit (.bool false)], args := [d] }
  | _ => none }
def FnExactFlowOfWrongFalsely : Prop := fnExactFlowOfRow.holds Try.pinned (OpenSpec.ofChange fnExactFlowOfWrong)

/-- 'laws.FnExactSamePath': WHATEVER THE INPUT: true; the input reads as it did. -/
def fnExactSamePathSpec : ChangeSpec := { name := "fnExactSamePath", fn := fun _ => fun
  | [d1, d2] => { results := [.lit (.bool true)], args := [d1, d2] }
  | _ => none }
def fnExactSamePathRow : OpenClaim := { program := "ytkonedmmihlblaa", sum := "d6db117d35af719217a04ef68540cae2563c7f0e3f9109ec6e029f75f24dcdcb", func := "loop.example/g03312/laws.FnExactSamePath", spec := "fnExactSamePath", apart := false }
def FnExactSamePathSaid : Prop := fnExactSamePathRow.holds Try.pinned (OpenSpec.ofChange fnExactSamePathSpec)

/-- ITS FALSE NEIGHBOUR: 'it returns false'. Refute it at one input. -/
def fnExactSamePathWrong : ChangeSpec := { name := "fnExactSamePath", fn := fun _ => fun
  | [d1, d2] => { results := [.lit (.bool false)], args := [d1, d2] }
  | _ => none }
def FnExactSamePathWrongFalsely : Prop := fnExactSamePathRow.holds Try.pinned (OpenSpec.ofChange fnExactSamePathWrong)

/- THE SECOND FORM. 'bulk': how many values and letters a reading holds, each counted each time it is reached (what is shared counts as often as it is met; a slice's spare places count too). A statement '..UptoSaid' is the law's where the arguments, and the package variables that the reading takes, are together of bulk at most 1048576: NARROWER than '..Said'. Prove '..Said' where nothing that the law and all that it calls make is longer than what came in: it says more and counts as full. Else prove '..UptoSaid'. A law counts once. -/
mutual
def uptoBulk {H : Type} : DataW H → Nat
  | .lit (.string bytes) => bytes.length + 1
  | .lit _ => 1
  | .nil => 1
  | .ptr d => uptoBulk d + 1
  | .slice elems spare => uptoBulkAll elems + uptoBulkAll spare + 1
  | .agg parts => uptoBulkAll parts + 1
  | .iface _ d => uptoBulk d + 1
  | .map entries => uptoBulkEntries entries + 1
  | .held _ => 1
def uptoBulkAll {H : Type} : List (DataW H) → Nat
  | [] => 0
  | d :: r => uptoBulk d + uptoBulkAll r
def uptoBulkEntries {H : Type} : List (Lit × DataW H) → Nat
  | [] => 0
  | x :: r => uptoBulkEntry x + uptoBulkEntries r
def uptoBulkEntry {H : Type} : Lit × DataW H → Nat
  | (.string bytes, d) => bytes.length + uptoBulk d + 1
  | (_, d) => uptoBulk d + 1
 end
def uptoSmall : (H : Type) → List (DataW H) → Bool := fun _ ds => decide (uptoBulkAll ds ≤ 1048576)
def OpenSpec.upto (s : _root_.Go.ChangeSpec) : _root_.Go.OpenSpec := { _root_.Go.OpenSpec.ofChange s with cond := some uptoSmall }

/-- 'laws.FnExactDecodeHex', WHERE WHAT IT READS IS OF BULK AT MOST 1048576: true; the input reads as it did. -/
def fnExactDecodeHexUptoRow : OpenClaim := { program := "ytkonedmmihlblaa", sum := "d6db117d35af719217a04ef68540cae2563c7f0e3f9109ec6e029f75f24dcdcb", func := "loop.example/g03312/laws.FnExactDecodeHex", spec := "fnExactDecodeHex", apart := false, narrowed := true }
def FnExactDecodeHexUptoSaid : Prop := fnExactDecodeHexUptoRow.holds Try.pinned (OpenSpec.upto fnExactDecodeHexSpec)

/-- 'laws.FnExactParseUint', WHERE WHAT IT READS IS OF BULK AT MOST 1048576: true; the input reads as it did. -/
def fnExactParseUintUptoRow : OpenClaim := { program := "ytkonedmmihlblaa", sum := "d6db117d35af719217a04ef68540cae2563c7f0e3f9109ec6e029f75f24dcdcb", func := "loop.example/g03312/laws.FnExactParseUint", spec := "fnExactParseUint", apart := false, narrowed := true }
def FnExactParseUintUptoSaid : Prop := fnExactParseUintUptoRow.holds Try.pinned (OpenSpec.upto fnExactParseUintSpec)

/-- 'laws.FnExactSplitFields', WHERE WHAT IT READS IS OF BULK AT MOST 1048576: true; the input reads as it did. -/
def fnExactSplitFieldsUptoRow : OpenClaim := { program := "ytkonedmmihlblaa", sum := "d6db117d35af719217a04ef68540cae2563c7f0e3f9109ec6e029f75f24dcdcb", func := "loop.example/g03312/laws.FnExactSplitFields", spec := "fnExactSplitFields", apart := false, narrowed := true }
def FnExactSplitFieldsUptoSaid : Prop := fnExactSplitFieldsUptoRow.holds Try.pinned (OpenSpec.upto fnExactSplitFieldsSpec)

/-- 'laws.FnExactSumWords', WHERE WHAT IT READS IS OF BULK AT MOST 1048576: true; the input reads as it did. -/
def fnExactSumWordsUptoRow : OpenClaim := { program := "ytkonedmmihlblaa", sum := "d6db117d35af719217a04ef68540cae2563c7f0e3f9109ec6e029f75f24dcdcb", func := "loop.example/g03312/laws.FnExactSumWords", spec := "fnExactSumWords", apart := false, narrowed := true }
def FnExactSumWordsUptoSaid : Prop := fnExactSumWordsUptoRow.holds Try.pinned (OpenSpec.upto fnExactSumWordsSpec)

/-- 'laws.FnExactChecksum', WHERE WHAT IT READS IS OF BULK AT MOST 1048576: true; the input reads as it did. -/
def fnExactChecksumUptoRow : OpenClaim := { program := "ytkonedmmihlblaa", sum := "d6db117d35af719217a04ef68540cae2563c7f0e3f9109ec6e029f75f24dcdcb", func := "loop.example/g03312/laws.FnExactChecksum", spec := "fnExactChecksum", apart := false, narrowed := true }
def FnExactChecksumUptoSaid : Prop := fnExactChecksumUptoRow.holds Try.pinned (OpenSpec.upto fnExactChecksumSpec)

/-- 'laws.FnExactUpdateChecksum', WHERE WHAT IT READS IS OF BULK AT MOST 1048576: true; the input reads as it did. -/
def fnExactUpdateChecksumUptoRow : OpenClaim := { program := "ytkonedmmihlblaa", sum := "d6db117d35af719217a04ef68540cae2563c7f0e3f9109ec6e029f75f24dcdcb", func := "loop.example/g03312/laws.FnExactUpdateChecksum", spec := "fnExactUpdateChecksum", apart := false, narrowed := true }
def FnExactUpdateChecksumUptoSaid : Prop := fnExactUpdateChecksumUptoRow.holds Try.pinned (OpenSpec.upto fnExactUpdateChecksumSpec)

/-- 'laws.FnExactWithFcs', WHERE WHAT IT READS IS OF BULK AT MOST 1048576: true; the input reads as it did. -/
def fnExactWithFcsUptoRow : OpenClaim := { program := "ytkonedmmihlblaa", sum := "d6db117d35af719217a04ef68540cae2563c7f0e3f9109ec6e029f75f24dcdcb", func := "loop.example/g03312/laws.FnExactWithFcs", spec := "fnExactWithFcs", apart := false, narrowed := true }
def FnExactWithFcsUptoSaid : Prop := fnExactWithFcsUptoRow.holds Try.pinned (OpenSpec.upto fnExactWithFcsSpec)

/-- 'laws.FnExactIpOk', WHERE WHAT IT READS IS OF BULK AT MOST 1048576: true; the input reads as it did. -/
def fnExactIpOkUptoRow : OpenClaim := { program := "ytkonedmmihlblaa", sum := "d6db117d35af719217a04ef68540cae2563c7f0e3f9109ec6e029f75f24dcdcb", func := "loop.example/g03312/laws.FnExactIpOk", spec := "fnExactIpOk", apart := false, narrowed := true }
def FnExactIpOkUptoSaid : Prop := fnExactIpOkUptoRow.holds Try.pinned (OpenSpec.upto fnExactIpOkSpec)

/-- 'laws.FnExactSegmentOk', WHERE WHAT IT READS IS OF BULK AT MOST 1048576: true; the input reads as it did. -/
def fnExactSegmentOkUptoRow : OpenClaim := { program := "ytkonedmmihlblaa", sum := "d6db117d35af719217a04ef68540cae2563c7f0e3f9109ec6e029f75f24dcdcb", func := "loop.example/g03312/laws.FnExactSegmentOk", spec := "fnExactSegmentOk", apart := false, narrowed := true }
def FnExactSegmentOkUptoSaid : Prop := fnExactSegmentOkUptoRow.holds Try.pinned (OpenSpec.upto fnExactSegmentOkSpec)

/-- 'laws.FnExactPseudoHeader', WHERE WHAT IT READS IS OF BULK AT MOST 1048576: true; the input reads as it did. -/
def fnExactPseudoHeaderUptoRow : OpenClaim := { program := "ytkonedmmihlblaa", sum := "d6db117d35af719217a04ef68540cae2563c7f0e3f9109ec6e029f75f24dcdcb", func := "loop.example/g03312/laws.FnExactPseudoHeader", spec := "fnExactPseudoHeader", apart := false, narrowed := true }
def FnExactPseudoHeaderUptoSaid : Prop := fnExactPseudoHeaderUptoRow.holds Try.pinned (OpenSpec.upto fnExactPseudoHeaderSpec)

/-- 'laws.FnExactFlowOf', WHERE WHAT IT READS IS OF BULK AT MOST 1048576: true; the input reads as it did. -/
def fnExactFlowOfUptoRow : OpenClaim := { program := "ytkonedmmihlblaa", sum := "d6db117d35af719217a04ef68540cae2563c7f0e3f9109ec6e029f75f24dcdcb", func := "loop.example/g03312/laws.FnExactFlowOf", spec := "fnExactFlowOf", apart := false, narrowed := true }
def FnExactFlowOfUptoSaid : Prop := fnExactFlowOfUptoRow.holds Try.pinned (OpenSpec.upto fnExactFlowOfSpec)

/-- 'laws.FnExactSamePath', WHERE WHAT IT READS IS OF BULK AT MOST 1048576: true; the input reads as it did. -/
def fnExactSamePathUptoRow : OpenClaim := { program := "ytkonedmmihlblaa", sum := "d6db117d35af719217a04ef68540cae2563c7f0e3f9109ec6e029f75f24dcdcb", func := "loop.example/g03312/laws.FnExactSamePath", spec := "fnExactSamePath", apart := false, narrowed := true }
def FnExactSamePathUptoSaid : Prop := fnExactSamePathUptoRow.holds Try.pinned (OpenSpec.upto fnExactSamePathSpec)

end Rows
end Go.Proofs.Ytkonedmmihlblaa
