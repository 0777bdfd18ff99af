/-
  No cell of these rows narrows 'for every input' (looked for: loops, veiled, ifaces, maps, wideKeys, modest, calm, conditions, laid).
  DERIVED. THE GIVEN ROWS OF THIS SEAT. 12 by the template 'for every input the law returns true; each argument reads behind the call as it read before'; 0 by the template 'total and deterministic' (their statements: YtpdfncelmggpoaaTotals.lean).
  GIVEN WITH THE SEED: the statements are not yours to turn. If you find one false, say at which input.
  Laid BY PROGRAM, IN A SANDBOX (cutbox-rows.mjs): the forced cells as the released guide's own fill.sh prints them over the translation afa868f28b7f2a57… (all of the seat's roots in one cut). By AI agents, Wed Nov 11 2026. No macro, syntax, notation, axiom, sorry.
-/
import Derived.Test.YtpdfncelmggpoaaChecked
import GoSem.Claim
import GoSem.ClaimJoined
import GoSem.ClaimMapViews
import Derived.JoinedTies
import Derived.KernelRfl
namespace Go.Proofs.Ytpdfncelmggpoaa
/- THE CELL 'sum', in the pinned program and in every row, IS THE sha256 OF THE DUMP (.gsa) THAT YtpdfncelmggpoaaProg.lean LOADS. Nothing in Lean hashes anything: it is a label: what it is worth is what the hold of that sum in a sandbox is worth. -/
noncomputable def Try.pinned : Pinned := { name := "ytpdfncelmggpoaa", sum := "afa868f28b7f2a57f68c08d4cad87d819c0fc87dc120cfec05eae235804fe8ba", checked := Try.checked }
namespace Rows
def none {H : Type} : Left H := { results := [], args := [] }

/-- 'laws.FnExactConstants': WHATEVER THE INPUT: true; the input reads as it did. -/
def fnExactConstantsSpec : ChangeSpec := { name := "fnExactConstants", fn := fun _ => fun
  | [] => { results := [.lit (.bool true)], args := [] }
  | _ => none }
def fnExactConstantsRow : OpenClaim := { program := "ytpdfncelmggpoaa", sum := "afa868f28b7f2a57f68c08d4cad87d819c0fc87dc120cfec05eae235804fe8ba", func := "loop.example/g03312/laws.FnExactConstants", spec := "fnExactConstants", apart := false }
def FnExactConstantsSaid : Prop := fnExactConstantsRow.holds Try.pinned (OpenSpec.ofChange fnExactConstantsSpec)

/-- ITS FALSE NEIGHBOUR: 'it returns false'. Refute it at one input. -/
def fnExactConstantsWrong : ChangeSpec := { name := "fnExactConstants", fn := fun _ => fun
  | [] => { results := [.lit (.bool false)], args := [] }
  | _ => none }
def FnExactConstantsWrongFalsely : Prop := fnExactConstantsRow.holds Try.pinned (OpenSpec.ofChange fnExactConstantsWrong)

/-- 'laws.FnExactGet16': WHATEVER THE INPUT: true; the input reads as it did. -/
def fnExactGet16Spec : ChangeSpec := { name := "fnExactGet16", fn := fun _ => fun
  | [d1, d2] => { results := [.lit (.bool true)], args := [d1, d2] }
  | _ => none }
def fnExactGet16Row : OpenClaim := { program := "ytpdfncelmggpoaa", sum := "afa868f28b7f2a57f68c08d4cad87d819c0fc87dc120cfec05eae235804fe8ba", func := "loop.example/g03312/laws.FnExactGet16", spec := "fnExactGet16", apart := false }
def FnExactGet16Said : Prop := fnExactGet16Row.holds Try.pinned (OpenSpec.ofChange fnExactGet16Spec)

/-- ITS FALSE NEIGHBOUR: 'it returns false'. Refute it at one input. -/
def fnExactGet16Wrong : ChangeSpec := { name := "fnExactGet16", fn := fun _ => fun
  | [d1, d2] => { results := [.lit (.bool false)], args := [d1, d2] }
  | _ => none }
def FnExactGet16WrongFalsely : Prop := fnExactGet16Row.holds Try.pinned (OpenSpec.ofChange fnExactGet16Wrong)

/-- 'laws.FnExactPutBytes': WHATEVER THE INPUT: true; the input reads as it did. -/
def fnExactPutBytesSpec : ChangeSpec := { name := "fnExactPutBytes", fn := fun _ => fun
  | [d1, d2, d3] => { results := [.lit (.bool true)], args := [d1, d2, d3] }
  | _ => none }
def fnExactPutBytesRow : OpenClaim := { program := "ytpdfncelmggpoaa", sum := "afa868f28b7f2a57f68c08d4cad87d819c0fc87dc120cfec05eae235804fe8ba", func := "loop.example/g03312/laws.FnExactPutBytes", spec := "fnExactPutBytes", apart := false }
def FnExactPutBytesSaid : Prop := fnExactPutBytesRow.holds Try.pinned (OpenSpec.ofChange fnExactPutBytesSpec)

/-- ITS FALSE NEIGHBOUR: 'it returns false'. Refute it at one input. -/
def fnExactPutBytesWrong : ChangeSpec := { name := "fnExactPutBytes", fn := fun _ => fun
  | [d1, d2, d3] => { results := [.lit (.bool false)], args := [d1, d2, d3] }
  | _ => none }
def FnExactPutBytesWrongFalsely : Prop := fnExactPutBytesRow.holds Try.pinned (OpenSpec.ofChange fnExactPutBytesWrong)

/-- 'laws.FnExactWord16': WHATEVER THE INPUT: true; the input reads as it did. -/
def fnExactWord16Spec : ChangeSpec := { name := "fnExactWord16", fn := fun _ => fun
  | [d] => { results := [.lit (.bool true)], args := [d] }
  | _ => none }
def fnExactWord16Row : OpenClaim := { program := "ytpdfncelmggpoaa", sum := "afa868f28b7f2a57f68c08d4cad87d819c0fc87dc120cfec05eae235804fe8ba", func := "loop.example/g03312/laws.FnExactWord16", spec := "fnExactWord16", apart := false }
def FnExactWord16Said : Prop := fnExactWord16Row.holds Try.pinned (OpenSpec.ofChange fnExactWord16Spec)

/-- ITS FALSE NEIGHBOUR: 'it returns false'. Refute it at one input. -/
def fnExactWord16Wrong : ChangeSpec := { name := "fnExactWord16", fn := fun _ => fun
  | [d] => { results := [.lit (.bool false)], args := [d] }
  | _ => none }
def FnExactWord16WrongFalsely : Prop := fnExactWord16Row.holds Try.pinned (OpenSpec.ofChange fnExactWord16Wrong)

/-- 'laws.FnExactWord32': WHATEVER THE INPUT: true; the input reads as it did. -/
def fnExactWord32Spec : ChangeSpec := { name := "fnExactWord32", fn := fun _ => fun
  | [d] => { results := [.lit (.bool true)], args := [d] }
  | _ => none }
def fnExactWord32Row : OpenClaim := { program := "ytpdfncelmggpoaa", sum := "afa868f28b7f2a57f68c08d4cad87d819c0fc87dc120cfec05eae235804fe8ba", func := "loop.example/g03312/laws.FnExactWord32", spec := "fnExactWord32", apart := false }
def FnExactWord32Said : Prop := fnExactWord32Row.holds Try.pinned (OpenSpec.ofChange fnExactWord32Spec)

/-- ITS FALSE NEIGHBOUR: 'it returns false'. Refute it at one input. -/
def fnExactWord32Wrong : ChangeSpec := { name := "fnExactWord32", fn := fun _ => fun
  | [d] => { results := [.lit (.bool false)], args := [d] }
  | _ => none }
def FnExactWord32WrongFalsely : Prop := fnExactWord32Row.holds Try.pinned (OpenSpec.ofChange fnExactWord32Wrong)

/-- 'laws.FnExactClamp': WHATEVER THE INPUT: true; the input reads as it did. -/
def fnExactClampSpec : ChangeSpec := { name := "fnExactClamp", fn := fun _ => fun
  | [d1, d2, d3] => { results := [.lit (.bool true)], args := [d1, d2, d3] }
  | _ => none }
def fnExactClampRow : OpenClaim := { program := "ytpdfncelmggpoaa", sum := "afa868f28b7f2a57f68c08d4cad87d819c0fc87dc120cfec05eae235804fe8ba", func := "loop.example/g03312/laws.FnExactClamp", spec := "fnExactClamp", apart := false }
def FnExactClampSaid : Prop := fnExactClampRow.holds Try.pinned (OpenSpec.ofChange fnExactClampSpec)

/-- ITS FALSE NEIGHBOUR: 'it returns false'. Refute it at one input. -/
def fnExactClampWrong : ChangeSpec := { name := "fnExactClamp", fn := fun _ => fun
  | [d1, d2, d3] => { results := [.lit (.bool false)], args := [d1, d2, d3] }
  | _ => none }
def FnExactClampWrongFalsely : Prop := fnExactClampRow.holds Try.pinned (OpenSpec.ofChange fnExactClampWrong)

/-- 'laws.FnExactGet32': WHATEVER THE INPUT: true; the input reads as it did. -/
def fnExactGet32Spec : ChangeSpec := { name := "fnExactGet32", fn := fun _ => fun
  | [d1, d2] => { results := [.lit (.bool true)], args := [d1, d2] }
  | _ => none }
def fnExactGet32Row : OpenClaim := { program := "ytpdfncelmggpoaa", sum := "afa868f28b7f2a57f68c08d4cad87d819c0fc87dc120cfec05eae235804fe8ba", func := "loop.example/g03312/laws.FnExactGet32", spec := "fnExactGet32", apart := false }
def FnExactGet32Said : Prop := fnExactGet32Row.holds Try.pinned (OpenSpec.ofChange fnExactGet32Spec)

/-- ITS FALSE NEIGHBOUR: 'it returns false'. Refute it at one input. -/
def fnExactGet32Wrong : ChangeSpec := { name := "fnExactGet32", fn := fun _ => fun
  | [d1, d2] => { results := [.lit (.bool false)], args := [d1, d2] }
  | _ => none }
def FnExactGet32WrongFalsely : Prop := fnExactGet32Row.holds Try.pinned (OpenSpec.ofChange fnExactGet32Wrong)

/-- 'laws.FnExactAddSums': WHATEVER THE INPUT: true; the input reads as it did. -/
def fnExactAddSumsSpec : ChangeSpec := { name := "fnExactAddSums", fn := fun _ => fun
  | [d1, d2] => { results := [.lit (.bool true)], args := [d1, d2] }
  | _ => none }
def fnExactAddSumsRow : OpenClaim := { program := "ytpdfncelmggpoaa", sum := "afa868f28b7f2a57f68c08d4cad87d819c0fc87dc120cfec05eae235804fe8ba", func := "loop.example/g03312/laws.FnExactAddSums", spec := "fnExactAddSums", apart := false }
def FnExactAddSumsSaid : Prop := fnExactAddSumsRow.holds Try.pinned (OpenSpec.ofChange fnExactAddSumsSpec)

/-- ITS FALSE NEIGHBOUR: 'it returns false'. Refute it at one input. -/
def fnExactAddSumsWrong : ChangeSpec := { name := "fnExactAddSums", fn := fun _ => fun
  | [d1, d2] => { results := [.lit (.bool false)], args := [d1, d2] }
  | _ => none }
def FnExactAddSumsWrongFalsely : Prop := fnExactAddSumsRow.holds Try.pinned (OpenSpec.ofChange fnExactAddSumsWrong)

/-- 'laws.FnExactPadBody': WHATEVER THE INPUT: true; the input reads as it did. -/
def fnExactPadBodySpec : ChangeSpec := { name := "fnExactPadBody", fn := fun _ => fun
  | [d] => { results := [.lit (.bool true)], args := [d] }
  | _ => none }
def fnExactPadBodyRow : OpenClaim := { program := "ytpdfncelmggpoaa", sum := "afa868f28b7f2a57f68c08d4cad87d819c0fc87dc120cfec05eae235804fe8ba", func := "loop.example/g03312/laws.FnExactPadBody", spec := "fnExactPadBody", apart := false }
def FnExactPadBodySaid : Prop := fnExactPadBodyRow.holds Try.pinned (OpenSpec.ofChange fnExactPadBodySpec)

/-- ITS FALSE NEIGHBOUR: 'it returns false'. Refute it at one input. -/
def fnExactPadBodyWrong : ChangeSpec := { name := "fnExactPadBody", fn := fun _ => fun
  | [d] => { results := [.lit (.bool false)], args := [d] }
  | _ => none }
def FnExactPadBodyWrongFalsely : Prop := fnExactPadBodyRow.holds Try.pinned (OpenSpec.ofChange fnExactPadBodyWrong)

/-- 'laws.FnExactEthOk': WHATEVER THE INPUT: true; the input reads as it did. -/
def fnExactEthOkSpec : ChangeSpec := { name := "fnExactEthOk", fn := fun _ => fun
  | [d] => { results := [.lit (.bool true)], args := [d] }
  | _ => none }
def fnExactEthOkRow : OpenClaim := { program := "ytpdfncelmggpoaa", sum := "afa868f28b7f2a57f68c08d4cad87d819c0fc87dc120cfec05eae235804fe8ba", func := "loop.example/g03312/laws.FnExactEthOk", spec := "fnExactEthOk", apart := false }
def FnExactEthOkSaid : Prop := fnExactEthOkRow.holds Try.pinned (OpenSpec.ofChange fnExactEthOkSpec)

/-- ITS FALSE NEIGHBOUR: 'it returns false'. Refute it at one input. -/
def fnExactEthOkWrong : ChangeSpec := { name := "fnExactEthOk", fn := fun _ => fun
  | [d] => { results := [.lit (.bool false)], args := [d] }
  | _ => none }
def FnExactEthOkWrongFalsely : Prop := fnExactEthOkRow.holds Try.pinned (OpenSpec.ofChange fnExactEthOkWrong)

/-- 'laws.FnExactEncodeHex': WHATEVER THE INPUT: true; the input reads as it did. -/
def fnExactEncodeHexSpec : ChangeSpec := { name := "fnExactEncodeHex", fn := fun _ => fun
  | [d] => { results := [.lit (.bool true)], args := [d] }
  | _ => none }
def fnExactEncodeHexRow : OpenClaim := { program := "ytpdfncelmggpoaa", sum := "afa868f28b7f2a57f68c08d4cad87d819c0fc87dc120cfec05eae235804fe8ba", func := "loop.example/g03312/laws.FnExactEncodeHex", spec := "fnExactEncodeHex", apart := false }
def FnExactEncodeHexSaid : Prop := fnExactEncodeHexRow.holds Try.pinned (OpenSpec.ofChange fnExactEncodeHexSpec)

/-- ITS FALSE NEIGHBOUR: 'it returns false'. Refute it at one input. -/
def fnExactEncodeHexWrong : ChangeSpec := { name := "fnExactEncodeHex", fn := fun _ => fun
  | [d] => { results := [.lit (.bool false)], args := [d] }
  | _ => none }
def FnExactEncodeHexWrongFalsely : Prop := fnExactEncodeHexRow.holds Try.pinned (OpenSpec.ofChange fnExactEncodeHexWrong)

/-- 'laws.FnExactCrc32': WHATEVER THE INPUT: true; the input reads as it did. -/
def fnExactCrc32Spec : ChangeSpec := { name := "fnExactCrc32", fn := fun _ => fun
  | [d] => { results := [.lit (.bool true)], args := [d] }
  | _ => none }
def fnExactCrc32Row : OpenClaim := { program := "ytpdfncelmggpoaa", sum := "afa868f28b7f2a57f68c08d4cad87d819c0fc87dc120cfec05eae235804fe8ba", func := "loop.example/g03312/laws.FnExactCrc32", spec := "fnExactCrc32", apart := false }
def FnExactCrc32Said : Prop := fnExactCrc32Row.holds Try.pinned (OpenSpec.ofChange fnExactCrc32Spec)

/-- ITS FALSE NEIGHBOUR: 'it returns false'. Refute it at one input. -/
def fnExactCrc32Wrong : ChangeSpec := { name := "fnExactCrc32", fn := fun _ => fun
  | [d] => { results := [.lit (.bool false)], args := [d] }
  | _ => none }
def FnExactCrc32WrongFalsely : Prop := fnExactCrc32Row.holds Try.pinned (OpenSpec.ofChange fnExactCrc32Wrong)

/- THE SECOND FORM. 'bulk': how many values and letters a reading holds, each counted each time it is reached (what is shared counts as often as it is met; a slice's spare places count too). A statement '..UptoSaid' is the law's where the arguments, and the package variables that the reading takes, are together of bulk at most 1048576: NARROWER than '..Said'. Prove '..Said' where nothing that the law and all that it calls make is longer than what came in: it says more and counts as full. Else prove '..UptoSaid'. A law counts once. -/
mutual
def uptoBulk {H : Type} : DataW H → Nat
  | .lit (.string bytes) => bytes.length + 1
  | .lit _ => 1
  | .nil => 1
  | .ptr d => uptoBulk d + 1
  | .slice elems spare => uptoBulkAll elems + uptoBulkAll spare + 1
  | .agg parts => uptoBulkAll parts + 1
  | .iface _ d => uptoBulk d + 1
  | .map entries => uptoBulkEntries entries + 1
  | .held _ => 1
def uptoBulkAll {H : Type} : List (DataW H) → Nat
  | [] => 0
  | d :: r => uptoBulk d + uptoBulkAll r
def uptoBulkEntries {H : Type} : List (Lit × DataW H) → Nat
  | [] => 0
  | x :: r => uptoBulkEntry x + uptoBulkEntries r
def uptoBulkEntry {H : Type} : Lit × DataW H → Nat
  | (.string bytes, d) => bytes.length + uptoBulk d + 1
  | (_, d) => uptoBulk d + 1
 end
def uptoSmall : (H : Type) → List (DataW H) → Bool := fun _ ds => decide (uptoBulkAll ds ≤ 1048576)
def OpenSpec.upto (s : _root_.Go.ChangeSpec) : _root_.Go.OpenSpec := { _root_.Go.OpenSpec.ofChange s with cond := some uptoSmall }

/-- 'laws.FnExactConstants', WHERE WHAT IT READS IS OF BULK AT MOST 1048576: true; the input reads as it did. -/
def fnExactConstantsUptoRow : OpenClaim := { program := "ytpdfncelmggpoaa", sum := "afa868f28b7f2a57f68c08d4cad87d819c0fc87dc120cfec05eae235804fe8ba", func := "loop.example/g03312/laws.FnExactConstants", spec := "fnExactConstants", apart := false, narrowed := true }
def FnExactConstantsUptoSaid : Prop := fnExactConstantsUptoRow.holds Try.pinned (OpenSpec.upto fnExactConstantsSpec)

/-- 'laws.FnExactGet16', WHERE WHAT IT READS IS OF BULK AT MOST 1048576: true; the input reads as it did. -/
def fnExactGet16UptoRow : OpenClaim := { program := "ytpdfncelmggpoaa", sum := "afa868f28b7f2a57f68c08d4cad87d819c0fc87dc120cfec05eae235804fe8ba", func := "loop.example/g03312/laws.FnExactGet16", spec := "fnExactGet16", apart := false, narrowed := true }
def FnExactGet16UptoSaid : Prop := fnExactGet16UptoRow.holds Try.pinned (OpenSpec.upto fnExactGet16Spec)

/-- 'laws.FnExactPutBytes', WHERE WHAT IT READS IS OF BULK AT MOST 1048576: true; the input reads as it did. -/
def fnExactPutBytesUptoRow : OpenClaim := { program := "ytpdfncelmggpoaa", sum := "afa868f28b7f2a57f68c08d4cad87d819c0fc87dc120cfec05eae235804fe8ba", func := "loop.example/g03312/laws.FnExactPutBytes", spec := "fnExactPutBytes", apart := false, narrowed := true }
def FnExactPutBytesUptoSaid : Prop := fnExactPutBytesUptoRow.holds Try.pinned (OpenSpec.upto fnExactPutBytesSpec)

/-- 'laws.FnExactWord16', WHERE WHAT IT READS IS OF BULK AT MOST 1048576: true; the input reads as it did. -/
def fnExactWord16UptoRow : OpenClaim := { program := "ytpdfncelmggpoaa", sum := "afa868f28b7f2a57f68c08d4cad87d819c0fc87dc120cfec05eae235804fe8ba", func := "loop.example/g03312/laws.FnExactWord16", spec := "fnExactWord16", apart := false, narrowed := true }
def FnExactWord16UptoSaid : Prop := fnExactWord16UptoRow.holds Try.pinned (OpenSpec.upto fnExactWord16Spec)

/-- 'laws.FnExactWord32', WHERE WHAT IT READS IS OF BULK AT MOST 1048576: true; the input reads as it did. -/
def fnExactWord32UptoRow : OpenClaim := { program := "ytpdfncelmggpoaa", sum := "afa868f28b7f2a57f68c08d4cad87d819c0fc87dc120cfec05eae235804fe8ba", func := "loop.example/g03312/laws.FnExactWord32", spec := "fnExactWord32", apart := false, narrowed := true }
def FnExactWord32UptoSaid : Prop := fnExactWord32UptoRow.holds Try.pinned (OpenSpec.upto fnExactWord32Spec)

/-- 'laws.FnExactClamp', WHERE WHAT IT READS IS OF BULK AT MOST 1048576: true; the input reads as it did. -/
def fnExactClampUptoRow : OpenClaim := { program := "ytpdfncelmggpoaa", sum := "afa868f28b7f2a57f68c08d4cad87d819c0fc87dc120cfec05eae235804fe8ba", func := "loop.example/g03312/laws.FnExactClamp", spec := "fnExactClamp", apart := false, narrowed := true }
def FnExactClampUptoSaid : Prop := fnExactClampUptoRow.holds Try.pinned (OpenSpec.upto fnExactClampSpec)

/-- 'laws.FnExactGet32', WHERE WHAT IT READS IS OF BULK AT MOST 1048576: true; the input reads as it did. -/
def fnExactGet32UptoRow : OpenClaim := { program := "ytpdfncelmggpoaa", sum := "afa868f28b7f2a57f68c08d4cad87d819c0fc87dc120cfec05eae235804fe8ba", func := "loop.example/g03312/laws.FnExactGet32", spec := "fnExactGet32", apart := false, narrowed := true }
def FnExactGet32UptoSaid : Prop := fnExactGet32UptoRow.holds Try.pinned (OpenSpec.upto fnExactGet32Spec)

/-- 'laws.FnExactAddSums', WHERE WHAT IT READS IS OF BULK AT MOST 1048576: true; the input reads as it did. -/
def fnExactAddSumsUptoRow : OpenClaim := { program := "ytpdfncelmggpoaa", sum := "afa868f28b7f2a57f68c08d4cad87d819c0fc87dc120cfec05eae235804fe8ba", func := "loop.example/g03312/laws.FnExactAddSums", spec := "fnExactAddSums", apart := false, narrowed := true }
def FnExactAddSumsUptoSaid : Prop := fnExactAddSumsUptoRow.holds Try.pinned (OpenSpec.upto fnExactAddSumsSpec)

/-- 'laws.FnExactPadBody', WHERE WHAT IT READS IS OF BULK AT MOST 1048576: true; the input reads as it did. -/
def fnExactPadBodyUptoRow : OpenClaim := { program := "ytpdfncelmggpoaa", sum := "afa868f28b7f2a57f68c08d4cad87d819c0fc87dc120cfec05eae235804fe8ba", func := "loop.example/g03312/laws.FnExactPadBody", spec := "fnExactPadBody", apart := false, narrowed := true }
def FnExactPadBodyUptoSaid : Prop := fnExactPadBodyUptoRow.holds Try.pinned (OpenSpec.upto fnExactPadBodySpec)

/-- 'laws.FnExactEthOk', WHERE WHAT IT READS IS OF BULK AT MOST 1048576: true; the input reads as it did. -/
def fnExactEthOkUptoRow : OpenClaim := { program := "ytpdfncelmggpoaa", sum := "afa868f28b7f2a57f68c08d4cad87d819c0fc87dc120cfec05eae235804fe8ba", func := "loop.example/g03312/laws.FnExactEthOk", spec := "fnExactEthOk", apart := false, narrowed := true }
def FnExactEthOkUptoSaid : Prop := fnExactEthOkUptoRow.holds Try.pinned (OpenSpec.upto fnExactEthOkSpec)

/-- 'laws.FnExactEncodeHex', WHERE WHAT IT READS IS OF BULK AT MOST 1048576: true; the input reads as it did. -/
def fnExactEncodeHexUptoRow : OpenClaim := { program := "ytpdfncelmggpoaa", sum := "afa868f28b7f2a57f68c08d4cad87d819c0fc87dc120cfec05eae235804fe8ba", func := "loop.example/g03312/laws.FnExactEncodeHex", spec := "fnExactEncodeHex", apart := false, narrowed := true }
def FnExactEncodeHexUptoSaid : Prop := fnExactEncodeHexUptoRow.holds Try.pinned (OpenSpec.upto fnExactEncodeHexSpec)

/-- 'laws.FnExactCrc32', WHERE WHAT IT READS IS OF BULK AT MOST 1048576: true; the input reads as it did. -/
def fnExactCrc32UptoRow : OpenClaim := { program := "ytpdfncelmggpoaa", sum := "afa868f28b7f2a57f68c08d4cad87d819c0fc87dc120cfec05eae235804fe8ba", func := "loop.example/g03312/laws.FnExactCrc32", spec := "fnExactCrc32", apart := false, narrowed := true }
def FnExactCrc32UptoSaid : Prop := fnExactCrc32UptoRow.holds Try.pinned (OpenSpec.upto fnExactCrc32Spec)

end Rows
end Go.Proofs.Ytpdfncelmggpoaa
