/-
  No cell of these rows narrows 'for every input' (looked for: loops, veiled, ifaces, maps, wideKeys, modest, calm, conditions, laid).
  DERIVED. THE GIVEN ROWS OF THIS SEAT. 12 by the template 'for every input the law returns true; each argument reads behind the call as it read before'; 0 by the template 'total and deterministic' (their statements: YtpegikbjgckjnaaTotals.lean).
  GIVEN WITH THE SEED: the statements are not yours to turn. If you find one false, say at which input.
  Laid BY PROGRAM, IN A SANDBOX (cutbox-rows.mjs): the forced cells as the released guide's own fill.sh prints them over the translation 20adfdf2e4bcc0f9… (all of the seat's roots in one cut). By AI agents, Wed Nov 11 2026. No macro, syntax, notation, axiom, sorry.
-/
import Derived.Test.YtpegikbjgckjnaaChecked
import GoSem.Claim
import GoSem.ClaimJoined
import GoSem.ClaimMapViews
import Derived.JoinedTies
import Derived.KernelRfl
namespace Go.Proofs.Ytpegikbjgckjnaa
/- THE CELL 'sum', in the pinned program and in every row, IS THE sha256 OF THE DUMP (.gsa) THAT YtpegikbjgckjnaaProg.lean LOADS. Nothing in Lean hashes anything: it is a label: what it is worth is what the hold of that sum in a sandbox is worth. -/
noncomputable def Try.pinned : Pinned := { name := "ytpegikbjgckjnaa", sum := "20adfdf2e4bcc0f91e686969b5f765d8b4e33d1a0ef926f7d55c5ddbb12e4380", checked := Try.checked }
namespace Rows
def none {H : Type} : Left H := { results := [], args := [] }

/-- 'cubbyholelaw17.MixTurns': WHATEVER THE INPUT: true; the input reads as it did. -/
def mixTurnsSpec : ChangeSpec := { name := "mixTurns", fn := fun _ => fun
  | [d1, d2, d3] => { results := [.lit (.bool true)], args := [d1, d2, d3] }
  | _ => none }
def mixTurnsRow : OpenClaim := { program := "ytpegikbjgckjnaa", sum := "20adfdf2e4bcc0f91e686969b5f765d8b4e33d1a0ef926f7d55c5ddbb12e4380", func := "cubbyhole/cubbyholelaw17.MixTurns", spec := "mixTurns", apart := false }
def MixTurnsSaid : Prop := mixTurnsRow.holds Try.pinned (OpenSpec.ofChange mixTurnsSpec)

/-- ITS FALSE NEIGHBOUR: 'it returns false'. Refute it at one input. -/
def mixTurnsWrong : ChangeSpec := { name := "mixTurns", fn := fun _ => fun
  | [d1, d2, d3] => { results := [.lit (.bool false)], args := [d1, d2, d3] }
  | _ => none }
def MixTurnsWrongFalsely : Prop := mixTurnsRow.holds Try.pinned (OpenSpec.ofChange mixTurnsWrong)

/-- 'cubbyholelaw17.MixSums': WHATEVER THE INPUT: true; the input reads as it did. -/
def mixSumsSpec : ChangeSpec := { name := "mixSums", fn := fun _ => fun
  | [d1, d2, d3] => { results := [.lit (.bool true)], args := [d1, d2, d3] }
  | _ => none }
def mixSumsRow : OpenClaim := { program := "ytpegikbjgckjnaa", sum := "20adfdf2e4bcc0f91e686969b5f765d8b4e33d1a0ef926f7d55c5ddbb12e4380", func := "cubbyhole/cubbyholelaw17.MixSums", spec := "mixSums", apart := false }
def MixSumsSaid : Prop := mixSumsRow.holds Try.pinned (OpenSpec.ofChange mixSumsSpec)

/-- ITS FALSE NEIGHBOUR: 'it returns false'. Refute it at one input. -/
def mixSumsWrong : ChangeSpec := { name := "mixSums", fn := fun _ => fun
  | [d1, d2, d3] => { results := [.lit (.bool false)], args := [d1, d2, d3] }
  | _ => none }
def MixSumsWrongFalsely : Prop := mixSumsRow.holds Try.pinned (OpenSpec.ofChange mixSumsWrong)

/-- 'cubbyholelaw10.CapaMay': WHATEVER THE INPUT: true; the input reads as it did. -/
def capaMaySpec : ChangeSpec := { name := "capaMay", fn := fun _ => fun
  | [d1, d2, d3] => { results := [.lit (.bool true)], args := [d1, d2, d3] }
  | _ => none }
def capaMayRow : OpenClaim := { program := "ytpegikbjgckjnaa", sum := "20adfdf2e4bcc0f91e686969b5f765d8b4e33d1a0ef926f7d55c5ddbb12e4380", func := "cubbyhole/cubbyholelaw10.CapaMay", spec := "capaMay", apart := false }
def CapaMaySaid : Prop := capaMayRow.holds Try.pinned (OpenSpec.ofChange capaMaySpec)

/-- ITS FALSE NEIGHBOUR: 'it returns false'. Refute it at one input. -/
def capaMayWrong : ChangeSpec := { name := "capaMay", fn := fun _ => fun
  | [d1, d2, d3] => { results := [.lit (.bool false)], args := [d1, d2, d3] }
  | _ => none }
def CapaMayWrongFalsely : Prop := capaMayRow.holds Try.pinned (OpenSpec.ofChange capaMayWrong)

/-- 'cubbyholelaw10.CapaIn': WHATEVER THE INPUT: true; the input reads as it did. -/
def capaInSpec : ChangeSpec := { name := "capaIn", fn := fun _ => fun
  | [d1, d2, d3] => { results := [.lit (.bool true)], args := [d1, d2, d3] }
  | _ => none }
def capaInRow : OpenClaim := { program := "ytpegikbjgckjnaa", sum := "20adfdf2e4bcc0f91e686969b5f765d8b4e33d1a0ef926f7d55c5ddbb12e4380", func := "cubbyhole/cubbyholelaw10.CapaIn", spec := "capaIn", apart := false }
def CapaInSaid : Prop := capaInRow.holds Try.pinned (OpenSpec.ofChange capaInSpec)

/-- ITS FALSE NEIGHBOUR: 'it returns false'. Refute it at one input. -/
def capaInWrong : ChangeSpec := { name := "capaIn", fn := fun _ => fun
  | [d1, d2, d3] => { results := [.lit (.bool false)], args := [d1, d2, d3] }
  | _ => none }
def CapaInWrongFalsely : Prop := capaInRow.holds Try.pinned (OpenSpec.ofChange capaInWrong)

/-- 'cubbyholelaw03.SpanBytes': WHATEVER THE INPUT: true; the input reads as it did. -/
def spanBytesSpec : ChangeSpec := { name := "spanBytes", fn := fun _ => fun
  | [d1, d2, d3] => { results := [.lit (.bool true)], args := [d1, d2, d3] }
  | _ => none }
def spanBytesRow : OpenClaim := { program := "ytpegikbjgckjnaa", sum := "20adfdf2e4bcc0f91e686969b5f765d8b4e33d1a0ef926f7d55c5ddbb12e4380", func := "cubbyhole/cubbyholelaw03.SpanBytes", spec := "spanBytes", apart := false }
def SpanBytesSaid : Prop := spanBytesRow.holds Try.pinned (OpenSpec.ofChange spanBytesSpec)

/-- ITS FALSE NEIGHBOUR: 'it returns false'. Refute it at one input. -/
def spanBytesWrong : ChangeSpec := { name := "spanBytes", fn := fun _ => fun
  | [d1, d2, d3] => { results := [.lit (.bool false)], args := [d1, d2, d3] }
  | _ => none }
def SpanBytesWrongFalsely : Prop := spanBytesRow.holds Try.pinned (OpenSpec.ofChange spanBytesWrong)

/-- 'cubbyholelaw03.SpanParts': WHATEVER THE INPUT: true; the input reads as it did. -/
def spanPartsSpec : ChangeSpec := { name := "spanParts", fn := fun _ => fun
  | [d] => { results := [.lit (.bool true)], args := [d] }
  | _ => none }
def spanPartsRow : OpenClaim := { program := "ytpegikbjgckjnaa", sum := "20adfdf2e4bcc0f91e686969b5f765d8b4e33d1a0ef926f7d55c5ddbb12e4380", func := "cubbyhole/cubbyholelaw03.SpanParts", spec := "spanParts", apart := false }
def SpanPartsSaid : Prop := spanPartsRow.holds Try.pinned (OpenSpec.ofChange spanPartsSpec)

/-- ITS FALSE NEIGHBOUR: 'it returns false'. Refute it at one input. -/
def spanPartsWrong : ChangeSpec := { name := "spanParts", fn := fun _ => fun
  | [d] => { results := [.lit (.bool false)], args := [d] }
  | _ => none }
def SpanPartsWrongFalsely : Prop := spanPartsRow.holds Try.pinned (OpenSpec.ofChange spanPartsWrong)

/-- 'cubbyholelaw03.SpanTwo': WHATEVER THE INPUT: true; the input reads as it did. -/
def spanTwoSpec : ChangeSpec := { name := "spanTwo", fn := fun _ => fun
  | [d1, d2] => { results := [.lit (.bool true)], args := [d1, d2] }
  | _ => none }
def spanTwoRow : OpenClaim := { program := "ytpegikbjgckjnaa", sum := "20adfdf2e4bcc0f91e686969b5f765d8b4e33d1a0ef926f7d55c5ddbb12e4380", func := "cubbyhole/cubbyholelaw03.SpanTwo", spec := "spanTwo", apart := false }
def SpanTwoSaid : Prop := spanTwoRow.holds Try.pinned (OpenSpec.ofChange spanTwoSpec)

/-- ITS FALSE NEIGHBOUR: 'it returns false'. Refute it at one input. -/
def spanTwoWrong : ChangeSpec := { name := "spanTwo", fn := fun _ => fun
  | [d1, d2] => { results := [.lit (.bool false)], args := [d1, d2] }
  | _ => none }
def SpanTwoWrongFalsely : Prop := spanTwoRow.holds Try.pinned (OpenSpec.ofChange spanTwoWrong)

/-- 'cubbyholelaw11.CodeBack': WHATEVER THE INPUT: true; the input reads as it did. -/
def codeBackSpec : ChangeSpec := { name := "codeBack", fn := fun _ => fun
  | [d1, d2] => { results := [.lit (.bool true)], args := [d1, d2] }
  | _ => none }
def codeBackRow : OpenClaim := { program := "ytpegikbjgckjnaa", sum := "20adfdf2e4bcc0f91e686969b5f765d8b4e33d1a0ef926f7d55c5ddbb12e4380", func := "cubbyhole/cubbyholelaw11.CodeBack", spec := "codeBack", apart := false }
def CodeBackSaid : Prop := codeBackRow.holds Try.pinned (OpenSpec.ofChange codeBackSpec)

/-- ITS FALSE NEIGHBOUR: 'it returns false'. Refute it at one input. -/
def codeBackWrong : ChangeSpec := { name := "codeBack", fn := fun _ => fun
  | [d1, d2] => { results := [.lit (.bool false)], args := [d1, d2] }
  | _ => none }
def CodeBackWrongFalsely : Prop := codeBackRow.holds Try.pinned (OpenSpec.ofChange codeBackWrong)

/-- 'cubbyholelaw11.CodeAny': WHATEVER THE INPUT: true; the input reads as it did. -/
def codeAnySpec : ChangeSpec := { name := "codeAny", fn := fun _ => fun
  | [d1, d2, d3] => { results := [.lit (.bool true)], args := [d1, d2, d3] }
  | _ => none }
def codeAnyRow : OpenClaim := { program := "ytpegikbjgckjnaa", sum := "20adfdf2e4bcc0f91e686969b5f765d8b4e33d1a0ef926f7d55c5ddbb12e4380", func := "cubbyhole/cubbyholelaw11.CodeAny", spec := "codeAny", apart := false }
def CodeAnySaid : Prop := codeAnyRow.holds Try.pinned (OpenSpec.ofChange codeAnySpec)

/-- ITS FALSE NEIGHBOUR: 'it returns false'. Refute it at one input. -/
def codeAnyWrong : ChangeSpec := { name := "codeAny", fn := fun _ => fun
  | [d1, d2, d3] => { results := [.lit (.bool false)], args := [d1, d2, d3] }
  | _ => none }
def CodeAnyWrongFalsely : Prop := codeAnyRow.holds Try.pinned (OpenSpec.ofChange codeAnyWrong)

/-- 'cubbyholelaw20.PickOf': WHATEVER THE INPUT: true; the input reads as it did. -/
def pickOfSpec : ChangeSpec := { name := "pickOf", fn := fun _ => fun
  | [d1, d2] => { results := [.lit (.bool true)], args := [d1, d2] }
  | _ => none }
def pickOfRow : OpenClaim := { program := "ytpegikbjgckjnaa", sum := "20adfdf2e4bcc0f91e686969b5f765d8b4e33d1a0ef926f7d55c5ddbb12e4380", func := "cubbyhole/cubbyholelaw20.PickOf", spec := "pickOf", apart := false }
def PickOfSaid : Prop := pickOfRow.holds Try.pinned (OpenSpec.ofChange pickOfSpec)

/-- ITS FALSE NEIGHBOUR: 'it returns false'. Refute it at one input. -/
def pickOfWrong : ChangeSpec := { name := "pickOf", fn := fun _ => fun
  | [d1, d2] => { results := [.lit (.bool false)], args := [d1, d2] }
  | _ => none }
def PickOfWrongFalsely : Prop := pickOfRow.holds Try.pinned (OpenSpec.ofChange pickOfWrong)

/-- 'cubbyholelaw20.PickNext': WHATEVER THE INPUT: true; the input reads as it did. -/
def pickNextSpec : ChangeSpec := { name := "pickNext", fn := fun _ => fun
  | [d1, d2] => { results := [.lit (.bool true)], args := [d1, d2] }
  | _ => none }
def pickNextRow : OpenClaim := { program := "ytpegikbjgckjnaa", sum := "20adfdf2e4bcc0f91e686969b5f765d8b4e33d1a0ef926f7d55c5ddbb12e4380", func := "cubbyhole/cubbyholelaw20.PickNext", spec := "pickNext", apart := false }
def PickNextSaid : Prop := pickNextRow.holds Try.pinned (OpenSpec.ofChange pickNextSpec)

/-- ITS FALSE NEIGHBOUR: 'it returns false'. Refute it at one input. -/
def pickNextWrong : ChangeSpec := { name := "pickNext", fn := fun _ => fun
  | [d1, d2] => { results := [.lit (.bool false)], args := [d1, d2] }
  | _ => none }
def PickNextWrongFalsely : Prop := pickNextRow.holds Try.pinned (OpenSpec.ofChange pickNextWrong)

/-- 'cubbyholelaw20.PickThree': WHATEVER THE INPUT: true; the input reads as it did. -/
def pickThreeSpec : ChangeSpec := { name := "pickThree", fn := fun _ => fun
  | [d1, d2, d3] => { results := [.lit (.bool true)], args := [d1, d2, d3] }
  | _ => none }
def pickThreeRow : OpenClaim := { program := "ytpegikbjgckjnaa", sum := "20adfdf2e4bcc0f91e686969b5f765d8b4e33d1a0ef926f7d55c5ddbb12e4380", func := "cubbyhole/cubbyholelaw20.PickThree", spec := "pickThree", apart := false }
def PickThreeSaid : Prop := pickThreeRow.holds Try.pinned (OpenSpec.ofChange pickThreeSpec)

/-- ITS FALSE NEIGHBOUR: 'it returns false'. Refute it at one input. -/
def pickThreeWrong : ChangeSpec := { name := "pickThree", fn := fun _ => fun
  | [d1, d2, d3] => { results := [.lit (.bool false)], args := [d1, d2, d3] }
  | _ => none }
def PickThreeWrongFalsely : Prop := pickThreeRow.holds Try.pinned (OpenSpec.ofChange pickThreeWrong)

/- THE SECOND FORM. 'bulk': how many values and letters a reading holds, each counted each time it is reached (what is shared counts as often as it is met; a slice's spare places count too). A statement '..UptoSaid' is the law's where the arguments, and the package variables that the reading takes, are together of bulk at most 1048576: NARROWER than '..Said'. Prove '..Said' where nothing that the law and all that it calls make is longer than what came in: it says more and counts as full. Else prove '..UptoSaid'. A law counts once. -/
mutual
def uptoBulk {H : Type} : DataW H → Nat
  | .lit (.string bytes) => bytes.length + 1
  | .lit _ => 1
  | .nil => 1
  | .ptr d => uptoBulk d + 1
  | .slice elems spare => uptoBulkAll elems + uptoBulkAll spare + 1
  | .agg parts => uptoBulkAll parts + 1
  | .iface _ d => uptoBulk d + 1
  | .map entries => uptoBulkEntries entries + 1
  | .held _ => 1
def uptoBulkAll {H : Type} : List (DataW H) → Nat
  | [] => 0
  | d :: r => uptoBulk d + uptoBulkAll r
def uptoBulkEntries {H : Type} : List (Lit × DataW H) → Nat
  | [] => 0
  | x :: r => uptoBulkEntry x + uptoBulkEntries r
def uptoBulkEntry {H : Type} : Lit × DataW H → Nat
  | (.string bytes, d) => bytes.length + uptoBulk d + 1
  | (_, d) => uptoBulk d + 1
 end
def uptoSmall : (H : Type) → List (DataW H) → Bool := fun _ ds => decide (uptoBulkAll ds ≤ 1048576)
def OpenSpec.upto (s : _root_.Go.ChangeSpec) : _root_.Go.OpenSpec := { _root_.Go.OpenSpec.ofChange s with cond := some uptoSmall }

/-- 'cubbyholelaw17.MixTurns', WHERE WHAT IT READS IS OF BULK AT MOST 1048576: true; the input reads as it did. -/
def mixTurnsUptoRow : OpenClaim := { program := "ytpegikbjgckjnaa", sum := "20adfdf2e4bcc0f91e686969b5f765d8b4e33d1a0ef926f7d55c5ddbb12e4380", func := "cubbyhole/cubbyholelaw17.MixTurns", spec := "mixTurns", apart := false, narrowed := true }
def MixTurnsUptoSaid : Prop := mixTurnsUptoRow.holds Try.pinned (OpenSpec.upto mixTurnsSpec)

/-- 'cubbyholelaw17.MixSums', WHERE WHAT IT READS IS OF BULK AT MOST 1048576: true; the input reads as it did. -/
def mixSumsUptoRow : OpenClaim := { program := "ytpegikbjgckjnaa", sum := "20adfdf2e4bcc0f91e686969b5f765d8b4e33d1a0ef926f7d55c5ddbb12e4380", func := "cubbyhole/cubbyholelaw17.MixSums", spec := "mixSums", apart := false, narrowed := true }
def MixSumsUptoSaid : Prop := mixSumsUptoRow.holds Try.pinned (OpenSpec.upto mixSumsSpec)

/-- 'cubbyholelaw10.CapaMay', WHERE WHAT IT READS IS OF BULK AT MOST 1048576: true; the input reads as it did. -/
def capaMayUptoRow : OpenClaim := { program := "ytpegikbjgckjnaa", sum := "20adfdf2e4bcc0f91e686969b5f765d8b4e33d1a0ef926f7d55c5ddbb12e4380", func := "cubbyhole/cubbyholelaw10.CapaMay", spec := "capaMay", apart := false, narrowed := true }
def CapaMayUptoSaid : Prop := capaMayUptoRow.holds Try.pinned (OpenSpec.upto capaMaySpec)

/-- 'cubbyholelaw10.CapaIn', WHERE WHAT IT READS IS OF BULK AT MOST 1048576: true; the input reads as it did. -/
def capaInUptoRow : OpenClaim := { program := "ytpegikbjgckjnaa", sum := "20adfdf2e4bcc0f91e686969b5f765d8b4e33d1a0ef926f7d55c5ddbb12e4380", func := "cubbyhole/cubbyholelaw10.CapaIn", spec := "capaIn", apart := false, narrowed := true }
def CapaInUptoSaid : Prop := capaInUptoRow.holds Try.pinned (OpenSpec.upto capaInSpec)

/-- 'cubbyholelaw03.SpanBytes', WHERE WHAT IT READS IS OF BULK AT MOST 1048576: true; the input reads as it did. -/
def spanBytesUptoRow : OpenClaim := { program := "ytpegikbjgckjnaa", sum := "20adfdf2e4bcc0f91e686969b5f765d8b4e33d1a0ef926f7d55c5ddbb12e4380", func := "cubbyhole/cubbyholelaw03.SpanBytes", spec := "spanBytes", apart := false, narrowed := true }
def SpanBytesUptoSaid : Prop := spanBytesUptoRow.holds Try.pinned (OpenSpec.upto spanBytesSpec)

/-- 'cubbyholelaw03.SpanParts', WHERE WHAT IT READS IS OF BULK AT MOST 1048576: true; the input reads as it did. -/
def spanPartsUptoRow : OpenClaim := { program := "ytpegikbjgckjnaa", sum := "20adfdf2e4bcc0f91e686969b5f765d8b4e33d1a0ef926f7d55c5ddbb12e4380", func := "cubbyhole/cubbyholelaw03.SpanParts", spec := "spanParts", apart := false, narrowed := true }
def SpanPartsUptoSaid : Prop := spanPartsUptoRow.holds Try.pinned (OpenSpec.upto spanPartsSpec)

/-- 'cubbyholelaw03.SpanTwo', WHERE WHAT IT READS IS OF BULK AT MOST 1048576: true; the input reads as it did. -/
def spanTwoUptoRow : OpenClaim := { program := "ytpegikbjgckjnaa", sum := "20adfdf2e4bcc0f91e686969b5f765d8b4e33d1a0ef926f7d55c5ddbb12e4380", func := "cubbyhole/cubbyholelaw03.SpanTwo", spec := "spanTwo", apart := false, narrowed := true }
def SpanTwoUptoSaid : Prop := spanTwoUptoRow.holds Try.pinned (OpenSpec.upto spanTwoSpec)

/-- 'cubbyholelaw11.CodeBack', WHERE WHAT IT READS IS OF BULK AT MOST 1048576: true; the input reads as it did. -/
def codeBackUptoRow : OpenClaim := { program := "ytpegikbjgckjnaa", sum := "20adfdf2e4bcc0f91e686969b5f765d8b4e33d1a0ef926f7d55c5ddbb12e4380", func := "cubbyhole/cubbyholelaw11.CodeBack", spec := "codeBack", apart := false, narrowed := true }
def CodeBackUptoSaid : Prop := codeBackUptoRow.holds Try.pinned (OpenSpec.upto codeBackSpec)

/-- 'cubbyholelaw11.CodeAny', WHERE WHAT IT READS IS OF BULK AT MOST 1048576: true; the input reads as it did. -/
def codeAnyUptoRow : OpenClaim := { program := "ytpegikbjgckjnaa", sum := "20adfdf2e4bcc0f91e686969b5f765d8b4e33d1a0ef926f7d55c5ddbb12e4380", func := "cubbyhole/cubbyholelaw11.CodeAny", spec := "codeAny", apart := false, narrowed := true }
def CodeAnyUptoSaid : Prop := codeAnyUptoRow.holds Try.pinned (OpenSpec.upto codeAnySpec)

/-- 'cubbyholelaw20.PickOf', WHERE WHAT IT READS IS OF BULK AT MOST 1048576: true; the input reads as it did. -/
def pickOfUptoRow : OpenClaim := { program := "ytpegikbjgckjnaa", sum := "20adfdf2e4bcc0f91e686969b5f765d8b4e33d1a0ef926f7d55c5ddbb12e4380", func := "cubbyhole/cubbyholelaw20.PickOf", spec := "pickOf", apart := false, narrowed := true }
def PickOfUptoSaid : Prop := pickOfUptoRow.holds Try.pinned (OpenSpec.upto pickOfSpec)

/-- 'cubbyholelaw20.PickNext', WHERE WHAT IT READS IS OF BULK AT MOST 1048576: true; the input reads as it did. -/
def pickNextUptoRow : OpenClaim := { program := "ytpegikbjgckjnaa", sum := "20adfdf2e4bcc0f91e686969b5f765d8b4e33d1a0ef926f7d55c5ddbb12e4380", func := "cubbyhole/cubbyholelaw20.PickNext", spec := "pickNext", apart := false, narrowed := true }
def PickNextUptoSaid : Prop := pickNextUptoRow.holds Try.pinned (OpenSpec.upto pickNextSpec)

/-- 'cubbyholelaw20.PickThree', WHERE WHAT IT READS IS OF BULK AT MOST 1048576: true; the input reads as it did. -/
def pickThreeUptoRow : OpenClaim := { program := "ytpegikbjgckjnaa", sum := "20adfdf2e4bcc0f91e686969b5f765d8b4e33d1a0ef926f7d55c5ddbb12e4380", func := "cubbyhole/cubbyholelaw20.PickThree", spec := "pickThree", apart := false, narrowed := true }
def PickThreeUptoSaid : Prop := pickThreeUptoRow.holds Try.pinned (OpenSpec.upto pickThreeSpec)

end Rows
end Go.Proofs.Ytpegikbjgckjnaa
