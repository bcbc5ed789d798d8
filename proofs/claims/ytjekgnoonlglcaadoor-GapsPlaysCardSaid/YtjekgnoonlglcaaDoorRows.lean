/-
  NARROWER THAN 'FOR EVERY INPUT', by the rows' own cells (each row's printed sentence says how): SlotsRaw: laid · SetAsks: laid · SetRaw: laid · SlotsPlays: laid · PagesPlays: laid · PagesRaw: laid · SetPlays: laid · PaintRaw: laid · PaintPlays: laid · GapsPlays: laid · GapsRaw: laid.
  DERIVED. THE GIVEN ROWS OF THIS SEAT. 11 by the template 'for every input the law returns true; each argument reads behind the call as it read before'; 0 by the template 'total and deterministic' (their statements: YtjekgnoonlglcaaDoorTotals.lean).
  GIVEN WITH THE SEED: the statements are not yours to turn. If you find one false, say at which input.
  Laid BY PROGRAM, IN A SANDBOX (cutbox-rows.mjs): the forced cells as the released guide's own fill.sh prints them over the translation 0f90e146245387d8… (all of the seat's roots in one cut). By AI agents, Wed Nov 11 2026. No macro, syntax, notation, axiom, sorry.
-/
import Derived.Test.YtjekgnoonlglcaaDoorChecked
import GoSem.Claim
import GoSem.ClaimJoined
import GoSem.ClaimMapViews
import Derived.JoinedTies
import Derived.KernelRfl
namespace Go.Proofs.YtjekgnoonlglcaaDoor
/- THE CELL 'sum', in the pinned program and in every row, IS THE sha256 OF THE DUMP (.gsa) THAT YtjekgnoonlglcaaDoorProg.lean LOADS. Nothing in Lean hashes anything: it is a label: what it is worth is what the hold of that sum in a sandbox is worth. -/
noncomputable def Tryd.pinned : Pinned := { name := "ytjekgnoonlglcaadoor", sum := "0f90e146245387d8cb9d70a8e2a31df792f4210415c735d2219b3890a07175a9", checked := Tryd.checked }
namespace Rows
def none {H : Type} : Left H := { results := [], args := [] }

/- WHAT THE LISTED PACKAGE-LEVEL VARIABLES READ AS WHEN THE CALL BEGINS. Each datum BY PROGRAM (the guide's laid-datum.mjs) off the statement by which the dump's own 'gosem.cut.vars' lays the variable. In a bare row this is a premise. The card (YtjekgnoonlglcaaDoorCards.lean) ties it to the program's text. -/
def laid_math_bits_deBruijn64tab {H : Type} : DataW H := .agg [.lit (.int .u8 0), .lit (.int .u8 1), .lit (.int .u8 56), .lit (.int .u8 2), .lit (.int .u8 57), .lit (.int .u8 49), .lit (.int .u8 28), .lit (.int .u8 3), .lit (.int .u8 61), .lit (.int .u8 58), .lit (.int .u8 42), .lit (.int .u8 50), .lit (.int .u8 38), .lit (.int .u8 29), .lit (.int .u8 17), .lit (.int .u8 4), .lit (.int .u8 62), .lit (.int .u8 47), .lit (.int .u8 59), .lit (.int .u8 36), .lit (.int .u8 45), .lit (.int .u8 43), .lit (.int .u8 51), .lit (.int .u8 22), .lit (.int .u8 53), .lit (.int .u8 39), .lit (.int .u8 33), .lit (.int .u8 30), .lit (.int .u8 24), .lit (.int .u8 18), .lit (.int .u8 12), .lit (.int .u8 5), .lit (.int .u8 63), .lit (.int .u8 55), .lit (.int .u8 48), .lit (.int .u8 27), .lit (.int .u8 60), .lit (.int .u8 41), .lit (.int .u8 37), .lit (.int .u8 16), .lit (.int .u8 46), .lit (.int .u8 35), .lit (.int .u8 44), .lit (.int .u8 21), .lit (.int .u8 52), .lit (.int .u8 32), .lit (.int .u8 23), .lit (.int .u8 11), .lit (.int .u8 54), .lit (.int .u8 26), .lit (.int .u8 40), .lit (.int .u8 15), .lit (.int .u8 34), .lit (.int .u8 20), .lit (.int .u8 31), .lit (.int .u8 10), .lit (.int .u8 25), .lit (.int .u8 14), .lit (.int .u8 19), .lit (.int .u8 9), .lit (.int .u8 13), .lit (.int .u8 8), .lit (.int .u8 7), .lit (.int .u8 6)]

/-- 'cubbyholelaw07.SlotsRaw': WHATEVER THE INPUT: true; the input reads as it did. -/
def slotsRawSpec : ChangeSpec := { name := "slotsRaw", fn := fun _ => fun
  | [d1, d2] => { results := [.lit (.bool true)], args := [d1, d2] }
  | _ => none }
def slotsRawRow : OpenClaim := { program := "ytjekgnoonlglcaadoor", sum := "0f90e146245387d8cb9d70a8e2a31df792f4210415c735d2219b3890a07175a9", func := "cubbyhole/cubbyholelaw07.SlotsRaw", spec := "slotsRaw", named := ["math/bits.deBruijn64tab"], apart := false, laid := [("math/bits.deBruijn64tab", laid_math_bits_deBruijn64tab)] }
def SlotsRawSaid : Prop := slotsRawRow.holds Tryd.pinned (OpenSpec.ofChange slotsRawSpec)

/-- ITS FALSE NEIGHBOUR: 'it returns false'. Refute it at one input. -/
def slotsRawWrong : ChangeSpec := { name := "slotsRaw", fn := fun _ => fun
  | [d1, d2] => { results := [.lit (.bool false)], args := [d1, d2] }
  | _ => none }
def SlotsRawWrongFalsely : Prop := slotsRawRow.holds Tryd.pinned (OpenSpec.ofChange slotsRawWrong)

/-- 'cubbyholelaw02.SetAsks': WHATEVER THE INPUT: true; the input reads as it did. -/
def setAsksSpec : ChangeSpec := { name := "setAsks", fn := fun _ => fun
  | [d1, d2, d3] => { results := [.lit (.bool true)], args := [d1, d2, d3] }
  | _ => none }
def setAsksRow : OpenClaim := { program := "ytjekgnoonlglcaadoor", sum := "0f90e146245387d8cb9d70a8e2a31df792f4210415c735d2219b3890a07175a9", func := "cubbyhole/cubbyholelaw02.SetAsks", spec := "setAsks", named := ["math/bits.deBruijn64tab"], apart := false, laid := [("math/bits.deBruijn64tab", laid_math_bits_deBruijn64tab)] }
def SetAsksSaid : Prop := setAsksRow.holds Tryd.pinned (OpenSpec.ofChange setAsksSpec)

/-- ITS FALSE NEIGHBOUR: 'it returns false'. Refute it at one input. -/
def setAsksWrong : ChangeSpec := { name := "setAsks", fn := fun _ => fun
  | [d1, d2, d3] => { results := [.lit (.bool false)], args := [d1, d2, d3] }
  | _ => none }
def SetAsksWrongFalsely : Prop := setAsksRow.holds Tryd.pinned (OpenSpec.ofChange setAsksWrong)

/-- 'cubbyholelaw02.SetRaw': WHATEVER THE INPUT: true; the input reads as it did. -/
def setRawSpec : ChangeSpec := { name := "setRaw", fn := fun _ => fun
  | [d1, d2, d3] => { results := [.lit (.bool true)], args := [d1, d2, d3] }
  | _ => none }
def setRawRow : OpenClaim := { program := "ytjekgnoonlglcaadoor", sum := "0f90e146245387d8cb9d70a8e2a31df792f4210415c735d2219b3890a07175a9", func := "cubbyhole/cubbyholelaw02.SetRaw", spec := "setRaw", named := ["math/bits.deBruijn64tab"], apart := false, laid := [("math/bits.deBruijn64tab", laid_math_bits_deBruijn64tab)] }
def SetRawSaid : Prop := setRawRow.holds Tryd.pinned (OpenSpec.ofChange setRawSpec)

/-- ITS FALSE NEIGHBOUR: 'it returns false'. Refute it at one input. -/
def setRawWrong : ChangeSpec := { name := "setRaw", fn := fun _ => fun
  | [d1, d2, d3] => { results := [.lit (.bool false)], args := [d1, d2, d3] }
  | _ => none }
def SetRawWrongFalsely : Prop := setRawRow.holds Tryd.pinned (OpenSpec.ofChange setRawWrong)

/-- 'cubbyholelaw07.SlotsPlays': WHATEVER THE INPUT: true; the input reads as it did. -/
def slotsPlaysSpec : ChangeSpec := { name := "slotsPlays", fn := fun _ => fun
  | [d] => { results := [.lit (.bool true)], args := [d] }
  | _ => none }
def slotsPlaysRow : OpenClaim := { program := "ytjekgnoonlglcaadoor", sum := "0f90e146245387d8cb9d70a8e2a31df792f4210415c735d2219b3890a07175a9", func := "cubbyhole/cubbyholelaw07.SlotsPlays", spec := "slotsPlays", named := ["math/bits.deBruijn64tab"], apart := false, laid := [("math/bits.deBruijn64tab", laid_math_bits_deBruijn64tab)] }
def SlotsPlaysSaid : Prop := slotsPlaysRow.holds Tryd.pinned (OpenSpec.ofChange slotsPlaysSpec)

/-- ITS FALSE NEIGHBOUR: 'it returns false'. Refute it at one input. -/
def slotsPlaysWrong : ChangeSpec := { name := "slotsPlays", fn := fun _ => fun
  | [d] => { results := [.lit (.bool false)], args := [d] }
  | _ => none }
def SlotsPlaysWrongFalsely : Prop := slotsPlaysRow.holds Tryd.pinned (OpenSpec.ofChange slotsPlaysWrong)

/-- 'cubbyholelaw04.PagesPlays': WHATEVER THE INPUT: true; the input reads as it did. -/
def pagesPlaysSpec : ChangeSpec := { name := "pagesPlays", fn := fun _ => fun
  | [d1, d2] => { results := [.lit (.bool true)], args := [d1, d2] }
  | _ => none }
def pagesPlaysRow : OpenClaim := { program := "ytjekgnoonlglcaadoor", sum := "0f90e146245387d8cb9d70a8e2a31df792f4210415c735d2219b3890a07175a9", func := "cubbyhole/cubbyholelaw04.PagesPlays", spec := "pagesPlays", named := ["math/bits.deBruijn64tab"], apart := false, laid := [("math/bits.deBruijn64tab", laid_math_bits_deBruijn64tab)] }
def PagesPlaysSaid : Prop := pagesPlaysRow.holds Tryd.pinned (OpenSpec.ofChange pagesPlaysSpec)

/-- ITS FALSE NEIGHBOUR: 'it returns false'. Refute it at one input. -/
def pagesPlaysWrong : ChangeSpec := { name := "pagesPlays", fn := fun _ => fun
  | [d1, d2] => { results := [.lit (.bool false)], args := [d1, d2] }
  | _ => none }
def PagesPlaysWrongFalsely : Prop := pagesPlaysRow.holds Tryd.pinned (OpenSpec.ofChange pagesPlaysWrong)

/-- 'cubbyholelaw04.PagesRaw': WHATEVER THE INPUT: true; the input reads as it did. -/
def pagesRawSpec : ChangeSpec := { name := "pagesRaw", fn := fun _ => fun
  | [d1, d2, d3] => { results := [.lit (.bool true)], args := [d1, d2, d3] }
  | _ => none }
def pagesRawRow : OpenClaim := { program := "ytjekgnoonlglcaadoor", sum := "0f90e146245387d8cb9d70a8e2a31df792f4210415c735d2219b3890a07175a9", func := "cubbyhole/cubbyholelaw04.PagesRaw", spec := "pagesRaw", named := ["math/bits.deBruijn64tab"], apart := false, laid := [("math/bits.deBruijn64tab", laid_math_bits_deBruijn64tab)] }
def PagesRawSaid : Prop := pagesRawRow.holds Tryd.pinned (OpenSpec.ofChange pagesRawSpec)

/-- ITS FALSE NEIGHBOUR: 'it returns false'. Refute it at one input. -/
def pagesRawWrong : ChangeSpec := { name := "pagesRaw", fn := fun _ => fun
  | [d1, d2, d3] => { results := [.lit (.bool false)], args := [d1, d2, d3] }
  | _ => none }
def PagesRawWrongFalsely : Prop := pagesRawRow.holds Tryd.pinned (OpenSpec.ofChange pagesRawWrong)

/-- 'cubbyholelaw02.SetPlays': WHATEVER THE INPUT: true; the input reads as it did. -/
def setPlaysSpec : ChangeSpec := { name := "setPlays", fn := fun _ => fun
  | [d1, d2] => { results := [.lit (.bool true)], args := [d1, d2] }
  | _ => none }
def setPlaysRow : OpenClaim := { program := "ytjekgnoonlglcaadoor", sum := "0f90e146245387d8cb9d70a8e2a31df792f4210415c735d2219b3890a07175a9", func := "cubbyhole/cubbyholelaw02.SetPlays", spec := "setPlays", named := ["math/bits.deBruijn64tab"], apart := false, laid := [("math/bits.deBruijn64tab", laid_math_bits_deBruijn64tab)] }
def SetPlaysSaid : Prop := setPlaysRow.holds Tryd.pinned (OpenSpec.ofChange setPlaysSpec)

/-- ITS FALSE NEIGHBOUR: 'it returns false'. Refute it at one input. -/
def setPlaysWrong : ChangeSpec := { name := "setPlays", fn := fun _ => fun
  | [d1, d2] => { results := [.lit (.bool false)], args := [d1, d2] }
  | _ => none }
def SetPlaysWrongFalsely : Prop := setPlaysRow.holds Tryd.pinned (OpenSpec.ofChange setPlaysWrong)

/-- 'cubbyholelaw33.PaintRaw': WHATEVER THE INPUT: true; the input reads as it did. -/
def paintRawSpec : ChangeSpec := { name := "paintRaw", fn := fun _ => fun
  | [d] => { results := [.lit (.bool true)], args := [d] }
  | _ => none }
def paintRawRow : OpenClaim := { program := "ytjekgnoonlglcaadoor", sum := "0f90e146245387d8cb9d70a8e2a31df792f4210415c735d2219b3890a07175a9", func := "cubbyhole/cubbyholelaw33.PaintRaw", spec := "paintRaw", named := ["math/bits.deBruijn64tab"], apart := false, laid := [("math/bits.deBruijn64tab", laid_math_bits_deBruijn64tab)] }
def PaintRawSaid : Prop := paintRawRow.holds Tryd.pinned (OpenSpec.ofChange paintRawSpec)

/-- ITS FALSE NEIGHBOUR: 'it returns false'. Refute it at one input. -/
def paintRawWrong : ChangeSpec := { name := "paintRaw", fn := fun _ => fun
  | [d] => { results := [.lit (.bool false)], args := [d] }
  | _ => none }
def PaintRawWrongFalsely : Prop := paintRawRow.holds Tryd.pinned (OpenSpec.ofChange paintRawWrong)

/-- 'cubbyholelaw33.PaintPlays': WHATEVER THE INPUT: true; the input reads as it did. -/
def paintPlaysSpec : ChangeSpec := { name := "paintPlays", fn := fun _ => fun
  | [d1, d2] => { results := [.lit (.bool true)], args := [d1, d2] }
  | _ => none }
def paintPlaysRow : OpenClaim := { program := "ytjekgnoonlglcaadoor", sum := "0f90e146245387d8cb9d70a8e2a31df792f4210415c735d2219b3890a07175a9", func := "cubbyhole/cubbyholelaw33.PaintPlays", spec := "paintPlays", named := ["math/bits.deBruijn64tab"], apart := false, laid := [("math/bits.deBruijn64tab", laid_math_bits_deBruijn64tab)] }
def PaintPlaysSaid : Prop := paintPlaysRow.holds Tryd.pinned (OpenSpec.ofChange paintPlaysSpec)

/-- ITS FALSE NEIGHBOUR: 'it returns false'. Refute it at one input. -/
def paintPlaysWrong : ChangeSpec := { name := "paintPlays", fn := fun _ => fun
  | [d1, d2] => { results := [.lit (.bool false)], args := [d1, d2] }
  | _ => none }
def PaintPlaysWrongFalsely : Prop := paintPlaysRow.holds Tryd.pinned (OpenSpec.ofChange paintPlaysWrong)

/-- 'cubbyholelaw28.GapsPlays': WHATEVER THE INPUT: true; the input reads as it did. -/
def gapsPlaysSpec : ChangeSpec := { name := "gapsPlays", fn := fun _ => fun
  | [d1, d2] => { results := [.lit (.bool true)], args := [d1, d2] }
  | _ => none }
def gapsPlaysRow : OpenClaim := { program := "ytjekgnoonlglcaadoor", sum := "0f90e146245387d8cb9d70a8e2a31df792f4210415c735d2219b3890a07175a9", func := "cubbyhole/cubbyholelaw28.GapsPlays", spec := "gapsPlays", named := ["math/bits.deBruijn64tab"], apart := false, laid := [("math/bits.deBruijn64tab", laid_math_bits_deBruijn64tab)] }
def GapsPlaysSaid : Prop := gapsPlaysRow.holds Tryd.pinned (OpenSpec.ofChange gapsPlaysSpec)

/-- ITS FALSE NEIGHBOUR: 'it returns false'. Refute it at one input. -/
def gapsPlaysWrong : ChangeSpec := { name := "gapsPlays", fn := fun _ => fun
  | [d1, d2] => { results := [.lit (.bool false)], args := [d1, d2] }
  | _ => none }
def GapsPlaysWrongFalsely : Prop := gapsPlaysRow.holds Tryd.pinned (OpenSpec.ofChange gapsPlaysWrong)

/-- 'cubbyholelaw28.GapsRaw': WHATEVER THE INPUT: true; the input reads as it did. -/
def gapsRawSpec : ChangeSpec := { name := "gapsRaw", fn := fun _ => fun
  | [d1, d2, d3] => { results := [.lit (.bool true)], args := [d1, d2, d3] }
  | _ => none }
def gapsRawRow : OpenClaim := { program := "ytjekgnoonlglcaadoor", sum := "0f90e146245387d8cb9d70a8e2a31df792f4210415c735d2219b3890a07175a9", func := "cubbyhole/cubbyholelaw28.GapsRaw", spec := "gapsRaw", named := ["math/bits.deBruijn64tab"], apart := false, laid := [("math/bits.deBruijn64tab", laid_math_bits_deBruijn64tab)] }
def GapsRawSaid : Prop := gapsRawRow.holds Tryd.pinned (OpenSpec.ofChange gapsRawSpec)

/-- ITS FALSE NEIGHBOUR: 'it returns false'. Refute it at one input. -/
def gapsRawWrong : ChangeSpec := { name := "gapsRaw", fn := fun _ => fun
  | [d1, d2, d3] => { results := [.lit (.bool false)], args := [d1, d2, d3] }
  | _ => none }
def GapsRawWrongFalsely : Prop := gapsRawRow.holds Tryd.pinned (OpenSpec.ofChange gapsRawWrong)

/- THE SECOND FORM. 'bulk': how many values and letters a reading holds, each counted each time it is reached (what is shared counts as often as it is met; a slice's spare places count too). A statement '..UptoSaid' is the law's where the arguments, and the package variables that the reading takes, are together of bulk at most 1048576: NARROWER than '..Said'. Prove '..Said' where nothing that the law and all that it calls make is longer than what came in: it says more and counts as full. Else prove '..UptoSaid'. A law counts once. -/
mutual
def uptoBulk {H : Type} : DataW H → Nat
  | .lit (.string bytes) => bytes.length + 1
  | .lit _ => 1
  | .nil => 1
  | .ptr d => uptoBulk d + 1
  | .slice elems spare => uptoBulkAll elems + uptoBulkAll spare + 1
  | .agg parts => uptoBulkAll parts + 1
  | .iface _ d => uptoBulk d + 1
  | .map entries => uptoBulkEntries entries + 1
  | .held _ => 1
def uptoBulkAll {H : Type} : List (DataW H) → Nat
  | [] => 0
  | d :: r => uptoBulk d + uptoBulkAll r
def uptoBulkEntries {H : Type} : List (Lit × DataW H) → Nat
  | [] => 0
  | x :: r => uptoBulkEntry x + uptoBulkEntries r
def uptoBulkEntry {H : Type} : Lit × DataW H → Nat
  | (.string bytes, d) => bytes.length + uptoBulk d + 1
  | (_, d) => uptoBulk d + 1
 end
def uptoSmall : (H : Type) → List (DataW H) → Bool := fun _ ds => decide (uptoBulkAll ds ≤ 1048576)
def OpenSpec.upto (s : _root_.Go.ChangeSpec) : _root_.Go.OpenSpec := { _root_.Go.OpenSpec.ofChange s with cond := some uptoSmall }

/-- 'cubbyholelaw07.SlotsRaw', WHERE WHAT IT READS IS OF BULK AT MOST 1048576: true; the input reads as it did. -/
def slotsRawUptoRow : OpenClaim := { program := "ytjekgnoonlglcaadoor", sum := "0f90e146245387d8cb9d70a8e2a31df792f4210415c735d2219b3890a07175a9", func := "cubbyhole/cubbyholelaw07.SlotsRaw", spec := "slotsRaw", named := ["math/bits.deBruijn64tab"], apart := false, laid := [("math/bits.deBruijn64tab", laid_math_bits_deBruijn64tab)], narrowed := true }
def SlotsRawUptoSaid : Prop := slotsRawUptoRow.holds Tryd.pinned (OpenSpec.upto slotsRawSpec)

/-- 'cubbyholelaw02.SetAsks', WHERE WHAT IT READS IS OF BULK AT MOST 1048576: true; the input reads as it did. -/
def setAsksUptoRow : OpenClaim := { program := "ytjekgnoonlglcaadoor", sum := "0f90e146245387d8cb9d70a8e2a31df792f4210415c735d2219b3890a07175a9", func := "cubbyhole/cubbyholelaw02.SetAsks", spec := "setAsks", named := ["math/bits.deBruijn64tab"], apart := false, laid := [("math/bits.deBruijn64tab", laid_math_bits_deBruijn64tab)], narrowed := true }
def SetAsksUptoSaid : Prop := setAsksUptoRow.holds Tryd.pinned (OpenSpec.upto setAsksSpec)

/-- 'cubbyholelaw02.SetRaw', WHERE WHAT IT READS IS OF BULK AT MOST 1048576: true; the input reads as it did. -/
def setRawUptoRow : OpenClaim := { program := "ytjekgnoonlglcaadoor", sum := "0f90e146245387d8cb9d70a8e2a31df792f4210415c735d2219b3890a07175a9", func := "cubbyhole/cubbyholelaw02.SetRaw", spec := "setRaw", named := ["math/bits.deBruijn64tab"], apart := false, laid := [("math/bits.deBruijn64tab", laid_math_bits_deBruijn64tab)], narrowed := true }
def SetRawUptoSaid : Prop := setRawUptoRow.holds Tryd.pinned (OpenSpec.upto setRawSpec)

/-- 'cubbyholelaw07.SlotsPlays', WHERE WHAT IT READS IS OF BULK AT MOST 1048576: true; the input reads as it did. -/
def slotsPlaysUptoRow : OpenClaim := { program := "ytjekgnoonlglcaadoor", sum := "0f90e146245387d8cb9d70a8e2a31df792f4210415c735d2219b3890a07175a9", func := "cubbyhole/cubbyholelaw07.SlotsPlays", spec := "slotsPlays", named := ["math/bits.deBruijn64tab"], apart := false, laid := [("math/bits.deBruijn64tab", laid_math_bits_deBruijn64tab)], narrowed := true }
def SlotsPlaysUptoSaid : Prop := slotsPlaysUptoRow.holds Tryd.pinned (OpenSpec.upto slotsPlaysSpec)

/-- 'cubbyholelaw04.PagesPlays', WHERE WHAT IT READS IS OF BULK AT MOST 1048576: true; the input reads as it did. -/
def pagesPlaysUptoRow : OpenClaim := { program := "ytjekgnoonlglcaadoor", sum := "0f90e146245387d8cb9d70a8e2a31df792f4210415c735d2219b3890a07175a9", func := "cubbyhole/cubbyholelaw04.PagesPlays", spec := "pagesPlays", named := ["math/bits.deBruijn64tab"], apart := false, laid := [("math/bits.deBruijn64tab", laid_math_bits_deBruijn64tab)], narrowed := true }
def PagesPlaysUptoSaid : Prop := pagesPlaysUptoRow.holds Tryd.pinned (OpenSpec.upto pagesPlaysSpec)

/-- 'cubbyholelaw04.PagesRaw', WHERE WHAT IT READS IS OF BULK AT MOST 1048576: true; the input reads as it did. -/
def pagesRawUptoRow : OpenClaim := { program := "ytjekgnoonlglcaadoor", sum := "0f90e146245387d8cb9d70a8e2a31df792f4210415c735d2219b3890a07175a9", func := "cubbyhole/cubbyholelaw04.PagesRaw", spec := "pagesRaw", named := ["math/bits.deBruijn64tab"], apart := false, laid := [("math/bits.deBruijn64tab", laid_math_bits_deBruijn64tab)], narrowed := true }
def PagesRawUptoSaid : Prop := pagesRawUptoRow.holds Tryd.pinned (OpenSpec.upto pagesRawSpec)

/-- 'cubbyholelaw02.SetPlays', WHERE WHAT IT READS IS OF BULK AT MOST 1048576: true; the input reads as it did. -/
def setPlaysUptoRow : OpenClaim := { program := "ytjekgnoonlglcaadoor", sum := "0f90e146245387d8cb9d70a8e2a31df792f4210415c735d2219b3890a07175a9", func := "cubbyhole/cubbyholelaw02.SetPlays", spec := "setPlays", named := ["math/bits.deBruijn64tab"], apart := false, laid := [("math/bits.deBruijn64tab", laid_math_bits_deBruijn64tab)], narrowed := true }
def SetPlaysUptoSaid : Prop := setPlaysUptoRow.holds Tryd.pinned (OpenSpec.upto setPlaysSpec)

/-- 'cubbyholelaw33.PaintRaw', WHERE WHAT IT READS IS OF BULK AT MOST 1048576: true; the input reads as it did. -/
def paintRawUptoRow : OpenClaim := { program := "ytjekgnoonlglcaadoor", sum := "0f90e146245387d8cb9d70a8e2a31df792f4210415c735d2219b3890a07175a9", func := "cubbyhole/cubbyholelaw33.PaintRaw", spec := "paintRaw", named := ["math/bits.deBruijn64tab"], apart := false, laid := [("math/bits.deBruijn64tab", laid_math_bits_deBruijn64tab)], narrowed := true }
def PaintRawUptoSaid : Prop := paintRawUptoRow.holds Tryd.pinned (OpenSpec.upto paintRawSpec)

/-- 'cubbyholelaw33.PaintPlays', WHERE WHAT IT READS IS OF BULK AT MOST 1048576: true; the input reads as it did. -/
def paintPlaysUptoRow : OpenClaim := { program := "ytjekgnoonlglcaadoor", sum := "0f90e146245387d8cb9d70a8e2a31df792f4210415c735d2219b3890a07175a9", func := "cubbyhole/cubbyholelaw33.PaintPlays", spec := "paintPlays", named := ["math/bits.deBruijn64tab"], apart := false, laid := [("math/bits.deBruijn64tab", laid_math_bits_deBruijn64tab)], narrowed := true }
def PaintPlaysUptoSaid : Prop := paintPlaysUptoRow.holds Tryd.pinned (OpenSpec.upto paintPlaysSpec)

/-- 'cubbyholelaw28.GapsPlays', WHERE WHAT IT READS IS OF BULK AT MOST 1048576: true; the input reads as it did. -/
def gapsPlaysUptoRow : OpenClaim := { program := "ytjekgnoonlglcaadoor", sum := "0f90e146245387d8cb9d70a8e2a31df792f4210415c735d2219b3890a07175a9", func := "cubbyhole/cubbyholelaw28.GapsPlays", spec := "gapsPlays", named := ["math/bits.deBruijn64tab"], apart := false, laid := [("math/bits.deBruijn64tab", laid_math_bits_deBruijn64tab)], narrowed := true }
def GapsPlaysUptoSaid : Prop := gapsPlaysUptoRow.holds Tryd.pinned (OpenSpec.upto gapsPlaysSpec)

/-- 'cubbyholelaw28.GapsRaw', WHERE WHAT IT READS IS OF BULK AT MOST 1048576: true; the input reads as it did. -/
def gapsRawUptoRow : OpenClaim := { program := "ytjekgnoonlglcaadoor", sum := "0f90e146245387d8cb9d70a8e2a31df792f4210415c735d2219b3890a07175a9", func := "cubbyhole/cubbyholelaw28.GapsRaw", spec := "gapsRaw", named := ["math/bits.deBruijn64tab"], apart := false, laid := [("math/bits.deBruijn64tab", laid_math_bits_deBruijn64tab)], narrowed := true }
def GapsRawUptoSaid : Prop := gapsRawUptoRow.holds Tryd.pinned (OpenSpec.upto gapsRawSpec)

end Rows
end Go.Proofs.YtjekgnoonlglcaaDoor
