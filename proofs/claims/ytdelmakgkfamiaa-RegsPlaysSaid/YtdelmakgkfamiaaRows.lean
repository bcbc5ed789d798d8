/-
  No cell of these rows narrows 'for every input' (looked for: loops, veiled, ifaces, maps, wideKeys, modest, calm, conditions, laid).
  DERIVED. THE GIVEN ROWS OF THIS SEAT. 12 by the template 'for every input the law returns true; each argument reads behind the call as it read before'; 0 by the template 'total and deterministic' (their statements: YtdelmakgkfamiaaTotals.lean).
  GIVEN WITH THE SEED: the statements are not yours to turn. If you find one false, say at which input.
  Laid BY PROGRAM, IN A SANDBOX (cutbox-rows.mjs): the forced cells as the released guide's own fill.sh prints them over the translation 181b0d1f273f2226… (all of the seat's roots in one cut). By AI agents, Wed Nov 11 2026. No macro, syntax, notation, axiom, sorry.
-/
import Derived.Test.YtdelmakgkfamiaaChecked
import GoSem.Claim
import GoSem.ClaimJoined
import GoSem.ClaimMapViews
import Derived.JoinedTies
import Derived.KernelRfl
namespace Go.Proofs.Ytdelmakgkfamiaa
/- THE CELL 'sum', in the pinned program and in every row, IS THE sha256 OF THE DUMP (.gsa) THAT YtdelmakgkfamiaaProg.lean LOADS. Nothing in Lean hashes anything: it is a label: what it is worth is what the hold of that sum in a sandbox is worth. -/
noncomputable def Try.pinned : Pinned := { name := "ytdelmakgkfamiaa", sum := "181b0d1f273f22262d691e5279fc8a8ceedcc31b75d01ce9e680b739f7600f03", checked := Try.checked }
namespace Rows
def none {H : Type} : Left H := { results := [], args := [] }

/-- 'cubbyholelaw06.TagsPlays': WHATEVER THE INPUT: true; the input reads as it did. -/
def tagsPlaysSpec : ChangeSpec := { name := "tagsPlays", fn := fun _ => fun
  | [d] => { results := [.lit (.bool true)], args := [d] }
  | _ => none }
def tagsPlaysRow : OpenClaim := { program := "ytdelmakgkfamiaa", sum := "181b0d1f273f22262d691e5279fc8a8ceedcc31b75d01ce9e680b739f7600f03", func := "cubbyhole/cubbyholelaw06.TagsPlays", spec := "tagsPlays", plainKeys := false, apart := false }
def TagsPlaysSaid : Prop := tagsPlaysRow.holds Try.pinned (OpenSpec.ofChange tagsPlaysSpec)

/-- ITS FALSE NEIGHBOUR: 'it returns false'. Refute it at one input. -/
def tagsPlaysWrong : ChangeSpec := { name := "tagsPlays", fn := fun _ => fun
  | [d] => { results := [.lit (.bool false)], args := [d] }
  | _ => none }
def TagsPlaysWrongFalsely : Prop := tagsPlaysRow.holds Try.pinned (OpenSpec.ofChange tagsPlaysWrong)

/-- 'cubbyholelaw06.TagsRaw': WHATEVER THE INPUT: true; the input reads as it did. -/
def tagsRawSpec : ChangeSpec := { name := "tagsRaw", fn := fun _ => fun
  | [d1, d2, d3] => { results := [.lit (.bool true)], args := [d1, d2, d3] }
  | _ => none }
def tagsRawRow : OpenClaim := { program := "ytdelmakgkfamiaa", sum := "181b0d1f273f22262d691e5279fc8a8ceedcc31b75d01ce9e680b739f7600f03", func := "cubbyhole/cubbyholelaw06.TagsRaw", spec := "tagsRaw", plainKeys := false, apart := false }
def TagsRawSaid : Prop := tagsRawRow.holds Try.pinned (OpenSpec.ofChange tagsRawSpec)

/-- ITS FALSE NEIGHBOUR: 'it returns false'. Refute it at one input. -/
def tagsRawWrong : ChangeSpec := { name := "tagsRaw", fn := fun _ => fun
  | [d1, d2, d3] => { results := [.lit (.bool false)], args := [d1, d2, d3] }
  | _ => none }
def TagsRawWrongFalsely : Prop := tagsRawRow.holds Try.pinned (OpenSpec.ofChange tagsRawWrong)

/-- 'cubbyholelaw12.DeriveOne': WHATEVER THE INPUT: true; the input reads as it did. -/
def deriveOneSpec : ChangeSpec := { name := "deriveOne", fn := fun _ => fun
  | [d1, d2, d3] => { results := [.lit (.bool true)], args := [d1, d2, d3] }
  | _ => none }
def deriveOneRow : OpenClaim := { program := "ytdelmakgkfamiaa", sum := "181b0d1f273f22262d691e5279fc8a8ceedcc31b75d01ce9e680b739f7600f03", func := "cubbyhole/cubbyholelaw12.DeriveOne", spec := "deriveOne", plainKeys := false, apart := false }
def DeriveOneSaid : Prop := deriveOneRow.holds Try.pinned (OpenSpec.ofChange deriveOneSpec)

/-- ITS FALSE NEIGHBOUR: 'it returns false'. Refute it at one input. -/
def deriveOneWrong : ChangeSpec := { name := "deriveOne", fn := fun _ => fun
  | [d1, d2, d3] => { results := [.lit (.bool false)], args := [d1, d2, d3] }
  | _ => none }
def DeriveOneWrongFalsely : Prop := deriveOneRow.holds Try.pinned (OpenSpec.ofChange deriveOneWrong)

/-- 'cubbyholelaw18.HeadBack': WHATEVER THE INPUT: true; the input reads as it did. -/
def headBackSpec : ChangeSpec := { name := "headBack", fn := fun _ => fun
  | [d1, d2, d3] => { results := [.lit (.bool true)], args := [d1, d2, d3] }
  | _ => none }
def headBackRow : OpenClaim := { program := "ytdelmakgkfamiaa", sum := "181b0d1f273f22262d691e5279fc8a8ceedcc31b75d01ce9e680b739f7600f03", func := "cubbyhole/cubbyholelaw18.HeadBack", spec := "headBack", plainKeys := false, apart := false }
def HeadBackSaid : Prop := headBackRow.holds Try.pinned (OpenSpec.ofChange headBackSpec)

/-- ITS FALSE NEIGHBOUR: 'it returns false'. Refute it at one input. -/
def headBackWrong : ChangeSpec := { name := "headBack", fn := fun _ => fun
  | [d1, d2, d3] => { results := [.lit (.bool false)], args := [d1, d2, d3] }
  | _ => none }
def HeadBackWrongFalsely : Prop := headBackRow.holds Try.pinned (OpenSpec.ofChange headBackWrong)

/-- 'cubbyholelaw18.HeadAny': WHATEVER THE INPUT: true; the input reads as it did. -/
def headAnySpec : ChangeSpec := { name := "headAny", fn := fun _ => fun
  | [d1, d2, d3] => { results := [.lit (.bool true)], args := [d1, d2, d3] }
  | _ => none }
def headAnyRow : OpenClaim := { program := "ytdelmakgkfamiaa", sum := "181b0d1f273f22262d691e5279fc8a8ceedcc31b75d01ce9e680b739f7600f03", func := "cubbyhole/cubbyholelaw18.HeadAny", spec := "headAny", plainKeys := false, apart := false }
def HeadAnySaid : Prop := headAnyRow.holds Try.pinned (OpenSpec.ofChange headAnySpec)

/-- ITS FALSE NEIGHBOUR: 'it returns false'. Refute it at one input. -/
def headAnyWrong : ChangeSpec := { name := "headAny", fn := fun _ => fun
  | [d1, d2, d3] => { results := [.lit (.bool false)], args := [d1, d2, d3] }
  | _ => none }
def HeadAnyWrongFalsely : Prop := headAnyRow.holds Try.pinned (OpenSpec.ofChange headAnyWrong)

/-- 'cubbyholelaw12.DeriveLess': WHATEVER THE INPUT: true; the input reads as it did. -/
def deriveLessSpec : ChangeSpec := { name := "deriveLess", fn := fun _ => fun
  | [d1, d2] => { results := [.lit (.bool true)], args := [d1, d2] }
  | _ => none }
def deriveLessRow : OpenClaim := { program := "ytdelmakgkfamiaa", sum := "181b0d1f273f22262d691e5279fc8a8ceedcc31b75d01ce9e680b739f7600f03", func := "cubbyhole/cubbyholelaw12.DeriveLess", spec := "deriveLess", plainKeys := false, apart := false }
def DeriveLessSaid : Prop := deriveLessRow.holds Try.pinned (OpenSpec.ofChange deriveLessSpec)

/-- ITS FALSE NEIGHBOUR: 'it returns false'. Refute it at one input. -/
def deriveLessWrong : ChangeSpec := { name := "deriveLess", fn := fun _ => fun
  | [d1, d2] => { results := [.lit (.bool false)], args := [d1, d2] }
  | _ => none }
def DeriveLessWrongFalsely : Prop := deriveLessRow.holds Try.pinned (OpenSpec.ofChange deriveLessWrong)

/-- 'cubbyholelaw31.ShelfPlays': WHATEVER THE INPUT: true; the input reads as it did. -/
def shelfPlaysSpec : ChangeSpec := { name := "shelfPlays", fn := fun _ => fun
  | [d1, d2] => { results := [.lit (.bool true)], args := [d1, d2] }
  | _ => none }
def shelfPlaysRow : OpenClaim := { program := "ytdelmakgkfamiaa", sum := "181b0d1f273f22262d691e5279fc8a8ceedcc31b75d01ce9e680b739f7600f03", func := "cubbyhole/cubbyholelaw31.ShelfPlays", spec := "shelfPlays", plainKeys := false, apart := false }
def ShelfPlaysSaid : Prop := shelfPlaysRow.holds Try.pinned (OpenSpec.ofChange shelfPlaysSpec)

/-- ITS FALSE NEIGHBOUR: 'it returns false'. Refute it at one input. -/
def shelfPlaysWrong : ChangeSpec := { name := "shelfPlays", fn := fun _ => fun
  | [d1, d2] => { results := [.lit (.bool false)], args := [d1, d2] }
  | _ => none }
def ShelfPlaysWrongFalsely : Prop := shelfPlaysRow.holds Try.pinned (OpenSpec.ofChange shelfPlaysWrong)

/-- 'cubbyholelaw05.StorePlays': WHATEVER THE INPUT: true; the input reads as it did. -/
def storePlaysSpec : ChangeSpec := { name := "storePlays", fn := fun _ => fun
  | [d] => { results := [.lit (.bool true)], args := [d] }
  | _ => none }
def storePlaysRow : OpenClaim := { program := "ytdelmakgkfamiaa", sum := "181b0d1f273f22262d691e5279fc8a8ceedcc31b75d01ce9e680b739f7600f03", func := "cubbyhole/cubbyholelaw05.StorePlays", spec := "storePlays", plainKeys := false, apart := false }
def StorePlaysSaid : Prop := storePlaysRow.holds Try.pinned (OpenSpec.ofChange storePlaysSpec)

/-- ITS FALSE NEIGHBOUR: 'it returns false'. Refute it at one input. -/
def storePlaysWrong : ChangeSpec := { name := "storePlays", fn := fun _ => fun
  | [d] => { results := [.lit (.bool false)], args := [d] }
  | _ => none }
def StorePlaysWrongFalsely : Prop := storePlaysRow.holds Try.pinned (OpenSpec.ofChange storePlaysWrong)

/-- 'cubbyholelaw05.StoreRaw': WHATEVER THE INPUT: true; the input reads as it did. -/
def storeRawSpec : ChangeSpec := { name := "storeRaw", fn := fun _ => fun
  | [d1, d2, d3] => { results := [.lit (.bool true)], args := [d1, d2, d3] }
  | _ => none }
def storeRawRow : OpenClaim := { program := "ytdelmakgkfamiaa", sum := "181b0d1f273f22262d691e5279fc8a8ceedcc31b75d01ce9e680b739f7600f03", func := "cubbyhole/cubbyholelaw05.StoreRaw", spec := "storeRaw", plainKeys := false, apart := false }
def StoreRawSaid : Prop := storeRawRow.holds Try.pinned (OpenSpec.ofChange storeRawSpec)

/-- ITS FALSE NEIGHBOUR: 'it returns false'. Refute it at one input. -/
def storeRawWrong : ChangeSpec := { name := "storeRaw", fn := fun _ => fun
  | [d1, d2, d3] => { results := [.lit (.bool false)], args := [d1, d2, d3] }
  | _ => none }
def StoreRawWrongFalsely : Prop := storeRawRow.holds Try.pinned (OpenSpec.ofChange storeRawWrong)

/-- 'cubbyholelaw15.RegsPlays': WHATEVER THE INPUT: true; the input reads as it did. -/
def regsPlaysSpec : ChangeSpec := { name := "regsPlays", fn := fun _ => fun
  | [d1, d2, d3] => { results := [.lit (.bool true)], args := [d1, d2, d3] }
  | _ => none }
def regsPlaysRow : OpenClaim := { program := "ytdelmakgkfamiaa", sum := "181b0d1f273f22262d691e5279fc8a8ceedcc31b75d01ce9e680b739f7600f03", func := "cubbyhole/cubbyholelaw15.RegsPlays", spec := "regsPlays", plainKeys := false, apart := false }
def RegsPlaysSaid : Prop := regsPlaysRow.holds Try.pinned (OpenSpec.ofChange regsPlaysSpec)

/-- ITS FALSE NEIGHBOUR: 'it returns false'. Refute it at one input. -/
def regsPlaysWrong : ChangeSpec := { name := "regsPlays", fn := fun _ => fun
  | [d1, d2, d3] => { results := [.lit (.bool false)], args := [d1, d2, d3] }
  | _ => none }
def RegsPlaysWrongFalsely : Prop := regsPlaysRow.holds Try.pinned (OpenSpec.ofChange regsPlaysWrong)

/-- 'cubbyholelaw15.RegsNone': WHATEVER THE INPUT: true; the input reads as it did. -/
def regsNoneSpec : ChangeSpec := { name := "regsNone", fn := fun _ => fun
  | [d1, d2, d3] => { results := [.lit (.bool true)], args := [d1, d2, d3] }
  | _ => none }
def regsNoneRow : OpenClaim := { program := "ytdelmakgkfamiaa", sum := "181b0d1f273f22262d691e5279fc8a8ceedcc31b75d01ce9e680b739f7600f03", func := "cubbyhole/cubbyholelaw15.RegsNone", spec := "regsNone", plainKeys := false, apart := false }
def RegsNoneSaid : Prop := regsNoneRow.holds Try.pinned (OpenSpec.ofChange regsNoneSpec)

/-- ITS FALSE NEIGHBOUR: 'it returns false'. Refute it at one input. -/
def regsNoneWrong : ChangeSpec := { name := "regsNone", fn := fun _ => fun
  | [d1, d2, d3] => { results := [.lit (.bool false)], args := [d1, d2, d3] }
  | _ => none }
def RegsNoneWrongFalsely : Prop := regsNoneRow.holds Try.pinned (OpenSpec.ofChange regsNoneWrong)

/-- 'cubbyholelaw24.BatchPlays': WHATEVER THE INPUT: true; the input reads as it did. -/
def batchPlaysSpec : ChangeSpec := { name := "batchPlays", fn := fun _ => fun
  | [d1, d2] => { results := [.lit (.bool true)], args := [d1, d2] }
  | _ => none }
def batchPlaysRow : OpenClaim := { program := "ytdelmakgkfamiaa", sum := "181b0d1f273f22262d691e5279fc8a8ceedcc31b75d01ce9e680b739f7600f03", func := "cubbyhole/cubbyholelaw24.BatchPlays", spec := "batchPlays", unfollowed := true, recurses := true, plainKeys := false, apart := false }
def BatchPlaysSaid : Prop := batchPlaysRow.holds Try.pinned (OpenSpec.ofChange batchPlaysSpec)

/-- ITS FALSE NEIGHBOUR: 'it returns false'. Refute it at one input. -/
def batchPlaysWrong : ChangeSpec := { name := "batchPlays", fn := fun _ => fun
  | [d1, d2] => { results := [.lit (.bool false)], args := [d1, d2] }
  | _ => none }
def BatchPlaysWrongFalsely : Prop := batchPlaysRow.holds Try.pinned (OpenSpec.ofChange batchPlaysWrong)

/- THE SECOND FORM. 'bulk': how many values and letters a reading holds, each counted each time it is reached (what is shared counts as often as it is met; a slice's spare places count too). A statement '..UptoSaid' is the law's where the arguments, and the package variables that the reading takes, are together of bulk at most 1048576: NARROWER than '..Said'. Prove '..Said' where nothing that the law and all that it calls make is longer than what came in: it says more and counts as full. Else prove '..UptoSaid'. A law counts once. -/
mutual
def uptoBulk {H : Type} : DataW H → Nat
  | .lit (.string bytes) => bytes.length + 1
  | .lit _ => 1
  | .nil => 1
  | .ptr d => uptoBulk d + 1
  | .slice elems spare => uptoBulkAll elems + uptoBulkAll spare + 1
  | .agg parts => uptoBulkAll parts + 1
  | .iface _ d => uptoBulk d + 1
  | .map entries => uptoBulkEntries entries + 1
  | .held _ => 1
def uptoBulkAll {H : Type} : List (DataW H) → Nat
  | [] => 0
  | d :: r => uptoBulk d + uptoBulkAll r
def uptoBulkEntries {H : Type} : List (Lit × DataW H) → Nat
  | [] => 0
  | x :: r => uptoBulkEntry x + uptoBulkEntries r
def uptoBulkEntry {H : Type} : Lit × DataW H → Nat
  | (.string bytes, d) => bytes.length + uptoBulk d + 1
  | (_, d) => uptoBulk d + 1
 end
def uptoSmall : (H : Type) → List (DataW H) → Bool := fun _ ds => decide (uptoBulkAll ds ≤ 1048576)
def OpenSpec.upto (s : _root_.Go.ChangeSpec) : _root_.Go.OpenSpec := { _root_.Go.OpenSpec.ofChange s with cond := some uptoSmall }

/-- 'cubbyholelaw06.TagsPlays', WHERE WHAT IT READS IS OF BULK AT MOST 1048576: true; the input reads as it did. -/
def tagsPlaysUptoRow : OpenClaim := { program := "ytdelmakgkfamiaa", sum := "181b0d1f273f22262d691e5279fc8a8ceedcc31b75d01ce9e680b739f7600f03", func := "cubbyhole/cubbyholelaw06.TagsPlays", spec := "tagsPlays", plainKeys := false, apart := false, narrowed := true }
def TagsPlaysUptoSaid : Prop := tagsPlaysUptoRow.holds Try.pinned (OpenSpec.upto tagsPlaysSpec)

/-- 'cubbyholelaw06.TagsRaw', WHERE WHAT IT READS IS OF BULK AT MOST 1048576: true; the input reads as it did. -/
def tagsRawUptoRow : OpenClaim := { program := "ytdelmakgkfamiaa", sum := "181b0d1f273f22262d691e5279fc8a8ceedcc31b75d01ce9e680b739f7600f03", func := "cubbyhole/cubbyholelaw06.TagsRaw", spec := "tagsRaw", plainKeys := false, apart := false, narrowed := true }
def TagsRawUptoSaid : Prop := tagsRawUptoRow.holds Try.pinned (OpenSpec.upto tagsRawSpec)

/-- 'cubbyholelaw12.DeriveOne', WHERE WHAT IT READS IS OF BULK AT MOST 1048576: true; the input reads as it did. -/
def deriveOneUptoRow : OpenClaim := { program := "ytdelmakgkfamiaa", sum := "181b0d1f273f22262d691e5279fc8a8ceedcc31b75d01ce9e680b739f7600f03", func := "cubbyhole/cubbyholelaw12.DeriveOne", spec := "deriveOne", plainKeys := false, apart := false, narrowed := true }
def DeriveOneUptoSaid : Prop := deriveOneUptoRow.holds Try.pinned (OpenSpec.upto deriveOneSpec)

/-- 'cubbyholelaw18.HeadBack', WHERE WHAT IT READS IS OF BULK AT MOST 1048576: true; the input reads as it did. -/
def headBackUptoRow : OpenClaim := { program := "ytdelmakgkfamiaa", sum := "181b0d1f273f22262d691e5279fc8a8ceedcc31b75d01ce9e680b739f7600f03", func := "cubbyhole/cubbyholelaw18.HeadBack", spec := "headBack", plainKeys := false, apart := false, narrowed := true }
def HeadBackUptoSaid : Prop := headBackUptoRow.holds Try.pinned (OpenSpec.upto headBackSpec)

/-- 'cubbyholelaw18.HeadAny', WHERE WHAT IT READS IS OF BULK AT MOST 1048576: true; the input reads as it did. -/
def headAnyUptoRow : OpenClaim := { program := "ytdelmakgkfamiaa", sum := "181b0d1f273f22262d691e5279fc8a8ceedcc31b75d01ce9e680b739f7600f03", func := "cubbyhole/cubbyholelaw18.HeadAny", spec := "headAny", plainKeys := false, apart := false, narrowed := true }
def HeadAnyUptoSaid : Prop := headAnyUptoRow.holds Try.pinned (OpenSpec.upto headAnySpec)

/-- 'cubbyholelaw12.DeriveLess', WHERE WHAT IT READS IS OF BULK AT MOST 1048576: true; the input reads as it did. -/
def deriveLessUptoRow : OpenClaim := { program := "ytdelmakgkfamiaa", sum := "181b0d1f273f22262d691e5279fc8a8ceedcc31b75d01ce9e680b739f7600f03", func := "cubbyhole/cubbyholelaw12.DeriveLess", spec := "deriveLess", plainKeys := false, apart := false, narrowed := true }
def DeriveLessUptoSaid : Prop := deriveLessUptoRow.holds Try.pinned (OpenSpec.upto deriveLessSpec)

/-- 'cubbyholelaw31.ShelfPlays', WHERE WHAT IT READS IS OF BULK AT MOST 1048576: true; the input reads as it did. -/
def shelfPlaysUptoRow : OpenClaim := { program := "ytdelmakgkfamiaa", sum := "181b0d1f273f22262d691e5279fc8a8ceedcc31b75d01ce9e680b739f7600f03", func := "cubbyhole/cubbyholelaw31.ShelfPlays", spec := "shelfPlays", plainKeys := false, apart := false, narrowed := true }
def ShelfPlaysUptoSaid : Prop := shelfPlaysUptoRow.holds Try.pinned (OpenSpec.upto shelfPlaysSpec)

/-- 'cubbyholelaw05.StorePlays', WHERE WHAT IT READS IS OF BULK AT MOST 1048576: true; the input reads as it did. -/
def storePlaysUptoRow : OpenClaim := { program := "ytdelmakgkfamiaa", sum := "181b0d1f273f22262d691e5279fc8a8ceedcc31b75d01ce9e680b739f7600f03", func := "cubbyhole/cubbyholelaw05.StorePlays", spec := "storePlays", plainKeys := false, apart := false, narrowed := true }
def StorePlaysUptoSaid : Prop := storePlaysUptoRow.holds Try.pinned (OpenSpec.upto storePlaysSpec)

/-- 'cubbyholelaw05.StoreRaw', WHERE WHAT IT READS IS OF BULK AT MOST 1048576: true; the input reads as it did. -/
def storeRawUptoRow : OpenClaim := { program := "ytdelmakgkfamiaa", sum := "181b0d1f273f22262d691e5279fc8a8ceedcc31b75d01ce9e680b739f7600f03", func := "cubbyhole/cubbyholelaw05.StoreRaw", spec := "storeRaw", plainKeys := false, apart := false, narrowed := true }
def StoreRawUptoSaid : Prop := storeRawUptoRow.holds Try.pinned (OpenSpec.upto storeRawSpec)

/-- 'cubbyholelaw15.RegsPlays', WHERE WHAT IT READS IS OF BULK AT MOST 1048576: true; the input reads as it did. -/
def regsPlaysUptoRow : OpenClaim := { program := "ytdelmakgkfamiaa", sum := "181b0d1f273f22262d691e5279fc8a8ceedcc31b75d01ce9e680b739f7600f03", func := "cubbyhole/cubbyholelaw15.RegsPlays", spec := "regsPlays", plainKeys := false, apart := false, narrowed := true }
def RegsPlaysUptoSaid : Prop := regsPlaysUptoRow.holds Try.pinned (OpenSpec.upto regsPlaysSpec)

/-- 'cubbyholelaw15.RegsNone', WHERE WHAT IT READS IS OF BULK AT MOST 1048576: true; the input reads as it did. -/
def regsNoneUptoRow : OpenClaim := { program := "ytdelmakgkfamiaa", sum := "181b0d1f273f22262d691e5279fc8a8ceedcc31b75d01ce9e680b739f7600f03", func := "cubbyhole/cubbyholelaw15.RegsNone", spec := "regsNone", plainKeys := false, apart := false, narrowed := true }
def RegsNoneUptoSaid : Prop := regsNoneUptoRow.holds Try.pinned (OpenSpec.upto regsNoneSpec)

/-- 'cubbyholelaw24.BatchPlays', WHERE WHAT IT READS IS OF BULK AT MOST 1048576: true; the input reads as it did. -/
def batchPlaysUptoRow : OpenClaim := { program := "ytdelmakgkfamiaa", sum := "181b0d1f273f22262d691e5279fc8a8ceedcc31b75d01ce9e680b739f7600f03", func := "cubbyhole/cubbyholelaw24.BatchPlays", spec := "batchPlays", unfollowed := true, recurses := true, plainKeys := false, apart := false, narrowed := true }
def BatchPlaysUptoSaid : Prop := batchPlaysUptoRow.holds Try.pinned (OpenSpec.upto batchPlaysSpec)

end Rows
end Go.Proofs.Ytdelmakgkfamiaa
