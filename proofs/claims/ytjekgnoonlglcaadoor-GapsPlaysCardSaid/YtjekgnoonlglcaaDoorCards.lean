/-
  DERIVED. GIVEN WITH THE SEED: THE CARDS: each row of YtjekgnoonlglcaaDoorRows.lean that lists a variable, with what it lists TIED to the program's text (the seventh form; the later family's looks); each row that meets fmt, with fmt's text TOLD by the authors' own Lean function (tested against real Go, not proved from fmt's source: count such statements apart). THE CARD IS WHAT COUNTS. Prove the row's statement (the work); the ties are given (YtjekgnoonlglcaaDoorTie.lean); close each card by the builder's one call (the guide's Derived/Test/ToyasCard.lean, 'card_holds'). Laid BY PROGRAM, IN A SANDBOX (cutbox-door.mjs). By AI agents, Wed Nov 11 2026. No macro, syntax, notation, axiom, sorry.
-/
import Derived.Test.YtjekgnoonlglcaaDoorRows
import GoSem.ClaimSeven
namespace Go.Proofs.YtjekgnoonlglcaaDoor
namespace Rows

/-- THE TIED CARD OF 'cubbyholelaw07.SlotsRaw'. -/
def slotsRawCard : Claim7 := { stood := { row := slotsRawRow, standIns := [], harness := (true, "e3ec67ddc4baf4cb81365e03ebddde8a177eb72717b721464361724a653b678b"), looks := false }, kinds := [], alts := [], laidByText := true, laidKinds := [.data], laidTests := true, laidLooks := .later }
def SlotsRawCardSaid : Prop := Claim7.holds Tryd.pinned (.plain (OpenSpec.ofChange slotsRawSpec)) slotsRawCard

/-- THE TIED CARD OF 'cubbyholelaw02.SetAsks'. -/
def setAsksCard : Claim7 := { stood := { row := setAsksRow, standIns := [], harness := (true, "e3ec67ddc4baf4cb81365e03ebddde8a177eb72717b721464361724a653b678b"), looks := false }, kinds := [], alts := [], laidByText := true, laidKinds := [.data], laidTests := true, laidLooks := .later }
def SetAsksCardSaid : Prop := Claim7.holds Tryd.pinned (.plain (OpenSpec.ofChange setAsksSpec)) setAsksCard

/-- THE TIED CARD OF 'cubbyholelaw02.SetRaw'. -/
def setRawCard : Claim7 := { stood := { row := setRawRow, standIns := [], harness := (true, "e3ec67ddc4baf4cb81365e03ebddde8a177eb72717b721464361724a653b678b"), looks := false }, kinds := [], alts := [], laidByText := true, laidKinds := [.data], laidTests := true, laidLooks := .later }
def SetRawCardSaid : Prop := Claim7.holds Tryd.pinned (.plain (OpenSpec.ofChange setRawSpec)) setRawCard

/-- THE TIED CARD OF 'cubbyholelaw07.SlotsPlays'. -/
def slotsPlaysCard : Claim7 := { stood := { row := slotsPlaysRow, standIns := [], harness := (true, "e3ec67ddc4baf4cb81365e03ebddde8a177eb72717b721464361724a653b678b"), looks := false }, kinds := [], alts := [], laidByText := true, laidKinds := [.data], laidTests := true, laidLooks := .later }
def SlotsPlaysCardSaid : Prop := Claim7.holds Tryd.pinned (.plain (OpenSpec.ofChange slotsPlaysSpec)) slotsPlaysCard

/-- THE TIED CARD OF 'cubbyholelaw04.PagesPlays'. -/
def pagesPlaysCard : Claim7 := { stood := { row := pagesPlaysRow, standIns := [], harness := (true, "e3ec67ddc4baf4cb81365e03ebddde8a177eb72717b721464361724a653b678b"), looks := false }, kinds := [], alts := [], laidByText := true, laidKinds := [.data], laidTests := true, laidLooks := .later }
def PagesPlaysCardSaid : Prop := Claim7.holds Tryd.pinned (.plain (OpenSpec.ofChange pagesPlaysSpec)) pagesPlaysCard

/-- THE TIED CARD OF 'cubbyholelaw04.PagesRaw'. -/
def pagesRawCard : Claim7 := { stood := { row := pagesRawRow, standIns := [], harness := (true, "e3ec67ddc4baf4cb81365e03ebddde8a177eb72717b721464361724a653b678b"), looks := false }, kinds := [], alts := [], laidByText := true, laidKinds := [.data], laidTests := true, laidLooks := .later }
def PagesRawCardSaid : Prop := Claim7.holds Tryd.pinned (.plain (OpenSpec.ofChange pagesRawSpec)) pagesRawCard

/-- THE TIED CARD OF 'cubbyholelaw02.SetPlays'. -/
def setPlaysCard : Claim7 := { stood := { row := setPlaysRow, standIns := [], harness := (true, "e3ec67ddc4baf4cb81365e03ebddde8a177eb72717b721464361724a653b678b"), looks := false }, kinds := [], alts := [], laidByText := true, laidKinds := [.data], laidTests := true, laidLooks := .later }
def SetPlaysCardSaid : Prop := Claim7.holds Tryd.pinned (.plain (OpenSpec.ofChange setPlaysSpec)) setPlaysCard

/-- THE TIED CARD OF 'cubbyholelaw33.PaintRaw'. -/
def paintRawCard : Claim7 := { stood := { row := paintRawRow, standIns := [], harness := (true, "e3ec67ddc4baf4cb81365e03ebddde8a177eb72717b721464361724a653b678b"), looks := false }, kinds := [], alts := [], laidByText := true, laidKinds := [.data], laidTests := true, laidLooks := .later }
def PaintRawCardSaid : Prop := Claim7.holds Tryd.pinned (.plain (OpenSpec.ofChange paintRawSpec)) paintRawCard

/-- THE TIED CARD OF 'cubbyholelaw33.PaintPlays'. -/
def paintPlaysCard : Claim7 := { stood := { row := paintPlaysRow, standIns := [], harness := (true, "e3ec67ddc4baf4cb81365e03ebddde8a177eb72717b721464361724a653b678b"), looks := false }, kinds := [], alts := [], laidByText := true, laidKinds := [.data], laidTests := true, laidLooks := .later }
def PaintPlaysCardSaid : Prop := Claim7.holds Tryd.pinned (.plain (OpenSpec.ofChange paintPlaysSpec)) paintPlaysCard

/-- THE TIED CARD OF 'cubbyholelaw28.GapsPlays'. -/
def gapsPlaysCard : Claim7 := { stood := { row := gapsPlaysRow, standIns := [], harness := (true, "e3ec67ddc4baf4cb81365e03ebddde8a177eb72717b721464361724a653b678b"), looks := false }, kinds := [], alts := [], laidByText := true, laidKinds := [.data], laidTests := true, laidLooks := .later }
def GapsPlaysCardSaid : Prop := Claim7.holds Tryd.pinned (.plain (OpenSpec.ofChange gapsPlaysSpec)) gapsPlaysCard

/-- THE TIED CARD OF 'cubbyholelaw28.GapsRaw'. -/
def gapsRawCard : Claim7 := { stood := { row := gapsRawRow, standIns := [], harness := (true, "e3ec67ddc4baf4cb81365e03ebddde8a177eb72717b721464361724a653b678b"), looks := false }, kinds := [], alts := [], laidByText := true, laidKinds := [.data], laidTests := true, laidLooks := .later }
def GapsRawCardSaid : Prop := Claim7.holds Tryd.pinned (.plain (OpenSpec.ofChange gapsRawSpec)) gapsRawCard

/-- THE SECOND FORM's CARD OF 'cubbyholelaw07.SlotsRaw'. -/
def slotsRawUptoCard : Claim7 := { stood := { row := slotsRawUptoRow, standIns := [], harness := (true, "e3ec67ddc4baf4cb81365e03ebddde8a177eb72717b721464361724a653b678b"), looks := false }, kinds := [], alts := [], laidByText := true, laidKinds := [.data], laidTests := true, laidLooks := .later }
def SlotsRawUptoCardSaid : Prop := Claim7.holds Tryd.pinned (.plain (OpenSpec.upto slotsRawSpec)) slotsRawUptoCard

/-- THE SECOND FORM's CARD OF 'cubbyholelaw02.SetAsks'. -/
def setAsksUptoCard : Claim7 := { stood := { row := setAsksUptoRow, standIns := [], harness := (true, "e3ec67ddc4baf4cb81365e03ebddde8a177eb72717b721464361724a653b678b"), looks := false }, kinds := [], alts := [], laidByText := true, laidKinds := [.data], laidTests := true, laidLooks := .later }
def SetAsksUptoCardSaid : Prop := Claim7.holds Tryd.pinned (.plain (OpenSpec.upto setAsksSpec)) setAsksUptoCard

/-- THE SECOND FORM's CARD OF 'cubbyholelaw02.SetRaw'. -/
def setRawUptoCard : Claim7 := { stood := { row := setRawUptoRow, standIns := [], harness := (true, "e3ec67ddc4baf4cb81365e03ebddde8a177eb72717b721464361724a653b678b"), looks := false }, kinds := [], alts := [], laidByText := true, laidKinds := [.data], laidTests := true, laidLooks := .later }
def SetRawUptoCardSaid : Prop := Claim7.holds Tryd.pinned (.plain (OpenSpec.upto setRawSpec)) setRawUptoCard

/-- THE SECOND FORM's CARD OF 'cubbyholelaw07.SlotsPlays'. -/
def slotsPlaysUptoCard : Claim7 := { stood := { row := slotsPlaysUptoRow, standIns := [], harness := (true, "e3ec67ddc4baf4cb81365e03ebddde8a177eb72717b721464361724a653b678b"), looks := false }, kinds := [], alts := [], laidByText := true, laidKinds := [.data], laidTests := true, laidLooks := .later }
def SlotsPlaysUptoCardSaid : Prop := Claim7.holds Tryd.pinned (.plain (OpenSpec.upto slotsPlaysSpec)) slotsPlaysUptoCard

/-- THE SECOND FORM's CARD OF 'cubbyholelaw04.PagesPlays'. -/
def pagesPlaysUptoCard : Claim7 := { stood := { row := pagesPlaysUptoRow, standIns := [], harness := (true, "e3ec67ddc4baf4cb81365e03ebddde8a177eb72717b721464361724a653b678b"), looks := false }, kinds := [], alts := [], laidByText := true, laidKinds := [.data], laidTests := true, laidLooks := .later }
def PagesPlaysUptoCardSaid : Prop := Claim7.holds Tryd.pinned (.plain (OpenSpec.upto pagesPlaysSpec)) pagesPlaysUptoCard

/-- THE SECOND FORM's CARD OF 'cubbyholelaw04.PagesRaw'. -/
def pagesRawUptoCard : Claim7 := { stood := { row := pagesRawUptoRow, standIns := [], harness := (true, "e3ec67ddc4baf4cb81365e03ebddde8a177eb72717b721464361724a653b678b"), looks := false }, kinds := [], alts := [], laidByText := true, laidKinds := [.data], laidTests := true, laidLooks := .later }
def PagesRawUptoCardSaid : Prop := Claim7.holds Tryd.pinned (.plain (OpenSpec.upto pagesRawSpec)) pagesRawUptoCard

/-- THE SECOND FORM's CARD OF 'cubbyholelaw02.SetPlays'. -/
def setPlaysUptoCard : Claim7 := { stood := { row := setPlaysUptoRow, standIns := [], harness := (true, "e3ec67ddc4baf4cb81365e03ebddde8a177eb72717b721464361724a653b678b"), looks := false }, kinds := [], alts := [], laidByText := true, laidKinds := [.data], laidTests := true, laidLooks := .later }
def SetPlaysUptoCardSaid : Prop := Claim7.holds Tryd.pinned (.plain (OpenSpec.upto setPlaysSpec)) setPlaysUptoCard

/-- THE SECOND FORM's CARD OF 'cubbyholelaw33.PaintRaw'. -/
def paintRawUptoCard : Claim7 := { stood := { row := paintRawUptoRow, standIns := [], harness := (true, "e3ec67ddc4baf4cb81365e03ebddde8a177eb72717b721464361724a653b678b"), looks := false }, kinds := [], alts := [], laidByText := true, laidKinds := [.data], laidTests := true, laidLooks := .later }
def PaintRawUptoCardSaid : Prop := Claim7.holds Tryd.pinned (.plain (OpenSpec.upto paintRawSpec)) paintRawUptoCard

/-- THE SECOND FORM's CARD OF 'cubbyholelaw33.PaintPlays'. -/
def paintPlaysUptoCard : Claim7 := { stood := { row := paintPlaysUptoRow, standIns := [], harness := (true, "e3ec67ddc4baf4cb81365e03ebddde8a177eb72717b721464361724a653b678b"), looks := false }, kinds := [], alts := [], laidByText := true, laidKinds := [.data], laidTests := true, laidLooks := .later }
def PaintPlaysUptoCardSaid : Prop := Claim7.holds Tryd.pinned (.plain (OpenSpec.upto paintPlaysSpec)) paintPlaysUptoCard

/-- THE SECOND FORM's CARD OF 'cubbyholelaw28.GapsPlays'. -/
def gapsPlaysUptoCard : Claim7 := { stood := { row := gapsPlaysUptoRow, standIns := [], harness := (true, "e3ec67ddc4baf4cb81365e03ebddde8a177eb72717b721464361724a653b678b"), looks := false }, kinds := [], alts := [], laidByText := true, laidKinds := [.data], laidTests := true, laidLooks := .later }
def GapsPlaysUptoCardSaid : Prop := Claim7.holds Tryd.pinned (.plain (OpenSpec.upto gapsPlaysSpec)) gapsPlaysUptoCard

/-- THE SECOND FORM's CARD OF 'cubbyholelaw28.GapsRaw'. -/
def gapsRawUptoCard : Claim7 := { stood := { row := gapsRawUptoRow, standIns := [], harness := (true, "e3ec67ddc4baf4cb81365e03ebddde8a177eb72717b721464361724a653b678b"), looks := false }, kinds := [], alts := [], laidByText := true, laidKinds := [.data], laidTests := true, laidLooks := .later }
def GapsRawUptoCardSaid : Prop := Claim7.holds Tryd.pinned (.plain (OpenSpec.upto gapsRawSpec)) gapsRawUptoCard
end Rows
end Go.Proofs.YtjekgnoonlglcaaDoor
