/-
  DERIVED. GIVEN WITH THE SEED: THE CARDS: each row of YtaejfobbogahmaaGreatDoorRows.lean that lists a variable, with what it lists TIED to the program's text (the seventh form; the later family's looks); each row that meets fmt, with fmt's text TOLD by the authors' own Lean function (tested against real Go, not proved from fmt's source: count such statements apart). THE CARD IS WHAT COUNTS. Prove the row's statement (the work); the ties are given (YtaejfobbogahmaaGreatDoorTie.lean); close each card by the builder's one call (the guide's Derived/Test/ToyasCard.lean, 'card_holds'). Laid BY PROGRAM, IN A SANDBOX (cutbox-door.mjs). By AI agents, Wed Nov 11 2026. No macro, syntax, notation, axiom, sorry.
-/
import Derived.Test.YtaejfobbogahmaaGreatDoorRows
import GoSem.ClaimSeven
namespace Go.Proofs.YtaejfobbogahmaaGreatDoor
namespace Rows

/-- THE TIED CARD OF 'dispatchkeep.Refuses'. -/
def refusesCard : Claim7 := { stood := { row := refusesRow, standIns := [], harness := (true, "e824820f69296c1c8a0df1f7592b042f868eb2c349dd41e66be5cd9602294ad7"), looks := true }, kinds := [], alts := [], laidByText := true, laidKinds := [.data, .data, .data, .data, .pinned], laidTests := true, laidLooks := .later }
def RefusesCardSaid : Prop := Claim7.holds Tryz.pinned (.plain (OpenSpec.ofChange refusesSpec)) refusesCard

/-- THE TIED CARD OF 'dispatchkeep.Turns'. -/
def turnsCard : Claim7 := { stood := { row := turnsRow, standIns := [], harness := (true, "e824820f69296c1c8a0df1f7592b042f868eb2c349dd41e66be5cd9602294ad7"), looks := true }, kinds := [], alts := [], laidByText := true, laidKinds := [.data, .data, .data, .data, .pinned], laidTests := true, laidLooks := .later }
def TurnsCardSaid : Prop := Claim7.holds Tryz.pinned (.plain (OpenSpec.ofChange turnsSpec)) turnsCard

/-- THE TIED CARD OF 'dispatchkeep.Capped'. -/
def cappedCard : Claim7 := { stood := { row := cappedRow, standIns := [], harness := (true, "e824820f69296c1c8a0df1f7592b042f868eb2c349dd41e66be5cd9602294ad7"), looks := true }, kinds := [], alts := [], laidByText := true, laidKinds := [.data, .data, .data, .data, .pinned], laidTests := true, laidLooks := .later }
def CappedCardSaid : Prop := Claim7.holds Tryz.pinned (.plain (OpenSpec.ofChange cappedSpec)) cappedCard

/-- THE TIED CARD OF 'dispatchlaw.Leases'. -/
def leasesCard : Claim7 := { stood := { row := leasesRow, standIns := [], harness := (true, "e824820f69296c1c8a0df1f7592b042f868eb2c349dd41e66be5cd9602294ad7"), looks := true }, kinds := [], alts := [], laidByText := true, laidKinds := [.data, .data, .data, .data, .pinned], laidTests := true, laidLooks := .later }
def LeasesCardSaid : Prop := Claim7.holds Tryz.pinned (.plain (OpenSpec.ofChange leasesSpec)) leasesCard

/-- THE TIED CARD OF 'dispatchkeep.Pieces'. -/
def piecesCard : Claim7 := { stood := { row := piecesRow, standIns := [], harness := (true, "e824820f69296c1c8a0df1f7592b042f868eb2c349dd41e66be5cd9602294ad7"), looks := true }, kinds := [], alts := [], laidByText := true, laidKinds := [.data, .data, .data, .data, .pinned], laidTests := true, laidLooks := .later }
def PiecesCardSaid : Prop := Claim7.holds Tryz.pinned (.plain (OpenSpec.ofChange piecesSpec)) piecesCard

/-- THE TIED CARD OF 'dispatchlaw.All'. -/
def allCard : Claim7 := { stood := { row := allRow, standIns := [], harness := (true, "e824820f69296c1c8a0df1f7592b042f868eb2c349dd41e66be5cd9602294ad7"), looks := true }, kinds := [], alts := [], laidByText := true, laidKinds := [.data, .data, .data, .data, .pinned], laidTests := true, laidLooks := .later }
def AllCardSaid : Prop := Claim7.holds Tryz.pinned (.plain (OpenSpec.ofChange allSpec)) allCard

/-- THE TIED CARD OF 'dispatchkeep.Known'. -/
def knownCard : Claim7 := { stood := { row := knownRow, standIns := [], harness := (true, "e824820f69296c1c8a0df1f7592b042f868eb2c349dd41e66be5cd9602294ad7"), looks := true }, kinds := [], alts := [], laidByText := true, laidKinds := [.data, .data, .data, .data, .pinned], laidTests := true, laidLooks := .later }
def KnownCardSaid : Prop := Claim7.holds Tryz.pinned (.plain (OpenSpec.ofChange knownSpec)) knownCard

/-- THE TIED CARD OF 'dispatchkeep.Leased'. -/
def leasedCard : Claim7 := { stood := { row := leasedRow, standIns := [], harness := (true, "e824820f69296c1c8a0df1f7592b042f868eb2c349dd41e66be5cd9602294ad7"), looks := true }, kinds := [], alts := [], laidByText := true, laidKinds := [.data, .data, .data, .data, .pinned], laidTests := true, laidLooks := .later }
def LeasedCardSaid : Prop := Claim7.holds Tryz.pinned (.plain (OpenSpec.ofChange leasedSpec)) leasedCard

/-- THE TIED CARD OF 'dispatchkeep.Hedged'. -/
def hedgedCard : Claim7 := { stood := { row := hedgedRow, standIns := [], harness := (true, "e824820f69296c1c8a0df1f7592b042f868eb2c349dd41e66be5cd9602294ad7"), looks := true }, kinds := [], alts := [], laidByText := true, laidKinds := [.data, .data, .data, .data, .pinned], laidTests := true, laidLooks := .later }
def HedgedCardSaid : Prop := Claim7.holds Tryz.pinned (.plain (OpenSpec.ofChange hedgedSpec)) hedgedCard

/-- THE TIED CARD OF 'dispatchkeep.Drained'. -/
def drainedCard : Claim7 := { stood := { row := drainedRow, standIns := [], harness := (true, "e824820f69296c1c8a0df1f7592b042f868eb2c349dd41e66be5cd9602294ad7"), looks := true }, kinds := [], alts := [], laidByText := true, laidKinds := [.data, .data, .data, .data, .pinned], laidTests := true, laidLooks := .later }
def DrainedCardSaid : Prop := Claim7.holds Tryz.pinned (.plain (OpenSpec.ofChange drainedSpec)) drainedCard

/-- THE TIED CARD OF 'dispatchkeep.Once'. -/
def onceCard : Claim7 := { stood := { row := onceRow, standIns := [], harness := (true, "e824820f69296c1c8a0df1f7592b042f868eb2c349dd41e66be5cd9602294ad7"), looks := true }, kinds := [], alts := [], laidByText := true, laidKinds := [.data, .data, .data, .data, .pinned], laidTests := true, laidLooks := .later }
def OnceCardSaid : Prop := Claim7.holds Tryz.pinned (.plain (OpenSpec.ofChange onceSpec)) onceCard

/-- THE SECOND FORM's CARD OF 'dispatchkeep.Refuses'. -/
def refusesUptoCard : Claim7 := { stood := { row := refusesUptoRow, standIns := [], harness := (true, "e824820f69296c1c8a0df1f7592b042f868eb2c349dd41e66be5cd9602294ad7"), looks := true }, kinds := [], alts := [], laidByText := true, laidKinds := [.data, .data, .data, .data, .pinned], laidTests := true, laidLooks := .later }
def RefusesUptoCardSaid : Prop := Claim7.holds Tryz.pinned (.plain (OpenSpec.upto refusesSpec)) refusesUptoCard

/-- THE SECOND FORM's CARD OF 'dispatchkeep.Turns'. -/
def turnsUptoCard : Claim7 := { stood := { row := turnsUptoRow, standIns := [], harness := (true, "e824820f69296c1c8a0df1f7592b042f868eb2c349dd41e66be5cd9602294ad7"), looks := true }, kinds := [], alts := [], laidByText := true, laidKinds := [.data, .data, .data, .data, .pinned], laidTests := true, laidLooks := .later }
def TurnsUptoCardSaid : Prop := Claim7.holds Tryz.pinned (.plain (OpenSpec.upto turnsSpec)) turnsUptoCard

/-- THE SECOND FORM's CARD OF 'dispatchkeep.Capped'. -/
def cappedUptoCard : Claim7 := { stood := { row := cappedUptoRow, standIns := [], harness := (true, "e824820f69296c1c8a0df1f7592b042f868eb2c349dd41e66be5cd9602294ad7"), looks := true }, kinds := [], alts := [], laidByText := true, laidKinds := [.data, .data, .data, .data, .pinned], laidTests := true, laidLooks := .later }
def CappedUptoCardSaid : Prop := Claim7.holds Tryz.pinned (.plain (OpenSpec.upto cappedSpec)) cappedUptoCard

/-- THE SECOND FORM's CARD OF 'dispatchlaw.Leases'. -/
def leasesUptoCard : Claim7 := { stood := { row := leasesUptoRow, standIns := [], harness := (true, "e824820f69296c1c8a0df1f7592b042f868eb2c349dd41e66be5cd9602294ad7"), looks := true }, kinds := [], alts := [], laidByText := true, laidKinds := [.data, .data, .data, .data, .pinned], laidTests := true, laidLooks := .later }
def LeasesUptoCardSaid : Prop := Claim7.holds Tryz.pinned (.plain (OpenSpec.upto leasesSpec)) leasesUptoCard

/-- THE SECOND FORM's CARD OF 'dispatchkeep.Pieces'. -/
def piecesUptoCard : Claim7 := { stood := { row := piecesUptoRow, standIns := [], harness := (true, "e824820f69296c1c8a0df1f7592b042f868eb2c349dd41e66be5cd9602294ad7"), looks := true }, kinds := [], alts := [], laidByText := true, laidKinds := [.data, .data, .data, .data, .pinned], laidTests := true, laidLooks := .later }
def PiecesUptoCardSaid : Prop := Claim7.holds Tryz.pinned (.plain (OpenSpec.upto piecesSpec)) piecesUptoCard

/-- THE SECOND FORM's CARD OF 'dispatchlaw.All'. -/
def allUptoCard : Claim7 := { stood := { row := allUptoRow, standIns := [], harness := (true, "e824820f69296c1c8a0df1f7592b042f868eb2c349dd41e66be5cd9602294ad7"), looks := true }, kinds := [], alts := [], laidByText := true, laidKinds := [.data, .data, .data, .data, .pinned], laidTests := true, laidLooks := .later }
def AllUptoCardSaid : Prop := Claim7.holds Tryz.pinned (.plain (OpenSpec.upto allSpec)) allUptoCard

/-- THE SECOND FORM's CARD OF 'dispatchkeep.Known'. -/
def knownUptoCard : Claim7 := { stood := { row := knownUptoRow, standIns := [], harness := (true, "e824820f69296c1c8a0df1f7592b042f868eb2c349dd41e66be5cd9602294ad7"), looks := true }, kinds := [], alts := [], laidByText := true, laidKinds := [.data, .data, .data, .data, .pinned], laidTests := true, laidLooks := .later }
def KnownUptoCardSaid : Prop := Claim7.holds Tryz.pinned (.plain (OpenSpec.upto knownSpec)) knownUptoCard

/-- THE SECOND FORM's CARD OF 'dispatchkeep.Leased'. -/
def leasedUptoCard : Claim7 := { stood := { row := leasedUptoRow, standIns := [], harness := (true, "e824820f69296c1c8a0df1f7592b042f868eb2c349dd41e66be5cd9602294ad7"), looks := true }, kinds := [], alts := [], laidByText := true, laidKinds := [.data, .data, .data, .data, .pinned], laidTests := true, laidLooks := .later }
def LeasedUptoCardSaid : Prop := Claim7.holds Tryz.pinned (.plain (OpenSpec.upto leasedSpec)) leasedUptoCard

/-- THE SECOND FORM's CARD OF 'dispatchkeep.Hedged'. -/
def hedgedUptoCard : Claim7 := { stood := { row := hedgedUptoRow, standIns := [], harness := (true, "e824820f69296c1c8a0df1f7592b042f868eb2c349dd41e66be5cd9602294ad7"), looks := true }, kinds := [], alts := [], laidByText := true, laidKinds := [.data, .data, .data, .data, .pinned], laidTests := true, laidLooks := .later }
def HedgedUptoCardSaid : Prop := Claim7.holds Tryz.pinned (.plain (OpenSpec.upto hedgedSpec)) hedgedUptoCard

/-- THE SECOND FORM's CARD OF 'dispatchkeep.Drained'. -/
def drainedUptoCard : Claim7 := { stood := { row := drainedUptoRow, standIns := [], harness := (true, "e824820f69296c1c8a0df1f7592b042f868eb2c349dd41e66be5cd9602294ad7"), looks := true }, kinds := [], alts := [], laidByText := true, laidKinds := [.data, .data, .data, .data, .pinned], laidTests := true, laidLooks := .later }
def DrainedUptoCardSaid : Prop := Claim7.holds Tryz.pinned (.plain (OpenSpec.upto drainedSpec)) drainedUptoCard

/-- THE SECOND FORM's CARD OF 'dispatchkeep.Once'. -/
def onceUptoCard : Claim7 := { stood := { row := onceUptoRow, standIns := [], harness := (true, "e824820f69296c1c8a0df1f7592b042f868eb2c349dd41e66be5cd9602294ad7"), looks := true }, kinds := [], alts := [], laidByText := true, laidKinds := [.data, .data, .data, .data, .pinned], laidTests := true, laidLooks := .later }
def OnceUptoCardSaid : Prop := Claim7.holds Tryz.pinned (.plain (OpenSpec.upto onceSpec)) onceUptoCard
end Rows
end Go.Proofs.YtaejfobbogahmaaGreatDoor
