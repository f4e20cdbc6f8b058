/-
  DERIVED. GIVEN WITH THE SEED: THE CARDS: each row of YtaejfobbogahmabGreatDoorRows.lean that lists a variable, with what it lists TIED to the program's text (the seventh form; the later family's looks); each row that meets fmt, with fmt's text TOLD by the authors' own Lean function (tested against real Go, not proved from fmt's source: count such statements apart). THE CARD IS WHAT COUNTS. Prove the row's statement (the work); the ties are given (YtaejfobbogahmabGreatDoorTie.lean); close each card by the builder's one call (the guide's Derived/Test/ToyasCard.lean, 'card_holds'). Laid BY PROGRAM, IN A SANDBOX (cutbox-door.mjs). By AI agents, Wed Nov 11 2026. No macro, syntax, notation, axiom, sorry.
-/
import Derived.Test.YtaejfobbogahmabGreatDoorRows
import GoSem.ClaimSeven
namespace Go.Proofs.YtaejfobbogahmabGreatDoor
namespace Rows

/-- THE TIED CARD OF 'dispatchlaw.Seals'. -/
def sealsCard : Claim7 := { stood := { row := sealsRow, standIns := [], harness := (true, "ceed0c69e30074d1d9f6964b73a2c812c7b03c93434b64c403f7ba5fff3d56c0"), looks := true }, kinds := [], alts := [], laidByText := true, laidKinds := [.data, .data, .data, .data, .pinned], laidTests := true, laidLooks := .later }
def SealsCardSaid : Prop := Claim7.holds Tryz.pinned (.plain (OpenSpec.ofChange sealsSpec)) sealsCard

/-- THE TIED CARD OF 'dispatchlaw.Bads'. -/
def badsCard : Claim7 := { stood := { row := badsRow, standIns := [], harness := (true, "ceed0c69e30074d1d9f6964b73a2c812c7b03c93434b64c403f7ba5fff3d56c0"), looks := true }, kinds := [], alts := [], laidByText := true, laidKinds := [.data, .data, .data, .data, .pinned], laidTests := true, laidLooks := .later }
def BadsCardSaid : Prop := Claim7.holds Tryz.pinned (.plain (OpenSpec.ofChange badsSpec)) badsCard

/-- THE TIED CARD OF 'dispatchlaw.Queues'. -/
def queuesCard : Claim7 := { stood := { row := queuesRow, standIns := [], harness := (true, "ceed0c69e30074d1d9f6964b73a2c812c7b03c93434b64c403f7ba5fff3d56c0"), looks := true }, kinds := [], alts := [], laidByText := true, laidKinds := [.data, .data, .data, .data, .pinned], laidTests := true, laidLooks := .later }
def QueuesCardSaid : Prop := Claim7.holds Tryz.pinned (.plain (OpenSpec.ofChange queuesSpec)) queuesCard

/-- THE TIED CARD OF 'dispatchlaw.Looks'. -/
def looksCard : Claim7 := { stood := { row := looksRow, standIns := [], harness := (true, "ceed0c69e30074d1d9f6964b73a2c812c7b03c93434b64c403f7ba5fff3d56c0"), looks := true }, kinds := [], alts := [], laidByText := true, laidKinds := [.data, .data, .data, .data, .pinned], laidTests := true, laidLooks := .later }
def LooksCardSaid : Prop := Claim7.holds Tryz.pinned (.plain (OpenSpec.ofChange looksSpec)) looksCard

/-- THE SECOND FORM's CARD OF 'dispatchlaw.Seals'. -/
def sealsUptoCard : Claim7 := { stood := { row := sealsUptoRow, standIns := [], harness := (true, "ceed0c69e30074d1d9f6964b73a2c812c7b03c93434b64c403f7ba5fff3d56c0"), looks := true }, kinds := [], alts := [], laidByText := true, laidKinds := [.data, .data, .data, .data, .pinned], laidTests := true, laidLooks := .later }
def SealsUptoCardSaid : Prop := Claim7.holds Tryz.pinned (.plain (OpenSpec.upto sealsSpec)) sealsUptoCard

/-- THE SECOND FORM's CARD OF 'dispatchlaw.Bads'. -/
def badsUptoCard : Claim7 := { stood := { row := badsUptoRow, standIns := [], harness := (true, "ceed0c69e30074d1d9f6964b73a2c812c7b03c93434b64c403f7ba5fff3d56c0"), looks := true }, kinds := [], alts := [], laidByText := true, laidKinds := [.data, .data, .data, .data, .pinned], laidTests := true, laidLooks := .later }
def BadsUptoCardSaid : Prop := Claim7.holds Tryz.pinned (.plain (OpenSpec.upto badsSpec)) badsUptoCard

/-- THE SECOND FORM's CARD OF 'dispatchlaw.Queues'. -/
def queuesUptoCard : Claim7 := { stood := { row := queuesUptoRow, standIns := [], harness := (true, "ceed0c69e30074d1d9f6964b73a2c812c7b03c93434b64c403f7ba5fff3d56c0"), looks := true }, kinds := [], alts := [], laidByText := true, laidKinds := [.data, .data, .data, .data, .pinned], laidTests := true, laidLooks := .later }
def QueuesUptoCardSaid : Prop := Claim7.holds Tryz.pinned (.plain (OpenSpec.upto queuesSpec)) queuesUptoCard

/-- THE SECOND FORM's CARD OF 'dispatchlaw.Looks'. -/
def looksUptoCard : Claim7 := { stood := { row := looksUptoRow, standIns := [], harness := (true, "ceed0c69e30074d1d9f6964b73a2c812c7b03c93434b64c403f7ba5fff3d56c0"), looks := true }, kinds := [], alts := [], laidByText := true, laidKinds := [.data, .data, .data, .data, .pinned], laidTests := true, laidLooks := .later }
def LooksUptoCardSaid : Prop := Claim7.holds Tryz.pinned (.plain (OpenSpec.upto looksSpec)) looksUptoCard
end Rows
end Go.Proofs.YtaejfobbogahmabGreatDoor
