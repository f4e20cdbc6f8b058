/-
  The walk of dispatchlaw.played where no message is played.
-/
import Derived.Test.YtaejfobbogahmabGreatDoorMkOps
import Derived.Test.YtaejfobbogahmabGreatDoorMkLawS
import Derived.Test.YtaejfobbogahmabGreatDoorMkRNum
set_option maxRecDepth 100000
set_option maxHeartbeats 16000000
set_option linter.unusedVariables false
set_option linter.unusedSimpArgs false
namespace Go.Proofs.YtaejfobbogahmabGreatDoor
open Go Go.RowKit
def playBad (o:OpD):Prop:=o.kind=1∨(o.kind=4∧noLet o.s)∨(o.kind=3∧readMsg o.s=none∧∀c∈o.s,c≠10)
end Go.Proofs.YtaejfobbogahmabGreatDoor
