/-
  What is played of a script, by stages. No program in sight.
  What the document's message does, of the kinds of Queues.
-/
import Derived.Test.YtaejfobbogahmabGreatDoorMkOps
import Derived.Test.YtaejfobbogahmabGreatDoorMkLawS
import Derived.Test.YtaejfobbogahmabGreatDoorMkLawN
import Derived.Test.YtaejfobbogahmabGreatDoorMkFedE
import Derived.Test.YtaejfobbogahmabGreatDoorMkMMsg
import Derived.Test.YtaejfobbogahmabGreatDoorMkStepG
set_option maxRecDepth 100000
set_option maxHeartbeats 16000000
set_option linter.unusedVariables false
set_option linter.unusedSimpArgs false
namespace Go.Proofs.YtaejfobbogahmabGreatDoor
open Go Go.RowKit
theorem beq_or (a b:Bytes):(a==b)=true∨(a==b)=false:=by cases (a==b)<;>simp
def kQ (k:Bytes):Bool:=k==kSub||k==kCan||k==kPull||k==kDone
theorem kQ_read {l:Bytes} {m:Msg} (h:readMsg l=some m) (h1:m.kind≠kBeat) (h2:m.kind≠kFail) (h3:m.kind≠kDrain):kQ m.kind=true:=by
 rcases readMsg_kind h with e | e | e | e | e | e | e<;>first | exact absurd e h1 | exact absurd e h2 | exact absurd e h3 | (rw [e];decide)
structure playQ (o:OpD):Prop where
 say:o.kind=3→(∀c∈o.s,c≠10)∧headOf o≠kBeat∧headOf o≠kFail∧headOf o≠kDrain
 feed:o.kind=4→noLet o.s
 late:o.kind≠5∧o.kind≠6
theorem playQ_say {a b:Int} {c:Cfg} {s H:Bytes} (h:headOf ⟨3,a,b,c,s⟩=H) (hn:∀c∈s,c≠10) (h1:H≠kBeat) (h2:H≠kFail) (h3:H≠kDrain):playQ ⟨3,a,b,c,s⟩:=
 ⟨fun _=>⟨hn,by rw [h];exact h1,by rw [h];exact h2,by rw [h];exact h3⟩,fun e=>absurd e (by simp),by simp⟩
theorem playQ_feed {o:OpD} (hk:o.kind=4) (h:noLet o.s):playQ o:=⟨fun e=>by omega,fun _=>h,by omega⟩
theorem playQ_else {o:OpD} (h3:¬o.kind=3) (h4:¬o.kind=4) (h5:¬o.kind=5) (h6:¬o.kind=6):playQ o:=⟨fun e=>absurd e h3,fun e=>absurd e h4,h5,h6⟩
theorem head_say {o:OpD} (h:o.kind=3) {m:Msg} (hm:readMsg o.s=some m):m.kind=headOf o:=by
 unfold headOf
 rw [if_pos h]
 exact readMsg_first hm
theorem fedOk_Q {o:OpD} (h:playQ o) (hk:o.kind=3∨o.kind=4) {rest:Bytes} (hr:zNo rest=true):FedOk zNo kQ rest (textOf o):=by
 unfold textOf
 rcases hk with hk | hk
 ·rw [if_pos hk]
  obtain ⟨h1,h2,h3,h4⟩:=h.say hk
  exact fedOk_say hr (fun m hm=>kQ_read hm (by rw [head_say hk hm];exact h2) (by rw [head_say hk hm];exact h3) (by rw [head_say hk hm];exact h4)) h1
 ·rw [if_neg (by omega)]
  exact fedOk_feed hr (h.feed hk)
end Go.Proofs.YtaejfobbogahmabGreatDoor
namespace Go.Proofs.YtaejfobbogahmabGreatDoor
open Go Go.RowKit
theorem msgLaw_Q:MsgLaw kQ:=fun hI h c x hx hk hc hN hP hC=>by
 unfold kQ at hk
 simp only [Bool.or_eq_true,beq_iff_eq] at hk
 rcases hk with ((e | e) | e) | e
 ·exact mmsg_sub hI h c hx e hN hP hC
 ·exact mmsg_can hI h c hx e hN hP hC
 ·exact mmsg_pull hI h c hx e hc hN hP hC
 ·exact mmsg_done hI h c hx e hN hP hC
end Go.Proofs.YtaejfobbogahmabGreatDoor
