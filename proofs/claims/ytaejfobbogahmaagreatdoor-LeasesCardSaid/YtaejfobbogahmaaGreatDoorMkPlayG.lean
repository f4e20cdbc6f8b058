/-
  PlayG MsgQ: texts of their own, joined.
-/
import Derived.Test.YtaejfobbogahmaaGreatDoorMkOps
import Derived.Test.YtaejfobbogahmaaGreatDoorMkLawN
import Derived.Test.YtaejfobbogahmaaGreatDoorMkFedE
import Derived.Test.YtaejfobbogahmaaGreatDoorMkMMsg
import Derived.Test.YtaejfobbogahmaaGreatDoorMkStepG
set_option maxRecDepth 100000
set_option maxHeartbeats 16000000
set_option linter.all false
namespace Go.Proofs.YtaejfobbogahmaaGreatDoor
open Go Go.RowKit
theorem zTb (a b:Bytes):(a==b)=true∨(a==b)=false:=by cases (a==b)<;>simp
def kQ (k:Bytes):Bool:=k==kSub||k==kCan||k==kPull||k==kDone
def kL (k:Bytes):Bool:=kQ k||k==kBeat||k==kFail
theorem zWe {l:Bytes} {m:Msg} (h:zAo l=some m) (h3:m.kind≠zCZ):kL m.kind=true:=by
 rcases zHh h with e | e | e | e | e | e | e<;>first | exact absurd e h3 | (rw [e];decide)
structure playL (o:OpD):Prop where
 say:o.kind=3→(∀c∈o.s,c≠10)∧zGm o≠zCZ
 feed:o.kind=4→noLet o.s
 late:o.kind≠6
theorem zJm {a b:Int} {c:Cfg} {s H:Bytes} (h:zGm ⟨3,a,b,c,s⟩=H) (hn:∀c∈s,c≠10) (h3:H≠zCZ):playL ⟨3,a,b,c,s⟩:=
 ⟨fun _=>⟨hn,by rw [h];exact h3⟩,fun e=>absurd e (by simp),by simp⟩
theorem zRD {o:OpD} (hk:o.kind=4) (h:noLet o.s):playL o:=⟨fun e=>by omega,fun _=>h,by omega⟩
theorem zRE {o:OpD} (h3:¬o.kind=3) (h4:¬o.kind=4) (h6:¬o.kind=6):playL o:=⟨fun e=>absurd e h3,fun e=>absurd e h4,h6⟩
theorem zVR {o:OpD} (h:o.kind=3) {m:Msg} (hm:zAo o.s=some m):m.kind=zGm o:=by
 unfold zGm
 rw [if_pos h]
 exact zLt hm
theorem zWf {o:OpD} (h:playL o) (hk:o.kind=3∨o.kind=4) {rest:Bytes} (hr:zNo rest=true):FedOk zNo kL rest (zBx o):=by
 unfold zBx
 rcases hk with hk | hk
 ·rw [if_pos hk]
  obtain ⟨h1,h4⟩:=h.say hk
  exact zTN hr (fun m hm=>zWe hm (by rw [zVR hk hm];exact h4)) h1
 ·rw [if_neg (by omega)]
  exact zQz hr (h.feed hk)
theorem zVS:zNb kQ:=fun hI h c x hx hk hc hN hP hC=>by
 unfold kQ at hk
 simp only [Bool.or_eq_true,beq_iff_eq] at hk
 rcases hk with ((e | e) | e) | e
 ·exact zVV hI h c hx e hN hP hC
 ·exact zVW hI h c hx e hN hP hC
 ·exact zTi hI h c hx e hc hN hP hC
 ·exact zTf hI h c hx e hN hP hC
end Go.Proofs.YtaejfobbogahmaaGreatDoor
