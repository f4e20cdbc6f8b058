/-
  PlayG MsgQ: texts of their own, joined.
-/
import Derived.Test.YtaejfobbogahmaaGreatDoorMkMMsg
import Derived.Test.YtaejfobbogahmaaGreatDoorMkStepG
set_option maxRecDepth 100000
set_option maxHeartbeats 16000000
set_option linter.all false
namespace Go.Proofs.YtaejfobbogahmaaGreatDoor
open Go Go.RowKit
def kQ (k:zA):Bool:=k==kSub||k==kCan||k==xh||k==xM
def kL (k:zA):Bool:=kQ k||k==xi||k==xP
def kA (k:zA):Bool:=kL k||k==xj
theorem zVZ {l:zA} {m:Msg} (h:zz l=some m):kA m.kind=true:=by
 rcases zJp h with e | e | e | e | e | e | e<;>(rw [e];decide)
theorem zVa (rest t:zA):zIk zAll kA rest t:=⟨fun _ _ _ _ _ hm=>zVZ hm,rfl⟩
theorem zVb:zDs kQ:=fun hI h c x hx hk hc hN hP hC=>by
 unfold kQ at hk
 simp only [Bool.or_eq_true,beq_iff_eq] at hk
 rcases hk with ((e | e) | e) | e
 ·exact zVn hI h c hx e hN hP hC
 ·exact zVo hI h c hx e hN hP hC
 ·exact zVv hI h c hx e hc hN hP hC
 ·exact zVq hI h c hx e hN hP hC
end Go.Proofs.YtaejfobbogahmaaGreatDoor
