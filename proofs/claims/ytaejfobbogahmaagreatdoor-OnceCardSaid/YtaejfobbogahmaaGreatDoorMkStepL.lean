/-
  Look: texts of their own, joined.
-/
import Derived.Test.YtaejfobbogahmaaGreatDoorMkQueue
import Derived.Laws.IdiomRangeMap
import Derived.Maps.RangeRun
set_option maxRecDepth 100000
set_option maxHeartbeats 16000000
set_option linter.all false
namespace Go.Proofs.YtaejfobbogahmaaGreatDoor
open Go Go.RowKit
def ItAt (wl:World) (R bm clock:Nat) (seen:Array Nat) (wr:World):Prop:=wr.heap[R]?=some (.mapIter (some bm) clock seen clock)∧Fr (fun b=>b=R) wl wr
theorem ItAt.next {wl wr w1:World} {R bm clock:Nat} {seen seen':Array Nat} (h:ItAt wl R bm clock seen wr) (h1:w1=wr∨w1=wr.drew):ItAt wl R bm clock seen' (Go.ChangeMaps.setBlock w1 R (.mapIter (some bm) clock seen' clock)):=by
 obtain ⟨h2,h3⟩:=h
 have hlt:=zD _ h2
 have h4:w1.heap=wr.heap∧w1.os=wr.os∧w1.tape=wr.tape∧w1.output=wr.output:=by rcases h1 with rfl | rfl<;>exact ⟨rfl,rfl,rfl,rfl⟩
 obtain ⟨e1,e2,e3,e4⟩:=h4
 refine ⟨?_,⟨e2.trans h3.os,e3.trans h3.tape,e4.trans h3.output,?_,fun i hi hn=>?_⟩⟩
 ·show (w1.heap.setIfInBounds R _)[R]?=_
  rw [e1];simp [hlt]
 ·show wl.heap.size≤(w1.heap.setIfInBounds R _).size
  rw [e1];simp;exact h3.size
 ·show (w1.heap.setIfInBounds R _)[i]?=_
  rw [e1,Array.getElem?_setIfInBounds_ne (fun e=>hn e.symm)]
  exact h3.block i hi hn
end Go.Proofs.YtaejfobbogahmaaGreatDoor
