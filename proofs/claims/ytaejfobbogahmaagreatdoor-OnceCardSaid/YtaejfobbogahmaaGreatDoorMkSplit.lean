/-
  Split: texts of their own, joined.
-/
import Derived.Test.YtaejfobbogahmaaGreatDoorMkPure
import Derived.Lib.Split
import Derived.Lib.CountLaws
import Derived.Lib.SplitLaws
set_option maxRecDepth 100000
set_option maxHeartbeats 16000000
set_option linter.all false
namespace Go.Proofs.YtaejfobbogahmaaGreatDoor
open Go
theorem zKv (l:zA) (n:Nat):(bs l).extract 0 n=bs (l.take n):=ByteArray.ext (by simp [bs])
theorem zKw (l:zA) (k:Nat):(bs l).extract k (bs l).size=bs (l.drop k):=by
 apply ByteArray.ext
 simp [bs,ByteArray.size]
 exact List.take_of_length_le (by simp)
theorem zGb (c:UInt8):∀(l:zA),c∉l→Lib.index l [c] = -1
 | [],_=>rfl
 | b::l,h=>by
   simp only [List.mem_cons,not_or] at h
   have ih:=zGb c l h.2
   unfold Lib.index
   have:([c]:zA).isPrefixOf (b::l)=false:=by simp [List.isPrefixOf,h.1]
   rw [this,ih];rfl
theorem zGc (c:UInt8) (r:zA):∀(a:zA),c∉a→Lib.index (a++c::r) [c]=(a.length:Int)
 | [],_=>by simp [Lib.index,List.isPrefixOf]
 | b::a,h=>by
   simp only [List.mem_cons,not_or] at h
   have ih:=zGc c r a h.2
   simp only [List.cons_append]
   unfold Lib.index
   have:([c]:zA).isPrefixOf (b::(a++c::r))=false:=by simp [List.isPrefixOf,h.1]
   rw [this,ih]
   have h2:(((a.length:Int))==-1)=false:=beq_eq_false_iff_ne.2 (by omega)
   simp [h2]
theorem zGd (c:UInt8):∀(l:zA),c∉l→cut c l=[l]
 | [],_=>rfl
 | b::l,h=>by
   simp only [List.mem_cons,not_or] at h
   simp [cut,Ne.symm h.1,zGd c l h.2]
theorem zGe (c:UInt8) (r:zA):∀(a:zA),c∉a→cut c (a++c::r)=a::cut c r
 | [],_=>by simp [cut]
 | b::a,h=>by
   simp only [List.mem_cons,not_or] at h
   simp only [List.cons_append,cut,Ne.symm h.1,if_false,zGe c r a h.2]
theorem zGf (c:UInt8):∀(l:zA),c∉l∨∃a r,l=a++c::r∧c∉a
 | []=>.inl (by simp)
 | b::l=>by
   by_cases h:b=c
   ·subst h;exact .inr ⟨[],l,rfl,by simp⟩
   ·rcases zGf c l with h1 | ⟨a,r,rfl,h1⟩
    ·exact .inl (by simp [Ne.symm h,h1])
    ·exact .inr ⟨b::a,r,rfl,by simp [Ne.symm h,h1]⟩
theorem zGg (c:UInt8):∀(n:Nat) (l:zA),l.length≤n →
 Lib.splitB (bs [c]) 0 (Lib.countB (bs l) (bs [c])) (bs l)=(cut c l).map bs∧Lib.countB (bs l) (bs [c])+1=(cut c l).length
 | n,l,hl=>by
   rcases zGf c l with h | ⟨a,r,rfl,h⟩
   ·have hi:Lib.indexB (bs l) (bs [c]) = -1:=zGb c l h
    rw [Lib.countB_miss _ _ hi,zGd c l h]
    exact ⟨rfl,rfl⟩
   ·have hi:Lib.indexB (bs (a++c::r)) (bs [c])=(a.length:Nat):=zGc c r a h
    have h1:(bs [c]).size=1:=rfl
    have hd:(bs (a++c::r)).extract (a.length+(bs [c]).size) (bs (a++c::r)).size=bs r:=by
     rw [zKw,h1];congr 1
     rw [List.drop_append];simp
    have ht:(bs (a++c::r)).extract 0 (a.length+0)=bs a:=by
     rw [zKv];congr 1
     simp
    simp only [List.length_append,List.length_cons] at hl
    match n,hl with
    | n+1,hl =>
      obtain ⟨e1,e2⟩:=zGg c n r (by omega)
      rw [Lib.countB_hit _ _ _ (by rw [h1];exact Nat.le_refl _) hi,hd,zGe c r a h]
      rw [show 1+Lib.countB (bs r) (bs [c])=Lib.countB (bs r) (bs [c])+1 by omega,Lib.splitB_hit _ _ _ _ _ hi,hd,ht,e1]
      exact ⟨rfl,by simp [←e2]⟩
end Go.Proofs.YtaejfobbogahmaaGreatDoor
