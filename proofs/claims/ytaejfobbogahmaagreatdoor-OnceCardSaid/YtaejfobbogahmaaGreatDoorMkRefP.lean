/-
  RefP: texts of their own, joined.
-/
import Derived.Test.YtaejfobbogahmaaGreatDoorMkPure
set_option maxRecDepth 100000
set_option maxHeartbeats 16000000
set_option linter.all false
namespace Go.Proofs.YtaejfobbogahmaaGreatDoor
open Go
section
variable {K V:Type} [DecidableEq K]
theorem zEe:∀{l:List (K×V)} {k:K},(l.map Prod.fst).Nodup→adel l k=l.filter fun p=>!decide (p.1=k)
 | [],_,_=>rfl
 | (j,y)::l,k,hn=>by
   rw [List.map_cons,List.nodup_cons] at hn
   unfold adel
   by_cases e:j=k
   ·subst e
    rw [if_pos rfl,List.filter_cons_of_neg (by simp)]
    symm
    rw [List.filter_eq_self]
    intro p hp
    simp
    intro e
    exact hn.1 (by show j∈_;rw [←e];exact List.mem_map_of_mem (f:=Prod.fst) hp)
   ·rw [if_neg e,List.filter_cons_of_pos (by simp [e]),zEe hn.2]
end
end Go.Proofs.YtaejfobbogahmaaGreatDoor
