/-
  MFig: texts of their own, joined.
-/
import Derived.Test.YtaejfobbogahmaaGreatDoorMkTable
import Derived.IntWalk
import Derived.Deep.RegionLaw
set_option maxRecDepth 100000
set_option maxHeartbeats 16000000
set_option linter.all false
namespace Go.Proofs.YtaejfobbogahmaaGreatDoor
open Go Go.RowKit
theorem zHW {n:Nat} (h:n < 10):dec n=[UInt8.ofNat (48+n)]:=by
 unfold dec decF;rw [if_pos h]
theorem zNQ {n:Nat} (h:¬n < 10) (h2:n < 1000000000000):dec n=dec (n / 10)++[UInt8.ofNat (48+n % 10)]:=by
 have key:∀(f n:Nat),n < 10 ^ (f+1)→decF f n=decF (f+1) n:=by
  intro f
  induction f with
  | zero=>intro n hn;simp at hn;simp [decF,hn,Nat.mod_eq_of_lt hn]
  | succ f ih =>
    intro n hn
    show decF (f+1) n=decF (f+2) n
    conv=>lhs;rw [decF]
    conv=>rhs;rw [decF]
    split
    ·rfl
    ·rw [ih (n / 10) (by rw [Nat.pow_succ] at hn;omega)]
 unfold dec
 conv=>lhs;rw [decF]
 rw [if_neg h,key 19 (n / 10) (by simp only [show (10:Nat) ^ (19+1)=100000000000000000000 from rfl];omega)]
end Go.Proofs.YtaejfobbogahmaaGreatDoor
