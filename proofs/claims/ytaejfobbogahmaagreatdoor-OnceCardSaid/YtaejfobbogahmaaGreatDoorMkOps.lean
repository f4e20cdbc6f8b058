/-
  Ops Played: texts of their own, joined.
-/
import Derived.Test.YtaejfobbogahmaaGreatDoorMkRep
set_option maxRecDepth 100000
set_option maxHeartbeats 16000000
set_option linter.all false
namespace Go.Proofs.YtaejfobbogahmaaGreatDoor
open Go Go.RowKit
structure OpD where
 kind:Int
 a:Int
 b:Int
 c:Cfg
 s:zA
def zNk (o:OpD):Array Value:=#[vi o.kind,vi o.a,vi o.b,vi o.c.lease,vi o.c.retries,vi o.c.cap,vi o.c.bound,vi o.c.hedge,vs (bs o.s)]
def zCK (w:World) (a:Option Addr) (ops:List OpD):Prop:=∀j o,ops[j]?=some o→∃b off,a=some ⟨b,off,none⟩∧∀k v,(zNk o)[k]?=some v→w.cell? ⟨b,off+j*9+k,none⟩=some v
theorem zNl {w:World} {a:Addr} {v:Value} (h:w.cell? a=some v):a.block < w.heap.size:=by
 rcases Nat.lt_or_ge a.block w.heap.size with h1 | h1
 ·exact h1
 ·rw [World.cell?,Array.getElem?_eq_none h1] at h;simp at h
theorem zCK.below {w w':World} {a:Option Addr} {ops:List OpD} (h:zCK w a ops) (hb:Below w.heap.size w w'):zCK w' a ops:=fun j o hj=>by
 obtain ⟨b,off,he,hc⟩:=h j o hj
 refine ⟨b,off,he,fun k v hk=>?_⟩
 have h1:=hc k v hk
 rw [hb.cell (zNl h1)]
 exact h1
theorem zCK.cells {w:World} {a:Option Addr} {ops:List OpD} (h:zCK w a ops) {k:Nat} {o:OpD} (hk:ops[k]?=some o):∃b off,a=some ⟨b,off,none⟩ ∧
 w.cell? ⟨b,off+k*9,none⟩=some (vi o.kind)∧w.cell? ⟨b,off+k*9+1,none⟩=some (vi o.a)∧w.cell? ⟨b,off+k*9+2,none⟩=some (vi o.b)∧w.cell? ⟨b,off+k*9+3,none⟩=some (vi o.c.lease)∧w.cell? ⟨b,off+k*9+4,none⟩=some (vi o.c.retries)∧w.cell? ⟨b,off+k*9+5,none⟩=some (vi o.c.cap)∧w.cell? ⟨b,off+k*9+6,none⟩=some (vi o.c.bound)∧w.cell? ⟨b,off+k*9+7,none⟩=some (vi o.c.hedge)∧w.cell? ⟨b,off+k*9+8,none⟩=some (vs (bs o.s)):=by
 obtain ⟨b,off,he,hc⟩:=h k o hk
 exact ⟨b,off,he,hc 0 _ rfl,hc 1 _ rfl,hc 2 _ rfl,hc 3 _ rfl,hc 4 _ rfl,hc 5 _ rfl,hc 6 _ rfl,hc 7 _ rfl,hc 8 _ rfl⟩
theorem zEo {l:zA} {k:Nat} {c:UInt8} (h:l[k]?=some c) {hh:k < (bs l).size}:(bs l)[k]'hh=c:=by
 obtain ⟨h1,h2⟩:=List.getElem?_eq_some_iff.1 h
 simpa [bs,ByteArray.getElem_eq_getElem_data] using h2
end Go.Proofs.YtaejfobbogahmaaGreatDoor
