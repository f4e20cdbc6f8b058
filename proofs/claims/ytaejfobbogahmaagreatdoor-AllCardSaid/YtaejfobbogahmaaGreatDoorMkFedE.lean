/-
  FedE: texts of their own, joined.
-/
import Derived.Test.YtaejfobbogahmaaGreatDoorMkBadE
import Derived.Test.YtaejfobbogahmaaGreatDoorMkMShut
set_option maxRecDepth 100000
set_option maxHeartbeats 16000000
set_option linter.all false
namespace Go.Proofs.YtaejfobbogahmaaGreatDoor
open Go
theorem zEs {α β γ:Type} (g:α→γ) (f:α→β→α) (hf:∀a b,g (f a b)=g a):∀(l:List β) (a:α),g (l.foldl f a)=g a
 | [],_=>rfl
 | b::l,a=>(zEs g f hf l (f a b)).trans (hf a b)
theorem zEt (r:Raw) (id:Int):(zy r id).conns.length=r.conns.length:=by
 rw [zBb]
 show (zO _ id).conns.length=_
 rw [zFP]
 exact zEs (fun r:Raw=>r.conns.length) zU zEo _ r
theorem zEu (r:Raw) (id:Int) (b:Bool):(zZ r id b).conns.length=r.conns.length:=by
 unfold zZ
 split
 ·rfl
 ·split
  ·rfl
  ·split
   ·split
    ·exact zEt (rSay r _ _) _
    ·rw [zDQ]
     unfold xC
     split<;>rfl
   ·rw [zDQ]
theorem zDH {r:Raw} {c:Int} (h:zd r c=true):zH r c=r:=if_pos h
theorem zUv {r:Raw} {c:Int} (h:zd r c=true) (m:Msg):(zQ r c m).conns.length=r.conns.length:=by
 unfold zQ
 split
 ·unfold ye
  split
  ·rfl
  ·split
   ·rfl
   ·rw [zDQ];rfl
 ·split
  ·split
   ·split
    ·exact zEt (rSay r _ _) _
    ·rfl
   ·rfl
  ·split
   ·unfold zAP
    rw [zDH h]
    simp only
    split
    ·rfl
    ·split<;>rfl
   ·split
    ·rfl
    ·split
     ·split
      ·exact (zEt _ _).trans (zBp (rSay r _ _) _)
      ·rfl
     ·split
      ·split
       ·exact (zEu _ _ _).trans (zBp r _)
       ·rfl
      ·split
       ·unfold zAb
        rw [zDH h]
        simp only
        split
        ·rfl
        ·rename_i x hx
         exact (zMz _ _).trans (zDK hx _)
       ·rfl
theorem zUw {r:Raw} {c:Int} (h:zd r c=true) (l:zA):(zj r c l).conns.length=r.conns.length:=by
 unfold zj
 split
 ·rfl
 ·split
  ·rfl
  ·unfold yC
   rw [zEI]
   exact zUv h _
theorem zNJ {c:Int}:∀(ls:List zA) {r:Raw},zd r c=true→(ls.foldl (fun r l=>zj r c l) r).conns.length=r.conns.length
 | [],_,_=>rfl
 | l::ls,r,h=>by rw [List.foldl_cons,zNJ ls (zHM h),zUw h]
theorem zUx (r:Raw) (c:Int):(zH r c).conns.length≤r.conns.length+1:=by
 unfold zH
 split
 ·omega
 ·rename_i h
  have:aget r.conns c=none:=by
   cases h3:aget r.conns c with
   | none=>rfl
   | some y=>rw [h3] at h;exact absurd rfl h
  show (aset r.conns c _).length≤_
  rw [zIO _ this];simp
theorem zUy (r:Raw) (c:Int) (b:zA):(xm r c b).conns.length=r.conns.length:=by
 unfold xm
 split
 ·rfl
 ·rename_i x hx
  exact zDK hx _
theorem zUz (r:Raw) (c:Int) (l:zA):zj r c (l.take 81)=zj r c l:=by unfold zj;rw [zMC]
theorem zNK (c:Int):∀(ls:List zA) (r:Raw),(ls.map (·.take 81)).foldl (fun r l=>zj r c l) r=ls.foldl (fun r l=>zj r c l) r
 | [],_=>rfl
 | l::ls,r=>by
   rw [List.map_cons,List.foldl_cons,List.foldl_cons,zUz]
   exact zNK c ls _
def zAt (r:Raw) (c:Int) (t:zA):List zA:=(zg (zm (zH r c) c) t).dropLast
def zEv (r:Raw) (c:Int) (t:zA):zA:=((zg (zm (zH r c) c) t).getLastD []).take 81
def zAi (r:Raw) (c:Int) (t:zA) (j:Nat):Raw:=((zAt r c t).take j).foldl (fun r l=>zj r c l) (zH r c)
section
variable {N P:Nat} {r:Raw}
theorem zIh (r:Raw) (c:Int) (t:zA) (j:Nat):zd (zAi r c t j) c=true:=zJh _ (zBv r c)
theorem zNL (hI:Inv N P r) (c:Int) (t:zA) (j:Nat):Inv (N+j) (P+4*j) (zAi r c t j):=by
 have h1:((zAt r c t).take j).length≤j:=List.length_take_le _ _
 exact (Inv.lines c _ (hI.conn c)).mono (by omega) (by omega)
theorem zVA {c:Int} {t l:zA} {j:Nat} (h:(zAt r c t)[j]?=some l):zAi r c t (j+1)=zj (zAi r c t j) c l:=by
 unfold zAi
 rw [List.take_add_one,h,List.foldl_append]
 rfl
theorem zIi (r:Raw) (c:Int) (t:zA) (j:Nat):(zAi r c t j).conns.length≤r.conns.length+1:=by
 unfold zAi
 rw [zNJ _ (zBv r c)]
 exact zUx r c
theorem zIj (hI:Inv N P r) (hF:Few r) (c:Int) (t:zA):yO r c t=xm (zAi r c t (zAt r c t).length) c (zEv r c t):=by
 have hr:(zm (zH r c) c).take 81=zm (zH r c) c:=List.take_of_length_le ((hF.conn c).rest c)
 have e:=zGT t (zm (zH r c) c)
 rw [hr] at e
 have hown:=zBv r c
 have h2:=(zNL hI c t (zAt r c t).length).q.kcn
 have h3:=zIh r c t (zAt r c t).length
 unfold zEv
 rw [zJk h2 h3]
 unfold zAi
 rw [List.take_length]
 unfold yO zAt
 simp only [e]
 rw [zNK,zJk (hI.conn c).q.kcn hown,zFQ _ _ _ _ _ hown]
theorem zVB (hI:Inv N P r) (hF:Few r) (c:Int) (t:zA):(yO r c t).conns.length≤r.conns.length+1:=by
 rw [zIj hI hF,zUy]
 exact zIi r c t _
theorem zVC (hI:Inv N P r) (hF:Few r) (c:Int) (t:zA):zBh (zp (zC (zAi r c t (zAt r c t).length)) c) c (zEv r c t)=zC (yO r c t):=by
 have h3:=zIh r c t (zAt r c t).length
 rw [zBk,zDH h3,zMH h3,zIj hI hF]
def zf (Z:zA→Bool) (x:zA):zA:=if Z x then x else []
def ZOk (Z:zA→Bool) (r:Raw):Prop:=tw (fun _ x=>zf Z x) [] r=r
variable {Z:zA→Bool}
theorem zNM (hz:Z []=true) {x:zA}:zf Z x=x↔Z x=true:=by
 unfold zf
 constructor
 ·intro h
  split at h
  ·assumption
  ·rw [←h];exact hz
 ·intro h;rw [if_pos h]
theorem ZOk.iff (hz:Z []=true):ZOk Z r↔∀c x,(c,x)∈r.conns→Z x.rest=true:=by
 constructor
 ·intro h c x hx
  have h1:amap (fun (_:Int) (x:Cn)=>({x with rest:=zf Z x.rest}:Cn)) r.conns=r.conns:=congrArg Raw.conns h
  have h2:∀(l:List (Int×Cn)),amap (fun (_:Int) (x:Cn)=>({x with rest:=zf Z x.rest}:Cn)) l=l→(c,x)∈l→Z x.rest=true:=by
   intro l
   induction l with
   | nil=>intro _ h;cases h
   | cons p l ih =>
     intro h hm
     obtain ⟨h3,h4⟩:=List.cons.inj (show (p.1,({p.2 with rest:=zf Z p.2.rest}:Cn))::amap (fun (_:Int) (x:Cn)=>({x with rest:=zf Z x.rest}:Cn)) l=p::l from h)
     rcases List.mem_cons.1 hm with h5 | h5
     ·subst h5
      exact (zNM hz).1 (congrArg (fun p:Int×Cn=>p.2.rest) h3)
     ·exact ih h4 h5
  exact h2 r.conns h1 hx
 ·intro h
  have:amap (fun (_:Int) (x:Cn)=>({x with rest:=zf Z x.rest}:Cn)) r.conns=r.conns:=zHN _ (fun k v hv=>by
   show ({v with rest:=zf Z v.rest}:Cn)=v
   rw [(zNM hz).2 (h k v hv)])
  show tw _ [] r=r
  unfold tw
  rw [this]
  rfl
theorem ZOk.init (c:Cfg):ZOk Z (rNew c):=rfl
theorem ZOk.conn (hz:Z []=true) (h:ZOk Z r) (c:Int):ZOk Z (zH r c):=by
 unfold zH
 split
 ·exact h
 ·rw [ZOk.iff hz]
  intro d x hx
  rcases zBQ hx with h1 | h1
  ·exact (ZOk.iff hz).1 h d x h1
  ·rw [h1.2];exact hz
theorem ZOk.lines (h:ZOk Z r) (c:Int) (ls:List zA) (hc:zd r c=true):ZOk Z (ls.foldl (fun r l=>zj r c l) r):=by
 show tw _ [] _=_
 rw [←zFQ _ [] c ls r hc]
 rw [show tw (fun _ x=>zf Z x) [] r=r from h]
theorem ZOk.put (hz:Z []=true) (h:ZOk Z r) (c:Int) {b:zA} (hb:Z b=true):ZOk Z (xm r c b):=by
 unfold xm
 split
 ·exact h
 ·rw [ZOk.iff hz]
  intro d x hx
  rcases zBQ hx with h1 | h1
  ·exact (ZOk.iff hz).1 h d x h1
  ·rw [h1.2];exact hb
theorem ZOk.rest (hz:Z []=true) (h:ZOk Z r) (c:Int):Z (zm r c)=true:=by
 unfold zm
 split
 ·exact hz
 ·rename_i x hx
  exact (ZOk.iff hz).1 h c x (xL hx)
theorem ZOk.feed (hz:Z []=true) (h:ZOk Z r) (hI:Inv N P r) (hF:Few r) (c:Int) (t:zA) (hl:Z (zEv r c t)=true):ZOk Z (yO r c t):=by
 rw [zIj hI hF]
 exact ((h.conn hz c).lines c _ (zBv r c)).put hz c hl
theorem ZOk.told (hz:Z []=true) (h:ZOk Z r):ZOk Z (ym r):=(ZOk.iff hz).2 (fun c x hx=>(ZOk.iff hz).1 h c x hx)
theorem ZOk.tick (h:ZOk Z r):ZOk Z (yw r):=by
 show tw _ [] (yw r)=yw r
 rw [←zJm,show tw (fun _ x=>zf Z x) [] r=r from h]
theorem ZOk.close (h:ZOk Z r) (c:Int):ZOk Z (yx r c):=by
 show tw _ [] (yx r c)=yx r c
 rw [←zJo,show tw (fun _ x=>zf Z x) [] r=r from h]
end
def zNN (K:zA→Bool) (l:zA):Prop:=∀t m,zu l=some t→zz t=some m→K m.kind=true
structure zIk (Z K:zA→Bool) (rest t:zA):Prop where
 lines:∀l∈(zg rest t).dropLast,zNN K l
 last:Z (((zg rest t).getLastD []).take 81)=true
def zAll (_:zA):Bool:=true
end Go.Proofs.YtaejfobbogahmaaGreatDoor
