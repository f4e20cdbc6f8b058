/-
  Pure Inv Inv2 Inv3 Inv4 Inv5 Shift Rest: texts of their own, joined.
-/
import Derived.Test.YtaejfobbogahmaaGreatDoorMkBase
import Derived.Lib.RuneCount
import Derived.Lib.ValidU
set_option maxRecDepth 100000
set_option maxHeartbeats 16000000
set_option linter.all false
namespace Go.Proofs.YtaejfobbogahmaaGreatDoor
open Go
abbrev zA:=List UInt8
def bs (l:zA):ByteArray:=⟨l.toArray⟩
def decF:Nat→Nat→zA
 | 0,n=>[UInt8.ofNat (48+n % 10)]
 | f+1,n=>if n < 10 then [UInt8.ofNat (48+n)] else decF f (n / 10)++[UInt8.ofNat (48+n % 10)]
def dec (n:Nat):zA:=decF 20 n
def decI (n:Int):zA:=if n < 0 then 45::dec n.natAbs else dec n.toNat
def zBd (s:UInt8×UInt8×UInt8×UInt8) (i:Nat) (c:UInt8):UInt8×UInt8×UInt8×UInt8:=
 match i % 4 with
 | 0=>(s.1*3+c,s.2.1,s.2.2.1,s.2.2.2)
 | 1=>(s.1,s.2.1*3+c,s.2.2.1,s.2.2.2)
 | 2=>(s.1,s.2.1,s.2.2.1*3+c,s.2.2.2)
 | _=>(s.1,s.2.1,s.2.2.1,s.2.2.2*3+c)
def zBe:zA→Nat→UInt8×UInt8×UInt8×UInt8→UInt8×UInt8×UInt8×UInt8
 | [],_,s=>s
 | c::l,i,s=>zBe l (i+1) (zBd s i c)
def zt (l:zA):UInt8×UInt8×UInt8×UInt8:=zBe l 0 (0,0,0,0)
def hexD (n:UInt8):UInt8:=if n < 10 then 48+n else 87+n
def hex2 (c:UInt8):zA:=[hexD (c / 16),hexD (c % 16)]
def zBJ (l:zA):zA:=hex2 (zt l).1++hex2 (zt l).2.1++hex2 (zt l).2.2.1++hex2 (zt l).2.2.2
def zS (l:zA):zA:=l++32::zBJ l
def ye (l:zA):Option zA:=
 if l.length < 9∨80 < l.length then none
 else if zS (l.take (l.length - 9))=l then some (l.take (l.length - 9)) else none
def cut (c:UInt8):zA→List zA
 | []=>[[]]
 | x::l=>if x=c then []::cut c l else match cut c l with | []=>[[x]] | a::r=>(x::a)::r
def xy (s:ByteArray):Nat→Nat→List Nat
 | 0,_=>[]
 | f+1,pos=>if pos < s.size then (Utf8.decode s pos).1::xy s f (pos+(Utf8.decode s pos).2) else []
def xK (c:Nat):Bool:=decide (97≤c)&&decide (c≤122)||decide (945≤c)&&decide (c≤969)
def xL (c:Nat):Bool:=decide (32 < c)&&decide (c≤126)||decide (161≤c)&&decide (c≤65535)
def xz (l:zA) (most:Nat) (p:Nat→Bool):Bool:=Lib.validD l&&!l.isEmpty&&decide (Lib.runeCount (bs l)≤most)&&(xy (bs l) l.length 0).all p
def zCP (l:zA):Bool:=xz l 6 xK
def zBK (l:zA):Bool:=xz l 12 xL
def yH:zA→Nat→Option Nat
 | [],n=>some n
 | c::l,n=>if 48≤c∧c≤57 then yH l (10*n+(c.toNat - 48)) else none
def yK (l:zA):Option Nat:=
 if l.length < 1∨6 < l.length then none
 else if 1 < l.length∧l.head?=some 48 then none else yH l 0
structure Msg where
 kind:zA
 id:Int
 att:Int
 tenant:zA
 text:zA
def kSub:zA:=[115,117,98]
def kCan:zA:=[99,97,110]
def xM:zA:=[112,117,108,108]
def xN:zA:=[98,101,97,116]
def yE:zA:=[100,111,110,101]
def xB:zA:=[102,97,105,108]
def xO:zA:=[100,114,97,105,110]
def xP (l:zA):Option Msg:=
 match cut 32 l with
 | [k]=>if k=xM∨k=xN∨k=xO then some ⟨k,0,0,[],[]⟩ else none
 | [k,a]=>if k=kCan then (yK a).map fun i=>⟨k,i,0,[],[]⟩ else none
 | [k,a,b]=>if k=xB then (yK a).bind fun i=>(yK b).map fun n=>⟨k,i,n,[],[]⟩ else none
 | [k,a,b,c] =>
   if k=yE then (yK a).bind fun i=>(yK b).bind fun n=>if zBK c then some ⟨k,i,n,[],c⟩ else none
   else if k=kSub then (yK a).bind fun i=>if zCP b&&zBK c then some ⟨k,i,0,b,c⟩ else none
   else none
 | _=>none
structure Cfg where
 lease:Int
 retries:Int
 cap:Int
 bound:Int
 hedge:Int
structure Req where
 conn:Int
 tenant:ByteArray
 text:ByteArray
 attempts:Int
 left:Int
 hedged:Bool
 queued:Bool
structure Cn where
 rest:zA
 drains:Bool
 gone:Bool
structure Att where
 id:Int
 att:Int
 conn:Int
 since:Int
 till:Int
 seq:Int
structure Raw where
 cfg:Cfg
 now:Int
 reqs:List (Int×Req)
 conns:List (Int×Cn)
 queues:List (ByteArray×List Int)
 runs:List (ByteArray×Int)
 ring:List ByteArray
 waiting:List Int
 atts:List Att
 seq:Int
 out:List (Int×zA)
def zAT (c:Cfg):Bool:=1≤c.lease&&c.lease≤20&&0≤c.retries&&c.retries≤5&&1≤c.cap&&c.cap≤5&&1≤c.bound&&c.bound≤8&&0≤c.hedge&&c.hedge≤20
def rNew (c:Cfg):Raw:=⟨c,0,[],[],[],[],[],[],[],0,[]⟩
def zX:List zA→zA
 | []=>[]
 | [a]=>a
 | a::l=>a++32::zX l
def rSay (r:Raw) (c:Int) (ws:List zA):Raw:={r with out:=r.out++[(c,zS (zX ws))]}
def zH (r:Raw) (c:Int):Raw:=if (aget r.conns c).isSome then r else {r with conns:=aset r.conns c ⟨[],false,false⟩}
def zE {α:Type} [DecidableEq α] (l:List α) (x:α):List α:=l.filter fun y=>!decide (y=x)
def rOf (r:Raw) (id:Int):List Att:=r.atts.filter fun a=>decide (a.id=id)
def yT (r:Raw) (c:Int):List Att:=r.atts.filter fun a=>decide (a.conn=c)
def qOf (r:Raw) (t:ByteArray):List Int:=(aget r.queues t).getD []
def zQ (r:Raw) (t:ByteArray):Int:=(aget r.runs t).getD 0
def zj (r:Raw) (id:Int) (first:Bool):Raw:=
 match aget r.reqs id with
 | none=>r
 | some q =>
   {r with reqs:=aset r.reqs id {q with queued:=true},
           ring:=if qOf r q.tenant=[] then r.ring++[q.tenant] else r.ring,
           queues:=aset r.queues q.tenant (if first then id::qOf r q.tenant else qOf r q.tenant++[id])}
def zI (r:Raw) (id:Int):Raw:=
 match aget r.reqs id with
 | none=>r
 | some q =>
   if !q.queued then r else
   let l:=zE (qOf r q.tenant) id
   if l=[] then {r with reqs:=aset r.reqs id {q with queued:=false},queues:=adel r.queues q.tenant,ring:=zE r.ring q.tenant}
   else {r with reqs:=aset r.reqs id {q with queued:=false},queues:=aset r.queues q.tenant l}
def rBye (r:Raw) (c:Int):Raw:=
 match aget r.conns c with
 | none=>r
 | some x=>if x.drains&&!x.gone&&(yT r c).isEmpty then rSay {r with conns:=aset r.conns c {x with gone:=true}} c [[98,121,101]] else r
def rEnd (r:Raw) (a:Att):Raw:=
 match aget r.reqs a.id with
 | none=>r
 | some q =>
   let r1:={r with atts:=r.atts.filter fun b=>!decide (b.seq=a.seq),runs:=aset r.runs q.tenant (zQ r q.tenant - 1)}
   let r2:=if zQ r1 q.tenant=0 then {r1 with runs:=adel r1.runs q.tenant} else r1
   rBye r2 a.conn
def yf:zA:=[115,116,111,112]
def wRun:zA:=[114,117,110]
def wErr:zA:=[101,114,114]
def wVal:zA:=[118,97,108]
def wAcc:zA:=[97,99,99]
def wRej:zA:=[114,101,106]
def wDup:zA:=[100,117,112]
def zAH:zA:=[102,117,108,108]
def zAA:zA:=[110,111,110,101]
def zAU:zA:=[103,111,110,101]
def wBad:zA:=[98,97,100]
def zR (r:Raw) (a:Att):Raw:=rEnd (rSay r a.conn [yf,decI a.id,decI a.att]) a
def yA (r:Raw) (id:Int):Raw:=
 let r1:=zI ((rOf r id).foldl zR r) id
 {r1 with reqs:=adel r1.reqs id}
def xQ (r:Raw) (id:Int):Raw:=
 match aget r.reqs id with
 | none=>r
 | some q=>{r with reqs:=aset r.reqs id {q with left:=q.left - 1}}
def za (r:Raw) (id:Int) (counts:Bool):Raw:=
 match aget r.reqs id with
 | none=>r
 | some q =>
   if q.queued||!(rOf r id).isEmpty then r
   else if counts then (if q.left=0 then yA (rSay r q.conn [wErr,decI id]) id else zj (xQ r id) id true)
   else zj r id true
def xC (r:Raw):Option ByteArray:=r.ring.find? fun t=>decide (zQ r t < r.cfg.cap)
def yM (r:Raw):Raw:=
 match r.waiting,xC r with
 | c::ws,some t =>
   match qOf r t with
   | []=>r
   | id::_ =>
     match aget r.reqs id with
     | none=>r
     | some q =>
       let r1:=zI {r with waiting:=ws} id
       let r2:=if qOf r1 t=[] then r1 else {r1 with ring:=zE r1.ring t++[t]}
       let n:=q.attempts+1
       let r3:={r2 with reqs:=match aget r2.reqs id with | none=>r2.reqs | some q2=>aset r2.reqs id {q2 with attempts:=n},
                        runs:=aset r2.runs t (zQ r2 t+1),seq:=r2.seq+1,
                        atts:=r2.atts++[⟨id,n,c,r2.now,r2.now+r2.cfg.lease,r2.seq+1⟩]}
       rSay r3 c [wRun,decI id,decI n,t.data.toList,q.text.data.toList]
 | _,_=>r
def yh:Nat→Raw→Raw
 | 0,r=>r
 | n+1,r=>if r.waiting=[]∨xC r=none then r else yh n (yM r)
def yF (r:Raw):Raw:=yh r.waiting.length r
def yI (r:Raw) (c:Int) (m:Msg):Raw:=
 if (aget r.reqs m.id).isSome then rSay r c [wRej,decI m.id,wDup]
 else if r.cfg.bound≤(qOf r (bs m.tenant)).length then rSay r c [wRej,decI m.id,zAH]
 else zj (rSay {r with reqs:=aset r.reqs m.id ⟨c,bs m.tenant,bs m.text,0,r.cfg.retries,false,false⟩} c [wAcc,decI m.id]) m.id false
def xk (r:Raw) (c:Int):Raw:={r with atts:=r.atts.map fun a=>if a.conn=c then {a with till:=r.now+r.cfg.lease} else a}
def rAtt (r:Raw) (id att c:Int):Option Att:=(rOf r id).find? fun a=>decide (a.att=att)&&decide (a.conn=c)
def xR (r:Raw) (c:Int):Raw:=
 let r1:=zH r c
 match aget r1.conns c with
 | none=>r1
 | some x=>if !x.drains&&!r1.waiting.contains c then {r1 with waiting:=r1.waiting++[c]} else r1
def xS (r:Raw) (c:Int):Raw:=
 let r1:=zH r c
 match aget r1.conns c with
 | none=>r1
 | some x=>rBye {r1 with conns:=aset r1.conns c {x with drains:=true},waiting:=zE r1.waiting c} c
def zY (r:Raw) (c:Int) (m:Msg):Raw:=
 if m.kind=kSub then yI r c m
 else if m.kind=kCan then
  match aget r.reqs m.id with
  | some q=>if q.conn=c then yA (rSay r c [zAU,decI m.id]) m.id else rSay r c [zAA,decI m.id]
  | none=>rSay r c [zAA,decI m.id]
 else if m.kind=xM then xR r c
 else if m.kind=xN then xk r c
 else if m.kind=yE then
  match rAtt r m.id m.att c,aget r.reqs m.id with
  | some a,some q=>yA (rEnd (rSay r q.conn [wVal,decI m.id,m.text]) a) m.id
  | _,_=>r
 else if m.kind=xB then
  match rAtt r m.id m.att c with
  | some a=>za (rEnd r a) m.id true
  | none=>r
 else if m.kind=xO then xS r c
 else r
def zk (r:Raw) (c:Int) (line:zA):Raw:=
 match ye line with
 | none=>rSay r c [wBad]
 | some t=>match xP t with
   | none=>rSay r c [wBad]
   | some m=>yF (zY r c m)
def zL:zA→zA→List zA×zA
 | rest,[]=>([],rest)
 | rest,x::l=>if x=10 then (let p:=zL [] l;(rest::p.1,p.2)) else zL (if rest.length≤80 then rest++[x] else rest) l
def xl (r:Raw) (c:Int) (b:zA):Raw:=
 match aget r.conns c with
 | none=>r
 | some x=>{r with conns:=aset r.conns c {x with rest:=b}}
def yr (r:Raw) (c:Int):zA:=match aget r.conns c with | none=>[] | some x=>x.rest
def xe (r:Raw):Raw:={r with out:=[]}
def yN (r:Raw) (c:Int) (b:zA):Raw:=
 let r1:=zH r c
 let p:=zL (yr r1 c) b
 p.1.foldl (fun r l=>zk r c l) (xl r1 c p.2)
def zg (a b:Att):Bool:=decide (a.till < b.till)||(decide (a.till=b.till)&&decide (a.seq < b.seq))
def yB:List Att→Option Att
 | []=>none
 | a::l=>match yB l with | none=>some a | some b=>if zg b a then some b else some a
def rDue (r:Raw):Option Att:=match yB r.atts with | none=>none | some a=>if a.till≤r.now then some a else none
def zl:Nat→Raw→Raw
 | 0,r=>r
 | n+1,r=>match rDue r with | none=>r | some a=>zl n (za (zR r a) a.id true)
def yU (r:Raw) (a:Att):Raw:=
 match aget r.reqs a.id with
 | none=>r
 | some q=>if !q.hedged&&!q.queued&&(rOf r a.id).length==1 then zj {r with reqs:=aset r.reqs a.id {q with hedged:=true}} a.id false else r
def yk (r:Raw):Raw:=if 0 < r.cfg.hedge then (r.atts.filter fun a=>decide (r.cfg.hedge≤r.now - a.since)).foldl yU r else r
def yp (r:Raw):Raw:=
 let r1:={r with now:=r.now+1}
 yF (yk (zl r1.atts.length r1))
def zAB (x:Int):List Int→List Int
 | []=>[x]
 | y::l=>if x≤y then x::y::l else y::zAB x l
def xf:List Int→List Int
 | []=>[]
 | x::l=>zAB x (xf l)
def zc (c:Int) (r:Raw) (id:Int):Raw:=yA (((rOf r id).filter fun a=>decide (a.conn=c)).foldl rEnd r) id
def yt (r:Raw) (a:Att):Raw:=za (rEnd r a) a.id false
def yl (r:Raw) (c:Int):Raw:=
 let r1:={r with waiting:=zE r.waiting c,conns:=adel r.conns c}
 let ids:=xf ((r1.reqs.filter fun p=>decide (p.2.conn=c)).map Prod.fst)
 let r2:=ids.foldl (zc c) r1
 yF ((yT r2 c).foldl yt r2)
def zz (r:Raw) (id:Int):Option ByteArray:=(aget r.reqs id).map (·.tenant)
def yi (r:Raw) (t:ByteArray):Nat:=r.atts.countP fun a=>decide (zz r a.id=some t)
structure InvQ (r:Raw):Prop where
 kreq:(r.reqs.map Prod.fst).Nodup
 kqu:(r.queues.map Prod.fst).Nodup
 krun:(r.runs.map Prod.fst).Nodup
 kcn:(r.conns.map Prod.fst).Nodup
 qne:∀t l,aget r.queues t=some l→l≠[]
 qnd:∀t,(qOf r t).Nodup
 qreq:∀t id,id∈qOf r t→∃q,aget r.reqs id=some q∧q.tenant=t∧q.queued=true
 reqq:∀id q,aget r.reqs id=some q→q.queued=true→id∈qOf r q.tenant
 rnd:r.ring.Nodup
 rqu:∀t,t∈r.ring↔qOf r t≠[]
structure InvA (r:Raw):Prop where
 areq:∀a∈r.atts,∃q,aget r.reqs a.id=some q∧1≤a.att∧a.att≤q.attempts
 apw:r.atts.Pairwise (fun a b=>a.seq < b.seq)
 aseq:∀a∈r.atts,a.seq≤r.seq
 aatt:∀a∈r.atts,∀b∈r.atts,a.id=b.id→a.att=b.att→a=b
 runs:∀t,zQ r t=yi r t
structure InvN (N P:Nat) (r:Raw):Prop where
 cfg:zAT r.cfg=true
 now:0≤r.now∧r.now≤N
 seq0:0≤r.seq
 seq:r.seq+r.waiting.length≤N
 reqs:r.reqs.length≤N
 req:∀id q,aget r.reqs id=some q→0≤id∧id≤999999∧0≤q.attempts∧q.attempts≤r.seq∧0≤q.left∧q.left≤5∧q.tenant.size≤80∧q.text.size≤80
 att:∀a∈r.atts,0≤a.since∧a.since≤r.now∧0≤a.till∧a.till≤r.now+20
 pot:r.out.length+3*r.atts.length+4*r.waiting.length≤P
structure Inv (N P:Nat) (r:Raw):Prop where
 q:InvQ r
 a:InvA r
 n:InvN N P r
theorem zEw (r:Raw) (t s:ByteArray) (l:List Int):qOf {r with queues:=aset r.queues t l} s=if t=s then l else qOf r s:=by
 unfold qOf
 simp only [zV]
 split<;>rfl
theorem zIC (r:Raw) (t s:ByteArray) (h:(r.queues.map Prod.fst).Nodup):qOf {r with queues:=adel r.queues t} s=if t=s then [] else qOf r s:=by
 unfold qOf
 simp only [zBH _ _ _ h]
 split<;>rfl
theorem zEx {r r':Raw} (h:r'.queues=r.queues) (t:ByteArray):qOf r' t=qOf r t:=by unfold qOf;rw [h]
theorem zEy {r:Raw} {id:Int} {q:Req} (h:aget r.reqs id=some q):zz r id=some q.tenant:=by unfold zz;rw [h];rfl
theorem zEz {r:Raw} {id:Int} {q q':Req} (h:aget r.reqs id=some q) (ht:q'.tenant=q.tenant) (j:Int):zz {r with reqs:=aset r.reqs id q'} j=zz r j:=by
 unfold zz
 simp only [zV]
 split
 ·rename_i e;subst e;rw [h];simp [ht]
 ·rfl
theorem zFA {r r':Raw} (ha:r'.atts=r.atts) (ht:∀j,zz r' j=zz r j) (t:ByteArray):yi r' t=yi r t:=by
 unfold yi
 rw [ha]
 exact congrArg (fun p=>List.countP p r.atts) (funext fun a=>by rw [ht])
theorem zBf {α:Type} [DecidableEq α] {l:List α} {x y:α}:y∈zE l x↔y∈l∧y≠x:=by
 unfold zE
 rw [List.mem_filter]
 simp
theorem zDN {α:Type} [DecidableEq α] {l:List α} (h:l.Nodup) (x:α):(zE l x).Nodup:=h.sublist List.filter_sublist
theorem zFB {α:Type} [DecidableEq α] (l:List α) (x:α):(zE l x).length≤l.length:=List.length_filter_le _ _
theorem zFC {r:Raw} {id:Int} {q q':Req} (h:aget r.reqs id=some q):(aset r.reqs id q').length=r.reqs.length:=zHx h q'
theorem InvQ.set_req {r:Raw} (h:InvQ r) {id:Int} {q q':Req} (hq:aget r.reqs id=some q) (ht:q'.tenant=q.tenant) (hd:q'.queued=q.queued):InvQ {r with reqs:=aset r.reqs id q'}:=by
 refine ⟨zw h.kreq _ _,h.kqu,h.krun,h.kcn,h.qne,h.qnd,?_,?_,h.rnd,h.rqu⟩
 ·intro t i hi
  obtain ⟨p,h1,h2,h3⟩:=h.qreq t i hi
  simp only [zV]
  by_cases e:id=i
  ·subst e
   rw [hq] at h1;cases h1
   exact ⟨q',by simp,ht.trans h2,hd.trans h3⟩
  ·exact ⟨p,by simp [e,h1],h2,h3⟩
 ·intro i p hp hpq
  simp only [zV] at hp
  by_cases e:id=i
  ·subst e
   simp at hp;subst hp
   rw [ht]
   exact h.reqq _ q hq (hd ▸ hpq)
  ·simp [e] at hp
   exact h.reqq i p hp hpq
theorem InvA.set_req {r:Raw} (h:InvA r) {id:Int} {q q':Req} (hq:aget r.reqs id=some q) (ht:q'.tenant=q.tenant) (hd:q.attempts≤q'.attempts):InvA {r with reqs:=aset r.reqs id q'}:=by
 refine ⟨?_,h.apw,h.aseq,h.aatt,fun t=>?_⟩
 ·intro a ha
  obtain ⟨p,h1,h2,h3⟩:=h.areq a ha
  simp only [zV]
  by_cases e:id=a.id
  ·rw [←e] at h1
   rw [hq] at h1;cases h1
   exact ⟨q',by simp [e],h2,by omega⟩
  ·exact ⟨p,by simp [e,h1],h2,h3⟩
 ·have:=zFA (r:=r) (r':={r with reqs:=aset r.reqs id q'}) rfl (zEz hq ht) t
  rw [this]
  exact h.runs t
theorem InvN.set_req {N P:Nat} {r:Raw} (h:InvN N P r) {id:Int} {q q':Req} (hq:aget r.reqs id=some q) (h1:0≤q'.attempts) (h2:q'.attempts≤r.seq) (h3:0≤q'.left) (h4:q'.left≤5) (h5:q'.tenant.size≤80) (h6:q'.text.size≤80):InvN N P {r with reqs:=aset r.reqs id q'}:=by
 refine ⟨h.cfg,h.now,h.seq0,h.seq,by show (aset r.reqs id q').length≤N;rw [zFC hq];exact h.reqs,?_,h.att,h.pot⟩
 intro i p hp
 simp only [zV] at hp
 by_cases e:id=i
 ·subst e
  simp at hp;subst hp
  have:=h.req id q hq
  exact ⟨this.1,this.2.1,h1,h2,h3,h4,h5,h6⟩
 ·simp [e] at hp
  exact h.req i p hp
theorem zID {r:Raw} {id:Int} {q:Req} (h:aget r.reqs id=some q) (first:Bool):zj r id first =
 {r with reqs:=aset r.reqs id {q with queued:=true},ring:=if qOf r q.tenant=[] then r.ring++[q.tenant] else r.ring,queues:=aset r.queues q.tenant (if first then id::qOf r q.tenant else qOf r q.tenant++[id])}:=by
 unfold zj;rw [h]
theorem Inv.queue {N P:Nat} {r:Raw} (h:Inv N P r) {id:Int} {q:Req} (hq:aget r.reqs id=some q) (hn:q.queued=false) (first:Bool):Inv N P (zj r id first):=by
 obtain ⟨hQ,hA,hN⟩:=h
 rw [zID hq]
 have hid:id∉qOf r q.tenant:=fun hi=>by
  obtain ⟨p,h1,h2,h3⟩:=hQ.qreq _ _ hi
  rw [hq] at h1;cases h1
  rw [hn] at h3;cases h3
 obtain ⟨l,hl⟩:∃l,l=(if first then id::qOf r q.tenant else qOf r q.tenant++[id]):=⟨_,rfl⟩
 rw [←hl]
 have hlm:∀x,x∈l↔x=id∨x∈qOf r q.tenant:=fun x=>by
  rw [hl];cases first<;>simp [or_comm]
 have hlnd:l.Nodup:=by
  rw [hl]
  cases first
  ·simp only [Bool.false_eq_true,if_false]
   rw [List.nodup_append]
   exact ⟨hQ.qnd _,by simp,fun a ha b hb=>by simp at hb;subst hb;exact fun e=>hid (e ▸ ha)⟩
  ·simp only [if_true,List.nodup_cons]
   exact ⟨hid,hQ.qnd _⟩
 have hln:l≠[]:=fun e=>by have:=(hlm id).2 (.inl rfl);rw [e] at this;cases this
 have hqo:∀s,qOf {r with reqs:=aset r.reqs id {q with queued:=true},ring:=if qOf r q.tenant=[] then r.ring++[q.tenant] else r.ring,queues:=aset r.queues q.tenant l} s=if q.tenant=s then l else qOf r s:=fun s=>zEw r q.tenant s l
 refine ⟨⟨zw hQ.kreq _ _,zw hQ.kqu _ _,hQ.krun,hQ.kcn,?_,?_,?_,?_,?_,?_⟩,?_,?_⟩
 ·intro t m hm
  simp only [zV] at hm
  split at hm
  ·cases hm;exact hln
  ·exact hQ.qne t m hm
 ·intro t
  rw [hqo]
  split
  ·exact hlnd
  ·exact hQ.qnd t
 ·intro t i hi
  rw [hqo] at hi
  simp only [zV]
  by_cases e:q.tenant=t
  ·rw [if_pos e] at hi
   by_cases e2:id=i
   ·exact ⟨{q with queued:=true},by simp [e2],e,rfl⟩
   ·rw [if_neg e2]
    rcases (hlm i).1 hi with h1 | h1
    ·exact absurd h1.symm e2
    ·rw [e] at h1;exact hQ.qreq t i h1
  ·rw [if_neg e] at hi
   obtain ⟨p,h1,h2,h3⟩:=hQ.qreq t i hi
   by_cases e2:id=i
   ·subst e2
    rw [hq] at h1;cases h1
    exact absurd h2 e
   ·exact ⟨p,by simp [e2,h1],h2,h3⟩
 ·intro i p hp hpq
  simp only [zV] at hp
  rw [hqo]
  by_cases e2:id=i
  ·rw [if_pos e2] at hp;cases hp
   simp only [if_true]
   exact (hlm i).2 (.inl e2.symm)
  ·rw [if_neg e2] at hp
   have:=hQ.reqq i p hp hpq
   by_cases e:q.tenant=p.tenant
   ·rw [if_pos e];exact (hlm i).2 (.inr (e ▸ this))
   ·rw [if_neg e];exact this
 ·show (if qOf r q.tenant=[] then r.ring++[q.tenant] else r.ring).Nodup
  split
  ·rename_i e
   rw [List.nodup_append]
   exact ⟨hQ.rnd,by simp,fun a ha b hb=>by simp at hb;subst hb;intro e2;subst e2;exact (hQ.rqu _).1 ha e⟩
  ·exact hQ.rnd
 ·intro t
  rw [hqo]
  show t∈(if qOf r q.tenant=[] then r.ring++[q.tenant] else r.ring)↔_
  by_cases e:q.tenant=t
  ·subst e
   rw [if_pos rfl]
   refine ⟨fun _=>hln,fun _=>?_⟩
   split
   ·simp
   ·rename_i e2;exact (hQ.rqu _).2 e2
  ·rw [if_neg e,←hQ.rqu t]
   split
   ·simp [Ne.symm e]
   ·rfl
 ·have h1:=hA.set_req hq (q':={q with queued:=true}) rfl (Int.le_refl _)
  exact ⟨h1.areq,h1.apw,h1.aseq,h1.aatt,h1.runs⟩
 ·have hr:=hN.req id q hq
  have h1:=hN.set_req hq (q':={q with queued:=true}) hr.2.2.1 hr.2.2.2.1 hr.2.2.2.2.1 hr.2.2.2.2.2.1 hr.2.2.2.2.2.2.1 hr.2.2.2.2.2.2.2
  exact ⟨h1.cfg,h1.now,h1.seq0,h1.seq,h1.reqs,h1.req,h1.att,h1.pot⟩
theorem zDO {r:Raw} {id:Int} {q:Req} (h:aget r.reqs id=some q) (hn:q.queued=false):zI r id=r:=by
 unfold zI;rw [h];simp [hn]
theorem zDP {r:Raw} {id:Int} {q:Req} (h:aget r.reqs id=some q) (hn:q.queued=true) (hl:zE (qOf r q.tenant) id=[]):zI r id =
 {r with reqs:=aset r.reqs id {q with queued:=false},queues:=adel r.queues q.tenant,ring:=zE r.ring q.tenant}:=by
 unfold zI;rw [h];simp [hn,hl]
theorem zDQ {r:Raw} {id:Int} {q:Req} (h:aget r.reqs id=some q) (hn:q.queued=true) (hl:zE (qOf r q.tenant) id≠[]):zI r id =
 {r with reqs:=aset r.reqs id {q with queued:=false},queues:=aset r.queues q.tenant (zE (qOf r q.tenant) id)}:=by
 unfold zI;rw [h];simp [hn,hl]
theorem Inv.unqueue {N P:Nat} {r:Raw} (h:Inv N P r) (id:Int):Inv N P (zI r id):=by
 cases hq:aget r.reqs id with
 | none=>unfold zI;rw [hq];exact h
 | some q =>
   cases hn:q.queued with
   | false=>rw [zDO hq hn];exact h
   | true =>
     obtain ⟨hQ,hA,hN⟩:=h
     have hid:=hQ.reqq id q hq hn
     have hA1:=hA.set_req hq (q':={q with queued:=false}) rfl (Int.le_refl _)
     have hr:=hN.req id q hq
     have hN1:=hN.set_req hq (q':={q with queued:=false}) hr.2.2.1 hr.2.2.2.1 hr.2.2.2.2.1 hr.2.2.2.2.2.1 hr.2.2.2.2.2.2.1 hr.2.2.2.2.2.2.2
     have key:∀(r':Raw),r'.reqs=aset r.reqs id {q with queued:=false}→(r'.queues.map Prod.fst).Nodup→r'.runs=r.runs→r'.conns=r.conns→(∀t l,aget r'.queues t=some l→l≠[]) →
      (∀s,qOf r' s=if q.tenant=s then zE (qOf r q.tenant) id else qOf r s)→r'.ring.Nodup→(∀t,t∈r'.ring↔qOf r' t≠[])→InvQ r':=by
      intro r' e1 e2 e3 e4 e5 e6 e7 e8
      refine ⟨by rw [e1];exact zw hQ.kreq _ _,e2,by rw [e3];exact hQ.krun,by rw [e4];exact hQ.kcn,e5,?_,?_,?_,e7,e8⟩
      ·intro t
       rw [e6]
       split
       ·exact zDN (hQ.qnd _) _
       ·exact hQ.qnd t
      ·intro t i hi
       rw [e6] at hi
       rw [e1,zV]
       by_cases e:q.tenant=t
       ·rw [if_pos e] at hi
        obtain ⟨hi1,hi2⟩:=zBf.1 hi
        rw [if_neg (Ne.symm hi2)]
        rw [e] at hi1;exact hQ.qreq t i hi1
       ·rw [if_neg e] at hi
        obtain ⟨p,h1,h2,h3⟩:=hQ.qreq t i hi
        by_cases e2:id=i
        ·subst e2
         rw [hq] at h1;cases h1
         exact absurd h2 e
        ·exact ⟨p,by simp [e2,h1],h2,h3⟩
      ·intro i p hp hpq
       rw [e1,zV] at hp
       rw [e6]
       by_cases e2:id=i
       ·rw [if_pos e2] at hp;cases hp
        cases hpq
       ·rw [if_neg e2] at hp
        have:=hQ.reqq i p hp hpq
        by_cases e:q.tenant=p.tenant
        ·rw [if_pos e];exact zBf.2 ⟨e ▸ this,Ne.symm e2⟩
        ·rw [if_neg e];exact this
     by_cases hl:zE (qOf r q.tenant) id=[]
     ·rw [zDP hq hn hl]
      have hqo:∀s,qOf {r with reqs:=aset r.reqs id {q with queued:=false},queues:=adel r.queues q.tenant,ring:=zE r.ring q.tenant} s=if q.tenant=s then zE (qOf r q.tenant) id else qOf r s:=fun s=>by
       rw [hl];exact zIC r q.tenant s hQ.kqu
      refine ⟨key _ rfl (zAQ hQ.kqu _) rfl rfl ?_ hqo (zDN hQ.rnd _) ?_,⟨hA1.areq,hA1.apw,hA1.aseq,hA1.aatt,hA1.runs⟩,⟨hN1.cfg,hN1.now,hN1.seq0,hN1.seq,hN1.reqs,hN1.req,hN1.att,hN1.pot⟩⟩
      ·intro t m hm
       rw [zBH _ _ _ hQ.kqu] at hm
       split at hm
       ·cases hm
       ·exact hQ.qne t m hm
      ·intro t
       rw [hqo]
       show t∈zE r.ring q.tenant↔_
       rw [zBf,hQ.rqu t]
       by_cases e:q.tenant=t
       ·subst e;rw [if_pos rfl,hl];simp
       ·simp [e,Ne.symm e]
     ·rw [zDQ hq hn hl]
      have hqo:∀s,qOf {r with reqs:=aset r.reqs id {q with queued:=false},queues:=aset r.queues q.tenant (zE (qOf r q.tenant) id)} s=if q.tenant=s then zE (qOf r q.tenant) id else qOf r s:=fun s=>zEw r q.tenant s _
      refine ⟨key _ rfl (zw hQ.kqu _ _) rfl rfl ?_ hqo hQ.rnd ?_,⟨hA1.areq,hA1.apw,hA1.aseq,hA1.aatt,hA1.runs⟩,⟨hN1.cfg,hN1.now,hN1.seq0,hN1.seq,hN1.reqs,hN1.req,hN1.att,hN1.pot⟩⟩
      ·intro t m hm
       simp only [zV] at hm
       split at hm
       ·cases hm;exact hl
       ·exact hQ.qne t m hm
      ·intro t
       rw [hqo]
       show t∈r.ring↔_
       rw [hQ.rqu t]
       by_cases e:q.tenant=t
       ·subst e
        rw [if_pos rfl]
        exact ⟨fun _=>hl,fun _ e=>by rw [e] at hid;cases hid⟩
       ·rw [if_neg e]
theorem Inv.mono {N P N' P':Nat} {r:Raw} (h:Inv N P r) (hN:N≤N') (hP:P≤P'):Inv N' P' r:=
 ⟨h.q,h.a,h.n.cfg,⟨h.n.now.1,by have:=h.n.now.2;omega⟩,h.n.seq0,by have:=h.n.seq;omega,Nat.le_trans h.n.reqs hN,h.n.req,h.n.att,Nat.le_trans h.n.pot hP⟩
theorem Inv.frame {N P P':Nat} {r r':Raw} (h:Inv N P r) (h1:r'.cfg=r.cfg) (h2:r'.now=r.now) (h3:r'.reqs=r.reqs) (h4:(r'.conns.map Prod.fst).Nodup) (h5:r'.queues=r.queues) (h6:r'.runs=r.runs) (h7:r'.ring=r.ring) (h8:r'.waiting=r.waiting) (h9:r'.atts=r.atts) (h10:r'.seq=r.seq)
 (hp:r'.out.length+3*r.atts.length+4*r.waiting.length≤P'):Inv N P' r':=by
 obtain ⟨hQ,hA,hN⟩:=h
 have hq:∀t,qOf r' t=qOf r t:=zEx h5
 have ht:∀j,zz r' j=zz r j:=fun j=>by unfold zz;rw [h3]
 refine ⟨⟨by rw [h3];exact hQ.kreq,by rw [h5];exact hQ.kqu,by rw [h6];exact hQ.krun,h4,by rw [h5];exact hQ.qne,fun t=>by rw [hq];exact hQ.qnd t,fun t i hi=>by rw [hq] at hi;rw [h3];exact hQ.qreq t i hi,
  fun i q hi hqq=>by rw [h3] at hi;rw [hq];exact hQ.reqq i q hi hqq,by rw [h7];exact hQ.rnd,fun t=>by rw [h7,hq];exact hQ.rqu t⟩,
  ⟨by rw [h9,h3];exact hA.areq,by rw [h9];exact hA.apw,by rw [h9,h10];exact hA.aseq,by rw [h9];exact hA.aatt,fun t=>by rw [zFA h9 ht];unfold zQ;rw [h6];exact hA.runs t⟩,
  ⟨by rw [h1];exact hN.cfg,by rw [h2];exact hN.now,by rw [h10];exact hN.seq0,by rw [h10,h8];exact hN.seq,by rw [h3];exact hN.reqs,by rw [h3,h10];exact hN.req,by rw [h9,h2];exact hN.att,by rw [h9,h8];exact hp⟩⟩
theorem Inv.say {N P:Nat} {r:Raw} (h:Inv N P r) (c:Int) (ws:List zA):Inv N (P+1) (rSay r c ws):=
 h.frame rfl rfl rfl h.q.kcn rfl rfl rfl rfl rfl rfl (by have:=h.n.pot;show (r.out++[_]).length+_+_≤_;simp;omega)
theorem Inv.conns {N P:Nat} {r:Raw} (h:Inv N P r) {l:List (Int×Cn)} (hl:(l.map Prod.fst).Nodup):Inv N P {r with conns:=l}:=
 h.frame rfl rfl rfl hl rfl rfl rfl rfl rfl rfl h.n.pot
theorem Inv.conn {N P:Nat} {r:Raw} (h:Inv N P r) (c:Int):Inv N P (zH r c):=by
 unfold zH
 split
 ·exact h
 ·exact h.conns (zw h.q.kcn _ _)
theorem Inv.bye {N P:Nat} {r:Raw} (h:Inv N P r) (c:Int):Inv N (P+1) (rBye r c):=by
 unfold rBye
 split
 ·exact h.mono (Nat.le_refl _) (by omega)
 ·split
  ·exact (h.conns (zw h.q.kcn _ _)).say _ _
  ·exact h.mono (Nat.le_refl _) (by omega)
theorem zDR {p:Att→Bool}:∀{l:List Att} {a:Att},l.Pairwise (fun a b=>a.seq < b.seq)→a∈l→l.countP p=(l.filter fun b=>!decide (b.seq=a.seq)).countP p+if p a then 1 else 0
 | [],a,_,h=>by cases h
 | b::l,a,hp,h=>by
   rw [List.pairwise_cons] at hp
   rw [List.countP_cons,List.filter_cons]
   by_cases e:b.seq=a.seq
   ·have hno:∀c∈l,¬c.seq=a.seq:=fun c hc=>by have:=hp.1 c hc;omega
    have hba:b=a:=by
     rcases List.mem_cons.1 h with h1 | h1
     ·exact h1.symm
     ·exact absurd rfl (hno a h1)
    subst hba
    have:(l.filter fun c=>!decide (c.seq=b.seq))=l:=by
     rw [List.filter_eq_self]
     intro c hc
     simp [hno c hc]
    simp [this]
   ·have ha:a∈l:=by
     rcases List.mem_cons.1 h with h1 | h1
     ·subst h1;exact absurd rfl e
     ·exact h1
    have ih:=zDR (p:=p) hp.2 ha
    simp only [e,decide_false,Bool.not_false,if_true,List.countP_cons]
    omega
theorem zFD {l:List Att} {a:Att} (h:l.Pairwise (fun a b=>a.seq < b.seq)) (ha:a∈l):l.length=(l.filter fun b=>!decide (b.seq=a.seq)).length+1:=by
 have:=zDR (p:=fun _=>true) h ha
 simpa [List.countP_true] using this
def yu (r:Raw) (a:Att) (t:ByteArray):Raw:=
 let r1:={r with atts:=r.atts.filter fun b=>!decide (b.seq=a.seq),runs:=aset r.runs t (zQ r t - 1)}
 if zQ r1 t=0 then {r1 with runs:=adel r1.runs t} else r1
theorem zCQ {r:Raw} {a:Att} {q:Req} (h:aget r.reqs a.id=some q):rEnd r a=rBye (yu r a q.tenant) a.conn:=by
 unfold rEnd yu;rw [h]
theorem zDS {r:Raw} {a:Att} {t:ByteArray} (h:zQ r t - 1=0):yu r a t={r with atts:=r.atts.filter fun b=>!decide (b.seq=a.seq),runs:=adel (aset r.runs t (zQ r t - 1)) t}:=by
 unfold yu
 have h1:zQ {r with atts:=r.atts.filter fun b=>!decide (b.seq=a.seq),runs:=aset r.runs t (zQ r t - 1)} t=zQ r t - 1:=by unfold zQ;simp [zV]
 simp only [h1]
 rw [if_pos h]
theorem zDT {r:Raw} {a:Att} {t:ByteArray} (h:¬zQ r t - 1=0):yu r a t={r with atts:=r.atts.filter fun b=>!decide (b.seq=a.seq),runs:=aset r.runs t (zQ r t - 1)}:=by
 unfold yu
 have h1:zQ {r with atts:=r.atts.filter fun b=>!decide (b.seq=a.seq),runs:=aset r.runs t (zQ r t - 1)} t=zQ r t - 1:=by unfold zQ;simp [zV]
 simp only [h1]
 rw [if_neg h]
theorem zIE {r:Raw} (h:(r.runs.map Prod.fst).Nodup) (a:Att) (t s:ByteArray):zQ (yu r a t) s=if t=s then zQ r t - 1 else zQ r s:=by
 by_cases h0:zQ r t - 1=0
 ·rw [zDS h0]
  unfold zQ at *
  simp only [zBH _ _ _ (zw h _ _),zV]
  split
  ·exact h0.symm
  ·rfl
 ·rw [zDT h0]
  unfold zQ at *
  simp only [zV]
  split<;>rfl
theorem Inv.end0 {N P:Nat} {r:Raw} (h:Inv N P r) {a:Att} {q:Req} (ha:a∈r.atts) (hq:aget r.reqs a.id=some q):Inv N (P - 3) (yu r a q.tenant):=by
 obtain ⟨hQ,hA,hN⟩:=h
 have hlen:=zFD hA.apw ha
 have hpot:=hN.pot
 have base:∀r':Raw,r'.cfg=r.cfg→r'.now=r.now→r'.reqs=r.reqs→r'.conns=r.conns→r'.queues=r.queues→r'.ring=r.ring→r'.waiting=r.waiting→r'.seq=r.seq→r'.out=r.out→r'.atts=(r.atts.filter fun b=>!decide (b.seq=a.seq))→(r'.runs.map Prod.fst).Nodup →
  (∀s,zQ r' s=if q.tenant=s then zQ r q.tenant - 1 else zQ r s)→Inv N (P - 3) r':=by
  intro r' h1 h2 h3 h4 h5 h7 h8 h10 h11 h9 h6 hruns
  have hqo:∀t,qOf r' t=qOf r t:=zEx h5
  have ht:∀j,zz r' j=zz r j:=fun j=>by unfold zz;rw [h3]
  have hsub:∀b,b∈r'.atts→b∈r.atts:=fun b hb=>by rw [h9] at hb;exact (List.mem_filter.1 hb).1
  refine ⟨⟨by rw [h3];exact hQ.kreq,by rw [h5];exact hQ.kqu,h6,by rw [h4];exact hQ.kcn,by rw [h5];exact hQ.qne,fun t=>by rw [hqo];exact hQ.qnd t,fun t i hi=>by rw [hqo] at hi;rw [h3];exact hQ.qreq t i hi,
   fun i q hi hqq=>by rw [h3] at hi;rw [hqo];exact hQ.reqq i q hi hqq,by rw [h7];exact hQ.rnd,fun t=>by rw [h7,hqo];exact hQ.rqu t⟩,
   ⟨fun b hb=>by rw [h3];exact hA.areq b (hsub b hb),by rw [h9];exact hA.apw.sublist List.filter_sublist,fun b hb=>by rw [h10];exact hA.aseq b (hsub b hb),fun b hb c hc=>hA.aatt b (hsub b hb) c (hsub c hc),fun t=>?_⟩,
   ⟨by rw [h1];exact hN.cfg,by rw [h2];exact hN.now,by rw [h10];exact hN.seq0,by rw [h10,h8];exact hN.seq,by rw [h3];exact hN.reqs,by rw [h3,h10];exact hN.req,fun b hb=>by rw [h2];exact hN.att b (hsub b hb),by rw [h11,h9,h8];omega⟩⟩
  rw [hruns]
  have hc:yi r' t=(r.atts.filter fun b=>!decide (b.seq=a.seq)).countP fun b=>decide (zz r b.id=some t):=by
   unfold yi
   rw [h9]
   exact congrArg (fun p=>List.countP p _) (funext fun b=>by rw [ht])
  have hd:=zDR (p:=fun b=>decide (zz r b.id=some t)) hA.apw ha
  have hcr:=hA.runs t
  unfold yi at hcr
  rw [hd,←hc,zEy hq] at hcr
  by_cases e:q.tenant=t
  ·subst e
   rw [if_pos rfl,hcr]
   simp
  ·rw [if_neg e,hcr]
   simp [e]
 have hrun0:=zIE hQ.krun a q.tenant
 by_cases h0:zQ r q.tenant - 1=0
 ·rw [zDS h0] at hrun0 ⊢
  exact base _ rfl rfl rfl rfl rfl rfl rfl rfl rfl rfl (zAQ (zw hQ.krun _ _) _) hrun0
 ·rw [zDT h0] at hrun0 ⊢
  exact base _ rfl rfl rfl rfl rfl rfl rfl rfl rfl rfl (zw hQ.krun _ _) hrun0
theorem Inv.three {N P:Nat} {r:Raw} (h:Inv N P r) {a:Att} (ha:a∈r.atts):3≤P:=by
 have:=h.n.pot
 have:=List.length_pos_of_mem ha
 omega
theorem Inv.end {N P:Nat} {r:Raw} (h:Inv N P r) {a:Att} (ha:a∈r.atts):Inv N (P - 2) (rEnd r a):=by
 obtain ⟨q,hq,_⟩:=h.a.areq a ha
 rw [zCQ hq]
 have:=h.three ha
 exact ((h.end0 ha hq).bye _).mono (Nat.le_refl _) (by omega)
theorem Inv.stop {N P:Nat} {r:Raw} (h:Inv N P r) {a:Att} (ha:a∈r.atts):Inv N (P - 1) (zR r a):=by
 unfold zR
 have:=h.three ha
 exact ((h.say _ _).end ha).mono (Nat.le_refl _) (by omega)
theorem zIF (r:Raw) (c:Int):(rBye r c).atts=r.atts:=by
 unfold rBye
 split
 ·rfl
 ·split<;>rfl
theorem zIG (r:Raw) (c:Int):(rBye r c).reqs=r.reqs:=by
 unfold rBye
 split
 ·rfl
 ·split<;>rfl
theorem zIH (r:Raw) (a:Att) (t:ByteArray):(yu r a t).atts=r.atts.filter fun b=>!decide (b.seq=a.seq):=by
 unfold yu;simp only;split<;>rfl
theorem zII (r:Raw) (a:Att) (t:ByteArray):(yu r a t).reqs=r.reqs:=by
 unfold yu;simp only;split<;>rfl
theorem zBg {r:Raw} {a:Att} {q:Req} (h:aget r.reqs a.id=some q):(rEnd r a).atts=r.atts.filter fun b=>!decide (b.seq=a.seq):=by
 rw [zCQ h,zIF,zIH]
theorem zAg (r:Raw) (a:Att):(rEnd r a).reqs=r.reqs:=by
 cases h:aget r.reqs a.id with
 | none=>unfold rEnd;rw [h]
 | some q=>rw [zCQ h,zIG,zII]
theorem zDU {α:Type} [DecidableEq α]:∀{l m:List α},l.Nodup→(∀x∈l,x∈m)→l.length≤m.length
 | [],_,_,_=>Nat.zero_le _
 | x::l,m,hn,hs=>by
   rw [List.nodup_cons] at hn
   have hx:=hs x (by simp)
   have:=zDU (m:=m.erase x) hn.2 (fun y hy=>(List.mem_erase_of_ne (fun (e:y=x)=>hn.1 (by rw [←e];exact hy))).2 (hs y (by simp [hy])))
   rw [List.length_erase_of_mem hx] at this
   have:=List.length_pos_of_mem hx
   simp;omega
theorem InvQ.qu_le {r:Raw} (h:InvQ r) (t:ByteArray):(qOf r t).length≤r.reqs.length:=by
 have:=zDU (m:=r.reqs.map Prod.fst) (h.qnd t) (fun id hid=>by
  obtain ⟨q,hq,_⟩:=h.qreq t id hid
  exact zBG.1 (by rw [hq];rfl))
 simpa using this
theorem InvQ.ring_le {r:Raw} (h:InvQ r):r.ring.length≤r.reqs.length:=by
 have hhead:∀t∈r.ring,(qOf r t).headD 0∈qOf r t:=fun t ht=>by
  have:=(h.rqu t).1 ht
  cases hq:qOf r t with
  | nil=>exact absurd hq this
  | cons a l=>simp
 have:=zDU (l:=r.ring.map fun t=>(qOf r t).headD 0) (m:=r.reqs.map Prod.fst) (by
  rw [List.nodup_iff_pairwise_ne,List.pairwise_map]
  refine List.Pairwise.imp_of_mem (fun {t s} ht hs hne e=>?_) (List.nodup_iff_pairwise_ne.1 h.rnd)
  obtain ⟨q1,h1,h2,_⟩:=h.qreq t _ (hhead t ht)
  obtain ⟨q2,h3,h4,_⟩:=h.qreq s _ (hhead s hs)
  rw [e,h3] at h1;cases h1
  exact hne (h2.symm.trans h4))
  (fun id hid=>by
   obtain ⟨t,ht,rfl⟩:=List.mem_map.1 hid
   obtain ⟨q,hq,_⟩:=h.qreq t _ (hhead t ht)
   exact zBG.1 (by rw [hq];rfl))
 simpa using this
theorem zFE (r:Raw) (a:Att):(zR r a).reqs=r.reqs:=by unfold zR;rw [zAg];rfl
theorem zDV {r:Raw} {a:Att} {q:Req} (h:aget r.reqs a.id=some q):(zR r a).atts=r.atts.filter fun b=>!decide (b.seq=a.seq):=by
 unfold zR
 exact zBg (r:=rSay r a.conn [yf,decI a.id,decI a.att]) h
def Live (l:List Att) (r:Raw):Prop:=l.Pairwise (fun a b=>a.seq < b.seq)∧∀a∈l,a∈r.atts
theorem Live.of_filter {N P:Nat} {r:Raw} (h:Inv N P r) (p:Att→Bool):Live (r.atts.filter p) r:=⟨h.a.apw.sublist List.filter_sublist,fun a ha=>(List.mem_filter.1 ha).1⟩
theorem Live.next {a:Att} {l:List Att} {r r':Raw} (h:Live (a::l) r) (ha:r'.atts=r.atts.filter fun b=>!decide (b.seq=a.seq)):Live l r':=by
 obtain ⟨h1,h2⟩:=h
 rw [List.pairwise_cons] at h1
 refine ⟨h1.2,fun b hb=>?_⟩
 rw [ha,List.mem_filter]
 have:=h1.1 b hb
 exact ⟨h2 b (by simp [hb]),by simp;omega⟩
theorem zBh {N P:Nat}:∀(l:List Att) (r:Raw),Inv N P r→Live l r→Inv N P (l.foldl zR r)∧(l.foldl zR r).reqs=r.reqs∧(l.foldl zR r).atts=r.atts.filter fun b=>!(l.any fun a=>decide (b.seq=a.seq))
 | [],r,h,_=>⟨h,rfl,(List.filter_eq_self.2 (by simp)).symm⟩
 | a::l,r,h,hl=>by
   obtain ⟨q,hq,_⟩:=h.a.areq a (hl.2 a (by simp))
   have hat:=zDV hq
   obtain ⟨h1,h2,h3⟩:=zBh (N:=N) (P:=P) l (zR r a) ((h.stop (hl.2 a (by simp))).mono (Nat.le_refl _) (by omega)) (hl.next hat)
   refine ⟨h1,h2.trans (zFE r a),?_⟩
   show (l.foldl zR (zR r a)).atts=_
   rw [h3,hat,List.filter_filter]
   congr 1
   funext b
   simp [Bool.not_or,Bool.and_comm]
theorem zIJ {N P:Nat} {r:Raw} (h:Inv N P r) (id:Int):∀a∈((rOf r id).foldl zR r).atts,a.id≠id:=by
 intro a ha e
 obtain ⟨_,_,h3⟩:=zBh (rOf r id) r h (Live.of_filter h _)
 rw [h3,List.mem_filter] at ha
 have hno:=ha.2
 simp only [Bool.not_eq_true',List.any_eq_false,decide_eq_true_eq] at hno
 exact hno a (List.mem_filter.2 ⟨ha.1,by simp [e]⟩) rfl
theorem zDW (r:Raw) (id:Int):(zI r id).atts=r.atts:=by
 unfold zI
 split
 ·rfl
 ·simp only;split
  ·rfl
  ·split<;>rfl
theorem zDX (r:Raw) (id:Int):(zI r id).waiting=r.waiting:=by
 unfold zI
 split
 ·rfl
 ·simp only;split
  ·rfl
  ·split<;>rfl
theorem zBi {r:Raw} {id:Int} {q:Req} (h:aget r.reqs id=some q):aget (zI r id).reqs id=some {q with queued:=false}:=by
 cases hn:q.queued with
 | false=>rw [zDO h hn,h];rw [←hn]
 | true =>
   by_cases hl:zE (qOf r q.tenant) id=[]
   ·rw [zDP h hn hl];simp [zV]
   ·rw [zDQ h hn hl];simp [zV]
theorem zIK {r:Raw} {id j:Int} (hj:id≠j):aget (zI r id).reqs j=aget r.reqs j:=by
 cases h:aget r.reqs id with
 | none=>unfold zI;rw [h]
 | some q =>
   cases hn:q.queued with
   | false=>rw [zDO h hn]
   | true =>
     by_cases hl:zE (qOf r q.tenant) id=[]
     ·rw [zDP h hn hl];simp [zV,hj]
     ·rw [zDQ h hn hl];simp [zV,hj]
theorem Inv.del {N P:Nat} {r:Raw} (h:Inv N P r) {id:Int} {q:Req} (hq:aget r.reqs id=some q) (hn:q.queued=false) (ha:∀a∈r.atts,a.id≠id):Inv N P {r with reqs:=adel r.reqs id}:=by
 obtain ⟨hQ,hA,hN⟩:=h
 have hd:∀j,aget (adel r.reqs id) j=if id=j then none else aget r.reqs j:=fun j=>zBH _ _ _ hQ.kreq
 refine ⟨⟨zAQ hQ.kreq _,hQ.kqu,hQ.krun,hQ.kcn,hQ.qne,hQ.qnd,fun t i hi=>?_,fun i p hp hpq=>?_,hQ.rnd,hQ.rqu⟩,⟨fun a haa=>?_,hA.apw,hA.aseq,hA.aatt,fun t=>?_⟩,⟨hN.cfg,hN.now,hN.seq0,hN.seq,?_,fun i p hp=>?_,hN.att,hN.pot⟩⟩
 ·obtain ⟨p,h1,h2,h3⟩:=hQ.qreq t i hi
  show ∃q,aget (adel r.reqs id) i=some q∧_
  rw [hd]
  by_cases e:id=i
  ·subst e;rw [hq] at h1;cases h1;rw [hn] at h3;cases h3
  ·exact ⟨p,by rw [if_neg e];exact h1,h2,h3⟩
 ·have hp':aget (adel r.reqs id) i=some p:=hp
  rw [hd] at hp'
  split at hp'
  ·cases hp'
  ·exact hQ.reqq i p hp' hpq
 ·obtain ⟨p,h1,h2⟩:=hA.areq a haa
  show ∃q,aget (adel r.reqs id) a.id=some q∧_
  rw [hd,if_neg (Ne.symm (ha a haa))]
  exact ⟨p,h1,h2⟩
 ·have:yi {r with reqs:=adel r.reqs id} t=yi r t:=by
   unfold yi
   refine List.countP_congr (fun a haa=>?_)
   have:zz {r with reqs:=adel r.reqs id} a.id=zz r a.id:=by
    unfold zz
    show (aget (adel r.reqs id) a.id).map _=_
    rw [hd,if_neg (Ne.symm (ha a haa))]
   rw [this]
  rw [this];exact hA.runs t
 ·exact Nat.le_trans ((zBc r.reqs id).length_le) hN.reqs
 ·have hp':aget (adel r.reqs id) i=some p:=hp
  rw [hd] at hp'
  split at hp'
  ·cases hp'
  ·exact hN.req i p hp'
theorem zBL (r:Raw) (id:Int):yA r id={zI ((rOf r id).foldl zR r) id with reqs:=adel (zI ((rOf r id).foldl zR r) id).reqs id}:=rfl
theorem Inv.shut {N P:Nat} {r:Raw} (h:Inv N P r) {id:Int} {q:Req} (hq:aget r.reqs id=some q):Inv N P (yA r id):=by
 obtain ⟨h1,h2,h3⟩:=zBh (rOf r id) r h (Live.of_filter h _)
 have hg:=zIJ h id
 rw [zBL]
 have hq2:aget ((rOf r id).foldl zR r).reqs id=some q:=by rw [h2];exact hq
 exact (h1.unqueue id).del (zBi hq2) rfl (fun a ha=>hg a (by rw [zDW] at ha;exact ha))
theorem zIL {N P:Nat} {r:Raw} (h:Inv N P r) {id j:Int} (hj:id≠j):aget (yA r id).reqs j=aget r.reqs j:=by
 obtain ⟨h1,h2,h3⟩:=zBh (rOf r id) r h (Live.of_filter h _)
 rw [zBL]
 show aget (adel _ id) j=_
 rw [zBH _ _ _ (h1.unqueue id).q.kreq,if_neg hj,zIK hj,h2]
theorem Inv.left {N P:Nat} {r:Raw} (h:Inv N P r) {id:Int} {q:Req} (hq:aget r.reqs id=some q) (h0:q.left≠0):Inv N P {r with reqs:=aset r.reqs id {q with left:=q.left - 1}}:=by
 have hr:=h.n.req id q hq
 exact ⟨h.q.set_req hq rfl rfl,h.a.set_req hq rfl (Int.le_refl _),h.n.set_req hq hr.2.2.1 hr.2.2.2.1 (by show 0≤q.left - 1;omega) (by show q.left - 1≤5;omega) hr.2.2.2.2.2.2.1 hr.2.2.2.2.2.2.2⟩
theorem Inv.again {N P:Nat} {r:Raw} (h:Inv N P r) (id:Int) (counts:Bool):Inv N (P+1) (za r id counts):=by
 unfold za
 split
 ·exact h.mono (Nat.le_refl _) (by omega)
 ·rename_i q hq
  split
  ·exact h.mono (Nat.le_refl _) (by omega)
  ·rename_i hc
   have hn:q.queued=false:=by
    cases hqq:q.queued with
    | true=>simp [hqq] at hc
    | false=>rfl
   split
   ·split
    ·exact (h.say _ _).shut (q:=q) hq
    ·rename_i h0
     have:xQ r id={r with reqs:=aset r.reqs id {q with left:=q.left - 1}}:=by unfold xQ;rw [hq]
     rw [this]
     exact ((h.left hq h0).queue (q:={q with left:=q.left - 1}) (by simp [zV]) hn true).mono (Nat.le_refl _) (by omega)
   ·exact (h.queue hq hn true).mono (Nat.le_refl _) (by omega)
theorem Inv.new {N P:Nat} {r:Raw} (h:Inv N P r) {id:Int} {q:Req} (hq:aget r.reqs id=none) (h1:q.queued=false) (h2:0≤id∧id≤999999) (h3:q.attempts=0) (h4:0≤q.left∧q.left≤5) (h5:q.tenant.size≤80) (h6:q.text.size≤80) :
 Inv (N+1) P {r with reqs:=aset r.reqs id q}:=by
 obtain ⟨hQ,hA,hN⟩:=h
 have hd:∀j,aget (aset r.reqs id q) j=if id=j then some q else aget r.reqs j:=fun j=>zV _ _ _ _
 have hane:∀a∈r.atts,id≠a.id:=fun a ha e=>by
  obtain ⟨p,hp,_⟩:=hA.areq a ha
  rw [←e,hq] at hp;cases hp
 refine ⟨⟨zw hQ.kreq _ _,hQ.kqu,hQ.krun,hQ.kcn,hQ.qne,hQ.qnd,fun t i hi=>?_,fun i p hp hpq=>?_,hQ.rnd,hQ.rqu⟩,⟨fun a haa=>?_,hA.apw,hA.aseq,hA.aatt,fun t=>?_⟩,
  ⟨hN.cfg,⟨hN.now.1,by have:=hN.now.2;show r.now≤_;omega⟩,hN.seq0,by have:=hN.seq;show r.seq+r.waiting.length≤_;omega,?_,fun i p hp=>?_,hN.att,hN.pot⟩⟩
 ·obtain ⟨p,e1,e2,e3⟩:=hQ.qreq t i hi
  show ∃q',aget (aset r.reqs id q) i=some q'∧_
  rw [hd]
  by_cases e:id=i
  ·subst e;rw [hq] at e1;cases e1
  ·exact ⟨p,by rw [if_neg e];exact e1,e2,e3⟩
 ·have hp':aget (aset r.reqs id q) i=some p:=hp
  rw [hd] at hp'
  split at hp'
  ·cases hp';rw [h1] at hpq;cases hpq
  ·exact hQ.reqq i p hp' hpq
 ·obtain ⟨p,e1,e2⟩:=hA.areq a haa
  show ∃q',aget (aset r.reqs id q) a.id=some q'∧_
  rw [hd,if_neg (hane a haa)]
  exact ⟨p,e1,e2⟩
 ·have:yi {r with reqs:=aset r.reqs id q} t=yi r t:=by
   unfold yi
   refine List.countP_congr (fun a haa=>?_)
   have:zz {r with reqs:=aset r.reqs id q} a.id=zz r a.id:=by
    unfold zz
    show (aget (aset r.reqs id q) a.id).map _=_
    rw [hd,if_neg (hane a haa)]
   rw [this]
  rw [this];exact hA.runs t
 ·have:=zHw r.reqs id q
  have:=hN.reqs
  show (aset r.reqs id q).length≤_
  omega
 ·have hp':aget (aset r.reqs id q) i=some p:=hp
  rw [hd] at hp'
  split at hp'
  ·rename_i e
   cases hp'
   subst e
   exact ⟨h2.1,h2.2,by omega,by have:=hN.seq0;show q.attempts≤r.seq;omega,h4.1,h4.2,h5,h6⟩
  ·exact hN.req i p hp'
theorem zBj {c:Cfg} (h:zAT c=true):1≤c.lease∧c.lease≤20∧0≤c.retries∧c.retries≤5∧1≤c.cap∧c.cap≤5∧1≤c.bound∧c.bound≤8∧0≤c.hedge∧c.hedge≤20:=by
 unfold zAT at h
 simp only [Bool.and_eq_true,decide_eq_true_eq] at h
 omega
theorem zFF (l:zA):(bs l).size=l.length:=by simp [bs,ByteArray.size]
structure xD (m:Msg):Prop where
 id:0≤m.id∧m.id≤999999
 tenant:m.tenant.length≤80
 text:m.text.length≤80
def zAh (r:Raw) (c:Int) (m:Msg):Req:=⟨c,bs m.tenant,bs m.text,0,r.cfg.retries,false,false⟩
theorem Inv.accept {N P:Nat} {r:Raw} (h:Inv N P r) {c:Int} {m:Msg} (hm:xD m) (hq:aget r.reqs m.id=none):Inv (N+1) P {r with reqs:=aset r.reqs m.id (zAh r c m)}:=by
 have hc:=zBj h.n.cfg
 exact h.new hq rfl hm.id rfl ⟨hc.2.2.1,hc.2.2.2.1⟩ (by show (bs m.tenant).size≤_;rw [zFF];exact hm.tenant) (by show (bs m.text).size≤_;rw [zFF];exact hm.text)
theorem Inv.submit {N P:Nat} {r:Raw} (h:Inv N P r) (c:Int) {m:Msg} (hm:xD m):Inv (N+1) (P+1) (yI r c m):=by
 unfold yI
 split
 ·exact (h.say _ _).mono (by omega) (Nat.le_refl _)
 ·rename_i hq
  have hq:aget r.reqs m.id=none:=by cases hx:aget r.reqs m.id with
   | none=>rfl
   | some q=>rw [hx] at hq;exact absurd rfl hq
  split
  ·exact (h.say _ _).mono (by omega) (Nat.le_refl _)
  ·exact ((h.accept hm hq).say _ _).queue (q:=zAh r c m) (by show aget (aset r.reqs m.id _) m.id=_;simp [zV,zAh]) rfl false
theorem Inv.beat {N P:Nat} {r:Raw} (h:Inv N P r) (c:Int):Inv N P (xk r c):=by
 obtain ⟨hQ,hA,hN⟩:=h
 have hc:=zBj hN.cfg
 have hmem:∀a∈(xk r c).atts,∃b∈r.atts,a.id=b.id∧a.att=b.att∧a.seq=b.seq∧a.since=b.since∧(a.till=b.till∨a.till=r.now+r.cfg.lease)∧a.conn=b.conn:=by
  intro a ha
  obtain ⟨b,hb,rfl⟩:=List.mem_map.1 ha
  refine ⟨b,hb,?_⟩
  split<;>simp
 refine ⟨⟨hQ.kreq,hQ.kqu,hQ.krun,hQ.kcn,hQ.qne,hQ.qnd,hQ.qreq,hQ.reqq,hQ.rnd,hQ.rqu⟩,⟨fun a ha=>?_,?_,fun a ha=>?_,fun a ha b hb e1 e2=>?_,fun t=>?_⟩,⟨hN.cfg,hN.now,hN.seq0,hN.seq,hN.reqs,hN.req,fun a ha=>?_,?_⟩⟩
 ·obtain ⟨b,hb,e1,e2,_⟩:=hmem a ha
  rw [e1,e2];exact hA.areq b hb
 ·show (r.atts.map _).Pairwise _
  rw [List.pairwise_map]
  refine hA.apw.imp (fun {a b} h=>?_)
  show (if a.conn=c then _ else a:Att).seq < (if b.conn=c then _ else b:Att).seq
  split<;>split<;>exact h
 ·obtain ⟨b,hb,_,_,e3,_⟩:=hmem a ha
  rw [e3];exact hA.aseq b hb
 ·obtain ⟨a',ha',rfl⟩:=List.mem_map.1 ha
  obtain ⟨b',hb',rfl⟩:=List.mem_map.1 hb
  have:a'=b':=hA.aatt a' ha' b' hb' (by split at e1<;>split at e1<;>exact e1) (by split at e2<;>split at e2<;>exact e2)
  rw [this]
 ·show zQ r t=_
  rw [hA.runs t]
  unfold yi
  have e0:(xk r c).atts=r.atts.map fun a=>if a.conn=c then {a with till:=r.now+r.cfg.lease} else a:=rfl
  rw [e0,List.countP_map]
  refine congrArg Int.ofNat ?_
  refine List.countP_congr (fun a _=>?_)
  show decide (zz r a.id=some t)=true↔decide (zz (xk r c) (if a.conn=c then _ else a:Att).id=some t)=true
  have:(if a.conn=c then {a with till:=r.now+r.cfg.lease} else a:Att).id=a.id:=by split<;>rfl
  rw [this];rfl
 ·obtain ⟨b,hb,_,_,_,e4,e5,_⟩:=hmem a ha
  have:=hN.att b hb
  have h0:=hN.now
  show 0≤a.since∧a.since≤r.now∧0≤a.till∧a.till≤r.now+20
  rw [e4]
  rcases e5 with e | e<;>rw [e]<;>omega
 ·show r.out.length+3*(r.atts.map _).length+_≤_
  rw [List.length_map];exact hN.pot
theorem Inv.waiting {N P N' P':Nat} {r:Raw} (h:Inv N P r) {l:List Int} (hN:N≤N') (h1:r.seq+l.length≤N') (h2:r.out.length+3*r.atts.length+4*l.length≤P'):Inv N' P' {r with waiting:=l}:=by
 obtain ⟨hQ,hA,hNn⟩:=h
 exact ⟨⟨hQ.kreq,hQ.kqu,hQ.krun,hQ.kcn,hQ.qne,hQ.qnd,hQ.qreq,hQ.reqq,hQ.rnd,hQ.rqu⟩,⟨hA.areq,hA.apw,hA.aseq,hA.aatt,hA.runs⟩,⟨hNn.cfg,⟨hNn.now.1,by have:=hNn.now.2;show r.now≤_;omega⟩,hNn.seq0,h1,Nat.le_trans hNn.reqs hN,hNn.req,hNn.att,h2⟩⟩
theorem Inv.pull {N P:Nat} {r:Raw} (h:Inv N P r) (c:Int):Inv (N+1) (P+4) (xR r c):=by
 have hc:=h.conn c
 have h1:=hc.n.seq
 have h2:=hc.n.pot
 unfold xR
 simp only
 split
 ·exact hc.mono (by omega) (by omega)
 ·split
  ·exact hc.waiting (by omega) (by simp;omega) (by simp;omega)
  ·exact hc.mono (by omega) (by omega)
theorem Inv.idle {N P:Nat} {r:Raw} (h:Inv N P r) (c:Int):Inv N P {r with waiting:=zE r.waiting c}:=by
 have h1:=h.n.seq
 have h2:=h.n.pot
 have h3:=zFB r.waiting c
 exact h.waiting (Nat.le_refl _) (by omega) (by omega)
theorem Inv.drain {N P:Nat} {r:Raw} (h:Inv N P r) (c:Int):Inv N (P+1) (xS r c):=by
 have hc:=h.conn c
 unfold xS
 simp only
 split
 ·exact hc.mono (Nat.le_refl _) (by omega)
 ·exact ((hc.conns (zw hc.q.kcn _ _)).idle c).bye c
def rRot (r:Raw) (t:ByteArray):Raw:=if qOf r t=[] then r else {r with ring:=zE r.ring t++[t]}
def xE (r:Raw) (id:Int) (q:Req):Raw:={r with reqs:=aset r.reqs id {q with attempts:=q.attempts+1}}
def xm (r:Raw) (t:ByteArray):Raw:={r with runs:=aset r.runs t (zQ r t+1)}
def xn (r:Raw) (id n c:Int):Raw:={r with seq:=r.seq+1,atts:=r.atts++[⟨id,n,c,r.now,r.now+r.cfg.lease,r.seq+1⟩]}
theorem zBk {r:Raw} {c:Int} {ws:List Int} {t:ByteArray} {id:Int} {rest:List Int} {q:Req} (hw:r.waiting=c::ws) (ht:xC r=some t) (hq:qOf r t=id::rest) (hr:aget r.reqs id=some q) :
 yM r=rSay (xn (xm (xE (rRot (zI {r with waiting:=ws} id) t) id {q with queued:=false}) t) id (q.attempts+1) c) c [wRun,decI id,decI (q.attempts+1),t.data.toList,q.text.data.toList]:=by
 have h1:aget (rRot (zI {r with waiting:=ws} id) t).reqs id=some {q with queued:=false}:=by
  have:=zBi (r:={r with waiting:=ws}) (id:=id) (q:=q) hr
  unfold rRot
  split<;>exact this
 unfold yM
 simp only [hw,ht,hq,hr]
 unfold rRot at h1
 unfold rSay xn xm xE rRot
 rw [h1]
 rfl
theorem Inv.rot {N P:Nat} {r:Raw} (h:Inv N P r) {t:ByteArray} (ht:qOf r t≠[]):Inv N P {r with ring:=zE r.ring t++[t]}:=by
 obtain ⟨hQ,hA,hN⟩:=h
 refine ⟨⟨hQ.kreq,hQ.kqu,hQ.krun,hQ.kcn,hQ.qne,hQ.qnd,hQ.qreq,hQ.reqq,?_,fun s=>?_⟩,⟨hA.areq,hA.apw,hA.aseq,hA.aatt,hA.runs⟩,⟨hN.cfg,hN.now,hN.seq0,hN.seq,hN.reqs,hN.req,hN.att,hN.pot⟩⟩
 ·show (zE r.ring t++[t]).Nodup
  rw [List.nodup_append]
  exact ⟨zDN hQ.rnd _,by simp,fun a ha b hb=>by simp at hb;subst hb;exact (zBf.1 ha).2⟩
 ·show s∈zE r.ring t++[t]↔qOf r s≠[]
  rw [List.mem_append,zBf,hQ.rqu s]
  by_cases e:s=t
  ·subst e;simp [ht]
  ·simp [e]
theorem Inv.rotate {N P:Nat} {r:Raw} (h:Inv N P r) (t:ByteArray):Inv N P (rRot r t):=by
 unfold rRot
 split
 ·exact h
 ·rename_i hne;exact h.rot hne
theorem zDY (r:Raw) (t:ByteArray):(rRot r t).reqs=r.reqs:=by unfold rRot;split<;>rfl
theorem zDZ (r:Raw) (t:ByteArray):(rRot r t).waiting=r.waiting:=by unfold rRot;split<;>rfl
theorem Inv.begin {N P N' P':Nat} {r:Raw} (h:Inv N P r) {id c:Int} {q:Req} (hq:aget r.reqs id=some q) (hN':N≤N') (hs:r.seq+1+r.waiting.length≤N') (hp:r.out.length+3*r.atts.length+3+4*r.waiting.length≤P') :
 Inv N' P' (xn (xm (xE r id q) q.tenant) id (q.attempts+1) c):=by
 obtain ⟨hQ,hA,hN⟩:=h
 have hr:=hN.req id q hq
 have hc:=zBj hN.cfg
 have hQ1:=hQ.set_req hq (q':={q with attempts:=q.attempts+1}) rfl rfl
 have hd:∀j,aget (aset r.reqs id {q with attempts:=q.attempts+1}) j=if id=j then some {q with attempts:=q.attempts+1} else aget r.reqs j:=fun j=>zV _ _ _ _
 have hten:∀j,zz (xn (xm (xE r id q) q.tenant) id (q.attempts+1) c) j=zz r j:=zEz hq rfl
 have hmem:∀a,a∈(xn (xm (xE r id q) q.tenant) id (q.attempts+1) c).atts↔a∈r.atts∨a=⟨id,q.attempts+1,c,r.now,r.now+r.cfg.lease,r.seq+1⟩:=fun a=>by
  show a∈r.atts++[_]↔_
  rw [List.mem_append,List.mem_singleton]
  exact Iff.rfl
 have hnow:=hN.now
 refine ⟨⟨hQ1.kreq,hQ1.kqu,zw hQ.krun _ _,hQ1.kcn,hQ1.qne,hQ1.qnd,hQ1.qreq,hQ1.reqq,hQ1.rnd,hQ1.rqu⟩,⟨fun a ha=>?_,?_,fun a ha=>?_,fun a ha b hb e1 e2=>?_,fun s=>?_⟩,⟨hN.cfg,⟨hN.now.1,by have:=hN.now.2;show r.now≤_;omega⟩,by show 0≤r.seq+1;have:=hN.seq0;omega,hs,?_,fun i p hp2=>?_,fun a ha=>?_,?_⟩⟩
 ·show ∃q',aget (aset r.reqs id _) a.id=some q'∧_
  rw [hd]
  rcases (hmem a).1 ha with h1 | h1
  ·obtain ⟨p,e1,e2,e3⟩:=hA.areq a h1
   by_cases e:id=a.id
   ·rw [←e,hq] at e1;cases e1
    exact ⟨_,by rw [if_pos e],e2,by show a.att≤q.attempts+1;omega⟩
   ·exact ⟨p,by rw [if_neg e];exact e1,e2,e3⟩
  ·subst h1
   exact ⟨_,by rw [if_pos rfl],by show 1≤q.attempts+1;omega,Int.le_refl _⟩
 ·show (r.atts++[_]).Pairwise _
  rw [List.pairwise_append]
  refine ⟨hA.apw,by simp,fun a ha b hb=>?_⟩
  simp only [List.mem_singleton] at hb
  subst hb
  have:=hA.aseq a ha
  show a.seq < r.seq+1
  omega
 ·show a.seq≤r.seq+1
  rcases (hmem a).1 ha with h1 | h1
  ·have:=hA.aseq a h1;omega
  ·subst h1;exact Int.le_refl _
 ·have hnew:∀a∈r.atts,a.id=id→a.att≠q.attempts+1:=fun a h1 e=>by
   obtain ⟨p,e1,e2,e3⟩:=hA.areq a h1
   rw [e,hq] at e1;cases e1
   omega
  rcases (hmem a).1 ha with h1 | h1
  ·rcases (hmem b).1 hb with h2 | h2
   ·exact hA.aatt a h1 b h2 e1 e2
   ·subst h2;exact absurd e2 (hnew a h1 e1)
  ·rcases (hmem b).1 hb with h2 | h2
   ·subst h1;exact absurd e2.symm (hnew b h2 e1.symm)
   ·rw [h1,h2]
 ·have h1:zQ (xn (xm (xE r id q) q.tenant) id (q.attempts+1) c) s=if q.tenant=s then zQ r q.tenant+1 else zQ r s:=by
   show (aget (aset r.runs q.tenant (zQ r q.tenant+1)) s).getD 0=_
   rw [zV]
   split<;>rfl
  have h2:yi (xn (xm (xE r id q) q.tenant) id (q.attempts+1) c) s=yi r s+if q.tenant=s then 1 else 0:=by
   unfold yi
   show List.countP _ (r.atts++[_])=_
   rw [List.countP_append]
   have e1:List.countP (fun a:Att=>decide (zz (xn (xm (xE r id q) q.tenant) id (q.attempts+1) c) a.id=some s)) r.atts=List.countP (fun a:Att=>decide (zz r a.id=some s)) r.atts:=
    congrArg (fun p=>List.countP p r.atts) (funext fun a=>by rw [hten])
   rw [e1,List.countP_singleton]
   simp only [hten,zEy hq,Option.some.injEq,decide_eq_true_eq]
  rw [h1,h2,hA.runs s,hA.runs q.tenant]
  by_cases e:q.tenant=s
  ·subst e;simp
  ·simp [e]
 ·show (aset r.reqs id _).length≤_
  rw [zFC hq];exact Nat.le_trans hN.reqs hN'
 ·have hp3:aget (aset r.reqs id {q with attempts:=q.attempts+1}) i=some p:=hp2
  rw [hd] at hp3
  split at hp3
  ·rename_i e
   cases hp3
   subst e
   exact ⟨hr.1,hr.2.1,by show 0≤q.attempts+1;omega,by show q.attempts+1≤r.seq+1;omega,hr.2.2.2.2.1,hr.2.2.2.2.2.1,hr.2.2.2.2.2.2.1,hr.2.2.2.2.2.2.2⟩
  ·have:=hN.req i p hp3
   exact ⟨this.1,this.2.1,this.2.2.1,by show p.attempts≤r.seq+1;omega,this.2.2.2.2⟩
 ·show 0≤a.since∧a.since≤r.now∧0≤a.till∧a.till≤r.now+20
  rcases (hmem a).1 ha with h1 | h1
  ·exact hN.att a h1
  ·subst h1
   show 0≤r.now∧r.now≤r.now∧0≤r.now+r.cfg.lease∧r.now+r.cfg.lease≤r.now+20
   omega
 ·show r.out.length+3*(r.atts++[_]).length+4*r.waiting.length≤P'
  simp;omega
theorem zBl {N P:Nat} {r:Raw} (h:Inv N P r) {t:ByteArray} (ht:xC r=some t):∃id rest q,qOf r t=id::rest∧aget r.reqs id=some q∧q.tenant=t∧q.queued=true:=by
 have hm:t∈r.ring:=List.mem_of_find?_eq_some ht
 have hne:=(h.q.rqu t).1 hm
 cases hq:qOf r t with
 | nil=>exact absurd hq hne
 | cons id rest =>
   obtain ⟨q,h1,h2,h3⟩:=h.q.qreq t id (by rw [hq];simp)
   exact ⟨id,rest,q,rfl,h1,h2,h3⟩
theorem zIM {r:Raw} {id:Int}:(zI r id).seq=r.seq∧(zI r id).out=r.out∧(zI r id).now=r.now∧(zI r id).cfg=r.cfg:=by
 unfold zI
 split
 ·exact ⟨rfl,rfl,rfl,rfl⟩
 ·simp only;split
  ·exact ⟨rfl,rfl,rfl,rfl⟩
  ·split<;>exact ⟨rfl,rfl,rfl,rfl⟩
theorem zIN (r:Raw) (t:ByteArray):(rRot r t).seq=r.seq∧(rRot r t).out=r.out∧(rRot r t).atts=r.atts∧(rRot r t).now=r.now∧(rRot r t).cfg=r.cfg:=by
 unfold rRot;split<;>exact ⟨rfl,rfl,rfl,rfl,rfl⟩
theorem Inv.serve1 {N P:Nat} {r:Raw} (h:Inv N P r):Inv N P (yM r):=by
 cases hw:r.waiting with
 | nil=>unfold yM;rw [hw];exact h
 | cons c ws =>
   cases ht:xC r with
   | none=>unfold yM;rw [hw,ht];exact h
   | some t =>
     obtain ⟨id,rest,q,hq,hr,rfl,hqq⟩:=zBl h ht
     rw [zBk hw ht hq hr]
     have hseq:=h.n.seq
     have hpot:=h.n.pot
     rw [hw] at hseq hpot
     simp only [List.length_cons] at hseq hpot
     have h0:Inv N (P - 4) {r with waiting:=ws}:=h.waiting (Nat.le_refl _) (by omega) (by omega)
     have h2:=(h0.unqueue id).rotate q.tenant
     have e1:=zIM (r:={r with waiting:=ws}) (id:=id)
     have e2:=zIN (zI {r with waiting:=ws} id) q.tenant
     have hq2:aget (rRot (zI {r with waiting:=ws} id) q.tenant).reqs id=some {q with queued:=false}:=by
      rw [zDY];exact zBi (r:={r with waiting:=ws}) hr
     have hwl:(rRot (zI {r with waiting:=ws} id) q.tenant).waiting=ws:=by rw [zDZ,zDX]
     have hal:(rRot (zI {r with waiting:=ws} id) q.tenant).atts=r.atts:=by rw [e2.2.2.1,zDW]
     have h3:=h2.begin (N':=N) (P':=P - 1) (c:=c) hq2 (Nat.le_refl _) (by rw [e2.1,e1.1,hwl];show r.seq+1+(ws.length:Int)≤N;omega) (by rw [e2.2.1,e1.2.1,hwl,hal];show r.out.length+3*r.atts.length+3+4*ws.length≤P - 1;omega)
     have h4:=h3.say c [wRun,decI id,decI (q.attempts+1),q.tenant.data.toList,q.text.data.toList]
     have hP1:P - 1+1≤P:=by omega
     exact h4.mono (Nat.le_refl _) hP1
theorem zFG {N P:Nat} {r:Raw} (h:Inv N P r) (hw:r.waiting≠[]) (ht:xC r≠none):(yM r).waiting.length+1=r.waiting.length:=by
 cases hw2:r.waiting with
 | nil=>exact absurd hw2 hw
 | cons c ws =>
   cases ht2:xC r with
   | none=>exact absurd ht2 ht
   | some t =>
     obtain ⟨id,rest,q,hq,hr,hqt,hqq⟩:=zBl h ht2
     rw [zBk hw2 ht2 hq hr]
     show (rRot (zI {r with waiting:=ws} id) t).waiting.length+1=_
     rw [zDZ,zDX];rfl
theorem Inv.serveN {N P:Nat}:∀(n:Nat) {r:Raw},Inv N P r→Inv N P (yh n r)
 | 0,r,h=>h
 | n+1,r,h=>by
   unfold yh
   split
   ·exact h
   ·exact Inv.serveN n h.serve1
theorem Inv.serve {N P:Nat} {r:Raw} (h:Inv N P r):Inv N P (yF r):=h.serveN _
theorem zFH {N P:Nat} {r:Raw} (hI:Inv N P r) {id att c:Int} {a:Att} (h:rAtt r id att c=some a):a∈r.atts∧a.id=id∧a.att=att∧a.conn=c∧∃q,aget r.reqs id=some q:=by
 have h1:=List.mem_of_find?_eq_some h
 have h5:=List.find?_some h
 obtain ⟨h2,h3⟩:=List.mem_filter.1 h1
 have h3:a.id=id:=by simpa using h3
 obtain ⟨q,hq,_⟩:=hI.a.areq a h2
 simp only [Bool.and_eq_true,decide_eq_true_eq] at h5
 exact ⟨h2,h3,h5.1,h5.2,q,by rw [←h3];exact hq⟩
theorem Inv.handle {N P:Nat} {r:Raw} (h:Inv N P r) (c:Int) {m:Msg} (hm:xD m):Inv (N+1) (P+4) (zY r c m):=by
 have hr:Inv (N+1) (P+4) r:=h.mono (by omega) (by omega)
 unfold zY
 split
 ·exact (h.submit c hm).mono (Nat.le_refl _) (by omega)
 ·split
  ·split
   ·rename_i q hq
    split
    ·exact ((h.say _ _).shut (q:=q) hq).mono (by omega) (by omega)
    ·exact (h.say _ _).mono (by omega) (by omega)
   ·exact (h.say _ _).mono (by omega) (by omega)
  ·split
   ·exact h.pull c
   ·split
    ·exact (h.beat c).mono (by omega) (by omega)
    ·split
     ·split
      ·rename_i a q ha hq
       obtain ⟨h1,h2,_,_,_⟩:=zFH h ha
       exact (((h.say q.conn _).end (show a∈r.atts from h1)).shut (q:=q) (by rw [zAg];exact hq)).mono (by omega) (by omega)
      ·exact hr
     ·split
      ·split
       ·rename_i a ha
        obtain ⟨h1,_⟩:=zFH h ha
        exact ((h.end h1).again _ true).mono (by omega) (by omega)
       ·exact hr
      ·split
       ·exact (h.drain c).mono (by omega) (by omega)
       ·exact hr
theorem zFI:∀(l:zA) (n k:Nat),yH l n=some k→k < (n+1)*10 ^ l.length
 | [],n,k,h=>by simp [yH] at h;subst h;simp
 | c::l,n,k,h=>by
   unfold yH at h
   split at h
   ·rename_i hc
    have:=zFI l _ k h
    have h2:c.toNat≤57:=by have:=hc.2;exact this
    have:k < (10*n+(c.toNat - 48)+1)*10 ^ l.length:=this
    refine Nat.lt_of_lt_of_le this ?_
    rw [List.length_cons,Nat.pow_succ,Nat.mul_comm (10 ^ l.length) 10,←Nat.mul_assoc]
    exact Nat.mul_le_mul_right _ (by omega)
   ·cases h
theorem zFJ {l:zA} {k:Nat} (h:yK l=some k):k≤999999:=by
 unfold yK at h
 split at h
 ·cases h
 ·rename_i hl
  split at h
  ·cases h
  ·have h1:=zFI l 0 k h
   have h2:l.length≤6:=by omega
   have h3:10 ^ l.length≤10 ^ 6:=Nat.pow_le_pow_right (by omega) h2
   omega
theorem zCR {l:zA} {i:Int} (h:(do let a ←yK l;pure (a:Int))=some i):0≤i∧i≤999999:=by
 cases hn:yK l with
 | none=>rw [hn] at h;cases h
 | some n =>
   rw [hn] at h
   cases h
   have:=zFJ hn
   constructor<;>omega
theorem zCS {l:zA} {i:Nat} (h:yK l=some i):0≤(i:Int)∧(i:Int)≤999999:=by
 have:=zFJ h
 constructor<;>omega
theorem zDa {c:UInt8}:∀(l:zA) (a:zA),a∈cut c l→a.length≤l.length
 | [],a,h=>by simp [cut] at h;subst h;simp
 | x::l,a,h=>by
   unfold cut at h
   split at h
   ·rcases List.mem_cons.1 h with rfl | h
    ·simp
    ·have:=zDa l a h;simp;omega
   ·have ih:=zDa (c:=c) l
    split at h
    ·simp at h;subst h;simp
    ·rename_i b r hb
     rcases List.mem_cons.1 h with rfl | h
     ·have:=ih b (by rw [hb];simp);simp;omega
     ·have:=ih a (by rw [hb];simp [h]);simp;omega
theorem zBM {l:zA} {m:Msg} (hl:l.length≤80) (h:xP l=some m):xD m:=by
 have hc:=fun a ha=>Nat.le_trans (zDa (c:=32) l a ha) hl
 unfold xP at h
 split at h
 ·split at h
  ·cases h;exact ⟨by simp,by simp,by simp⟩
  ·cases h
 ·split at h
  ·simp only [Option.map_eq_some_iff] at h
   obtain ⟨i,hi,rfl⟩:=h
   exact ⟨by first | exact zCR hi | exact zCS hi,by simp,by simp⟩
  ·cases h
 ·split at h
  ·simp only [Option.bind_eq_some_iff,Option.map_eq_some_iff] at h
   obtain ⟨i,hi,n,hn,rfl⟩:=h
   exact ⟨by first | exact zCR hi | exact zCS hi,by simp,by simp⟩
  ·cases h
 ·rename_i k a b c hcut
  rw [hcut] at hc
  split at h
  ·simp only [Option.bind_eq_some_iff] at h
   obtain ⟨i,hi,n,hn,h⟩:=h
   split at h
   ·cases h
    exact ⟨by first | exact zCR hi | exact zCS hi,by simp,hc c (by simp)⟩
   ·cases h
  ·split at h
   ·simp only [Option.bind_eq_some_iff] at h
    obtain ⟨i,hi,h⟩:=h
    split at h
    ·cases h
     exact ⟨by first | exact zCR hi | exact zCS hi,hc b (by simp),hc c (by simp)⟩
    ·cases h
   ·cases h
 ·cases h
theorem zBN {l t:zA} (h:ye l=some t):t.length≤80:=by
 unfold ye at h
 split at h
 ·cases h
 ·split at h
  ·cases h;simp;omega
  ·cases h
theorem Inv.line {N P:Nat} {r:Raw} (h:Inv N P r) (c:Int) (l:zA):Inv (N+1) (P+4) (zk r c l):=by
 unfold zk
 split
 ·exact (h.say _ _).mono (by omega) (by omega)
 ·rename_i t ht
  split
  ·exact (h.say _ _).mono (by omega) (by omega)
  ·rename_i m hm
   exact (h.handle c (zBM (zBN ht) hm)).serve
theorem Inv.lines (c:Int):∀(ls:List zA) {N P:Nat} {r:Raw},Inv N P r→Inv (N+ls.length) (P+4*ls.length) (ls.foldl (fun r l=>zk r c l) r)
 | [],_,_,_,h=>h
 | l::ls,N,P,r,h=>by
   have:=Inv.lines c ls (h.line c l)
   exact this.mono (by simp;omega) (by simp;omega)
theorem Inv.rest {N P:Nat} {r:Raw} (h:Inv N P r) (c:Int) (b:zA):Inv N P (xl r c b):=by
 unfold xl
 split
 ·exact h
 ·exact h.conns (zw h.q.kcn _ _)
theorem zDb:∀(l rest:zA),(zL rest l).1.length≤l.length
 | [],rest=>by simp [zL]
 | x::l,rest=>by
   unfold zL
   split
   ·simp only [List.length_cons];exact Nat.succ_le_succ (zDb l [])
   ·exact Nat.le_trans (zDb l _) (by simp)
theorem Inv.feed {N P:Nat} {r:Raw} (h:Inv N P r) (c:Int) (b:zA):Inv (N+b.length) (P+4*b.length) (yN r c b):=by
 unfold yN
 have:=zDb b (yr (zH r c) c)
 exact (Inv.lines c _ ((h.conn c).rest c _)).mono (by omega) (by omega)
theorem Inv.told {N P:Nat} {r:Raw} (h:Inv N P r):Inv N (P - r.out.length) (xe r):=by
 have:=h.n.pot
 exact h.frame rfl rfl rfl h.q.kcn rfl rfl rfl rfl rfl rfl (by show 0+3*r.atts.length+4*r.waiting.length≤P - r.out.length;omega)
theorem zFK:∀{l:List Att} {a:Att},yB l=some a→a∈l
 | [],a,h=>by cases h
 | b::l,a,h=>by
   unfold yB at h
   split at h
   ·cases h;simp
   ·rename_i c hc
    split at h
    ·cases h;exact List.mem_cons_of_mem _ (zFK hc)
    ·cases h;simp
theorem zBm {r:Raw} {a:Att} (h:rDue r=some a):a∈r.atts:=by
 unfold rDue at h
 split at h
 ·cases h
 ·rename_i b hb
  split at h
  ·cases h;exact zFK hb
  ·cases h
theorem Inv.due1 {N P:Nat} {r:Raw} (h:Inv N P r) {a:Att} (ha:a∈r.atts):Inv N P (za (zR r a) a.id true):=by
 have:=h.three ha
 exact ((h.stop ha).again a.id true).mono (Nat.le_refl _) (by omega)
theorem zIO {N P:Nat} {r:Raw} (h:Inv N P r) (id:Int) (b:Bool):(za r id b).atts.length≤r.atts.length:=by
 unfold za
 split
 ·exact Nat.le_refl _
 ·rename_i q hq
  split
  ·exact Nat.le_refl _
  ·split
   ·split
    ·rw [zBL]
     show (zI _ id).atts.length≤_
     rw [zDW]
     have h1:=h.say q.conn [wErr,decI id]
     rw [(zBh (rOf (rSay r q.conn [wErr,decI id]) id) _ h1 (Live.of_filter h1 _)).2.2]
     exact List.length_filter_le _ _
    ·unfold zj
     split
     ·unfold xQ;split<;>exact Nat.le_refl _
     ·unfold xQ;split<;>exact Nat.le_refl _
   ·unfold zj
    split<;>exact Nat.le_refl _
theorem zIP {N P:Nat} {r:Raw} (h:Inv N P r) {a:Att} (ha:a∈r.atts):(zR r a).atts.length+1=r.atts.length:=by
 obtain ⟨q,hq,_⟩:=h.a.areq a ha
 rw [zDV hq]
 exact (zFD h.a.apw ha).symm
theorem Inv.dueAll {N P:Nat}:∀(n:Nat) {r:Raw},Inv N P r→Inv N P (zl n r)
 | 0,r,h=>h
 | n+1,r,h=>by
   unfold zl
   split
   ·exact h
   ·rename_i a ha
    exact Inv.dueAll n (h.due1 (zBm ha))
theorem Inv.hedge1 {N P:Nat} {r:Raw} (h:Inv N P r) (a:Att):Inv N P (yU r a):=by
 unfold yU
 split
 ·exact h
 ·rename_i q hq
  split
  ·rename_i hc
   simp only [Bool.and_eq_true,Bool.not_eq_true',beq_iff_eq] at hc
   have hr:=h.n.req a.id q hq
   have h2:Inv N P {r with reqs:=aset r.reqs a.id {q with hedged:=true}}:=
    ⟨h.q.set_req hq rfl rfl,h.a.set_req hq rfl (Int.le_refl _),h.n.set_req hq hr.2.2.1 hr.2.2.2.1 hr.2.2.2.2.1 hr.2.2.2.2.2.1 hr.2.2.2.2.2.2.1 hr.2.2.2.2.2.2.2⟩
   exact h2.queue (q:={q with hedged:=true}) (by simp [zV]) hc.1.2 false
  ·exact h
theorem Inv.hedges {N P:Nat}:∀(l:List Att) {r:Raw},Inv N P r→Inv N P (l.foldl yU r)
 | [],_,h=>h
 | a::l,_,h=>Inv.hedges l (h.hedge1 a)
theorem Inv.hedge {N P:Nat} {r:Raw} (h:Inv N P r):Inv N P (yk r):=by
 unfold yk
 split
 ·exact Inv.hedges _ h
 ·exact h
theorem Inv.later {N P:Nat} {r:Raw} (h:Inv N P r):Inv (N+1) P {r with now:=r.now+1}:=by
 obtain ⟨hQ,hA,hN⟩:=h
 exact ⟨⟨hQ.kreq,hQ.kqu,hQ.krun,hQ.kcn,hQ.qne,hQ.qnd,hQ.qreq,hQ.reqq,hQ.rnd,hQ.rqu⟩,⟨hA.areq,hA.apw,hA.aseq,hA.aatt,hA.runs⟩,
  ⟨hN.cfg,⟨by have:=hN.now.1;show 0≤r.now+1;omega,by have:=hN.now.2;show r.now+1≤_;omega⟩,hN.seq0,by have:=hN.seq;show r.seq+r.waiting.length≤_;omega,Nat.le_trans hN.reqs (by omega),hN.req,fun a ha=>by have:=hN.att a ha;show 0≤a.since∧a.since≤r.now+1∧0≤a.till∧a.till≤r.now+1+20;omega,hN.pot⟩⟩
theorem Inv.tick {N P:Nat} {r:Raw} (h:Inv N P r):Inv (N+1) P (yp r):=((h.later.dueAll _).hedge).serve
theorem zDc {N P:Nat}:∀(l:List Att) (r:Raw),Inv N P r→Live l r→Inv N P (l.foldl rEnd r)∧(l.foldl rEnd r).reqs=r.reqs∧(l.foldl rEnd r).atts=r.atts.filter fun b=>!(l.any fun a=>decide (b.seq=a.seq))
 | [],r,h,_=>⟨h,rfl,(List.filter_eq_self.2 (by simp)).symm⟩
 | a::l,r,h,hl=>by
   obtain ⟨q,hq,_⟩:=h.a.areq a (hl.2 a (by simp))
   have hat:=zBg hq
   obtain ⟨h1,h2,h3⟩:=zDc (N:=N) (P:=P) l (rEnd r a) ((h.end (hl.2 a (by simp))).mono (Nat.le_refl _) (by omega)) (hl.next hat)
   refine ⟨h1,h2.trans (zAg r a),?_⟩
   show (l.foldl rEnd (rEnd r a)).atts=_
   rw [h3,hat,List.filter_filter]
   congr 1
   funext b
   simp [Bool.not_or,Bool.and_comm]
theorem Inv.closeReq {N P:Nat} {r:Raw} (h:Inv N P r) (c id:Int) {q:Req} (hq:aget r.reqs id=some q):Inv N P (zc c r id):=by
 unfold zc
 have hl:Live ((rOf r id).filter fun a=>decide (a.conn=c)) r:=by
  unfold rOf;rw [List.filter_filter];exact Live.of_filter h _
 obtain ⟨h1,h2,_⟩:=zDc _ r h hl
 exact h1.shut (q:=q) (by rw [h2];exact hq)
theorem zFL {N P:Nat} {r:Raw} (h:Inv N P r) (c:Int) {id j:Int} (hj:id≠j):aget (zc c r id).reqs j=aget r.reqs j:=by
 unfold zc
 have hl:Live ((rOf r id).filter fun a=>decide (a.conn=c)) r:=by
  unfold rOf;rw [List.filter_filter];exact Live.of_filter h _
 obtain ⟨h1,h2,_⟩:=zDc _ r h hl
 rw [zIL h1 hj,h2]
theorem Inv.closeReqs {N P:Nat} (c:Int):∀(l:List Int) {r:Raw},Inv N P r→l.Nodup→(∀id∈l,(aget r.reqs id).isSome=true)→Inv N P (l.foldl (zc c) r)
 | [],_,h,_,_=>h
 | id::l,r,h,hn,hl=>by
   obtain ⟨q,hq⟩:=Option.isSome_iff_exists.1 (hl id (by simp))
   rw [List.nodup_cons] at hn
   refine Inv.closeReqs c l (h.closeReq c id hq) hn.2 (fun j hj=>?_)
   rw [zFL h c (by rintro rfl;exact hn.1 hj)]
   exact hl j (by simp [hj])
theorem zFM (r:Raw) (id:Int):(za r id false).atts=r.atts:=by
 unfold za
 split
 ·rfl
 ·split
  ·rfl
  ·simp only [Bool.false_eq_true,if_false]
   unfold zj
   split<;>rfl
theorem Inv.closeAtts {N P:Nat}:∀(l:List Att) {r:Raw},Inv N P r→Live l r→Inv N P (l.foldl yt r)
 | [],_,h,_=>h
 | a::l,r,h,hl=>by
   have ha:=hl.2 a (by simp)
   obtain ⟨q,hq,_⟩:=h.a.areq a ha
   have:=h.three ha
   refine Inv.closeAtts l (r:=yt r a) (((h.end ha).again a.id false).mono (Nat.le_refl _) (by omega)) (hl.next ?_)
   unfold yt
   rw [zFM,zBg hq]
theorem zCT {x y:Int}:∀{l:List Int},y∈zAB x l↔y=x∨y∈l
 | []=>by simp [zAB]
 | z::l=>by
   unfold zAB
   split
   ·simp
   ·simp [zCT (l:=l)]
    constructor<;>rintro (h | h | h)<;>simp [h]
theorem zBn {y:Int}:∀{l:List Int},y∈xf l↔y∈l
 | []=>by simp [xf]
 | x::l=>by unfold xf;rw [zCT,zBn];simp
theorem zFN {x:Int}:∀{l:List Int},l.Nodup→x∉l→(zAB x l).Nodup
 | [],_,_=>by simp [zAB]
 | z::l,h,hx=>by
   unfold zAB
   split
   ·exact List.nodup_cons.2 ⟨hx,h⟩
   ·rw [List.nodup_cons] at h
    simp only [List.mem_cons,not_or] at hx
    refine List.nodup_cons.2 ⟨?_,zFN h.2 hx.2⟩
    rw [zCT]
    rintro (e | e)
    ·exact hx.1 e.symm
    ·exact h.1 e
theorem zDd:∀{l:List Int},l.Nodup→(xf l).Nodup
 | [],_=>by simp [xf]
 | x::l,h=>by
   rw [List.nodup_cons] at h
   unfold xf
   exact zFN (zDd h.2) (by rw [zBn];exact h.1)
def zm (r:Raw) (c:Int):Raw:={r with waiting:=zE r.waiting c,conns:=adel r.conns c}
def yg (r:Raw) (c:Int):List Int:=xf ((r.reqs.filter fun p=>decide (p.2.conn=c)).map Prod.fst)
theorem zBO (r:Raw) (c:Int):yl r c=yF ((yT ((yg r c).foldl (zc c) (zm r c)) c).foldl yt ((yg r c).foldl (zc c) (zm r c))):=rfl
theorem zCU {N P:Nat} {r:Raw} (h:Inv N P r) (c:Int):(yg r c).Nodup∧∀id∈yg r c,(aget r.reqs id).isSome=true:=by
 refine ⟨zDd (h.q.kreq.sublist (List.filter_sublist.map _)),fun id hid=>?_⟩
 unfold yg at hid
 rw [zBn] at hid
 obtain ⟨p,hp,rfl⟩:=List.mem_map.1 hid
 exact zBG.2 (List.mem_map.2 ⟨p,(List.mem_filter.1 hp).1,rfl⟩)
theorem Inv.close0 {N P:Nat} {r:Raw} (h:Inv N P r) (c:Int):Inv N P (zm r c):=(h.idle c).conns (zAQ h.q.kcn _)
theorem Inv.close {N P:Nat} {r:Raw} (h:Inv N P r) (c:Int):Inv N P (yl r c):=by
 rw [zBO]
 obtain ⟨h1,h2⟩:=zCU h c
 have:=Inv.closeReqs c (yg r c) (h.close0 c) h1 h2
 exact (Inv.closeAtts _ this (Live.of_filter this _)).serve
theorem Inv.init {c:Cfg} (h:zAT c=true):Inv 0 0 (rNew c):=by
 refine ⟨⟨List.nodup_nil,List.nodup_nil,List.nodup_nil,List.nodup_nil,?_,fun t=>List.nodup_nil,?_,?_,List.nodup_nil,?_⟩,⟨?_,List.Pairwise.nil,?_,?_,fun t=>rfl⟩,⟨h,⟨Int.le_refl _,Int.le_refl _⟩,Int.le_refl _,Int.le_refl _,Nat.le_refl _,?_,?_,Nat.le_refl _⟩⟩
 ·intro t l h;cases h
 ·intro t id h;cases h
 ·intro id q h;cases h
 ·intro t
  exact ⟨fun h=>(by cases h),fun h=>absurd rfl h⟩
 ·intro a h;cases h
 ·intro a h;cases h
 ·intro a h;cases h
 ·intro id q h;cases h
 ·intro a h;cases h
def tw (g:Int→zA→zA) (o:List (Int×zA)) (r:Raw):Raw:={r with conns:=amap (fun c x=>{x with rest:=g c x.rest}) r.conns,out:=o++r.out}
section
variable (g:Int→zA→zA) (o:List (Int×zA))
theorem zBo (r:Raw) (c:Int):aget (tw g o r).conns c=(aget r.conns c).map fun x=>{x with rest:=g c x.rest}:=
 zy (fun c (x:Cn)=>({x with rest:=g c x.rest}:Cn)) r.conns c
theorem zIQ (r:Raw) (c:Int):(aget (tw g o r).conns c).isSome=(aget r.conns c).isSome:=by rw [zBo];cases aget r.conns c<;>rfl
theorem xh (r:Raw) (c:Int) (ws:List zA):rSay (tw g o r) c ws=tw g o (rSay r c ws):=by
 unfold rSay tw
 simp [List.append_assoc]
theorem zFO (r:Raw) (c:Int) (x:Cn):{tw g o r with conns:=aset (tw g o r).conns c {x with rest:=g c x.rest}}=tw g o {r with conns:=aset r.conns c x}:=by
 have:=zBI (fun c (x:Cn)=>({x with rest:=g c x.rest}:Cn)) r.conns c x
 unfold tw
 simp only
 rw [←this]
theorem zFP (r:Raw) (c:Int) (h:(aget r.conns c).isSome=true):zH (tw g o r) c=tw g o (zH r c):=by
 unfold zH
 rw [zIQ,if_pos h,if_pos h]
theorem zFQ (r:Raw) (c:Int):rBye (tw g o r) c=tw g o (rBye r c):=by
 cases h:aget r.conns c with
 | none =>
   unfold rBye
   rw [zBo,h];rfl
 | some x =>
   unfold rBye
   rw [zBo,h]
   show (if x.drains&&!x.gone&&(yT r c).isEmpty then rSay _ c _ else _)=_
   simp only
   split
   ·rw [←xh,←zFO]
   ·rfl
theorem zBp (r:Raw) (a:Att):rEnd (tw g o r) a=tw g o (rEnd r a):=by
 unfold rEnd
 show (match aget r.reqs a.id with | none=>_ | some q=>_)=_
 cases aget r.reqs a.id with
 | none=>rfl
 | some q =>
   simp only
   rw [←zFQ]
   congr 1
   unfold tw zQ
   simp only
   split<;>rfl
theorem zFR (r:Raw) (a:Att):zR (tw g o r) a=tw g o (zR r a):=by
 unfold zR;rw [xh,zBp]
theorem zCV (r:Raw) (id:Int) (b:Bool):zj (tw g o r) id b=tw g o (zj r id b):=by
 unfold zj
 show (match aget r.reqs id with | none=>_ | some q=>_)=_
 cases aget r.reqs id with
 | none=>rfl
 | some q=>rfl
theorem zFS (r:Raw) (id:Int):zI (tw g o r) id=tw g o (zI r id):=by
 unfold zI
 show (match aget r.reqs id with | none=>_ | some q=>_)=_
 cases aget r.reqs id with
 | none=>rfl
 | some q =>
   show (if !q.queued then _ else if zE (qOf r q.tenant) id=[] then _ else _)=_
   simp only
   split
   ·rfl
   ·split<;>rfl
theorem zBq (f:Raw→Att→Raw) (hf:∀r a,f (tw g o r) a=tw g o (f r a)):∀(l:List Att) (r:Raw),l.foldl f (tw g o r)=tw g o (l.foldl f r)
 | [],_=>rfl
 | a::l,r=>by
   show l.foldl f (f (tw g o r) a)=_
   rw [hf,zBq f hf l];rfl
theorem zCW (r:Raw) (id:Int):yA (tw g o r) id=tw g o (yA r id):=by
 rw [zBL,zBL]
 show ({zI ((rOf r id).foldl zR (tw g o r)) id with reqs:=adel (zI ((rOf r id).foldl zR (tw g o r)) id).reqs id}:Raw)=_
 rw [zBq g o _ (zFR g o),zFS];rfl
theorem zIR (r:Raw) (id:Int):xQ (tw g o r) id=tw g o (xQ r id):=by
 unfold xQ
 show (match aget r.reqs id with | none=>_ | some q=>_)=_
 cases aget r.reqs id<;>rfl
theorem zDe (r:Raw) (id:Int) (b:Bool):za (tw g o r) id b=tw g o (za r id b):=by
 unfold za
 show (match aget r.reqs id with | none=>_ | some q=>_)=_
 cases aget r.reqs id with
 | none=>rfl
 | some q =>
   show (if q.queued||!(rOf r id).isEmpty then _ else _)=_
   simp only
   split
   ·rfl
   ·rw [xh,zCW,zIR,zCV,zCV]
    split
    ·split<;>rfl
    ·rfl
theorem zIS (r:Raw):yM (tw g o r)=tw g o (yM r):=by
 unfold yM
 show (match r.waiting,xC r with | c::ws,some t=>_ | _,_=>_)=_
 cases r.waiting with
 | nil=>rfl
 | cons c ws =>
   cases xC r with
   | none=>rfl
   | some t =>
     show (match qOf r t with | []=>_ | id::_=>_)=_
     simp only
     cases qOf r t with
     | nil=>rfl
     | cons id l =>
       show (match aget r.reqs id with | none=>_ | some q=>_)=_
       simp only
       cases aget r.reqs id with
       | none=>rfl
       | some q =>
         simp only
         rw [show ({tw g o r with waiting:=ws}:Raw)=tw g o {r with waiting:=ws} from rfl,zFS]
         generalize zI {r with waiting:=ws} id=r1
         rw [←xh]
         congr 1
         show _=tw g o _
         by_cases hq:qOf r1 t=[]
         ·rw [if_pos hq,if_pos (show qOf (tw g o r1) t=[] from hq)];rfl
         ·rw [if_neg hq,if_neg (show ¬qOf (tw g o r1) t=[] from hq)];rfl
theorem zFT:∀(n:Nat) (r:Raw),yh n (tw g o r)=tw g o (yh n r)
 | 0,_=>rfl
 | n+1,r=>by
   unfold yh
   show (if r.waiting=[]∨xC r=none then _ else _)=_
   split
   ·rfl
   ·rw [zIS,zFT n]
theorem zDf (r:Raw):yF (tw g o r)=tw g o (yF r):=zFT g o _ r
theorem zIT (r:Raw) (c:Int) (m:Msg):yI (tw g o r) c m=tw g o (yI r c m):=by
 unfold yI
 show (if (aget r.reqs m.id).isSome=true then _ else if r.cfg.bound≤((qOf r (bs m.tenant)).length:Int) then _ else _)=_
 split
 ·rw [xh]
 ·split
  ·rw [xh]
  ·rw [←zCV,←xh];rfl
theorem zIU (r:Raw) (c:Int):xk (tw g o r) c=tw g o (xk r c):=rfl
theorem zIV (r:Raw) (c:Int) (h:(aget r.conns c).isSome=true):xR (tw g o r) c=tw g o (xR r c):=by
 unfold xR
 rw [zFP g o r c h]
 simp only
 rw [zBo]
 cases hx:aget (zH r c).conns c with
 | none=>rfl
 | some x =>
   simp only [Option.map_some]
   show (if !x.drains&&!(zH r c).waiting.contains c then _ else _)=_
   split<;>rfl
theorem zIW (r:Raw) (c:Int) (h:(aget r.conns c).isSome=true):xS (tw g o r) c=tw g o (xS r c):=by
 unfold xS
 rw [zFP g o r c h]
 simp only
 rw [zBo]
 cases hx:aget (zH r c).conns c with
 | none=>rfl
 | some x =>
   simp only [Option.map_some]
   rw [←zFQ]
   congr 1
   have:=zFO g o (zH r c) c {x with drains:=true}
   show ({({tw g o (zH r c) with conns:=aset (tw g o (zH r c)).conns c {x with rest:=g c x.rest,drains:=true}}:Raw) with waiting:=zE (zH r c).waiting c}:Raw)=_
   rw [this];rfl
theorem zIX (r:Raw) (c:Int) (m:Msg) (h:(aget r.conns c).isSome=true):zY (tw g o r) c m=tw g o (zY r c m):=by
 unfold zY
 rw [zIT,zIV g o r c h,zIW g o r c h,zIU]
 split
 ·rfl
 ·split
  ·show (match aget r.reqs m.id with | some q=>_ | none=>_)=_
   cases aget r.reqs m.id with
   | none=>simp only;rw [xh]
   | some q =>
     simp only
     split
     ·rw [xh,zCW]
     ·rw [xh]
  ·split
   ·rfl
   ·split
    ·rfl
    ·split
     ·show (match rAtt r m.id m.att c,aget r.reqs m.id with | some a,some q=>_ | _,_=>_)=_
      cases rAtt r m.id m.att c with
      | none=>rfl
      | some a =>
        cases aget r.reqs m.id with
        | none=>rfl
        | some q=>simp only;rw [xh,zBp,zCW]
     ·split
      ·show (match rAtt r m.id m.att c with | some a=>_ | none=>_)=_
       cases rAtt r m.id m.att c with
       | none=>rfl
       | some a=>simp only;rw [zBp,zDe]
      ·split<;>rfl
theorem zFU (r:Raw) (c:Int) (l:zA) (h:(aget r.conns c).isSome=true):zk (tw g o r) c l=tw g o (zk r c l):=by
 unfold zk
 cases ye l with
 | none=>simp only;rw [xh]
 | some t =>
   simp only
   cases xP t with
   | none=>simp only;rw [xh]
   | some m=>simp only;rw [zIX g o r c m h,zDf]
end
def zp (r:Raw) (c:Int):Bool:=(aget r.conns c).isSome
theorem zCX {r:Raw} {c d:Int} {x:Cn} (h:zp r c=true):zp {r with conns:=aset r.conns d x} c=true:=by
 unfold zp at h ⊢
 simp only [zV]
 split
 ·rfl
 ·exact h
theorem zFV {r:Raw} {c d:Int} (h:zp r c=true):zp (zH r d) c=true:=by
 unfold zH
 split
 ·exact h
 ·exact zCX h
theorem zFW (r:Raw) (c:Int):zp (zH r c) c=true:=by
 unfold zH
 split
 ·assumption
 ·unfold zp;simp [zV]
theorem zFX {r:Raw} {c d:Int} (h:zp r c=true):zp (rBye r d) c=true:=by
 unfold rBye
 split
 ·exact h
 ·split
  ·exact zCX h
  ·exact h
theorem zDg {r:Raw} {c:Int} {a:Att} (h:zp r c=true):zp (rEnd r a) c=true:=by
 unfold rEnd
 split
 ·exact h
 ·simp only
  refine zFX ?_
  split<;>exact h
theorem zFY {c:Int} (f:Raw→Att→Raw) (hf:∀r a,zp r c=true→zp (f r a) c=true):∀(l:List Att) (r:Raw),zp r c=true→zp (l.foldl f r) c=true
 | [],_,h=>h
 | a::l,r,h=>zFY f hf l (f r a) (hf r a h)
theorem zDh (r:Raw) (id:Int):(zI r id).conns=r.conns:=by
 unfold zI
 split
 ·rfl
 ·simp only;split
  ·rfl
  ·split<;>rfl
theorem zDi (r:Raw) (id:Int) (b:Bool):(zj r id b).conns=r.conns:=by unfold zj;split<;>rfl
theorem zDj {r:Raw} {c id:Int} (h:zp r c=true):zp (yA r id) c=true:=by
 rw [zBL]
 show (aget (zI _ id).conns c).isSome=true
 rw [zDh]
 exact zFY zR (fun r a h=>zDg (r:=rSay r a.conn _) h) _ r h
theorem zIY {r:Raw} {c id:Int} {b:Bool} (h:zp r c=true):zp (za r id b) c=true:=by
 unfold za
 split
 ·exact h
 ·split
  ·exact h
  ·split
   ·split
    ·exact zDj (r:=rSay r _ _) h
    ·unfold zp;rw [zDi]
     unfold xQ
     split<;>exact h
   ·unfold zp;rw [zDi];exact h
theorem zIZ (r:Raw):(yM r).conns=r.conns:=by
 unfold yM
 split
 ·split
  ·rfl
  ·split
   ·rfl
   ·simp only
    show (if _ then _ else _:Raw).conns=_
    split
    ·exact zDh _ _
    ·exact zDh _ _
 ·rfl
theorem zFZ:∀(n:Nat) (r:Raw),(yh n r).conns=r.conns
 | 0,_=>rfl
 | n+1,r=>by
   unfold yh
   split
   ·rfl
   ·rw [zFZ n,zIZ]
theorem zIa {r:Raw} {c:Int} (h:zp r c=true):zp (yF r) c=true:=by
 unfold zp yF;rw [zFZ];exact h
theorem zIb {r:Raw} {c d:Int} {m:Msg} (h:zp r c=true):zp (zY r d m) c=true:=by
 unfold zY
 split
 ·unfold yI
  split
  ·exact h
  ·split
   ·exact h
   ·unfold zp;rw [zDi];exact h
 ·split
  ·split
   ·split
    ·exact zDj (r:=rSay r _ _) h
    ·exact h
   ·exact h
  ·split
   ·unfold xR
    have:=zFV (d:=d) h
    simp only
    split
    ·exact this
    ·split<;>exact this
   ·split
    ·exact h
    ·split
     ·split
      ·exact zDj (zDg (r:=rSay r _ _) h)
      ·exact h
     ·split
      ·split
       ·exact zIY (zDg h)
       ·exact h
      ·split
       ·unfold xS
        have:=zFV (d:=d) h
        simp only
        split
        ·exact this
        ·exact zFX (zCX this)
       ·exact h
theorem zIc {r:Raw} {c d:Int} {l:zA} (h:zp r c=true):zp (zk r d l) c=true:=by
 unfold zk
 split
 ·exact h
 ·split
  ·exact h
  ·exact zIa (zIb h)
theorem zFa (g:Int→zA→zA) (o:List (Int×zA)) (c:Int):∀(ls:List zA) (r:Raw),zp r c=true→ls.foldl (fun r l=>zk r c l) (tw g o r)=tw g o (ls.foldl (fun r l=>zk r c l) r)
 | [],_,_=>rfl
 | l::ls,r,h=>by
   show ls.foldl _ (zk (tw g o r) c l)=_
   rw [zFU g o r c l h,zFa g o c ls (zk r c l) (zIc h)];rfl
theorem zId {l:List (Int×Cn)} (f:Int→Cn→Cn) (h:∀k v,(k,v)∈l→f k v=v):amap f l=l:=by
 unfold amap
 conv=>rhs;rw [←List.map_id l]
 refine List.map_congr_left (fun p hp=>?_)
 show (p.1,f p.1 p.2)=p
 rw [h p.1 p.2 hp]
section
variable (g:Int→zA→zA) (o:List (Int×zA))
theorem zFb:∀(n:Nat) (r:Raw),zl n (tw g o r)=tw g o (zl n r)
 | 0,_=>rfl
 | n+1,r=>by
   unfold zl
   show (match rDue r with | none=>_ | some a=>_)=_
   cases rDue r with
   | none=>rfl
   | some a=>simp only;rw [zFR,zDe,zFb n]
theorem zIe (r:Raw) (a:Att):yU (tw g o r) a=tw g o (yU r a):=by
 unfold yU
 show (match aget r.reqs a.id with | none=>_ | some q=>_)=_
 cases aget r.reqs a.id with
 | none=>rfl
 | some q =>
   show (if !q.hedged&&!q.queued&&(rOf r a.id).length==1 then _ else _)=_
   simp only
   split
   ·rw [←zCV];rfl
   ·rfl
theorem zIf (r:Raw):yk (tw g o r)=tw g o (yk r):=by
 unfold yk
 show (if 0 < r.cfg.hedge then _ else _)=_
 split
 ·exact zBq g o _ (zIe g o) _ _
 ·rfl
theorem zIg (r:Raw):yp (tw g o r)=tw g o (yp r):=by
 unfold yp
 show yF (yk (zl r.atts.length (tw g o {r with now:=r.now+1})))=_
 rw [zFb,zIf,zDf]
theorem zIh (c:Int) (r:Raw) (id:Int):zc c (tw g o r) id=tw g o (zc c r id):=by
 unfold zc
 show yA (((rOf r id).filter fun a=>decide (a.conn=c)).foldl rEnd (tw g o r)) id=_
 rw [zBq g o _ (zBp g o),zCW]
theorem zFc (c:Int):∀(l:List Int) (r:Raw),l.foldl (zc c) (tw g o r)=tw g o (l.foldl (zc c) r)
 | [],_=>rfl
 | id::l,r=>by
   show l.foldl _ (zc c (tw g o r) id)=_
   rw [zIh,zFc c l];rfl
theorem zIi (r:Raw) (a:Att):yt (tw g o r) a=tw g o (yt r a):=by
 unfold yt;rw [zBp,zDe]
theorem zIj (r:Raw) (c:Int):zm (tw g o r) c=tw g o (zm r c):=by
 unfold zm tw
 simp only
 rw [zAq]
theorem zIk (r:Raw) (c:Int):yl (tw g o r) c=tw g o (yl r c):=by
 rw [zBO,zBO]
 show yF ((yT ((yg r c).foldl (zc c) (zm (tw g o r) c)) c).foldl yt ((yg r c).foldl (zc c) (zm (tw g o r) c)))=_
 rw [zIj,zFc]
 show yF ((yT ((yg r c).foldl (zc c) (zm r c)) c).foldl yt _)=_
 rw [zBq g o _ (zIi g o),zDf]
end
def gFew:Int→zA→zA:=fun _ x=>x.take 81
def Few (r:Raw):Prop:=tw gFew [] r=r
theorem Few.iff {r:Raw}:Few r↔∀c x,(c,x)∈r.conns→x.rest.length≤81:=by
 constructor
 ·intro h c x hx
  have h1:amap (fun c (x:Cn)=>({x with rest:=gFew c x.rest}:Cn)) r.conns=r.conns:=congrArg Raw.conns h
  have h2:∀(l:List (Int×Cn)),amap (fun c (x:Cn)=>({x with rest:=gFew c x.rest}:Cn)) l=l→(c,x)∈l→x.rest.length≤81:=by
   intro l
   induction l with
   | nil=>intro _ h;cases h
   | cons p l ih =>
     intro h hm
     obtain ⟨h3,h4⟩:=List.cons.inj (show (p.1,({p.2 with rest:=gFew p.1 p.2.rest}:Cn))::amap (fun c (x:Cn)=>({x with rest:=gFew c x.rest}:Cn)) l=p::l from h)
     rcases List.mem_cons.1 hm with h5 | h5
     ·subst h5
      have h6:(x.rest.take 81)=x.rest:=congrArg (fun p:Int×Cn=>p.2.rest) h3
      rw [←h6];simp;omega
     ·exact ih h4 h5
  exact h2 r.conns h1 hx
 ·intro h
  show tw gFew [] r=r
  have:amap (fun c (x:Cn)=>({x with rest:=gFew c x.rest}:Cn)) r.conns=r.conns:=zId _ (fun k v hv=>by
   have:=h k v hv
   show ({v with rest:=v.rest.take 81}:Cn)=v
   rw [List.take_of_length_le (by omega)])
  unfold tw
  rw [this]
  rfl
theorem Few.rest {r:Raw} (h:Few r) (c:Int):(yr r c).length≤81:=by
 unfold yr
 split
 ·simp
 ·rename_i x hx
  exact Few.iff.1 h c x (yQ hx)
theorem Few.init (c:Cfg):Few (rNew c):=rfl
theorem Few.conn {r:Raw} (h:Few r) (c:Int):Few (zH r c):=by
 unfold zH
 split
 ·exact h
 ·rw [Few.iff]
  intro d x hx
  rcases zAR hx with h1 | h1
  ·exact Few.iff.1 h d x h1
  ·rw [h1.2];simp
theorem Few.line {r:Raw} (h:Few r) (c:Int) (l:zA) (hc:zp r c=true):Few (zk r c l):=by
 show tw gFew [] (zk r c l)=zk r c l
 rw [←zFU gFew [] r c l hc]
 rw [show tw gFew [] r=r from h]
theorem Few.lines {r:Raw} (h:Few r) (c:Int) (ls:List zA) (hc:zp r c=true):Few (ls.foldl (fun r l=>zk r c l) r):=by
 show tw gFew [] _=_
 rw [←zFa gFew [] c ls r hc]
 rw [show tw gFew [] r=r from h]
theorem Few.put {r:Raw} (h:Few r) (c:Int) {b:zA} (hb:b.length≤81):Few (xl r c b):=by
 unfold xl
 split
 ·exact h
 ·rw [Few.iff]
  intro d x hx
  rcases zAR hx with h1 | h1
  ·exact Few.iff.1 h d x h1
  ·rw [h1.2];exact hb
theorem zCY:∀(l rest:zA),rest.length≤81→(∀a∈(zL rest l).1,a.length≤81)∧(zL rest l).2.length≤81
 | [],rest,h=>by
   refine ⟨fun a ha=>?_,h⟩
   simp [zL] at ha
 | x::l,rest,h=>by
   unfold zL
   split
   ·obtain ⟨h1,h2⟩:=zCY l [] (by simp)
    refine ⟨fun a ha=>?_,h2⟩
    rcases List.mem_cons.1 ha with rfl | ha
    ·exact h
    ·exact h1 a ha
   ·refine zCY l _ ?_
    split
    ·simp;omega
    ·exact h
theorem Few.feed {r:Raw} (h:Few r) (c:Int) (b:zA):Few (yN r c b):=by
 have h1:=h.conn c
 have h2:=(zCY b (yr (zH r c) c) (h1.rest c)).2
 unfold yN
 refine (h1.put c h2).lines c _ ?_
 unfold xl
 split
 ·exact zFW r c
 ·exact zCX (zFW r c)
theorem Few.told {r:Raw} (h:Few r):Few (xe r):=Few.iff.2 (fun c x hx=>Few.iff.1 h c x hx)
theorem Few.tick {r:Raw} (h:Few r):Few (yp r):=by
 show tw gFew [] (yp r)=yp r
 rw [←zIg,show tw gFew [] r=r from h]
theorem Few.close {r:Raw} (h:Few r) (c:Int):Few (yl r c):=by
 show tw gFew [] (yl r c)=yl r c
 rw [←zIk,show tw gFew [] r=r from h]
theorem zIl {l:zA} {m:Msg} (h:xP l=some m):m.kind=kSub∨m.kind=kCan∨m.kind=xM∨m.kind=xN∨m.kind=yE∨m.kind=xB∨m.kind=xO:=by
 unfold xP at h
 split at h
 ·split at h
  ·rename_i k hk
   cases h
   rcases hk with rfl | rfl | rfl<;>simp
  ·cases h
 ·split at h
  ·rename_i hk
   simp only [Option.map_eq_some_iff] at h
   obtain ⟨i,hi,rfl⟩:=h
   simp [hk]
  ·cases h
 ·split at h
  ·rename_i hk
   simp only [Option.bind_eq_some_iff,Option.map_eq_some_iff] at h
   obtain ⟨i,hi,n,hn,rfl⟩:=h
   simp [hk]
  ·cases h
 ·split at h
  ·rename_i hk
   simp only [Option.bind_eq_some_iff] at h
   obtain ⟨i,hi,n,hn,h⟩:=h
   split at h
   ·cases h;simp [hk]
   ·cases h
  ·split at h
   ·rename_i hk
    simp only [Option.bind_eq_some_iff] at h
    obtain ⟨i,hi,h⟩:=h
    split at h
    ·cases h;simp [hk]
    ·cases h
   ·cases h
 ·cases h
end Go.Proofs.YtaejfobbogahmaaGreatDoor
