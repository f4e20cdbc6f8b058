/-
  Pure Inv Inv2 Inv3 Inv4 Inv5 Shift Rest: texts of their own, joined.
-/
import Derived.Test.YtaejfobbogahmaaGreatDoorMkBase
import Derived.Lib.RuneCount
import Derived.Lib.ValidU
set_option maxRecDepth 100000
set_option maxHeartbeats 16000000
set_option linter.all false
namespace Go.Proofs.YtaejfobbogahmaaGreatDoor
open Go
abbrev Bytes:=List UInt8
def bs (l:Bytes):ByteArray:=⟨l.toArray⟩
def decF:Nat→Nat→Bytes
 | 0,n=>[UInt8.ofNat (48+n % 10)]
 | f+1,n=>if n < 10 then [UInt8.ofNat (48+n)] else decF f (n / 10)++[UInt8.ofNat (48+n % 10)]
def dec (n:Nat):Bytes:=decF 20 n
def decI (n:Int):Bytes:=if n < 0 then 45::dec n.natAbs else dec n.toNat
def zFo (s:UInt8×UInt8×UInt8×UInt8) (i:Nat) (c:UInt8):UInt8×UInt8×UInt8×UInt8:=
 match i % 4 with
 | 0=>(s.1*3+c,s.2.1,s.2.2.1,s.2.2.2)
 | 1=>(s.1,s.2.1*3+c,s.2.2.1,s.2.2.2)
 | 2=>(s.1,s.2.1,s.2.2.1*3+c,s.2.2.2)
 | _=>(s.1,s.2.1,s.2.2.1,s.2.2.2*3+c)
def zIf:Bytes→Nat→UInt8×UInt8×UInt8×UInt8→UInt8×UInt8×UInt8×UInt8
 | [],_,s=>s
 | c::l,i,s=>zIf l (i+1) (zFo s i c)
def sumOf (l:Bytes):UInt8×UInt8×UInt8×UInt8:=zIf l 0 (0,0,0,0)
def hexD (n:UInt8):UInt8:=if n < 10 then 48+n else 87+n
def hex2 (c:UInt8):Bytes:=[hexD (c / 16),hexD (c % 16)]
def zEp (l:Bytes):Bytes:=hex2 (sumOf l).1++hex2 (sumOf l).2.1++hex2 (sumOf l).2.2.1++hex2 (sumOf l).2.2.2
def sealL (l:Bytes):Bytes:=l++32::zEp l
def zBG (l:Bytes):Option Bytes:=
 if l.length < 9∨80 < l.length then none
 else if sealL (l.take (l.length - 9))=l then some (l.take (l.length - 9)) else none
def cut (c:UInt8):Bytes→List Bytes
 | []=>[[]]
 | x::l=>if x=c then []::cut c l else match cut c l with | []=>[[x]] | a::r=>(x::a)::r
def zBi (s:ByteArray):Nat→Nat→List Nat
 | 0,_=>[]
 | f+1,pos=>if pos < s.size then (Utf8.decode s pos).1::zBi s f (pos+(Utf8.decode s pos).2) else []
def zAK (c:Nat):Bool:=decide (97≤c)&&decide (c≤122)||decide (945≤c)&&decide (c≤969)
def zAN (c:Nat):Bool:=decide (32 < c)&&decide (c≤126)||decide (161≤c)&&decide (c≤65535)
def zCG (l:Bytes) (most:Nat) (p:Nat→Bool):Bool:=Lib.validD l&&!l.isEmpty&&decide (Lib.runeCount (bs l)≤most)&&(zBi (bs l) l.length 0).all p
def zER (l:Bytes):Bool:=zCG l 6 zAK
def zEC (l:Bytes):Bool:=zCG l 12 zAN
def zBr:Bytes→Nat→Option Nat
 | [],n=>some n
 | c::l,n=>if 48≤c∧c≤57 then zBr l (10*n+(c.toNat - 48)) else none
def zAr (l:Bytes):Option Nat:=
 if l.length < 1∨6 < l.length then none
 else if 1 < l.length∧l.head?=some 48 then none else zBr l 0
structure Msg where
 kind:Bytes
 id:Int
 att:Int
 tenant:Bytes
 text:Bytes
def kSub:Bytes:=[115,117,98]
def kCan:Bytes:=[99,97,110]
def kPull:Bytes:=[112,117,108,108]
def kBeat:Bytes:=[98,101,97,116]
def kDone:Bytes:=[100,111,110,101]
def kFail:Bytes:=[102,97,105,108]
def zCZ:Bytes:=[100,114,97,105,110]
def zAo (l:Bytes):Option Msg:=
 match cut 32 l with
 | [k]=>if k=kPull∨k=kBeat∨k=zCZ then some ⟨k,0,0,[],[]⟩ else none
 | [k,a]=>if k=kCan then (zAr a).map fun i=>⟨k,i,0,[],[]⟩ else none
 | [k,a,b]=>if k=kFail then (zAr a).bind fun i=>(zAr b).map fun n=>⟨k,i,n,[],[]⟩ else none
 | [k,a,b,c] =>
   if k=kDone then (zAr a).bind fun i=>(zAr b).bind fun n=>if zEC c then some ⟨k,i,n,[],c⟩ else none
   else if k=kSub then (zAr a).bind fun i=>if zER b&&zEC c then some ⟨k,i,0,b,c⟩ else none
   else none
 | _=>none
structure Cfg where
 lease:Int
 retries:Int
 cap:Int
 bound:Int
 hedge:Int
structure Req where
 conn:Int
 tenant:ByteArray
 text:ByteArray
 attempts:Int
 left:Int
 hedged:Bool
 queued:Bool
structure Cn where
 rest:Bytes
 drains:Bool
 gone:Bool
structure Att where
 id:Int
 att:Int
 conn:Int
 since:Int
 till:Int
 seq:Int
structure Raw where
 cfg:Cfg
 now:Int
 reqs:List (Int×Req)
 conns:List (Int×Cn)
 queues:List (ByteArray×List Int)
 runs:List (ByteArray×Int)
 ring:List ByteArray
 waiting:List Int
 atts:List Att
 seq:Int
 out:List (Int×Bytes)
def cfgOk (c:Cfg):Bool:=1≤c.lease&&c.lease≤20&&0≤c.retries&&c.retries≤5&&1≤c.cap&&c.cap≤5&&1≤c.bound&&c.bound≤8&&0≤c.hedge&&c.hedge≤20
def rNew (c:Cfg):Raw:=⟨c,0,[],[],[],[],[],[],[],0,[]⟩
def words:List Bytes→Bytes
 | []=>[]
 | [a]=>a
 | a::l=>a++32::words l
def rSay (r:Raw) (c:Int) (ws:List Bytes):Raw:={r with out:=r.out++[(c,sealL (words ws))]}
def rConn (r:Raw) (c:Int):Raw:=if (aget r.conns c).isSome then r else {r with conns:=aset r.conns c ⟨[],false,false⟩}
def zAH {α:Type} [DecidableEq α] (l:List α) (x:α):List α:=l.filter fun y=>!decide (y=x)
def rOf (r:Raw) (id:Int):List Att:=r.atts.filter fun a=>decide (a.id=id)
def rHeld (r:Raw) (c:Int):List Att:=r.atts.filter fun a=>decide (a.conn=c)
def qOf (r:Raw) (t:ByteArray):List Int:=(aget r.queues t).getD []
def zAk (r:Raw) (t:ByteArray):Int:=(aget r.runs t).getD 0
def zAz (r:Raw) (id:Int) (first:Bool):Raw:=
 match aget r.reqs id with
 | none=>r
 | some q =>
   {r with reqs:=aset r.reqs id {q with queued:=true},
           ring:=if qOf r q.tenant=[] then r.ring++[q.tenant] else r.ring,
           queues:=aset r.queues q.tenant (if first then id::qOf r q.tenant else qOf r q.tenant++[id])}
def zAJ (r:Raw) (id:Int):Raw:=
 match aget r.reqs id with
 | none=>r
 | some q =>
   if !q.queued then r else
   let l:=zAH (qOf r q.tenant) id
   if l=[] then {r with reqs:=aset r.reqs id {q with queued:=false},queues:=adel r.queues q.tenant,ring:=zAH r.ring q.tenant}
   else {r with reqs:=aset r.reqs id {q with queued:=false},queues:=aset r.queues q.tenant l}
def rBye (r:Raw) (c:Int):Raw:=
 match aget r.conns c with
 | none=>r
 | some x=>if x.drains&&!x.gone&&(rHeld r c).isEmpty then rSay {r with conns:=aset r.conns c {x with gone:=true}} c [[98,121,101]] else r
def rEnd (r:Raw) (a:Att):Raw:=
 match aget r.reqs a.id with
 | none=>r
 | some q =>
   let r1:={r with atts:=r.atts.filter fun b=>!decide (b.seq=a.seq),runs:=aset r.runs q.tenant (zAk r q.tenant - 1)}
   let r2:=if zAk r1 q.tenant=0 then {r1 with runs:=adel r1.runs q.tenant} else r1
   rBye r2 a.conn
def wStop:Bytes:=[115,116,111,112]
def wRun:Bytes:=[114,117,110]
def wErr:Bytes:=[101,114,114]
def wVal:Bytes:=[118,97,108]
def wAcc:Bytes:=[97,99,99]
def wRej:Bytes:=[114,101,106]
def wDup:Bytes:=[100,117,112]
def wFull:Bytes:=[102,117,108,108]
def wNone:Bytes:=[110,111,110,101]
def wGone:Bytes:=[103,111,110,101]
def wBad:Bytes:=[98,97,100]
def rStop (r:Raw) (a:Att):Raw:=rEnd (rSay r a.conn [wStop,decI a.id,decI a.att]) a
def rShut (r:Raw) (id:Int):Raw:=
 let r1:=zAJ ((rOf r id).foldl rStop r) id
 {r1 with reqs:=adel r1.reqs id}
def rLeft (r:Raw) (id:Int):Raw:=
 match aget r.reqs id with
 | none=>r
 | some q=>{r with reqs:=aset r.reqs id {q with left:=q.left - 1}}
def zAw (r:Raw) (id:Int) (counts:Bool):Raw:=
 match aget r.reqs id with
 | none=>r
 | some q =>
   if q.queued||!(rOf r id).isEmpty then r
   else if counts then (if q.left=0 then rShut (rSay r q.conn [wErr,decI id]) id else zAz (rLeft r id) id true)
   else zAz r id true
def zCN (r:Raw):Option ByteArray:=r.ring.find? fun t=>decide (zAk r t < r.cfg.cap)
def zBg (r:Raw):Raw:=
 match r.waiting,zCN r with
 | c::ws,some t =>
   match qOf r t with
   | []=>r
   | id::_ =>
     match aget r.reqs id with
     | none=>r
     | some q =>
       let r1:=zAJ {r with waiting:=ws} id
       let r2:=if qOf r1 t=[] then r1 else {r1 with ring:=zAH r1.ring t++[t]}
       let n:=q.attempts+1
       let r3:={r2 with reqs:=match aget r2.reqs id with | none=>r2.reqs | some q2=>aset r2.reqs id {q2 with attempts:=n},
                        runs:=aset r2.runs t (zAk r2 t+1),seq:=r2.seq+1,
                        atts:=r2.atts++[⟨id,n,c,r2.now,r2.now+r2.cfg.lease,r2.seq+1⟩]}
       rSay r3 c [wRun,decI id,decI n,t.data.toList,q.text.data.toList]
 | _,_=>r
def zBl:Nat→Raw→Raw
 | 0,r=>r
 | n+1,r=>if r.waiting=[]∨zCN r=none then r else zBl n (zBg r)
def zBe (r:Raw):Raw:=zBl r.waiting.length r
def zBH (r:Raw) (c:Int) (m:Msg):Raw:=
 if (aget r.reqs m.id).isSome then rSay r c [wRej,decI m.id,wDup]
 else if r.cfg.bound≤(qOf r (bs m.tenant)).length then rSay r c [wRej,decI m.id,wFull]
 else zAz (rSay {r with reqs:=aset r.reqs m.id ⟨c,bs m.tenant,bs m.text,0,r.cfg.retries,false,false⟩} c [wAcc,decI m.id]) m.id false
def rBeat (r:Raw) (c:Int):Raw:={r with atts:=r.atts.map fun a=>if a.conn=c then {a with till:=r.now+r.cfg.lease} else a}
def rAtt (r:Raw) (id att c:Int):Option Att:=(rOf r id).find? fun a=>decide (a.att=att)&&decide (a.conn=c)
def rPull (r:Raw) (c:Int):Raw:=
 let r1:=rConn r c
 match aget r1.conns c with
 | none=>r1
 | some x=>if !x.drains&&!r1.waiting.contains c then {r1 with waiting:=r1.waiting++[c]} else r1
def zEq (r:Raw) (c:Int):Raw:=
 let r1:=rConn r c
 match aget r1.conns c with
 | none=>r1
 | some x=>rBye {r1 with conns:=aset r1.conns c {x with drains:=true},waiting:=zAH r1.waiting c} c
def zAQ (r:Raw) (c:Int) (m:Msg):Raw:=
 if m.kind=kSub then zBH r c m
 else if m.kind=kCan then
  match aget r.reqs m.id with
  | some q=>if q.conn=c then rShut (rSay r c [wGone,decI m.id]) m.id else rSay r c [wNone,decI m.id]
  | none=>rSay r c [wNone,decI m.id]
 else if m.kind=kPull then rPull r c
 else if m.kind=kBeat then rBeat r c
 else if m.kind=kDone then
  match rAtt r m.id m.att c,aget r.reqs m.id with
  | some a,some q=>rShut (rEnd (rSay r q.conn [wVal,decI m.id,m.text]) a) m.id
  | _,_=>r
 else if m.kind=kFail then
  match rAtt r m.id m.att c with
  | some a=>zAw (rEnd r a) m.id true
  | none=>r
 else if m.kind=zCZ then zEq r c
 else r
def rLine (r:Raw) (c:Int) (line:Bytes):Raw:=
 match zBG line with
 | none=>rSay r c [wBad]
 | some t=>match zAo t with
   | none=>rSay r c [wBad]
   | some m=>zBe (zAQ r c m)
def zAT:Bytes→Bytes→List Bytes×Bytes
 | rest,[]=>([],rest)
 | rest,x::l=>if x=10 then (let p:=zAT [] l;(rest::p.1,p.2)) else zAT (if rest.length≤80 then rest++[x] else rest) l
def rRest (r:Raw) (c:Int) (b:Bytes):Raw:=
 match aget r.conns c with
 | none=>r
 | some x=>{r with conns:=aset r.conns c {x with rest:=b}}
def zBA (r:Raw) (c:Int):Bytes:=match aget r.conns c with | none=>[] | some x=>x.rest
def rTold (r:Raw):Raw:={r with out:=[]}
def rFeed (r:Raw) (c:Int) (b:Bytes):Raw:=
 let r1:=rConn r c
 let p:=zAT (zBA r1 c) b
 p.1.foldl (fun r l=>rLine r c l) (rRest r1 c p.2)
def zBS (a b:Att):Bool:=decide (a.till < b.till)||(decide (a.till=b.till)&&decide (a.seq < b.seq))
def least:List Att→Option Att
 | []=>none
 | a::l=>match least l with | none=>some a | some b=>if zBS b a then some b else some a
def rDue (r:Raw):Option Att:=match least r.atts with | none=>none | some a=>if a.till≤r.now then some a else none
def zBB:Nat→Raw→Raw
 | 0,r=>r
 | n+1,r=>match rDue r with | none=>r | some a=>zBB n (zAw (rStop r a) a.id true)
def zAq (r:Raw) (a:Att):Raw:=
 match aget r.reqs a.id with
 | none=>r
 | some q=>if !q.hedged&&!q.queued&&(rOf r a.id).length==1 then zAz {r with reqs:=aset r.reqs a.id {q with hedged:=true}} a.id false else r
def zCS (r:Raw):Raw:=if 0 < r.cfg.hedge then (r.atts.filter fun a=>decide (r.cfg.hedge≤r.now - a.since)).foldl zAq r else r
def rTick (r:Raw):Raw:=
 let r1:={r with now:=r.now+1}
 zBe (zCS (zBB r1.atts.length r1))
def zDw (l:List (ByteArray×List Int)):Nat:=(l.map fun p=>p.2.length).sum
def tenOf (r:Raw) (id:Int):Option ByteArray:=(aget r.reqs id).map (·.tenant)
def cntOf (r:Raw) (t:ByteArray):Nat:=r.atts.countP fun a=>decide (tenOf r a.id=some t)
structure InvQ (r:Raw):Prop where
 kreq:(r.reqs.map Prod.fst).Nodup
 kqu:(r.queues.map Prod.fst).Nodup
 krun:(r.runs.map Prod.fst).Nodup
 kcn:(r.conns.map Prod.fst).Nodup
 qne:∀t l,aget r.queues t=some l→l≠[]
 qnd:∀t,(qOf r t).Nodup
 qreq:∀t id,id∈qOf r t→∃q,aget r.reqs id=some q∧q.tenant=t∧q.queued=true
 reqq:∀id q,aget r.reqs id=some q→q.queued=true→id∈qOf r q.tenant
 rnd:r.ring.Nodup
 rqu:∀t,t∈r.ring↔qOf r t≠[]
structure InvA (r:Raw):Prop where
 areq:∀a∈r.atts,∃q,aget r.reqs a.id=some q∧1≤a.att∧a.att≤q.attempts
 apw:r.atts.Pairwise (fun a b=>a.seq < b.seq)
 aseq:∀a∈r.atts,a.seq≤r.seq
 aatt:∀a∈r.atts,∀b∈r.atts,a.id=b.id→a.att=b.att→a=b
 runs:∀t,zAk r t=cntOf r t
structure InvN (N P:Nat) (r:Raw):Prop where
 cfg:cfgOk r.cfg=true
 now:0≤r.now∧r.now≤N
 seq0:0≤r.seq
 seq:r.seq+r.waiting.length≤N
 reqs:r.reqs.length≤N
 req:∀id q,aget r.reqs id=some q→0≤id∧id≤999999∧0≤q.attempts∧q.attempts≤r.seq∧0≤q.left∧q.left≤5∧q.tenant.size≤80∧q.text.size≤80
 att:∀a∈r.atts,0≤a.since∧a.since≤r.now∧0≤a.till∧a.till≤r.now+20
 pot:r.out.length+3*r.atts.length+4*r.waiting.length≤P
structure Inv (N P:Nat) (r:Raw):Prop where
 q:InvQ r
 a:InvA r
 n:InvN N P r
theorem zGL (r:Raw) (t s:ByteArray) (l:List Int):qOf {r with queues:=aset r.queues t l} s=if t=s then l else qOf r s:=by
 unfold qOf
 simp only [zAS]
 split<;>rfl
theorem zKw (r:Raw) (t s:ByteArray) (h:(r.queues.map Prod.fst).Nodup):qOf {r with queues:=adel r.queues t} s=if t=s then [] else qOf r s:=by
 unfold qOf
 simp only [zEn _ _ _ h]
 split<;>rfl
theorem zPC {r:Raw} {t:ByteArray} {l:List Int} (h:aget r.queues t=some l):qOf r t=l:=by unfold qOf;rw [h];rfl
theorem zLz {r r':Raw} (h:r'.queues=r.queues) (t:ByteArray):qOf r' t=qOf r t:=by unfold qOf;rw [h]
theorem zHE {r:Raw} {id:Int} {q:Req} (h:aget r.reqs id=some q):tenOf r id=some q.tenant:=by unfold tenOf;rw [h];rfl
theorem zKC {r:Raw} {id:Int} {q q':Req} (h:aget r.reqs id=some q) (ht:q'.tenant=q.tenant) (j:Int):tenOf {r with reqs:=aset r.reqs id q'} j=tenOf r j:=by
 unfold tenOf
 simp only [zAS]
 split
 ·rename_i e;subst e;rw [h];simp [ht]
 ·rfl
theorem zIg {r r':Raw} (ha:r'.atts=r.atts) (ht:∀j,tenOf r' j=tenOf r j) (t:ByteArray):cntOf r' t=cntOf r t:=by
 unfold cntOf
 rw [ha]
 exact congrArg (fun p=>List.countP p r.atts) (funext fun a=>by rw [ht])
theorem zCl {α:Type} [DecidableEq α] {l:List α} {x y:α}:y∈zAH l x↔y∈l∧y≠x:=by
 unfold zAH
 rw [List.mem_filter]
 simp
theorem zES {α:Type} [DecidableEq α] {l:List α} (h:l.Nodup) (x:α):(zAH l x).Nodup:=h.sublist List.filter_sublist
theorem zNl {α:Type} [DecidableEq α] {l:List α} {x:α} (h:x∉l):zAH l x=l:=by
 unfold zAH
 rw [List.filter_eq_self]
 intro y hy
 simp
 intro e;subst e;exact h hy
theorem zIh {α:Type} [DecidableEq α] (l:List α) (x:α):(zAH l x).length≤l.length:=List.length_filter_le _ _
theorem zGM {r:Raw} {id:Int} {q q':Req} (h:aget r.reqs id=some q):(aset r.reqs id q').length=r.reqs.length:=zCQ h q'
theorem InvQ.set_req {r:Raw} (h:InvQ r) {id:Int} {q q':Req} (hq:aget r.reqs id=some q) (ht:q'.tenant=q.tenant) (hd:q'.queued=q.queued):InvQ {r with reqs:=aset r.reqs id q'}:=by
 refine ⟨zAc h.kreq _ _,h.kqu,h.krun,h.kcn,h.qne,h.qnd,?_,?_,h.rnd,h.rqu⟩
 ·intro t i hi
  obtain ⟨p,h1,h2,h3⟩:=h.qreq t i hi
  simp only [zAS]
  by_cases e:id=i
  ·subst e
   rw [hq] at h1;cases h1
   exact ⟨q',by simp,ht.trans h2,hd.trans h3⟩
  ·exact ⟨p,by simp [e,h1],h2,h3⟩
 ·intro i p hp hpq
  simp only [zAS] at hp
  by_cases e:id=i
  ·subst e
   simp at hp;subst hp
   rw [ht]
   exact h.reqq _ q hq (hd ▸ hpq)
  ·simp [e] at hp
   exact h.reqq i p hp hpq
theorem InvA.set_req {r:Raw} (h:InvA r) {id:Int} {q q':Req} (hq:aget r.reqs id=some q) (ht:q'.tenant=q.tenant) (hd:q.attempts≤q'.attempts):InvA {r with reqs:=aset r.reqs id q'}:=by
 refine ⟨?_,h.apw,h.aseq,h.aatt,fun t=>?_⟩
 ·intro a ha
  obtain ⟨p,h1,h2,h3⟩:=h.areq a ha
  simp only [zAS]
  by_cases e:id=a.id
  ·rw [←e] at h1
   rw [hq] at h1;cases h1
   exact ⟨q',by simp [e],h2,by omega⟩
  ·exact ⟨p,by simp [e,h1],h2,h3⟩
 ·have:=zIg (r:=r) (r':={r with reqs:=aset r.reqs id q'}) rfl (zKC hq ht) t
  rw [this]
  exact h.runs t
theorem InvN.set_req {N P:Nat} {r:Raw} (h:InvN N P r) {id:Int} {q q':Req} (hq:aget r.reqs id=some q) (h1:0≤q'.attempts) (h2:q'.attempts≤r.seq) (h3:0≤q'.left) (h4:q'.left≤5) (h5:q'.tenant.size≤80) (h6:q'.text.size≤80):InvN N P {r with reqs:=aset r.reqs id q'}:=by
 refine ⟨h.cfg,h.now,h.seq0,h.seq,by show (aset r.reqs id q').length≤N;rw [zGM hq];exact h.reqs,?_,h.att,h.pot⟩
 intro i p hp
 simp only [zAS] at hp
 by_cases e:id=i
 ·subst e
  simp at hp;subst hp
  have:=h.req id q hq
  exact ⟨this.1,this.2.1,h1,h2,h3,h4,h5,h6⟩
 ·simp [e] at hp
  exact h.req i p hp
theorem zRR {r:Raw} {id:Int} {q:Req} (h:aget r.reqs id=some q) (first:Bool):zAz r id first =
 {r with reqs:=aset r.reqs id {q with queued:=true},ring:=if qOf r q.tenant=[] then r.ring++[q.tenant] else r.ring,queues:=aset r.queues q.tenant (if first then id::qOf r q.tenant else qOf r q.tenant++[id])}:=by
 unfold zAz;rw [h]
theorem Inv.queue {N P:Nat} {r:Raw} (h:Inv N P r) {id:Int} {q:Req} (hq:aget r.reqs id=some q) (hn:q.queued=false) (first:Bool):Inv N P (zAz r id first):=by
 obtain ⟨hQ,hA,hN⟩:=h
 rw [zRR hq]
 have hid:id∉qOf r q.tenant:=fun hi=>by
  obtain ⟨p,h1,h2,h3⟩:=hQ.qreq _ _ hi
  rw [hq] at h1;cases h1
  rw [hn] at h3;cases h3
 obtain ⟨l,hl⟩:∃l,l=(if first then id::qOf r q.tenant else qOf r q.tenant++[id]):=⟨_,rfl⟩
 rw [←hl]
 have hlm:∀x,x∈l↔x=id∨x∈qOf r q.tenant:=fun x=>by
  rw [hl];cases first<;>simp [or_comm]
 have hlnd:l.Nodup:=by
  rw [hl]
  cases first
  ·simp only [Bool.false_eq_true,if_false]
   rw [List.nodup_append]
   exact ⟨hQ.qnd _,by simp,fun a ha b hb=>by simp at hb;subst hb;exact fun e=>hid (e ▸ ha)⟩
  ·simp only [if_true,List.nodup_cons]
   exact ⟨hid,hQ.qnd _⟩
 have hln:l≠[]:=fun e=>by have:=(hlm id).2 (.inl rfl);rw [e] at this;cases this
 have hqo:∀s,qOf {r with reqs:=aset r.reqs id {q with queued:=true},ring:=if qOf r q.tenant=[] then r.ring++[q.tenant] else r.ring,queues:=aset r.queues q.tenant l} s=if q.tenant=s then l else qOf r s:=fun s=>zGL r q.tenant s l
 refine ⟨⟨zAc hQ.kreq _ _,zAc hQ.kqu _ _,hQ.krun,hQ.kcn,?_,?_,?_,?_,?_,?_⟩,?_,?_⟩
 ·intro t m hm
  simp only [zAS] at hm
  split at hm
  ·cases hm;exact hln
  ·exact hQ.qne t m hm
 ·intro t
  rw [hqo]
  split
  ·exact hlnd
  ·exact hQ.qnd t
 ·intro t i hi
  rw [hqo] at hi
  simp only [zAS]
  by_cases e:q.tenant=t
  ·rw [if_pos e] at hi
   by_cases e2:id=i
   ·exact ⟨{q with queued:=true},by simp [e2],e,rfl⟩
   ·rw [if_neg e2]
    rcases (hlm i).1 hi with h1 | h1
    ·exact absurd h1.symm e2
    ·rw [e] at h1;exact hQ.qreq t i h1
  ·rw [if_neg e] at hi
   obtain ⟨p,h1,h2,h3⟩:=hQ.qreq t i hi
   by_cases e2:id=i
   ·subst e2
    rw [hq] at h1;cases h1
    exact absurd h2 e
   ·exact ⟨p,by simp [e2,h1],h2,h3⟩
 ·intro i p hp hpq
  simp only [zAS] at hp
  rw [hqo]
  by_cases e2:id=i
  ·rw [if_pos e2] at hp;cases hp
   simp only [if_true]
   exact (hlm i).2 (.inl e2.symm)
  ·rw [if_neg e2] at hp
   have:=hQ.reqq i p hp hpq
   by_cases e:q.tenant=p.tenant
   ·rw [if_pos e];exact (hlm i).2 (.inr (e ▸ this))
   ·rw [if_neg e];exact this
 ·show (if qOf r q.tenant=[] then r.ring++[q.tenant] else r.ring).Nodup
  split
  ·rename_i e
   rw [List.nodup_append]
   exact ⟨hQ.rnd,by simp,fun a ha b hb=>by simp at hb;subst hb;intro e2;subst e2;exact (hQ.rqu _).1 ha e⟩
  ·exact hQ.rnd
 ·intro t
  rw [hqo]
  show t∈(if qOf r q.tenant=[] then r.ring++[q.tenant] else r.ring)↔_
  by_cases e:q.tenant=t
  ·subst e
   rw [if_pos rfl]
   refine ⟨fun _=>hln,fun _=>?_⟩
   split
   ·simp
   ·rename_i e2;exact (hQ.rqu _).2 e2
  ·rw [if_neg e,←hQ.rqu t]
   split
   ·simp [Ne.symm e]
   ·rfl
 ·have h1:=hA.set_req hq (q':={q with queued:=true}) rfl (Int.le_refl _)
  exact ⟨h1.areq,h1.apw,h1.aseq,h1.aatt,h1.runs⟩
 ·have hr:=hN.req id q hq
  have h1:=hN.set_req hq (q':={q with queued:=true}) hr.2.2.1 hr.2.2.2.1 hr.2.2.2.2.1 hr.2.2.2.2.2.1 hr.2.2.2.2.2.2.1 hr.2.2.2.2.2.2.2
  exact ⟨h1.cfg,h1.now,h1.seq0,h1.seq,h1.reqs,h1.req,h1.att,h1.pot⟩
theorem zEr {r:Raw} {id:Int} {q:Req} (h:aget r.reqs id=some q) (hn:q.queued=false):zAJ r id=r:=by
 unfold zAJ;rw [h];simp [hn]
theorem zDH {r:Raw} {id:Int} {q:Req} (h:aget r.reqs id=some q) (hn:q.queued=true) (hl:zAH (qOf r q.tenant) id=[]):zAJ r id =
 {r with reqs:=aset r.reqs id {q with queued:=false},queues:=adel r.queues q.tenant,ring:=zAH r.ring q.tenant}:=by
 unfold zAJ;rw [h];simp [hn,hl]
theorem zDI {r:Raw} {id:Int} {q:Req} (h:aget r.reqs id=some q) (hn:q.queued=true) (hl:zAH (qOf r q.tenant) id≠[]):zAJ r id =
 {r with reqs:=aset r.reqs id {q with queued:=false},queues:=aset r.queues q.tenant (zAH (qOf r q.tenant) id)}:=by
 unfold zAJ;rw [h];simp [hn,hl]
theorem Inv.unqueue {N P:Nat} {r:Raw} (h:Inv N P r) (id:Int):Inv N P (zAJ r id):=by
 cases hq:aget r.reqs id with
 | none=>unfold zAJ;rw [hq];exact h
 | some q =>
   cases hn:q.queued with
   | false=>rw [zEr hq hn];exact h
   | true =>
     obtain ⟨hQ,hA,hN⟩:=h
     have hid:=hQ.reqq id q hq hn
     have hA1:=hA.set_req hq (q':={q with queued:=false}) rfl (Int.le_refl _)
     have hr:=hN.req id q hq
     have hN1:=hN.set_req hq (q':={q with queued:=false}) hr.2.2.1 hr.2.2.2.1 hr.2.2.2.2.1 hr.2.2.2.2.2.1 hr.2.2.2.2.2.2.1 hr.2.2.2.2.2.2.2
     have key:∀(r':Raw),r'.reqs=aset r.reqs id {q with queued:=false}→(r'.queues.map Prod.fst).Nodup→r'.runs=r.runs→r'.conns=r.conns→(∀t l,aget r'.queues t=some l→l≠[]) →
      (∀s,qOf r' s=if q.tenant=s then zAH (qOf r q.tenant) id else qOf r s)→r'.ring.Nodup→(∀t,t∈r'.ring↔qOf r' t≠[])→InvQ r':=by
      intro r' e1 e2 e3 e4 e5 e6 e7 e8
      refine ⟨by rw [e1];exact zAc hQ.kreq _ _,e2,by rw [e3];exact hQ.krun,by rw [e4];exact hQ.kcn,e5,?_,?_,?_,e7,e8⟩
      ·intro t
       rw [e6]
       split
       ·exact zES (hQ.qnd _) _
       ·exact hQ.qnd t
      ·intro t i hi
       rw [e6] at hi
       rw [e1,zAS]
       by_cases e:q.tenant=t
       ·rw [if_pos e] at hi
        obtain ⟨hi1,hi2⟩:=zCl.1 hi
        rw [if_neg (Ne.symm hi2)]
        rw [e] at hi1;exact hQ.qreq t i hi1
       ·rw [if_neg e] at hi
        obtain ⟨p,h1,h2,h3⟩:=hQ.qreq t i hi
        by_cases e2:id=i
        ·subst e2
         rw [hq] at h1;cases h1
         exact absurd h2 e
        ·exact ⟨p,by simp [e2,h1],h2,h3⟩
      ·intro i p hp hpq
       rw [e1,zAS] at hp
       rw [e6]
       by_cases e2:id=i
       ·rw [if_pos e2] at hp;cases hp
        cases hpq
       ·rw [if_neg e2] at hp
        have:=hQ.reqq i p hp hpq
        by_cases e:q.tenant=p.tenant
        ·rw [if_pos e];exact zCl.2 ⟨e ▸ this,Ne.symm e2⟩
        ·rw [if_neg e];exact this
     by_cases hl:zAH (qOf r q.tenant) id=[]
     ·rw [zDH hq hn hl]
      have hqo:∀s,qOf {r with reqs:=aset r.reqs id {q with queued:=false},queues:=adel r.queues q.tenant,ring:=zAH r.ring q.tenant} s=if q.tenant=s then zAH (qOf r q.tenant) id else qOf r s:=fun s=>by
       rw [hl];exact zKw r q.tenant s hQ.kqu
      refine ⟨key _ rfl (zCk hQ.kqu _) rfl rfl ?_ hqo (zES hQ.rnd _) ?_,⟨hA1.areq,hA1.apw,hA1.aseq,hA1.aatt,hA1.runs⟩,⟨hN1.cfg,hN1.now,hN1.seq0,hN1.seq,hN1.reqs,hN1.req,hN1.att,hN1.pot⟩⟩
      ·intro t m hm
       rw [zEn _ _ _ hQ.kqu] at hm
       split at hm
       ·cases hm
       ·exact hQ.qne t m hm
      ·intro t
       rw [hqo]
       show t∈zAH r.ring q.tenant↔_
       rw [zCl,hQ.rqu t]
       by_cases e:q.tenant=t
       ·subst e;rw [if_pos rfl,hl];simp
       ·simp [e,Ne.symm e]
     ·rw [zDI hq hn hl]
      have hqo:∀s,qOf {r with reqs:=aset r.reqs id {q with queued:=false},queues:=aset r.queues q.tenant (zAH (qOf r q.tenant) id)} s=if q.tenant=s then zAH (qOf r q.tenant) id else qOf r s:=fun s=>zGL r q.tenant s _
      refine ⟨key _ rfl (zAc hQ.kqu _ _) rfl rfl ?_ hqo hQ.rnd ?_,⟨hA1.areq,hA1.apw,hA1.aseq,hA1.aatt,hA1.runs⟩,⟨hN1.cfg,hN1.now,hN1.seq0,hN1.seq,hN1.reqs,hN1.req,hN1.att,hN1.pot⟩⟩
      ·intro t m hm
       simp only [zAS] at hm
       split at hm
       ·cases hm;exact hl
       ·exact hQ.qne t m hm
      ·intro t
       rw [hqo]
       show t∈r.ring↔_
       rw [hQ.rqu t]
       by_cases e:q.tenant=t
       ·subst e
        rw [if_pos rfl]
        exact ⟨fun _=>hl,fun _ e=>by rw [e] at hid;cases hid⟩
       ·rw [if_neg e]
theorem Inv.mono {N P N' P':Nat} {r:Raw} (h:Inv N P r) (hN:N≤N') (hP:P≤P'):Inv N' P' r:=
 ⟨h.q,h.a,h.n.cfg,⟨h.n.now.1,by have:=h.n.now.2;omega⟩,h.n.seq0,by have:=h.n.seq;omega,Nat.le_trans h.n.reqs hN,h.n.req,h.n.att,Nat.le_trans h.n.pot hP⟩
theorem Inv.frame {N P P':Nat} {r r':Raw} (h:Inv N P r) (h1:r'.cfg=r.cfg) (h2:r'.now=r.now) (h3:r'.reqs=r.reqs) (h4:(r'.conns.map Prod.fst).Nodup) (h5:r'.queues=r.queues) (h6:r'.runs=r.runs) (h7:r'.ring=r.ring) (h8:r'.waiting=r.waiting) (h9:r'.atts=r.atts) (h10:r'.seq=r.seq)
 (hp:r'.out.length+3*r.atts.length+4*r.waiting.length≤P'):Inv N P' r':=by
 obtain ⟨hQ,hA,hN⟩:=h
 have hq:∀t,qOf r' t=qOf r t:=zLz h5
 have ht:∀j,tenOf r' j=tenOf r j:=fun j=>by unfold tenOf;rw [h3]
 refine ⟨⟨by rw [h3];exact hQ.kreq,by rw [h5];exact hQ.kqu,by rw [h6];exact hQ.krun,h4,by rw [h5];exact hQ.qne,fun t=>by rw [hq];exact hQ.qnd t,fun t i hi=>by rw [hq] at hi;rw [h3];exact hQ.qreq t i hi,
  fun i q hi hqq=>by rw [h3] at hi;rw [hq];exact hQ.reqq i q hi hqq,by rw [h7];exact hQ.rnd,fun t=>by rw [h7,hq];exact hQ.rqu t⟩,
  ⟨by rw [h9,h3];exact hA.areq,by rw [h9];exact hA.apw,by rw [h9,h10];exact hA.aseq,by rw [h9];exact hA.aatt,fun t=>by rw [zIg h9 ht];unfold zAk;rw [h6];exact hA.runs t⟩,
  ⟨by rw [h1];exact hN.cfg,by rw [h2];exact hN.now,by rw [h10];exact hN.seq0,by rw [h10,h8];exact hN.seq,by rw [h3];exact hN.reqs,by rw [h3,h10];exact hN.req,by rw [h9,h2];exact hN.att,by rw [h9,h8];exact hp⟩⟩
theorem Inv.say {N P:Nat} {r:Raw} (h:Inv N P r) (c:Int) (ws:List Bytes):Inv N (P+1) (rSay r c ws):=
 h.frame rfl rfl rfl h.q.kcn rfl rfl rfl rfl rfl rfl (by have:=h.n.pot;show (r.out++[_]).length+_+_≤_;simp;omega)
theorem Inv.conns {N P:Nat} {r:Raw} (h:Inv N P r) {l:List (Int×Cn)} (hl:(l.map Prod.fst).Nodup):Inv N P {r with conns:=l}:=
 h.frame rfl rfl rfl hl rfl rfl rfl rfl rfl rfl h.n.pot
theorem Inv.conn {N P:Nat} {r:Raw} (h:Inv N P r) (c:Int):Inv N P (rConn r c):=by
 unfold rConn
 split
 ·exact h
 ·exact h.conns (zAc h.q.kcn _ _)
theorem Inv.bye {N P:Nat} {r:Raw} (h:Inv N P r) (c:Int):Inv N (P+1) (rBye r c):=by
 unfold rBye
 split
 ·exact h.mono (Nat.le_refl _) (by omega)
 ·split
  ·exact (h.conns (zAc h.q.kcn _ _)).say _ _
  ·exact h.mono (Nat.le_refl _) (by omega)
theorem zFp {p:Att→Bool}:∀{l:List Att} {a:Att},l.Pairwise (fun a b=>a.seq < b.seq)→a∈l→l.countP p=(l.filter fun b=>!decide (b.seq=a.seq)).countP p+if p a then 1 else 0
 | [],a,_,h=>by cases h
 | b::l,a,hp,h=>by
   rw [List.pairwise_cons] at hp
   rw [List.countP_cons,List.filter_cons]
   by_cases e:b.seq=a.seq
   ·have hno:∀c∈l,¬c.seq=a.seq:=fun c hc=>by have:=hp.1 c hc;omega
    have hba:b=a:=by
     rcases List.mem_cons.1 h with h1 | h1
     ·exact h1.symm
     ·exact absurd rfl (hno a h1)
    subst hba
    have:(l.filter fun c=>!decide (c.seq=b.seq))=l:=by
     rw [List.filter_eq_self]
     intro c hc
     simp [hno c hc]
    simp [this]
   ·have ha:a∈l:=by
     rcases List.mem_cons.1 h with h1 | h1
     ·subst h1;exact absurd rfl e
     ·exact h1
    have ih:=zFp (p:=p) hp.2 ha
    simp only [e,decide_false,Bool.not_false,if_true,List.countP_cons]
    omega
theorem zPD {l:List Att} {a:Att} (h:l.Pairwise (fun a b=>a.seq < b.seq)) (ha:a∈l):l.length=(l.filter fun b=>!decide (b.seq=a.seq)).length+1:=by
 have:=zFp (p:=fun _=>true) h ha
 simpa [List.countP_true] using this
def rEnd0 (r:Raw) (a:Att) (t:ByteArray):Raw:=
 let r1:={r with atts:=r.atts.filter fun b=>!decide (b.seq=a.seq),runs:=aset r.runs t (zAk r t - 1)}
 if zAk r1 t=0 then {r1 with runs:=adel r1.runs t} else r1
theorem zHF {r:Raw} {a:Att} {q:Req} (h:aget r.reqs a.id=some q):rEnd r a=rBye (rEnd0 r a q.tenant) a.conn:=by
 unfold rEnd rEnd0;rw [h]
theorem zED {r:Raw} {a:Att} {t:ByteArray} (h:zAk r t - 1=0):rEnd0 r a t={r with atts:=r.atts.filter fun b=>!decide (b.seq=a.seq),runs:=adel (aset r.runs t (zAk r t - 1)) t}:=by
 unfold rEnd0
 have h1:zAk {r with atts:=r.atts.filter fun b=>!decide (b.seq=a.seq),runs:=aset r.runs t (zAk r t - 1)} t=zAk r t - 1:=by unfold zAk;simp [zAS]
 simp only [h1]
 rw [if_pos h]
theorem zFK {r:Raw} {a:Att} {t:ByteArray} (h:¬zAk r t - 1=0):rEnd0 r a t={r with atts:=r.atts.filter fun b=>!decide (b.seq=a.seq),runs:=aset r.runs t (zAk r t - 1)}:=by
 unfold rEnd0
 have h1:zAk {r with atts:=r.atts.filter fun b=>!decide (b.seq=a.seq),runs:=aset r.runs t (zAk r t - 1)} t=zAk r t - 1:=by unfold zAk;simp [zAS]
 simp only [h1]
 rw [if_neg h]
theorem zQG {r:Raw} (h:(r.runs.map Prod.fst).Nodup) (a:Att) (t s:ByteArray):zAk (rEnd0 r a t) s=if t=s then zAk r t - 1 else zAk r s:=by
 by_cases h0:zAk r t - 1=0
 ·rw [zED h0]
  unfold zAk at *
  simp only [zEn _ _ _ (zAc h _ _),zAS]
  split
  ·exact h0.symm
  ·rfl
 ·rw [zFK h0]
  unfold zAk at *
  simp only [zAS]
  split<;>rfl
theorem Inv.end0 {N P:Nat} {r:Raw} (h:Inv N P r) {a:Att} {q:Req} (ha:a∈r.atts) (hq:aget r.reqs a.id=some q):Inv N (P - 3) (rEnd0 r a q.tenant):=by
 obtain ⟨hQ,hA,hN⟩:=h
 have hlen:=zPD hA.apw ha
 have hpot:=hN.pot
 have base:∀r':Raw,r'.cfg=r.cfg→r'.now=r.now→r'.reqs=r.reqs→r'.conns=r.conns→r'.queues=r.queues→r'.ring=r.ring→r'.waiting=r.waiting→r'.seq=r.seq→r'.out=r.out→r'.atts=(r.atts.filter fun b=>!decide (b.seq=a.seq))→(r'.runs.map Prod.fst).Nodup →
  (∀s,zAk r' s=if q.tenant=s then zAk r q.tenant - 1 else zAk r s)→Inv N (P - 3) r':=by
  intro r' h1 h2 h3 h4 h5 h7 h8 h10 h11 h9 h6 hruns
  have hqo:∀t,qOf r' t=qOf r t:=zLz h5
  have ht:∀j,tenOf r' j=tenOf r j:=fun j=>by unfold tenOf;rw [h3]
  have hsub:∀b,b∈r'.atts→b∈r.atts:=fun b hb=>by rw [h9] at hb;exact (List.mem_filter.1 hb).1
  refine ⟨⟨by rw [h3];exact hQ.kreq,by rw [h5];exact hQ.kqu,h6,by rw [h4];exact hQ.kcn,by rw [h5];exact hQ.qne,fun t=>by rw [hqo];exact hQ.qnd t,fun t i hi=>by rw [hqo] at hi;rw [h3];exact hQ.qreq t i hi,
   fun i q hi hqq=>by rw [h3] at hi;rw [hqo];exact hQ.reqq i q hi hqq,by rw [h7];exact hQ.rnd,fun t=>by rw [h7,hqo];exact hQ.rqu t⟩,
   ⟨fun b hb=>by rw [h3];exact hA.areq b (hsub b hb),by rw [h9];exact hA.apw.sublist List.filter_sublist,fun b hb=>by rw [h10];exact hA.aseq b (hsub b hb),fun b hb c hc=>hA.aatt b (hsub b hb) c (hsub c hc),fun t=>?_⟩,
   ⟨by rw [h1];exact hN.cfg,by rw [h2];exact hN.now,by rw [h10];exact hN.seq0,by rw [h10,h8];exact hN.seq,by rw [h3];exact hN.reqs,by rw [h3,h10];exact hN.req,fun b hb=>by rw [h2];exact hN.att b (hsub b hb),by rw [h11,h9,h8];omega⟩⟩
  rw [hruns]
  have hc:cntOf r' t=(r.atts.filter fun b=>!decide (b.seq=a.seq)).countP fun b=>decide (tenOf r b.id=some t):=by
   unfold cntOf
   rw [h9]
   exact congrArg (fun p=>List.countP p _) (funext fun b=>by rw [ht])
  have hd:=zFp (p:=fun b=>decide (tenOf r b.id=some t)) hA.apw ha
  have hcr:=hA.runs t
  unfold cntOf at hcr
  rw [hd,←hc,zHE hq] at hcr
  by_cases e:q.tenant=t
  ·subst e
   rw [if_pos rfl,hcr]
   simp
  ·rw [if_neg e,hcr]
   simp [e]
 have hrun0:=zQG hQ.krun a q.tenant
 by_cases h0:zAk r q.tenant - 1=0
 ·rw [zED h0] at hrun0 ⊢
  exact base _ rfl rfl rfl rfl rfl rfl rfl rfl rfl rfl (zCk (zAc hQ.krun _ _) _) hrun0
 ·rw [zFK h0] at hrun0 ⊢
  exact base _ rfl rfl rfl rfl rfl rfl rfl rfl rfl rfl (zAc hQ.krun _ _) hrun0
theorem Inv.three {N P:Nat} {r:Raw} (h:Inv N P r) {a:Att} (ha:a∈r.atts):3≤P:=by
 have:=h.n.pot
 have:=List.length_pos_of_mem ha
 omega
theorem Inv.end {N P:Nat} {r:Raw} (h:Inv N P r) {a:Att} (ha:a∈r.atts):Inv N (P - 2) (rEnd r a):=by
 obtain ⟨q,hq,_⟩:=h.a.areq a ha
 rw [zHF hq]
 have:=h.three ha
 exact ((h.end0 ha hq).bye _).mono (Nat.le_refl _) (by omega)
theorem Inv.stop {N P:Nat} {r:Raw} (h:Inv N P r) {a:Att} (ha:a∈r.atts):Inv N (P - 1) (rStop r a):=by
 unfold rStop
 have:=h.three ha
 exact ((h.say _ _).end ha).mono (Nat.le_refl _) (by omega)
theorem zRS (r:Raw) (c:Int):(rBye r c).atts=r.atts:=by
 unfold rBye
 split
 ·rfl
 ·split<;>rfl
theorem zRT (r:Raw) (c:Int):(rBye r c).reqs=r.reqs:=by
 unfold rBye
 split
 ·rfl
 ·split<;>rfl
theorem zKD (r:Raw) (a:Att) (t:ByteArray):(rEnd0 r a t).atts=r.atts.filter fun b=>!decide (b.seq=a.seq):=by
 unfold rEnd0;simp only;split<;>rfl
theorem zQH (r:Raw) (a:Att) (t:ByteArray):(rEnd0 r a t).reqs=r.reqs:=by
 unfold rEnd0;simp only;split<;>rfl
theorem zRU {r:Raw} {a:Att} {q:Req} (h:aget r.reqs a.id=some q):(rEnd r a).atts=r.atts.filter fun b=>!decide (b.seq=a.seq):=by
 rw [zHF h,zRS,zKD]
theorem zDX (r:Raw) (a:Att):(rEnd r a).reqs=r.reqs:=by
 cases h:aget r.reqs a.id with
 | none=>unfold rEnd;rw [h]
 | some q=>rw [zHF h,zRT,zQH]
theorem zGN {α:Type} [DecidableEq α]:∀{l m:List α},l.Nodup→(∀x∈l,x∈m)→l.length≤m.length
 | [],_,_,_=>Nat.zero_le _
 | x::l,m,hn,hs=>by
   rw [List.nodup_cons] at hn
   have hx:=hs x (by simp)
   have:=zGN (m:=m.erase x) hn.2 (fun y hy=>(List.mem_erase_of_ne (fun (e:y=x)=>hn.1 (by rw [←e];exact hy))).2 (hs y (by simp [hy])))
   rw [List.length_erase_of_mem hx] at this
   have:=List.length_pos_of_mem hx
   simp;omega
theorem InvQ.qu_le {r:Raw} (h:InvQ r) (t:ByteArray):(qOf r t).length≤r.reqs.length:=by
 have:=zGN (m:=r.reqs.map Prod.fst) (h.qnd t) (fun id hid=>by
  obtain ⟨q,hq,_⟩:=h.qreq t id hid
  exact zCj.1 (by rw [hq];rfl))
 simpa using this
theorem InvQ.ring_le {r:Raw} (h:InvQ r):r.ring.length≤r.reqs.length:=by
 have hhead:∀t∈r.ring,(qOf r t).headD 0∈qOf r t:=fun t ht=>by
  have:=(h.rqu t).1 ht
  cases hq:qOf r t with
  | nil=>exact absurd hq this
  | cons a l=>simp
 have:=zGN (l:=r.ring.map fun t=>(qOf r t).headD 0) (m:=r.reqs.map Prod.fst) (by
  rw [List.nodup_iff_pairwise_ne,List.pairwise_map]
  refine List.Pairwise.imp_of_mem (fun {t s} ht hs hne e=>?_) (List.nodup_iff_pairwise_ne.1 h.rnd)
  obtain ⟨q1,h1,h2,_⟩:=h.qreq t _ (hhead t ht)
  obtain ⟨q2,h3,h4,_⟩:=h.qreq s _ (hhead s hs)
  rw [e,h3] at h1;cases h1
  exact hne (h2.symm.trans h4))
  (fun id hid=>by
   obtain ⟨t,ht,rfl⟩:=List.mem_map.1 hid
   obtain ⟨q,hq,_⟩:=h.qreq t _ (hhead t ht)
   exact zCj.1 (by rw [hq];rfl))
 simpa using this
theorem zFL (r:Raw) (a:Att):(rStop r a).reqs=r.reqs:=by unfold rStop;rw [zDX];rfl
theorem zFM {r:Raw} {a:Att} {q:Req} (h:aget r.reqs a.id=some q):(rStop r a).atts=r.atts.filter fun b=>!decide (b.seq=a.seq):=by
 unfold rStop
 exact zRU (r:=rSay r a.conn [wStop,decI a.id,decI a.att]) h
def Live (l:List Att) (r:Raw):Prop:=l.Pairwise (fun a b=>a.seq < b.seq)∧∀a∈l,a∈r.atts
theorem Live.of_filter {N P:Nat} {r:Raw} (h:Inv N P r) (p:Att→Bool):Live (r.atts.filter p) r:=⟨h.a.apw.sublist List.filter_sublist,fun a ha=>(List.mem_filter.1 ha).1⟩
theorem Live.next {a:Att} {l:List Att} {r r':Raw} (h:Live (a::l) r) (ha:r'.atts=r.atts.filter fun b=>!decide (b.seq=a.seq)):Live l r':=by
 obtain ⟨h1,h2⟩:=h
 rw [List.pairwise_cons] at h1
 refine ⟨h1.2,fun b hb=>?_⟩
 rw [ha,List.mem_filter]
 have:=h1.1 b hb
 exact ⟨h2 b (by simp [hb]),by simp;omega⟩
theorem zGO {N P:Nat}:∀(l:List Att) (r:Raw),Inv N P r→Live l r→Inv N P (l.foldl rStop r)∧(l.foldl rStop r).reqs=r.reqs∧(l.foldl rStop r).atts=r.atts.filter fun b=>!(l.any fun a=>decide (b.seq=a.seq))
 | [],r,h,_=>⟨h,rfl,(List.filter_eq_self.2 (by simp)).symm⟩
 | a::l,r,h,hl=>by
   obtain ⟨q,hq,_⟩:=h.a.areq a (hl.2 a (by simp))
   have hat:=zFM hq
   obtain ⟨h1,h2,h3⟩:=zGO (N:=N) (P:=P) l (rStop r a) ((h.stop (hl.2 a (by simp))).mono (Nat.le_refl _) (by omega)) (hl.next hat)
   refine ⟨h1,h2.trans (zFL r a),?_⟩
   show (l.foldl rStop (rStop r a)).atts=_
   rw [h3,hat,List.filter_filter]
   congr 1
   funext b
   simp [Bool.not_or,Bool.and_comm]
theorem zVq {N P:Nat} {r:Raw} (h:Inv N P r) (id:Int):∀a∈((rOf r id).foldl rStop r).atts,a.id≠id:=by
 intro a ha e
 obtain ⟨_,_,h3⟩:=zGO (rOf r id) r h (Live.of_filter h _)
 rw [h3,List.mem_filter] at ha
 have hno:=ha.2
 simp only [Bool.not_eq_true',List.any_eq_false,decide_eq_true_eq] at hno
 exact hno a (List.mem_filter.2 ⟨ha.1,by simp [e]⟩) rfl
theorem zET (r:Raw) (id:Int):(zAJ r id).atts=r.atts:=by
 unfold zAJ
 split
 ·rfl
 ·simp only;split
  ·rfl
  ·split<;>rfl
theorem zCz (r:Raw) (id:Int):(zAJ r id).waiting=r.waiting:=by
 unfold zAJ
 split
 ·rfl
 ·simp only;split
  ·rfl
  ·split<;>rfl
theorem zCu {r:Raw} {id:Int} {q:Req} (h:aget r.reqs id=some q):aget (zAJ r id).reqs id=some {q with queued:=false}:=by
 cases hn:q.queued with
 | false=>rw [zEr h hn,h];rw [←hn]
 | true =>
   by_cases hl:zAH (qOf r q.tenant) id=[]
   ·rw [zDH h hn hl];simp [zAS]
   ·rw [zDI h hn hl];simp [zAS]
theorem Inv.del {N P:Nat} {r:Raw} (h:Inv N P r) {id:Int} {q:Req} (hq:aget r.reqs id=some q) (hn:q.queued=false) (ha:∀a∈r.atts,a.id≠id):Inv N P {r with reqs:=adel r.reqs id}:=by
 obtain ⟨hQ,hA,hN⟩:=h
 have hd:∀j,aget (adel r.reqs id) j=if id=j then none else aget r.reqs j:=fun j=>zEn _ _ _ hQ.kreq
 refine ⟨⟨zCk hQ.kreq _,hQ.kqu,hQ.krun,hQ.kcn,hQ.qne,hQ.qnd,fun t i hi=>?_,fun i p hp hpq=>?_,hQ.rnd,hQ.rqu⟩,⟨fun a haa=>?_,hA.apw,hA.aseq,hA.aatt,fun t=>?_⟩,⟨hN.cfg,hN.now,hN.seq0,hN.seq,?_,fun i p hp=>?_,hN.att,hN.pot⟩⟩
 ·obtain ⟨p,h1,h2,h3⟩:=hQ.qreq t i hi
  show ∃q,aget (adel r.reqs id) i=some q∧_
  rw [hd]
  by_cases e:id=i
  ·subst e;rw [hq] at h1;cases h1;rw [hn] at h3;cases h3
  ·exact ⟨p,by rw [if_neg e];exact h1,h2,h3⟩
 ·have hp':aget (adel r.reqs id) i=some p:=hp
  rw [hd] at hp'
  split at hp'
  ·cases hp'
  ·exact hQ.reqq i p hp' hpq
 ·obtain ⟨p,h1,h2⟩:=hA.areq a haa
  show ∃q,aget (adel r.reqs id) a.id=some q∧_
  rw [hd,if_neg (Ne.symm (ha a haa))]
  exact ⟨p,h1,h2⟩
 ·have:cntOf {r with reqs:=adel r.reqs id} t=cntOf r t:=by
   unfold cntOf
   refine List.countP_congr (fun a haa=>?_)
   have:tenOf {r with reqs:=adel r.reqs id} a.id=tenOf r a.id:=by
    unfold tenOf
    show (aget (adel r.reqs id) a.id).map _=_
    rw [hd,if_neg (Ne.symm (ha a haa))]
   rw [this]
  rw [this];exact hA.runs t
 ·exact Nat.le_trans ((zIP r.reqs id).length_le) hN.reqs
 ·have hp':aget (adel r.reqs id) i=some p:=hp
  rw [hd] at hp'
  split at hp'
  ·cases hp'
  ·exact hN.req i p hp'
theorem zEU (r:Raw) (id:Int):rShut r id={zAJ ((rOf r id).foldl rStop r) id with reqs:=adel (zAJ ((rOf r id).foldl rStop r) id).reqs id}:=rfl
theorem Inv.shut {N P:Nat} {r:Raw} (h:Inv N P r) {id:Int} {q:Req} (hq:aget r.reqs id=some q):Inv N P (rShut r id):=by
 obtain ⟨h1,h2,h3⟩:=zGO (rOf r id) r h (Live.of_filter h _)
 have hg:=zVq h id
 rw [zEU]
 have hq2:aget ((rOf r id).foldl rStop r).reqs id=some q:=by rw [h2];exact hq
 exact (h1.unqueue id).del (zCu hq2) rfl (fun a ha=>hg a (by rw [zET] at ha;exact ha))
theorem Inv.left {N P:Nat} {r:Raw} (h:Inv N P r) {id:Int} {q:Req} (hq:aget r.reqs id=some q) (h0:q.left≠0):Inv N P {r with reqs:=aset r.reqs id {q with left:=q.left - 1}}:=by
 have hr:=h.n.req id q hq
 exact ⟨h.q.set_req hq rfl rfl,h.a.set_req hq rfl (Int.le_refl _),h.n.set_req hq hr.2.2.1 hr.2.2.2.1 (by show 0≤q.left - 1;omega) (by show q.left - 1≤5;omega) hr.2.2.2.2.2.2.1 hr.2.2.2.2.2.2.2⟩
theorem Inv.again {N P:Nat} {r:Raw} (h:Inv N P r) (id:Int) (counts:Bool):Inv N (P+1) (zAw r id counts):=by
 unfold zAw
 split
 ·exact h.mono (Nat.le_refl _) (by omega)
 ·rename_i q hq
  split
  ·exact h.mono (Nat.le_refl _) (by omega)
  ·rename_i hc
   have hn:q.queued=false:=by
    cases hqq:q.queued with
    | true=>simp [hqq] at hc
    | false=>rfl
   split
   ·split
    ·exact (h.say _ _).shut (q:=q) hq
    ·rename_i h0
     have:rLeft r id={r with reqs:=aset r.reqs id {q with left:=q.left - 1}}:=by unfold rLeft;rw [hq]
     rw [this]
     exact ((h.left hq h0).queue (q:={q with left:=q.left - 1}) (by simp [zAS]) hn true).mono (Nat.le_refl _) (by omega)
   ·exact (h.queue hq hn true).mono (Nat.le_refl _) (by omega)
theorem Inv.new {N P:Nat} {r:Raw} (h:Inv N P r) {id:Int} {q:Req} (hq:aget r.reqs id=none) (h1:q.queued=false) (h2:0≤id∧id≤999999) (h3:q.attempts=0) (h4:0≤q.left∧q.left≤5) (h5:q.tenant.size≤80) (h6:q.text.size≤80) :
 Inv (N+1) P {r with reqs:=aset r.reqs id q}:=by
 obtain ⟨hQ,hA,hN⟩:=h
 have hd:∀j,aget (aset r.reqs id q) j=if id=j then some q else aget r.reqs j:=fun j=>zAS _ _ _ _
 have hane:∀a∈r.atts,id≠a.id:=fun a ha e=>by
  obtain ⟨p,hp,_⟩:=hA.areq a ha
  rw [←e,hq] at hp;cases hp
 refine ⟨⟨zAc hQ.kreq _ _,hQ.kqu,hQ.krun,hQ.kcn,hQ.qne,hQ.qnd,fun t i hi=>?_,fun i p hp hpq=>?_,hQ.rnd,hQ.rqu⟩,⟨fun a haa=>?_,hA.apw,hA.aseq,hA.aatt,fun t=>?_⟩,
  ⟨hN.cfg,⟨hN.now.1,by have:=hN.now.2;show r.now≤_;omega⟩,hN.seq0,by have:=hN.seq;show r.seq+r.waiting.length≤_;omega,?_,fun i p hp=>?_,hN.att,hN.pot⟩⟩
 ·obtain ⟨p,e1,e2,e3⟩:=hQ.qreq t i hi
  show ∃q',aget (aset r.reqs id q) i=some q'∧_
  rw [hd]
  by_cases e:id=i
  ·subst e;rw [hq] at e1;cases e1
  ·exact ⟨p,by rw [if_neg e];exact e1,e2,e3⟩
 ·have hp':aget (aset r.reqs id q) i=some p:=hp
  rw [hd] at hp'
  split at hp'
  ·cases hp';rw [h1] at hpq;cases hpq
  ·exact hQ.reqq i p hp' hpq
 ·obtain ⟨p,e1,e2⟩:=hA.areq a haa
  show ∃q',aget (aset r.reqs id q) a.id=some q'∧_
  rw [hd,if_neg (hane a haa)]
  exact ⟨p,e1,e2⟩
 ·have:cntOf {r with reqs:=aset r.reqs id q} t=cntOf r t:=by
   unfold cntOf
   refine List.countP_congr (fun a haa=>?_)
   have:tenOf {r with reqs:=aset r.reqs id q} a.id=tenOf r a.id:=by
    unfold tenOf
    show (aget (aset r.reqs id q) a.id).map _=_
    rw [hd,if_neg (hane a haa)]
   rw [this]
  rw [this];exact hA.runs t
 ·have:=zJq r.reqs id q
  have:=hN.reqs
  show (aset r.reqs id q).length≤_
  omega
 ·have hp':aget (aset r.reqs id q) i=some p:=hp
  rw [hd] at hp'
  split at hp'
  ·rename_i e
   cases hp'
   subst e
   exact ⟨h2.1,h2.2,by omega,by have:=hN.seq0;show q.attempts≤r.seq;omega,h4.1,h4.2,h5,h6⟩
  ·exact hN.req i p hp'
theorem zCT {c:Cfg} (h:cfgOk c=true):1≤c.lease∧c.lease≤20∧0≤c.retries∧c.retries≤5∧1≤c.cap∧c.cap≤5∧1≤c.bound∧c.bound≤8∧0≤c.hedge∧c.hedge≤20:=by
 unfold cfgOk at h
 simp only [Bool.and_eq_true,decide_eq_true_eq] at h
 omega
theorem zPE (l:Bytes):(bs l).size=l.length:=by simp [bs,ByteArray.size]
structure MsgOk (m:Msg):Prop where
 id:0≤m.id∧m.id≤999999
 tenant:m.tenant.length≤80
 text:m.text.length≤80
def zBz (r:Raw) (c:Int) (m:Msg):Req:=⟨c,bs m.tenant,bs m.text,0,r.cfg.retries,false,false⟩
theorem Inv.accept {N P:Nat} {r:Raw} (h:Inv N P r) {c:Int} {m:Msg} (hm:MsgOk m) (hq:aget r.reqs m.id=none):Inv (N+1) P {r with reqs:=aset r.reqs m.id (zBz r c m)}:=by
 have hc:=zCT h.n.cfg
 exact h.new hq rfl hm.id rfl ⟨hc.2.2.1,hc.2.2.2.1⟩ (by show (bs m.tenant).size≤_;rw [zPE];exact hm.tenant) (by show (bs m.text).size≤_;rw [zPE];exact hm.text)
theorem Inv.submit {N P:Nat} {r:Raw} (h:Inv N P r) (c:Int) {m:Msg} (hm:MsgOk m):Inv (N+1) (P+1) (zBH r c m):=by
 unfold zBH
 split
 ·exact (h.say _ _).mono (by omega) (Nat.le_refl _)
 ·rename_i hq
  have hq:aget r.reqs m.id=none:=by cases hx:aget r.reqs m.id with
   | none=>rfl
   | some q=>rw [hx] at hq;exact absurd rfl hq
  split
  ·exact (h.say _ _).mono (by omega) (Nat.le_refl _)
  ·exact ((h.accept hm hq).say _ _).queue (q:=zBz r c m) (by show aget (aset r.reqs m.id _) m.id=_;simp [zAS,zBz]) rfl false
theorem Inv.beat {N P:Nat} {r:Raw} (h:Inv N P r) (c:Int):Inv N P (rBeat r c):=by
 obtain ⟨hQ,hA,hN⟩:=h
 have hc:=zCT hN.cfg
 have hmem:∀a∈(rBeat r c).atts,∃b∈r.atts,a.id=b.id∧a.att=b.att∧a.seq=b.seq∧a.since=b.since∧(a.till=b.till∨a.till=r.now+r.cfg.lease)∧a.conn=b.conn:=by
  intro a ha
  obtain ⟨b,hb,rfl⟩:=List.mem_map.1 ha
  refine ⟨b,hb,?_⟩
  split<;>simp
 refine ⟨⟨hQ.kreq,hQ.kqu,hQ.krun,hQ.kcn,hQ.qne,hQ.qnd,hQ.qreq,hQ.reqq,hQ.rnd,hQ.rqu⟩,⟨fun a ha=>?_,?_,fun a ha=>?_,fun a ha b hb e1 e2=>?_,fun t=>?_⟩,⟨hN.cfg,hN.now,hN.seq0,hN.seq,hN.reqs,hN.req,fun a ha=>?_,?_⟩⟩
 ·obtain ⟨b,hb,e1,e2,_⟩:=hmem a ha
  rw [e1,e2];exact hA.areq b hb
 ·show (r.atts.map _).Pairwise _
  rw [List.pairwise_map]
  refine hA.apw.imp (fun {a b} h=>?_)
  show (if a.conn=c then _ else a:Att).seq < (if b.conn=c then _ else b:Att).seq
  split<;>split<;>exact h
 ·obtain ⟨b,hb,_,_,e3,_⟩:=hmem a ha
  rw [e3];exact hA.aseq b hb
 ·obtain ⟨a',ha',rfl⟩:=List.mem_map.1 ha
  obtain ⟨b',hb',rfl⟩:=List.mem_map.1 hb
  have:a'=b':=hA.aatt a' ha' b' hb' (by split at e1<;>split at e1<;>exact e1) (by split at e2<;>split at e2<;>exact e2)
  rw [this]
 ·show zAk r t=_
  rw [hA.runs t]
  unfold cntOf
  have e0:(rBeat r c).atts=r.atts.map fun a=>if a.conn=c then {a with till:=r.now+r.cfg.lease} else a:=rfl
  rw [e0,List.countP_map]
  refine congrArg Int.ofNat ?_
  refine List.countP_congr (fun a _=>?_)
  show decide (tenOf r a.id=some t)=true↔decide (tenOf (rBeat r c) (if a.conn=c then _ else a:Att).id=some t)=true
  have:(if a.conn=c then {a with till:=r.now+r.cfg.lease} else a:Att).id=a.id:=by split<;>rfl
  rw [this];rfl
 ·obtain ⟨b,hb,_,_,_,e4,e5,_⟩:=hmem a ha
  have:=hN.att b hb
  have h0:=hN.now
  show 0≤a.since∧a.since≤r.now∧0≤a.till∧a.till≤r.now+20
  rw [e4]
  rcases e5 with e | e<;>rw [e]<;>omega
 ·show r.out.length+3*(r.atts.map _).length+_≤_
  rw [List.length_map];exact hN.pot
theorem Inv.waiting {N P N' P':Nat} {r:Raw} (h:Inv N P r) {l:List Int} (hN:N≤N') (h1:r.seq+l.length≤N') (h2:r.out.length+3*r.atts.length+4*l.length≤P'):Inv N' P' {r with waiting:=l}:=by
 obtain ⟨hQ,hA,hNn⟩:=h
 exact ⟨⟨hQ.kreq,hQ.kqu,hQ.krun,hQ.kcn,hQ.qne,hQ.qnd,hQ.qreq,hQ.reqq,hQ.rnd,hQ.rqu⟩,⟨hA.areq,hA.apw,hA.aseq,hA.aatt,hA.runs⟩,⟨hNn.cfg,⟨hNn.now.1,by have:=hNn.now.2;show r.now≤_;omega⟩,hNn.seq0,h1,Nat.le_trans hNn.reqs hN,hNn.req,hNn.att,h2⟩⟩
theorem Inv.pull {N P:Nat} {r:Raw} (h:Inv N P r) (c:Int):Inv (N+1) (P+4) (rPull r c):=by
 have hc:=h.conn c
 have h1:=hc.n.seq
 have h2:=hc.n.pot
 unfold rPull
 simp only
 split
 ·exact hc.mono (by omega) (by omega)
 ·split
  ·exact hc.waiting (by omega) (by simp;omega) (by simp;omega)
  ·exact hc.mono (by omega) (by omega)
theorem Inv.idle {N P:Nat} {r:Raw} (h:Inv N P r) (c:Int):Inv N P {r with waiting:=zAH r.waiting c}:=by
 have h1:=h.n.seq
 have h2:=h.n.pot
 have h3:=zIh r.waiting c
 exact h.waiting (Nat.le_refl _) (by omega) (by omega)
theorem Inv.drain {N P:Nat} {r:Raw} (h:Inv N P r) (c:Int):Inv N (P+1) (zEq r c):=by
 have hc:=h.conn c
 unfold zEq
 simp only
 split
 ·exact hc.mono (Nat.le_refl _) (by omega)
 ·exact ((hc.conns (zAc hc.q.kcn _ _)).idle c).bye c
def rRot (r:Raw) (t:ByteArray):Raw:=if qOf r t=[] then r else {r with ring:=zAH r.ring t++[t]}
def zDC (r:Raw) (id:Int) (q:Req):Raw:={r with reqs:=aset r.reqs id {q with attempts:=q.attempts+1}}
def rRun1 (r:Raw) (t:ByteArray):Raw:={r with runs:=aset r.runs t (zAk r t+1)}
def zEE (r:Raw) (id n c:Int):Raw:={r with seq:=r.seq+1,atts:=r.atts++[⟨id,n,c,r.now,r.now+r.cfg.lease,r.seq+1⟩]}
theorem zFN {r:Raw} {c:Int} {ws:List Int} {t:ByteArray} {id:Int} {rest:List Int} {q:Req} (hw:r.waiting=c::ws) (ht:zCN r=some t) (hq:qOf r t=id::rest) (hr:aget r.reqs id=some q) :
 zBg r=rSay (zEE (rRun1 (zDC (rRot (zAJ {r with waiting:=ws} id) t) id {q with queued:=false}) t) id (q.attempts+1) c) c [wRun,decI id,decI (q.attempts+1),t.data.toList,q.text.data.toList]:=by
 have h1:aget (rRot (zAJ {r with waiting:=ws} id) t).reqs id=some {q with queued:=false}:=by
  have:=zCu (r:={r with waiting:=ws}) (id:=id) (q:=q) hr
  unfold rRot
  split<;>exact this
 unfold zBg
 simp only [hw,ht,hq,hr]
 unfold rRot at h1
 unfold rSay zEE rRun1 zDC rRot
 rw [h1]
 rfl
theorem Inv.rot {N P:Nat} {r:Raw} (h:Inv N P r) {t:ByteArray} (ht:qOf r t≠[]):Inv N P {r with ring:=zAH r.ring t++[t]}:=by
 obtain ⟨hQ,hA,hN⟩:=h
 refine ⟨⟨hQ.kreq,hQ.kqu,hQ.krun,hQ.kcn,hQ.qne,hQ.qnd,hQ.qreq,hQ.reqq,?_,fun s=>?_⟩,⟨hA.areq,hA.apw,hA.aseq,hA.aatt,hA.runs⟩,⟨hN.cfg,hN.now,hN.seq0,hN.seq,hN.reqs,hN.req,hN.att,hN.pot⟩⟩
 ·show (zAH r.ring t++[t]).Nodup
  rw [List.nodup_append]
  exact ⟨zES hQ.rnd _,by simp,fun a ha b hb=>by simp at hb;subst hb;exact (zCl.1 ha).2⟩
 ·show s∈zAH r.ring t++[t]↔qOf r s≠[]
  rw [List.mem_append,zCl,hQ.rqu s]
  by_cases e:s=t
  ·subst e;simp [ht]
  ·simp [e]
theorem Inv.rotate {N P:Nat} {r:Raw} (h:Inv N P r) (t:ByteArray):Inv N P (rRot r t):=by
 unfold rRot
 split
 ·exact h
 ·rename_i hne;exact h.rot hne
theorem zMA (r:Raw) (t:ByteArray):(rRot r t).reqs=r.reqs:=by unfold rRot;split<;>rfl
theorem zEs (r:Raw) (t:ByteArray):(rRot r t).waiting=r.waiting:=by unfold rRot;split<;>rfl
theorem Inv.begin {N P N' P':Nat} {r:Raw} (h:Inv N P r) {id c:Int} {q:Req} (hq:aget r.reqs id=some q) (hN':N≤N') (hs:r.seq+1+r.waiting.length≤N') (hp:r.out.length+3*r.atts.length+3+4*r.waiting.length≤P') :
 Inv N' P' (zEE (rRun1 (zDC r id q) q.tenant) id (q.attempts+1) c):=by
 obtain ⟨hQ,hA,hN⟩:=h
 have hr:=hN.req id q hq
 have hc:=zCT hN.cfg
 have hQ1:=hQ.set_req hq (q':={q with attempts:=q.attempts+1}) rfl rfl
 have hd:∀j,aget (aset r.reqs id {q with attempts:=q.attempts+1}) j=if id=j then some {q with attempts:=q.attempts+1} else aget r.reqs j:=fun j=>zAS _ _ _ _
 have hten:∀j,tenOf (zEE (rRun1 (zDC r id q) q.tenant) id (q.attempts+1) c) j=tenOf r j:=zKC hq rfl
 have hmem:∀a,a∈(zEE (rRun1 (zDC r id q) q.tenant) id (q.attempts+1) c).atts↔a∈r.atts∨a=⟨id,q.attempts+1,c,r.now,r.now+r.cfg.lease,r.seq+1⟩:=fun a=>by
  show a∈r.atts++[_]↔_
  rw [List.mem_append,List.mem_singleton]
  exact Iff.rfl
 have hnow:=hN.now
 refine ⟨⟨hQ1.kreq,hQ1.kqu,zAc hQ.krun _ _,hQ1.kcn,hQ1.qne,hQ1.qnd,hQ1.qreq,hQ1.reqq,hQ1.rnd,hQ1.rqu⟩,⟨fun a ha=>?_,?_,fun a ha=>?_,fun a ha b hb e1 e2=>?_,fun s=>?_⟩,⟨hN.cfg,⟨hN.now.1,by have:=hN.now.2;show r.now≤_;omega⟩,by show 0≤r.seq+1;have:=hN.seq0;omega,hs,?_,fun i p hp2=>?_,fun a ha=>?_,?_⟩⟩
 ·show ∃q',aget (aset r.reqs id _) a.id=some q'∧_
  rw [hd]
  rcases (hmem a).1 ha with h1 | h1
  ·obtain ⟨p,e1,e2,e3⟩:=hA.areq a h1
   by_cases e:id=a.id
   ·rw [←e,hq] at e1;cases e1
    exact ⟨_,by rw [if_pos e],e2,by show a.att≤q.attempts+1;omega⟩
   ·exact ⟨p,by rw [if_neg e];exact e1,e2,e3⟩
  ·subst h1
   exact ⟨_,by rw [if_pos rfl],by show 1≤q.attempts+1;omega,Int.le_refl _⟩
 ·show (r.atts++[_]).Pairwise _
  rw [List.pairwise_append]
  refine ⟨hA.apw,by simp,fun a ha b hb=>?_⟩
  simp only [List.mem_singleton] at hb
  subst hb
  have:=hA.aseq a ha
  show a.seq < r.seq+1
  omega
 ·show a.seq≤r.seq+1
  rcases (hmem a).1 ha with h1 | h1
  ·have:=hA.aseq a h1;omega
  ·subst h1;exact Int.le_refl _
 ·have hnew:∀a∈r.atts,a.id=id→a.att≠q.attempts+1:=fun a h1 e=>by
   obtain ⟨p,e1,e2,e3⟩:=hA.areq a h1
   rw [e,hq] at e1;cases e1
   omega
  rcases (hmem a).1 ha with h1 | h1
  ·rcases (hmem b).1 hb with h2 | h2
   ·exact hA.aatt a h1 b h2 e1 e2
   ·subst h2;exact absurd e2 (hnew a h1 e1)
  ·rcases (hmem b).1 hb with h2 | h2
   ·subst h1;exact absurd e2.symm (hnew b h2 e1.symm)
   ·rw [h1,h2]
 ·have h1:zAk (zEE (rRun1 (zDC r id q) q.tenant) id (q.attempts+1) c) s=if q.tenant=s then zAk r q.tenant+1 else zAk r s:=by
   show (aget (aset r.runs q.tenant (zAk r q.tenant+1)) s).getD 0=_
   rw [zAS]
   split<;>rfl
  have h2:cntOf (zEE (rRun1 (zDC r id q) q.tenant) id (q.attempts+1) c) s=cntOf r s+if q.tenant=s then 1 else 0:=by
   unfold cntOf
   show List.countP _ (r.atts++[_])=_
   rw [List.countP_append]
   have e1:List.countP (fun a:Att=>decide (tenOf (zEE (rRun1 (zDC r id q) q.tenant) id (q.attempts+1) c) a.id=some s)) r.atts=List.countP (fun a:Att=>decide (tenOf r a.id=some s)) r.atts:=
    congrArg (fun p=>List.countP p r.atts) (funext fun a=>by rw [hten])
   rw [e1,List.countP_singleton]
   simp only [hten,zHE hq,Option.some.injEq,decide_eq_true_eq]
  rw [h1,h2,hA.runs s,hA.runs q.tenant]
  by_cases e:q.tenant=s
  ·subst e;simp
  ·simp [e]
 ·show (aset r.reqs id _).length≤_
  rw [zGM hq];exact Nat.le_trans hN.reqs hN'
 ·have hp3:aget (aset r.reqs id {q with attempts:=q.attempts+1}) i=some p:=hp2
  rw [hd] at hp3
  split at hp3
  ·rename_i e
   cases hp3
   subst e
   exact ⟨hr.1,hr.2.1,by show 0≤q.attempts+1;omega,by show q.attempts+1≤r.seq+1;omega,hr.2.2.2.2.1,hr.2.2.2.2.2.1,hr.2.2.2.2.2.2.1,hr.2.2.2.2.2.2.2⟩
  ·have:=hN.req i p hp3
   exact ⟨this.1,this.2.1,this.2.2.1,by show p.attempts≤r.seq+1;omega,this.2.2.2.2⟩
 ·show 0≤a.since∧a.since≤r.now∧0≤a.till∧a.till≤r.now+20
  rcases (hmem a).1 ha with h1 | h1
  ·exact hN.att a h1
  ·subst h1
   show 0≤r.now∧r.now≤r.now∧0≤r.now+r.cfg.lease∧r.now+r.cfg.lease≤r.now+20
   omega
 ·show r.out.length+3*(r.atts++[_]).length+4*r.waiting.length≤P'
  simp;omega
theorem zGP {N P:Nat} {r:Raw} (h:Inv N P r) {t:ByteArray} (ht:zCN r=some t):∃id rest q,qOf r t=id::rest∧aget r.reqs id=some q∧q.tenant=t∧q.queued=true:=by
 have hm:t∈r.ring:=List.mem_of_find?_eq_some ht
 have hne:=(h.q.rqu t).1 hm
 cases hq:qOf r t with
 | nil=>exact absurd hq hne
 | cons id rest =>
   obtain ⟨q,h1,h2,h3⟩:=h.q.qreq t id (by rw [hq];simp)
   exact ⟨id,rest,q,rfl,h1,h2,h3⟩
theorem zKx {r:Raw} {id:Int}:(zAJ r id).seq=r.seq∧(zAJ r id).out=r.out∧(zAJ r id).now=r.now∧(zAJ r id).cfg=r.cfg:=by
 unfold zAJ
 split
 ·exact ⟨rfl,rfl,rfl,rfl⟩
 ·simp only;split
  ·exact ⟨rfl,rfl,rfl,rfl⟩
  ·split<;>exact ⟨rfl,rfl,rfl,rfl⟩
theorem zRV (r:Raw) (t:ByteArray):(rRot r t).seq=r.seq∧(rRot r t).out=r.out∧(rRot r t).atts=r.atts∧(rRot r t).now=r.now∧(rRot r t).cfg=r.cfg:=by
 unfold rRot;split<;>exact ⟨rfl,rfl,rfl,rfl,rfl⟩
theorem Inv.serve1 {N P:Nat} {r:Raw} (h:Inv N P r):Inv N P (zBg r):=by
 cases hw:r.waiting with
 | nil=>unfold zBg;rw [hw];exact h
 | cons c ws =>
   cases ht:zCN r with
   | none=>unfold zBg;rw [hw,ht];exact h
   | some t =>
     obtain ⟨id,rest,q,hq,hr,rfl,hqq⟩:=zGP h ht
     rw [zFN hw ht hq hr]
     have hseq:=h.n.seq
     have hpot:=h.n.pot
     rw [hw] at hseq hpot
     simp only [List.length_cons] at hseq hpot
     have h0:Inv N (P - 4) {r with waiting:=ws}:=h.waiting (Nat.le_refl _) (by omega) (by omega)
     have h2:=(h0.unqueue id).rotate q.tenant
     have e1:=zKx (r:={r with waiting:=ws}) (id:=id)
     have e2:=zRV (zAJ {r with waiting:=ws} id) q.tenant
     have hq2:aget (rRot (zAJ {r with waiting:=ws} id) q.tenant).reqs id=some {q with queued:=false}:=by
      rw [zMA];exact zCu (r:={r with waiting:=ws}) hr
     have hwl:(rRot (zAJ {r with waiting:=ws} id) q.tenant).waiting=ws:=by rw [zEs,zCz]
     have hal:(rRot (zAJ {r with waiting:=ws} id) q.tenant).atts=r.atts:=by rw [e2.2.2.1,zET]
     have h3:=h2.begin (N':=N) (P':=P - 1) (c:=c) hq2 (Nat.le_refl _) (by rw [e2.1,e1.1,hwl];show r.seq+1+(ws.length:Int)≤N;omega) (by rw [e2.2.1,e1.2.1,hwl,hal];show r.out.length+3*r.atts.length+3+4*ws.length≤P - 1;omega)
     have h4:=h3.say c [wRun,decI id,decI (q.attempts+1),q.tenant.data.toList,q.text.data.toList]
     have hP1:P - 1+1≤P:=by omega
     exact h4.mono (Nat.le_refl _) hP1
theorem zDY {N P:Nat} {r:Raw} (h:Inv N P r) (hw:r.waiting≠[]) (ht:zCN r≠none):(zBg r).waiting.length+1=r.waiting.length:=by
 cases hw2:r.waiting with
 | nil=>exact absurd hw2 hw
 | cons c ws =>
   cases ht2:zCN r with
   | none=>exact absurd ht2 ht
   | some t =>
     obtain ⟨id,rest,q,hq,hr,hqt,hqq⟩:=zGP h ht2
     rw [zFN hw2 ht2 hq hr]
     show (rRot (zAJ {r with waiting:=ws} id) t).waiting.length+1=_
     rw [zEs,zCz];rfl
theorem Inv.serveN {N P:Nat}:∀(n:Nat) {r:Raw},Inv N P r→Inv N P (zBl n r)
 | 0,r,h=>h
 | n+1,r,h=>by
   unfold zBl
   split
   ·exact h
   ·exact Inv.serveN n h.serve1
theorem Inv.serve {N P:Nat} {r:Raw} (h:Inv N P r):Inv N P (zBe r):=h.serveN _
theorem zMB {N P:Nat} {r:Raw} (hI:Inv N P r) {id att c:Int} {a:Att} (h:rAtt r id att c=some a):a∈r.atts∧a.id=id∧a.att=att∧a.conn=c∧∃q,aget r.reqs id=some q:=by
 have h1:=List.mem_of_find?_eq_some h
 have h5:=List.find?_some h
 obtain ⟨h2,h3⟩:=List.mem_filter.1 h1
 have h3:a.id=id:=by simpa using h3
 obtain ⟨q,hq,_⟩:=hI.a.areq a h2
 simp only [Bool.and_eq_true,decide_eq_true_eq] at h5
 exact ⟨h2,h3,h5.1,h5.2,q,by rw [←h3];exact hq⟩
theorem Inv.handle {N P:Nat} {r:Raw} (h:Inv N P r) (c:Int) {m:Msg} (hm:MsgOk m):Inv (N+1) (P+4) (zAQ r c m):=by
 have hr:Inv (N+1) (P+4) r:=h.mono (by omega) (by omega)
 unfold zAQ
 split
 ·exact (h.submit c hm).mono (Nat.le_refl _) (by omega)
 ·split
  ·split
   ·rename_i q hq
    split
    ·exact ((h.say _ _).shut (q:=q) hq).mono (by omega) (by omega)
    ·exact (h.say _ _).mono (by omega) (by omega)
   ·exact (h.say _ _).mono (by omega) (by omega)
  ·split
   ·exact h.pull c
   ·split
    ·exact (h.beat c).mono (by omega) (by omega)
    ·split
     ·split
      ·rename_i a q ha hq
       obtain ⟨h1,h2,_,_,_⟩:=zMB h ha
       exact (((h.say q.conn _).end (show a∈r.atts from h1)).shut (q:=q) (by rw [zDX];exact hq)).mono (by omega) (by omega)
      ·exact hr
     ·split
      ·split
       ·rename_i a ha
        obtain ⟨h1,_⟩:=zMB h ha
        exact ((h.end h1).again _ true).mono (by omega) (by omega)
       ·exact hr
      ·split
       ·exact (h.drain c).mono (by omega) (by omega)
       ·exact hr
theorem zMC:∀(l:Bytes) (n k:Nat),zBr l n=some k→k < (n+1)*10 ^ l.length
 | [],n,k,h=>by simp [zBr] at h;subst h;simp
 | c::l,n,k,h=>by
   unfold zBr at h
   split at h
   ·rename_i hc
    have:=zMC l _ k h
    have h2:c.toNat≤57:=by have:=hc.2;exact this
    have:k < (10*n+(c.toNat - 48)+1)*10 ^ l.length:=this
    refine Nat.lt_of_lt_of_le this ?_
    rw [List.length_cons,Nat.pow_succ,Nat.mul_comm (10 ^ l.length) 10,←Nat.mul_assoc]
    exact Nat.mul_le_mul_right _ (by omega)
   ·cases h
theorem zMD {l:Bytes} {k:Nat} (h:zAr l=some k):k≤999999:=by
 unfold zAr at h
 split at h
 ·cases h
 ·rename_i hl
  split at h
  ·cases h
  ·have h1:=zMC l 0 k h
   have h2:l.length≤6:=by omega
   have h3:10 ^ l.length≤10 ^ 6:=Nat.pow_le_pow_right (by omega) h2
   omega
theorem zGQ {l:Bytes} {i:Int} (h:(do let a ←zAr l;pure (a:Int))=some i):0≤i∧i≤999999:=by
 cases hn:zAr l with
 | none=>rw [hn] at h;cases h
 | some n =>
   rw [hn] at h
   cases h
   have:=zMD hn
   constructor<;>omega
theorem zGR {l:Bytes} {i:Nat} (h:zAr l=some i):0≤(i:Int)∧(i:Int)≤999999:=by
 have:=zMD h
 constructor<;>omega
theorem zEV {c:UInt8}:∀(l:Bytes) (a:Bytes),a∈cut c l→a.length≤l.length
 | [],a,h=>by simp [cut] at h;subst h;simp
 | x::l,a,h=>by
   unfold cut at h
   split at h
   ·rcases List.mem_cons.1 h with rfl | h
    ·simp
    ·have:=zEV l a h;simp;omega
   ·have ih:=zEV (c:=c) l
    split at h
    ·simp at h;subst h;simp
    ·rename_i b r hb
     rcases List.mem_cons.1 h with rfl | h
     ·have:=ih b (by rw [hb];simp);simp;omega
     ·have:=ih a (by rw [hb];simp [h]);simp;omega
theorem zHG {l:Bytes} {m:Msg} (hl:l.length≤80) (h:zAo l=some m):MsgOk m:=by
 have hc:=fun a ha=>Nat.le_trans (zEV (c:=32) l a ha) hl
 unfold zAo at h
 split at h
 ·split at h
  ·cases h;exact ⟨by simp,by simp,by simp⟩
  ·cases h
 ·split at h
  ·simp only [Option.map_eq_some_iff] at h
   obtain ⟨i,hi,rfl⟩:=h
   exact ⟨by first | exact zGQ hi | exact zGR hi,by simp,by simp⟩
  ·cases h
 ·split at h
  ·simp only [Option.bind_eq_some_iff,Option.map_eq_some_iff] at h
   obtain ⟨i,hi,n,hn,rfl⟩:=h
   exact ⟨by first | exact zGQ hi | exact zGR hi,by simp,by simp⟩
  ·cases h
 ·rename_i k a b c hcut
  rw [hcut] at hc
  split at h
  ·simp only [Option.bind_eq_some_iff] at h
   obtain ⟨i,hi,n,hn,h⟩:=h
   split at h
   ·cases h
    exact ⟨by first | exact zGQ hi | exact zGR hi,by simp,hc c (by simp)⟩
   ·cases h
  ·split at h
   ·simp only [Option.bind_eq_some_iff] at h
    obtain ⟨i,hi,h⟩:=h
    split at h
    ·cases h
     exact ⟨by first | exact zGQ hi | exact zGR hi,hc b (by simp),hc c (by simp)⟩
    ·cases h
   ·cases h
 ·cases h
theorem zHH {l t:Bytes} (h:zBG l=some t):t.length≤80:=by
 unfold zBG at h
 split at h
 ·cases h
 ·split at h
  ·cases h;simp;omega
  ·cases h
theorem Inv.line {N P:Nat} {r:Raw} (h:Inv N P r) (c:Int) (l:Bytes):Inv (N+1) (P+4) (rLine r c l):=by
 unfold rLine
 split
 ·exact (h.say _ _).mono (by omega) (by omega)
 ·rename_i t ht
  split
  ·exact (h.say _ _).mono (by omega) (by omega)
  ·rename_i m hm
   exact (h.handle c (zHG (zHH ht) hm)).serve
theorem Inv.lines (c:Int):∀(ls:List Bytes) {N P:Nat} {r:Raw},Inv N P r→Inv (N+ls.length) (P+4*ls.length) (ls.foldl (fun r l=>rLine r c l) r)
 | [],_,_,_,h=>h
 | l::ls,N,P,r,h=>by
   have:=Inv.lines c ls (h.line c l)
   exact this.mono (by simp;omega) (by simp;omega)
theorem Inv.rest {N P:Nat} {r:Raw} (h:Inv N P r) (c:Int) (b:Bytes):Inv N P (rRest r c b):=by
 unfold rRest
 split
 ·exact h
 ·exact h.conns (zAc h.q.kcn _ _)
theorem zDi:∀(l rest:Bytes),(zAT rest l).1.length≤l.length
 | [],rest=>by simp [zAT]
 | x::l,rest=>by
   unfold zAT
   split
   ·simp only [List.length_cons];exact Nat.succ_le_succ (zDi l [])
   ·exact Nat.le_trans (zDi l _) (by simp)
theorem Inv.feed {N P:Nat} {r:Raw} (h:Inv N P r) (c:Int) (b:Bytes):Inv (N+b.length) (P+4*b.length) (rFeed r c b):=by
 unfold rFeed
 have:=zDi b (zBA (rConn r c) c)
 exact (Inv.lines c _ ((h.conn c).rest c _)).mono (by omega) (by omega)
theorem Inv.told {N P:Nat} {r:Raw} (h:Inv N P r):Inv N (P - r.out.length) (rTold r):=by
 have:=h.n.pot
 exact h.frame rfl rfl rfl h.q.kcn rfl rfl rfl rfl rfl rfl (by show 0+3*r.atts.length+4*r.waiting.length≤P - r.out.length;omega)
theorem zFO:∀{l:List Att} {a:Att},least l=some a→a∈l
 | [],a,h=>by cases h
 | b::l,a,h=>by
   unfold least at h
   split at h
   ·cases h;simp
   ·rename_i c hc
    split at h
    ·cases h;exact List.mem_cons_of_mem _ (zFO hc)
    ·cases h;simp
theorem zDj {r:Raw} {a:Att} (h:rDue r=some a):a∈r.atts:=by
 unfold rDue at h
 split at h
 ·cases h
 ·rename_i b hb
  split at h
  ·cases h;exact zFO hb
  ·cases h
theorem Inv.due1 {N P:Nat} {r:Raw} (h:Inv N P r) {a:Att} (ha:a∈r.atts):Inv N P (zAw (rStop r a) a.id true):=by
 have:=h.three ha
 exact ((h.stop ha).again a.id true).mono (Nat.le_refl _) (by omega)
theorem zJr {N P:Nat} {r:Raw} (h:Inv N P r) (id:Int) (b:Bool):(zAw r id b).atts.length≤r.atts.length:=by
 unfold zAw
 split
 ·exact Nat.le_refl _
 ·rename_i q hq
  split
  ·exact Nat.le_refl _
  ·split
   ·split
    ·rw [zEU]
     show (zAJ _ id).atts.length≤_
     rw [zET]
     have h1:=h.say q.conn [wErr,decI id]
     rw [(zGO (rOf (rSay r q.conn [wErr,decI id]) id) _ h1 (Live.of_filter h1 _)).2.2]
     exact List.length_filter_le _ _
    ·unfold zAz
     split
     ·unfold rLeft;split<;>exact Nat.le_refl _
     ·unfold rLeft;split<;>exact Nat.le_refl _
   ·unfold zAz
    split<;>exact Nat.le_refl _
theorem zME {N P:Nat} {r:Raw} (h:Inv N P r) {a:Att} (ha:a∈r.atts):(rStop r a).atts.length+1=r.atts.length:=by
 obtain ⟨q,hq,_⟩:=h.a.areq a ha
 rw [zFM hq]
 exact (zPD h.a.apw ha).symm
theorem Inv.dueAll {N P:Nat}:∀(n:Nat) {r:Raw},Inv N P r→Inv N P (zBB n r)
 | 0,r,h=>h
 | n+1,r,h=>by
   unfold zBB
   split
   ·exact h
   ·rename_i a ha
    exact Inv.dueAll n (h.due1 (zDj ha))
theorem Inv.hedge1 {N P:Nat} {r:Raw} (h:Inv N P r) (a:Att):Inv N P (zAq r a):=by
 unfold zAq
 split
 ·exact h
 ·rename_i q hq
  split
  ·rename_i hc
   simp only [Bool.and_eq_true,Bool.not_eq_true',beq_iff_eq] at hc
   have hr:=h.n.req a.id q hq
   have h2:Inv N P {r with reqs:=aset r.reqs a.id {q with hedged:=true}}:=
    ⟨h.q.set_req hq rfl rfl,h.a.set_req hq rfl (Int.le_refl _),h.n.set_req hq hr.2.2.1 hr.2.2.2.1 hr.2.2.2.2.1 hr.2.2.2.2.2.1 hr.2.2.2.2.2.2.1 hr.2.2.2.2.2.2.2⟩
   exact h2.queue (q:={q with hedged:=true}) (by simp [zAS]) hc.1.2 false
  ·exact h
theorem Inv.hedges {N P:Nat}:∀(l:List Att) {r:Raw},Inv N P r→Inv N P (l.foldl zAq r)
 | [],_,h=>h
 | a::l,_,h=>Inv.hedges l (h.hedge1 a)
theorem Inv.hedge {N P:Nat} {r:Raw} (h:Inv N P r):Inv N P (zCS r):=by
 unfold zCS
 split
 ·exact Inv.hedges _ h
 ·exact h
theorem Inv.later {N P:Nat} {r:Raw} (h:Inv N P r):Inv (N+1) P {r with now:=r.now+1}:=by
 obtain ⟨hQ,hA,hN⟩:=h
 exact ⟨⟨hQ.kreq,hQ.kqu,hQ.krun,hQ.kcn,hQ.qne,hQ.qnd,hQ.qreq,hQ.reqq,hQ.rnd,hQ.rqu⟩,⟨hA.areq,hA.apw,hA.aseq,hA.aatt,hA.runs⟩,
  ⟨hN.cfg,⟨by have:=hN.now.1;show 0≤r.now+1;omega,by have:=hN.now.2;show r.now+1≤_;omega⟩,hN.seq0,by have:=hN.seq;show r.seq+r.waiting.length≤_;omega,Nat.le_trans hN.reqs (by omega),hN.req,fun a ha=>by have:=hN.att a ha;show 0≤a.since∧a.since≤r.now+1∧0≤a.till∧a.till≤r.now+1+20;omega,hN.pot⟩⟩
theorem Inv.tick {N P:Nat} {r:Raw} (h:Inv N P r):Inv (N+1) P (rTick r):=((h.later.dueAll _).hedge).serve
theorem Inv.init {c:Cfg} (h:cfgOk c=true):Inv 0 0 (rNew c):=by
 refine ⟨⟨List.nodup_nil,List.nodup_nil,List.nodup_nil,List.nodup_nil,?_,fun t=>List.nodup_nil,?_,?_,List.nodup_nil,?_⟩,⟨?_,List.Pairwise.nil,?_,?_,fun t=>rfl⟩,⟨h,⟨Int.le_refl _,Int.le_refl _⟩,Int.le_refl _,Int.le_refl _,Nat.le_refl _,?_,?_,Nat.le_refl _⟩⟩
 ·intro t l h;cases h
 ·intro t id h;cases h
 ·intro id q h;cases h
 ·intro t
  exact ⟨fun h=>(by cases h),fun h=>absurd rfl h⟩
 ·intro a h;cases h
 ·intro a h;cases h
 ·intro a h;cases h
 ·intro id q h;cases h
 ·intro a h;cases h
def tw (g:Int→Bytes→Bytes) (o:List (Int×Bytes)) (r:Raw):Raw:={r with conns:=amap (fun c x=>{x with rest:=g c x.rest}) r.conns,out:=o++r.out}
section
variable (g:Int→Bytes→Bytes) (o:List (Int×Bytes))
theorem zIi (r:Raw) (c:Int):aget (tw g o r).conns c=(aget r.conns c).map fun x=>{x with rest:=g c x.rest}:=
 zAx (fun c (x:Cn)=>({x with rest:=g c x.rest}:Cn)) r.conns c
theorem zVr (r:Raw) (c:Int):(aget (tw g o r).conns c).isSome=(aget r.conns c).isSome:=by rw [zIi];cases aget r.conns c<;>rfl
theorem zEF (r:Raw) (c:Int) (ws:List Bytes):rSay (tw g o r) c ws=tw g o (rSay r c ws):=by
 unfold rSay tw
 simp [List.append_assoc]
theorem zVf (r:Raw) (c:Int) (x:Cn):{tw g o r with conns:=aset (tw g o r).conns c {x with rest:=g c x.rest}}=tw g o {r with conns:=aset r.conns c x}:=by
 have:=zEo (fun c (x:Cn)=>({x with rest:=g c x.rest}:Cn)) r.conns c x
 unfold tw
 simp only
 rw [←this]
theorem zRW (r:Raw) (c:Int) (h:(aget r.conns c).isSome=true):rConn (tw g o r) c=tw g o (rConn r c):=by
 unfold rConn
 rw [zVr,if_pos h,if_pos h]
theorem zVg (r:Raw) (c:Int):rBye (tw g o r) c=tw g o (rBye r c):=by
 cases h:aget r.conns c with
 | none =>
   unfold rBye
   rw [zIi,h];rfl
 | some x =>
   unfold rBye
   rw [zIi,h]
   show (if x.drains&&!x.gone&&(rHeld r c).isEmpty then rSay _ c _ else _)=_
   simp only
   split
   ·rw [←zEF,←zVf]
   ·rfl
theorem zRX (r:Raw) (a:Att):rEnd (tw g o r) a=tw g o (rEnd r a):=by
 unfold rEnd
 show (match aget r.reqs a.id with | none=>_ | some q=>_)=_
 cases aget r.reqs a.id with
 | none=>rfl
 | some q =>
   simp only
   rw [←zVg]
   congr 1
   unfold tw zAk
   simp only
   split<;>rfl
theorem zRY (r:Raw) (a:Att):rStop (tw g o r) a=tw g o (rStop r a):=by
 unfold rStop;rw [zEF,zRX]
theorem zIQ (r:Raw) (id:Int) (b:Bool):zAz (tw g o r) id b=tw g o (zAz r id b):=by
 unfold zAz
 show (match aget r.reqs id with | none=>_ | some q=>_)=_
 cases aget r.reqs id with
 | none=>rfl
 | some q=>rfl
theorem zKE (r:Raw) (id:Int):zAJ (tw g o r) id=tw g o (zAJ r id):=by
 unfold zAJ
 show (match aget r.reqs id with | none=>_ | some q=>_)=_
 cases aget r.reqs id with
 | none=>rfl
 | some q =>
   show (if !q.queued then _ else if zAH (qOf r q.tenant) id=[] then _ else _)=_
   simp only
   split
   ·rfl
   ·split<;>rfl
theorem zKy (f:Raw→Att→Raw) (hf:∀r a,f (tw g o r) a=tw g o (f r a)):∀(l:List Att) (r:Raw),l.foldl f (tw g o r)=tw g o (l.foldl f r)
 | [],_=>rfl
 | a::l,r=>by
   show l.foldl f (f (tw g o r) a)=_
   rw [hf,zKy f hf l];rfl
theorem zNm (r:Raw) (id:Int):rShut (tw g o r) id=tw g o (rShut r id):=by
 rw [zEU,zEU]
 show ({zAJ ((rOf r id).foldl rStop (tw g o r)) id with reqs:=adel (zAJ ((rOf r id).foldl rStop (tw g o r)) id).reqs id}:Raw)=_
 rw [zKy g o _ (zRY g o),zKE];rfl
theorem zVs (r:Raw) (id:Int):rLeft (tw g o r) id=tw g o (rLeft r id):=by
 unfold rLeft
 show (match aget r.reqs id with | none=>_ | some q=>_)=_
 cases aget r.reqs id<;>rfl
theorem zPF (r:Raw) (id:Int) (b:Bool):zAw (tw g o r) id b=tw g o (zAw r id b):=by
 unfold zAw
 show (match aget r.reqs id with | none=>_ | some q=>_)=_
 cases aget r.reqs id with
 | none=>rfl
 | some q =>
   show (if q.queued||!(rOf r id).isEmpty then _ else _)=_
   simp only
   split
   ·rfl
   ·rw [zEF,zNm,zVs,zIQ,zIQ]
    split
    ·split<;>rfl
    ·rfl
theorem zRZ (r:Raw):zBg (tw g o r)=tw g o (zBg r):=by
 unfold zBg
 show (match r.waiting,zCN r with | c::ws,some t=>_ | _,_=>_)=_
 cases r.waiting with
 | nil=>rfl
 | cons c ws =>
   cases zCN r with
   | none=>rfl
   | some t =>
     show (match qOf r t with | []=>_ | id::_=>_)=_
     simp only
     cases qOf r t with
     | nil=>rfl
     | cons id l =>
       show (match aget r.reqs id with | none=>_ | some q=>_)=_
       simp only
       cases aget r.reqs id with
       | none=>rfl
       | some q =>
         simp only
         rw [show ({tw g o r with waiting:=ws}:Raw)=tw g o {r with waiting:=ws} from rfl,zKE]
         generalize zAJ {r with waiting:=ws} id=r1
         rw [←zEF]
         congr 1
         show _=tw g o _
         by_cases hq:qOf r1 t=[]
         ·rw [if_pos hq,if_pos (show qOf (tw g o r1) t=[] from hq)];rfl
         ·rw [if_neg hq,if_neg (show ¬qOf (tw g o r1) t=[] from hq)];rfl
theorem zMF:∀(n:Nat) (r:Raw),zBl n (tw g o r)=tw g o (zBl n r)
 | 0,_=>rfl
 | n+1,r=>by
   unfold zBl
   show (if r.waiting=[]∨zCN r=none then _ else _)=_
   split
   ·rfl
   ·rw [zRZ,zMF n]
theorem zPG (r:Raw):zBe (tw g o r)=tw g o (zBe r):=zMF g o _ r
theorem zRa (r:Raw) (c:Int) (m:Msg):zBH (tw g o r) c m=tw g o (zBH r c m):=by
 unfold zBH
 show (if (aget r.reqs m.id).isSome=true then _ else if r.cfg.bound≤((qOf r (bs m.tenant)).length:Int) then _ else _)=_
 split
 ·rw [zEF]
 ·split
  ·rw [zEF]
  ·rw [←zIQ,←zEF];rfl
theorem zVt (r:Raw) (c:Int):rBeat (tw g o r) c=tw g o (rBeat r c):=rfl
theorem zVu (r:Raw) (c:Int) (h:(aget r.conns c).isSome=true):rPull (tw g o r) c=tw g o (rPull r c):=by
 unfold rPull
 rw [zRW g o r c h]
 simp only
 rw [zIi]
 cases hx:aget (rConn r c).conns c with
 | none=>rfl
 | some x =>
   simp only [Option.map_some]
   show (if !x.drains&&!(rConn r c).waiting.contains c then _ else _)=_
   split<;>rfl
theorem zTt (r:Raw) (c:Int) (h:(aget r.conns c).isSome=true):zEq (tw g o r) c=tw g o (zEq r c):=by
 unfold zEq
 rw [zRW g o r c h]
 simp only
 rw [zIi]
 cases hx:aget (rConn r c).conns c with
 | none=>rfl
 | some x =>
   simp only [Option.map_some]
   rw [←zVg]
   congr 1
   have:=zVf g o (rConn r c) c {x with drains:=true}
   show ({({tw g o (rConn r c) with conns:=aset (tw g o (rConn r c)).conns c {x with rest:=g c x.rest,drains:=true}}:Raw) with waiting:=zAH (rConn r c).waiting c}:Raw)=_
   rw [this];rfl
theorem zRb (r:Raw) (c:Int) (m:Msg) (h:(aget r.conns c).isSome=true):zAQ (tw g o r) c m=tw g o (zAQ r c m):=by
 unfold zAQ
 rw [zRa,zVu g o r c h,zTt g o r c h,zVt]
 split
 ·rfl
 ·split
  ·show (match aget r.reqs m.id with | some q=>_ | none=>_)=_
   cases aget r.reqs m.id with
   | none=>simp only;rw [zEF]
   | some q =>
     simp only
     split
     ·rw [zEF,zNm]
     ·rw [zEF]
  ·split
   ·rfl
   ·split
    ·rfl
    ·split
     ·show (match rAtt r m.id m.att c,aget r.reqs m.id with | some a,some q=>_ | _,_=>_)=_
      cases rAtt r m.id m.att c with
      | none=>rfl
      | some a =>
        cases aget r.reqs m.id with
        | none=>rfl
        | some q=>simp only;rw [zEF,zRX,zNm]
     ·split
      ·show (match rAtt r m.id m.att c with | some a=>_ | none=>_)=_
       cases rAtt r m.id m.att c with
       | none=>rfl
       | some a=>simp only;rw [zRX,zPF]
      ·split<;>rfl
theorem zRc (r:Raw) (c:Int) (l:Bytes) (h:(aget r.conns c).isSome=true):rLine (tw g o r) c l=tw g o (rLine r c l):=by
 unfold rLine
 cases zBG l with
 | none=>simp only;rw [zEF]
 | some t =>
   simp only
   cases zAo t with
   | none=>simp only;rw [zEF]
   | some m=>simp only;rw [zRb g o r c m h,zPG]
end
def zAh (r:Raw) (c:Int):Bool:=(aget r.conns c).isSome
theorem zEW {r:Raw} {c d:Int} {x:Cn} (h:zAh r c=true):zAh {r with conns:=aset r.conns d x} c=true:=by
 unfold zAh at h ⊢
 simp only [zAS]
 split
 ·rfl
 ·exact h
theorem zHf {r:Raw} {c d:Int} (h:zAh r c=true):zAh (rConn r d) c=true:=by
 unfold rConn
 split
 ·exact h
 ·exact zEW h
theorem zBu (r:Raw) (c:Int):zAh (rConn r c) c=true:=by
 unfold rConn
 split
 ·assumption
 ·unfold zAh;simp [zAS]
theorem zIj {r:Raw} {c d:Int} (h:zAh r c=true):zAh (rBye r d) c=true:=by
 unfold rBye
 split
 ·exact h
 ·split
  ·exact zEW h
  ·exact h
theorem zFq {r:Raw} {c:Int} {a:Att} (h:zAh r c=true):zAh (rEnd r a) c=true:=by
 unfold rEnd
 split
 ·exact h
 ·simp only
  refine zIj ?_
  split<;>exact h
theorem zGS {c:Int} (f:Raw→Att→Raw) (hf:∀r a,zAh r c=true→zAh (f r a) c=true):∀(l:List Att) (r:Raw),zAh r c=true→zAh (l.foldl f r) c=true
 | [],_,h=>h
 | a::l,r,h=>zGS f hf l (f r a) (hf r a h)
theorem zCr (r:Raw) (id:Int):(zAJ r id).conns=r.conns:=by
 unfold zAJ
 split
 ·rfl
 ·simp only;split
  ·rfl
  ·split<;>rfl
theorem zCU (r:Raw) (id:Int) (b:Bool):(zAz r id b).conns=r.conns:=by unfold zAz;split<;>rfl
theorem zEt {r:Raw} {c id:Int} (h:zAh r c=true):zAh (rShut r id) c=true:=by
 rw [zEU]
 show (aget (zAJ _ id).conns c).isSome=true
 rw [zCr]
 exact zGS rStop (fun r a h=>zFq (r:=rSay r a.conn _) h) _ r h
theorem zKz {r:Raw} {c id:Int} {b:Bool} (h:zAh r c=true):zAh (zAw r id b) c=true:=by
 unfold zAw
 split
 ·exact h
 ·split
  ·exact h
  ·split
   ·split
    ·exact zEt (r:=rSay r _ _) h
    ·unfold zAh;rw [zCU]
     unfold rLeft
     split<;>exact h
   ·unfold zAh;rw [zCU];exact h
theorem zLA (r:Raw):(zBg r).conns=r.conns:=by
 unfold zBg
 split
 ·split
  ·rfl
  ·split
   ·rfl
   ·simp only
    show (if _ then _ else _:Raw).conns=_
    split
    ·exact zCr _ _
    ·exact zCr _ _
 ·rfl
theorem zDJ:∀(n:Nat) (r:Raw),(zBl n r).conns=r.conns
 | 0,_=>rfl
 | n+1,r=>by
   unfold zBl
   split
   ·rfl
   ·rw [zDJ n,zLA]
theorem zLB {r:Raw} {c:Int} (h:zAh r c=true):zAh (zBe r) c=true:=by
 unfold zAh zBe;rw [zDJ];exact h
theorem zJs {r:Raw} {c d:Int} {m:Msg} (h:zAh r c=true):zAh (zAQ r d m) c=true:=by
 unfold zAQ
 split
 ·unfold zBH
  split
  ·exact h
  ·split
   ·exact h
   ·unfold zAh;rw [zCU];exact h
 ·split
  ·split
   ·split
    ·exact zEt (r:=rSay r _ _) h
    ·exact h
   ·exact h
  ·split
   ·unfold rPull
    have:=zHf (d:=d) h
    simp only
    split
    ·exact this
    ·split<;>exact this
   ·split
    ·exact h
    ·split
     ·split
      ·exact zEt (zFq (r:=rSay r _ _) h)
      ·exact h
     ·split
      ·split
       ·exact zKz (zFq h)
       ·exact h
      ·split
       ·unfold zEq
        have:=zHf (d:=d) h
        simp only
        split
        ·exact this
        ·exact zIj (zEW this)
       ·exact h
theorem zEu {r:Raw} {c d:Int} {l:Bytes} (h:zAh r c=true):zAh (rLine r d l) c=true:=by
 unfold rLine
 split
 ·exact h
 ·split
  ·exact h
  ·exact zLB (zJs h)
theorem zGT {c d:Int}:∀(ls:List Bytes) {r:Raw},zAh r c=true→zAh (ls.foldl (fun r l=>rLine r d l) r) c=true
 | [],_,h=>h
 | l::ls,_,h=>zGT ls (zEu h)
theorem zIR (g:Int→Bytes→Bytes) (o:List (Int×Bytes)) (c:Int):∀(ls:List Bytes) (r:Raw),zAh r c=true→ls.foldl (fun r l=>rLine r c l) (tw g o r)=tw g o (ls.foldl (fun r l=>rLine r c l) r)
 | [],_,_=>rfl
 | l::ls,r,h=>by
   show ls.foldl _ (rLine (tw g o r) c l)=_
   rw [zRc g o r c l h,zIR g o c ls (rLine r c l) (zEu h)];rfl
def gRest (c:Int) (b:Bytes):Int→Bytes→Bytes:=fun k x=>if k=c then b else x
theorem zIk {l:List (Int×Cn)} (f:Int→Cn→Cn) (h:∀k v,(k,v)∈l→f k v=v):amap f l=l:=by
 unfold amap
 conv=>rhs;rw [←List.map_id l]
 refine List.map_congr_left (fun p hp=>?_)
 show (p.1,f p.1 p.2)=p
 rw [h p.1 p.2 hp]
theorem zHg {c:Int} {x:Cn} (v:Cn):∀{l:List (Int×Cn)},(l.map Prod.fst).Nodup→aget l c=some x→aset l c v=amap (fun k y=>if k=c then v else y) l
 | [],_,h=>by cases h
 | (k,y)::l,hn,h=>by
   rw [List.map_cons,List.nodup_cons] at hn
   by_cases e:k=c
   ·subst e
    have h2:amap (fun k' y=>if k'=k then v else y) l=l:=zIk _ (fun j z hz=>by
     have:j≠k:=by rintro rfl;exact hn.1 (List.mem_map.2 ⟨_,hz,rfl⟩)
     simp [this])
    have h3:amap (fun k' y=>if k'=k then v else y) ((k,y)::l)=(k,if k=k then v else y)::amap (fun k' y=>if k'=k then v else y) l:=rfl
    rw [h3,h2]
    simp [aset]
   ·have h':aget l c=some x:=by simpa [aget,e] using h
    have:=zHg v hn.2 h'
    have h3:amap (fun k' y=>if k'=c then v else y) ((k,y)::l)=(k,if k=c then v else y)::amap (fun k' y=>if k'=c then v else y) l:=rfl
    rw [h3,←this]
    simp [aset,e]
theorem zPH {r:Raw} (hn:(r.conns.map Prod.fst).Nodup) {c:Int} (h:zAh r c=true) (b:Bytes):rRest r c b=tw (gRest c b) [] r:=by
 obtain ⟨x,hx⟩:=Option.isSome_iff_exists.1 h
 unfold rRest
 rw [hx]
 unfold tw
 simp only [List.nil_append]
 congr 1
 rw [zHg _ hn hx]
 refine zHD _ _ _ (fun k v hv=>?_)
 unfold gRest
 by_cases e:k=c
 ·subst e
  have:=zBP hn hv
  rw [hx] at this;cases this
  simp
 ·simp [e]
section
variable (g:Int→Bytes→Bytes) (o:List (Int×Bytes))
theorem zMG:∀(n:Nat) (r:Raw),zBB n (tw g o r)=tw g o (zBB n r)
 | 0,_=>rfl
 | n+1,r=>by
   unfold zBB
   show (match rDue r with | none=>_ | some a=>_)=_
   cases rDue r with
   | none=>rfl
   | some a=>simp only;rw [zRY,zPF,zMG n]
theorem zRd (r:Raw) (a:Att):zAq (tw g o r) a=tw g o (zAq r a):=by
 unfold zAq
 show (match aget r.reqs a.id with | none=>_ | some q=>_)=_
 cases aget r.reqs a.id with
 | none=>rfl
 | some q =>
   show (if !q.hedged&&!q.queued&&(rOf r a.id).length==1 then _ else _)=_
   simp only
   split
   ·rw [←zIQ];rfl
   ·rfl
theorem zTu (r:Raw):zCS (tw g o r)=tw g o (zCS r):=by
 unfold zCS
 show (if 0 < r.cfg.hedge then _ else _)=_
 split
 ·exact zKy g o _ (zRd g o) _ _
 ·rfl
theorem zRe (r:Raw):rTick (tw g o r)=tw g o (rTick r):=by
 unfold rTick
 show zBe (zCS (zBB r.atts.length (tw g o {r with now:=r.now+1})))=_
 rw [zMG,zTu,zPG]
end
def gFew:Int→Bytes→Bytes:=fun _ x=>x.take 81
def Few (r:Raw):Prop:=tw gFew [] r=r
theorem Few.iff {r:Raw}:Few r↔∀c x,(c,x)∈r.conns→x.rest.length≤81:=by
 constructor
 ·intro h c x hx
  have h1:amap (fun c (x:Cn)=>({x with rest:=gFew c x.rest}:Cn)) r.conns=r.conns:=congrArg Raw.conns h
  have h2:∀(l:List (Int×Cn)),amap (fun c (x:Cn)=>({x with rest:=gFew c x.rest}:Cn)) l=l→(c,x)∈l→x.rest.length≤81:=by
   intro l
   induction l with
   | nil=>intro _ h;cases h
   | cons p l ih =>
     intro h hm
     obtain ⟨h3,h4⟩:=List.cons.inj (show (p.1,({p.2 with rest:=gFew p.1 p.2.rest}:Cn))::amap (fun c (x:Cn)=>({x with rest:=gFew c x.rest}:Cn)) l=p::l from h)
     rcases List.mem_cons.1 hm with h5 | h5
     ·subst h5
      have h6:(x.rest.take 81)=x.rest:=congrArg (fun p:Int×Cn=>p.2.rest) h3
      rw [←h6];simp;omega
     ·exact ih h4 h5
  exact h2 r.conns h1 hx
 ·intro h
  show tw gFew [] r=r
  have:amap (fun c (x:Cn)=>({x with rest:=gFew c x.rest}:Cn)) r.conns=r.conns:=zIk _ (fun k v hv=>by
   have:=h k v hv
   show ({v with rest:=v.rest.take 81}:Cn)=v
   rw [List.take_of_length_le (by omega)])
  unfold tw
  rw [this]
  rfl
theorem Few.rest {r:Raw} (h:Few r) (c:Int):(zBA r c).length≤81:=by
 unfold zBA
 split
 ·simp
 ·rename_i x hx
  exact Few.iff.1 h c x (zBV hx)
theorem Few.init (c:Cfg):Few (rNew c):=rfl
theorem Few.conn {r:Raw} (h:Few r) (c:Int):Few (rConn r c):=by
 unfold rConn
 split
 ·exact h
 ·rw [Few.iff]
  intro d x hx
  rcases zCY hx with h1 | h1
  ·exact Few.iff.1 h d x h1
  ·rw [h1.2];simp
theorem Few.line {r:Raw} (h:Few r) (c:Int) (l:Bytes) (hc:zAh r c=true):Few (rLine r c l):=by
 show tw gFew [] (rLine r c l)=rLine r c l
 rw [←zRc gFew [] r c l hc]
 rw [show tw gFew [] r=r from h]
theorem Few.lines {r:Raw} (h:Few r) (c:Int) (ls:List Bytes) (hc:zAh r c=true):Few (ls.foldl (fun r l=>rLine r c l) r):=by
 show tw gFew [] _=_
 rw [←zIR gFew [] c ls r hc]
 rw [show tw gFew [] r=r from h]
theorem Few.put {r:Raw} (h:Few r) (c:Int) {b:Bytes} (hb:b.length≤81):Few (rRest r c b):=by
 unfold rRest
 split
 ·exact h
 ·rw [Few.iff]
  intro d x hx
  rcases zCY hx with h1 | h1
  ·exact Few.iff.1 h d x h1
  ·rw [h1.2];exact hb
theorem zDk:∀(l rest:Bytes),rest.length≤81→(∀a∈(zAT rest l).1,a.length≤81)∧(zAT rest l).2.length≤81
 | [],rest,h=>by
   refine ⟨fun a ha=>?_,h⟩
   simp [zAT] at ha
 | x::l,rest,h=>by
   unfold zAT
   split
   ·obtain ⟨h1,h2⟩:=zDk l [] (by simp)
    refine ⟨fun a ha=>?_,h2⟩
    rcases List.mem_cons.1 ha with rfl | ha
    ·exact h
    ·exact h1 a ha
   ·refine zDk l _ ?_
    split
    ·simp;omega
    ·exact h
theorem Few.feed {r:Raw} (h:Few r) (c:Int) (b:Bytes):Few (rFeed r c b):=by
 have h1:=h.conn c
 have h2:=(zDk b (zBA (rConn r c) c) (h1.rest c)).2
 unfold rFeed
 refine (h1.put c h2).lines c _ ?_
 unfold rRest
 split
 ·exact zBu r c
 ·exact zEW (zBu r c)
theorem Few.told {r:Raw} (h:Few r):Few (rTold r):=Few.iff.2 (fun c x hx=>Few.iff.1 h c x hx)
theorem Few.tick {r:Raw} (h:Few r):Few (rTick r):=by
 show tw gFew [] (rTick r)=rTick r
 rw [←zRe,show tw gFew [] r=r from h]
theorem zHh {l:Bytes} {m:Msg} (h:zAo l=some m):m.kind=kSub∨m.kind=kCan∨m.kind=kPull∨m.kind=kBeat∨m.kind=kDone∨m.kind=kFail∨m.kind=zCZ:=by
 unfold zAo at h
 split at h
 ·split at h
  ·rename_i k hk
   cases h
   rcases hk with rfl | rfl | rfl<;>simp
  ·cases h
 ·split at h
  ·rename_i hk
   simp only [Option.map_eq_some_iff] at h
   obtain ⟨i,hi,rfl⟩:=h
   simp [hk]
  ·cases h
 ·split at h
  ·rename_i hk
   simp only [Option.bind_eq_some_iff,Option.map_eq_some_iff] at h
   obtain ⟨i,hi,n,hn,rfl⟩:=h
   simp [hk]
  ·cases h
 ·split at h
  ·rename_i hk
   simp only [Option.bind_eq_some_iff] at h
   obtain ⟨i,hi,n,hn,h⟩:=h
   split at h
   ·cases h;simp [hk]
   ·cases h
  ·split at h
   ·rename_i hk
    simp only [Option.bind_eq_some_iff] at h
    obtain ⟨i,hi,h⟩:=h
    split at h
    ·cases h;simp [hk]
    ·cases h
   ·cases h
 ·cases h
end Go.Proofs.YtaejfobbogahmaaGreatDoor
