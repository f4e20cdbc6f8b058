/-
  RefP: texts of their own, joined.
-/
import Derived.Test.YtaejfobbogahmaaGreatDoorMkPure
set_option maxRecDepth 100000
set_option maxHeartbeats 16000000
set_option linter.all false
namespace Go.Proofs.YtaejfobbogahmaaGreatDoor
open Go
structure MReq where
 id:Int
 conn:Int
 tenant:ByteArray
 text:ByteArray
 n:Int
 left:Int
 hedged:Bool
structure MAtt where
 id:Int
 n:Int
 conn:Int
 since:Int
 till:Int
structure MCn where
 n:Int
 rest:Bytes
 drains:Bool
 gone:Bool
structure RefM where
 cfg:Cfg
 now:Int
 reqs:List MReq
 atts:List MAtt
 ring:List (ByteArray×List Int)
 waiting:List Int
 conns:List MCn
 out:List (Int×Bytes)
def mNew (c:Cfg):RefM:=⟨c,0,[],[],[],[],[],[]⟩
def zAl (p:Int×Req):MReq:=⟨p.1,p.2.conn,p.2.tenant,p.2.text,p.2.attempts,p.2.left,p.2.hedged⟩
def zBE (a:Att):MAtt:=⟨a.id,a.att,a.conn,a.since,a.till⟩
def mcnOf (p:Int×Cn):MCn:=⟨p.1,p.2.rest,p.2.drains,p.2.gone⟩
def refOf (r:Raw):RefM:=
 ⟨r.cfg,r.now,r.reqs.map zAl,r.atts.map zBE,r.ring.map fun t=>(t,qOf r t),r.waiting,r.conns.map mcnOf,r.out⟩
def Found {α:Type} (l:List α) (p:α→Prop) (v:Int):Prop:=
 (∃(k:Nat) (a:α),v=(k:Int)∧l[k]?=some a∧p a∧∀(j:Nat) (b:α),j < k→l[j]?=some b→¬p b)∨(v = -1∧∀b∈l,¬p b)
theorem zLU {α:Type} {l:List α} {p:α→Prop} {k:Nat} {a:α} (h:l[k]?=some a) (ha:p a) (hn:∀(j:Nat) (b:α),j < k→l[j]?=some b→¬p b):Found l p (k:Int):=.inl ⟨k,a,rfl,h,ha,hn⟩
theorem zLV {α:Type} {l:List α} {p:α→Prop} (hn:∀(j:Nat) (b:α),j < l.length→l[j]?=some b→¬p b):Found l p (-1):=.inr ⟨rfl,fun b hb=>by
 obtain ⟨j,hj,rfl⟩:=List.getElem_of_mem hb
 exact hn j _ hj (List.getElem?_eq_getElem hj)⟩
theorem zDp {α:Type} {l:List α} {p:α→Prop} {k:Nat} {a:α} (hn:∀(j:Nat) (b:α),j < k→l[j]?=some b→¬p b) (h:l[k]?=some a) (ha:¬p a):∀(j:Nat) (b:α),j < k+1→l[j]?=some b→¬p b:=fun j b hj hb=>by
 by_cases e:j=k
 ·subst e;rw [h] at hb;cases hb;exact ha
 ·exact hn j b (by omega) hb
theorem zHR {α κ:Type} [DecidableEq κ] (key:α→κ) (f:α→α):∀(l:List α) (k:Nat) (a:α),(l.map key).Nodup→l[k]?=some a→l.map (fun x=>if key x=key a then f x else x)=l.set k (f a)
 | [],_,_,_,h=>by simp at h
 | x::l,0,a,hn,h=>by
   simp at h;subst h
   rw [List.map_cons,List.nodup_cons] at hn
   simp only [List.map_cons,if_true,List.set_cons_zero]
   congr 1
   conv=>rhs;rw [←List.map_id l]
   apply List.map_congr_left
   intro y hy
   rw [if_neg (fun e=>hn.1 (by rw [←e];exact List.mem_map_of_mem hy))]
   rfl
 | x::l,k+1,a,hn,h=>by
   rw [List.map_cons,List.nodup_cons] at hn
   have h:l[k]?=some a:=by simpa using h
   have ih:=zHR key f l k a hn.2 h
   simp only [List.map_cons,List.set_cons_succ]
   rw [if_neg (fun e=>hn.1 (by rw [e];exact List.mem_map_of_mem (List.mem_of_getElem? h))),ih]
theorem zEK {α κ:Type} [DecidableEq κ] (key:α→κ):∀(l:List α) (k:Nat) (a:α),(l.map key).Nodup→l[k]?=some a→l.filter (fun x=>!decide (key x=key a))=l.take k++l.drop (k+1)
 | [],_,_,_,h=>by simp at h
 | x::l,0,a,hn,h=>by
   simp at h;subst h
   rw [List.map_cons,List.nodup_cons] at hn
   rw [List.filter_cons_of_neg (by simp)]
   show l.filter _=l
   rw [List.filter_eq_self]
   intro y hy
   simp
   intro e
   exact hn.1 (by rw [←e];exact List.mem_map_of_mem hy)
 | x::l,k+1,a,hn,h=>by
   rw [List.map_cons,List.nodup_cons] at hn
   have h:l[k]?=some a:=by simpa using h
   have ih:=zEK key l k a hn.2 h
   rw [List.filter_cons_of_pos (by simp;intro e;exact hn.1 (by rw [e];exact List.mem_map_of_mem (List.mem_of_getElem? h))),ih]
   rfl
section
variable {K V:Type} [DecidableEq K]
theorem zIX:∀{l:List (K×V)} {k:K} {x:V} (v:V),(l.map Prod.fst).Nodup→aget l k=some x→aset l k v=l.map fun p=>if p.1=k then (k,v) else p
 | [],_,_,_,_,h=>by simp [aget] at h
 | (j,y)::l,k,x,v,hn,h=>by
   rw [List.map_cons,List.nodup_cons] at hn
   unfold aset
   by_cases e:j=k
   ·subst e
    simp only [List.map_cons,if_true]
    congr 1
    conv=>lhs;rw [←List.map_id l]
    apply List.map_congr_left
    intro p hp
    rw [if_neg (fun e=>hn.1 (by show j∈_;rw [←e];exact List.mem_map_of_mem (f:=Prod.fst) hp))]
    rfl
   ·have h':aget l k=some x:=by unfold aget at h;rw [if_neg e] at h;exact h
    rw [List.map_cons,if_neg e,if_neg (show ¬(j,y).1=k from e),zIX v hn.2 h']
theorem zPZ:∀{l:List (K×V)} {k:K} (v:V),aget l k=none→aset l k v=l++[(k,v)]
 | [],_,_,_=>rfl
 | (j,y)::l,k,v,h=>by
   unfold aget at h
   by_cases e:j=k
   ·rw [if_pos e] at h;cases h
   ·rw [if_neg e] at h
    unfold aset
    rw [if_neg e,zPZ v h]
    rfl
theorem zJD:∀{l:List (K×V)} {k:K},(l.map Prod.fst).Nodup→adel l k=l.filter fun p=>!decide (p.1=k)
 | [],_,_=>rfl
 | (j,y)::l,k,hn=>by
   rw [List.map_cons,List.nodup_cons] at hn
   unfold adel
   by_cases e:j=k
   ·subst e
    rw [if_pos rfl,List.filter_cons_of_neg (by simp)]
    symm
    rw [List.filter_eq_self]
    intro p hp
    simp
    intro e
    exact hn.1 (by show j∈_;rw [←e];exact List.mem_map_of_mem (f:=Prod.fst) hp)
   ·rw [if_neg e,List.filter_cons_of_pos (by simp [e]),zJD hn.2]
theorem zDq {l:List (K×V)} {k:K} {x:V} (h:aget l k=some x):∃i:Nat,l[i]?=some (k,x):=by
 obtain ⟨i,hi,e⟩:=List.getElem_of_mem (zBV h)
 exact ⟨i,by rw [List.getElem?_eq_getElem hi,e]⟩
theorem zCR {l:List (K×V)} {k:K} {x:V} {i:Nat} (hn:(l.map Prod.fst).Nodup) (h:l[i]?=some (k,x)):aget l k=some x:=zBP hn (List.mem_of_getElem? h)
theorem zDP {α β:Type} {f g:α→Option β}:∀{l:List α},(∀x∈l,f x=g x)→l.filterMap f=l.filterMap g
 | [],_=>rfl
 | x::l,h=>by
   rw [List.filterMap_cons,List.filterMap_cons,h x List.mem_cons_self,zDP (fun y hy=>h y (List.mem_cons_of_mem _ hy))]
theorem zGg {α β:Type} (f:α→β) (p:α→Bool):∀l:List α,(l.filter p).map f=l.filterMap fun x=>if p x then some (f x) else none
 | []=>rfl
 | x::l=>by
   rw [List.filterMap_cons,←zGg f p l]
   by_cases h:p x=true
   ·rw [List.filter_cons_of_pos h,h];rfl
   ·rw [List.filter_cons_of_neg h]
    simp only [h,Bool.false_eq_true,if_false]
end
theorem zUY (r:Raw):(refOf r).reqs.map MReq.id=r.reqs.map Prod.fst:=by
 show (r.reqs.map zAl).map MReq.id=_
 rw [List.map_map];rfl
theorem zUZ {r:Raw} {k:Nat} {q:MReq} (h:(refOf r).reqs[k]?=some q):∃x,r.reqs[k]?=some (q.id,x)∧q=zAl (q.id,x):=by
 have h:(r.reqs.map zAl)[k]?=some q:=h
 rw [List.getElem?_map] at h
 obtain ⟨⟨i,x⟩,hx,rfl⟩:=Option.map_eq_some_iff.1 h
 exact ⟨x,hx,rfl⟩
theorem zGh {r:Raw} (hn:(r.reqs.map Prod.fst).Nodup) {id v:Int} (h:Found (refOf r).reqs (fun q=>q.id=id) v) :
 (∃(k:Nat) (q:Req),v=(k:Int)∧aget r.reqs id=some q∧(refOf r).reqs[k]?=some (zAl (id,q))∧r.reqs[k]?=some (id,q))∨(v = -1∧aget r.reqs id=none):=by
 rcases h with ⟨k,a,rfl,h1,h2,_⟩ | ⟨rfl,h⟩
 ·left
  obtain ⟨x,hx,e⟩:=zUZ h1
  rw [h2] at hx e
  exact ⟨k,x,rfl,zCR hn hx,by rw [h1,e],hx⟩
 ·right
  refine ⟨rfl,zHe _ _ (fun hm=>?_)⟩
  obtain ⟨p,hp,e⟩:=List.mem_map.1 hm
  exact h (zAl p) (List.mem_map_of_mem hp) e
theorem zIY {r:Raw} (hn:(r.reqs.map Prod.fst).Nodup) {id:Int} {q:Req} {k:Nat} (h:r.reqs[k]?=some (id,q)) (q':Req):(aset r.reqs id q').map zAl=(r.reqs.map zAl).set k (zAl (id,q')):=by
 rw [zIX q' hn (zCR hn h)]
 have:=zHR (key:=Prod.fst) (fun _=>(id,q')) r.reqs k (id,q) hn h
 rw [this,List.map_set]
theorem zUa {r:Raw} {id:Int} (h:aget r.reqs id=none) (q:Req):(aset r.reqs id q).map zAl=r.reqs.map zAl++[zAl (id,q)]:=by
 rw [zPZ q h,List.map_append];rfl
theorem zPa {r:Raw} (hn:(r.reqs.map Prod.fst).Nodup) {id:Int} {q:Req} {k:Nat} (h:r.reqs[k]?=some (id,q)):(adel r.reqs id).map zAl=(r.reqs.map zAl).take k++(r.reqs.map zAl).drop (k+1):=by
 rw [zJD hn]
 have:=zEK (key:=Prod.fst) r.reqs k (id,q) hn h
 rw [this,List.map_append,List.map_take,List.map_drop]
def mTen (m:RefM) (t:ByteArray):Bool:=m.ring.any fun p=>decide (p.1=t)
def mWait (m:RefM) (t:ByteArray) (id:Int) (first:Bool):RefM:=
 {m with ring:=if mTen m t then m.ring.map (fun p=>if p.1=t then (p.1,if first then id::p.2 else p.2++[id]) else p) else m.ring++[(t,[id])]}
def mLeft (m:RefM) (id:Int):RefM:={m with ring:=m.ring.filterMap fun p=>if zAH p.2 id=[] then none else some (p.1,zAH p.2 id)}
theorem zSN (r:Raw):(refOf r).ring.map Prod.fst=r.ring:=by
 show (r.ring.map fun t=>(t,qOf r t)).map Prod.fst=r.ring
 rw [List.map_map]
 exact List.map_id _
theorem zLW {r:Raw} {p:ByteArray×List Int} (h:p∈(refOf r).ring):p.1∈r.ring∧p.2=qOf r p.1:=by
 have h:p∈r.ring.map fun t=>(t,qOf r t):=h
 obtain ⟨t,ht,rfl⟩:=List.mem_map.1 h
 exact ⟨ht,rfl⟩
theorem zLX {m:RefM} {t:ByteArray}:mTen m t=true↔t∈m.ring.map Prod.fst:=by
 unfold mTen
 rw [List.any_eq_true,List.mem_map]
 constructor
 ·rintro ⟨p,h1,h2⟩;exact ⟨p,h1,by simpa using h2⟩
 ·rintro ⟨p,h1,h2⟩;exact ⟨p,h1,by simpa using h2⟩
theorem zEc {N P:Nat} {r:Raw} (hI:Inv N P r) {id:Int} {q:Req} (hq:aget r.reqs id=some q) (b:Bool):refOf (zAz r id b)=mWait (refOf r) q.tenant id b:=by
 have hR:(aset r.reqs id {q with queued:=true}).map zAl=r.reqs.map zAl:=by
  obtain ⟨k,hk⟩:=zDq hq
  rw [zIY hI.q.kreq hk]
  apply List.ext_getElem?
  intro j
  rw [List.getElem?_set]
  split
  ·next e =>
   subst e
   have:=(List.getElem?_eq_some_iff.1 hk).1
   rw [if_pos (by simpa using this),List.getElem?_map,hk]
   rfl
  ·rfl
 unfold zAz
 rw [hq]
 simp only []
 unfold mWait
 have hten:mTen (refOf r) q.tenant=true↔q.tenant∈r.ring:=by rw [zLX,zSN]
 have hmem:q.tenant∈r.ring↔qOf r q.tenant≠[]:=hI.q.rqu _
 unfold refOf at hten ⊢
 simp only [RefM.mk.injEq,true_and,and_true]
 refine ⟨hR,?_⟩
 have hQ:=fun s=>zGL {r with reqs:=aset r.reqs id {q with queued:=true},ring:=if qOf r q.tenant=[] then r.ring++[q.tenant] else r.ring} q.tenant s (if b=true then id::qOf r q.tenant else qOf r q.tenant++[id])
 by_cases h0:qOf r q.tenant=[]
 ·rw [if_neg (fun h=>hmem.1 (hten.1 h) h0),if_pos h0,List.map_append]
  congr 1
  ·apply List.map_congr_left
   intro s hs
   have hne:¬q.tenant=s:=fun e=>by subst e;exact hmem.1 hs h0
   have:=hQ s
   rw [if_neg hne] at this
   exact congrArg (Prod.mk s) this
  ·have:=hQ q.tenant
   rw [if_pos rfl] at this
   show [(q.tenant,_)]=_
   congr 2
   refine this.trans ?_
   rw [h0];cases b<;>rfl
 ·rw [if_pos (hten.2 (hmem.2 h0)),if_neg h0,List.map_map]
  apply List.map_congr_left
  intro s hs
  have:=hQ s
  by_cases e:q.tenant=s
  ·subst e
   rw [if_pos rfl] at this
   show (q.tenant,_)=(if q.tenant=q.tenant then _ else _)
   rw [if_pos rfl]
   exact congrArg (Prod.mk q.tenant) this
  ·rw [if_neg e] at this
   refine Eq.trans (congrArg (Prod.mk s) this) ?_
   exact (if_neg (fun (h:s=q.tenant)=>e h.symm)).symm
theorem zLY {N P:Nat} {r:Raw} (hI:Inv N P r) {id:Int} {q:Req} (hq:aget r.reqs id=some q):refOf (zAJ r id)=mLeft (refOf r) id:=by
 have hother:∀s,(s≠q.tenant∨q.queued=false)→id∉qOf r s:=fun s hs hm=>by
  obtain ⟨q',h1,h2,h3⟩:=hI.q.qreq s id hm
  rw [hq] at h1;cases h1
  rcases hs with h | h
  ·exact h h2.symm
  ·rw [h3] at h;cases h
 have hkeep:∀s∈r.ring,(s≠q.tenant∨q.queued=false)→(if zAH (qOf r s) id=[] then none else some (s,zAH (qOf r s) id))=some (s,qOf r s):=fun s hs h=>by
  rw [zNl (hother s h),if_neg ((hI.q.rqu s).1 hs)]
 have hR:∀q',zAl (id,q')=zAl (id,q)→(aset r.reqs id q').map zAl=r.reqs.map zAl:=fun q' he=>by
  obtain ⟨k,hk⟩:=zDq hq
  rw [zIY hI.q.kreq hk]
  apply List.ext_getElem?
  intro j
  rw [List.getElem?_set]
  split
  ·next e =>
   subst e
   have:=(List.getElem?_eq_some_iff.1 hk).1
   rw [if_pos (by simpa using this),List.getElem?_map,hk,he]
   rfl
  ·rfl
 cases hd:q.queued with
 | false =>
   rw [zEr hq hd]
   unfold mLeft refOf
   simp only [RefM.mk.injEq,true_and,and_true]
   rw [List.filterMap_map]
   symm
   rw [←List.filterMap_eq_map]
   apply zDP
   intro s hs
   exact hkeep s hs (.inr hd)
 | true =>
   by_cases hl:zAH (qOf r q.tenant) id=[]
   ·rw [zDH hq hd hl]
    unfold mLeft refOf
    simp only [RefM.mk.injEq,true_and,and_true]
    refine ⟨hR _ rfl,?_⟩
    have hQ:=fun s=>zKw {r with reqs:=aset r.reqs id {q with queued:=false},ring:=zAH r.ring q.tenant} q.tenant s hI.q.kqu
    rw [List.filterMap_map]
    refine (zGg _ _ _).trans (zDP ?_)
    intro s hs
    have:=hQ s
    by_cases e:q.tenant=s
    ·subst e
     simp [hl]
    ·rw [if_neg e] at this
     rw [if_pos (by simp;exact fun h=>e h.symm)]
     refine Eq.trans ?_ (hkeep s hs (.inl (fun h=>e h.symm))).symm
     exact congrArg (fun x=>some (s,x)) this
   ·rw [zDI hq hd hl]
    unfold mLeft refOf
    simp only [RefM.mk.injEq,true_and,and_true]
    refine ⟨hR _ rfl,?_⟩
    have hQ:=fun s=>zGL {r with reqs:=aset r.reqs id {q with queued:=false}} q.tenant s (zAH (qOf r q.tenant) id)
    rw [List.filterMap_map,←List.filterMap_eq_map]
    apply zDP
    intro s hs
    have:=hQ s
    by_cases e:q.tenant=s
    ·subst e
     rw [if_pos rfl] at this
     show some (q.tenant,_)=(if zAH (qOf r q.tenant) id=[] then none else some (q.tenant,zAH (qOf r q.tenant) id))
     rw [if_neg hl]
     exact congrArg (fun x=>some (q.tenant,x)) this
    ·rw [if_neg e] at this
     refine Eq.trans ?_ (hkeep s hs (.inl (fun h=>e h.symm))).symm
     exact congrArg (fun x=>some (s,x)) this
end Go.Proofs.YtaejfobbogahmaaGreatDoor
