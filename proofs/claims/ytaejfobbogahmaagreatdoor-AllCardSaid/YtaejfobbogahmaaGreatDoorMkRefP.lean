/-
  RefP: texts of their own, joined.
-/
import Derived.Test.YtaejfobbogahmaaGreatDoorMkPure
set_option maxRecDepth 100000
set_option maxHeartbeats 16000000
set_option linter.all false
namespace Go.Proofs.YtaejfobbogahmaaGreatDoor
open Go
structure MReq where
 id:Int
 conn:Int
 tenant:ByteArray
 text:ByteArray
 n:Int
 left:Int
 hedged:Bool
structure MAtt where
 id:Int
 n:Int
 conn:Int
 since:Int
 till:Int
structure MCn where
 n:Int
 rest:zA
 drains:Bool
 gone:Bool
structure RefM where
 cfg:Cfg
 now:Int
 reqs:List MReq
 atts:List MAtt
 ring:List (ByteArray×List Int)
 waiting:List Int
 conns:List MCn
 out:List (Int×zA)
def mNew (c:Cfg):RefM:=⟨c,0,[],[],[],[],[],[]⟩
def zS (p:Int×Req):MReq:=⟨p.1,p.2.conn,p.2.tenant,p.2.text,p.2.attempts,p.2.left,p.2.hedged⟩
def zV (a:Att):MAtt:=⟨a.id,a.att,a.conn,a.since,a.till⟩
def yt (p:Int×Cn):MCn:=⟨p.1,p.2.rest,p.2.drains,p.2.gone⟩
def zC (r:Raw):RefM:=
 ⟨r.cfg,r.now,r.reqs.map zS,r.atts.map zV,r.ring.map fun t=>(t,qOf r t),r.waiting,r.conns.map yt,r.out⟩
def zAC {α:Type} (l:List α) (p:α→Prop) (v:Int):Prop:=
 (∃(k:Nat) (a:α),v=(k:Int)∧l[k]?=some a∧p a∧∀(j:Nat) (b:α),j < k→l[j]?=some b→¬p b)∨(v = -1∧∀b∈l,¬p b)
theorem zFr {α:Type} {l:List α} {p:α→Prop} {k:Nat} {a:α} (h:l[k]?=some a) (ha:p a) (hn:∀(j:Nat) (b:α),j < k→l[j]?=some b→¬p b):zAC l p (k:Int):=.inl ⟨k,a,rfl,h,ha,hn⟩
theorem zFs {α:Type} {l:List α} {p:α→Prop} (hn:∀(j:Nat) (b:α),j < l.length→l[j]?=some b→¬p b):zAC l p (-1):=.inr ⟨rfl,fun b hb=>by
 obtain ⟨j,hj,rfl⟩:=List.getElem_of_mem hb
 exact hn j _ hj (List.getElem?_eq_getElem hj)⟩
theorem zCG {α:Type} {l:List α} {p:α→Prop} {k:Nat} {a:α} (hn:∀(j:Nat) (b:α),j < k→l[j]?=some b→¬p b) (h:l[k]?=some a) (ha:¬p a):∀(j:Nat) (b:α),j < k+1→l[j]?=some b→¬p b:=fun j b hj hb=>by
 by_cases e:j=k
 ·subst e;rw [h] at hb;cases hb;exact ha
 ·exact hn j b (by omega) hb
theorem zDX {α κ:Type} [DecidableEq κ] (key:α→κ) (f:α→α):∀(l:List α) (k:Nat) (a:α),(l.map key).Nodup→l[k]?=some a→l.map (fun x=>if key x=key a then f x else x)=l.set k (f a)
 | [],_,_,_,h=>by simp at h
 | x::l,0,a,hn,h=>by
   simp at h;subst h
   rw [List.map_cons,List.nodup_cons] at hn
   simp only [List.map_cons,if_true,List.set_cons_zero]
   congr 1
   conv=>rhs;rw [←List.map_id l]
   apply List.map_congr_left
   intro y hy
   rw [if_neg (fun e=>hn.1 (by rw [←e];exact List.mem_map_of_mem hy))]
   rfl
 | x::l,k+1,a,hn,h=>by
   rw [List.map_cons,List.nodup_cons] at hn
   have h:l[k]?=some a:=by simpa using h
   have ih:=zDX key f l k a hn.2 h
   simp only [List.map_cons,List.set_cons_succ]
   rw [if_neg (fun e=>hn.1 (by rw [e];exact List.mem_map_of_mem (List.mem_of_getElem? h))),ih]
theorem zDB {α κ:Type} [DecidableEq κ] (key:α→κ):∀(l:List α) (k:Nat) (a:α),(l.map key).Nodup→l[k]?=some a→l.filter (fun x=>!decide (key x=key a))=l.take k++l.drop (k+1)
 | [],_,_,_,h=>by simp at h
 | x::l,0,a,hn,h=>by
   simp at h;subst h
   rw [List.map_cons,List.nodup_cons] at hn
   rw [List.filter_cons_of_neg (by simp)]
   show l.filter _=l
   rw [List.filter_eq_self]
   intro y hy
   simp
   intro e
   exact hn.1 (by rw [←e];exact List.mem_map_of_mem hy)
 | x::l,k+1,a,hn,h=>by
   rw [List.map_cons,List.nodup_cons] at hn
   have h:l[k]?=some a:=by simpa using h
   have ih:=zDB key l k a hn.2 h
   rw [List.filter_cons_of_pos (by simp;intro e;exact hn.1 (by rw [e];exact List.mem_map_of_mem (List.mem_of_getElem? h))),ih]
   rfl
section
variable {K V:Type} [DecidableEq K]
theorem zFt:∀{l:List (K×V)} {k:K} {x:V} (v:V),(l.map Prod.fst).Nodup→aget l k=some x→aset l k v=l.map fun p=>if p.1=k then (k,v) else p
 | [],_,_,_,_,h=>by simp [aget] at h
 | (j,y)::l,k,x,v,hn,h=>by
   rw [List.map_cons,List.nodup_cons] at hn
   unfold aset
   by_cases e:j=k
   ·subst e
    simp only [List.map_cons,if_true]
    congr 1
    conv=>lhs;rw [←List.map_id l]
    apply List.map_congr_left
    intro p hp
    rw [if_neg (fun e=>hn.1 (by show j∈_;rw [←e];exact List.mem_map_of_mem (f:=Prod.fst) hp))]
    rfl
   ·have h':aget l k=some x:=by unfold aget at h;rw [if_neg e] at h;exact h
    rw [List.map_cons,if_neg e,if_neg (show ¬(j,y).1=k from e),zFt v hn.2 h']
theorem zLQ:∀{l:List (K×V)} {k:K} (v:V),aget l k=none→aset l k v=l++[(k,v)]
 | [],_,_,_=>rfl
 | (j,y)::l,k,v,h=>by
   unfold aget at h
   by_cases e:j=k
   ·rw [if_pos e] at h;cases h
   ·rw [if_neg e] at h
    unfold aset
    rw [if_neg e,zLQ v h]
    rfl
theorem zDY:∀{l:List (K×V)} {k:K},(l.map Prod.fst).Nodup→adel l k=l.filter fun p=>!decide (p.1=k)
 | [],_,_=>rfl
 | (j,y)::l,k,hn=>by
   rw [List.map_cons,List.nodup_cons] at hn
   unfold adel
   by_cases e:j=k
   ·subst e
    rw [if_pos rfl,List.filter_cons_of_neg (by simp)]
    symm
    rw [List.filter_eq_self]
    intro p hp
    simp
    intro e
    exact hn.1 (by show j∈_;rw [←e];exact List.mem_map_of_mem (f:=Prod.fst) hp)
   ·rw [if_neg e,List.filter_cons_of_pos (by simp [e]),zDY hn.2]
theorem zCH {l:List (K×V)} {k:K} {x:V} (h:aget l k=some x):∃i:Nat,l[i]?=some (k,x):=by
 obtain ⟨i,hi,e⟩:=List.getElem_of_mem (xL h)
 exact ⟨i,by rw [List.getElem?_eq_getElem hi,e]⟩
theorem zCI {l:List (K×V)} {k:K} {x:V} {i:Nat} (hn:(l.map Prod.fst).Nodup) (h:l[i]?=some (k,x)):aget l k=some x:=zAG hn (List.mem_of_getElem? h)
theorem zFu {α β:Type} {f g:α→Option β}:∀{l:List α},(∀x∈l,f x=g x)→l.filterMap f=l.filterMap g
 | [],_=>rfl
 | x::l,h=>by
   rw [List.filterMap_cons,List.filterMap_cons,h x List.mem_cons_self,zFu (fun y hy=>h y (List.mem_cons_of_mem _ hy))]
theorem zLR {α β:Type} (f:α→β) (p:α→Bool):∀l:List α,(l.filter p).map f=l.filterMap fun x=>if p x then some (f x) else none
 | []=>rfl
 | x::l=>by
   rw [List.filterMap_cons,←zLR f p l]
   by_cases h:p x=true
   ·rw [List.filter_cons_of_pos h,h];rfl
   ·rw [List.filter_cons_of_neg h]
    simp only [h,Bool.false_eq_true,if_false]
end
theorem zRq (r:Raw):(zC r).reqs.map MReq.id=r.reqs.map Prod.fst:=by
 show (r.reqs.map zS).map MReq.id=_
 rw [List.map_map];rfl
theorem zLS {r:Raw} {k:Nat} {q:MReq} (h:(zC r).reqs[k]?=some q):∃x,r.reqs[k]?=some (q.id,x)∧q=zS (q.id,x):=by
 have h:(r.reqs.map zS)[k]?=some q:=h
 rw [List.getElem?_map] at h
 obtain ⟨⟨i,x⟩,hx,rfl⟩:=Option.map_eq_some_iff.1 h
 exact ⟨x,hx,rfl⟩
theorem zFv {r:Raw} (hn:(r.reqs.map Prod.fst).Nodup) {id v:Int} (h:zAC (zC r).reqs (fun q=>q.id=id) v) :
 (∃(k:Nat) (q:Req),v=(k:Int)∧aget r.reqs id=some q∧(zC r).reqs[k]?=some (zS (id,q))∧r.reqs[k]?=some (id,q))∨(v = -1∧aget r.reqs id=none):=by
 rcases h with ⟨k,a,rfl,h1,h2,_⟩ | ⟨rfl,h⟩
 ·left
  obtain ⟨x,hx,e⟩:=zLS h1
  rw [h2] at hx e
  exact ⟨k,x,rfl,zCI hn hx,by rw [h1,e],hx⟩
 ·right
  refine ⟨rfl,zJF _ _ (fun hm=>?_)⟩
  obtain ⟨p,hp,e⟩:=List.mem_map.1 hm
  exact h (zS p) (List.mem_map_of_mem hp) e
theorem zFw {r:Raw} (hn:(r.reqs.map Prod.fst).Nodup) {id:Int} {q:Req} {k:Nat} (h:r.reqs[k]?=some (id,q)) (q':Req):(aset r.reqs id q').map zS=(r.reqs.map zS).set k (zS (id,q')):=by
 rw [zFt q' hn (zCI hn h)]
 have:=zDX (key:=Prod.fst) (fun _=>(id,q')) r.reqs k (id,q) hn h
 rw [this,List.map_set]
theorem zRr {r:Raw} {id:Int} (h:aget r.reqs id=none) (q:Req):(aset r.reqs id q).map zS=r.reqs.map zS++[zS (id,q)]:=by
 rw [zLQ q h,List.map_append];rfl
theorem zLT {r:Raw} (hn:(r.reqs.map Prod.fst).Nodup) {id:Int} {q:Req} {k:Nat} (h:r.reqs[k]?=some (id,q)):(adel r.reqs id).map zS=(r.reqs.map zS).take k++(r.reqs.map zS).drop (k+1):=by
 rw [zDY hn]
 have:=zDB (key:=Prod.fst) r.reqs k (id,q) hn h
 rw [this,List.map_append,List.map_take,List.map_drop]
def mTen (m:RefM) (t:ByteArray):Bool:=m.ring.any fun p=>decide (p.1=t)
def zBD (m:RefM) (t:ByteArray) (id:Int) (first:Bool):RefM:=
 {m with ring:=if mTen m t then m.ring.map (fun p=>if p.1=t then (p.1,if first then id::p.2 else p.2++[id]) else p) else m.ring++[(t,[id])]}
def zEW (m:RefM) (id:Int):RefM:={m with ring:=m.ring.filterMap fun p=>if zD p.2 id=[] then none else some (p.1,zD p.2 id)}
theorem zRs (r:Raw):(zC r).ring.map Prod.fst=r.ring:=by
 show (r.ring.map fun t=>(t,qOf r t)).map Prod.fst=r.ring
 rw [List.map_map]
 exact List.map_id _
theorem zHx {r:Raw} {p:ByteArray×List Int} (h:p∈(zC r).ring):p.1∈r.ring∧p.2=qOf r p.1:=by
 have h:p∈r.ring.map fun t=>(t,qOf r t):=h
 obtain ⟨t,ht,rfl⟩:=List.mem_map.1 h
 exact ⟨ht,rfl⟩
theorem zHy {m:RefM} {t:ByteArray}:mTen m t=true↔t∈m.ring.map Prod.fst:=by
 unfold mTen
 rw [List.any_eq_true,List.mem_map]
 constructor
 ·rintro ⟨p,h1,h2⟩;exact ⟨p,h1,by simpa using h2⟩
 ·rintro ⟨p,h1,h2⟩;exact ⟨p,h1,by simpa using h2⟩
theorem zFx {N P:Nat} {r:Raw} (hI:Inv N P r) {id:Int} {q:Req} (hq:aget r.reqs id=some q) (b:Bool):zC (zl r id b)=zBD (zC r) q.tenant id b:=by
 have hR:(aset r.reqs id {q with queued:=true}).map zS=r.reqs.map zS:=by
  obtain ⟨k,hk⟩:=zCH hq
  rw [zFw hI.q.kreq hk]
  apply List.ext_getElem?
  intro j
  rw [List.getElem?_set]
  split
  ·next e =>
   subst e
   have:=(List.getElem?_eq_some_iff.1 hk).1
   rw [if_pos (by simpa using this),List.getElem?_map,hk]
   rfl
  ·rfl
 unfold zl
 rw [hq]
 simp only []
 unfold zBD
 have hten:mTen (zC r) q.tenant=true↔q.tenant∈r.ring:=by rw [zHy,zRs]
 have hmem:q.tenant∈r.ring↔qOf r q.tenant≠[]:=hI.q.rqu _
 unfold zC at hten ⊢
 simp only [RefM.mk.injEq,true_and,and_true]
 refine ⟨hR,?_⟩
 have hQ:=fun s=>zDz {r with reqs:=aset r.reqs id {q with queued:=true},ring:=if qOf r q.tenant=[] then r.ring++[q.tenant] else r.ring} q.tenant s (if b=true then id::qOf r q.tenant else qOf r q.tenant++[id])
 by_cases h0:qOf r q.tenant=[]
 ·rw [if_neg (fun h=>hmem.1 (hten.1 h) h0),if_pos h0,List.map_append]
  congr 1
  ·apply List.map_congr_left
   intro s hs
   have hne:¬q.tenant=s:=fun e=>by subst e;exact hmem.1 hs h0
   have:=hQ s
   rw [if_neg hne] at this
   exact congrArg (Prod.mk s) this
  ·have:=hQ q.tenant
   rw [if_pos rfl] at this
   show [(q.tenant,_)]=_
   congr 2
   refine this.trans ?_
   rw [h0];cases b<;>rfl
 ·rw [if_pos (hten.2 (hmem.2 h0)),if_neg h0,List.map_map]
  apply List.map_congr_left
  intro s hs
  have:=hQ s
  by_cases e:q.tenant=s
  ·subst e
   rw [if_pos rfl] at this
   show (q.tenant,_)=(if q.tenant=q.tenant then _ else _)
   rw [if_pos rfl]
   exact congrArg (Prod.mk q.tenant) this
  ·rw [if_neg e] at this
   refine Eq.trans (congrArg (Prod.mk s) this) ?_
   exact (if_neg (fun (h:s=q.tenant)=>e h.symm)).symm
theorem zRt {N P:Nat} {r:Raw} (hI:Inv N P r) {id:Int} {q:Req} (hq:aget r.reqs id=some q):zC (zO r id)=zEW (zC r) id:=by
 have hother:∀s,(s≠q.tenant∨q.queued=false)→id∉qOf r s:=fun s hs hm=>by
  obtain ⟨q',h1,h2,h3⟩:=hI.q.qreq s id hm
  rw [hq] at h1;cases h1
  rcases hs with h | h
  ·exact h h2.symm
  ·rw [h3] at h;cases h
 have hkeep:∀s∈r.ring,(s≠q.tenant∨q.queued=false)→(if zD (qOf r s) id=[] then none else some (s,zD (qOf r s) id))=some (s,qOf r s):=fun s hs h=>by
  rw [zOU (hother s h),if_neg ((hI.q.rqu s).1 hs)]
 have hR:∀q',zS (id,q')=zS (id,q)→(aset r.reqs id q').map zS=r.reqs.map zS:=fun q' he=>by
  obtain ⟨k,hk⟩:=zCH hq
  rw [zFw hI.q.kreq hk]
  apply List.ext_getElem?
  intro j
  rw [List.getElem?_set]
  split
  ·next e =>
   subst e
   have:=(List.getElem?_eq_some_iff.1 hk).1
   rw [if_pos (by simpa using this),List.getElem?_map,hk,he]
   rfl
  ·rfl
 cases hd:q.queued with
 | false =>
   rw [zFB hq hd]
   unfold zEW zC
   simp only [RefM.mk.injEq,true_and,and_true]
   rw [List.filterMap_map]
   symm
   rw [←List.filterMap_eq_map]
   apply zFu
   intro s hs
   exact hkeep s hs (.inr hd)
 | true =>
   by_cases hl:zD (qOf r q.tenant) id=[]
   ·rw [zEA hq hd hl]
    unfold zEW zC
    simp only [RefM.mk.injEq,true_and,and_true]
    refine ⟨hR _ rfl,?_⟩
    have hQ:=fun s=>zGv {r with reqs:=aset r.reqs id {q with queued:=false},ring:=zD r.ring q.tenant} q.tenant s hI.q.kqu
    rw [List.filterMap_map]
    refine (zLR _ _ _).trans (zFu ?_)
    intro s hs
    have:=hQ s
    by_cases e:q.tenant=s
    ·subst e
     simp [hl]
    ·rw [if_neg e] at this
     rw [if_pos (by simp;exact fun h=>e h.symm)]
     refine Eq.trans ?_ (hkeep s hs (.inl (fun h=>e h.symm))).symm
     exact congrArg (fun x=>some (s,x)) this
   ·rw [zEB hq hd hl]
    unfold zEW zC
    simp only [RefM.mk.injEq,true_and,and_true]
    refine ⟨hR _ rfl,?_⟩
    have hQ:=fun s=>zDz {r with reqs:=aset r.reqs id {q with queued:=false}} q.tenant s (zD (qOf r q.tenant) id)
    rw [List.filterMap_map,←List.filterMap_eq_map]
    apply zFu
    intro s hs
    have:=hQ s
    by_cases e:q.tenant=s
    ·subst e
     rw [if_pos rfl] at this
     show some (q.tenant,_)=(if zD (qOf r q.tenant) id=[] then none else some (q.tenant,zD (qOf r q.tenant) id))
     rw [if_neg hl]
     exact congrArg (fun x=>some (q.tenant,x)) this
    ·rw [if_neg e] at this
     refine Eq.trans ?_ (hkeep s hs (.inl (fun h=>e h.symm))).symm
     exact congrArg (fun x=>some (s,x)) this
end Go.Proofs.YtaejfobbogahmaaGreatDoor
