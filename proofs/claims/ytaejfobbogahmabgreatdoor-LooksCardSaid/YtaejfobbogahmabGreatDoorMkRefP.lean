/-
  The document's dispatcher as plain lists: its steps; each is the raw one's. No program in sight.
-/
import Derived.Test.YtaejfobbogahmabGreatDoorMkPure
set_option maxRecDepth 100000
set_option maxHeartbeats 16000000
set_option linter.unusedVariables false
set_option linter.unusedSimpArgs false
namespace Go.Proofs.YtaejfobbogahmabGreatDoor
open Go
structure MReq where
 id:Int
 conn:Int
 tenant:ByteArray
 text:ByteArray
 n:Int
 left:Int
 hedged:Bool
structure MAtt where
 id:Int
 n:Int
 conn:Int
 since:Int
 till:Int
structure MCn where
 n:Int
 rest:Bytes
 drains:Bool
 gone:Bool
structure RefM where
 cfg:Cfg
 now:Int
 reqs:List MReq
 atts:List MAtt
 ring:List (ByteArray×List Int)
 waiting:List Int
 conns:List MCn
 out:List (Int×Bytes)
def mNew (c:Cfg):RefM:=⟨c,0,[],[],[],[],[],[]⟩
def mreqOf (p:Int×Req):MReq:=⟨p.1,p.2.conn,p.2.tenant,p.2.text,p.2.attempts,p.2.left,p.2.hedged⟩
def mattOf (a:Att):MAtt:=⟨a.id,a.att,a.conn,a.since,a.till⟩
def mcnOf (p:Int×Cn):MCn:=⟨p.1,p.2.rest,p.2.drains,p.2.gone⟩
def refOf (r:Raw):RefM:=
 ⟨r.cfg,r.now,r.reqs.map mreqOf,r.atts.map mattOf,r.ring.map fun t=>(t,qOf r t),r.waiting,r.conns.map mcnOf,r.out⟩
def Found {α:Type} (l:List α) (p:α→Prop) (v:Int):Prop:=
 (∃(k:Nat) (a:α),v=(k:Int)∧l[k]?=some a∧p a∧∀(j:Nat) (b:α),j < k→l[j]?=some b→¬p b)∨(v = -1∧∀b∈l,¬p b)
theorem found_at {α:Type} {l:List α} {p:α→Prop} {k:Nat} {a:α} (h:l[k]?=some a) (ha:p a) (hn:∀(j:Nat) (b:α),j < k→l[j]?=some b→¬p b):Found l p (k:Int):=.inl ⟨k,a,rfl,h,ha,hn⟩
theorem found_no {α:Type} {l:List α} {p:α→Prop} (hn:∀(j:Nat) (b:α),j < l.length→l[j]?=some b→¬p b):Found l p (-1):=.inr ⟨rfl,fun b hb=>by
 obtain ⟨j,hj,rfl⟩:=List.getElem_of_mem hb
 exact hn j _ hj (List.getElem?_eq_getElem hj)⟩
theorem not_next {α:Type} {l:List α} {p:α→Prop} {k:Nat} {a:α} (hn:∀(j:Nat) (b:α),j < k→l[j]?=some b→¬p b) (h:l[k]?=some a) (ha:¬p a):∀(j:Nat) (b:α),j < k+1→l[j]?=some b→¬p b:=fun j b hj hb=>by
 by_cases e:j=k
 ·subst e;rw [h] at hb;cases hb;exact ha
 ·exact hn j b (by omega) hb
theorem map_upd {α κ:Type} [DecidableEq κ] (key:α→κ) (f:α→α):∀(l:List α) (k:Nat) (a:α),(l.map key).Nodup→l[k]?=some a→l.map (fun x=>if key x=key a then f x else x)=l.set k (f a)
 | [],_,_,_,h=>by simp at h
 | x::l,0,a,hn,h=>by
   simp at h;subst h
   rw [List.map_cons,List.nodup_cons] at hn
   simp only [List.map_cons,if_true,List.set_cons_zero]
   congr 1
   conv=>rhs;rw [←List.map_id l]
   apply List.map_congr_left
   intro y hy
   rw [if_neg (fun e=>hn.1 (by rw [←e];exact List.mem_map_of_mem hy))]
   rfl
 | x::l,k+1,a,hn,h=>by
   rw [List.map_cons,List.nodup_cons] at hn
   have h:l[k]?=some a:=by simpa using h
   have ih:=map_upd key f l k a hn.2 h
   simp only [List.map_cons,List.set_cons_succ]
   rw [if_neg (fun e=>hn.1 (by rw [e];exact List.mem_map_of_mem (List.mem_of_getElem? h))),ih]
theorem filter_del {α κ:Type} [DecidableEq κ] (key:α→κ):∀(l:List α) (k:Nat) (a:α),(l.map key).Nodup→l[k]?=some a→l.filter (fun x=>!decide (key x=key a))=l.take k++l.drop (k+1)
 | [],_,_,_,h=>by simp at h
 | x::l,0,a,hn,h=>by
   simp at h;subst h
   rw [List.map_cons,List.nodup_cons] at hn
   rw [List.filter_cons_of_neg (by simp)]
   show l.filter _=l
   rw [List.filter_eq_self]
   intro y hy
   simp
   intro e
   exact hn.1 (by rw [←e];exact List.mem_map_of_mem hy)
 | x::l,k+1,a,hn,h=>by
   rw [List.map_cons,List.nodup_cons] at hn
   have h:l[k]?=some a:=by simpa using h
   have ih:=filter_del key l k a hn.2 h
   rw [List.filter_cons_of_pos (by simp;intro e;exact hn.1 (by rw [e];exact List.mem_map_of_mem (List.mem_of_getElem? h))),ih]
   rfl
section
variable {K V:Type} [DecidableEq K]
theorem aset_upd:∀{l:List (K×V)} {k:K} {x:V} (v:V),(l.map Prod.fst).Nodup→aget l k=some x→aset l k v=l.map fun p=>if p.1=k then (k,v) else p
 | [],_,_,_,_,h=>by simp [aget] at h
 | (j,y)::l,k,x,v,hn,h=>by
   rw [List.map_cons,List.nodup_cons] at hn
   unfold aset
   by_cases e:j=k
   ·subst e
    simp only [List.map_cons,if_true]
    congr 1
    conv=>lhs;rw [←List.map_id l]
    apply List.map_congr_left
    intro p hp
    rw [if_neg (fun e=>hn.1 (by show j∈_;rw [←e];exact List.mem_map_of_mem (f:=Prod.fst) hp))]
    rfl
   ·have h':aget l k=some x:=by unfold aget at h;rw [if_neg e] at h;exact h
    rw [List.map_cons,if_neg e,if_neg (show ¬(j,y).1=k from e),aset_upd v hn.2 h']
theorem aset_new:∀{l:List (K×V)} {k:K} (v:V),aget l k=none→aset l k v=l++[(k,v)]
 | [],_,_,_=>rfl
 | (j,y)::l,k,v,h=>by
   unfold aget at h
   by_cases e:j=k
   ·rw [if_pos e] at h;cases h
   ·rw [if_neg e] at h
    unfold aset
    rw [if_neg e,aset_new v h]
    rfl
theorem adel_filter:∀{l:List (K×V)} {k:K},(l.map Prod.fst).Nodup→adel l k=l.filter fun p=>!decide (p.1=k)
 | [],_,_=>rfl
 | (j,y)::l,k,hn=>by
   rw [List.map_cons,List.nodup_cons] at hn
   unfold adel
   by_cases e:j=k
   ·subst e
    rw [if_pos rfl,List.filter_cons_of_neg (by simp)]
    symm
    rw [List.filter_eq_self]
    intro p hp
    simp
    intro e
    exact hn.1 (by show j∈_;rw [←e];exact List.mem_map_of_mem (f:=Prod.fst) hp)
   ·rw [if_neg e,List.filter_cons_of_pos (by simp [e]),adel_filter hn.2]
theorem aget_idx {l:List (K×V)} {k:K} {x:V} (h:aget l k=some x):∃i:Nat,l[i]?=some (k,x):=by
 obtain ⟨i,hi,e⟩:=List.getElem_of_mem (aget_mem h)
 exact ⟨i,by rw [List.getElem?_eq_getElem hi,e]⟩
theorem aget_of_idx {l:List (K×V)} {k:K} {x:V} {i:Nat} (hn:(l.map Prod.fst).Nodup) (h:l[i]?=some (k,x)):aget l k=some x:=aget_of_mem hn (List.mem_of_getElem? h)
theorem filterMap_ext {α β:Type} {f g:α→Option β}:∀{l:List α},(∀x∈l,f x=g x)→l.filterMap f=l.filterMap g
 | [],_=>rfl
 | x::l,h=>by
   rw [List.filterMap_cons,List.filterMap_cons,h x List.mem_cons_self,filterMap_ext (fun y hy=>h y (List.mem_cons_of_mem _ hy))]
theorem map_filter_fm {α β:Type} (f:α→β) (p:α→Bool):∀l:List α,(l.filter p).map f=l.filterMap fun x=>if p x then some (f x) else none
 | []=>rfl
 | x::l=>by
   rw [List.filterMap_cons,←map_filter_fm f p l]
   by_cases h:p x=true
   ·rw [List.filter_cons_of_pos h,h];rfl
   ·rw [List.filter_cons_of_neg h]
    simp only [h,Bool.false_eq_true,if_false]
end
theorem mreqs_id (r:Raw):(refOf r).reqs.map MReq.id=r.reqs.map Prod.fst:=by
 show (r.reqs.map mreqOf).map MReq.id=_
 rw [List.map_map];rfl
theorem mreqs_at {r:Raw} {k:Nat} {q:MReq} (h:(refOf r).reqs[k]?=some q):∃x,r.reqs[k]?=some (q.id,x)∧q=mreqOf (q.id,x):=by
 have h:(r.reqs.map mreqOf)[k]?=some q:=h
 rw [List.getElem?_map] at h
 obtain ⟨⟨i,x⟩,hx,rfl⟩:=Option.map_eq_some_iff.1 h
 exact ⟨x,hx,rfl⟩
theorem found_req {r:Raw} (hn:(r.reqs.map Prod.fst).Nodup) {id v:Int} (h:Found (refOf r).reqs (fun q=>q.id=id) v) :
 (∃(k:Nat) (q:Req),v=(k:Int)∧aget r.reqs id=some q∧(refOf r).reqs[k]?=some (mreqOf (id,q))∧r.reqs[k]?=some (id,q))∨(v = -1∧aget r.reqs id=none):=by
 rcases h with ⟨k,a,rfl,h1,h2,_⟩ | ⟨rfl,h⟩
 ·left
  obtain ⟨x,hx,e⟩:=mreqs_at h1
  rw [h2] at hx e
  exact ⟨k,x,rfl,aget_of_idx hn hx,by rw [h1,e],hx⟩
 ·right
  refine ⟨rfl,aget_none_of _ _ (fun hm=>?_)⟩
  obtain ⟨p,hp,e⟩:=List.mem_map.1 hm
  exact h (mreqOf p) (List.mem_map_of_mem hp) e
theorem reqs_set {r:Raw} (hn:(r.reqs.map Prod.fst).Nodup) {id:Int} {q:Req} {k:Nat} (h:r.reqs[k]?=some (id,q)) (q':Req):(aset r.reqs id q').map mreqOf=(r.reqs.map mreqOf).set k (mreqOf (id,q')):=by
 rw [aset_upd q' hn (aget_of_idx hn h)]
 have:=map_upd (key:=Prod.fst) (fun _=>(id,q')) r.reqs k (id,q) hn h
 rw [this,List.map_set]
theorem reqs_new {r:Raw} {id:Int} (h:aget r.reqs id=none) (q:Req):(aset r.reqs id q).map mreqOf=r.reqs.map mreqOf++[mreqOf (id,q)]:=by
 rw [aset_new q h,List.map_append];rfl
theorem reqs_del {r:Raw} (hn:(r.reqs.map Prod.fst).Nodup) {id:Int} {q:Req} {k:Nat} (h:r.reqs[k]?=some (id,q)):(adel r.reqs id).map mreqOf=(r.reqs.map mreqOf).take k++(r.reqs.map mreqOf).drop (k+1):=by
 rw [adel_filter hn]
 have:=filter_del (key:=Prod.fst) r.reqs k (id,q) hn h
 rw [this,List.map_append,List.map_take,List.map_drop]
def mTen (m:RefM) (t:ByteArray):Bool:=m.ring.any fun p=>decide (p.1=t)
def mWait (m:RefM) (t:ByteArray) (id:Int) (first:Bool):RefM:=
 {m with ring:=if mTen m t then m.ring.map (fun p=>if p.1=t then (p.1,if first then id::p.2 else p.2++[id]) else p) else m.ring++[(t,[id])]}
def mLeft (m:RefM) (id:Int):RefM:={m with ring:=m.ring.filterMap fun p=>if without p.2 id=[] then none else some (p.1,without p.2 id)}
theorem ring_keys (r:Raw):(refOf r).ring.map Prod.fst=r.ring:=by
 show (r.ring.map fun t=>(t,qOf r t)).map Prod.fst=r.ring
 rw [List.map_map]
 exact List.map_id _
theorem ring_mem {r:Raw} {p:ByteArray×List Int} (h:p∈(refOf r).ring):p.1∈r.ring∧p.2=qOf r p.1:=by
 have h:p∈r.ring.map fun t=>(t,qOf r t):=h
 obtain ⟨t,ht,rfl⟩:=List.mem_map.1 h
 exact ⟨ht,rfl⟩
theorem mTen_iff {m:RefM} {t:ByteArray}:mTen m t=true↔t∈m.ring.map Prod.fst:=by
 unfold mTen
 rw [List.any_eq_true,List.mem_map]
 constructor
 ·rintro ⟨p,h1,h2⟩;exact ⟨p,h1,by simpa using h2⟩
 ·rintro ⟨p,h1,h2⟩;exact ⟨p,h1,by simpa using h2⟩
theorem refOf_queue {N P:Nat} {r:Raw} (hI:Inv N P r) {id:Int} {q:Req} (hq:aget r.reqs id=some q) (b:Bool):refOf (rQueue r id b)=mWait (refOf r) q.tenant id b:=by
 have hR:(aset r.reqs id {q with queued:=true}).map mreqOf=r.reqs.map mreqOf:=by
  obtain ⟨k,hk⟩:=aget_idx hq
  rw [reqs_set hI.q.kreq hk]
  apply List.ext_getElem?
  intro j
  rw [List.getElem?_set]
  split
  ·next e =>
   subst e
   have:=(List.getElem?_eq_some_iff.1 hk).1
   rw [if_pos (by simpa using this),List.getElem?_map,hk]
   rfl
  ·rfl
 unfold rQueue
 rw [hq]
 simp only []
 unfold mWait
 have hten:mTen (refOf r) q.tenant=true↔q.tenant∈r.ring:=by rw [mTen_iff,ring_keys]
 have hmem:q.tenant∈r.ring↔qOf r q.tenant≠[]:=hI.q.rqu _
 unfold refOf at hten ⊢
 simp only [RefM.mk.injEq,true_and,and_true]
 refine ⟨hR,?_⟩
 have hQ:=fun s=>qOf_aset {r with reqs:=aset r.reqs id {q with queued:=true},ring:=if qOf r q.tenant=[] then r.ring++[q.tenant] else r.ring} q.tenant s (if b=true then id::qOf r q.tenant else qOf r q.tenant++[id])
 by_cases h0:qOf r q.tenant=[]
 ·rw [if_neg (fun h=>hmem.1 (hten.1 h) h0),if_pos h0,List.map_append]
  congr 1
  ·apply List.map_congr_left
   intro s hs
   have hne:¬q.tenant=s:=fun e=>by subst e;exact hmem.1 hs h0
   have:=hQ s
   rw [if_neg hne] at this
   exact congrArg (Prod.mk s) this
  ·have:=hQ q.tenant
   rw [if_pos rfl] at this
   show [(q.tenant,_)]=_
   congr 2
   refine this.trans ?_
   rw [h0];cases b<;>rfl
 ·rw [if_pos (hten.2 (hmem.2 h0)),if_neg h0,List.map_map]
  apply List.map_congr_left
  intro s hs
  have:=hQ s
  by_cases e:q.tenant=s
  ·subst e
   rw [if_pos rfl] at this
   show (q.tenant,_)=(if q.tenant=q.tenant then _ else _)
   rw [if_pos rfl]
   exact congrArg (Prod.mk q.tenant) this
  ·rw [if_neg e] at this
   refine Eq.trans (congrArg (Prod.mk s) this) ?_
   exact (if_neg (fun (h:s=q.tenant)=>e h.symm)).symm
theorem refOf_unqueue {N P:Nat} {r:Raw} (hI:Inv N P r) {id:Int} {q:Req} (hq:aget r.reqs id=some q):refOf (rUnqueue r id)=mLeft (refOf r) id:=by
 have hother:∀s,(s≠q.tenant∨q.queued=false)→id∉qOf r s:=fun s hs hm=>by
  obtain ⟨q',h1,h2,h3⟩:=hI.q.qreq s id hm
  rw [hq] at h1;cases h1
  rcases hs with h | h
  ·exact h h2.symm
  ·rw [h3] at h;cases h
 have hkeep:∀s∈r.ring,(s≠q.tenant∨q.queued=false)→(if without (qOf r s) id=[] then none else some (s,without (qOf r s) id))=some (s,qOf r s):=fun s hs h=>by
  rw [without_not (hother s h),if_neg ((hI.q.rqu s).1 hs)]
 have hR:∀q',mreqOf (id,q')=mreqOf (id,q)→(aset r.reqs id q').map mreqOf=r.reqs.map mreqOf:=fun q' he=>by
  obtain ⟨k,hk⟩:=aget_idx hq
  rw [reqs_set hI.q.kreq hk]
  apply List.ext_getElem?
  intro j
  rw [List.getElem?_set]
  split
  ·next e =>
   subst e
   have:=(List.getElem?_eq_some_iff.1 hk).1
   rw [if_pos (by simpa using this),List.getElem?_map,hk,he]
   rfl
  ·rfl
 cases hd:q.queued with
 | false =>
   rw [rUnqueue_not hq hd]
   unfold mLeft refOf
   simp only [RefM.mk.injEq,true_and,and_true]
   rw [List.filterMap_map]
   symm
   rw [←List.filterMap_eq_map]
   apply filterMap_ext
   intro s hs
   exact hkeep s hs (.inr hd)
 | true =>
   by_cases hl:without (qOf r q.tenant) id=[]
   ·rw [rUnqueue_last hq hd hl]
    unfold mLeft refOf
    simp only [RefM.mk.injEq,true_and,and_true]
    refine ⟨hR _ rfl,?_⟩
    have hQ:=fun s=>qOf_adel {r with reqs:=aset r.reqs id {q with queued:=false},ring:=without r.ring q.tenant} q.tenant s hI.q.kqu
    rw [List.filterMap_map]
    refine (map_filter_fm _ _ _).trans (filterMap_ext ?_)
    intro s hs
    have:=hQ s
    by_cases e:q.tenant=s
    ·subst e
     simp [hl]
    ·rw [if_neg e] at this
     rw [if_pos (by simp;exact fun h=>e h.symm)]
     refine Eq.trans ?_ (hkeep s hs (.inl (fun h=>e h.symm))).symm
     exact congrArg (fun x=>some (s,x)) this
   ·rw [rUnqueue_more hq hd hl]
    unfold mLeft refOf
    simp only [RefM.mk.injEq,true_and,and_true]
    refine ⟨hR _ rfl,?_⟩
    have hQ:=fun s=>qOf_aset {r with reqs:=aset r.reqs id {q with queued:=false}} q.tenant s (without (qOf r q.tenant) id)
    rw [List.filterMap_map,←List.filterMap_eq_map]
    apply filterMap_ext
    intro s hs
    have:=hQ s
    by_cases e:q.tenant=s
    ·subst e
     rw [if_pos rfl] at this
     show some (q.tenant,_)=(if without (qOf r q.tenant) id=[] then none else some (q.tenant,without (qOf r q.tenant) id))
     rw [if_neg hl]
     exact congrArg (fun x=>some (q.tenant,x)) this
    ·rw [if_neg e] at this
     refine Eq.trans ?_ (hkeep s hs (.inl (fun h=>e h.symm))).symm
     exact congrArg (fun x=>some (s,x)) this
end Go.Proofs.YtaejfobbogahmabGreatDoor
