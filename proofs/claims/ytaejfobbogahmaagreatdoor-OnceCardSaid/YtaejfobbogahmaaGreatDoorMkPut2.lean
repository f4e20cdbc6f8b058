/-
  Put2: texts of their own, joined.
-/
import Derived.Test.YtaejfobbogahmaaGreatDoorMkTable
set_option maxRecDepth 100000
set_option maxHeartbeats 16000000
set_option linter.all false
namespace Go.Proofs.YtaejfobbogahmaaGreatDoor
open Go Go.RowKit
def Ext (R:Role) (ρ ρ':Nat→Role) (w w':World):Prop:=∀b,ρ' b=ρ b∨(ρ' b=R∧w.heap.size≤b∧b < w'.heap.size)
section
variable {w w':World} {ρ ρ':Nat→Role} {R:Role}
theorem Ext.refl:Ext R ρ ρ w w':=fun _=>.inl rfl
theorem Ext.set {g:Nat} (hg:ρ g=R∨w.heap.size≤g) (hlt:g < w'.heap.size):Ext R ρ (zf ρ g R) w w':=fun b=>by
 by_cases e:b=g
 ·subst e
  rcases hg with h | h
  ·exact .inl (by rw [zIm h])
  ·exact .inr ⟨ym _ _ _,h,hlt⟩
 ·exact .inl (zo e)
theorem Ext.keep {S:Nat→Prop} {T:Role→Prop} (hx:Ext R ρ ρ' w w') (hf:Fr S w w') (hS:∀b,b < w.heap.size→S b→¬T (ρ b)):Keep T ρ ρ' w w':=fun b hb ht=>by
 refine ⟨hf.block b hb (fun hs=>hS b hb hs ht),?_⟩
 rcases hx b with h | h
 ·exact h
 ·omega
theorem Ext.step {S:Nat→Prop} (hx:Ext R ρ ρ' w w') (hf:Fr S w w') (hS:∀b,b < w.heap.size→S b→Of ρ b):Step ρ ρ' w w':=
 ⟨hf.mono (fun b hb=>by by_cases e:b < w.heap.size;exact .inl (hS b e hb);exact .inr (by omega)),fun b hb=>by
  rcases hx b with h | h
  ·exact .inl (by unfold Of at hb ⊢;rwa [←h])
  ·exact .inr h.2.1⟩
theorem Ext.dom {G D:Nat} {L:Lay} {r:Raw} (hx:Ext R ρ ρ' w w') (h:RRep w ρ G D L r) (hs:w.heap.size≤w'.heap.size):∀b,(ρ' b).tag≠0→G≤b∧b < w'.heap.size:=fun b hb=>by
 rcases hx b with e | e
 ·rw [e] at hb
  exact ⟨(h.dom b hb).1,Nat.lt_of_lt_of_le (h.dom b hb).2 hs⟩
 ·have:=h.size;omega
end
theorem zDy {K V W:Type} [DecidableEq K] (f:K→W):∀(l:List (K×V)) {k:K} {x:V},aget l k=some x→∀y,amap (fun k _=>f k) (aset l k y)=amap (fun k _=>f k) l
 | [],_,_,h,_=>by cases h
 | (a,z)::l,k,x,h,y=>by
   unfold aget at h
   unfold aset
   by_cases e:a=k
   ·simp [e,amap]
   ·rw [if_neg e] at h
    have:=zDy f l h y
    simp only [if_neg e,amap,List.map_cons] at this ⊢
    rw [this]
theorem zDz {ρ:Nat→Role} {a b:Nat} {R R':Role} (h1:ρ a=R) (h2:ρ b=R') (h:R≠R'):a≠b:=fun e=>by subst e;exact h (h1.symm.trans h2)
section
variable {w w':World} {ρ ρ':Nat→Role} {G D:Nat} {L:Lay} {r:Raw}
theorem RRep.put_req (h:RRep w ρ G D L r) {id:Int} {x y:Req} (hx:aget r.reqs id=some x)
 (hC:w'.heap[L.req id]?=some (.cells (zAI y) 116 (0,0))) (hf:Fr (fun b=>b=L.req id) w w') :
 RRep w' ρ G D L {r with reqs:=aset r.reqs id y}∧Step ρ ρ w w':=by
 obtain ⟨h1,h2,h3,h4⟩:=h.opn
 obtain ⟨hrc,hblk⟩:=h4 id x (yQ hx)
 have k:∀T:Role→Prop,¬T (rReq id)→Keep T ρ ρ w w':=fun T hT=>Keep.of_fr hf (fun b _ hs ht=>by rw [hs,hrc] at ht;exact hT ht)
 refine ⟨⟨fun b hb=>⟨(h.dom b hb).1,Nat.lt_of_lt_of_le (h.dom b hb).2 hf.size⟩,h.disp.keep (k _ (by simp [zC,rReq])),?_,h.cns.keep (k _ (by simp [rReq])),h.qus.keep (k _ (by simp [rReq])),h.run.keep (k _ (by simp [rReq])),
  h.rng.keep (k _ (by simp [rReq])),h.wai.keep (k _ (by simp [rReq])),h.lea.keep (k _ (by simp [rReq])),h.out.keep (k _ (by simp [rReq]))⟩,
  ⟨hf.mono (fun b hb=>.inl (by rw [hb];unfold Of;rw [hrc];simp [rReq])),fun b hb=>.inl hb⟩⟩
 refine ⟨h1,?_,zw h3 _ _,?_⟩
 ·rw [zDy (fun id=>vp (L.req id)) r.reqs hx]
  exact h2.of_blk (hf.block _ h2.lt (fun e=>by rw [e,hrc] at h1;simp [rReq,rMo] at h1))
 ·intro c' z hz
  by_cases e:c'=id
  ·subst e
   have hz':z=y:=by
    have h5:=xA (zw h3 c' y) hz
    rw [zV,if_pos rfl] at h5
    exact (Option.some.inj h5).symm
   subst hz'
   exact ⟨hrc,hC⟩
  ·have hz':(c',z)∈r.reqs:=by
    rcases zAR hz with h5 | h5
    ·exact h5
    ·exact absurd h5.1 e
   obtain ⟨q1,q2⟩:=h4 c' z hz'
   refine ⟨q1,(hf.block _ (zD w q2) (fun e2=>?_)).trans q2⟩
   rw [e2,hrc] at q1
   simp [rReq] at q1
   exact e q1.symm
theorem RRep.req_blk (h:RRep w ρ G D L r) {id:Int} {x:Req} (hx:aget r.reqs id=some x):w.heap[L.req id]?=some (.cells (zAI x) 116 (0,0)):=(h.opn.2.2.2 id x (yQ hx)).2
theorem RRep.put_ring (h:RRep w ρ G D L r) {v:Value} {l:List ByteArray} (hx:Ext zT ρ ρ' w w')
 (hD:w'.heap[D]?=some (.cells (yR {L with ring:=v} r.cfg r.now r.seq) 81 (0,0))) (hs:SlAt w' 9 1 (fun b=>ρ' b=zT) v l.length (l.map encS)) (hf:Fr (fun b=>b=D∨ρ' b=zT) w w') :
 RRep w' ρ' G D {L with ring:=v} {r with ring:=l}∧Step ρ ρ' w w':=by
 have hDr:=h.disp.1
 have hS:∀(T:Role→Prop),¬T zC→¬T zT→∀b,b < w.heap.size→(b=D∨ρ' b=zT)→¬T (ρ b):=fun T h1 h2 b hb hs ht=>by
  rcases hs with rfl | hs
  ·rw [hDr] at ht;exact h1 ht
  ·rcases hx b with e | e
   ·rw [←e,hs] at ht;exact h2 ht
   ·omega
 have k:∀T:Role→Prop,¬T zC→¬T zT→Keep T ρ ρ' w w':=fun T h1 h2=>hx.keep hf (hS T h1 h2)
 have hD':ρ' D=zC:=by
  rcases hx D with e | e
  ·rw [e,hDr]
  ·have:=h.size;omega
 refine ⟨⟨hx.dom h hf.size,⟨hD',hD⟩,h.opn.keep (k _ (by simp [zC]) (by simp [zT])),h.cns.keep (k _ (by simp [zC]) (by simp [zT])),
  h.qus.keep (k _ (by simp [zC]) (by simp [zT])),h.run.keep (k _ (by simp [zC]) (by simp [zT])),hs,h.wai.keep (k _ (by simp [zC]) (by simp [zT])),h.lea.keep (k _ (by simp [zC]) (by simp [zT])),h.out.keep (k _ (by simp [zC]) (by simp [zT]))⟩,
  hx.step hf (fun b hb hs=>?_)⟩
 unfold Of
 rcases hs with rfl | hs
 ·rw [hDr];simp [zC]
 ·rcases hx b with e | e
  ·rw [←e,hs];simp [zT]
  ·omega
theorem RRep.put_wait (h:RRep w ρ G D L r) {v:Value} {l:List Int} (hx:Ext zd ρ ρ' w w')
 (hD:w'.heap[D]?=some (.cells (yR {L with waiting:=v} r.cfg r.now r.seq) 81 (0,0))) (hs:SlAt w' 3 1 (fun b=>ρ' b=zd) v l.length (l.map encI)) (hf:Fr (fun b=>b=D∨ρ' b=zd) w w') :
 RRep w' ρ' G D {L with waiting:=v} {r with waiting:=l}∧Step ρ ρ' w w':=by
 have hDr:=h.disp.1
 have hS:∀(T:Role→Prop),¬T zC→¬T zd→∀b,b < w.heap.size→(b=D∨ρ' b=zd)→¬T (ρ b):=fun T h1 h2 b hb hs ht=>by
  rcases hs with rfl | hs
  ·rw [hDr] at ht;exact h1 ht
  ·rcases hx b with e | e
   ·rw [←e,hs] at ht;exact h2 ht
   ·omega
 have k:∀T:Role→Prop,¬T zC→¬T zd→Keep T ρ ρ' w w':=fun T h1 h2=>hx.keep hf (hS T h1 h2)
 have hD':ρ' D=zC:=by
  rcases hx D with e | e
  ·rw [e,hDr]
  ·have:=h.size;omega
 refine ⟨⟨hx.dom h hf.size,⟨hD',hD⟩,h.opn.keep (k _ (by simp [zC]) (by simp [zd])),h.cns.keep (k _ (by simp [zC]) (by simp [zd])),
  h.qus.keep (k _ (by simp [zC]) (by simp [zd])),h.run.keep (k _ (by simp [zC]) (by simp [zd])),h.rng.keep (k _ (by simp [zC]) (by simp [zd])),hs,h.lea.keep (k _ (by simp [zC]) (by simp [zd])),h.out.keep (k _ (by simp [zC]) (by simp [zd]))⟩,
  hx.step hf (fun b hb hs=>?_)⟩
 unfold Of
 rcases hs with rfl | hs
 ·rw [hDr];simp [zC]
 ·rcases hx b with e | e
  ·rw [←e,hs];simp [zd]
  ·omega
theorem RRep.put_qu (h:RRep w ρ G D L r) {t:ByteArray} {v:Value} {l:List Int} (hx:Ext (rQu t) ρ ρ' w w')
 (hM:zN encS w' L.mq (aset (amap (fun t _=>L.qu t) r.queues) t v)) (hs:SlAt w' 3 1 (fun b=>ρ' b=rQu t) v l.length (l.map encI)) (hf:Fr (fun b=>b=L.mq∨ρ' b=rQu t) w w') :
 RRep w' ρ' G D {L with qu:=fun s=>if s=t then v else L.qu s} {r with queues:=aset r.queues t l}∧Step ρ ρ' w w':=by
 obtain ⟨h1,h2,h3,h4⟩:=h.qus
 have hS:∀(T:Role→Prop),¬T rMq→¬T (rQu t)→∀b,b < w.heap.size→(b=L.mq∨ρ' b=rQu t)→¬T (ρ b):=fun T g1 g2 b hb hs ht=>by
  rcases hs with rfl | hs
  ·rw [h1] at ht;exact g1 ht
  ·rcases hx b with e | e
   ·rw [←e,hs] at ht;exact g2 ht
   ·omega
 have k:∀T:Role→Prop,¬T rMq→¬T (rQu t)→Keep T ρ ρ' w w':=fun T h1 h2=>hx.keep hf (hS T h1 h2)
 have hmq:ρ' L.mq=rMq:=by
  rcases hx L.mq with e | e
  ·rw [e,h1]
  ·have:=h2.lt;omega
 refine ⟨⟨hx.dom h hf.size,h.disp.keep (k _ (by simp [zC,rMq]) (by simp [rQu,zC])),h.opn.keep (k _ (by simp [rMq]) (by simp [rQu])),h.cns.keep (k _ (by simp [rMq]) (by simp [rQu])),
  ⟨hmq,?_,zw h3 _ _,?_⟩,h.run.keep (k _ (by simp [rMq]) (by simp [rQu])),h.rng.keep (k _ (by simp [rMq]) (by simp [rQu])),h.wai.keep (k _ (by simp [rMq]) (by simp [rQu])),h.lea.keep (k _ (by simp [rMq]) (by simp [rQu])),h.out.keep (k _ (by simp [rMq]) (by simp [rQu]))⟩,
  hx.step hf (fun b hb hs=>?_)⟩
 ·have hA:amap (fun s (_:List Int)=>if s=t then v else L.qu s) (aset r.queues t l)=aset (amap (fun t (_:List Int)=>L.qu t) r.queues) t v:=by
   have e1:∀(q:List (ByteArray×List Int)),(q.map Prod.fst).Nodup→amap (fun s (_:List Int)=>if s=t then v else L.qu s) (aset q t l)=aset (amap (fun t (_:List Int)=>L.qu t) q) t v:=by
    intro q hq
    induction q with
    | nil=>simp [aset,amap]
    | cons p q ih =>
      obtain ⟨a,z⟩:=p
      simp only [List.map_cons,List.nodup_cons] at hq
      have ih:=ih hq.2
      unfold aset
      by_cases e:a=t
      ·subst e
       have hno:∀p∈q,(if p.1=a then v else L.qu p.1)=L.qu p.1:=fun p hp=>if_neg (fun (e:p.1=a)=>hq.1 (by rw [←e];exact List.mem_map.2 ⟨p,hp,rfl⟩))
       simp only [if_true,amap,List.map_cons]
       rw [List.map_congr_left (fun p hp=>by rw [hno p hp])]
      ·simp only [if_neg e,amap,List.map_cons] at ih ⊢
       rw [ih]
   exact e1 _ h3
  rw [hA];exact hM
 ·intro s z hz
  by_cases e:s=t
  ·subst e
   have hz':z=l:=by
    have h5:=xA (zw h3 s l) hz
    rw [zV,if_pos rfl] at h5
    exact (Option.some.inj h5).symm
   subst hz'
   show SlAt w' _ 1 _ (if s=s then v else L.qu s) _ _
   rw [if_pos rfl];exact hs
  ·have hz':(s,z)∈r.queues:=by
    rcases zAR hz with h5 | h5
    ·exact h5
    ·exact absurd h5.1 e
   show SlAt w' _ 1 _ (if s=t then v else L.qu s) _ _
   rw [if_neg e]
   exact (h4 s z hz').keep (k _ (by simp [rMq,rQu]) (by intro e2;simp [rQu] at e2;exact e e2.symm))
 ·unfold Of
  rcases hs with rfl | hs
  ·rw [h1];simp [rMq]
  ·rcases hx b with e | e
   ·rw [←e,hs];simp [rQu]
   ·omega
theorem RRep.del_qu (h:RRep w ρ G D L r) {t:ByteArray} (hM:zN encS w' L.mq (adel (amap (fun t _=>L.qu t) r.queues) t)) (hf:Fr (fun b=>b=L.mq∨ρ b=rQu t) w w') :
 RRep w' ρ G D L {r with queues:=adel r.queues t}∧Step ρ ρ w w':=by
 obtain ⟨h1,h2,h3,h4⟩:=h.qus
 have k:∀T:Role→Prop,¬T rMq→¬T (rQu t)→Keep T ρ ρ w w':=fun T g1 g2=>Keep.of_fr hf (fun b _ hb ht=>by
  rcases hb with e | e
  ·rw [e,h1] at ht;exact g1 ht
  ·rw [e] at ht;exact g2 ht)
 refine ⟨⟨fun b hb=>⟨(h.dom b hb).1,Nat.lt_of_lt_of_le (h.dom b hb).2 hf.size⟩,h.disp.keep (k _ (by simp [zC,rMq]) (by simp [rQu,zC])),h.opn.keep (k _ (by simp [rMq]) (by simp [rQu])),h.cns.keep (k _ (by simp [rMq]) (by simp [rQu])),
  ⟨h1,?_,zAQ h3 _,?_⟩,h.run.keep (k _ (by simp [rMq]) (by simp [rQu])),h.rng.keep (k _ (by simp [rMq]) (by simp [rQu])),h.wai.keep (k _ (by simp [rMq]) (by simp [rQu])),h.lea.keep (k _ (by simp [rMq]) (by simp [rQu])),h.out.keep (k _ (by simp [rMq]) (by simp [rQu]))⟩,
  ⟨hf.mono (fun b hb=>.inl (by
   unfold Of
   rcases hb with e | e
   ·rw [e,h1];simp [rMq]
   ·rw [e];simp [rQu])),fun b hb=>.inl hb⟩⟩
 ·rw [←zAq];exact hM
 ·intro s z hz
  have hz':=(zBc r.queues t).mem hz
  have hst:s≠t:=fun e=>by
   have h5:=xA (zAQ h3 t) hz
   rw [zBH _ _ _ h3,if_pos e.symm] at h5
   cases h5
  exact (h4 s z hz').keep (k _ (by simp [rMq,rQu]) (by intro e2;simp [rQu] at e2;exact hst e2.symm))
theorem RRep.put_runs (h:RRep w ρ G D L r) {l:List (ByteArray×Int)} (hM:zN encS w' L.mr (amap (fun _ n=>vi n) l)) (hn:(l.map Prod.fst).Nodup) (hf:Fr (fun b=>b=L.mr) w w') :
 RRep w' ρ G D L {r with runs:=l}∧Step ρ ρ w w':=by
 obtain ⟨h1,h2,h3⟩:=h.run
 have k:∀T:Role→Prop,¬T rMr→Keep T ρ ρ w w':=fun T hT=>Keep.of_fr hf (fun b _ hs ht=>by rw [hs,h1] at ht;exact hT ht)
 exact ⟨⟨fun b hb=>⟨(h.dom b hb).1,Nat.lt_of_lt_of_le (h.dom b hb).2 hf.size⟩,h.disp.keep (k _ (by simp [zC,rMr])),h.opn.keep (k _ (by simp [rMr])),h.cns.keep (k _ (by simp [rMr])),h.qus.keep (k _ (by simp [rMr])),
  ⟨h1,hM,hn⟩,h.rng.keep (k _ (by simp [rMr])),h.wai.keep (k _ (by simp [rMr])),h.lea.keep (k _ (by simp [rMr])),h.out.keep (k _ (by simp [rMr]))⟩,
  ⟨hf.mono (fun b hb=>.inl (by rw [hb];unfold Of;rw [h1];simp [rMr])),fun b hb=>.inl hb⟩⟩
theorem RRep.del_req (h:RRep w ρ G D L r) {id:Int} (hM:zN encI w' L.mo (adel (amap (fun id _=>vp (L.req id)) r.reqs) id)) (hf:Fr (fun b=>b=L.mo) w w') :
 RRep w' ρ G D L {r with reqs:=adel r.reqs id}∧Step ρ ρ w w':=by
 obtain ⟨h1,h2,h3,h4⟩:=h.opn
 have k:∀T:Role→Prop,¬T rMo→Keep T ρ ρ w w':=fun T hT=>Keep.of_fr hf (fun b _ hs ht=>by rw [hs,h1] at ht;exact hT ht)
 refine ⟨⟨fun b hb=>⟨(h.dom b hb).1,Nat.lt_of_lt_of_le (h.dom b hb).2 hf.size⟩,h.disp.keep (k _ (by simp [zC,rMo])),⟨h1,by rw [←zAq];exact hM,zAQ h3 _,?_⟩,h.cns.keep (k _ (by simp [rMo])),h.qus.keep (k _ (by simp [rMo])),
  h.run.keep (k _ (by simp [rMo])),h.rng.keep (k _ (by simp [rMo])),h.wai.keep (k _ (by simp [rMo])),h.lea.keep (k _ (by simp [rMo])),h.out.keep (k _ (by simp [rMo]))⟩,
  ⟨hf.mono (fun b hb=>.inl (by rw [hb];unfold Of;rw [h1];simp [rMo])),fun b hb=>.inl hb⟩⟩
 intro s z hz
 obtain ⟨q1,q2⟩:=h4 s z ((zBc r.reqs id).mem hz)
 exact ⟨q1,(hf.block _ (zD w q2) (zDz q1 h1 (by simp [rReq,rMo]))).trans q2⟩
theorem RRep.new_req (h:RRep w ρ G D L r) {id:Int} {x:Req} {A:Nat} (hx:aget r.reqs id=none) (hA:w.heap.size≤A) (hC:w'.heap[A]?=some (.cells (zAI x) 116 (0,0)))
 (hM:zN encI w' L.mo (aset (amap (fun id _=>vp (L.req id)) r.reqs) id (vp A))) (hf:Fr (fun b=>b=L.mo∨b=A) w w') :
 RRep w' (zf ρ A (rReq id)) G D {L with req:=fun i=>if i=id then A else L.req i} {r with reqs:=aset r.reqs id x}∧Step ρ (zf ρ A (rReq id)) w w':=by
 obtain ⟨h1,h2,h3,h4⟩:=h.opn
 have hE:Ext (rReq id) ρ (zf ρ A (rReq id)) w w':=Ext.set (.inr hA) (zD w' hC)
 have hS:∀(T:Role→Prop),¬T rMo→∀b,b < w.heap.size→(b=L.mo∨b=A)→¬T (ρ b):=fun T g1 b hb hs ht=>by
  rcases hs with rfl | hs
  ·rw [h1] at ht;exact g1 ht
  ·omega
 have k:∀T:Role→Prop,¬T rMo→Keep T ρ (zf ρ A (rReq id)) w w':=fun T h1=>hE.keep hf (hS T h1)
 have hmo:zf ρ A (rReq id) L.mo=rMo:=by rw [zo (by have:=h2.lt;omega)];exact h1
 have hnone:∀z,(id,z)∉r.reqs:=fun z hz=>by rw [xA h3 hz] at hx;cases hx
 refine ⟨⟨hE.dom h hf.size,h.disp.keep (k _ (by simp [zC,rMo])),⟨hmo,?_,zw h3 _ _,?_⟩,h.cns.keep (k _ (by simp [rMo])),h.qus.keep (k _ (by simp [rMo])),
  h.run.keep (k _ (by simp [rMo])),h.rng.keep (k _ (by simp [rMo])),h.wai.keep (k _ (by simp [rMo])),h.lea.keep (k _ (by simp [rMo])),h.out.keep (k _ (by simp [rMo]))⟩,
  hE.step hf (fun b hb hs=>?_)⟩
 ·have:amap (fun i (_:Req)=>vp (if i=id then A else L.req i)) (aset r.reqs id x)=aset (amap (fun id (_:Req)=>vp (L.req id)) r.reqs) id (vp A):=by
   rw [←zEt (fun i (_:Req)=>vp (if i=id then A else L.req i)) (fun i _=>vp (L.req i)) r.reqs (fun i z hz=>by rw [if_neg (fun (e:i=id)=>hnone z (by rw [←e];exact hz))]),←zBI (fun i (_:Req)=>vp (if i=id then A else L.req i)) r.reqs id x,if_pos rfl]
  rw [this];exact hM
 ·intro s z hz
  by_cases e:s=id
  ·subst e
   have hz':z=x:=by
    have h5:=xA (zw h3 s x) hz
    rw [zV,if_pos rfl] at h5
    exact (Option.some.inj h5).symm
   subst hz'
   show zf ρ A (rReq s) (if s=s then A else L.req s)=_∧w'.heap[if s=s then A else L.req s]?=_
   rw [if_pos rfl];exact ⟨ym _ _ _,hC⟩
  ·have hz':(s,z)∈r.reqs:=by
    rcases zAR hz with h5 | h5
    ·exact h5
    ·exact absurd h5.1 e
   obtain ⟨q1,q2⟩:=h4 s z hz'
   show zf ρ A (rReq id) (if s=id then A else L.req s)=_∧w'.heap[if s=id then A else L.req s]?=_
   rw [if_neg e]
   have hl:=zD w q2
   exact ⟨by rw [zo (by omega)];exact q1,(hf.block _ hl (by
    rintro (e2 | e2)
    ·rw [e2,h1] at q1;simp [rMo,rReq] at q1
    ·omega)).trans q2⟩
 ·unfold Of
  rcases hs with rfl | hs
  ·rw [h1];simp [rMo]
  ·omega
theorem RRep.del_cn (h:RRep w ρ G D L r) {c:Int} (hM:zN encI w' L.mc (adel (amap (fun c _=>vp (L.cn c)) r.conns) c)) (hf:Fr (fun b=>b=L.mc) w w') :
 RRep w' ρ G D L {r with conns:=adel r.conns c}∧Step ρ ρ w w':=by
 obtain ⟨h1,h2,h3,h4⟩:=h.cns
 have k:∀T:Role→Prop,¬T rMc→Keep T ρ ρ w w':=fun T hT=>Keep.of_fr hf (fun b _ hs ht=>by rw [hs,h1] at ht;exact hT ht)
 refine ⟨⟨fun b hb=>⟨(h.dom b hb).1,Nat.lt_of_lt_of_le (h.dom b hb).2 hf.size⟩,h.disp.keep (k _ (by simp [zC,rMc])),h.opn.keep (k _ (by simp [rMc])),⟨h1,by rw [←zAq];exact hM,zAQ h3 _,?_⟩,h.qus.keep (k _ (by simp [rMc])),
  h.run.keep (k _ (by simp [rMc])),h.rng.keep (k _ (by simp [rMc])),h.wai.keep (k _ (by simp [rMc])),h.lea.keep (k _ (by simp [rMc])),h.out.keep (k _ (by simp [rMc]))⟩,
  ⟨hf.mono (fun b hb=>.inl (by rw [hb];unfold Of;rw [h1];simp [rMc])),fun b hb=>.inl hb⟩⟩
 intro s z hz
 obtain ⟨q1,q2,q3⟩:=h4 s z ((zBc r.conns c).mem hz)
 exact ⟨q1,(hf.block _ (zD w q2) (zDz q1 h1 (by simp [rCn,rMc]))).trans q2,q3.keep (k _ (by simp [zq,rMc]))⟩
theorem RRep.put_now (h:RRep w ρ G D L r) {n:Int} (hD:w'.heap[D]?=some (.cells (yR L r.cfg n r.seq) 81 (0,0))) (hf:Fr (fun b=>b=D) w w') :
 RRep w' ρ G D L {r with now:=n}∧Step ρ ρ w w':=by
 have hDr:=h.disp.1
 have k:∀T:Role→Prop,¬T zC→Keep T ρ ρ w w':=fun T hT=>Keep.of_fr hf (fun b _ hs ht=>by rw [hs,hDr] at ht;exact hT ht)
 exact ⟨⟨fun b hb=>⟨(h.dom b hb).1,Nat.lt_of_lt_of_le (h.dom b hb).2 hf.size⟩,⟨hDr,hD⟩,h.opn.keep (k _ (by simp [zC])),h.cns.keep (k _ (by simp [zC])),h.qus.keep (k _ (by simp [zC])),h.run.keep (k _ (by simp [zC])),
  h.rng.keep (k _ (by simp [zC])),h.wai.keep (k _ (by simp [zC])),h.lea.keep (k _ (by simp [zC])),h.out.keep (k _ (by simp [zC]))⟩,
  ⟨hf.mono (fun b hb=>.inl (by rw [hb];unfold Of;rw [hDr];simp [zC])),fun b hb=>.inl hb⟩⟩
end
theorem St.same {w w':World} {ρ:Nat→Role} {G D:Nat} {L:Lay} {r:Raw} (h:RRep w ρ G D L r) (hf:Fr (fun _=>False) w w') (ka kr kc:Bool):St ka kr kc w ρ G D L r w':=
 ⟨ρ,L,h.of_fr hf (fun _ f=>f.elim),⟨hf.mono (fun _ f=>f.elim),fun b hb=>.inl hb⟩,fun _=>rfl,fun _=>rfl,fun _=>rfl⟩
theorem St.trans {w w1 w2:World} {ρ ρ1:Nat→Role} {G D:Nat} {L L1:Lay} {r':Raw} {ka kr kc:Bool} (hs:Step ρ ρ1 w w1) (ha:ka=true→L1.att=L.att) (hr:kr=true→L1.req=L.req) (hc:kc=true→L1.cn=L.cn) (h:St ka kr kc w1 ρ1 G D L1 r' w2):St ka kr kc w ρ G D L r' w2:=by
 obtain ⟨ρ2,L2,h1,h2,h3,h4,h5⟩:=h
 exact ⟨ρ2,L2,h1,hs.trans h2,fun e=>(h3 e).trans (ha e),fun e=>(h4 e).trans (hr e),fun e=>(h5 e).trans (hc e)⟩
def xp (ka kr kc:Bool) (w:World) (ρ:Nat→Role) (G D:Nat) (L:Lay) (r':Raw) (e:Ending) (w':World):Prop:=e=.returned (.tuple #[])∧St ka kr kc w ρ G D L r' w'
end Go.Proofs.YtaejfobbogahmaaGreatDoor
