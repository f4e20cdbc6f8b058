/-
  MCut MServe: texts of their own, joined.
-/
import Derived.Test.YtaejfobbogahmaaGreatDoorMkMShut
set_option maxRecDepth 100000
set_option maxHeartbeats 16000000
set_option linter.all false
namespace Go.Proofs.YtaejfobbogahmaaGreatDoor
open Go Go.RowKit
section
variable {w w' w1 w2 w3 wr:World} {ρ:Nat→Role} {G M:Nat} {L:MLay} {m:RefM}
theorem zNO {ids:ByteArray→Value} {t:ByteArray}:∀{l:List (ByteArray×List Int)},(∀p∈l,p.1≠t)→∀v,yg ids l=yg (fun s=>if s=t then v else ids s) l
 | [],_,_=>rfl
 | p::l,h,v=>by
   have ih:=zNO (ids:=ids) (l:=l) (fun q hq=>h q (List.mem_cons_of_mem _ hq)) v
   unfold yg at ih ⊢
   rw [List.flatMap_cons,List.flatMap_cons,ih]
   simp [h p List.mem_cons_self]
def zIl (cap off o2 c2:Nat):Prop:=(cap=1∧o2=off∧c2=0)∨(cap≠1∧o2=off+1∧c2=cap - 1)
theorem zNP {T:TypeId} {own:Nat→Prop} {b off n cap o2 c2:Nat} {x:Value} {xs:List Value} (h:SlAt w T 1 own (.slice (some ⟨b,off,none⟩) (n+1) cap) (n+1) (x::xs)) (ho:zIl cap off o2 c2):SlAt w T 1 own (.slice (some ⟨b,o2,none⟩) n c2) n xs:=by
 rcases ho with ⟨h1,rfl,rfl⟩ | ⟨h1,rfl,rfl⟩
 ·have:=zGI h (i:=1) (by omega) h1
  simpa using this
 ·have:=zGH h (i:=1) (by omega)
  simpa using this
theorem zNQ (h:MRep w ρ G M L m) {b off n cap o2 c2:Nat} {c:Int} {ws:List Int} (hv:L.waiting=.slice (some ⟨b,off,none⟩) (n+1) cap) (hw:m.waiting=c::ws) (hn:ws.length=n) (ho:zIl cap off o2 c2) :
 ∃ρ',MRep (w.setCell ⟨M,9,none⟩ (.slice (some ⟨b,o2,none⟩) n c2)) ρ' G M {L with waiting:=.slice (some ⟨b,o2,none⟩) n c2} {m with waiting:=ws}∧Step ρ ρ' w (w.setCell ⟨M,9,none⟩ (.slice (some ⟨b,o2,none⟩) n c2)):=by
 have hs:=h.waiting
 rw [hv,hw,List.length_cons,hn,List.map_cons] at hs
 have hs2:=zNP hs ho
 obtain ⟨hb,_,_⟩:=zBf hs
 have hb:ρ b=yQ:=hb
 have hbM:b≠M:=by rintro rfl;rw [h.mod.1] at hb;exact absurd (congrArg Role.tag hb) (by decide)
 exact h.put_waitingE (own:=fun x=>ρ x=yQ) (S:=fun x=>x=M) (fun b e=>.inl e) (zM w h.mod.2) (by
  rw [hn]
  exact hs2.of_blk (fun x hx _=>zJ w (by have hx:ρ x=_:=hx;rintro rfl;rw [h.mod.1] at hx;exact absurd (congrArg Role.tag hx) (by decide))) (fun _ h _=>h)) ((Fr.refl _ w).setCell _ _ (.inl rfl)) (fun b hb=>.inl hb)
theorem zNR (h:MRep w ρ G M L m) {k:Nat} {t:ByteArray} {id:Int} {rest:List Int} (hk:m.ring[k]?=some (t,id::rest)) {ib ioff ic o2 c2 ln:Nat} (hi:L.ids t=.slice (some ⟨ib,ioff,none⟩) (ln+1) ic) (hln:rest.length=ln) (ho:zIl ic ioff o2 c2)
 {E:Nat→Prop} (hE:∀b,E b→w.heap.size≤b) (hf:Fr E w w2) {v:Value} {n:Nat} {l:List (ByteArray×List Int)} (hl:l=m.ring.take k++m.ring.drop (k+1)++(if rest=[] then [] else [(t,rest)])) (hn:n=l.length)
 (hs:SlAt w2 191 2 E v n (yg L.ids (m.ring.take k++m.ring.drop (k+1))++(if rest=[] then [] else [vs t,.slice (some ⟨ib,o2,none⟩) ln c2]))) :
 w2.heap[M]?=some (.cells (yS L m.cfg m.now) 179 (0,0))∧MStA w ρ G M L {m with ring:=l} (w2.setCell ⟨M,8,none⟩ v):=by
 subst hn
 have hold:∀b,b < w.heap.size→w2.heap[b]?=w.heap[b]?:=fun b hb=>hf.block b hb (fun he=>by have:=hE b he;omega)
 have hM:w2.heap[M]?=some (.cells (yS L m.cfg m.now) 179 (0,0)):=(hold M h.size.2).trans h.mod.2
 refine ⟨hM,?_⟩
 have hmem:∀p∈m.ring.take k++m.ring.drop (k+1),p∈m.ring∧p.1≠t:=fun p hp=>by
  rcases List.mem_append.1 hp with hp | hp
  ·obtain ⟨j,hj,e⟩:=List.getElem_of_mem hp
   rw [List.length_take] at hj
   have h2:m.ring[j]?=some p:=by rw [List.getElem_take] at e;rw [List.getElem?_eq_getElem (by omega),e]
   exact ⟨List.mem_of_getElem? h2,fun e2=>by have:=zEm h.rnd hk j p h2 e2;omega⟩
  ·obtain ⟨j,hj,e⟩:=List.getElem_of_mem hp
   rw [List.length_drop] at hj
   have h2:m.ring[k+1+j]?=some p:=by rw [List.getElem_drop] at e;rw [List.getElem?_eq_getElem (by omega),e]
   exact ⟨List.mem_of_getElem? h2,fun e2=>by have:=zEm h.rnd hk _ p h2 e2;omega⟩
 have hkeys:(l.map Prod.fst).Nodup:=by
  have h1:((m.ring.take k++m.ring.drop (k+1)).map Prod.fst).Nodup:=by
   refine List.Sublist.nodup (List.Sublist.map _ ?_) h.rnd
   rw [←List.eraseIdx_eq_take_drop_succ]
   exact List.eraseIdx_sublist _ _
  rw [hl,List.map_append]
  by_cases hr:rest=[]
  ·rw [if_pos hr];simpa using h1
  ·rw [if_neg hr,List.nodup_append]
   refine ⟨h1,by simp,fun a ha b hb e=>?_⟩
   obtain ⟨p,hp,rfl⟩:=List.mem_map.1 ha
   simp at hb
   exact (hmem p hp).2 (e.trans hb)
 have hrole:∀b,E b→ρ b=ze∨w.heap.size≤b:=fun b hb=>.inr (hE b hb)
 obtain ⟨ρ',q1,q2,q3⟩:=zDc h (R:=ze) hrole hs hf.size (by decide)
 have kp:∀(b:Nat),b < w.heap.size→ρ' b=ρ b:=fun b hb=>by
  rcases q3 b with e | ⟨_,e⟩
  ·exact e
  ·omega
 have hids:SlAt w 3 1 (fun b=>ρ b=zR t) (.slice (some ⟨ib,o2,none⟩) ln c2) ln (rest.map encI):=by
  have h1:=h.ids t _ (List.mem_of_getElem? hk)
  rw [hi,List.length_cons,hln,List.map_cons] at h1
  exact zNP h1 ho
 have hcells:yg L.ids (m.ring.take k++m.ring.drop (k+1))++(if rest=[] then [] else [vs t,.slice (some ⟨ib,o2,none⟩) ln c2])=yg (fun s=>if s=t then .slice (some ⟨ib,o2,none⟩) ln c2 else L.ids s) l:=by
  rw [hl]
  by_cases hr:rest=[]
  ·rw [if_pos hr,if_pos hr,List.append_nil,List.append_nil]
   exact zNO (fun p hp=>(hmem p hp).2) _
  ·rw [if_neg hr,if_neg hr]
   exact zIY (fun p hp=>(hmem p hp).2) _ rest
 rw [hcells] at q1
 have key:=h.put_ring (ρ':=ρ') (S:=fun b=>b=M∨E b) (v:=v) (ids:=fun s=>if s=t then .slice (some ⟨ib,o2,none⟩) ln c2 else L.ids s) (l:=l) (w':=w2.setCell ⟨M,8,none⟩ v)
  (fun b hb=>by have:=q2 b hb;simpa using this) (fun b=>(q3 b).imp (fun e=>e) (fun e=>.inr (.inr e.2))) (zM w2 hM)
  (q1.of_blk (fun b hb _=>zJ w2 (by have hb:ρ' b=_:=hb;rintro rfl;rw [kp _ h.size.2,h.mod.1] at hb;exact absurd (congrArg Role.tag hb) (by decide))) (fun _ h _=>h))
  (fun s y hsy=>by
   have hback:∀{u:Value} {j:Nat} {xs:List Value},SlAt w 3 1 (fun b=>ρ b=zR s) u j xs→SlAt (w2.setCell ⟨M,8,none⟩ v) 3 1 (fun b=>ρ' b=zR s) u j xs:=fun hx=>hx.of_blk (fun b hb hl=>(zJ w2 (by have hb:ρ b=_:=hb;rintro rfl;rw [h.mod.1] at hb;exact absurd (congrArg Role.tag hb) (by simp [rMod,zR]))).trans (hold b hl)) (fun b hb hl=>(kp b hl).trans hb)
   rw [hl] at hsy
   rcases List.mem_append.1 hsy with hsy | hsy
   ·have hst:s≠t:=(hmem _ hsy).2
    show SlAt _ _ _ _ (if s=t then _ else L.ids s) _ _
    rw [if_neg hst]
    exact hback (h.ids s y (hmem _ hsy).1)
   ·by_cases hr:rest=[]
    ·rw [if_pos hr] at hsy;cases hsy
    ·rw [if_neg hr,List.mem_singleton] at hsy
     cases hsy
     show SlAt _ _ _ _ (if t=t then _ else L.ids t) _ _
     rw [if_pos rfl,hln]
     exact hback hids) hkeys ((Fr.mono hf (fun x hx=>.inl (.inr hx))).setCell _ _ (.inl (.inl rfl))) (fun b hb=>hb.imp (fun e=>e) (fun e=>.inr (.inr (hE b e))))
 obtain ⟨k1,k2⟩:=key
 exact ⟨_,_,k1,k2,rfl,rfl⟩
theorem zVD (h:MRep w ρ G M L m) {b off n cap k:Nat} {x:MReq} (hv:L.reqs=.slice (some ⟨b,off,none⟩) n cap) (hk:m.reqs[k]?=some x) (y:Int) :
 ∃ρ',MRep (w.setCell ⟨b,off+k*7+4,none⟩ (vi y)) ρ' G M L {m with reqs:=m.reqs.set k {x with n:=y}}∧Step ρ ρ' w (w.setCell ⟨b,off+k*7+4,none⟩ (vi y))∧w.frozen? ⟨b,off+k*7+4,none⟩=false:=by
 have hs:=h.reqs
 have hkl:=(List.getElem?_eq_some_iff.1 hk).1
 obtain ⟨a',cap',h1,_⟩:=h.reqsIn
 have hn:n=m.reqs.length:=by rw [hv] at h1;injection h1
 subst hn
 rw [hv] at hs
 obtain ⟨ho,hlt,hs1⟩:=zBf hs
 have hb:ρ b=yB:=ho
 have hbM:M≠b:=by rintro rfl;rw [h.mod.1] at hb;exact absurd (congrArg Role.tag hb) (by decide)
 have hs2:=zCK hs1 (i:=k*7+4) (by omega) (vi y)
 have hfs:=zBg (f:=xp) (sz:=7) (fun _=>rfl) m.reqs k 4 x {x with n:=y} (vi y) hk (by decide) rfl
 rw [show zEX m.reqs=m.reqs.flatMap xp from rfl,hfs,←Nat.add_assoc] at hs2
 obtain ⟨ρ',p1,p2⟩:=h.put_reqsE (w':=w.setCell ⟨b,off+k*7+4,none⟩ (vi y)) (own:=fun x=>x=b) (S:=fun x=>x=b) (v:=L.reqs) (l:=m.reqs.set k {x with n:=y}) (fun x e=>.inl (by rw [show x=b from e];exact hb)) ((zJ w hbM).trans h.mod.2)
  (by rw [hv,List.length_set];exact hs2) ((Fr.refl _ w).setCell _ _ (.inl rfl)) (fun x e=>.inr (.inl (by rw [show x=b from e];exact hb)))
 obtain ⟨_,_,_,hv2,_,_,_,_,_,hfz⟩:=hs.form (by omega)
 injection hv2 with e1 e2 e3
 injection e1 with e1
 injection e1 with e4 e5
 subst e4
 exact ⟨ρ',p1,p2,hfz _⟩
theorem zVE (a b:Int) (s t:ByteArray):(⟨#[114,117,110,32]⟩:ByteArray)++bs (decI a)++(⟨#[32]⟩:ByteArray)++bs (decI b)++(⟨#[32]⟩:ByteArray)++s++(⟨#[32]⟩:ByteArray)++t=bs (zN [wRun,decI a,decI b,s.data.toList,t.data.toList]):=by
 apply ByteArray.ext
 simp [bs,zN,wRun]
theorem zVF (a b:Int) (s t:ByteArray) (hs:s.size≤80) (ht:t.size≤80):(zN [wRun,decI a,decI b,s.data.toList,t.data.toList]).length≤1000000000:=by
 have h1:=zCE a
 have h2:=zCE b
 have h3:s.data.size≤80:=hs
 have h4:t.data.size≤80:=ht
 simp [zN,wRun]
 omega
theorem zVG (h:MRep w ρ G M L m) {b off n cap k:Nat} {x:MReq} (hv:L.reqs=.slice (some ⟨b,off,none⟩) n cap) (hk:m.reqs[k]?=some x) {E:Nat→Prop} (he:∀b,E b→ρ b=yE∨b=w1.heap.size) (hf1:Fr (fun _=>False) w w1) (hf:Fr E w1 w2) (v:Value) :
 w2.cell? ⟨b,off+k*7+4,none⟩=some (vi x.n)∧(w2.setCell ⟨M,7,none⟩ v).cell? ⟨b,off+k*7+4,none⟩=some (vi x.n):=by
 have h1:=h.of_fr hf1 (fun _ f=>f.elim)
 obtain ⟨b',off',hae,_,_,_,_,e4,_,_⟩:=zAX (zCU h1 hv) hk
 injection hae with e
 injection e with e1 e2
 subst e1;subst e2
 have hs:=h1.reqs
 have hn:n=m.reqs.length:=by obtain ⟨_,_,h3,_⟩:=h1.reqsIn;rw [hv] at h3;injection h3
 subst hn
 rw [hv] at hs
 obtain ⟨hb,hbl,_⟩:=zBf hs
 have hb:ρ b=yB:=hb
 have hbE:¬E b:=fun hx=>by
  rcases he b hx with e | e
  ·rw [hb] at e;exact absurd (congrArg Role.tag e) (by decide)
  ·omega
 have hbM:b≠M:=by rintro rfl;rw [h.mod.1] at hb;exact absurd (congrArg Role.tag hb) (by decide)
 have h2:w2.cell? ⟨b,off+k*7+4,none⟩=some (vi x.n):=(World.cell?_of_block (a:=⟨b,off+k*7+4,none⟩) (hf.block b hbl hbE)).trans e4
 exact ⟨h2,(World.cell?_of_block (a:=⟨b,off+k*7+4,none⟩) (zJ w2 hbM)).trans h2⟩
end
section
variable {w w' w1 w2 w3 wr:World} {ρ:Nat→Role} {G M:Nat} {L:MLay} {m:RefM}
theorem zVH (h:MRep w ρ G M L m):∀u∈m.ring.flatMap (zAn L.ids),u.oneCell'=true:=fun u hu=>by
 obtain ⟨⟨t,x⟩,hp,hx⟩:=List.mem_flatMap.1 hu
 simp only [zAn,List.mem_cons,List.not_mem_nil,or_false] at hx
 rcases hx with rfl | rfl
 ·rfl
 ·obtain ⟨a,cap,e,_⟩:=(h.ids t x hp).form'
  rw [e];rfl
theorem zVI {α:Type} {f:α→List Value} {l:List α} {k:Nat} {u:Value} (h:u∈(l.take k).flatMap f):u∈l.flatMap f:=by
 obtain ⟨x,hx,hu⟩:=List.mem_flatMap.1 h
 exact List.mem_flatMap.2 ⟨x,List.mem_of_mem_take hx,hu⟩
theorem zNS {α:Type} {f:α→List Value} {l:List α} {k:Nat} {u:Value} (h:u∈(l.drop k).flatMap f):u∈l.flatMap f:=by
 obtain ⟨x,hx,hu⟩:=List.mem_flatMap.1 h
 exact List.mem_flatMap.2 ⟨x,List.mem_of_mem_drop hx,hu⟩
def zNT (n cap k off o2 c2 r:Nat):Prop:=r=n - (k+1)∧((cap=k+1∧o2=off∧c2=0)∨(cap≠k+1∧o2=off+(k+1)*2∧c2=cap - (k+1)))
theorem zVJ {own:Nat→Prop} {ids:ByteArray→Value} {l:List (ByteArray×List Int)} {b off n cap k o2 c2 r:Nat} (h:SlAt w 191 2 own (.slice (some ⟨b,off,none⟩) n cap) n (yg ids l)) (hk:k < n) (hn:l.length=n) (ho:zNT n cap k off o2 c2 r) :
 SlAt w 191 2 own (.slice (some ⟨b,o2,none⟩) r c2) r ((l.drop (k+1)).flatMap (zAn ids))∧k+r=(l.take k++l.drop (k+1)).length:=by
 obtain ⟨rfl,ho⟩:=ho
 constructor
 ·rw [←zGG (sz:=2) (fun _=>rfl)]
  rcases ho with ⟨h1,rfl,rfl⟩ | ⟨h1,rfl,rfl⟩
  ·exact zGI h hk h1
  ·exact zGH h hk
 ·rw [List.length_append,List.length_take,List.length_drop,hn]
  omega
theorem zVK {mB:RefM} {LB:MLay} {c:Int} {str:zA} (h:MStO w ρ G M LB (mSay mB c str) w') {b off n cap kq:Nat} {x:MReq} {an:Int} {ten txt:ByteArray} (hv:LB.reqs=.slice (some ⟨b,off,none⟩) n cap) (hk:mB.reqs[kq]?=some {x with n:=an}) (ht:x.tenant=ten) (hx:x.text=txt) :
 w'.cell? ⟨b,off+kq*7+4,none⟩=some (vi an)∧w'.cell? ⟨b,off+kq*7+2,none⟩=some (vs ten)∧w'.cell? ⟨b,off+kq*7+3,none⟩=some (vs txt):=by
 obtain ⟨ρ',v,h1,_⟩:=h
 obtain ⟨qb',qoff',hae,_,_,e2,e3,e4,_,_⟩:=zAX (zCU h1 hv) (show (mSay mB c str).reqs[kq]?=_ from hk)
 injection hae with hae
 injection hae with hae1 hae2
 subst hae1;subst hae2;subst ht;subst hx
 exact ⟨e4,e2,e3⟩
theorem zVL {N P:Nat} {r rk:Raw} (hI:Inv N P rk) {c:Int} {ws:List Int} (hw:rk.waiting=c::ws) {t:ByteArray} (ht:xQ rk=some t) (h:xR rk.waiting.length rk=yC r):xR (xN rk).waiting.length (xN rk)=yC r:=by
 have h1:=zHC hI (by rw [hw];simp) (by rw [ht];simp)
 have h2:(xN rk).waiting.length=ws.length:=by rw [hw,List.length_cons] at h1;omega
 rw [h2,←h,hw,List.length_cons,xR,if_neg (by rw [hw,ht];simp)]
theorem zIm {a:Addr} {v:Value} {o:Obj} (h:w.cell? a=some v):(w.alloc o).cell? a=some v:=(World.cell?_alloc_lt _ _ _ (zW h)).trans h
def zIn (w:World) (M:Nat):Nat:=match w.cell? ⟨M,9,none⟩ with | some (.slice _ n _)=>n | _=>0
theorem zNU (h:MRep w ρ G M L m):zIn w M=m.waiting.length:=by
 obtain ⟨a,cap,e,_⟩:=zDa h.waiting
 have c:w.cell? ⟨M,9,none⟩=some L.waiting:=h.cell (k:=9) rfl
 unfold zIn
 rw [c,e]
def zVM (w:World) (ρ:Nat→Role) (G M N P:Nat) (r:Raw) (wr:World) (rk:Raw):Prop:=
 ∃ρk Lk,MRep wr ρk G M Lk (zC rk)∧Step ρ ρk w wr∧Inv N P rk∧xR rk.waiting.length rk=yC r
theorem zVN {r:Raw} (h:∀(j:Nat) p,j < (zC r).ring.length→(zC r).ring[j]?=some p→¬zT r p.1 < r.cfg.cap):xQ r=none:=by
 unfold xQ
 rw [List.find?_eq_none]
 intro t ht
 obtain ⟨j,hj,rfl⟩:=List.getElem_of_mem ht
 have hjl:j < (zC r).ring.length:=by show j < (r.ring.map _).length;rw [List.length_map];exact hj
 have:=h j (r.ring[j],qOf r r.ring[j]) hjl (by show (r.ring.map fun t=>(t,qOf r t))[j]?=_;rw [List.getElem?_map,List.getElem?_eq_getElem hj];rfl)
 simpa using this
theorem zVO {r:Raw} {k:Nat} {t:ByteArray} {l:List Int} (hk:(zC r).ring[k]?=some (t,l)) (ht:zT r t < r.cfg.cap) (h:∀(j:Nat) p,j < k→(zC r).ring[j]?=some p→¬zT r p.1 < r.cfg.cap):xQ r=some t:=by
 obtain ⟨hkr,_⟩:=zIc hk
 obtain ⟨hkl,hke⟩:=List.getElem?_eq_some_iff.1 hkr
 unfold xQ
 have hsplit:r.ring=r.ring.take k++t::r.ring.drop (k+1):=by
  conv=>lhs;rw [←List.take_append_drop k r.ring,List.drop_eq_getElem_cons hkl,hke]
 rw [hsplit,List.find?_append]
 have:(r.ring.take k).find? (fun t=>decide (zT r t < r.cfg.cap))=none:=by
  rw [List.find?_eq_none]
  intro s hs
  obtain ⟨j,hj,e⟩:=List.getElem_of_mem hs
  rw [List.length_take] at hj
  have h2:(zC r).ring[j]?=some (s,qOf r s):=by
   show (r.ring.map fun t=>(t,qOf r t))[j]?=_
   rw [List.getElem?_map]
   rw [List.getElem_take] at e
   rw [List.getElem?_eq_getElem (by omega),e];rfl
  simpa using h j _ (by omega) h2
 rw [this]
 simp [ht]
theorem zNV {r:Raw} (h:r.waiting=[]∨xQ r=none):∀n,xR n r=r
 | 0=>rfl
 | n+1=>by rw [xR,if_pos h]
def zGi (r:Raw) (cp:Int) (p:ByteArray×List Int):Prop:=¬zT r p.1 < cp
theorem zVP {r:Raw} {cp:Int} {k:Nat} {t:ByteArray} {l:List Int} (hn:∀(j:Nat) p,j < k→(zC r).ring[j]?=some p→zGi r cp p) (h:(zC r).ring[k]?=some (t,l)) (ha:¬zT r t < cp):∀(j:Nat) p,j < k+1→(zC r).ring[j]?=some p→zGi r cp p:=fun j b hj hb=>by
 by_cases e:j=k
 ·subst e;rw [h] at hb;cases hb;exact ha
 ·exact hn j b (by omega) hb
theorem MSt.drewN {m':RefM} (h:MSt w ρ G M m' w') (n:Nat):MSt w ρ G M m' (w'.drewN n):=by
 obtain ⟨ρ',L',h1,h2⟩:=h
 exact ⟨ρ',L',h1.drewN n,h2.drewN n⟩
theorem zIo {N P:Nat} {r:Raw} (hI:Inv N P r) (h:MRep w ρ G M L (zC r)) (hN:N≤10000000000) (hP:P≤10000000000) :
 Calls Tryz.prog 126 #[vp M] w fun e w'=>e=.returned (.tuple #[])∧MSt w ρ G M (zC (yC r)) w':=by
 have HI:=zh hI
 have HH:=zh h
 have HNN:=zh hN
 have HPP:=zh hP
 clear hI h hN hP
 go_enter Tryz.func126,Tryz.ntmps126
 go_wp2_with fail
 go_loopw [2] (fun _ wr=>Hid (∃rk,zVM w ρ G M N P r wr rk)) (fun _ wr=>zIn wr M)
 case atStart=>exact ⟨r,ρ,L,HH.out,Step.refl _ _,HI.out,rfl⟩
 case round =>
  obtain ⟨wo,rfl⟩:∃wo,wo=wr:=⟨_,rfl⟩
  obtain ⟨rk,ρk,Lk,hk1,hk2,hk3,hk4⟩:=hrel.out
  obtain ⟨wa,wcp,hvw,hww⟩:=zDa hk1.waiting
  have c9:wo.cell? ⟨M,9,none⟩=some Lk.waiting:=hk1.cell (k:=9) rfl
  rw [hvw] at c9
  have hwe:(zC rk).waiting=rk.waiting:=rfl
  rw [hwe] at c9 hww hvw
  have HK1:=zh hk1
  have HK2:=zh hk2
  have HK3:=zh hk3
  have HK4:=zh hk4
  have HVW:=zh hvw
  cases hws:rk.waiting with
  | nil =>
    rw [hws] at c9
    have HFIN:Hid (MSt w ρ G M (zC (yC r)) wo):=by
     have:yC r=rk:=by rw [←hk4];exact zNV (.inl hws) _
     show MSt _ _ _ _ _ _
     rw [this]
     exact ⟨ρk,Lk,hk1,hk2⟩
    clear hk1 hk2 hk3 hk4 hvw hww hwe hws hrel HVW
    simp only [List.length_nil] at c9
    go_wp2_with fail
    go_end0
    exact ⟨rfl,HFIN.out⟩
  | cons c ws =>
    rw [hws] at c9
    simp only [List.length_cons] at c9
    obtain ⟨wb,woff,rfl,cw0⟩:=hww 0 c (by rw [hws];rfl)
    obtain ⟨wn,hwn⟩:∃wn,ws.length=wn:=⟨_,rfl⟩
    rw [hwn] at c9
    have hgt:decide (0 < (wn:Int)+1)=true:=decide_eq_true (by omega)
    have hgt2:0 < wn+1:=by omega
    obtain ⟨ra,rc,hvr,hrr⟩:=hk1.ringIn
    have c8:wo.cell? ⟨M,8,none⟩=some Lk.ring:=hk1.cell (k:=8) rfl
    obtain ⟨n,hnn⟩:∃n,(zC rk).ring.length=n:=⟨_,rfl⟩
    rw [hnn] at hvr
    rw [hvr] at c8
    have hm:=hk3.mok
    have hnb:n≤1000000000000:=by have:=HNN.out;omega
    obtain ⟨cp,hcp⟩:∃cp,rk.cfg.cap=cp:=⟨_,rfl⟩
    have c2:wo.cell? ⟨M,2,none⟩=some (vi rk.cfg.cap):=(hk1.cell (k:=2) rfl)
    rw [hcp] at c2
    have HVR:=zh hvr
    have HRR:=zh hrr
    have HN:=zh hnn
    have HM:=zh hm
    have HCP:=zh hcp
    have HWS:=zh hws
    have HWN:=zh hwn
    have HRUN:=zh (fun W (hW:MRep W ρk G M Lk (zC rk)) t=>zUk hk3 hW t (by have:=HNN.out;omega) (by have:=HPP.out;omega))
    clear hk1 hk2 hk3 hk4 hvw hww hwe hws hrel hvr hrr hnn hm hcp hwn
    go_wp2_with fail
    go_loopw [2] (fun s2 wr=>∃k:Nat,s2=.int .i64 k∧k≤n∧Hid (Below wo.heap.size wo wr∧∀(j:Nat) p,j < k→(zC rk).ring[j]?=some p→zGi rk cp p)) (fun s2 _=>n - (intOf s2).toNat)
    case atStart=>exact ⟨0,by go_num,Nat.zero_le _,Below.refl _ _,fun j p hj=>by omega⟩
    case round =>
     obtain ⟨k,rfl,hk,HNO⟩:=hrel
     have c8w:wr.cell? ⟨M,8,none⟩=some (.slice ra n rc):=zEp (B:=0) HNO.out.1 c8
     have c2w:wr.cell? ⟨M,2,none⟩=some (vi cp):=zEp (B:=0) HNO.out.1 c2
     by_cases hkl:k < n
     ·have hlt:decide ((k:Int) < (n:Int))=true:=decide_eq_true (by omega)
      obtain ⟨⟨t,l⟩,hkx⟩:∃p,(zC rk).ring[k]?=some p:=⟨_,List.getElem?_eq_getElem (by rw [HN.out];exact hkl)⟩
      obtain ⟨rb,roff,hae,r0,r1⟩:=zDb (HRR.out.below HNO.out.1) hkx
      subst hae
      have hk0:(0:Int)≤(k:Int):=by omega
      have hk1:(k:Int) < (n:Int):=by omega
      have HKX:=zh hkx
      have HRW:=zh (HK1.out.grow HNO.out.1)
      obtain ⟨rn,hrn⟩:∃rn,zT rk t=rn:=⟨_,rfl⟩
      have HRT:=zh (HRUN.out _ HRW.out.drew t)
      rw [hrn] at HRT
      have HRN:=zh hrn
      clear hkx hrn
      by_cases hlc:rn < cp
      ·have hge:decide (rn≥cp)=false:=decide_eq_false (by omega)
       have HTS:Hid (xQ rk=some t):=show _=_ from zVO HKX.out (by rw [HRN.out,HCP.out];exact hlc) (fun j p hj hp=>by rw [HCP.out];exact HNO.out.2 j p hj hp)
       have hne:((k:Int)==(n:Int))=false:=beq_eq_false_iff_ne.2 (by omega)
       have hne2:decide ((k:Int)=(n:Int))=false:=decide_eq_false (by omega)
       clear hlc
       go_wp2_with fail
       go_region_held3 (fun w'=>w'.cell? ⟨M,8,none⟩=some (.slice (some ⟨rb,roff,none⟩) n rc)∧w'.cell? ⟨M,2,none⟩=some (vi cp)∧w'.cell? ⟨rb,roff+k*2,none⟩=some (vs t)) (go_keep) ((go_at_call 157;refine HRT.out.mono ?_;rintro e w5 ⟨rfl,hb⟩;have c8x:=yh hb c8w;have c2x:=yh hb c2w;have r0x:=yh hb r0;have HB5:=zh (HNO.out.1.trans ((zAh hb).mono HNO.out.1.size));clear hb))
       have h5:=HK1.out.grow HB5.out
       have c95:w5.cell? ⟨M,9,none⟩=some (.slice (some ⟨wb,woff,none⟩) (wn+1) wcp):=zEp (B:=0) HB5.out c9
       have cw5:w5.cell? ⟨wb,woff,none⟩=some (vi c):=zEp (B:=0) HB5.out cw0
       have f9:=h5.frozen 9
       have H5:=zh h5
       have HS5:Hid (Step ρ ρk w w5):=HK2.out.trans (Step.still (Fr.of_below HB5.out))
       clear h5 HNO c8w c2w r0 r1 c8 c2 c9 cw0 HRT HRW hge hgt hgt2 c2x r0x
       go_upto_region 6 with fail
       have hl1:(1:Int)≤(wn:Int)+1:=by omega
       have hwcl:wn+1≤wcp:=by
        obtain ⟨_,_,cap',hv',_,_,q1,_,_,_⟩:=H5.out.waiting.form (by show 0 < rk.waiting.length;rw [HWS.out];simp)
        rw [HVW.out] at hv'
        injection hv' with _ _ e3
        have:(zC rk).waiting.length=wn+1:=by show rk.waiting.length=_;rw [HWS.out,List.length_cons,HWN.out]
        omega
       have hl2:(wn:Int)+1≤(wcp:Int):=by omega
       go_cut [] from 8 to 61 (fun wx=>Hid (∃ρ6 va vc,MRep wx ρ6 G M {Lk with waiting:=.slice va wn vc} {zC rk with waiting:=ws}∧Step ρk ρ6 w5 wx))
       case first =>
        by_cases hwc:wcp=1
        ·have HP:=zh (zNQ (o2:=woff) (c2:=0) H5.out (by rw [HVW.out,HWS.out,List.length_cons,HWN.out]) HWS.out HWN.out (.inl ⟨hwc,rfl,rfl⟩))
         have hwn0:wn=0:=by omega
         subst hwc;subst hwn0
         go_wp2_with fail
         go_meet
         case rel =>
          obtain ⟨ρx,p1,p2⟩:=HP.out
          exact ⟨ρx,_,_,p1,p2⟩
        ·have HP:=zh (zNQ (o2:=woff+1) (c2:=wcp - 1) H5.out (by rw [HVW.out,HWS.out,List.length_cons,HWN.out]) HWS.out HWN.out (.inr ⟨hwc,rfl,rfl⟩))
         go_wp2_with fail
         go_meet
         case rel =>
          obtain ⟨ρx,p1,p2⟩:=HP.out
          exact ⟨ρx,_,_,p1,p2⟩
       case rest =>
       obtain ⟨w6,hw6⟩:∃w6,w6=wc:=⟨_,rfl⟩
       obtain ⟨ρ6,va6,vc6,h6,s6⟩:=hcut.out
       rw [←hw6] at h6 s6 ⊢
       have HS6:Hid (Step ρ ρ6 w w6):=HS5.out.trans s6
       have H6:=zh h6
       clear hw6 hcut s6 h6
       obtain ⟨id,rest,q,hqe,hqa,hqt,_⟩:=zFG HK3.out HTS.out
       have hle:l=id::rest:=(zIc HKX.out).2.trans hqe
       subst hle
       have hk6:({zC rk with waiting:=ws}:RefM).ring[k]?=some (t,id::rest):=HKX.out
       obtain ⟨ib,ioff,ic,hiv,_,_,hic1,hic2,hii,_⟩:=(H6.out.ids t (id::rest) (List.mem_of_getElem? hk6)).form (by simp)
       obtain ⟨ln,hln⟩:∃ln,rest.length=ln:=⟨_,rfl⟩
       rw [List.length_cons,hln] at hiv hic1
       have hvr6:({Lk with waiting:=.slice va6 wn vc6}:MLay).ring=.slice (some ⟨rb,roff,none⟩) n rc:=HVR.out
       obtain ⟨c86,r06,r16a,_⟩:=zMk H6.out hvr6 hk6
       have hiv6:Lk.ids t=.slice (some ⟨ib,ioff,none⟩) (ln+1) ic:=hiv
       have r16:w6.cell? ⟨rb,roff+k*2+1,none⟩=some (.slice (some ⟨ib,ioff,none⟩) (ln+1) ic):=by rw [←hiv6];exact r16a
       have ci0:w6.cell? ⟨ib,ioff,none⟩=some (vi id):=hii 0 _ rfl
       have HIV:=zh hiv6
       have HLN:=zh hln
       have HIC:=zh hic1
       have HQA:=zh hqa
       have HQT:=zh hqt
       have HK6:=zh hk6
       have hr6:=H6.out.ring
       rw [hvr6,show ({zC rk with waiting:=ws}:RefM).ring.length=n from HN.out] at hr6
       have hrcap:n≤rc:=by
        obtain ⟨_,_,cap',hv',_,_,q1,_,_,_⟩:=hr6.form (by omega)
        injection hv' with _ _ e3
        omega
       have hi2:(0:Int)≤(k:Int)+1:=by omega
       have hi3:(k:Int)+1≤(n:Int):=by omega
       have hi4:(k:Int)≤(rc:Int):=by omega
       have hi5:(n:Int)≤(rc:Int):=by omega
       have hi6:((k:Int)+1).toNat=k+1:=by omega
       have hwi:IntKind.i64.wrap ((k:Int)+1)=(k:Int)+1:=IntWalk.i64_in _ (by omega)
       have HONE:=zh (zVH H6.out)
       have hy7:SlAt (w6.alloc (.cells #[vs t,.slice (some ⟨ib,ioff,none⟩) (ln+1) ic] 191)) 191 2 (fun b=>ρ6 b=ze) (.slice (some ⟨rb,roff,none⟩) n rc) n (yg Lk.ids (zC rk).ring):=hr6.of_blk (fun b _ hl=>zP w6 hl) (fun _ h _=>h)
       have HY1:Hid (SlAt (w6.alloc (.cells #[vs t,.slice (some ⟨ib,ioff,none⟩) (ln+1) ic] 191)) 191 2 (fun b=>ρ6 b=ze) (.slice (some ⟨rb,roff,none⟩) k rc) k (((zC rk).ring.take k).flatMap (zAn Lk.ids))):=by
        have:=zID hy7 (Nat.le_of_lt hkl)
        rw [show yg Lk.ids (zC rk).ring=(zC rk).ring.flatMap (zAn Lk.ids) from rfl,zGF (sz:=2) (fun _=>rfl)] at this
        exact this
       have c86b:(w6.alloc (.cells #[vs t,.slice (some ⟨ib,ioff,none⟩) (ln+1) ic] 191)).cell? ⟨M,8,none⟩=some (.slice (some ⟨rb,roff,none⟩) n rc):=by rw [←c86];exact World.cell?_alloc_lt _ _ _ (zW c86)
       have HY7:=zh hy7
       have HKL:=zh hkl
       clear r16a hqe hqa hqt hk6 hiv hiv6 hln hic1 hic2 hii hvr6 hr6 hy7 c95 cw5 f9 hl1 hl2 hwcl c8x
       go_upto_region 9 with (at_builtin;refine zAK rfl _ _ _ rfl zDd rfl (SlAt.nil (own:=fun _=>False)) rfl HY1.out (fun u hu=>HONE.out u (zVI hu)) (by unfold maxLen;omega) (by omega) ?_;intro va8 vc8 w8 E8 he8 hf8 hl8 hs8;rw [Nat.zero_add,List.nil_append] at hs8;have HE8:=zh he8;have HF8:=zh hf8;have HS8:=zh hs8;clear he8 hf8 hl8 hs8)
       go_cut [5] from 62 to 84 (fun s5 wx=>∃(va:Option Addr) (j vc:Nat),s5=.slice va j vc∧j=((zC rk).ring.take k++(zC rk).ring.drop (k+1)).length∧Hid (∃E:Nat→Prop,(∀b,E b→w6.heap.size+1≤b)∧Fr E (w6.alloc (.cells #[vs t,.slice (some ⟨ib,ioff,none⟩) (ln+1) ic] 191)) wx∧SlAt wx 191 2 E (.slice va j vc) j (yg Lk.ids ((zC rk).ring.take k++(zC rk).ring.drop (k+1)))))
       case first =>
        have c88:w8.cell? ⟨M,8,none⟩=some (.slice (some ⟨rb,roff,none⟩) n rc):=by
         have h1:(w6.alloc (.cells #[vs t,.slice (some ⟨ib,ioff,none⟩) (ln+1) ic] 191)).cell? ⟨M,8,none⟩=some (.slice (some ⟨rb,roff,none⟩) n rc):=by rw [←c86];exact World.cell?_alloc_lt _ _ _ (zW c86)
         have h2:=HF8.out.block M (by have:=zW h1;exact this) (fun he=>by
          rcases HE8.out M he with f | e
          ·exact f
          ·have hMlt:M < w6.heap.size:=zW c86
           have e2:M=w6.heap.size+1:=e.trans (World.size_alloc _ _)
           omega)
         rw [←h1];exact World.cell?_of_block (a:=⟨M,8,none⟩) h2
        have hy8:SlAt w8 191 2 (fun b=>ρ6 b=ze) (.slice (some ⟨rb,roff,none⟩) n rc) n (yg Lk.ids (zC rk).ring):=HY7.out.of_blk (fun b hb hl=>HF8.out.block b hl (fun he=>by
         rcases HE8.out b he with f | e
         ·exact f
         ·subst e;exact Nat.lt_irrefl _ hl)) (fun _ h _=>h)
        have HDR:∀(o2 c2 rr:Nat),zNT n rc k roff o2 c2 rr→Hid (SlAt w8 191 2 (fun b=>ρ6 b=ze) (.slice (some ⟨rb,o2,none⟩) rr c2) rr (((zC rk).ring.drop (k+1)).flatMap (zAn Lk.ids))∧k+rr=((zC rk).ring.take k++(zC rk).ring.drop (k+1)).length):=fun o2 c2 rr ho=>zVJ hy8 hkl HN.out ho
        have HFIN:∀(va:Option Addr) (j vc:Nat) (w9:World) (E9:Nat→Prop),j=((zC rk).ring.take k++(zC rk).ring.drop (k+1)).length→(∀b,E9 b→E8 b∨b=w8.heap.size)→Fr E9 w8 w9→SlAt w9 191 2 E9 (.slice va j vc) j (((zC rk).ring.take k).flatMap (zAn Lk.ids)++((zC rk).ring.drop (k+1)).flatMap (zAn Lk.ids))→Hid (∃E:Nat→Prop,(∀b,E b→w6.heap.size+1≤b)∧Fr E (w6.alloc (.cells #[vs t,.slice (some ⟨ib,ioff,none⟩) (ln+1) ic] 191)) w9∧SlAt w9 191 2 E (.slice va j vc) j (yg Lk.ids ((zC rk).ring.take k++(zC rk).ring.drop (k+1)))):=fun va j vc w9 E9 hj he9 hf9 hs9=>by
         have hsz:=HF8.out.size
         rw [World.size_alloc] at hsz
         have hE8:∀b,E8 b→w6.heap.size+1≤b:=fun b hb=>by
          rcases HE8.out b hb with f | e
          ·exact f.elim
          ·rw [World.size_alloc] at e;omega
         refine ⟨fun b=>E8 b∨E9 b,fun b hb=>?_,Fr.trans (HF8.out.mono (fun x hx=>.inl (.inl hx))) (hf9.mono (fun x hx=>.inl (.inr hx))) (fun x hx=>.inl hx),?_⟩
         ·rcases hb with hb | hb
          ·exact hE8 b hb
          ·rcases he9 b hb with hb | hb
           ·exact hE8 b hb
           ·omega
         ·rw [show yg Lk.ids ((zC rk).ring.take k++(zC rk).ring.drop (k+1))=((zC rk).ring.take k).flatMap (zAn Lk.ids)++((zC rk).ring.drop (k+1)).flatMap (zAn Lk.ids) from List.flatMap_append]
          exact hs9.of_blk (fun _ _ _=>rfl) (fun b hb _=>.inr hb)
        have HFN:=zh HFIN
        have HDRH:=zh HDR
        clear HFIN HDR hy8 HY1 HY7 HRUN HTS HIV HIC HQA HQT HK6 HWS HWN HVW HM HRR ci0 r16 r06 c86 c86b H5 HS5 HS6 H6 HB5 HK1 HK2 HK3 HK4
        by_cases hrc:rc=k+1
        ·have HD:=zh (HDRH.out roff 0 0 ⟨by omega,.inl ⟨hrc,rfl,rfl⟩⟩)
         subst hrc
         go_wp2_with (at_builtin;refine zAK rfl _ _ _ rfl zDd rfl HS8.out rfl HD.out.out.1 (fun u hu=>HONE.out u (zNS hu)) (by unfold maxLen;omega) (by omega) ?_;intro va9 vc9 w9 E9 he9 hf9 hl9 hs9;have HS9:=zh (HFN.out _ _ _ _ _ HD.out.out.2 he9 hf9 hs9);clear he9 hf9 hl9 hs9)
         go_meet
         case rel=>exact ⟨_,_,_,rfl,HD.out.out.2,HS9.out.out⟩
        ·have HD:=zh (HDRH.out (roff+(k+1)*2) (rc - (k+1)) (n - (k+1)) ⟨rfl,.inr ⟨hrc,rfl,rfl⟩⟩)
         go_wp2_with (at_builtin;refine zAK rfl _ _ _ rfl zDd rfl HS8.out rfl HD.out.out.1 (fun u hu=>HONE.out u (zNS hu)) (by unfold maxLen;omega) (by omega) ?_;intro va9 vc9 w9 E9 he9 hf9 hl9 hs9;have HS9:=zh (HFN.out _ _ _ _ _ HD.out.out.2 he9 hf9 hs9);clear he9 hf9 hl9 hs9)
         go_meet
         case rel=>exact ⟨_,_,_,rfl,HD.out.out.2,HS9.out.out⟩
       case rest =>
       obtain ⟨va9,j9,vc9,rfl,hj9,HC9⟩:=hcut
       obtain ⟨w9,hw9⟩:∃w9,w9=wc:=⟨_,rfl⟩
       rw [←hw9] at HC9 ⊢
       obtain ⟨E9,he9,hf9,hs9⟩:=HC9.out
       have hsz6:=World.size_alloc w6 (.cells #[vs t,.slice (some ⟨ib,ioff,none⟩) (ln+1) ic] 191)
       have hold:∀b,b < w6.heap.size+1→w9.heap[b]?=(w6.alloc (.cells #[vs t,.slice (some ⟨ib,ioff,none⟩) (ln+1) ic] 191)).heap[b]?:=fun b hb=>hf9.block b (by rw [hsz6];exact hb) (fun he=>by have:=he9 b he;omega)
       have hln9:w9.heap[w6.heap.size]?=some (.cells #[vs t,.slice (some ⟨ib,ioff,none⟩) (ln+1) ic] 191 (0,0)):=(hold _ (Nat.lt_succ_self _)).trans (zL w6)
       have t0:w9.cell? ⟨w6.heap.size,0,none⟩=some (vs t):=zB hln9 rfl
       have t1:w9.cell? ⟨w6.heap.size,1,none⟩=some (.slice (some ⟨ib,ioff,none⟩) (ln+1) ic):=zB hln9 rfl
       have hibl:ib < w6.heap.size:=zW ci0
       have ci9:w9.cell? ⟨ib,ioff,none⟩=some (vi id):=by
        rw [←ci0]
        exact World.cell?_of_block (a:=⟨ib,ioff,none⟩) ((hold ib (by omega)).trans (zP w6 hibl))
       have hf96:Fr E9 w6 w9:=Fr.trans (S':=E9) ((Fr.refl _ w6).alloc _) hf9 (fun x hx=>.inl hx)
       have he96:∀b,E9 b→w6.heap.size≤b:=fun b hb=>by have:=he9 b hb;omega
       have HE9:=zh he96
       have HE9S:=zh he9
       have HF9:=zh hf96
       have HS9:=zh hs9
       have HJ9:=zh hj9
       have HLB:=zh hln9
       have hjb:j9≤1000000000000:=by rw [hj9,List.length_append,List.length_take,List.length_drop,HN.out];omega
       have hHb:Hid (w6.heap.size+1≤w9.heap.size):=by rw [←hsz6];exact hf9.size
       clear hw9 he9 hf9 hs9 hsz6 hold hln9 hf96 he96 hj9 HC9 HF8 HE8 HS8 HY1 HY7 HONE c86 c86b r06 r16 ci0 hi2 hi3 hi4 hi5 hi6 hwi hrcap hne hne2
       go_upto_if 92 with (fail)
       go_cut [5] from 89 to 101 (fun s5 wx=>∃(va:Option Addr) (j vc:Nat),s5=.slice va j vc∧Hid (wx.heap[M]?=some (.cells (yS {Lk with waiting:=.slice va6 wn vc6} (zC rk).cfg (zC rk).now) 179 (0,0))∧MStA w6 ρ6 G M {Lk with waiting:=.slice va6 wn vc6} {{zC rk with waiting:=ws} with ring:=(zC rk).ring.take k++(zC rk).ring.drop (k+1)++(if rest=[] then [] else [(t,rest)])} (wx.setCell ⟨M,8,none⟩ (.slice va j vc))))
       case first =>
        cases rest with
        | nil =>
          have hl0:ln=0:=HLN.out.symm
          subst hl0
          have hkr:=zNR (v:=.slice va9 j9 vc9) (n:=j9) H6.out HK6.out (ic:=ic) (ioff:=ioff) (o2:=if ic=1 then ioff else ioff+1) (c2:=if ic=1 then 0 else ic - 1) HIV.out HLN.out (by
           by_cases e:ic=1
           ·exact .inl ⟨e,if_pos e,if_pos e⟩
           ·exact .inr ⟨e,if_neg e,if_neg e⟩) HE9.out HF9.out rfl (by rw [if_pos rfl,List.append_nil];exact HJ9.out) (by rw [if_pos rfl,List.append_nil];exact HS9.out)
          have HP:=zh hkr
          have hgl0:decide (1 < ((0:Nat):Int)+1)=false:=by decide
          have hgl1:decide ((1:Int) < 0+1)=false:=by decide
          clear hkr
          go_wp2_with fail
          go_meet
          case rel=>exact ⟨_,_,_,rfl,HP⟩
        | cons y ys =>
          obtain ⟨ln2,rfl⟩:∃j,ln=j+1:=⟨ys.length,by rw [←HLN.out];rfl⟩
          have hic:ln2+2≤ic:=HIC.out
          have hgl:decide (1 < (ln2:Int)+1+1)=true:=decide_eq_true (by omega)
          have hglc:decide (1 < (((ln2+1:Nat)):Int)+1)=true:=decide_eq_true (by omega)
          have hgl2:1 < ln2+1+1:=by omega
          have hic1:¬ic=1:=by omega
          have hicz:(ln2:Int)+1+1≤(ic:Int):=by omega
          have hic0:(1:Int)≤(ln2:Int)+1+1:=by omega
          have HSL:Hid (SlAt (w9.alloc (.cells #[vs t,.slice (some ⟨ib,ioff+1,none⟩) (ln2+1) (ic - 1)] 191)).drew 191 2 E9 (.slice va9 j9 vc9) j9 (yg Lk.ids ((zC rk).ring.take k++(zC rk).ring.drop (k+1)))):=HS9.out.of_blk (fun b _ hl=>zP w9 hl) (fun _ h _=>h)
          have HNL:Hid (SlAt (w9.alloc (.cells #[vs t,.slice (some ⟨ib,ioff+1,none⟩) (ln2+1) (ic - 1)] 191)).drew 191 2 (fun b=>b=w9.heap.size) (.slice (some ⟨w9.heap.size,0,none⟩) 1 1) 1 [vs t,.slice (some ⟨ib,ioff+1,none⟩) (ln2+1) (ic - 1)]):=(SlAt.mk_new (T:=191) (sz:=2) (n:=1) w9 [vs t,.slice (some ⟨ib,ioff+1,none⟩) (ln2+1) (ic - 1)] rfl (by simp [maxLen]) (own:=fun b=>b=w9.heap.size) rfl).of_blk (fun _ _ _=>rfl) (fun _ h _=>h)
          have HRC:=zh (fun (va:Option Addr) (vc:Nat) (wx:World) (E:Nat→Prop) (he:∀b,E b→E9 b∨b=(w9.alloc (.cells #[vs t,.slice (some ⟨ib,ioff+1,none⟩) (ln2+1) (ic - 1)] 191)).drew.heap.size) (hf:Fr E (w9.alloc (.cells #[vs t,.slice (some ⟨ib,ioff+1,none⟩) (ln2+1) (ic - 1)] 191)).drew wx) (hs:SlAt wx 191 2 E (.slice va (j9+1) vc) (j9+1) (yg Lk.ids ((zC rk).ring.take k++(zC rk).ring.drop (k+1))++[vs t,.slice (some ⟨ib,ioff+1,none⟩) (ln2+1) (ic - 1)])) =>
           zNR (v:=.slice va (j9+1) vc) (n:=j9+1) (E:=fun b=>E9 b∨E b) H6.out HK6.out (ic:=ic) (ioff:=ioff) (o2:=ioff+1) (c2:=ic - 1) HIV.out HLN.out (.inr ⟨hic1,rfl,rfl⟩) (fun b hb=>by
            have hsz:(w9.alloc (.cells #[vs t,.slice (some ⟨ib,ioff+1,none⟩) (ln2+1) (ic - 1)] 191)).drew.heap.size=w9.heap.size+1:=World.size_alloc _ _
            have h1:=hHb.out
            rcases hb with hb | hb
            ·exact HE9.out b hb
            ·rcases he b hb with hb | hb
             ·exact HE9.out b hb
             ·omega) (Fr.trans (HF9.out.mono (fun x hx=>.inl (.inl hx))) (Fr.trans (S':=E) (((Fr.refl _ w9).alloc _).drew) (hf.mono (fun x hx=>.inl hx)) (fun x hx=>.inl (.inr hx)) ) (fun x hx=>.inl hx)) rfl (by rw [if_neg (by simp),List.length_append,HJ9.out];rfl) (by rw [if_neg (by simp)];exact hs.of_blk (fun _ _ _=>rfl) (fun b hb _=>.inr hb)))
          have HKP:Hid (∀(wx:World) (E:Nat→Prop),(∀b,E b→E9 b∨b=(w9.alloc (.cells #[vs t,.slice (some ⟨ib,ioff+1,none⟩) (ln2+1) (ic - 1)] 191)).drew.heap.size)→Fr E (w9.alloc (.cells #[vs t,.slice (some ⟨ib,ioff+1,none⟩) (ln2+1) (ic - 1)] 191)).drew wx→wx.heap[w6.heap.size]?=some (.cells #[vs t,.slice (some ⟨ib,ioff,none⟩) (ln2+1+1) ic] 191 (0,0))):=fun wx E he hf=>by
           have hsz:(w9.alloc (.cells #[vs t,.slice (some ⟨ib,ioff+1,none⟩) (ln2+1) (ic - 1)] 191)).drew.heap.size=w9.heap.size+1:=World.size_alloc _ _
           have h1:=hHb.out
           refine (hf.block _ (by rw [hsz];omega) (fun hb=>?_)).trans ((zP w9 (by omega)).trans HLB.out)
           rcases he _ hb with hb | hb
           ·have:=HE9S.out _ hb;omega
           ·omega
          go_upto_region 12 with fail
          go_region_held3 (fun w'=>w'.cell? ⟨w6.heap.size,0,none⟩=some (vs t)∧w'.cell? ⟨w6.heap.size,1,none⟩=some (.slice (some ⟨ib,ioff,none⟩) (ln2+1+1) ic)) (go_keep) ((refine zHz (by rfl) _ _ _ (by rfl) zDd (by rfl) HSL.out (by rfl) HNL.out (by simp [Value.oneCell']) (by unfold maxLen;omega) (by omega) ?_;intro va10 vc10 w10 E10 he hf hl hs;obtain ⟨k1,k2⟩:=HRC.out _ _ _ _ he hf hs;have t0x:w10.cell? ⟨w6.heap.size,0,none⟩=some (vs t):=zB (HKP.out _ _ he hf) rfl;have t1x:w10.cell? ⟨w6.heap.size,1,none⟩=some (.slice (some ⟨ib,ioff,none⟩) (ln2+1+1) ic):=zB (HKP.out _ _ he hf) rfl;have HP:=zh (And.intro k1 k2);clear he hf hl hs k1 k2))
          all_goals
           go_wp2_with fail
           go_meet
           case rel=>exact ⟨_,_,_,rfl,HP⟩
       case rest =>
       obtain ⟨vX,jX,cX,rfl,HCX⟩:=hcut
       obtain ⟨w10,hw10⟩:∃x,x=wc:=⟨_,rfl⟩
       rw [←hw10] at HCX ⊢
       obtain ⟨k1,k2⟩:=HCX.out
       have c89:w10.cell? ⟨M,8,none⟩=some Lk.ring:=zB k1 rfl
       have f89:w10.frozen? ⟨M,8,none⟩=false:=zI k1
       rw [HVR.out] at c89
       have HP:=zh k2
       clear k1 k2 HCX hw10 t0 t1 ci9
       go_upto_region 14 with fail
       obtain ⟨ρ7,L7,h7,s7,_,_⟩:=HP.out
       obtain ⟨w7,hw7⟩:∃w7,w7=w10.setCell ⟨M,8,none⟩ (.slice vX jX cX):=⟨_,rfl⟩
       rw [←hw7] at h7 s7 ⊢
       obtain ⟨rg,hrg⟩:∃x,(zC rk).ring.take k++(zC rk).ring.drop (k+1)++(if rest=[] then [] else [(t,rest)])=x:=⟨_,rfl⟩
       rw [hrg] at h7
       have HRG:=zh hrg
       clear hrg
       have HS7:Hid (Step ρ ρ7 w w7):=HS6.out.trans s7
       obtain ⟨qb,qoff,qn,qc,kq,hvq,hqn,hkq,hqm,hqi⟩:=zNB HK1.out HQA.out
       obtain ⟨qa7,qc7,hv7,hr7⟩:=h7.reqsIn
       have hqm7:({{zC rk with waiting:=ws} with ring:=rg}:RefM).reqs[kq]?=some (zS (id,q)):=hqm
       obtain ⟨qb7,qoff7,rfl,e0,e1,e2,e3,e4,e5,e6⟩:=zAX hr7 hqm7
       have c67:w7.cell? ⟨M,6,none⟩=some L7.reqs:=h7.cell (k:=6) rfl
       obtain ⟨qn7,hqn7⟩:∃j,({{zC rk with waiting:=ws} with ring:=rg}:RefM).reqs.length=j:=⟨_,rfl⟩
       rw [hqn7] at hv7
       rw [hv7] at c67
       have hkq7:kq < qn7:=by rw [←hqn7];exact (List.getElem?_eq_some_iff.1 hqm7).1
       have hq0:(0:Int)≤(kq:Int):=by omega
       have hq1:(kq:Int) < (qn7:Int):=by omega
       have hqb:qn7≤1000000000000:=by rw [←hqn7];show (zC rk).reqs.length≤_;have:=HM.out;have:=HNN.out;omega
       have HRQ:=zh (zDo h7.drew (k:=kq) (by show ((zC rk).reqs.map MReq.id).Nodup;exact HM.out.1) hqm7 (by rw [hqn7];exact hqb))
       have H7:=zh h7
       have HV7:=zh hv7
       have HQM:=zh hqm7
       have HQI:=zh hqi
       have hqr:=HK3.out.n.req id q HQA.out
       obtain ⟨an,han⟩:∃an,q.attempts=an:=⟨_,rfl⟩
       have HAN:=zh han
       have hanb:0≤an∧an≤10000000000:=by rw [←han];have:=HK3.out.n.seq;have:=HNN.out;omega
       have hwa:IntKind.i64.wrap (an+1)=an+1:=IntWalk.i64_in _ (by omega)
       simp only [zS,han] at HRQ e0 e1 e2 e3 e4 e5 e6
       obtain ⟨ten,hten⟩:∃x,q.tenant=x:=⟨_,rfl⟩
       obtain ⟨txt,htxt⟩:∃x,q.text=x:=⟨_,rfl⟩
       have HTE:=zh hten
       have HTX:=zh htxt
       rw [hten] at e2
       rw [htxt] at e3
       clear hw7 h7 s7 hvq hqn hkq hqm hqi hr7 hqm7 hqn7 hv7 han hten htxt hqr c89 f89
       apply zBn (S:=fun W=>Below w7.heap.size w7 W)
       ·intro R hR
        go_region_law (first
         | (go_simp;go_at_call 122;refine HRQ.out.mono ?_;rintro e wA ⟨rfl,hb⟩;have c6b:=yh hb c67;have HB:=zh (zAh hb);clear hb))
        all_goals exact hR.out _ HB.out
       intro wA hbA
       have hA:=H7.out.grow hbA
       obtain ⟨ρB,hB1,hB2,hfB⟩:=zVD hA HV7.out HQM.out (an+1)
       have e4A:wA.cell? ⟨qb7,qoff7+kq*7+4,none⟩=some (vi an):=(hbA.cell (zW e4)).trans e4
       have HB1:=zh hB1
       have HB2:Hid (Step ρ ρB w (wA.setCell ⟨qb7,qoff7+kq*7+4,none⟩ (vi (an+1)))):=(HS7.out.trans (Step.still (Fr.of_below hbA))).trans hB2
       clear hbA hA hB1 hB2 e0 e1 e2 e3 e4 e5 e6 c67 HRQ
       go_upto_region 16 with fail
       have hkl7:kq < (zC rk).reqs.length:=(List.getElem?_eq_some_iff.1 HQM.out).1
       obtain ⟨wB,hwB⟩:∃wB,wB=wA.setCell ⟨qb7,qoff7+kq*7+4,none⟩ (vi (an+1)):=⟨_,rfl⟩
       rw [←hwB] at HB1 HB2 ⊢
       have hb1:=HB1.out
       have hkB:({{{zC rk with waiting:=ws} with ring:=rg} with reqs:=(zC rk).reqs.set kq {zS (id,q) with n:=an+1}}:RefM).reqs[kq]?=some {zS (id,q) with n:=an+1}:=by
        show ((zC rk).reqs.set kq _)[kq]?=_
        rw [List.getElem?_set,if_pos rfl,if_pos hkl7]
       obtain ⟨qb',qoff',hae,e0,e1,e2,e3,e4,e5,e6⟩:=zAX (zCU hb1 HV7.out) hkB
       injection hae with hae
       injection hae with hae1 hae2
       subst hae1;subst hae2
       have e2:wB.cell? ⟨qb7,qoff7+kq*7+2,none⟩=some (vs ten):=by rw [←HTE.out];exact e2
       have e3:wB.cell? ⟨qb7,qoff7+kq*7+3,none⟩=some (vs txt):=by rw [←HTX.out];exact e3
       obtain ⟨aa,ac,hva,_⟩:=hb1.attsIn
       obtain ⟨na,hna⟩:∃na,(zC rk).atts.length=na:=⟨_,rfl⟩
       have hva:L7.atts=.slice aa na ac:=by rw [←hna];exact hva
       have c7B:wB.cell? ⟨M,7,none⟩=some L7.atts:=hb1.cell (k:=7) rfl
       rw [hva] at c7B
       obtain ⟨ls,hls⟩:∃ls,rk.cfg.lease=ls:=⟨_,rfl⟩
       obtain ⟨nw,hnw⟩:∃nw,rk.now=nw:=⟨_,rfl⟩
       have cl:wB.cell? ⟨M,0,none⟩=some (vi ls):=by rw [←hls];exact hb1.cfgCells.1
       have cn:wB.cell? ⟨M,5,none⟩=some (vi nw):=by rw [←hnw];exact hb1.cfgCells.2.2.2.2.2
       have hcb:=zCZ HK3.out.n.cfg
       have hnwb:=HK3.out.n.now
       have hwl:IntKind.i64.wrap (nw+ls)=nw+ls:=IntWalk.i64_in _ (by have:=HNN.out;omega)
       have hnab:na≤1000000000000:=by rw [←hna];have:=HM.out;have:=HPP.out;omega
       have HSAt:Hid (SlAt (wB.alloc (.cells #[vi id,vi (an+1),vi c,vi nw,vi (nw+ls)] 186)).drew 186 5 (fun b=>ρB b=yE) (.slice aa na ac) na ((zC rk).atts.flatMap zAJ)):=by
        have this:SlAt (wB.alloc (.cells #[vi id,vi (an+1),vi c,vi nw,vi (nw+ls)] 186)).drew 186 5 (fun b=>ρB b=yE) L7.atts (zC rk).atts.length ((zC rk).atts.flatMap zAJ):=(hb1.alloc (.cells #[vi id,vi (an+1),vi c,vi nw,vi (nw+ls)] 186)).drew.atts
        rw [hva,hna] at this
        exact this
       have HNAt:Hid (SlAt (wB.alloc (.cells #[vi id,vi (an+1),vi c,vi nw,vi (nw+ls)] 186)).drew 186 5 (fun b=>b=wB.heap.size) (.slice (some ⟨wB.heap.size,0,none⟩) 1 1) 1 [vi id,vi (an+1),vi c,vi nw,vi (nw+ls)]):=(SlAt.mk_new (T:=186) (sz:=5) (n:=1) wB [vi id,vi (an+1),vi c,vi nw,vi (nw+ls)] rfl (by simp [maxLen]) (own:=fun b=>b=wB.heap.size) rfl).of_blk (fun _ _ _=>rfl) (fun _ h _=>h)
       have HFB:Hid (Fr (fun _=>False) wB (wB.alloc (.cells #[vi id,vi (an+1),vi c,vi nw,vi (nw+ls)] 186)).drew):=((Fr.refl _ wB).alloc _).drew
       have c7b:(wB.alloc (.cells #[vi id,vi (an+1),vi c,vi nw,vi (nw+ls)] 186)).cell? ⟨M,7,none⟩=some (.slice aa na ac):=by rw [←c7B];exact World.cell?_alloc_lt _ _ _ (zW c7B)
       have HVA:=zh hva
       have HNA:=zh hna
       have HKB:=zh hkB
       have HLS:=zh hls
       have HNW:=zh hnw
       clear hb1 hwB hkB e0 e1 e5 e6 hva hna hls hnw hcb hnwb hfB e4A hkl7
       go_cut [] from 114 to 150 (fun wx=>Hid (∃ρC va vc,MRep wx ρC G M {L7 with atts:=.slice va (na+1) vc} {{{{zC rk with waiting:=ws} with ring:=rg} with reqs:=(zC rk).reqs.set kq {zS (id,q) with n:=an+1}} with atts:=(zC rk).atts++[⟨id,an+1,c,nw,nw+ls⟩]}∧Step ρB ρC wB wx))
       case first =>
        refine zNF (S:=fun w'=>w'.cell? ⟨qb7,qoff7+kq*7+4,none⟩=some (vi (an+1))∧w'.cell? ⟨M,5,none⟩=some (vi nw)∧w'.cell? ⟨M,0,none⟩=some (vi ls)∧w'.cell? ⟨M,7,none⟩=some (.slice aa na ac)) (s:=30) (by kernel_rfl) (zIe ?_)
        have hHeld:(fun w'=>w'.cell? ⟨qb7,qoff7+kq*7+4,none⟩=some (vi (an+1))∧w'.cell? ⟨M,5,none⟩=some (vi nw)∧w'.cell? ⟨M,0,none⟩=some (vi ls)∧w'.cell? ⟨M,7,none⟩=some (.slice aa na ac)) wB.drew:=⟨e4,cn,cl,c7B⟩
        iterate 26 (refine zNG rfl (by kernel_rfl) (fun _ _ _ h=>h) hHeld (.inl ⟨by rfl,by (rintro w' ⟨s1,s2,s3,s4⟩;go_simp;try with_reducible rfl)⟩) ?_;try simp only [Act.put,List.setIfInBounds_toArray,List.set_cons_zero,List.set_cons_succ,Nat.reduceAdd])
        refine zBr rfl (by kernel_rfl) (by rfl) (fun K hK=>?_)
        go_simp
        refine hK _ _ (fun _=>⟨zIm e4,zIm cn,zIm cl,c7b⟩) ?_
        try simp only [Act.put,List.setIfInBounds_toArray,List.set_cons_zero,List.set_cons_succ,Nat.reduceAdd]
        refine zBr rfl (by kernel_rfl) (by rfl) (fun K hK=>?_)
        refine zGC _ _ _ (by rfl) zEb (by rfl) HSAt.out (by rfl) HNAt.out (by simp [Value.oneCell']) (by unfold maxLen;omega) (by omega) ?_
        intro vaC vcC wC E he hf hl hs;obtain ⟨g1,g2⟩:=zVG HB1.out HV7.out HKB.out he HFB.out hf (.slice vaC (na+1) vcC);obtain ⟨k1,ρC,k2,k3⟩:=zUq HB1.out HFB.out he hf (l:=(zC rk).atts++[⟨id,an+1,c,nw,nw+ls⟩]) (n:=na+1) (by rw [List.length_append,HNA.out];rfl) (by rw [List.flatMap_append];exact hs);have cnC:wC.cell? ⟨M,5,none⟩=some (vi rk.now):=zB k1 rfl;have clC:wC.cell? ⟨M,0,none⟩=some (vi rk.cfg.lease):=zB k1 rfl;have cnD:(wC.setCell ⟨M,7,none⟩ (.slice vaC (na+1) vcC)).cell? ⟨M,5,none⟩=some (vi rk.now):=k2.cfgCells.2.2.2.2.2;have clD:(wC.setCell ⟨M,7,none⟩ (.slice vaC (na+1) vcC)).cell? ⟨M,0,none⟩=some (vi rk.cfg.lease):=k2.cfgCells.1;rw [HNW.out] at cnC cnD;rw [HLS.out] at clC clD;have c7C:wC.cell? ⟨M,7,none⟩=some L7.atts:=zB k1 rfl;rw [HVA.out] at c7C;have f7C:wC.frozen? ⟨M,7,none⟩=false:=zI k1;have HKC:Hid (_∧_):=⟨k2,k3⟩;clear he hf hl hs k1 k2 k3
        clear hHeld
        have hHeld:(fun w'=>w'.cell? ⟨qb7,qoff7+kq*7+4,none⟩=some (vi (an+1))∧w'.cell? ⟨M,5,none⟩=some (vi nw)∧w'.cell? ⟨M,0,none⟩=some (vi ls)∧w'.cell? ⟨M,7,none⟩=some (.slice aa na ac)) wC:=⟨g1,cnC,clC,c7C⟩
        refine hK _ _ (fun _=>hHeld) ?_
        try simp only [Act.put,List.setIfInBounds_toArray,List.set_cons_zero,List.set_cons_succ,Nat.reduceAdd]
        refine zBr rfl (by kernel_rfl) (by rfl) (fun K hK=>?_)
        go_simp
        refine hK _ _ (fun _=>hHeld) ?_
        try simp only [Act.put,List.setIfInBounds_toArray,List.set_cons_zero,List.set_cons_succ,Nat.reduceAdd]
        refine zBr rfl (by kernel_rfl) (by rfl) (fun K hK=>?_)
        go_simp
        refine hK _ _ (fun _=>hHeld) ?_
        try simp only [Act.put,List.setIfInBounds_toArray,List.set_cons_zero,List.set_cons_succ,Nat.reduceAdd]
        refine zBr rfl (by kernel_rfl) (by rfl) (fun K hK=>?_)
        go_simp
        refine hK _ _ (fun h=>absurd rfl h) ?_
        refine zIf (zNE (by kernel_rfl) ?_ _)
        all_goals
         go_wp2_with fail
         go_meet
         case rel=>exact ⟨_,_,_,HKC.out⟩
       case rest =>
       obtain ⟨wC,hwC⟩:∃wC,wC=wc:=⟨_,rfl⟩
       obtain ⟨ρC,vaC,vcC,hC1,hC2⟩:=hcut.out
       rw [←hwC] at hC1 hC2 ⊢
       obtain ⟨qb',qoff',hae,_,_,e2a,e3a,e4,_,_⟩:=zAX (zCU hC1 HV7.out) HKB.out
       injection hae with hae
       injection hae with hae1 hae2
       subst hae1;subst hae2
       have e2:wC.cell? ⟨qb7,qoff7+kq*7+2,none⟩=some (vs ten):=by rw [←HTE.out];exact e2a
       have e3:wC.cell? ⟨qb7,qoff7+kq*7+3,none⟩=some (vs txt):=by rw [←HTX.out];exact e3a
       have HC1:=zh hC1
       have HC2:=zh hC2
       clear e2a e3a hwC hcut hC1 hC2 c7B cl cn c7b HSAt HNAt HFB
       have hqr:=HK3.out.n.req id q HQA.out
       have HFG:=zh (fun (x:Int) (hx:0≤x∧x < 1000000000000) W=>zBO (x:=x) hx.1 hx.2 W)
       have hidr:0≤id∧id < 1000000000000:=by omega
       have hanr:0≤an+1∧an+1 < 1000000000000:=by omega
       have hza:=zAq id
       have hzb:=zAq (an+1)
       have hzt:ten.size≤80:=by rw [←HTE.out];omega
       have hzx:txt.size≤80:=by rw [←HTX.out];omega
       obtain ⟨d1,g1⟩:∃d1,(⟨#[114,117,110,32]⟩:ByteArray)++bs (decI id)=d1:=⟨_,rfl⟩
       obtain ⟨d2,g2⟩:∃d2,d1++(⟨#[32]⟩:ByteArray)=d2:=⟨_,rfl⟩
       obtain ⟨d3,g3⟩:∃d3,d2++bs (decI (an+1))=d3:=⟨_,rfl⟩
       obtain ⟨d4,g4⟩:∃d4,d3++(⟨#[32]⟩:ByteArray)=d4:=⟨_,rfl⟩
       obtain ⟨d5,g5⟩:∃d5,d4++ten=d5:=⟨_,rfl⟩
       obtain ⟨d6,g6⟩:∃d6,d5++(⟨#[32]⟩:ByteArray)=d6:=⟨_,rfl⟩
       obtain ⟨d7,g7⟩:∃d7,d6++txt=d7:=⟨_,rfl⟩
       have z1s:d1.size=4+(bs (decI id)).size:=by rw [←g1,ByteArray.size_append];rfl
       have z2s:d2.size=d1.size+1:=by rw [←g2,ByteArray.size_append];rfl
       have z3s:d3.size=d2.size+(bs (decI (an+1))).size:=by rw [←g3,ByteArray.size_append]
       have z4s:d4.size=d3.size+1:=by rw [←g4,ByteArray.size_append];rfl
       have z5s:d5.size=d4.size+ten.size:=by rw [←g5,ByteArray.size_append]
       have z6s:d6.size=d5.size+1:=by rw [←g6,ByteArray.size_append];rfl
       have hstr:d7=bs (zN [wRun,decI id,decI (an+1),ten.data.toList,txt.data.toList]):=by rw [←g7,←g6,←g5,←g4,←g3,←g2,←g1];exact zVE id (an+1) ten txt
       have z1:¬9223372036854775807 < 4+(bs (decI id)).size:=by omega
       have z2:¬9223372036854775807 < d1.size+1:=by omega
       have z3:¬9223372036854775807 < d2.size+(bs (decI (an+1))).size:=by omega
       have z4:¬9223372036854775807 < d3.size+1:=by omega
       have z5:¬9223372036854775807 < d4.size+ten.size:=by omega
       have z6:¬9223372036854775807 < d5.size+1:=by omega
       have z7:¬9223372036854775807 < d6.size+txt.size:=by omega
       have HS:=zh (fun W (hW:Below wC.heap.size wC W)=>zDe (HC1.out.grow hW) c (zN [wRun,decI id,decI (an+1),ten.data.toList,txt.data.toList]) (zVF _ _ _ _ hzt hzx) (by show rk.out.length≤_;have h1:rk.out.length≤P:=HM.out.2.2.2.2.2.2.1;have:=HPP.out;omega))
       rw [←hstr] at HS
       have HSTR:=zh hstr
       have HKP:Hid (∀(wx:World) (mx:RefM),MStO wC ρC G M {L7 with atts:=.slice vaC (na+1) vcC} mx wx∨True→True):=fun _ _ _=>trivial
       clear HKP hqr hza hzb hzt hzx z1s z2s z3s z4s z5s z6s hstr
       go_wp2_with fail
       go_region_held3 (fun w'=>w'.cell? ⟨qb7,qoff7+kq*7+4,none⟩=some (vi (an+1))∧w'.cell? ⟨qb7,qoff7+kq*7+2,none⟩=some (vs ten)∧w'.cell? ⟨qb7,qoff7+kq*7+3,none⟩=some (vs txt)) (go_keep) (first
        | (go_at_call 118;refine (HS.out _ HB.out).mono ?_;rintro e wD ⟨rfl,hst⟩;obtain ⟨r4,r2,r3⟩:=zVK (x:=zS (id,q)) hst HV7.out HKB.out HTE.out HTX.out;have HST:=zh hst;have HBD:=zh HB.out;clear hst)
        | (go_at_call 119;refine (HFG.out _ (by first | exact hidr | exact hanr) _).mono ?_;rintro e wD ⟨rfl,hb⟩;have HB:Hid (Below wC.heap.size wC wD):=(by first | exact Below.trans HB.out (hb.mono HB.out.size) | exact zAh hb);have e2b:=(HB.out.cell (zW e2)).trans e2;have e3b:=(HB.out.cell (zW e3)).trans e3;have e4b:=(HB.out.cell (zW e4)).trans e4;clear hb))
       all_goals
        go_wp2_with fail
        go_roundw
        case rel =>
         obtain ⟨ρD,vD,p1,p2⟩:=HST.out
         obtain rfl:=HAN.out
         obtain rfl:=HTE.out
         obtain rfl:=HTX.out
         obtain rfl:=HLS.out
         obtain rfl:=HNW.out
         obtain rfl:=HRG.out
         exact ⟨xN rk,ρD,{L7 with atts:=.slice vaC (na+1) vcC,out:=vD},by rw [zUg HK3.out HWS.out HKX.out HTS.out HQI.out];exact p1,((HB2.out.trans HC2.out).trans (Step.still (Fr.of_below HBD.out))).trans p2,HK3.out.serve1,zVL HK3.out HWS.out HTS.out HK4.out⟩
        case measure =>
         obtain ⟨ρD,vD,p1,p2⟩:=HST.out
         rw [zNU p1,zNU HK1.out]
         show ws.length < rk.waiting.length
         rw [HWS.out];simp
      ·have hge:decide (rn≥cp)=true:=decide_eq_true (by omega)
       have HNN2:Hid (∀(j:Nat) p,j < k+1→(zC rk).ring[j]?=some p→zGi rk cp p):=zVP HNO.out.2 HKX.out (show ¬zT rk t < cp by rw [HRN.out];exact hlc)
       clear hlc
       go_wp2_with fail
       go_region_held3 (fun w'=>w'.cell? ⟨M,8,none⟩=some (.slice (some ⟨rb,roff,none⟩) n rc)∧w'.cell? ⟨M,2,none⟩=some (vi cp)∧w'.cell? ⟨rb,roff+k*2,none⟩=some (vs t)) (go_keep) ((go_at_call 157;refine HRT.out.mono ?_;rintro e w5 ⟨rfl,hb⟩;have c8x:=yh hb c8w;have c2x:=yh hb c2w;have r0x:=yh hb r0;have HB5:=zh (HNO.out.1.trans ((zAh hb).mono HNO.out.1.size));clear hb))
       all_goals
        go_wp2_with fail
        go_roundw
        case rel=>exact ⟨k+1,by go_num,by omega,HB5.out,HNN2.out⟩
        case measure=>simp [intOf];omega
     ·obtain rfl:k=n:=by omega
      have hlt:decide ((k:Int) < (k:Int))=false:=by simp
      have HFIN:Hid (MSt w ρ G M (zC (yC r)) wr):=by
       have:yC r=rk:=by rw [←HK4.out];exact zNV (.inr (zVN (fun j p hj hp=>by rw [HCP.out];exact HNO.out.2 j p (by rw [←HN.out];exact hj) hp))) _
       show MSt _ _ _ _ _ _
       rw [this]
       exact ⟨ρk,Lk,HK1.out.grow HNO.out.1,HK2.out.trans (Step.still (Fr.of_below HNO.out.1))⟩
      clear HNO
      go_wp2_with fail
      go_quiet (fail)
      go_wp2_with fail
      refine bodyPost_ret (results_none rfl _ _ _) rfl ?_
      exact ⟨rfl,(MSt.drewN HFIN.out _)⟩
end
end Go.Proofs.YtaejfobbogahmaaGreatDoor
