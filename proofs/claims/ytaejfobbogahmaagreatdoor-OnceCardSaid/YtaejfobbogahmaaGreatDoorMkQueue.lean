/-
  Insert Queue Unqueue: texts of their own, joined.
-/
import Derived.Test.YtaejfobbogahmaaGreatDoorMkWithout
import Derived.Test.YtaejfobbogahmaaGreatDoorMkShelf
import Derived.Deep.RegionLaw
set_option maxRecDepth 100000
set_option maxHeartbeats 16000000
set_option linter.all false
namespace Go.Proofs.YtaejfobbogahmaaGreatDoor
open Go Go.RowKit
def zGL (own:Nat→Prop) (x:Int) (l:List Int) (w:World) (e:Ending) (w':World):Prop:=
 ∃g off cap,e=.returned (.slice (some ⟨g,off,none⟩) (l.length+1) cap)∧(own g∨g=w.heap.size)∧SlAt w' 3 1 (fun b=>b=g) (.slice (some ⟨g,off,none⟩) (l.length+1) cap) (l.length+1) ((x::l).map encI)∧Fr (fun b=>b=g) w w'∧g < w'.heap.size
theorem zGM (l:List Int):∀v∈l.map encI,v.oneCell'=true:=by
 intro v hv
 obtain ⟨n,_,rfl⟩:=List.mem_map.1 hv
 rfl
theorem zCm (x:Int):∀v∈[vi x],v.oneCell'=true:=by
 intro v hv
 simp at hv;subst hv;rfl
theorem zCn (b:Nat):∀(vs:List Value) (o:Nat) (w:World),(w.setCells b o vs).heap.size=w.heap.size
 | [],_,_=>rfl
 | u::vs,o,w=>by rw [World.setCells,zCn b vs];simp
theorem zCo {w':World} {g off cap n:Nat} {cs':Array Value} {x:Int} {l:List Int} (h1:w'.heap[g]?=some (.cells cs' 3 (0,0))) (hn:n=l.length) (hcap:n+1≤cap) (hcm:cap≤maxLen) (hsz:off+cap*1≤cs'.size)
 (h0:cs'[off]?=some (vi x)) (hr:∀(j:Nat) u,(l.map encI)[j]?=some u→cs'[off+(1+j)]?=some u) :
 SlAt w' 3 1 (fun b=>b=g) (.slice (some ⟨g,off,none⟩) (l.length+1) cap) (l.length+1) ((x::l).map encI):=by
 subst hn
 refine .inr ⟨g,off,cap,cs',rfl,rfl,h1,hcap,hcm,hsz,by simp,?_⟩
 intro j u hj
 cases j with
 | zero=>simp at hj;subst hj;exact h0
 | succ j =>
   have:=hr j u (by simpa using hj)
   rwa [show off+(1+j)=off+(j+1) by omega] at this
theorem zGN {w:World} {own:Nat→Prop} {v:Value} {l:List Int} (hs:SlAt w 3 1 own v l.length (l.map encI)) {B:Nat} {x:Int} {TB:TypeId} (hB:w.heap[B]?=some (.cells #[vi x] TB (0,0))) (hBo:¬own B) (hl:l.length≤1000000000000) :
 Calls Tryz.prog 93 #[v,vi 0,.slice (some ⟨B,0,none⟩) 1 1] w (zGL own x l w):=by
 have hBc:∀(j:Nat) u,[vi x][j]?=some u→w.cell? ⟨B,0+j,none⟩=some u:=fun j u hj=>by
  cases j with
  | zero=>simp at hj;subst hj;exact zB hB rfl
  | succ j=>simp at hj
 have hgrow0:∀(base:Option Addr) (c:Nat),l=[]→c=0→(base=none→(0:Nat)=0)→Calls Tryz.prog 93 #[.slice base 0 c,vi 0,.slice (some ⟨B,0,none⟩) 1 1] w (zGL own x l w):=by
  intro base c hl0 hc hnil
  subst hl0;subst hc
  refine (Any2.slices_Insert_int_end_grow Tryz.lays2x21 base 0 0 B 0 1 1 [] [vi x] w (by omega) (by omega) (by omega) (by omega) rfl rfl hnil (by simp) hBc (zCm x)).mono ?_
  rintro e w' ⟨rfl,rfl⟩
  have hcm:grownCap w (0+1) 0 3≤maxLen:=grownCap_le_maxLen w (0+1) 0 3 (by unfold maxLen;omega)
  have hge:=grownCap_ge w (0+1) 0 3
  refine ⟨w.heap.size,0,grownCap w (0+1) 0 3,rfl,.inr rfl,?_,(Fr.refl _ w).drew.alloc _,by simp⟩
  refine zCo (n:=0) (zP w.drew) rfl hge hcm ?_ ?_ (by simp)
  ·rw [Array.size_append,size_zeroCells]
   show 0+grownCap w (0+1) 0 3*1≤1+(grownCap w (0+1) 0 3 - (0+1))*1
   omega
  ·rw [Array.getElem?_append_left (by simp)]
   rfl
 rcases hs with ⟨rfl,hn,hxs⟩ | ⟨b,off,cap,cs,rfl,h2,h3,h4,h5,h6,h7,h8⟩
 ·have hl0:l=[]:=by simpa using hxs
  have:=hgrow0 none 0 hl0 rfl (fun _=>rfl)
  rw [hl0] at this ⊢
  exact this
 ·have hBb:B≠b:=fun e=>hBo (e ▸ h2)
  have hcell:∀(j:Nat) u,(l.map encI)[j]?=some u→w.cell? ⟨b,off+j,none⟩=some u:=fun j u hj=>zB h3 (h8 j u hj)
  have hsome:∀j,j < cap→(w.cell? ⟨b,off+j,none⟩).isSome=true:=fun j hj=>by
   rw [zCM h3];simp;omega
  by_cases hroom:l.length+1≤cap
  ·by_cases hpos:0 < l.length
   ·refine (Any2.slices_Insert_int_shift Tryz.lays2x21 b off l.length cap 0 B 0 1 1 (l.map encI) [vi x] w hpos (by omega) hroom (by unfold maxLen at h5;omega) hBb (by simp) rfl hcell (fun j hj=>hsome j (by omega)) (fun j hj=>zK h3) hBc (zGM l) (zCm x)
     TB 3 1 cs.size (by simp [World.shape?,hB]) (by simp [World.shape?,h3]) (by omega) (zK hB) (zK hB)).mono ?_
    rintro e w' ⟨rfl,rfl⟩
    obtain ⟨c1,a1,a2,a3,a4⟩:=zAS (l.map encI) (off+1) w.drew cs h3 (by simp;omega)
    obtain ⟨c2,b1,b2,b3,b4⟩:=zAS [vi x] off (w.drew.setCells b (off+1) (l.map encI)) c1 a1 (by simp;omega)
    refine ⟨b,off,cap,rfl,.inl h2,?_,?_,?_⟩
    ·refine zCo (n:=l.length) b1 rfl hroom h5 (by omega) (b3 0 _ rfl) ?_
     intro j u hj
     rw [b4 _ (by simp;try omega)]
     have:=a3 j u hj
     rwa [show off+1+j=off+(1+j) by omega] at this
    ·exact zAG _ _ _ _ (zAG _ _ _ _ (Fr.refl _ w).drew (.inl rfl)) (.inl rfl)
    ·rw [zCn,zCn];exact zD w h3
   ·have hl0:l=[]:=List.length_eq_zero_iff.1 (by omega)
    subst hl0
    refine (Any2.slices_Insert_int_end_room Tryz.lays2x21 b off 0 cap B 0 1 1 [vi x] w (by omega) hroom (by unfold maxLen at h5;omega) rfl (fun j hj=>hsome _ (by omega)) (fun j hj=>zK h3) hBc (zCm x)).mono ?_
    rintro e w' ⟨rfl,rfl⟩
    obtain ⟨c2,b1,b2,b3,b4⟩:=zAS [vi x] (off+0) w cs h3 (by simp at hroom ⊢;omega)
    refine ⟨b,off,cap,rfl,.inl h2,?_,?_,?_⟩
    ·exact zCo (n:=0) b1 rfl hroom h5 (by omega) (b3 0 _ rfl) (by simp)
    ·exact zAG _ _ _ _ (Fr.refl _ w) (.inl rfl)
    ·rw [zCn];exact zD w h3
  ·have hcl:cap=l.length:=by omega
   by_cases hpos:0 < l.length
   ·refine (Any2.slices_Insert_int_grow Tryz.lays2x21 b off l.length cap 0 B 0 1 1 (l.map encI) [vi x] w hpos (by omega) (by omega) (by omega) (by omega) (by simp) rfl hcell hBc (zGM l) (zCm x)).mono ?_
    rintro e w' ⟨rfl,rfl⟩
    have hcm:grownCap w (l.length+1) cap 3≤maxLen:=grownCap_le_maxLen w (l.length+1) cap 3 (by unfold maxLen;omega)
    have hge:=grownCap_ge w (l.length+1) cap 3
    generalize hgc:grownCap w (l.length+1) cap 3=gc at hcm hge
    have hgc2:grownCap w (l.length+1) cap (Tryz.lays2x21_ren.t 3)=gc:=hgc
    rw [hgc2]
    obtain ⟨c0,hc0⟩:∃c0:Array Value,c0=(List.take 0 (l.map encI)).toArray++Builtin.zeroCells (Value.int .i64 0).cells (l.length+1 - 0)++Builtin.zeroCells (Value.int .i64 0).cells (gc - (l.length+1)):=⟨_,rfl⟩
    rw [←hc0]
    have hc0s:c0.size=gc:=by
     rw [hc0,Array.size_append,Array.size_append,size_zeroCells,size_zeroCells]
     show 0+_*1+_*1=_
     omega
    obtain ⟨c1,a1,a2,a3,a4⟩:=zAS [vi x] 0 (w.alloc (.cells c0 3)).drew c0 (zP w) (by simp;omega)
    obtain ⟨c2,b1,b2,b3,b4⟩:=zAS (l.map encI) 1 ((w.alloc (.cells c0 3)).drew.setCells w.heap.size 0 [vi x]).drew c1 a1 (by simp;omega)
    refine ⟨w.heap.size,0,gc,rfl,.inr rfl,?_,?_,?_⟩
    ·refine zCo (n:=l.length) b1 rfl hge hcm (by omega) ?_ ?_
     ·rw [b4 _ (by omega)];exact a3 0 _ rfl
     ·intro j u hj
      have:=b3 j u hj
      rwa [show 1+j=0+(1+j) by omega] at this
    ·exact zAG (S:=fun b=>b=w.heap.size) _ _ _ _ (zAG (S:=fun b=>b=w.heap.size) _ _ _ _ ((Fr.refl _ w).alloc _).drew (.inl rfl)).drew (.inl rfl)
    ·exact zD _ b1
   ·have hl0:l=[]:=List.length_eq_zero_iff.1 (by omega)
    have:=hgrow0 (some ⟨b,off,none⟩) cap hl0 (by rw [hl0] at hcl;exact hcl) (fun e=>by cases e)
    rw [hl0] at this ⊢
    exact this
theorem RRep.qu_at {w:World} {ρ:Nat→Role} {G D:Nat} {L:Lay} {r:Raw} (h:RRep w ρ G D L r) (t:ByteArray) :
 ∃a cap,(aget (amap (fun t _=>L.qu t) r.queues) t).getD (.slice none 0 0)=.slice a (qOf r t).length cap∧(qOf r t).length≤cap∧cap≤maxLen∧SlAt w 3 1 (fun b=>ρ b=rQu t) (.slice a (qOf r t).length cap) (qOf r t).length ((qOf r t).map encI):=by
 have hs:SlAt w 3 1 (fun b=>ρ b=rQu t) ((aget (amap (fun t _=>L.qu t) r.queues) t).getD (.slice none 0 0)) (qOf r t).length ((qOf r t).map encI):=by
  rw [zy]
  unfold qOf
  cases hq:aget r.queues t with
  | none=>exact SlAt.nil
  | some l=>exact h.qus.2.2.2 t l (yQ hq)
 obtain ⟨a,cap,e,h1,h2⟩:=hs.form'
 exact ⟨a,cap,e,h1,h2,e ▸ hs⟩
theorem zKG {w w3:World} {ρ:Nat→Role} {G D:Nat} {L:Lay} {r:Raw} (h:RRep w ρ G D L r) {t:ByteArray} {g:Nat} (hg:ρ g=rQu t∨g=w.heap.size) (hf:Fr (fun b=>b=g) w w3) {id:Int} {q:Req} (hq:aget r.reqs id=some q) :
 w3.cell? ⟨D,8,none⟩=some (.map (some L.mq))∧w3.cell? ⟨L.req id,1,none⟩=some (vs q.tenant)∧zN encS w3 L.mq (amap (fun t _=>L.qu t) r.queues):=by
 have ne:∀b R,b < w.heap.size→ρ b=R→R≠rQu t→w3.heap[b]?=w.heap[b]?:=fun b R hb hR hne=>hf.block b hb (fun e=>by
  subst e
  rcases hg with h1 | h1
  ·exact hne (hR.symm.trans h1)
  ·omega)
 refine ⟨zB ((ne D _ h.size.2 h.disp.1 (by simp [zC,rQu])).trans h.disp.2) rfl,?_,h.qus.2.1.of_blk (ne _ _ h.qus.2.1.lt h.qus.1 (by simp [rMq,rQu]))⟩
 obtain ⟨q1,q2⟩:=h.opn.2.2.2 id q (yQ hq)
 exact zB ((ne _ _ (zD w q2) q1 (by simp [rReq,rQu])).trans q2) rfl
theorem zKH {w w3 w4:World} {ρ:Nat→Role} {G D:Nat} {L:Lay} {r:Raw} (h:RRep w ρ G D L r) {t:ByteArray} {g:Nat} (hg:ρ g=rQu t∨g=w.heap.size) (hf:Fr (fun b=>b=g) w w3) {v:Value} {l:List Int} (hs:SlAt w3 3 1 (fun b=>b=g) v l.length (l.map encI)) (hlt:g < w3.heap.size)
 (hM:zN encS w4 L.mq (aset (amap (fun t _=>L.qu t) r.queues) t v)) (hf4:Fr (fun b=>b=L.mq) w3 w4):∃ρ',RRep w4 ρ' G D {L with qu:=fun s=>if s=t then v else L.qu s} {r with queues:=aset r.queues t l}∧Step ρ ρ' w w4:=by
 have hmq:ρ L.mq=rMq:=h.qus.1
 have hgm:g≠L.mq:=by
  rintro rfl
  rcases hg with h1 | h1
  ·rw [hmq] at h1;simp [rMq,rQu] at h1
  ·have:=h.qus.2.1.lt;omega
 refine ⟨zf ρ g (rQu t),h.put_qu (Ext.set (hg.imp id (fun e=>by omega)) (Nat.lt_of_lt_of_le hlt hf4.size)) hM (hs.of_blk (fun b hb hl=>hf4.block b hl (fun e=>hgm (hb.symm.trans e))) (fun b hb _=>by rw [hb];exact ym _ _ _)) ?_⟩
 exact (hf.mono (fun x hx=>.inl (.inr (by rw [hx];exact ym _ _ _)))).trans hf4 (fun x hx=>.inl (.inl hx))
theorem zKI {w w3:World} {ρ:Nat→Role} {G D:Nat} {L:Lay} {r:Raw} (h:RRep w ρ G D L r) {g off cap n:Nat} (hg:ρ g=zT∨g=w.heap.size) {l:List ByteArray} (hn:l.length=n) (hs:SlAt w3 9 1 (fun b=>b=g) (.slice (some ⟨g,off,none⟩) n cap) n (l.map encS)) (hlt:g < w3.heap.size) (hf:Fr (fun b=>b=g) w w3) {id:Int} {q:Req} (hq:aget r.reqs id=some q) :
 w3.frozen? ⟨D,10,none⟩=false∧w3.cell? ⟨D,10,none⟩=some L.ring∧w3.cell? ⟨L.req id,1,none⟩=some (vs q.tenant)∧∃ρ',RRep (w3.setCell ⟨D,10,none⟩ (.slice (some ⟨g,off,none⟩) n cap)) ρ' G D {L with ring:=.slice (some ⟨g,off,none⟩) n cap} {r with ring:=l}∧Step ρ ρ' w (w3.setCell ⟨D,10,none⟩ (.slice (some ⟨g,off,none⟩) n cap)):=by
 subst hn
 have hDr:=h.disp.1
 have hgD:D≠g:=by
  rintro rfl
  rcases hg with h1 | h1
  ·rw [hDr] at h1;simp [zC,zT] at h1
  ·have:=h.size;omega
 have hD:w3.heap[D]?=some (.cells (yR L r.cfg r.now r.seq) 81 (0,0)):=(hf.block D h.size.2 hgD).trans h.disp.2
 have hQb:=h.opn.2.2.2 id q (yQ hq)
 have hQ3:w3.heap[L.req id]?=some (.cells (zAI q) 116 (0,0)):=(hf.block _ (zD w hQb.2) (fun e=>by
  subst e
  rcases hg with h1 | h1
  ·rw [hQb.1] at h1;simp [rReq,zT] at h1
  ·have:=zD w hQb.2;omega)).trans hQb.2
 refine ⟨zK hD,zB hD rfl,zB hQ3 rfl,zf ρ g zT,h.put_ring (Ext.set (hg.imp (fun e=>e) (fun e=>by omega)) (by simpa using hlt)) (zO w3 hD) (hs.of_blk (fun b hb _=>zG _ (by show b≠D;rw [hb];exact Ne.symm hgD)) (fun b hb _=>by rw [hb];exact ym _ _ _)) ?_⟩
 exact (hf.mono (fun x hx=>.inl (.inr (by rw [hx];exact ym _ _ _)))).setCell _ _ (.inl (.inl rfl))
theorem Fr.ofDrewL {S:Nat→Prop} {a b:World} (h:Fr S a.drew b):Fr S a b:=h.ofDrew
theorem yx (S:Nat→Prop) (w:World) (n:Nat):Fr S w (w.drewN n):=⟨rfl,rfl,rfl,Nat.le_refl _,fun _ _ _=>rfl⟩
theorem RRep.drewN {w:World} {ρ:Nat→Role} {G D:Nat} {L:Lay} {r:Raw} (h:RRep w ρ G D L r) (n:Nat):RRep (w.drewN n) ρ G D L r:=h.of_fr (S:=fun _=>False) (yx _ _ _) (fun _ f=>f.elim)
theorem Step.drewN {ρ ρ':Nat→Role} {a b:World} (h:Step ρ ρ' a b) (n:Nat):Step ρ ρ' a (b.drewN n):=⟨h.fr.trans (yx _ _ _) (fun _ h=>h),h.own⟩
theorem Step.alloc {ρ ρ':Nat→Role} {a b:World} (h:Step ρ ρ' a b) (o:Obj):Step ρ ρ' a (b.alloc o):=⟨h.fr.alloc o,h.own⟩
theorem RRep.qu_sl {w:World} {ρ:Nat→Role} {G D:Nat} {L:Lay} {r:Raw} (h:RRep w ρ G D L r) {t:ByteArray} {v:Value} (hv:(aget (amap (fun t _=>L.qu t) r.queues) t).getD (.slice none 0 0)=v) :
 SlAt w 3 1 (fun b=>ρ b=rQu t) v (qOf r t).length ((qOf r t).map encI):=by
 obtain ⟨a,cap,e,_,_,hs⟩:=h.qu_at t
 rw [←hv,e];exact hs
def QuAt (w:World) (ρ:Nat→Role) (G D:Nat) (L:Lay) (r2:Raw) (w4:World):Prop:=
 ∃ρ2 L2,RRep w4 ρ2 G D L2 r2∧Step ρ ρ2 w w4∧L2.att=L.att∧L2.req=L.req∧L2.cn=L.cn∧L2.qu=L.qu∧L2.mq=L.mq
theorem QuAt.sl {w w4:World} {ρ:Nat→Role} {G D:Nat} {L:Lay} {r2:Raw} (h:QuAt w ρ G D L r2 w4) {t:ByteArray} {v:Value} (hv:(aget (amap (fun t _=>L.qu t) r2.queues) t).getD (.slice none 0 0)=v) (o:Obj) :
 ∃own:Nat→Prop,SlAt (w4.alloc o) 3 1 own v (qOf r2 t).length ((qOf r2 t).map encI)∧¬own w4.heap.size∧∀(g:Nat) (w5:World),(own g∨g=(w4.alloc o).heap.size)→Fr (fun b=>b=g) (w4.alloc o) w5→g < w5.heap.size→∀id q,aget r2.reqs id=some q →
  (w5.cell? ⟨D,8,none⟩=some (.map (some L.mq))∧w5.cell? ⟨L.req id,1,none⟩=some (vs q.tenant)∧zN encS w5 L.mq (amap (fun t _=>L.qu t) r2.queues)) ∧
  ∀(v':Value) (l:List Int),SlAt w5 3 1 (fun b=>b=g) v' l.length (l.map encI)→∀w6,zN encS w6 L.mq (aset (amap (fun t _=>L.qu t) r2.queues) t v')→Fr (fun b=>b=L.mq) w5 w6→St true true true w ρ G D L {r2 with queues:=aset r2.queues t l} w6:=by
 obtain ⟨ρ2,L2,h1,h2,h3,h4,h5,h6,h7⟩:=h
 rw [←h6] at hv
 have hA:=h1.alloc o
 refine ⟨fun b=>ρ2 b=rQu t,hA.qu_sl hv,fun hb=>?_,fun g w5 hg hf hlt id q hq=>⟨?_,fun v' l hs w6 hM hf6=>?_⟩⟩
 ·have:=(h1.dom w4.heap.size (by have hb:ρ2 w4.heap.size=rQu t:=hb;rw [hb];simp [rQu])).2;omega
 ·have:=zKG hA hg hf hq
  rw [h6,h7,h4] at this;exact this
 ·rw [←h6,←h7] at hM
  rw [←h7] at hf6
  obtain ⟨ρ',k1,k2⟩:=zKH hA hg hf hs hlt hM hf6
  exact ⟨ρ',_,k1,(h2.alloc o).trans k2,fun _=>h3,fun _=>h4,fun _=>h5⟩
theorem zCp {w:World} {ρ:Nat→Role} {G D:Nat} {L:Lay} {r:Raw} (h:RRep w ρ G D L r) (id:Int) {q:Req} (hq:aget r.reqs id=some q) (first:Bool) (hrl:r.ring.length≤1000000000000) (hql:(qOf r q.tenant).length≤1000000000000) :
 Calls Tryz.prog 52 #[vp D,vi id,.bool first] w (xp true true true w ρ G D L (zj r id first)):=by
 have c6:=h.disp.c6
 have hl:=yw h.opn.2.1 id
 rw [zy,hq] at hl
 simp only [Option.map_some,Option.getD_some] at hl
 have hblk:=h.req_blk hq
 have f6:w.frozen? ⟨L.req id,6,none⟩=false:=zK hblk
 have d6:w.cell? ⟨L.req id,6,none⟩=some (.bool q.queued):=zB hblk rfl
 obtain ⟨k1,k2⟩:=h.put_req (w':=w.setCell ⟨L.req id,6,none⟩ (.bool true)) (y:={q with queued:=true}) hq (zO w hblk) ((Fr.refl _ w).setCell _ _ (.inl rfl))
 have HK:=zh (And.intro k1 k2)
 cases first
 case' false =>
  have HQ:Hid (zj r id false={r with reqs:=aset r.reqs id {q with queued:=true},ring:=if qOf r q.tenant=[] then r.ring++[q.tenant] else r.ring,queues:=aset r.queues q.tenant (qOf r q.tenant++[id])}):=show _=_ by unfold zj;rw [hq];rfl
 case' true =>
  have HQ:Hid (zj r id true={r with reqs:=aset r.reqs id {q with queued:=true},ring:=if qOf r q.tenant=[] then r.ring++[q.tenant] else r.ring,queues:=aset r.queues q.tenant (id::qOf r q.tenant)}):=show _=_ by unfold zj;rw [hq];rfl
 all_goals
  have HQ1:Hid (aget (aset r.reqs id {q with queued:=true}) id=some {q with queued:=true}):=show _=_ by simp [zV]
  have Hrl:=zh hrl
  have Hql:=zh hql
  clear k1 k2 h hq hblk hrl hql
  go_enter Tryz.func52,Tryz.ntmps52
  go_wp2_with fail
  obtain ⟨w1,hw1⟩:∃w1,w1=w.setCell ⟨L.req id,6,none⟩ (.bool true):=⟨_,rfl⟩
  rw [←hw1] at HK ⊢
  clear hw1
  obtain ⟨qa,qc,hqe,hqc,hqm,hqs⟩:=HK.out.1.qu_at q.tenant
  replace hqe:(aget (amap (fun t _=>L.qu t) r.queues) q.tenant).getD (.slice none 0 0)=.slice qa (qOf r q.tenant).length qc:=hqe
  replace hqc:(qOf r q.tenant).length≤qc:=hqc
  clear hqs
  have c8:w1.cell? ⟨D,8,none⟩=some (.map (some L.mq)):=HK.out.1.disp.c8
  have t1:w1.cell? ⟨L.req id,1,none⟩=some (vs q.tenant):=zB (HK.out.1.req_blk HQ1.out) rfl
  have hlq:∀n,(Instr.lookup 74 (.map (some L.mq)) (vs q.tenant) false).run Tryz.prog (w1.drewN n)=.ok (.slice qa (qOf r q.tenant).length qc) (w1.drewN n):=fun n=>by
   have:=zBS (HK.out.1.qus.2.1.of_blk (w':=w1.drewN n) rfl) q.tenant
   rw [hqe] at this;exact this
  unfold maxLen at hqm
  have HQE:=zh hqe
  clear hqe
  by_cases hn:(qOf r q.tenant).length=0
  ·have hn0:(((qOf r q.tenant).length:Int)==0)=true:=by rw [hn];rfl
   have Hn:Hid (qOf r q.tenant=[]):=List.length_eq_zero_iff.1 hn
   clear hn
   go_quiet (fail)
   go_wp2_with fail
   have HK2:=zh (And.intro (HK.out.1.drewN nq) (HK.out.2.drewN nq))
   clear c8 t1 hlq
   obtain ⟨w2,hw2⟩:∃w2,w2=w1.drewN nq:=⟨_,rfl⟩
   rw [←hw2] at HK2 ⊢
   clear hw2 HK
   have c10:w2.cell? ⟨D,10,none⟩=some L.ring:=HK2.out.1.disp.c10
   have t1:w2.cell? ⟨L.req id,1,none⟩=some (vs q.tenant):=zB (HK2.out.1.req_blk HQ1.out) rfl
   have HRs:Hid (SlAt (w2.alloc (.cells #[vs q.tenant] 9)).drew 9 1 (fun b=>ρ b=zT) L.ring r.ring.length (r.ring.map encS)):=(HK2.out.1.alloc (.cells #[vs q.tenant] 9)).drew.rng
   have HB:=zh (show r.ring.length+1≤maxLen∧(r.ring.length+1)*16≤140737488355328 by have:=Hrl.out;unfold maxLen;omega)
   have f10:w2.frozen? ⟨D,10,none⟩=false:=HK2.out.1.disp.frozen 10
   have c10b:(w2.alloc (.cells #[vs q.tenant] 9)).cell? ⟨D,10,none⟩=some L.ring:=(HK2.out.1.alloc _).disp.c10
   have f10b:(w2.alloc (.cells #[vs q.tenant] 9)).frozen? ⟨D,10,none⟩=false:=(HK2.out.1.alloc _).disp.frozen 10
   go_region_law (first | (refine zBQ _ (by rfl) _ _ _ _ (by rfl) zAi (by rfl) HRs.out (by rfl) (yn w2.drew Tryz.underlying47 [vs q.tenant] (by rfl) (by simp [Value.oneCell']) w2.heap.size (by simp)) (by omega) HB.out.1 HB.out.2 ?_;intro g goff gcap w3 hg3 hs3 hf3 hlt3 _ _;obtain ⟨f3,c3,t3,k3⟩:=zKI (HK2.out.1.alloc (.cells #[vs q.tenant] 9)).drew (l:=r.ring++[q.tenant]) hg3 (n:=r.ring.length+1) (by simp) (by rw [List.map_append];exact hs3) hlt3 hf3 HQ1.out;have HK3:=zh k3;clear hs3 hf3 hg3 hlt3 k3))
   all_goals
    have HR:Hid ((if qOf r q.tenant=[] then r.ring++[q.tenant] else r.ring)=r.ring++[q.tenant]):=if_pos Hn.out
    go_wp2_with (
     first | go_at_call 93 | at_builtin
     obtain ⟨ρ3,k1,k2⟩:=HK3.out
     have HT:Hid (QuAt w ρ G D L _ _):=⟨_,_,k1,((HK2.out.2.alloc _).drew).trans k2,rfl,rfl,rfl,rfl,rfl⟩
     obtain ⟨w4,hw4⟩:∃w4,w4=w3.setCell ⟨D,10,none⟩ (.slice (some ⟨g,goff,none⟩) (r.ring.length+1) gcap):=⟨_,rfl⟩
     have HW4:Hid (w3.heap.size=w4.heap.size):=show _=_ by rw [hw4];simp
     rw [←hw4] at HT ⊢
     clear k1 k2 hw4 f3 c3 c10 t1 t3 f10 f10b c10b
     obtain ⟨own,hs4,ho4,HX⟩:=HT.out.sl HQE.out (.cells #[vi id] 3)
     have HS4:=zh hs4
     have HO4:=zh ho4
     have HX4:=zh HX
     clear hs4 ho4 HX
     first
      | (have HI:=zh (zGN (w:=w4.alloc (.cells #[vi id] 3)) (B:=w3.heap.size) (x:=id) (l:=qOf r q.tenant) HS4.out (by rw [HW4.out];exact zP w4) (by rw [HW4.out];exact HO4.out) Hql.out);refine HI.out.mono ?_;rintro e w5 ⟨g5,goff5,gcap5,rfl,hg5,hs5,hf5,hlt5⟩)
      | (have HB2:=zh (show (qOf r q.tenant).length+1≤maxLen∧((qOf r q.tenant).length+1)*8≤140737488355328 by have:=Hql.out;unfold maxLen;omega);refine xU _ rfl _ _ _ _ rfl zBR rfl HS4.out rfl (yn w4 Tryz.underlying46 [vi id] (by rfl) (by simp [Value.oneCell']) w3.heap.size HW4.out) (by omega) HB2.out.1 HB2.out.2 ?_;intro g5 goff5 gcap5 w5 hg5 hs5 hf5 hlt5 _ _)
     obtain ⟨⟨c8,t1,m5⟩,k5⟩:=HX4.out g5 w5 hg5 hf5 hlt5 id _ HQ1.out
     have HM5:=zh m5
     first
      | have HK5:=zh (k5 _ (id::qOf r q.tenant) hs5)
      | have HK5:=zh (k5 _ (qOf r q.tenant++[id]) (by rw [List.length_append,List.map_append];exact hs5))
     clear hs5 hf5 hg5 hlt5 k5 m5)
    refine xF 9 xG (by kernel_rfl) ?_
    simp only [List.take_succ_cons,List.take_zero,List.drop_succ_cons,List.drop_zero]
    repeat still_step
    refine wpStill_nil ?_
    go_wp2_with (refine zAr _ rfl KS _ _ _ _ rfl (HM5.out.of_blk (w':=w5.drew) rfl) Tryz.underlying74 q.tenant _ rfl rfl rfl ?_;intro w6 hm6 hs6 hf6;have HM6:=zh hm6;have HF6:=zh hf6;clear hm6 hs6 hf6)
    go_end0
    exact ⟨rfl,by rw [HQ.out];have:=HK5.out w6 HM6.out HF6.out.ofDrewL;rw [HR.out] at *;exact this⟩
  ·have hn0:(((qOf r q.tenant).length:Int)==0)=false:=beq_eq_false_iff_ne.2 (by omega)
   have Hn:=zh hn
   clear hn
   have HR:Hid ((if qOf r q.tenant=[] then r.ring++[q.tenant] else r.ring)=r.ring):=if_neg (fun e=>Hn.out (by rw [e];rfl))
   go_quiet (fail)
   have HT:Hid (QuAt w ρ G D L _ _):=⟨_,_,HK.out.1.drewN nq,HK.out.2.drewN nq,rfl,rfl,rfl,rfl,rfl⟩
   obtain ⟨w4,hw4⟩:∃w4,w4=w1.drewN nq:=⟨_,rfl⟩
   rw [←hw4] at HT ⊢
   clear hw4 c8 t1 hlq
   have HW4:Hid (w4.heap.size=w4.heap.size):=rfl
   go_wp2_with (
    first | go_at_call 93 | at_builtin
    obtain ⟨own,hs4,ho4,HX⟩:=HT.out.sl HQE.out (.cells #[vi id] 3)
    have HS4:=zh hs4
    have HO4:=zh ho4
    have HX4:=zh HX
    clear hs4 ho4 HX
    first
     | (have HI:=zh (zGN (w:=w4.alloc (.cells #[vi id] 3)) (B:=w4.heap.size) (x:=id) (l:=qOf r q.tenant) HS4.out (by rw [HW4.out];exact zP w4) (by rw [HW4.out];exact HO4.out) Hql.out);refine HI.out.mono ?_;rintro e w5 ⟨g5,goff5,gcap5,rfl,hg5,hs5,hf5,hlt5⟩)
     | (have HB2:=zh (show (qOf r q.tenant).length+1≤maxLen∧((qOf r q.tenant).length+1)*8≤140737488355328 by have:=Hql.out;unfold maxLen;omega);refine xU _ rfl _ _ _ _ rfl zBR rfl HS4.out rfl (yn w4 Tryz.underlying46 [vi id] (by rfl) (by simp [Value.oneCell']) w4.heap.size HW4.out) (by omega) HB2.out.1 HB2.out.2 ?_;intro g5 goff5 gcap5 w5 hg5 hs5 hf5 hlt5 _ _)
    obtain ⟨⟨c8,t1,m5⟩,k5⟩:=HX4.out g5 w5 hg5 hf5 hlt5 id _ HQ1.out
    have HM5:=zh m5
    first
     | have HK5:=zh (k5 _ (id::qOf r q.tenant) hs5)
     | have HK5:=zh (k5 _ (qOf r q.tenant++[id]) (by rw [List.length_append,List.map_append];exact hs5))
    clear hs5 hf5 hg5 hlt5 k5 m5)
   refine xF 9 xG (by kernel_rfl) ?_
   simp only [List.take_succ_cons,List.take_zero,List.drop_succ_cons,List.drop_zero]
   repeat still_step
   refine wpStill_nil ?_
   go_wp2_with (refine zAr _ rfl KS _ _ _ _ rfl (HM5.out.of_blk (w':=w5.drew) rfl) Tryz.underlying74 q.tenant _ rfl rfl rfl ?_;intro w6 hm6 hs6 hf6;have HM6:=zh hm6;have HF6:=zh hf6;clear hm6 hs6 hf6)
   go_end0
   exact ⟨rfl,by rw [HQ.out];have:=HK5.out w6 HM6.out HF6.out.ofDrewL;rw [HR.out] at *;exact this⟩
theorem zKJ {w w2:World} {ρ:Nat→Role} {G D:Nat} {L:Lay} {r:Raw} (h:RRep w ρ G D L r) {t:ByteArray} (hf:Fr (fun b=>ρ b=rQu t) w w2) {id:Int} {q:Req} (hq:aget r.reqs id=some q) :
 w2.cell? ⟨D,8,none⟩=some (.map (some L.mq))∧w2.cell? ⟨L.req id,1,none⟩=some (vs q.tenant)∧zN encS w2 L.mq (amap (fun t _=>L.qu t) r.queues):=by
 have ne:∀b R,b < w.heap.size→ρ b=R→R≠rQu t→w2.heap[b]?=w.heap[b]?:=fun b R hb hR hne=>hf.block b hb (fun e=>hne (hR.symm.trans e))
 refine ⟨zB ((ne D _ h.size.2 h.disp.1 (by simp [zC,rQu])).trans h.disp.2) rfl,?_,h.qus.2.1.of_blk (ne _ _ h.qus.2.1.lt h.qus.1 (by simp [rMq,rQu]))⟩
 obtain ⟨q1,q2⟩:=h.opn.2.2.2 id q (yQ hq)
 exact zB ((ne _ _ (zD w q2) q1 (by simp [rReq,rQu])).trans q2) rfl
theorem zKK {w w4:World} {ρ:Nat→Role} {G D:Nat} {L:Lay} {r:Raw} (h:RRep w ρ G D L r) {l:List ByteArray} {v:Value} (hs:SlAt w4 9 1 (fun b=>ρ b=zT) v l.length (l.map encS)) (hf:Fr (fun b=>ρ b=zT) w w4) :
 w4.frozen? ⟨D,10,none⟩=false∧w4.cell? ⟨D,10,none⟩=some L.ring∧RRep (w4.setCell ⟨D,10,none⟩ v) ρ G D {L with ring:=v} {r with ring:=l}∧Step ρ ρ w (w4.setCell ⟨D,10,none⟩ v):=by
 have hDr:=h.disp.1
 have hD:w4.heap[D]?=some (.cells (yR L r.cfg r.now r.seq) 81 (0,0)):=(hf.block D h.size.2 (fun e=>by have e:ρ D=zT:=e;rw [hDr] at e;simp [zC,zT] at e)).trans h.disp.2
 refine ⟨zK hD,zB hD rfl,h.put_ring Ext.refl (zO w4 hD) (hs.of_blk (fun b hb _=>zG _ (fun e=>by have e:b=D:=e;have hb:ρ b=zT:=hb;rw [e,hDr] at hb;simp [zC,zT] at hb)) (fun b hb _=>hb)) ?_⟩
 exact (hf.mono (fun x hx=>.inl (.inr hx))).setCell _ _ (.inl (.inl rfl))
theorem zGO {w:World} {ρ:Nat→Role} {G D:Nat} {L:Lay} {r:Raw} (h:RRep w ρ G D L r) (id:Int) {q:Req} (hq:aget r.reqs id=some q) (hrl:r.ring.length≤1000000000000) (hql:(qOf r q.tenant).length≤1000000000000) :
 Calls Tryz.prog 75 #[vp D,vi id] w (xp true true true w ρ G D L (zI r id)):=by
 have c6:=h.disp.c6
 have hl:=yw h.opn.2.1 id
 rw [zy,hq] at hl
 simp only [Option.map_some,Option.getD_some] at hl
 have hblk:=h.req_blk hq
 have f6:w.frozen? ⟨L.req id,6,none⟩=false:=zK hblk
 have d6:w.cell? ⟨L.req id,6,none⟩=some (.bool q.queued):=zB hblk rfl
 obtain ⟨k1,k2⟩:=h.put_req (w':=w.setCell ⟨L.req id,6,none⟩ (.bool false)) (y:={q with queued:=false}) hq (zO w hblk) ((Fr.refl _ w).setCell _ _ (.inl rfl))
 have HK:=zh (And.intro k1 k2)
 have HQ1:Hid (aget (aset r.reqs id {q with queued:=false}) id=some {q with queued:=false}):=show _=_ by simp [zV]
 have Hrl:=zh hrl
 have Hql:=zh hql
 have HH:=zh h
 have Hq:=zh hq
 clear k1 k2 h hq hblk hrl hql
 cases hqq:q.queued with
 | false =>
   rw [hqq] at d6
   have HP:Hid (St true true true w ρ G D L (zI r id) w):=by
    have:zI r id=r:=by unfold zI;rw [Hq.out];simp [hqq]
    rw [this];exact St.same HH.out (Fr.refl _ w) _ _ _
   clear hqq
   go_enter Tryz.func75,Tryz.ntmps75
   go_wp2_with fail
   go_end0
   exact ⟨rfl,HP.out⟩
 | true =>
   rw [hqq] at d6
   have HU:Hid (zI r id=if zE (qOf r q.tenant) id=[] then {r with reqs:=aset r.reqs id {q with queued:=false},queues:=adel r.queues q.tenant,ring:=zE r.ring q.tenant} else {r with reqs:=aset r.reqs id {q with queued:=false},queues:=aset r.queues q.tenant (zE (qOf r q.tenant) id)}):=show _=_ by
    unfold zI;rw [Hq.out];simp [hqq]
   clear hqq HH Hq
   go_enter Tryz.func75,Tryz.ntmps75
   go_wp2_with fail
   obtain ⟨w1,hw1⟩:∃w1,w1=w.setCell ⟨L.req id,6,none⟩ (.bool false):=⟨_,rfl⟩
   rw [←hw1] at HK ⊢
   clear hw1
   obtain ⟨qa,qc,hqe,hqc,hqm,hqs⟩:=HK.out.1.qu_at q.tenant
   replace hqe:(aget (amap (fun t _=>L.qu t) r.queues) q.tenant).getD (.slice none 0 0)=.slice qa (qOf r q.tenant).length qc:=hqe
   have hqs:SlAt w1 3 1 (fun b=>ρ b=rQu q.tenant) (.slice qa (qOf r q.tenant).length qc) (qOf r q.tenant).length ((qOf r q.tenant).map encI):=hqs
   have HW:=zh (zEC (w:=w1.drew) (hqs.of_blk (fun _ _ _=>rfl) (fun _ h _=>h)) id (fun b (hb:ρ b=rQu q.tenant)=>(HK.out.1.dom b (by rw [hb];simp [rQu])).2) Hql.out)
   have c8:w1.cell? ⟨D,8,none⟩=some (.map (some L.mq)):=HK.out.1.disp.c8
   have t1:w1.cell? ⟨L.req id,1,none⟩=some (vs q.tenant):=zB (HK.out.1.req_blk HQ1.out) rfl
   have hlq:∀n,(Instr.lookup 74 (.map (some L.mq)) (vs q.tenant) false).run Tryz.prog (w1.drewN n)=.ok (.slice qa (qOf r q.tenant).length qc) (w1.drewN n):=fun n=>by
    have:=zBS (HK.out.1.qus.2.1.of_blk (w':=w1.drewN n) rfl) q.tenant
    rw [hqe] at this;exact this
   have hlq1:(Instr.lookup 74 (.map (some L.mq)) (vs q.tenant) false).run Tryz.prog w1.drew=.ok (.slice qa (qOf r q.tenant).length qc) w1.drew:=hlq 1
   clear hqe hqc hqm hqs
   refine xF 10 xG (by kernel_rfl) ?_
   simp only [List.take_succ_cons,List.take_zero,List.drop_succ_cons,List.drop_zero]
   repeat still_step
   refine wpStill_nil ?_
   go_wp2_with fail
   refine HW.out.mono ?_
   rintro e w2 ⟨v2,rfl,hs2,hf2⟩
   obtain ⟨c8b,t1b,m2⟩:=zKJ HK.out.1 hf2.ofDrew HQ1.out
   have HM2:=zh m2
   have HF2:=zh hf2.ofDrew
   obtain ⟨va,vc,rfl,hv2,hv3⟩:=hs2.form'
   have HS2:=zh hs2
   unfold maxLen at hv3
   clear c8 t1 hlq hlq1 m2 hf2 hs2
   by_cases hn:(zE (qOf r q.tenant) id).length=0
   ·have hn0:(((zE (qOf r q.tenant) id).length:Int)==0)=true:=by rw [hn];rfl
    have HU2:Hid (zE (qOf r q.tenant) id=[]):=List.length_eq_zero_iff.1 hn
    clear hn
    go_wp2_with fail
    refine xF 8 xG (by kernel_rfl) ?_
    simp only [List.take_succ_cons,List.take_zero,List.drop_succ_cons,List.drop_zero]
    repeat still_step
    refine wpStill_nil ?_
    go_wp2_with (refine zCb _ rfl KS _ _ _ _ rfl (HM2.out.of_blk (w':=w2.drew) rfl) Tryz.underlying74 q.tenant rfl rfl ?_;intro w3 hm3 hs3 hf3;have HM3:=zh hm3;have HF3:=zh hf3.ofDrew;clear hm3 hs3 hf3)
    obtain ⟨k3,s3⟩:=HK.out.1.del_qu HM3.out ((HF2.out.mono (fun x hx=>.inl (.inr hx))).trans HF3.out (fun x hx=>.inl (.inl hx)))
    have HK3:=zh (And.intro k3 (HK.out.2.trans s3))
    have c10:w3.cell? ⟨D,10,none⟩=some L.ring:=k3.disp.c10
    have t3:w3.cell? ⟨L.req id,1,none⟩=some (vs q.tenant):=zB (k3.req_blk HQ1.out) rfl
    have HW2:=zh (zGK (w:=w3.drew) (k3.rng.of_blk (fun _ _ _=>rfl) (fun _ h _=>h)) q.tenant (fun b (hb:ρ b=zT)=>(k3.dom b (by rw [hb];simp [zT])).2) Hrl.out)
    clear c8b t1b
    have f3:w3.frozen? ⟨D,10,none⟩=false:=k3.disp.frozen 10
    clear k3 s3
    go_region_law (first | (go_simp;go_at_call 76;refine HW2.out.mono ?_;rintro e w4 ⟨v4,rfl,hs4,hf4⟩;obtain ⟨va4,vc4,rfl,_,_⟩:=hs4.form';obtain ⟨f10,c10b,k4,s4⟩:=zKK HK3.out.1 hs4 hf4.ofDrew;have HK4:=zh (And.intro k4 (HK3.out.2.trans s4));clear hs4 hf4 k4 s4))
    all_goals
     go_wp2_with fail
     go_end0
     exact ⟨rfl,by rw [HU.out,if_pos HU2.out];exact ⟨ρ,_,HK4.out.1,HK4.out.2,fun _=>rfl,fun _=>rfl,fun _=>rfl⟩⟩
   ·have hn0:(((zE (qOf r q.tenant) id).length:Int)==0)=false:=beq_eq_false_iff_ne.2 (by omega)
    have HU2:Hid (¬zE (qOf r q.tenant) id=[]):=fun e=>hn (by rw [e];rfl)
    clear hn
    go_wp2_with fail
    refine xF 9 xG (by kernel_rfl) ?_
    simp only [List.take_succ_cons,List.take_zero,List.drop_succ_cons,List.drop_zero]
    repeat still_step
    refine wpStill_nil ?_
    go_wp2_with (refine zAr _ rfl KS _ _ _ _ rfl (HM2.out.of_blk (w':=w2.drew) rfl) Tryz.underlying74 q.tenant (.slice va (zE (qOf r q.tenant) id).length vc) rfl rfl rfl ?_;intro w3 hm3 hs3 hf3;have HM3:=zh hm3;have HF3:=zh hf3.ofDrew;clear hm3 hs3 hf3)
    go_end0
    obtain ⟨k3,s3⟩:=HK.out.1.put_qu (t:=q.tenant) (l:=zE (qOf r q.tenant) id) (ρ':=ρ) Ext.refl HM3.out (HS2.out.of_blk (fun b (hb:ρ b=rQu q.tenant) hl=>HF3.out.block b hl (fun e=>by have h1:=HK.out.1.qus.1;rw [←e,hb] at h1;simp [rMq,rQu] at h1)) (fun _ h _=>h)) ((HF2.out.mono (fun x hx=>.inl (.inr hx))).trans HF3.out (fun x hx=>.inl (.inl hx)))
    exact ⟨rfl,by rw [HU.out,if_neg HU2.out];exact ⟨ρ,_,k3,HK.out.2.trans s3,fun _=>rfl,fun _=>rfl,fun _=>rfl⟩⟩
end Go.Proofs.YtaejfobbogahmaaGreatDoor
