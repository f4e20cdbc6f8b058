/-
  RefC MClose: texts of their own, joined.
-/
import Derived.Test.YtaejfobbogahmaaGreatDoorMkClose
import Derived.Test.YtaejfobbogahmaaGreatDoorMkMAgain
set_option maxRecDepth 100000
set_option maxHeartbeats 16000000
set_option linter.all false
namespace Go.Proofs.YtaejfobbogahmaaGreatDoor
open Go
theorem zOI {p:Att→Bool} {f:Raw→Att→Raw} (hf:∀r a,a∈r.atts→(∃q,aget r.reqs a.id=some q)→(f r a).atts=r.atts.filter fun b=>!decide (b.seq=a.seq)) {N P:Nat} {r:Raw} (hI:Inv N P r) {i:Nat} {a:Att} (ha:r.atts[i]?=some a) (hp:p a=true)
 (hno:∀(j:Nat) b,j < i→r.atts[j]?=some b→p b=false):(r.atts.filter p).foldl f r=((f r a).atts.filter p).foldl f (f r a):=by
 have hm:=List.mem_of_getElem? ha
 obtain ⟨q,hq,_⟩:=hI.a.areq a hm
 have e1:=zDB (key:=Att.seq) r.atts i a (zGc hI.a.apw) ha
 have hil:=(List.getElem?_eq_some_iff.1 ha)
 have hsplit:r.atts=r.atts.take i++a::r.atts.drop (i+1):=by
  conv=>lhs;rw [←List.take_append_drop i r.atts,List.drop_eq_getElem_cons hil.1,hil.2]
 have hpre:(r.atts.take i).filter p=[]:=by
  rw [List.filter_eq_nil_iff]
  intro b hb
  obtain ⟨j,hj,e⟩:=List.getElem_of_mem hb
  rw [List.length_take] at hj
  have h2:r.atts[j]?=some b:=by rw [List.getElem_take] at e;rw [List.getElem?_eq_getElem (by omega),e]
  rw [hno j b (by omega) h2];simp
 have e2:r.atts.filter p=a::(r.atts.drop (i+1)).filter p:=by
  conv=>lhs;rw [hsplit]
  rw [List.filter_append,hpre,List.nil_append,List.filter_cons_of_pos hp]
 have e3:(f r a).atts.filter p=(r.atts.drop (i+1)).filter p:=by
  rw [hf r a hm ⟨q,hq⟩,e1,List.filter_append,hpre,List.nil_append]
 rw [e2,List.foldl_cons,e3]
theorem zXE (r:Raw) (a:Att) (_:a∈r.atts) (h:∃q,aget r.reqs a.id=some q):(rEnd r a).atts=r.atts.filter fun b=>!decide (b.seq=a.seq):=by
 obtain ⟨q,hq⟩:=h
 exact zCY hq
theorem zOJ (r:Raw) (a:Att) (_:a∈r.atts) (h:∃q,aget r.reqs a.id=some q):(yu r a).atts=r.atts.filter fun b=>!decide (b.seq=a.seq):=by
 obtain ⟨q,hq⟩:=h
 unfold yu
 rw [zHH]
 exact zCY hq
def zBs (l:List MReq) (c:Int) (k:Nat) (v:Int):Prop:=
 (v = -1∧∀(j:Nat) q,j < k→l[j]?=some q→q.conn≠c)∨((∃(i:Nat) (q:MReq),i < k∧l[i]?=some q∧q.conn=c∧q.id=v)∧∀(j:Nat) q,j < k→l[j]?=some q→q.conn=c→v≤q.id)
theorem zBs.skip {l:List MReq} {c:Int} {k:Nat} {v:Int} (h:zBs l c k v) {q:MReq} (hq:l[k]?=some q) (hn:q.conn≠c∨(0≤v∧v≤q.id)):zBs l c (k+1) v:=by
 have key:∀(j:Nat) b,j < k+1→l[j]?=some b→j < k∨b=q:=fun j b hj hb=>by
  by_cases e:j=k
  ·subst e;rw [hq] at hb;exact .inr (Option.some.inj hb).symm
  ·exact .inl (by omega)
 rcases h with ⟨rfl,h⟩ | ⟨⟨i,x,hi,hx,hc,hv⟩,h⟩
 ·left
  refine ⟨rfl,fun j b hj hb=>?_⟩
  rcases key j b hj hb with h1 | rfl
  ·exact h j b h1 hb
  ·rcases hn with h2 | h2
   ·exact h2
   ·omega
 ·right
  refine ⟨⟨i,x,by omega,hx,hc,hv⟩,fun j b hj hb hbc=>?_⟩
  rcases key j b hj hb with h1 | rfl
  ·exact h j b h1 hb hbc
  ·rcases hn with h2 | h2
   ·exact absurd hbc h2
   ·exact h2.2
theorem zBs.take {l:List MReq} {c:Int} {k:Nat} {v:Int} (h:zBs l c k v) {q:MReq} (hq:l[k]?=some q) (hc:q.conn=c) (hn:v < 0∨q.id < v) (hpos:∀x∈l,0≤x.id):zBs l c (k+1) q.id:=by
 right
 refine ⟨⟨k,q,by omega,hq,hc,rfl⟩,fun j b hj hb hbc=>?_⟩
 by_cases e:j=k
 ·subst e;rw [hq] at hb;cases hb;exact Int.le_refl _
 ·rcases h with ⟨_,h⟩ | ⟨⟨i,x,hi,hx,_,hv⟩,h⟩
  ·exact absurd hbc (h j b (by omega) hb)
  ·have h1:=h j b (by omega) hb hbc
   have h2:=hpos x (List.mem_of_getElem? hx)
   omega
def zBP (r:Raw) (c:Int):List Int:=(r.reqs.filter fun p=>decide (p.2.conn=c)).map Prod.fst
theorem zGr {r:Raw} (hn:(r.reqs.map Prod.fst).Nodup) {c x:Int}:x∈zBP r c↔∃q,aget r.reqs x=some q∧q.conn=c:=by
 unfold zBP
 constructor
 ·intro h
  obtain ⟨⟨i,q⟩,hm,rfl⟩:=List.mem_map.1 h
  obtain ⟨h1,h2⟩:=List.mem_filter.1 hm
  exact ⟨q,zAG hn h1,of_decide_eq_true h2⟩
 ·rintro ⟨q,h1,h2⟩
  exact List.mem_map.2 ⟨(x,q),List.mem_filter.2 ⟨xL h1,decide_eq_true h2⟩,rfl⟩
theorem zOK {r:Raw} (hn:(r.reqs.map Prod.fst).Nodup) (c:Int):(zBP r c).Nodup:=hn.sublist ((List.filter_sublist).map _)
theorem zXF {r:Raw} {c:Int} (h:zBs (zC r).reqs c (zC r).reqs.length (-1)) (hpos:∀x∈(zC r).reqs,0≤x.id):zAH r c=[]:=by
 have hno:∀p∈r.reqs,p.2.conn≠c:=by
  rcases h with ⟨_,h⟩ | ⟨⟨i,x,hi,hx,_,hv⟩,_⟩
  ·intro p hp
   obtain ⟨j,hj,e⟩:=List.getElem_of_mem hp
   have:=h j (zS p) (by show j < (r.reqs.map zS).length;rw [List.length_map];exact hj) (by show (r.reqs.map zS)[j]?=_;rw [List.getElem?_map,List.getElem?_eq_getElem hj,e];rfl)
   exact this
  ·have:=hpos x (List.mem_of_getElem? hx)
   omega
 have:zBP r c=[]:=by
  unfold zBP
  rw [List.map_eq_nil_iff,List.filter_eq_nil_iff]
  intro p hp
  simpa using hno p hp
 show zAQ (zBP r c)=[]
 rw [this];rfl
theorem zXG {N P:Nat} {r:Raw} (hI:Inv N P r) (id:Int):aget (zy r id).reqs id=none:=by
 have h1:=(zCq (rOf r id) r hI (Live.of_filter hI _)).1
 rw [zBb]
 show aget (adel _ id) id=none
 rw [zCn _ _ _ (h1.unqueue id).q.kreq,if_pos rfl]
theorem zXH {N P:Nat} {r:Raw} (hI:Inv N P r) {c v:Int} (h:zBs (zC r).reqs c (zC r).reqs.length v) (hv:0≤v) :
 (∃q,aget r.reqs v=some q∧q.conn=c)∧zAH r c=v::zAH (zx c r v) c:=by
 have hn:=hI.q.kreq
 rcases h with ⟨h,_⟩ | ⟨⟨i,x,hi,hx,hxc,hxv⟩,hle⟩
 ·omega
 obtain ⟨y,hy,e⟩:=zLS hx
 have hq:aget r.reqs v=some y:=by rw [←hxv];exact zCI hn hy
 have hyc:y.conn=c:=by rw [←hxc,e];rfl
 refine ⟨⟨y,hq,hyc⟩,?_⟩
 have hI2:=hI.closeReq c v hq
 have hmem:v∈zBP r c:=(zGr hn).2 ⟨y,hq,hyc⟩
 have hle2:∀z∈zBP r c,v≤z:=fun z hz=>by
  obtain ⟨q,h1,h2⟩:=(zGr hn).1 hz
  obtain ⟨j,hj⟩:=zCH h1
  have hj2:=(List.getElem?_eq_some_iff.1 hj).1
  exact hle j (zS (z,q)) (by show j < (r.reqs.map zS).length;rw [List.length_map];exact hj2) (by show (r.reqs.map zS)[j]?=_;rw [List.getElem?_map,hj];rfl) h2
 have hset:∀z,z∈zBP (zx c r v) c↔(z∈zBP r c∧z≠v):=fun z=>by
  rw [zGr hI2.q.kreq,zGr hn]
  by_cases e:v=z
  ·subst e
   have:aget (zx c r v).reqs v=none:=by
    unfold zx
    refine zXG (zEC _ r hI ?_).1 v
    unfold rOf
    rw [List.filter_filter]
    exact Live.of_filter hI _
   rw [this]
   simp
  ·rw [zHG hI c e]
   constructor
   ·intro h;exact ⟨h,fun e2=>e e2.symm⟩
   ·intro h;exact h.1
 show zAQ (zBP r c)=v::zAQ (zBP (zx c r v) c)
 refine zIz _ _ (zGq (zGp _) (zED (zOK hn c))) ?_ (fun z=>?_)
 ·rw [List.pairwise_cons]
  refine ⟨fun z hz=>?_,zGq (zGp _) (zED (zOK hI2.q.kreq c))⟩
  obtain ⟨h1,h2⟩:=(hset z).1 (zCr.1 hz)
  have:=hle2 z h1
  omega
 ·rw [zCr,List.mem_cons,zCr,hset z]
  constructor
  ·intro h
   by_cases e:z=v
   ·exact .inl e
   ·exact .inr ⟨h,e⟩
  ·rintro (rfl | h)
   ·exact hmem
   ·exact h.1
open Go Go.RowKit
section
variable {w w' w1 w2 w3 wr:World} {ρ:Nat→Role} {G M:Nat} {L:MLay} {m:RefM}
def zAF (l:List MCn) (c:Int):List MCn:=l.filter fun x=>!decide (x.n=c)
theorem zOL {l:List MCn} {c:Int} {k:Nat} {x:MCn} (hk:l[k]?=some x):zAF (l.take (k+1)) c=zAF (l.take k) c++(if x.n=c then [] else [x]):=by
 unfold zAF
 rw [List.take_add_one,hk,List.filter_append]
 congr 1
 show [x].filter _=_
 by_cases e:x.n=c<;>simp [e]
def zBI (w:World) (l:List MCn) (c:Int) (k:Nat) (va:Option Addr) (ln vc:Nat) (wr:World):Prop:=
 ∃E:Nat→Prop,(∀b,E b→w.heap.size≤b)∧Fr E w wr∧SlAt wr 183 4 E (.slice va ln vc) ln (zCJ (zAF (l.take k) c))∧ln=(zAF (l.take k) c).length
theorem zBI.put {l:List MCn} {c:Int} {x:MCn} {k ln vc ln2 vc2:Nat} {va va2:Option Addr} (h:zBI w l c k va ln vc wr) (hk:l[k]?=some x) (hx:x.n≠c) {o o2:Obj} {E E0:Nat→Prop} (h0:∀b,E0 b→w.heap.size≤b) (he:∀b,E b→E0 b∨b=((wr.alloc o).alloc o2).heap.size) (hf:Fr E ((wr.alloc o).alloc o2) w3)
 (hln:ln2=ln+1) (hs:SlAt w3 183 4 E (.slice va2 ln2 vc2) ln2 (zCJ (zAF (l.take k) c)++mcnC x)):zBI w l c (k+1) va2 ln2 vc2 w3:=by
 obtain ⟨E1,h1,h2,h3,h4⟩:=h
 have e:zAF (l.take (k+1)) c=zAF (l.take k) c++[x]:=by rw [zOL hk,if_neg hx]
 have hE:∀b,E b→w.heap.size≤b:=fun b hb=>by
  rcases he b hb with h | h
  ·exact h0 b h
  ·rw [World.size_alloc,World.size_alloc] at h;have:=h2.size;omega
 refine ⟨fun b=>E1 b∨E b,fun b hb=>hb.elim (h1 b) (hE b),?_,?_,?_⟩
 ·exact Fr.trans (h2.mono (fun x hx=>.inl (.inl hx))) (Fr.trans (S':=E) (((Fr.refl _ wr).alloc o).alloc o2) (hf.mono (fun x hx=>.inl hx)) (fun x hx=>.inl hx)) (fun x hx=>.inl (.inr hx))
 ·rw [e]
  show SlAt w3 _ _ _ _ _ ((zAF (l.take k) c++[x]).flatMap mcnC)
  rw [List.flatMap_append,List.flatMap_singleton]
  exact hs.of_blk (fun _ _ _=>rfl) (fun b hb _=>.inr hb)
 ·rw [e,List.length_append,←h4];exact hln
theorem zBI.skip {l:List MCn} {c:Int} {x:MCn} {k ln vc:Nat} {va:Option Addr} (h:zBI w l c k va ln vc wr) (hk:l[k]?=some x) (hx:x.n=c) (o:Obj):zBI w l c (k+1) va ln vc (wr.alloc o):=by
 have e:zAF (l.take (k+1)) c=zAF (l.take k) c:=by rw [zOL hk,if_pos hx,List.append_nil]
 obtain ⟨E1,h1,h2,h3,h4⟩:=h
 rw [←e] at h3 h4
 exact ⟨E1,h1,h2.alloc o,h3.of_blk (fun b _ hl=>zP wr hl) (fun _ h _=>h),h4⟩
theorem zBI.below {l:List MCn} {c:Int} {k ln vc:Nat} {va:Option Addr} (h:zBI w l c k va ln vc wr):Below w.heap.size w wr:=by
 obtain ⟨E,h1,h2,_⟩:=h
 exact h2.below (Nat.le_refl _) h1
theorem zBI.done {c:Int} {ln vc:Nat} {va:Option Addr} (hm:MRep w ρ G M L m) (h:zBI w m.conns c m.conns.length va ln vc wr) :
 wr.heap[M]?=some (.cells (yS L m.cfg m.now) 179 (0,0))∧MSt w ρ G M {m with conns:=zAF m.conns c} (wr.setCell ⟨M,10,none⟩ (.slice va ln vc)):=by
 obtain ⟨E,h1,h2,h3,h4⟩:=h
 rw [List.take_length] at h3 h4
 have hEM:¬E M:=fun hb=>by have:=h1 M hb;have:=hm.size;omega
 have hM:=(h2.block M hm.size.2 hEM).trans hm.mod.2
 refine ⟨hM,?_⟩
 obtain ⟨ρ',k1,k2⟩:=hm.put_connsE (w':=wr.setCell ⟨M,10,none⟩ (.slice va ln vc)) (own:=E) (S:=fun b=>b=M∨E b) (v:=.slice va ln vc) (l:=zAF m.conns c) (fun b hb=>.inr (h1 b hb)) (zM wr hM) (by
  rw [h4] at h3 ⊢
  exact h3.of_blk (fun b hb _=>zJ wr (fun e=>hEM (by have e:b=M:=e;rw [←e];exact hb))) (fun _ hb _=>hb)) ((h2.mono (fun x hx=>.inl (.inr hx))).setCell _ _ (.inl (.inl rfl))) (fun b hb=>hb.imp id (fun h=>.inr (h1 b h)))
 exact ⟨ρ',_,k1,k2⟩
theorem zXI {N P:Nat} {r:Raw} (hI:Inv N P r) (c:Int):{zC r with waiting:=zD (zC r).waiting c,conns:=zAF (zC r).conns c}=zC (yf r c):=by
 have h1:zAF (r.conns.map yt) c=(adel r.conns c).map yt:=by
  rw [zDY hI.q.kcn]
  unfold zAF
  rw [List.filter_map]
  rfl
 show ({zC r with waiting:=zD r.waiting c,conns:=zAF (r.conns.map yt) c}:RefM)=_
 rw [h1]
 rfl
def zJD (w:World) (M:Nat):Nat:=match w.cell? ⟨M,6,none⟩ with | some (.slice _ n _)=>n | _=>0
theorem zOM (h:MRep w ρ G M L m):zJD w M=m.reqs.length:=by
 obtain ⟨a,cap,e,_⟩:=h.reqsIn
 have c:w.cell? ⟨M,6,none⟩=some L.reqs:=h.cell (k:=6) rfl
 unfold zJD
 rw [c,e]
def zCX (w:World) (ρ:Nat→Role) (G M N P nc:Nat) (wr:World) (rk:Raw):Prop:=∃ρk Lk,MRep wr ρk G M Lk (zC rk)∧Step ρ ρk w wr∧Inv N P rk∧rk.conns.length≤nc
theorem zCX.next {N P nc:Nat} {rk':Raw} {ρk:Nat→Role} (h2:Step ρ ρk w wr) (h:MSt wr ρk G M (zC rk') w2) (hI:Inv N P rk') (hc:rk'.conns.length≤nc):zCX w ρ G M N P nc w2 rk':=by
 obtain ⟨ρ2,L2,k1,k2⟩:=h
 exact ⟨ρ2,L2,k1,h2.trans k2,hI,hc⟩
def pOf (id c:Int) (a:Att):Bool:=decide (a.conn=c)&&decide (a.id=id)
theorem zXJ (r:Raw) (id c:Int):((rOf r id).filter fun a=>decide (a.conn=c))=r.atts.filter (pOf id c):=by
 unfold rOf
 rw [List.filter_filter]
 rfl
theorem zON (c:Int) (r:Raw) (id:Int):zx c r id=zy ((r.atts.filter (pOf id c)).foldl rEnd r) id:=by
 unfold zx
 rw [zXJ]
theorem zOO {N P:Nat} {r:Raw} (hI:Inv N P r) {i:Nat} {a:Att} (ha:r.atts[i]?=some a):(rEnd r a).atts=r.atts.take i++r.atts.drop (i+1):=by
 have hm:=List.mem_of_getElem? ha
 obtain ⟨q,hq,_⟩:=hI.a.areq a hm
 rw [zCY hq]
 exact zDB (key:=Att.seq) r.atts i a (zGc hI.a.apw) ha
theorem zXK (r:Raw) (id:Int):(zO r id).reqs.length=r.reqs.length:=by
 unfold zO
 split
 ·rfl
 ·rename_i q hq
  split
  ·rfl
  ·simp only
   split<;>exact zDK hq _
theorem zXL {N P:Nat} {r:Raw} (hI:Inv N P r) (c:Int) {id:Int} {q:Req} (hq:aget r.reqs id=some q):(zx c r id).reqs.length < r.reqs.length:=by
 rw [zON,zBb]
 obtain ⟨h1,h2,_⟩:=zEC (r.atts.filter (pOf id c)) r hI (Live.of_filter hI _)
 obtain ⟨g1,g2,_⟩:=zCq (rOf ((r.atts.filter (pOf id c)).foldl rEnd r) id) _ h1 (Live.of_filter h1 _)
 show (adel (zO _ id).reqs id).length < _
 have hk:=(g1.unqueue id).q.kreq
 have hl:(zO ((rOf ((r.atts.filter (pOf id c)).foldl rEnd r) id).foldl zU ((r.atts.filter (pOf id c)).foldl rEnd r)) id).reqs.length=r.reqs.length:=by rw [zXK,g2,h2]
 rw [zDY hk,←hl]
 have hq2:=zDP (r:=(rOf ((r.atts.filter (pOf id c)).foldl rEnd r) id).foldl zU ((r.atts.filter (pOf id c)).foldl rEnd r)) (id:=id) (q:=q) (by rw [g2,h2];exact hq)
 exact List.length_filter_lt_length_iff_exists.2 ⟨_,xL hq2,by simp⟩
theorem zXM {N P:Nat} {r:Raw} (hI:Inv N P r) {a:Att} (ha:a∈r.atts):Inv N P (yu r a):=by
 have hp:=hI.n.pot
 have hl:=List.length_pos_of_mem ha
 exact ((hI.end ha).again a.id false).mono (Nat.le_refl _) (by omega)
theorem zXN {r:Raw} {v c:Int} (h:∀(j:Nat) b,j < r.atts.length→r.atts[j]?=some b→pOf v c b=false):r.atts.filter (pOf v c)=[]:=by
 rw [List.filter_eq_nil_iff]
 intro b hb
 obtain ⟨j,hj,rfl⟩:=List.getElem_of_mem hb
 rw [h j _ hj (List.getElem?_eq_getElem hj)]
 simp
theorem zXO {N P:Nat} {r:Raw} (hI:Inv N P r) (h:MRep w ρ G M L (zC r)) (c:Int) (hN:N≤900000000) (hP:P≤900000000) (hC:r.conns.length≤900000000) :
 Calls Tryz.prog 87 #[vp M,vi c] w (zBW w ρ G M (zC (yx r c))):=by
 have HID:=zh (zNl h c (by have:=hI.mok;omega))
 have HI:=zh hI
 have HI0:=zh (hI.close0 c)
 have HNP:Hid (N≤900000000∧P≤900000000∧r.conns.length≤900000000):=⟨hN,hP,hC⟩
 obtain ⟨r2,hr2⟩:∃x,(zAH (yf r c) c).foldl (zx c) (yf r c)=x:=⟨_,rfl⟩
 have HR2:=zh hr2
 have HTR:Hid (yx r c=yC ((yd r2 c).foldl yu r2)):=show _=_ by rw [←hr2];rfl
 obtain ⟨F,hF⟩:∃F,zBW w ρ G M (zC (yx r c))=F:=⟨_,rfl⟩
 rw [hF]
 have HF:=zh hF
 clear hF hI h hN hP hC hr2
 go_enter Tryz.func87,Tryz.ntmps87
 go_wp2_with fail
 refine HID.out.mono ?_
 rintro e w1 ⟨rfl,hst1⟩
 obtain ⟨ρ1,L1,h1,s1⟩:=hst1
 have H1:=zh h1
 have S1:=zh s1
 obtain ⟨ca,ccap,hv,hr⟩:=h1.connsIn
 have cL:w1.cell? ⟨M,10,none⟩=some L1.conns:=h1.cell (k:=10) rfl
 obtain ⟨n,hnn⟩:∃n,(zC r).conns.length=n:=⟨_,rfl⟩
 have hv:L1.conns=.slice ca n ccap:=by rw [←hnn];exact hv
 rw [hv] at cL
 have HCR:=zh hr
 have HN:=zh hnn
 have hnb:n≤900000000:=by rw [←hnn];show (r.conns.map yt).length≤_;rw [List.length_map];exact HNP.out.2.2
 clear h1 s1 hv hr hnn
 go_wp2_with fail
 go_loopw [5,7,22] (fun s5 _ s22 wr=>∃(k ln vc:Nat) (va:Option Addr),s22=.int .i64 k∧s5=.slice va ln vc∧k≤n∧ln≤k∧Hid (zBI w1 (zC r).conns c k va ln vc wr)) (fun _ _ s22 _=>n - (intOf s22).toNat)
 case atStart=>exact ⟨0,0,0,none,by go_num,rfl,Nat.zero_le _,Nat.le_refl _,⟨fun _=>False,fun _ f=>f.elim,Fr.refl _ _,SlAt.nil,rfl⟩⟩
 case round =>
  obtain ⟨k,ln,vc,va,rfl,rfl,hk,hlk,HIC⟩:=hrel
  by_cases hkl:k < n
  ·have hlt:decide ((k:Int) < (n:Int))=true:=decide_eq_true (by omega)
   obtain ⟨x,hx⟩:∃x,(zC r).conns[k]?=some x:=⟨_,List.getElem?_eq_getElem (by rw [HN.out];exact hkl)⟩
   obtain ⟨b,off,hae,hcc⟩:=(HCR.out.below HIC.out.below) k _ (by show ((zC r).conns.map mcnC)[k]?=_;rw [List.getElem?_map,hx];rfl)
   subst hae
   have x0:wr.cell? ⟨b,off+k*4,none⟩=some (vi x.n):=hcc 0 _ rfl
   have x1:wr.cell? ⟨b,off+k*4+1,none⟩=some (vs (bs x.rest)):=hcc 1 _ rfl
   have x2:wr.cell? ⟨b,off+k*4+2,none⟩=some (.bool x.drains):=hcc 2 _ rfl
   have x3:wr.cell? ⟨b,off+k*4+3,none⟩=some (.bool x.gone):=hcc 3 _ rfl
   have hk0:(0:Int)≤(k:Int):=by omega
   have hk1:(k:Int) < (n:Int):=by omega
   have HX:=zh hx
   obtain ⟨xn,xr,xd,xg⟩:=x
   simp only [] at x0 x1 x2 x3
   clear hx hcc
   by_cases hyc:xn=c
   ·subst hyc
    have hq:(xn != xn)=false:=by simp
    have HNX:=zh (HIC.out.skip HX.out rfl (.cells #[vi xn,vs (bs xr),.bool xd,.bool xg] 183))
    go_wp2_with fail
    go_roundw
    case rel=>exact ⟨k+1,ln,vc,va,by go_num,rfl,by omega,by omega,HNX.out⟩
    case measure=>simp [intOf];omega
   ·have hq:(xn != c)=true:=bne_iff_ne.2 hyc
    have hq2:decide (xn=c)=false:=decide_eq_false hyc
    have hq3:(xn==c)=false:=beq_eq_false_iff_ne.2 hyc
    obtain ⟨E0,hE1,hE2,hE3,hE4⟩:=HIC.out
    obtain ⟨wA,hwA⟩:∃W,(wr.alloc (.cells #[vi xn,vs (bs xr),.bool xd,.bool xg] 183)).alloc (.cells #[vi xn,vs (bs xr),.bool xd,.bool xg] 183)=W:=⟨_,rfl⟩
    have HSA:Hid (SlAt ((wr.alloc (.cells #[vi xn,vs (bs xr),.bool xd,.bool xg] 183)).alloc (.cells #[vi xn,vs (bs xr),.bool xd,.bool xg] 183)) 183 4 E0 (.slice va ln vc) ln (zCJ (zAF ((zC r).conns.take k) c))):=hE3.of_blk (fun b _ hl=>(zP _ (by rw [World.size_alloc];omega)).trans (zP wr hl)) (fun _ h _=>h)
    have HNW:Hid (SlAt ((wr.alloc (.cells #[vi xn,vs (bs xr),.bool xd,.bool xg] 183)).alloc (.cells #[vi xn,vs (bs xr),.bool xd,.bool xg] 183)) 183 4 (fun b=>b=wr.heap.size+1) (.slice (some ⟨wr.heap.size+1,0,none⟩) 1 1) 1 [vi xn,vs (bs xr),.bool xd,.bool xg]):=by
     have:=SlAt.mk_new (T:=183) (sz:=4) (n:=1) (wr.alloc (.cells #[vi xn,vs (bs xr),.bool xd,.bool xg] 183)) [vi xn,vs (bs xr),.bool xd,.bool xg] rfl (by simp [maxLen]) (own:=fun b=>b=wr.heap.size+1) (World.size_alloc _ _)
     rw [World.size_alloc] at this
     exact this
    have HE1:=zh hE1
    clear hE1 hE2 hE3 hE4 hwA
    go_wp2_with (at_builtin;refine zAK rfl _ _ _ rfl zLU rfl HSA.out rfl HNW.out (by simp [Value.oneCell']) (by unfold maxLen;omega) (by omega) ?_;intro va2 vc2 w3 E he hf hl hs;have HNX:=zh (HIC.out.put HX.out hyc HE1.out he hf rfl hs);clear he hf hl hs)
    go_roundw
    case rel=>exact ⟨k+1,ln+1,vc2,va2,by go_num,rfl,by omega,by omega,HNX.out⟩
    case measure=>simp [intOf];omega
  ·obtain rfl:k=n:=by omega
   have hlt:decide ((k:Int) < (k:Int))=false:=by simp
   obtain ⟨k1,k2⟩:=zBI.done (c:=c) (ln:=ln) (vc:=vc) (va:=va) H1.out (by show zBI w1 (zC r).conns c (zC r).conns.length va ln vc wr;rw [HN.out];exact HIC.out)
   obtain ⟨v10,c10⟩:∃v,wr.cell? ⟨M,10,none⟩=some v:=⟨_,zB k1 rfl⟩
   have f10:wr.frozen? ⟨M,10,none⟩=false:=zI k1
   have HST2:Hid (zCX w ρ G M N P 900000000 (wr.setCell ⟨M,10,none⟩ (.slice va ln vc)) (yf r c)):=by
    obtain ⟨ρ2,L2,g1,g2⟩:=k2
    refine ⟨ρ2,L2,?_,S1.out.trans g2,HI0.out,?_⟩
    ·rw [←zXI HI.out c];exact g1
    ·show (adel r.conns c).length≤_
     rw [zDY HI.out.q.kcn]
     exact Nat.le_trans (List.length_filter_le _ _) HNP.out.2.2
   clear k1 k2 HIC cL
   have HFC:=zh (fun (rk:Raw) (ρk:Nat→Role) (Lk:MLay) (W:World) (hIk:Inv N P rk) (hk:MRep W ρk G M Lk (zC rk))=>zSF hk c (by have:=hIk.mok;have:=HNP.out;omega) (fun a ha=>by
    obtain ⟨b,hb,rfl⟩:=List.mem_map.1 (show a∈rk.atts.map zV from ha)
    obtain ⟨q,hq,_⟩:=hIk.a.areq b hb
    have:=hIk.n.req b.id q hq
    show b.id≠-1
    omega))
   go_wp2_with fail
   go_loopw [8,10,11,44] (fun _ _ _ _ wr=>Hid (∃rk,zCX w ρ G M N P 900000000 wr rk∧(zAH rk c).foldl (zx c) rk=r2)) (fun _ _ _ _ wr=>zJD wr M)
   case atStart=>exact ⟨yf r c,HST2.out,HR2.out⟩
   case round =>
    obtain ⟨rk,⟨ρk,Lk,hk1,hk2,hk3,hk4⟩,hk5⟩:=hrel.out
    obtain ⟨wo,rfl⟩:∃wo,wo=wr:=⟨_,rfl⟩
    obtain ⟨qa,qcap,hv,hr⟩:=hk1.reqsIn
    have c6:wo.cell? ⟨M,6,none⟩=some Lk.reqs:=hk1.cell (k:=6) rfl
    obtain ⟨n2,hnn⟩:∃x,(zC rk).reqs.length=x:=⟨_,rfl⟩
    rw [hnn] at hv
    rw [hv] at c6
    have hm:=hk3.mok
    have hn2b:n2≤900000000:=by rw [←hnn];have:=HNP.out;omega
    have HPOS:Hid (∀x∈(zC rk).reqs,0≤x.id):=fun x hx=>by
     obtain ⟨b,hb,rfl⟩:=List.mem_map.1 (show x∈rk.reqs.map zS from hx)
     exact (hk3.n.req b.1 b.2 (zAG hk3.q.kreq hb)).1
    have HQR:=zh hr
    have HN2:=zh hnn
    have HK1:=zh hk1
    have HK2:=zh hk2
    have HK3:=zh hk3
    have HK4:=zh hk4
    have HK5:=zh hk5
    clear hv hr hnn hm hk1 hk2 hk3 hk4 hk5 hrel
    go_wp2_with fail
    go_loopw [8,10,44] (fun s8 _ s44 wr=>∃(k:Nat) (v:Int),s44=.int .i64 k∧s8=.int .i64 v∧k≤n2∧Hid (Below wo.heap.size wo wr∧zBs (zC rk).reqs c k v)) (fun _ _ s44 _=>n2 - (intOf s44).toNat)
    case atStart=>exact ⟨0,-1,by go_num,rfl,Nat.zero_le _,Below.refl _ _,.inl ⟨rfl,fun j q hj=>by omega⟩⟩
    case round =>
     obtain ⟨k2,v,rfl,rfl,hk2,HIQ⟩:=hrel
     by_cases hkl2:k2 < n2
     ·have hlt2:decide ((k2:Int) < (n2:Int))=true:=decide_eq_true (by omega)
      obtain ⟨q,hkq⟩:∃q,(zC rk).reqs[k2]?=some q:=⟨_,List.getElem?_eq_getElem (by rw [HN2.out];exact hkl2)⟩
      obtain ⟨b,off,hae,c0,c1,c2,c3,c4,c5,c6'⟩:=zAX (HQR.out.below HIQ.out.1) hkq
      subst hae
      have HKQ:=zh hkq
      obtain ⟨qi,qc,qt,qx,qn,ql,qh⟩:=q
      simp only [] at c0 c1 c2 c3 c4 c5 c6'
      have hj0:(0:Int)≤(k2:Int):=by omega
      have hj1:(k2:Int) < (n2:Int):=by omega
      have HBA:=zh (HIQ.out.1.alloc HIQ.out.1.size (.cells #[vi qi,vi qc,vs qt,vs qx,vi qn,vi ql,.bool qh] 189))
      have HLE:=zh HIQ.out.2
      clear hkq HIQ
      by_cases hqc:qc=c
      ·have hq:(qc==c)=true:=by rw [hqc];simp
       have hq2:decide (qc=c)=true:=decide_eq_true hqc
       by_cases hv0:v < 0
       ·have hv1:decide (v < 0)=true:=decide_eq_true hv0
        have HNX:=zh (HLE.out.take HKQ.out hqc (.inl hv0) HPOS.out)
        go_wp2_with fail
        go_roundw
        case rel=>exact ⟨k2+1,qi,by go_num,rfl,by omega,(by have h9:=HBA.out;rw [hqc] at h9;exact h9),HNX.out⟩
        case measure=>simp [intOf];omega
       ·have hv1:decide (v < 0)=false:=decide_eq_false hv0
        by_cases hlv:qi < v
        ·have hlv1:decide (qi < v)=true:=decide_eq_true hlv
         have HNX:=zh (HLE.out.take HKQ.out hqc (.inr hlv) HPOS.out)
         go_wp2_with fail
         go_roundw
         case rel=>exact ⟨k2+1,qi,by go_num,rfl,by omega,(by have h9:=HBA.out;rw [hqc] at h9;exact h9),HNX.out⟩
         case measure=>simp [intOf];omega
        ·have hlv1:decide (qi < v)=false:=decide_eq_false hlv
         have HNX:=zh (HLE.out.skip HKQ.out (.inr ⟨by omega,show v≤qi by omega⟩))
         go_wp2_with fail
         go_roundw
         case rel=>exact ⟨k2+1,v,by go_num,rfl,by omega,(by have h9:=HBA.out;rw [hqc] at h9;exact h9),HNX.out⟩
         case measure=>simp [intOf];omega
      ·have hq:(qc==c)=false:=beq_eq_false_iff_ne.2 hqc
       have hq2:decide (qc=c)=false:=decide_eq_false hqc
       have HNX:=zh (HLE.out.skip HKQ.out (.inl hqc))
       go_wp2_with fail
       go_roundw
       case rel=>exact ⟨k2+1,v,by go_num,rfl,by omega,HBA.out,HNX.out⟩
       case measure=>simp [intOf];omega
     ·obtain rfl:k2=n2:=by omega
      have hlt2:decide ((k2:Int) < (k2:Int))=false:=by simp
      have hb2:=HIQ.out.1
      have hlst:zBs (zC rk).reqs c (zC rk).reqs.length v:=by rw [HN2.out];exact HIQ.out.2
      have HRW:=zh (HK1.out.grow hb2)
      have HSW:Hid (Step ρ ρk w wr):=HK2.out.trans (Step.still (Fr.of_below hb2))
      by_cases hv0:v < 0
      ·have hv1:decide (v < 0)=true:=decide_eq_true hv0
       have hvm:v = -1:=by
        rcases hlst with ⟨h,_⟩ | ⟨⟨i,x,_,hx,_,hv⟩,_⟩
        ·exact h
        ·have:=HPOS.out x (List.mem_of_getElem? hx);omega
       subst hvm
       have hrk:rk=r2:=by
        have:=HK5.out
        rw [zXF hlst HPOS.out] at this
        exact this
       subst hrk
       obtain ⟨r3,hr3⟩:∃x,(yd rk c).foldl yu rk=x:=⟨_,rfl⟩
       have HR3:=zh hr3
       have HF1:=zh (HFC.out _ _ _ _ HK3.out HRW.out)
       clear hb2 hlst hr3 c6 HIQ
       go_wp2_with fail
       refine HF1.out.mono ?_
       rintro e w5 ⟨v5,rfl,hf5,hb5⟩
       have HF5:Hid (∃rj,zCX w ρ G M N P 900000000 w5 rj∧(yd rj c).foldl yu rj=r3∧zAC (zC rj).atts (fun q=>q.conn=c) v5):=⟨rk,⟨ρk,Lk,HRW.out.grow hb5,HSW.out.trans (Step.still (Fr.of_below hb5)),HK3.out,HK4.out⟩,HR3.out,hf5⟩
       clear hf5 hb5
       go_wp2_with fail
       go_loopw [12,13] (fun s12 _ wr=>∃v:Int,s12=.int .i64 v∧Hid (∃rj,zCX w ρ G M N P 900000000 wr rj∧(yd rj c).foldl yu rj=r3∧zAC (zC rj).atts (fun q=>q.conn=c) v)) (fun _ _ wr=>zDr wr M)
       case atStart=>exact ⟨v5,rfl,HF5.out⟩
       case round =>
        obtain ⟨v,rfl,HJ⟩:=hrel
        obtain ⟨rj,⟨ρj,Lj,hj1,hj2,hj3,hj4⟩,hj5,hj6⟩:=HJ.out
        rcases hj6 with ⟨i,x,rfl,hix,hxc,hno⟩ | ⟨rfl,hno⟩
        ·obtain ⟨a,hai,rfl⟩:=zDp hix
         have hge:decide ((i:Int)≥0)=true:=decide_eq_true (by omega)
         obtain ⟨aa,ac,hav,harows⟩:=hj1.attsIn
         have c7:wr.cell? ⟨M,7,none⟩=some Lj.atts:=hj1.cell (k:=7) rfl
         obtain ⟨na,hna⟩:∃x,(zC rj).atts.length=x:=⟨_,rfl⟩
         rw [hav,hna] at c7
         obtain ⟨ab,aoff,rfl,i0,i1,i2,i3,i4⟩:=zAD harows hix
         have hil:=(List.getElem?_eq_some_iff.1 hix).1
         have hi0:(0:Int)≤(i:Int):=by omega
         have hi1:(i:Int) < (na:Int):=by omega
         have hmem:=List.mem_of_getElem? hai
         obtain ⟨q,hq,_⟩:=hj3.a.areq a hmem
         obtain ⟨id,hid⟩:∃x,a.id=x:=⟨_,rfl⟩
         have a0:wr.cell? ⟨ab,aoff+i*5,none⟩=some (vi id):=by rw [←hid];exact i0
         have hmk:=hj3.mok
         have HEN:=zh (zDf hj1 (i:=i) (x:=zV a) hix hmk.2.1 (by show (rj.conns.map yt).length≤_;rw [List.length_map];omega) (by have:=HNP.out;omega) (by have:=HNP.out;omega))
         have hen:mEnd (zC rj) i (zV a).conn=zC (rEnd rj a):=zDq hj3 (a:=a) hai
         rw [hen] at HEN
         have HJ1:=zh hj1
         have HJ2:=zh hj2
         have HJ3:=zh hj3
         have HJ4:=zh hj4
         have HJ5:=zh hj5
         have HAI:=zh hai
         have HXC:Hid (a.conn=c):=hxc
         have HNO:=zh hno
         have HQ:=zh hq
         have HIDE:=zh hid
         clear hj1 hj2 hj3 hj4 hj5 hav harows hna hil hmem hq hid i0 i1 i2 i3 i4 hmk hen hai hix hxc hno HJ
         go_wp2_with fail
         refine HEN.out.mono ?_
         rintro e w6 ⟨rfl,hst6⟩
         obtain ⟨ρ6,L6,g1,g2⟩:=hst6
         have HAG:=zh (zIs (HJ3.out.end (List.mem_of_getElem? HAI.out)) g1 (id:=id) (q:=q) (by rw [zBJ,←HIDE.out];exact HQ.out) false (by have:=HNP.out;omega) (by have:=HNP.out;omega) (by rw [zBp];have:=HJ4.out;omega))
         have HG2:=zh g2
         clear g1 g2 HEN a0 c7
         go_wp2_with fail
         refine HAG.out.mono ?_
         rintro e w7 ⟨rfl,hst7⟩
         obtain ⟨ρ7,L7,p1,p2⟩:=hst7
         have p1:MRep w7 ρ7 G M L7 (zC (yu rj a)):=by unfold yu;rw [HIDE.out];exact p1
         have HI7:=zh (zXM HJ3.out (List.mem_of_getElem? HAI.out))
         have HF7:=zh (HFC.out _ _ _ _ HI7.out p1)
         have HP1:=zh p1
         have HS7:Hid (Step ρ ρ7 w w7):=(HJ2.out.trans HG2.out).trans p2
         clear p1 p2 HAG
         go_wp2_with fail
         refine HF7.out.mono ?_
         rintro e w8 ⟨v8,rfl,hf8,hb8⟩
         have HF8:=zh hf8
         have HB8:=zh hb8
         clear hf8 hb8
         go_wp2_with fail
         go_roundw
         case rel =>
          refine ⟨v8,rfl,yu rj a,⟨ρ7,L7,HP1.out.grow HB8.out,HS7.out.trans (Step.still (Fr.of_below HB8.out)),HI7.out,?_⟩,?_,HF8.out⟩
          ·unfold yu
           rw [zEu,zBp]
           exact HJ4.out
          ·rw [←HJ5.out]
           exact (zOI zOJ HJ3.out HAI.out (decide_eq_true HXC.out) (fun j b hj hb=>decide_eq_false (HNO.out j (zV b) hj (zCT hb)))).symm
         case measure =>
          have h1:=zOJ rj a (List.mem_of_getElem? HAI.out) ⟨q,HQ.out⟩
          rw [zBo (HP1.out.grow HB8.out),zBo HJ1.out]
          show ((yu rj a).atts.map zV).length < (rj.atts.map zV).length
          rw [List.length_map,List.length_map,h1]
          exact List.length_filter_lt_length_iff_exists.2 ⟨a,List.mem_of_getElem? HAI.out,by simp⟩
        ·have hge:decide ((-1:Int)≥0)=false:=by decide
         have hem:yd rj c=[]:=by
          unfold yd
          rw [List.filter_eq_nil_iff]
          intro b hb
          simp
          exact hno (zV b) (List.mem_map_of_mem hb)
         rw [hem] at hj5
         have hj5:rj=r3:=hj5
         subst hj5
         have HSV:=zh (zIo hj3 hj1 (by have:=HNP.out;omega) (by have:=HNP.out;omega))
         have HJ2:=zh hj2
         clear hj1 hj2 hj3 hj4 hno hem HJ
         go_wp2_with fail
         refine HSV.out.mono ?_
         rintro e w6 ⟨rfl,hst6⟩
         have HTD:=zh (MSt.told (MSt.after HJ2.out hst6))
         clear hst6
         go_wp2_with fail
         refine HTD.out.mono ?_
         rintro e w7 ⟨v7,ρ7,L7,rfl,hp⟩
         have HP:=zh hp
         clear hp
         go_wp2_with fail
         show F (.returned v7) w7
         rw [←HF.out,HTR.out,HR3.out]
         exact ⟨v7,ρ7,L7,rfl,HP.out⟩
      ·have hv1:decide (v < 0)=false:=decide_eq_false hv0
       obtain ⟨⟨q,hq,hqc⟩,hids⟩:=zXH HK3.out hlst (by omega)
       have hvb:=HK3.out.n.req v q hq
       obtain ⟨tgt,htgt⟩:∃x,(rk.atts.filter (pOf v c)).foldl rEnd rk=x:=⟨_,rfl⟩
       have HTG:=zh htgt
       have HQ:=zh hq
       have HIDS:=zh hids
       clear hb2 hlst hids hq htgt c6 HIQ
       go_wp2_with fail
       go_loopw [11] (fun s11 wr=>∃i:Nat,s11=.int .i64 i∧i≤1000000000∧Hid (∃rj,zCX w ρ G M N P 900000000 wr rj∧rj.reqs=rk.reqs∧(rj.atts.filter (pOf v c)).foldl rEnd rj=tgt∧i≤rj.atts.length∧∀(j:Nat) b,j < i→rj.atts[j]?=some b→pOf v c b=false)) (fun s11 wr=>zDr wr M - (intOf s11).toNat)
       case atStart=>exact ⟨0,by go_num,by omega,rk,⟨ρk,Lk,HRW.out,HSW.out,HK3.out,HK4.out⟩,rfl,HTG.out,Nat.zero_le _,fun j b hj=>by omega⟩
       case round =>
        obtain ⟨i,rfl,hib,HJ⟩:=hrel
        obtain ⟨rj,⟨ρj,Lj,hj1,hj2,hj3,hj4⟩,hjr,hj5,hj6,hj7⟩:=HJ.out
        obtain ⟨aa,ac,hav,harows⟩:=hj1.attsIn
        have c7:wr.cell? ⟨M,7,none⟩=some Lj.atts:=hj1.cell (k:=7) rfl
        obtain ⟨na,hna⟩:∃x,(zC rj).atts.length=x:=⟨_,rfl⟩
        have hna2:rj.atts.length=na:=by rw [←hna];show _=(rj.atts.map zV).length;rw [List.length_map]
        rw [hav,hna] at c7
        have hmk:=hj3.mok
        have hnab:na≤900000000:=by rw [←hna];have:=HNP.out;omega
        have HJ1:=zh hj1
        have HJ2:=zh hj2
        have HJ3:=zh hj3
        have HJ4:=zh hj4
        have HJR:=zh hjr
        have HJ5:=zh hj5
        have HJ7:=zh hj7
        have HNA:=zh hna2
        by_cases hil:i < na
        ·have hlt3:decide ((i:Int) < (na:Int))=true:=decide_eq_true (by omega)
         obtain ⟨a,hai⟩:∃a,rj.atts[i]?=some a:=⟨_,List.getElem?_eq_getElem (by rw [hna2];exact hil)⟩
         have hix:(zC rj).atts[i]?=some (zV a):=zCT hai
         obtain ⟨ab,aoff,rfl,i0,i1,i2,i3,i4⟩:=zAD harows hix
         have hi0:(0:Int)≤(i:Int):=by omega
         have hi1:(i:Int) < (na:Int):=by omega
         obtain ⟨ai,hai1⟩:∃x,a.id=x:=⟨_,rfl⟩
         obtain ⟨acn,hac1⟩:∃x,a.conn=x:=⟨_,rfl⟩
         have a0:wr.cell? ⟨ab,aoff+i*5,none⟩=some (vi ai):=by rw [←hai1];exact i0
         have a2:wr.cell? ⟨ab,aoff+i*5+2,none⟩=some (vi acn):=by rw [←hac1];exact i2
         have HAI:=zh hai
         have HA1:=zh hai1
         have HA2:=zh hac1
         have HEN:=zh (zDf hj1 (i:=i) (x:=zV a) hix hmk.2.1 (by show (rj.conns.map yt).length≤_;rw [List.length_map];omega) (by have:=HNP.out;omega) (by have:=HNP.out;omega))
         have hen:mEnd (zC rj) i (zV a).conn=zC (rEnd rj a):=zDq hj3 (a:=a) hai
         rw [hen] at HEN
         clear hj1 hj2 hj3 hj4 hjr hj5 hj7 hav harows hna hna2 hai hix i0 i1 i2 i3 i4 hai1 hac1 hmk hen HJ
         by_cases he1:ai=v
         ·have hq1:(ai==v)=true:=by rw [he1];simp
          have hq2:decide (ai=v)=true:=decide_eq_true he1
          by_cases he2:acn=c
          ·have hq3:(acn==c)=true:=by rw [he2];simp
           have hq4:decide (acn=c)=true:=decide_eq_true he2
           have HPT:Hid (pOf v c a=true):=show _=_ by unfold pOf;rw [HA1.out,HA2.out,decide_eq_true he1,decide_eq_true he2];rfl
           go_wp2_with fail
           refine HEN.out.mono ?_
           rintro e w6 ⟨rfl,hst6⟩
           have HST6:=zh hst6
           clear hst6
           go_wp2_with fail
           go_roundw
           case rel =>
            have hmem:=List.mem_of_getElem? HAI.out
            have hlen:=zOO HJ3.out HAI.out
            refine ⟨i,rfl,hib,rEnd rj a,zCX.next HJ2.out HST6.out ((HJ3.out.end hmem).mono (Nat.le_refl _) (by omega)) (by rw [zBp];exact HJ4.out),(zBJ rj a).trans HJR.out,?_,?_,?_⟩
            ·rw [←HJ5.out]
             exact (zOI zXE HJ3.out HAI.out HPT.out HJ7.out).symm
            ·rw [hlen,List.length_append,List.length_take,List.length_drop,HNA.out];omega
            ·intro j b hj hb
             rw [hlen,List.getElem?_append_left (by rw [List.length_take,HNA.out];omega),List.getElem?_take_of_lt hj] at hb
             exact HJ7.out j b hj hb
           case measure =>
            obtain ⟨ρ6,L6,g1,_⟩:=HST6.out
            have hlen:=zOO HJ3.out HAI.out
            have hna:=HNA.out
            rw [zBo g1,zBo HJ1.out]
            show ((rEnd rj a).atts.map zV).length - _ < (rj.atts.map zV).length - _
            rw [List.length_map,List.length_map,hlen,List.length_append,List.length_take,List.length_drop,hna]
            simp [intOf]
            omega
          ·have hq3:(acn==c)=false:=beq_eq_false_iff_ne.2 he2
           have hq4:decide (acn=c)=false:=decide_eq_false he2
           have HPT:Hid (pOf v c a=false):=show _=_ by unfold pOf;rw [HA2.out,decide_eq_false he2];rfl
           go_wp2_with fail
           go_roundw
           case rel=>exact ⟨i+1,by go_num,by omega,rj,⟨ρj,Lj,HJ1.out,HJ2.out,HJ3.out,HJ4.out⟩,HJR.out,HJ5.out,by rw [HNA.out];omega,fun j b hj hb=>by
            by_cases e:j=i
            ·subst e;rw [HAI.out] at hb;cases hb;exact HPT.out
            ·exact HJ7.out j b (by omega) hb⟩
           case measure =>
            rw [zBo HJ1.out]
            have hna:=HNA.out
            show (rj.atts.map zV).length - _ < (rj.atts.map zV).length - _
            rw [List.length_map,hna]
            simp [intOf];omega
         ·have hq1:(ai==v)=false:=beq_eq_false_iff_ne.2 he1
          have hq2:decide (ai=v)=false:=decide_eq_false he1
          have HPT:Hid (pOf v c a=false):=show _=_ by unfold pOf;rw [HA1.out,decide_eq_false he1];simp
          go_wp2_with fail
          go_roundw
          case rel=>exact ⟨i+1,by go_num,by omega,rj,⟨ρj,Lj,HJ1.out,HJ2.out,HJ3.out,HJ4.out⟩,HJR.out,HJ5.out,by rw [HNA.out];omega,fun j b hj hb=>by
           by_cases e:j=i
           ·subst e;rw [HAI.out] at hb;cases hb;exact HPT.out
           ·exact HJ7.out j b (by omega) hb⟩
          case measure =>
           rw [zBo HJ1.out]
           have hna:=HNA.out
           show (rj.atts.map zV).length - _ < (rj.atts.map zV).length - _
           rw [List.length_map,hna]
           simp [intOf];omega
        ·have hin:i=na:=by omega
         have hlt3:decide ((i:Int) < (na:Int))=false:=decide_eq_false (by omega)
         have hrj:rj=tgt:=by
          rw [zXN (fun j b hj hb=>hj7 j b (by omega) hb)] at hj5
          exact hj5
         have HSH:=zh (zGf hj3 hj1 (id:=v) (q:=q) (by rw [hjr];exact HQ.out) (by have:=HNP.out;omega) (by have:=HNP.out;omega) (by omega))
         have HEQ:Hid (zy rj v=zx c rk v):=show _=_ by rw [zON,HTG.out,hrj]
         rw [HEQ.out] at HSH
         clear hj1 hj2 hj3 hj4 hjr hj5 hj6 hj7 hav harows hna hna2 hmk hrj HJ
         go_wp2_with fail
         refine HSH.out.mono ?_
         rintro e w6 ⟨rfl,hst6⟩
         have HST6:=zh hst6
         clear hst6
         go_wp2_with fail
         go_roundw
         case rel =>
          refine ⟨zx c rk v,zCX.next HJ2.out HST6.out (HK3.out.closeReq c v HQ.out) ?_,?_⟩
          ·rw [←HEQ.out,zEt];exact HJ4.out
          ·rw [←HK5.out,HIDS.out];rfl
         case measure =>
          obtain ⟨ρ6,L6,g1,_⟩:=HST6.out
          have hlen:=zXL HK3.out c HQ.out
          rw [zOM g1,zOM HK1.out]
          show ((zx c rk v).reqs.map zS).length < (rk.reqs.map zS).length
          rw [List.length_map,List.length_map]
          exact hlen
end
end Go.Proofs.YtaejfobbogahmaaGreatDoor
