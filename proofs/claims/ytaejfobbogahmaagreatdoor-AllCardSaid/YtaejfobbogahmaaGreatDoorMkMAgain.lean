/-
  RefG MMsgB MAgain MMsgF MsgL MIdle MMsgR: texts of their own, joined.
-/
import Derived.Test.YtaejfobbogahmaaGreatDoorMkPlayG
set_option maxRecDepth 100000
set_option maxHeartbeats 16000000
set_option linter.all false
namespace Go.Proofs.YtaejfobbogahmaaGreatDoor
open Go
def zCW (r:Raw) (c:Int) (a:Att):Att:=if a.conn=c then {a with till:=r.now+r.cfg.lease} else a
def yv (r:Raw) (c:Int) (k:Nat):Raw:={r with atts:=(r.atts.take k).map (zCW r c)++r.atts.drop k}
theorem zVw (r:Raw) (c:Int):yv r c 0=r:=by simp [yv]
theorem zVx (r:Raw) (c:Int):yv r c r.atts.length=zAO r c:=by
 unfold yv zAO
 rw [List.take_length,List.drop_length,List.append_nil]
 rfl
theorem zNd {r:Raw} (c:Int) {k:Nat} {a:Att} (h:r.atts[k]?=some a):(yv r c k).atts[k]?=some a:=by
 have hk:=(List.getElem?_eq_some_iff.1 h).1
 show ((r.atts.take k).map (zCW r c)++r.atts.drop k)[k]?=_
 rw [List.getElem?_append_right (by simp;omega),List.getElem?_drop]
 simp only [List.length_map,List.length_take]
 rw [show k+(k - min k r.atts.length)=k by omega,h]
theorem zVy (r:Raw) (c:Int) (k:Nat):(yv r c k).atts.length=r.atts.length:=by
 simp [yv];omega
theorem zNe {r:Raw} {c:Int} {k:Nat} {a:Att} (h:r.atts[k]?=some a):(yv r c (k+1)).atts=(yv r c k).atts.set k (zCW r c a):=by
 obtain ⟨hk,e⟩:=List.getElem?_eq_some_iff.1 h
 show (r.atts.take (k+1)).map (zCW r c)++r.atts.drop (k+1)=((r.atts.take k).map (zCW r c)++r.atts.drop k).set k (zCW r c a)
 rw [List.set_append_right _ _ (by simp;omega),List.take_add_one,h,List.map_append]
 rw [show k - ((r.atts.take k).map (zCW r c)).length=0 by simp;omega,List.drop_eq_getElem_cons hk,e,List.set_cons_zero]
 simp
theorem zVz {r:Raw} {c:Int} {k:Nat} {a:Att} (h:r.atts[k]?=some a) (hc:a.conn≠c):yv r c (k+1)=yv r c k:=by
 have h1:=zNe (c:=c) h
 have h2:zCW r c a=a:=if_neg hc
 rw [h2] at h1
 have h3:(yv r c k).atts.set k a=(yv r c k).atts:=by
  apply List.ext_getElem?
  intro j
  rw [List.getElem?_set]
  split
  ·rename_i e;subst e
   rw [if_pos (by rw [zVy];exact (List.getElem?_eq_some_iff.1 h).1),zNd c h]
  ·rfl
 rw [h3] at h1
 show ({r with atts:=(yv r c (k+1)).atts}:Raw)={r with atts:=(yv r c k).atts}
 rw [h1]
theorem zWA {r:Raw} {c:Int} {k:Nat} {a:Att} (h:r.atts[k]?=some a) (hc:a.conn=c):zC (yv r c (k+1))={zC (yv r c k) with atts:=(zC (yv r c k)).atts.set k {zV a with till:=r.now+r.cfg.lease}}:=by
 have h1:=zNe (c:=c) h
 have h2:zCW r c a={a with till:=r.now+r.cfg.lease}:=if_pos hc
 rw [h2] at h1
 have e1:(zC (yv r c (k+1))).atts=(zC (yv r c k)).atts.set k {zV a with till:=r.now+r.cfg.lease}:=by
  show (yv r c (k+1)).atts.map zV=_
  rw [h1,List.map_set]
  rfl
 have e2:zC (yv r c (k+1))={zC (yv r c k) with atts:=(zC (yv r c (k+1))).atts}:=rfl
 rw [e2,e1]
def zDI (m:RefM) (id:Int):Bool:=m.ring.any fun p=>p.2.contains id
theorem zNf {N P:Nat} {r:Raw} (hI:Inv N P r) {id:Int} {q:Req} (hq:aget r.reqs id=some q):zDI (zC r) id=q.queued:=by
 rw [Bool.eq_iff_iff]
 unfold zDI
 rw [List.any_eq_true]
 constructor
 ·rintro ⟨p,hp,hc⟩
  obtain ⟨h1,h2⟩:=zHx hp
  rw [List.contains_iff_mem,h2] at hc
  obtain ⟨q',h3,_,h4⟩:=hI.q.qreq p.1 id hc
  rw [hq] at h3;cases h3
  exact h4
 ·intro h
  have h1:=hI.q.reqq id q hq h
  have h2:q.tenant∈r.ring:=(hI.q.rqu _).2 (List.ne_nil_of_mem h1)
  exact ⟨(q.tenant,qOf r q.tenant),List.mem_map_of_mem (f:=fun t=>(t,qOf r t)) h2,List.contains_iff_mem.2 h1⟩
theorem zNg (r:Raw) (id:Int):(zC r).atts.countP (fun q=>decide (q.id=id))=(rOf r id).length:=by
 show (r.atts.map zV).countP _=_
 rw [List.countP_map,List.countP_eq_length_filter]
 rfl
theorem zWB {N P:Nat} {r:Raw} (hI:Inv N P r) {id:Int} {q:Req} {k:Nat} (hk:r.reqs[k]?=some (id,q)):zC (xC r id)={zC r with reqs:=(zC r).reqs.set k {zS (id,q) with left:=q.left - 1}}:=by
 have hq:=zCI hI.q.kreq hk
 have h1:xC r id={r with reqs:=aset r.reqs id {q with left:=q.left - 1}}:=by unfold xC;rw [hq]
 rw [h1]
 have:=zFw hI.q.kreq hk {q with left:=q.left - 1}
 show ({zC r with reqs:=(aset r.reqs id {q with left:=q.left - 1}).map zS}:RefM)=_
 rw [this]
 rfl
theorem zNh {r:Raw} {id:Int} {q:Req} (hq:aget r.reqs id=some q) (b:Bool) (h:q.queued=true∨(rOf r id).length≠0):zZ r id b=r:=by
 unfold zZ
 rw [hq]
 simp only []
 rw [if_pos]
 rcases h with h | h
 ·rw [h];rfl
 ·cases h2:rOf r id with
  | nil=>rw [h2] at h;exact absurd rfl h
  | cons a l=>simp
theorem zWC {r:Raw} {id:Int} {q:Req} (hq:aget r.reqs id=some q) (b:Bool) (h:q.queued=false) (h2:(rOf r id).length=0):zZ r id b=if b then (if q.left=0 then zy (rSay r q.conn [wErr,decI id]) id else zl (xC r id) id true) else zl r id true:=by
 unfold zZ
 rw [hq]
 simp only []
 rw [if_neg]
 rw [h,List.eq_nil_of_length_eq_zero h2]
 simp
open Go Go.RowKit
section
variable {w w' w1 w2 w3 wr:World} {ρ:Nat→Role} {G M:Nat} {L:MLay} {m:RefM}
theorem zWD {r:Raw} {c:Int} {m:Msg} (hk:m.kind=xi):zQ r c m=zAO r c:=by unfold zQ;rw [hk];rfl
theorem zWE {N P:Nat} {r:Raw} (hI:Inv N P r) (h:MRep w ρ G M L (zC r)) (c:Int) {x:Msg} (hx:xF x) (hk:x.kind=xi) (hc:zd r c=true) (hN:N≤1000000000) (hP:P≤1000000000) (hC:r.conns.length≤1000000000) :
 Calls Tryz.prog 155 #[vp M,vi c,.agg (zE x)] w fun e w'=>e=.returned (.tuple #[])∧MSt w ρ G M (zC (zQ r c x)) w':=by
 have HFG:=zh (fun (y:Int) (hy:0≤y∧y < 1000000000000) W=>zBO (x:=y) hy.1 hy.2 W)
 have hidr:0≤x.id∧x.id < 1000000000000:=by have:=hx.id;omega
 have HI:=zh hI
 have HH:=zh h
 have HC:=zh hc
 have HNN:=zh (And.intro hN (And.intro hP hC))
 have HM:=zh hI.mok
 obtain ⟨kd,id,an,ten,txt⟩:=x
 simp only [zE]
 simp only at hidr hk
 have ht:(bs kd).toList=[98,101,97,116]:=by rw [hk];exact yp _
 have HKD:=zh hk
 have HBX:Hid ((w.alloc (.cells #[vs (bs kd),vi id,vi an,vs (bs ten),vs (bs txt)] 151)).heap[w.heap.size]?=some (.cells #[vs (bs kd),vi id,vi an,vs (bs ten),vs (bs txt)] 151 (0,0))):=zL w
 have HBW:Hid (Below w.heap.size w (w.alloc (.cells #[vs (bs kd),vi id,vi an,vs (bs ten),vs (bs txt)] 151))):=(Below.refl _ w).alloc (Nat.le_refl _) _
 clear h hI hx hN hP hC hk hc
 go_enter Tryz.func155,Tryz.ntmps155
 go_wp2_with fail
 refine (HFG.out _ hidr _).mono ?_
 rintro e w1 ⟨rfl,hb1⟩
 rw [World.size_alloc] at hb1
 have hbx:=(hb1.block _ (Nat.lt_succ_self _)).trans HBX.out
 have HB1:=zh (HBW.out.trans (hb1.mono (Nat.le_succ _)))
 have hr1:=HH.out.grow HB1.out
 have x1:w1.cell? ⟨w.heap.size,1,none⟩=some (vi id):=zB hbx rfl
 have HBX1:=zh hbx
 have HR1:=zh hr1
 have HRQ:=zh (zCO hr1 id (by have:=HM.out;have:=HNN.out;omega))
 clear hb1 hbx hr1 HBX HBW
 go_wp2_with fail
 refine HRQ.out.mono ?_
 rintro e w2 ⟨v,rfl,hf,hb2⟩
 have hbx:=(hb2.block _ (zAs HBX1.out)).trans HBX1.out
 have HB2:=zh (HB1.out.trans (hb2.mono HB1.out.size))
 have HR2:=zh (HR1.out.grow hb2)
 have HBX2:=zh hbx
 have y0:w2.cell? ⟨w.heap.size,0,none⟩=some (vs (bs kd)):=zB hbx rfl
 have y1:w2.cell? ⟨w.heap.size,1,none⟩=some (vi id):=zB hbx rfl
 have y2:w2.cell? ⟨w.heap.size,2,none⟩=some (vi an):=zB hbx rfl
 have HRST:Hid (MSt w ρ G M (zC r) w2):=⟨ρ,L,HR2.out,Step.still (Fr.of_below HB2.out)⟩
 have HE:Hid (zQ r c ⟨kd,id,an,ten,txt⟩=zAO r c):=show _=_ from zWD HKD.out
 obtain ⟨aa,ac,hva,_⟩:=HR2.out.attsIn
 have c7:w2.cell? ⟨M,7,none⟩=some L.atts:=HR2.out.cell (k:=7) rfl
 obtain ⟨n,hnn⟩:∃n,(zC r).atts.length=n:=⟨_,rfl⟩
 rw [hnn] at hva
 rw [hva] at c7
 have HVA:=zh hva
 have HN:Hid (r.atts.length=n):=show _=_ by rw [←hnn];show _=(r.atts.map zV).length;rw [List.length_map]
 obtain ⟨nw,hnw⟩:∃x,r.now=x:=⟨_,rfl⟩
 obtain ⟨ls,hls⟩:∃x,r.cfg.lease=x:=⟨_,rfl⟩
 have hb0:=HI.out.n.now
 have hb1':=zCZ HI.out.n.cfg
 rw [hnw] at hb0
 rw [hls] at hb1'
 have hwl:IntKind.i64.wrap (nw+ls)=nw+ls:=IntWalk.i64_in _ (by have:=HNN.out;omega)
 have HNW:=zh hnw
 have HLS:=zh hls
 have hnb:n≤1000000000:=by have h5:=HM.out.2.2.2.2.2.1;rw [hnn] at h5;have:=HNN.out;omega
 clear hf hb2 hbx HRQ x1 hnn hnw hls hb0 hb1' hva
 go_wp2_with fail
 go_loopw [11,105] (fun _ s105 wr=>∃k:Nat,s105=.int .i64 k∧k≤n∧Hid (∃ρk,MRep wr ρk G M L (zC (yv r c k))∧Step ρ ρk w wr)) (fun _ s105 _=>n - (intOf s105).toNat)
 case atStart=>exact ⟨0,by go_num,Nat.zero_le _,ρ,by rw [zVw];exact HR2.out,Step.still (Fr.of_below HB2.out)⟩
 case round =>
  obtain ⟨k,rfl,hk,HK⟩:=hrel
  by_cases hkl:k < n
  ·have hlt:decide ((k:Int) < (n:Int))=true:=decide_eq_true (by omega)
   obtain ⟨a,ha⟩:∃a,r.atts[k]?=some a:=⟨_,List.getElem?_eq_getElem (by rw [HN.out];exact hkl)⟩
   obtain ⟨ρk,hk1,hk2⟩:=HK.out
   have hak:(zC (yv r c k)).atts[k]?=some (zV a):=zCT (zNd c ha)
   obtain ⟨ab,aoff,hae,i0,i1,i2,i3,i4⟩:=zAD (zGd hk1 HVA.out) hak
   subst hae
   have c7k:wr.cell? ⟨M,7,none⟩=some L.atts:=hk1.cell (k:=7) rfl
   rw [HVA.out] at c7k
   have c5k:wr.cell? ⟨M,5,none⟩=some (vi r.now):=hk1.cell (k:=5) rfl
   have c0k:wr.cell? ⟨M,0,none⟩=some (vi r.cfg.lease):=hk1.cell (k:=0) rfl
   rw [HNW.out] at c5k
   rw [HLS.out] at c0k
   have a2:wr.cell? ⟨ab,aoff+k*5+2,none⟩=some (vi a.conn):=i2
   clear i0 i1 i2 i3
   obtain ⟨y,hy⟩:∃y,a.conn=y:=⟨_,rfl⟩
   rw [hy] at a2
   have hk0:(0:Int)≤(k:Int):=by omega
   have hk3:(k:Int) < (n:Int):=by omega
   by_cases hyc:y=c
   ·have hq:(y==c)=true:=by rw [hyc];simp
    have hq2:decide (y=c)=true:=decide_eq_true hyc
    obtain ⟨ρ',q1,q2,fz⟩:=zSN hk1.drew HVA.out hak (j:=4) (by decide) (v:=vi (nw+ls)) (x':={zV a with till:=nw+ls}) rfl
    have HNXT:Hid (∃ρk,MRep (wr.drew.setCell ⟨ab,aoff+k*5+4,none⟩ (vi (nw+ls))) ρk G M L (zC (yv r c (k+1)))∧Step ρ ρk w (wr.drew.setCell ⟨ab,aoff+k*5+4,none⟩ (vi (nw+ls)))):=⟨ρ',by rw [zWA ha (hy.trans hyc),HNW.out,HLS.out];exact q1,hk2.drew.trans q2⟩
    have fz':wr.frozen? ⟨ab,aoff+k*5+4,none⟩=false:=fz
    have s7:(wr.setCell ⟨ab,aoff+k*5+4,none⟩ (vi (nw+ls))).drew.cell? ⟨M,7,none⟩=some (.slice (some ⟨ab,aoff,none⟩) n ac):=by rw [←HVA.out];exact q1.cell (k:=7) rfl
    have s5:(wr.setCell ⟨ab,aoff+k*5+4,none⟩ (vi (nw+ls))).drew.cell? ⟨M,5,none⟩=some (vi nw):=(q1.cell (k:=5) rfl).trans (show some (vi r.now)=_ by rw [HNW.out])
    have s0:(wr.setCell ⟨ab,aoff+k*5+4,none⟩ (vi (nw+ls))).drew.cell? ⟨M,0,none⟩=some (vi ls):=(q1.cell (k:=0) rfl).trans (show some (vi r.cfg.lease)=_ by rw [HLS.out])
    clear ha hk1 hk2 hak hy q1 q2 fz HK
    go_wp2_with fail
    go_region_held3 (fun w'=>w'.cell? ⟨M,7,none⟩=some (.slice (some ⟨ab,aoff,none⟩) n ac)∧w'.cell? ⟨M,5,none⟩=some (vi nw)∧w'.cell? ⟨M,0,none⟩=some (vi ls)) (go_keep) (fail)
    all_goals
     go_wp2_with fail
     go_roundw
     case rel=>exact ⟨k+1,by go_num,by omega,HNXT.out⟩
     case measure=>simp [intOf];omega
   ·have hq:(y==c)=false:=beq_eq_false_iff_ne.2 hyc
    have hq2:decide (y=c)=false:=decide_eq_false hyc
    have HNXT:Hid (∃ρk,MRep wr ρk G M L (zC (yv r c (k+1)))∧Step ρ ρk w wr):=⟨ρk,by rw [zVz ha (fun e=>hyc (hy.symm.trans e))];exact hk1,hk2⟩
    clear ha hk1 hk2 hak hy HK
    go_wp2_with fail
    go_roundw
    case rel=>exact ⟨k+1,by go_num,by omega,HNXT.out⟩
    case measure=>simp [intOf];omega
  ·obtain rfl:k=n:=by omega
   have hlt:decide ((k:Int) < (k:Int))=false:=by simp
   have HFIN:Hid (MSt w ρ G M (zC (zAO r c)) wr):=by
    obtain ⟨ρk,k1,k2⟩:=HK.out
    rw [←HN.out,zVx] at k1
    exact ⟨ρk,L,k1,k2⟩
   clear HK
   go_wp2_with fail
   go_end0
   refine ⟨rfl,?_⟩
   rw [HE.out]
   exact HFIN.out
end
section
variable {w w' w1 w2 w3 wr:World} {ρ:Nat→Role} {G M:Nat} {L:MLay} {m:RefM}
theorem zGk {a:Addr} {v:Value} {o:Obj} (h:w.cell? a=some v):(w.alloc o).cell? a=some v:=(World.cell?_alloc_lt _ _ _ (zW h)).trans h
theorem zWF {l:List (ByteArray×List Int)} {id:Int} {k:Nat} {p:ByteArray×List Int} (hn:∀(j:Nat) p,j < k→l[j]?=some p→id∉p.2) (hk:l[k]?=some p) (hp:id∉p.2):∀(j:Nat) p,j < k+1→l[j]?=some p→id∉p.2:=fun j b hj hb=>by
 by_cases e:j=k
 ·subst e;rw [hk] at hb;cases hb;exact hp
 ·exact hn j b (by omega) hb
theorem zNi (h:MRep w ρ G M L m) (id:Int) (hrn:m.ring.length≤1000000000000) (hin:∀p∈m.ring,p.2.length≤1000000000000) :
 Calls Tryz.prog 123 #[vp M,vi id] w fun e w'=>e=.returned (.bool (zDI m id))∧Below w.heap.size w w':=by
 obtain ⟨a,cap,hv,hr⟩:=h.ringIn
 have cL:w.cell? ⟨M,8,none⟩=some L.ring:=h.cell (k:=8) rfl
 rw [hv] at cL
 have HR:=zh hr
 have HH:=zh h
 have HIN:=zh hin
 obtain ⟨n,hnn⟩:∃n,m.ring.length=n:=⟨_,rfl⟩
 have HN:=zh hnn
 rw [hnn] at cL hrn
 clear h hv hr hnn hin
 go_enter Tryz.func123,Tryz.ntmps123
 go_wp2_with fail
 go_loopw [6,8,14] (fun _ _ s14 wr=>∃k:Nat,s14=.int .i64 k∧k≤n∧Hid (Below w.heap.size w wr∧∀(j:Nat) p,j < k→m.ring[j]?=some p→id∉p.2)) (fun _ _ s14 _=>n - (intOf s14).toNat)
 case atStart=>exact ⟨0,by go_num,Nat.zero_le _,Below.refl _ _,fun j p hj=>by omega⟩
 case round =>
  obtain ⟨k,rfl,hk,HI⟩:=hrel
  obtain ⟨wo,rfl⟩:∃wo,wo=wr:=⟨_,rfl⟩
  by_cases hkl:k < n
  ·have hlt:decide ((k:Int) < (n:Int))=true:=decide_eq_true (by omega)
   obtain ⟨⟨t,x⟩,hkq⟩:∃q,m.ring[k]?=some q:=⟨_,List.getElem?_eq_getElem (by rw [HN.out];exact hkl)⟩
   obtain ⟨b,off,hae,c0,c1⟩:=zDb (HR.out.below HI.out.1) hkq
   subst hae
   obtain ⟨ia,ic,hiv,hix⟩:=zDa ((HH.out.grow HI.out.1).ids t x (List.mem_of_getElem? hkq))
   simp only [] at c0 c1
   rw [hiv] at c1
   have hk0:(0:Int)≤(k:Int):=by omega
   have hk1:(k:Int) < (n:Int):=by omega
   have HKQ:=zh hkq
   have HIX:=zh hix
   obtain ⟨xl,hxl⟩:∃xl,x.length=xl:=⟨_,rfl⟩
   have hxb:xl≤1000000000000:=by rw [←hxl];exact HIN.out _ (List.mem_of_getElem? hkq)
   rw [hxl] at c1
   have HXL:=zh hxl
   have HBA:=zh (HI.out.1.alloc HI.out.1.size (.cells #[vs t,.slice ia xl ic] 191))
   clear hkq hiv hxl hix
   go_wp2_with fail
   go_loop [8,21] (fun _ s21=>∃j:Nat,s21=.int .i64 j∧j≤xl∧Hid (∀(i:Nat) y,i < j→x[i]?=some y→y≠id)) (fun _ s21=>xl - (intOf s21).toNat)
   case atStart=>exact ⟨0,by go_num,Nat.zero_le _,fun i y hi=>by omega⟩
   case round =>
    obtain ⟨j,rfl,hj,HJ⟩:=hrel
    by_cases hjl:j < xl
    ·have hlt2:decide ((j:Int) < (xl:Int))=true:=decide_eq_true (by omega)
     obtain ⟨y,hy⟩:∃y,x[j]?=some y:=⟨_,List.getElem?_eq_getElem (by rw [HXL.out];exact hjl)⟩
     obtain ⟨ib,ioff,hie,cj0⟩:=HIX.out j y hy
     subst hie
     have cj:=zGk (o:=.cells #[vs t,.slice (some ⟨ib,ioff,none⟩) xl ic] 191) cj0
     have hj0:(0:Int)≤(j:Int):=by omega
     have hj1:(j:Int) < (xl:Int):=by omega
     have HY:=zh hy
     by_cases hyi:y=id
     ·have hq:(y==id)=true:=by rw [hyi];simp
      have hq2:decide (y=id)=true:=decide_eq_true hyi
      have HW:Hid (zDI m id=true):=show _=_ by
       unfold zDI
       rw [List.any_eq_true]
       exact ⟨(t,x),List.mem_of_getElem? HKQ.out,List.contains_iff_mem.2 (by rw [←hyi];exact List.mem_of_getElem? hy)⟩
      clear hy
      go_wp2_with fail
      go_ret
      exact ⟨by rw [HW.out];rfl,HBA.out⟩
     ·have hq:(y==id)=false:=beq_eq_false_iff_ne.2 hyi
      have hq2:decide (y=id)=false:=decide_eq_false hyi
      have HNN:Hid (∀(i:Nat) z,i < j+1→x[i]?=some z→z≠id):=zCG (p:=fun z=>z=id) HJ.out hy hyi
      clear hy
      go_wp2_with fail
      go_round
      case rel=>exact ⟨j+1,by go_num,by omega,HNN.out⟩
      case measure=>simp [intOf];omega
    ·obtain rfl:j=xl:=by omega
     have hlt2:decide ((j:Int) < (j:Int))=false:=by simp
     have HNN:Hid (∀(i:Nat) p,i < k+1→m.ring[i]?=some p→id∉p.2):=zWF HI.out.2 HKQ.out (fun hm=>by
      obtain ⟨i,hi,e⟩:=List.getElem_of_mem hm
      exact HJ.out i id (by rw [←HXL.out];exact hi) (by rw [List.getElem?_eq_getElem hi,e]) rfl)
     go_wp2_with fail
     go_roundw
     case rel=>exact ⟨k+1,by go_num,by omega,HBA.out,HNN.out⟩
     case measure=>simp [intOf];omega
  ·obtain rfl:k=n:=by omega
   have hlt:decide ((k:Int) < (k:Int))=false:=by simp
   have HW:Hid (zDI m id=false):=show _=_ by
    unfold zDI
    rw [List.any_eq_false]
    intro p hp
    obtain ⟨j,hj,rfl⟩:=List.getElem_of_mem hp
    have:=HI.out.2 j _ (by rw [←HN.out];exact hj) (List.getElem?_eq_getElem hj)
    rw [List.contains_iff_mem]
    exact this
   go_wp2_with fail
   go_ret
   exact ⟨by rw [HW.out];rfl,HI.out.1⟩
theorem zNj {m':RefM} (h:MStO w1 ρ G M L m' w') (hb:Below w.heap.size w w1):MStO w ρ G M L m' w':=by
 obtain ⟨ρ',v,h1,h2⟩:=h
 exact ⟨ρ',v,h1,(Step.still (Fr.of_below hb)).trans h2⟩
theorem zWG (a:Int):(⟨#[101,114,114,32]⟩:ByteArray)++bs (decI a)=bs (zN [wErr,decI a]):=by
 apply ByteArray.ext
 simp [bs,zN,wErr]
theorem zNk {LB:MLay} {mB:RefM} (h:MRep w ρ G M LB mB) {b off n cap k:Nat} {x:MReq} (hv:LB.reqs=.slice (some ⟨b,off,none⟩) n cap) (hk:mB.reqs[k]?=some x) :
 w.cell? ⟨M,6,none⟩=some (.slice (some ⟨b,off,none⟩) n cap)∧w.cell? ⟨b,off+k*7+1,none⟩=some (vi x.conn)∧w.cell? ⟨b,off+k*7+5,none⟩=some (vi x.left)∧w.cell? ⟨b,off+k*7+6,none⟩=some (.bool x.hedged):=by
 obtain ⟨b',off',hae,_,q1,_,_,_,q5,q6⟩:=zAX (zCU h hv) hk
 injection hae with hae
 injection hae with e1 e2
 subst e1;subst e2
 have c6:w.cell? ⟨M,6,none⟩=some LB.reqs:=h.cell (k:=6) rfl
 rw [hv] at c6
 exact ⟨c6,q1,q5,q6⟩
theorem zIs {N P:Nat} {r:Raw} (hI:Inv N P r) (h:MRep w ρ G M L (zC r)) {id:Int} {q:Req} (hq:aget r.reqs id=some q) (b:Bool) (hN:N≤10000000000) (hP:P≤10000000000) (hC:r.conns.length≤10000000000) :
 Calls Tryz.prog 121 #[vp M,vi id,.bool b] w fun e w'=>e=.returned (.tuple #[])∧MSt w ρ G M (zC (zZ r id b)) w':=by
 have hidb:=hI.n.req id q hq
 have hidr:0≤id∧id < 1000000000000:=by omega
 have hm:=hI.mok
 have HFG:=zh (fun W=>zBO (x:=id) hidr.1 hidr.2 W)
 have HWT:=zh (zNi h id (by omega) (fun p hp=>by have:=hm.2.2.2.2.1 p hp;omega))
 rw [zNf hI hq] at HWT
 have HCT:=zh (fun W (hb:Below w.heap.size w W)=>zLY (h.grow hb) id (by omega))
 simp only [zNg] at HCT
 obtain ⟨k,hk⟩:=zCH hq
 have hkm:(zC r).reqs[k]?=some (zS (id,q)):=by show (r.reqs.map zS)[k]?=_;rw [List.getElem?_map,hk];rfl
 have HKQ:=zh hk
 have HKM:=zh hkm
 have HI:=zh hI
 have HH:=zh h
 have HQ:=zh hq
 have HM:=zh hm
 have HB:Hid (N≤10000000000∧P≤10000000000∧r.conns.length≤10000000000):=⟨hN,hP,hC⟩
 obtain ⟨qd,hqd⟩:∃qd,q.queued=qd:=⟨_,rfl⟩
 obtain ⟨ct,hct⟩:∃ct,(rOf r id).length=ct:=⟨_,rfl⟩
 rw [hqd] at HWT
 rw [hct] at HCT
 have HQD:=zh hqd
 have HCN:=zh hct
 have hctb:ct≤10000000000:=by
  rw [←hct]
  have h1:(rOf r id).length≤r.atts.length:=List.length_filter_le _ _
  have:=hI.n.pot
  omega
 clear hI h hq hm hk hkm hqd hct hN hP hC hidb
 go_enter Tryz.func121,Tryz.ntmps121
 go_wp2_with fail
 refine HWT.out.mono ?_
 rintro e w1 ⟨rfl,hb1⟩
 have HB1:=zh hb1
 clear hb1
 cases qd with
 | true =>
   have HE:Hid (zZ r id b=r):=show _=_ from zNh HQ.out b (.inl HQD.out)
   go_wp2_with fail
   refine bodyPost_ret (results_none rfl _ _ _) rfl ?_
   refine ⟨rfl,?_⟩
   rw [HE.out]
   exact ⟨ρ,L,HH.out.grow HB1.out,Step.still (Fr.of_below HB1.out)⟩
 | false =>
   go_wp2_with fail
   refine (HCT.out _ HB1.out).mono ?_
   rintro e w2 ⟨rfl,hb2⟩
   have HB2:=zh (HB1.out.trans (hb2.mono HB1.out.size))
   have HR2:=zh (HH.out.grow HB2.out)
   clear hb2 HCT HWT
   by_cases hc0:ct=0
   ·have hgt:decide ((ct:Int) > 0)=false:=decide_eq_false (by omega)
    have HE:=zh (zWC HQ.out b HQD.out (HCN.out.trans hc0))
    have HRA:=zh (zDo HR2.out (k:=k) HM.out.1 HKM.out (by have:=HM.out;have:=HB.out;omega))
    go_wp2_with fail
    refine HRA.out.mono ?_
    rintro e w3 ⟨rfl,hb3⟩
    have HB3:=zh (HB2.out.trans (hb3.mono HB2.out.size))
    have HR3:=zh (HH.out.grow HB3.out)
    obtain ⟨qa,qc,hvq,_⟩:=HR3.out.reqsIn
    obtain ⟨qn,hqn⟩:∃qn,(zC r).reqs.length=qn:=⟨_,rfl⟩
    rw [hqn] at hvq
    obtain ⟨qb,qoff,_,_,_,hae⟩:∃qb qoff,∃_:Unit,∃_:Unit,∃_:Unit,qa=some ⟨qb,qoff,none⟩:=by
     obtain ⟨b',off',hae,_⟩:=zAX (zCU HR3.out hvq) HKM.out
     exact ⟨b',off',(),(),(),hae⟩
    subst hae
    obtain ⟨c6,q1a,q5a,q6a⟩:=zNk HR3.out hvq HKM.out
    have q1:w3.cell? ⟨qb,qoff+k*7+1,none⟩=some (vi q.conn):=q1a
    have q5:w3.cell? ⟨qb,qoff+k*7+5,none⟩=some (vi q.left):=q5a
    have hkl:=(List.getElem?_eq_some_iff.1 HKM.out).1
    have hk0:(0:Int)≤(k:Int):=by omega
    have hk1:(k:Int) < (qn:Int):=by omega
    have HVQ:=zh hvq
    have HST3:Hid (Step ρ ρ w w3):=Step.still (Fr.of_below HB3.out)
    clear hb3 HRA hqn hkl q1a q5a q6a hvq
    cases b with
    | true =>
      by_cases hl0:q.left=0
      ·have hql:(q.left==0)=true:=by rw [hl0];rfl
       have HE2:Hid (zZ r id true=zy (rSay r q.conn [wErr,decI id]) id):=show _=_ by rw [HE.out,if_pos rfl,if_pos hl0]
       obtain ⟨d1,e1⟩:∃d1,(⟨#[101,114,114,32]⟩:ByteArray)++bs (decI id)=d1:=⟨_,rfl⟩
       have hstr:d1=bs (zN [wErr,decI id]):=by rw [←e1];exact zWG id
       have hza:=zAq id
       have z1:¬9223372036854775807 < 4+(bs (decI id)).size:=by omega
       have HS:=zh (fun W (hW:MRep W ρ G M L (zC r))=>zDe hW q.conn (zN [wErr,decI id]) (zEr _ _ (by decide)) (by have:=HM.out;have:=HB.out;omega))
       rw [←hstr] at HS
       clear hstr hza hl0
       obtain ⟨cn,hcn⟩:∃cn,q.conn=cn:=⟨_,rfl⟩
       rw [hcn] at q1 HS
       have HCNN:=zh hcn
       clear hcn
       go_wp2_with fail
       apply zBn (S:=fun W=>MStO w3 ρ G M L (mSay (zC r) cn (zN [wErr,decI id])) W)
       ·intro R hR
        go_region_held3 (fun w'=>w'.cell? ⟨M,6,none⟩=some (.slice (some ⟨qb,qoff,none⟩) qn qc)∧w'.cell? ⟨qb,qoff+k*7+1,none⟩=some (vi cn)) (go_keep) (first
         | (go_at_call 119;refine (HFG.out _).mono ?_;rintro e wa ⟨rfl,hb⟩;have HBA:Hid (Below w3.heap.size w3 wa):=(by first | exact zAh hb | exact zUi hb);have c6b:=(HBA.out.cell (zW c6)).trans c6;have q1b:=(HBA.out.cell (zW q1)).trans q1;clear hb)
         | (go_at_call 118;refine (HS.out _ (HR3.out.grow HBA.out)).mono ?_;rintro e w4 ⟨rfl,hst⟩;obtain ⟨c6d,q1e⟩:=zNa hst HVQ.out HKM.out;have q1d:w4.cell? ⟨qb,qoff+k*7+1,none⟩=some (vi cn):=q1e.trans (show some (vi q.conn)=_ by rw [HCNN.out]);clear q1e;have HST:=zh (zNj hst HBA.out);clear hst))
        all_goals exact hR.out _ HST.out
       intro w4 hst4
       obtain ⟨ρ4,v4,g1,g2⟩:=hst4
       have hI4:=HI.out.say cn [wErr,decI id]
       have HSH:=zh (zGf hI4 (show MRep w4 ρ4 G M _ (zC (rSay r cn [wErr,decI id])) from g1) (id:=id) (q:=q) HQ.out (by have:=HB.out;omega) (by have:=HB.out;omega) (by show r.conns.length≤_;have:=HB.out;omega))
       have HG2:=zh g2
       clear g1 g2 hI4 c6 q1 q5 e1 z1
       go_wp2_with fail
       refine HSH.out.mono ?_
       rintro e w5 ⟨rfl,hst5⟩
       have HFIN:Hid (MSt w ρ G M (zC (zy (rSay r cn [wErr,decI id]) id)) w5):=by
        obtain ⟨ρ5,L5,p1,p2⟩:=hst5
        exact ⟨ρ5,L5,p1,(HST3.out.trans HG2.out).trans p2⟩
       clear hst5
       go_wp2_with fail
       refine bodyPost_ret (results_none rfl _ _ _) rfl ?_
       refine ⟨rfl,?_⟩
       rw [HE2.out,HCNN.out]
       exact HFIN.out
      ·have hql:(q.left==0)=false:=beq_eq_false_iff_ne.2 hl0
       have hql2:decide (q.left=0)=false:=decide_eq_false hl0
       have HE2:Hid (zZ r id true=zl (xC r id) id true):=show _=_ by rw [HE.out,if_pos rfl,if_neg hl0]
       have hlb:=HI.out.n.req id q HQ.out
       have hws:IntKind.i64.wrap (q.left - 1)=q.left - 1:=IntWalk.i64_in _ (by omega)
       obtain ⟨ρ',p1,p2,fz⟩:=zLZ HR3.out HVQ.out HKM.out (j:=5) (by decide) (v:=vi (q.left - 1)) (x':={zS (id,q) with left:=q.left - 1}) rfl
       have hI4:Inv N P (xC r id):=by
        have:=HI.out.left HQ.out hl0
        unfold xC;rw [HQ.out];exact this
       have hq4:aget (xC r id).reqs id=some {q with left:=q.left - 1}:=by
        unfold xC;rw [HQ.out]
        show aget (aset r.reqs id _) id=_
        rw [zo,if_pos rfl]
       have e4:=zWB HI.out HKQ.out
       have p1:MRep (w3.setCell ⟨qb,qoff+k*7+5,none⟩ (vi (q.left - 1))) ρ' G M L (zC (xC r id)):=by rw [e4];exact p1
       have hkl2:=(List.getElem?_eq_some_iff.1 HKM.out).1
       have hk4:(zC (xC r id)).reqs[k]?=some {zS (id,q) with left:=q.left - 1}:=by
        rw [e4]
        show ((zC r).reqs.set k _)[k]?=_
        rw [List.getElem?_set,if_pos rfl,if_pos hkl2]
       have hm4:=hI4.mok
       have HWA:=zh (zGZ p1 true (kq:=k) (q:={zS (id,q) with left:=q.left - 1}) hm4.1 hk4 (by have:=HB.out;omega) (by have:=HB.out;omega) (fun p hp=>by have:=hm4.2.2.2.2.1 p hp;have:=HB.out;omega))
       have HEQ:Hid (zC (zl (xC r id) id true)=zBD (zC (xC r id)) q.tenant id true):=zFx hI4 hq4 true
       have HS4:Hid (Step ρ ρ' w (w3.setCell ⟨qb,qoff+k*7+5,none⟩ (vi (q.left - 1)))):=HST3.out.trans p2
       have fz':w3.frozen? ⟨qb,qoff+k*7+5,none⟩=false:=fz
       obtain ⟨lf,hlf⟩:∃lf,q.left=lf:=⟨_,rfl⟩
       rw [hlf] at q5 hws hql hql2
       simp only [hlf] at HWA HS4
       clear hlb p1 p2 hI4 hq4 e4 hk4 hm4 fz hlf hkl2 hl0
       go_wp2_with fail
       refine HWA.out.mono ?_
       rintro e w5 ⟨rfl,hst5⟩
       have HFIN:Hid (MSt w ρ G M (zC (zl (xC r id) id true)) w5):=by
        show MSt _ _ _ _ _ _
        rw [HEQ.out]
        exact MStA.ofStep HS4.out hst5
       clear hst5
       go_wp2_with fail
       go_end0
       refine ⟨rfl,?_⟩
       rw [HE2.out]
       exact HFIN.out
    | false =>
      have HE2:Hid (zZ r id false=zl r id true):=show _=_ by rw [HE.out,if_neg (by simp)]
      have HWA:=zh (zGZ HR3.out true (kq:=k) (q:=zS (id,q)) HM.out.1 HKM.out (by have:=HM.out;have:=HB.out;omega) (by have:=HM.out;have:=HB.out;omega) (fun p hp=>by have:=HM.out.2.2.2.2.1 p hp;have:=HB.out;omega))
      have HEQ:Hid (zC (zl r id true)=zBD (zC r) q.tenant id true):=zFx HI.out HQ.out true
      clear q1 q5
      go_wp2_with fail
      refine HWA.out.mono ?_
      rintro e w5 ⟨rfl,hst5⟩
      have HFIN:Hid (MSt w ρ G M (zC (zl r id true)) w5):=by
       show MSt _ _ _ _ _ _
       rw [HEQ.out]
       exact MStA.ofStep HST3.out hst5
      clear hst5
      go_wp2_with fail
      go_end0
      refine ⟨rfl,?_⟩
      rw [HE2.out]
      exact HFIN.out
   ·have hgt:decide ((ct:Int) > 0)=true:=decide_eq_true (by omega)
    have HE:Hid (zZ r id b=r):=show _=_ from zNh HQ.out b (.inr (by rw [HCN.out];exact hc0))
    go_wp2_with fail
    refine bodyPost_ret (results_none rfl _ _ _) rfl ?_
    refine ⟨rfl,?_⟩
    rw [HE.out]
    exact ⟨ρ,L,HR2.out,Step.still (Fr.of_below HB2.out)⟩
end
section
variable {w w' w1 w2 w3 wr:World} {ρ:Nat→Role} {G M:Nat} {L:MLay} {m:RefM}
theorem zIt {r:Raw} {c:Int} {m:Msg} (hk:m.kind=xP):zQ r c m=match rAtt r m.id m.att c with
 | some a=>zZ (rEnd r a) m.id true
 | none=>r:=by unfold zQ;rw [hk];rfl
theorem zWH {N P:Nat} {r:Raw} (hI:Inv N P r) (h:MRep w ρ G M L (zC r)) (c:Int) {x:Msg} (hx:xF x) (hk:x.kind=xP) (hc:zd r c=true) (hN:N≤1000000000) (hP:P≤1000000000) (hC:r.conns.length≤1000000000) :
 Calls Tryz.prog 155 #[vp M,vi c,.agg (zE x)] w fun e w'=>e=.returned (.tuple #[])∧MSt w ρ G M (zC (zQ r c x)) w':=by
 have HFG:=zh (fun (y:Int) (hy:0≤y∧y < 1000000000000) W=>zBO (x:=y) hy.1 hy.2 W)
 have hidr:0≤x.id∧x.id < 1000000000000:=by have:=hx.id;omega
 have HI:=zh hI
 have HH:=zh h
 have HC:=zh hc
 have HNN:=zh (And.intro hN (And.intro hP hC))
 have HM:=zh hI.mok
 obtain ⟨kd,id,an,ten,txt⟩:=x
 simp only [zE]
 simp only at hidr hk
 have ht:(bs kd).toList=[102,97,105,108]:=by rw [hk];exact yp _
 have HKD:=zh hk
 have HBX:Hid ((w.alloc (.cells #[vs (bs kd),vi id,vi an,vs (bs ten),vs (bs txt)] 151)).heap[w.heap.size]?=some (.cells #[vs (bs kd),vi id,vi an,vs (bs ten),vs (bs txt)] 151 (0,0))):=zL w
 have HBW:Hid (Below w.heap.size w (w.alloc (.cells #[vs (bs kd),vi id,vi an,vs (bs ten),vs (bs txt)] 151))):=(Below.refl _ w).alloc (Nat.le_refl _) _
 clear h hI hx hN hP hC hk hc
 go_enter Tryz.func155,Tryz.ntmps155
 go_wp2_with fail
 refine (HFG.out _ hidr _).mono ?_
 rintro e w1 ⟨rfl,hb1⟩
 rw [World.size_alloc] at hb1
 have hbx:=(hb1.block _ (Nat.lt_succ_self _)).trans HBX.out
 have HB1:=zh (HBW.out.trans (hb1.mono (Nat.le_succ _)))
 have hr1:=HH.out.grow HB1.out
 have x1:w1.cell? ⟨w.heap.size,1,none⟩=some (vi id):=zB hbx rfl
 have HBX1:=zh hbx
 have HR1:=zh hr1
 have HRQ:=zh (zCO hr1 id (by have:=HM.out;have:=HNN.out;omega))
 clear hb1 hbx hr1 HBX HBW
 go_wp2_with fail
 refine HRQ.out.mono ?_
 rintro e w2 ⟨v,rfl,hf,hb2⟩
 have hbx:=(hb2.block _ (zAs HBX1.out)).trans HBX1.out
 have HB2:=zh (HB1.out.trans (hb2.mono HB1.out.size))
 have HR2:=zh (HR1.out.grow hb2)
 have HBX2:=zh hbx
 have y0:w2.cell? ⟨w.heap.size,0,none⟩=some (vs (bs kd)):=zB hbx rfl
 have y1:w2.cell? ⟨w.heap.size,1,none⟩=some (vi id):=zB hbx rfl
 have y2:w2.cell? ⟨w.heap.size,2,none⟩=some (vi an):=zB hbx rfl
 have HRST:Hid (MSt w ρ G M (zC r) w2):=⟨ρ,L,HR2.out,Step.still (Fr.of_below HB2.out)⟩
 have HAT:=zh (zLW HR2.out id an (by have:=HM.out;have:=HNN.out;omega))
 clear hf hb2 hbx HRQ x1
 go_wp2_with fail
 refine HAT.out.mono ?_
 rintro e w3 ⟨u,rfl,hf,hb3⟩
 have hbx3:=(hb3.block _ (zAs HBX2.out)).trans HBX2.out
 have HB3:=zh (HB2.out.trans (hb3.mono HB2.out.size))
 have HR3:=zh (HR2.out.grow hb3)
 have HBX3:=zh hbx3
 have x1:w3.cell? ⟨w.heap.size,1,none⟩=some (vi id):=zB hbx3 rfl
 clear y0 y1 y2 hb3 hbx3 HRST
 have HRST:Hid (MSt w ρ G M (zC r) w3):=⟨ρ,L,HR3.out,Step.still (Fr.of_below HB3.out)⟩
 rcases hf with ⟨i,y,rfl,hiy,⟨hy1,hy2⟩,_⟩ | ⟨rfl,hno⟩
 ·obtain ⟨a,hai,rfl⟩:=zDp hiy
  obtain ⟨q,hq',_⟩:=HI.out.a.areq a (List.mem_of_getElem? hai)
  obtain ⟨aa,ac,hva,har⟩:=HR3.out.attsIn
  have c7:w3.cell? ⟨M,7,none⟩=some L.atts:=HR3.out.cell (k:=7) rfl
  obtain ⟨na,hna⟩:∃na,(zC r).atts.length=na:=⟨_,rfl⟩
  rw [hva,hna] at c7
  obtain ⟨ab,aoff,rfl,_,_,a2a,_,_⟩:=zAD har hiy
  have a2:w3.cell? ⟨ab,aoff+i*5+2,none⟩=some (vi a.conn):=a2a
  have hil:=(List.getElem?_eq_some_iff.1 hiy).1
  have hi0:(0:Int)≤(i:Int):=by omega
  have hi1:(i:Int) < (na:Int):=by omega
  have hge:decide ((i:Int)≥0)=true:=decide_eq_true hi0
  have HRA:=zh (zMs HI.out (c:=c) hai hy1 hy2)
  have HAI:=zh hai
  have HIY:=zh hiy
  have hy1':a.id=id:=hy1
  rw [hy1'] at hq'
  have HQ:=zh hq'
  by_cases hcc:a.conn=c
  ·have hbq:(a.conn==c)=true:=by rw [hcc];simp
   have HE:Hid (zQ r c ⟨kd,id,an,ten,txt⟩=zZ (rEnd r a) id true):=show _=_ by rw [zIt HKD.out];simp only [];rw [HRA.out,if_pos hcc]
   have HEN:=zh (zDf HR3.out (i:=i) (x:=zV a) hiy HI.out.mok.2.1 (by show (r.conns.map yt).length≤_;rw [List.length_map];have:=HNN.out;omega) (by have h5:=HM.out;have:=HNN.out;omega) (by have h5:=HM.out;have:=HNN.out;omega))
   have hen:mEnd (zC r) i (zV a).conn=zC (rEnd r a):=zDq HI.out (a:=a) hai
   rw [hen] at HEN
   have HNB:Hid (¬Of ρ w.heap.size):=fun hb=>absurd (HH.out.dom _ hb).2 (Nat.lt_irrefl _)
   clear a2a hva har hna hil hai hiy hy1 hy2 hcc hy1' hq' hen
   go_wp2_with fail
   refine HEN.out.mono ?_
   rintro e w5 ⟨rfl,hst5⟩
   obtain ⟨ρ5,L5,k1,k2⟩:=hst5
   have hb5:=(zCl k2 HBX3.out HNB.out).1
   have x5:w5.cell? ⟨w.heap.size,1,none⟩=some (vi id):=zB hb5 rfl
   have HAG:=zh (zIs (HI.out.end (List.mem_of_getElem? HAI.out)) k1 (id:=id) (q:=q) (by rw [zBJ];exact HQ.out) true (by have:=HNN.out;omega) (by have:=HNN.out;omega) (by rw [zBp];have:=HNN.out;omega))
   have HK2:=zh k2
   clear k1 k2 hb5 x1 c7 a2
   go_wp2_with fail
   refine HAG.out.mono ?_
   rintro e w6 ⟨rfl,hst6⟩
   have HFIN:Hid (MSt w ρ G M (zC (zZ (rEnd r a) id true)) w6):=by
    obtain ⟨ρ6,L6,p1,p2⟩:=hst6
    exact ⟨ρ6,L6,p1,((Step.still (Fr.of_below HB3.out)).trans HK2.out).trans p2⟩
   clear hst6
   go_wp2_with fail
   go_end0
   refine ⟨rfl,?_⟩
   rw [HE.out]
   exact HFIN.out
  ·have hbq:(a.conn==c)=false:=beq_eq_false_iff_ne.2 hcc
   have hbq2:decide (a.conn=c)=false:=decide_eq_false hcc
   have HE:Hid (zQ r c ⟨kd,id,an,ten,txt⟩=r):=show _=_ by rw [zIt HKD.out];simp only [];rw [HRA.out,if_neg hcc]
   clear a2a hva har hna hil hai hiy hy1 hy2 hcc hy1' hq'
   go_wp2_with fail
   go_end0
   refine ⟨rfl,?_⟩
   rw [HE.out]
   exact HRST.out
 ·have HE:Hid (zQ r c ⟨kd,id,an,ten,txt⟩=r):=show _=_ by rw [zIt HKD.out];simp only [];rw [zMt hno]
  clear hno
  go_wp2_with fail
  go_end0
  refine ⟨rfl,?_⟩
  rw [HE.out]
  exact HRST.out
end
theorem zWI:zDs kL:=fun hI h c x hx hk hc hN hP hC=>by
 unfold kL at hk
 simp only [Bool.or_eq_true,beq_iff_eq] at hk
 rcases hk with (e | e) | e
 ·exact zVb hI h c hx e hc hN hP hC
 ·exact zWE hI h c hx e hc hN hP hC
 ·exact zWH hI h c hx e hc hN hP hC
section
variable {w w' w1 w2 w3 wr:World} {ρ:Nat→Role} {G M:Nat} {L:MLay} {m:RefM}
def zBH (w:World) (l:List Int) (c:Int) (k:Nat) (va:Option Addr) (ln vc:Nat) (wr:World):Prop:=
 ∃E:Nat→Prop,(∀b,E b→w.heap.size≤b)∧Fr E w wr∧SlAt wr 3 1 E (.slice va ln vc) ln ((zD (l.take k) c).map encI)∧ln=(zD (l.take k) c).length
theorem zBH.put {l:List Int} {c y:Int} {k ln vc ln2 vc2:Nat} {va va2:Option Addr} (h:zBH w l c k va ln vc wr) (hk:l[k]?=some y) (hy:y≠c) {o:Obj} {E E0:Nat→Prop} (h0:∀b,E0 b→w.heap.size≤b) (he:∀b,E b→E0 b∨b=(wr.alloc o).heap.size) (hf:Fr E (wr.alloc o) w3)
 (hln:ln2=ln+1) (hs:SlAt w3 3 1 E (.slice va2 ln2 vc2) ln2 ((zD (l.take k) c).map encI++[vi y])):zBH w l c (k+1) va2 ln2 vc2 w3:=by
 obtain ⟨E1,h1,h2,h3,h4⟩:=h
 have e:zD (l.take (k+1)) c=zD (l.take k) c++[y]:=by rw [zGb hk,if_neg hy]
 have hE:∀b,E b→w.heap.size≤b:=fun b hb=>by
  rcases he b hb with h | h
  ·exact h0 b h
  ·rw [World.size_alloc] at h;have:=h2.size;omega
 refine ⟨fun b=>E1 b∨E b,fun b hb=>hb.elim (h1 b) (hE b),?_,?_,?_⟩
 ·exact Fr.trans (h2.mono (fun x hx=>.inl (.inl hx))) (Fr.trans (S':=E) ((Fr.refl _ wr).alloc o) (hf.mono (fun x hx=>.inl hx)) (fun x hx=>.inl hx)) (fun x hx=>.inl (.inr hx))
 ·rw [e,List.map_append]
  exact hs.of_blk (fun _ _ _=>rfl) (fun b hb _=>.inr hb)
 ·rw [e,List.length_append,←h4];exact hln
theorem zBH.skip {l:List Int} {c:Int} {k ln vc:Nat} {va:Option Addr} (h:zBH w l c k va ln vc wr) (hk:l[k]?=some c):zBH w l c (k+1) va ln vc wr:=by
 have e:zD (l.take (k+1)) c=zD (l.take k) c:=by rw [zGb hk,if_pos rfl,List.append_nil]
 unfold zBH
 rw [e]
 exact h
theorem zBH.cell {l:List Int} {c:Int} {k ln vc:Nat} {va:Option Addr} (h:zBH w l c k va ln vc wr) {a:Addr} {v:Value} (hc:w.cell? a=some v):wr.cell? a=some v:=by
 obtain ⟨E,h1,h2,_⟩:=h
 rw [←hc]
 exact World.cell?_of_block (h2.block _ (zW hc) (fun he=>by have:=h1 _ he;have:=zW hc;omega))
theorem zBH.done {c:Int} {ln vc:Nat} {va:Option Addr} (hm:MRep w ρ G M L m) (h:zBH w m.waiting c m.waiting.length va ln vc wr) :
 wr.heap[M]?=some (.cells (yS L m.cfg m.now) 179 (0,0))∧MSt w ρ G M {m with waiting:=zD m.waiting c} (wr.setCell ⟨M,9,none⟩ (.slice va ln vc)):=by
 obtain ⟨E,h1,h2,h3,h4⟩:=h
 rw [List.take_length] at h3 h4
 have hEM:¬E M:=fun hb=>by have:=h1 M hb;have:=hm.size;omega
 have hM:=(h2.block M hm.size.2 hEM).trans hm.mod.2
 refine ⟨hM,?_⟩
 obtain ⟨ρ',k1,k2⟩:=hm.put_waitingE (w':=wr.setCell ⟨M,9,none⟩ (.slice va ln vc)) (own:=E) (S:=fun b=>b=M∨E b) (v:=.slice va ln vc) (l:=zD m.waiting c) (fun b hb=>.inr (h1 b hb)) (zM wr hM) (by
  rw [h4] at h3 ⊢
  exact h3.of_blk (fun b hb _=>zJ wr (fun e=>hEM (by have e:b=M:=e;rw [←e];exact hb))) (fun _ hb _=>hb)) ((h2.mono (fun x hx=>.inl (.inr hx))).setCell _ _ (.inl (.inl rfl))) (fun b hb=>hb.imp id (fun h=>.inr (h1 b h)))
 exact ⟨ρ',_,k1,k2⟩
theorem zNl (h:MRep w ρ G M L m) (c:Int) (hn:m.waiting.length≤1000000000000) :
 Calls Tryz.prog 127 #[vp M,vi c] w fun e w'=>e=.returned (.tuple #[])∧MSt w ρ G M {m with waiting:=zD m.waiting c} w':=by
 obtain ⟨a,cap,hv,hww⟩:=zDa h.waiting
 have cL:w.cell? ⟨M,9,none⟩=some L.waiting:=h.cell (k:=9) rfl
 rw [hv] at cL
 have HWW:=zh hww
 obtain ⟨n,hnn⟩:∃n,m.waiting.length=n:=⟨_,rfl⟩
 have HN:=zh hnn
 rw [hnn] at cL hn
 have HH:=zh h
 clear h hv hww hnn
 go_enter Tryz.func127,Tryz.ntmps127
 go_wp2_with fail
 go_loopw [4,6,12] (fun s4 _ s12 wr=>∃(k ln vc:Nat) (va:Option Addr),s12=.int .i64 k∧s4=.slice va ln vc∧k≤n∧ln≤k∧Hid (zBH w m.waiting c k va ln vc wr)) (fun _ _ s12 _=>n - (intOf s12).toNat)
 case atStart=>exact ⟨0,0,0,none,by go_num,rfl,Nat.zero_le _,Nat.le_refl _,⟨fun _=>False,fun _ f=>f.elim,Fr.refl _ _,SlAt.nil,rfl⟩⟩
 case round =>
  obtain ⟨k,ln,vc,va,rfl,rfl,hk,hlk,HI⟩:=hrel
  by_cases hkl:k < n
  ·have hlt:decide ((k:Int) < (n:Int))=true:=decide_eq_true (by omega)
   obtain ⟨y,hy⟩:∃y,m.waiting[k]?=some y:=⟨_,List.getElem?_eq_getElem (by rw [HN.out];exact hkl)⟩
   obtain ⟨wb,woff,hae,cy0⟩:=HWW.out k y hy
   subst hae
   have cy:=HI.out.cell cy0
   have hk0:(0:Int)≤(k:Int):=by omega
   have hk1:(k:Int) < (n:Int):=by omega
   have HY:=zh hy
   clear hy cy0
   by_cases hyc:y=c
   ·subst hyc
    have hq:(y != y)=false:=by simp
    have HNX:=zh (HI.out.skip HY.out)
    go_wp2_with fail
    go_roundw
    case rel=>exact ⟨k+1,ln,vc,va,by go_num,rfl,by omega,by omega,HNX.out⟩
    case measure=>simp [intOf];omega
   ·have hq:(y != c)=true:=bne_iff_ne.2 hyc
    have hq2:decide (y=c)=false:=decide_eq_false hyc
    have hq3:(y==c)=false:=beq_eq_false_iff_ne.2 hyc
    obtain ⟨E0,hE1,hE2,hE3,hE4⟩:=HI.out
    have HSA:Hid (SlAt (wr.alloc (.cells #[vi y] 3)) 3 1 E0 (.slice va ln vc) ln ((zD (m.waiting.take k) c).map encI)):=hE3.of_blk (fun b _ hl=>zP wr hl) (fun _ h _=>h)
    have HNW:Hid (SlAt (wr.alloc (.cells #[vi y] 3)) 3 1 (fun b=>b=wr.heap.size) (.slice (some ⟨wr.heap.size,0,none⟩) 1 1) 1 [vi y]):=(zIZ wr y).of_blk (fun _ _ _=>rfl) (fun _ h _=>h)
    have HE1:=zh hE1
    clear hE1 hE2 hE3 hE4
    go_wp2_with (at_builtin;refine zAK rfl _ _ _ rfl zBC rfl HSA.out rfl HNW.out (by simp [Value.oneCell']) (by unfold maxLen;omega) (by omega) ?_;intro va2 vc2 w3 E he hf hl hs;have HNX:=zh (HI.out.put HY.out hyc HE1.out he hf rfl hs);clear he hf hl hs)
    go_roundw
    case rel=>exact ⟨k+1,ln+1,vc2,va2,by go_num,rfl,by omega,by omega,HNX.out⟩
    case measure=>simp [intOf];omega
  ·obtain rfl:k=n:=by omega
   have hlt:decide ((k:Int) < (k:Int))=false:=by simp
   obtain ⟨k1,k2⟩:=zBH.done HH.out (by rw [HN.out];exact HI.out)
   have c9:∃v,wr.cell? ⟨M,9,none⟩=some v:=⟨_,zB k1 rfl⟩
   obtain ⟨v9,c9⟩:=c9
   have f9:wr.frozen? ⟨M,9,none⟩=false:=zI k1
   have HFIN:=zh k2
   clear k1 k2 HI
   go_wp2_with fail
   go_end0
   exact ⟨rfl,HFIN.out⟩
end
section
variable {w w' w1 w2 w3 wr:World} {ρ:Nat→Role} {G M:Nat} {L:MLay} {m:RefM}
theorem zWJ {r:Raw} {c:Int} {m:Msg} (hk:m.kind=xj):zQ r c m=zAb r c:=by unfold zQ;rw [hk];rfl
theorem zWK {r:Raw} {c:Int} (hc:zd r c=true) {x:Cn} (hx:aget r.conns c=some x):zAb r c=rBye {r with conns:=aset r.conns c {x with drains:=true},waiting:=zD r.waiting c} c:=by
 unfold zAb
 rw [zDH hc]
 simp only []
 rw [hx]
theorem zWL {N P:Nat} {r:Raw} (hI:Inv N P r) (h:MRep w ρ G M L (zC r)) (c:Int) {x:Msg} (hx:xF x) (hk:x.kind=xj) (hc:zd r c=true) (hN:N≤1000000000) (hP:P≤1000000000) (hC:r.conns.length≤1000000000) :
 Calls Tryz.prog 155 #[vp M,vi c,.agg (zE x)] w fun e w'=>e=.returned (.tuple #[])∧MSt w ρ G M (zC (zQ r c x)) w':=by
 have HFG:=zh (fun (y:Int) (hy:0≤y∧y < 1000000000000) W=>zBO (x:=y) hy.1 hy.2 W)
 have hidr:0≤x.id∧x.id < 1000000000000:=by have:=hx.id;omega
 have HI:=zh hI
 have HH:=zh h
 have HC:=zh hc
 have HNN:=zh (And.intro hN (And.intro hP hC))
 have HM:=zh hI.mok
 obtain ⟨kd,id,an,ten,txt⟩:=x
 simp only [zE]
 simp only at hidr hk
 have ht:(bs kd).toList=[100,114,97,105,110]:=by rw [hk];exact yp _
 have HKD:=zh hk
 have HBX:Hid ((w.alloc (.cells #[vs (bs kd),vi id,vi an,vs (bs ten),vs (bs txt)] 151)).heap[w.heap.size]?=some (.cells #[vs (bs kd),vi id,vi an,vs (bs ten),vs (bs txt)] 151 (0,0))):=zL w
 have HBW:Hid (Below w.heap.size w (w.alloc (.cells #[vs (bs kd),vi id,vi an,vs (bs ten),vs (bs txt)] 151))):=(Below.refl _ w).alloc (Nat.le_refl _) _
 clear h hI hx hN hP hC hk hc
 go_enter Tryz.func155,Tryz.ntmps155
 go_wp2_with fail
 refine (HFG.out _ hidr _).mono ?_
 rintro e w1 ⟨rfl,hb1⟩
 rw [World.size_alloc] at hb1
 have hbx:=(hb1.block _ (Nat.lt_succ_self _)).trans HBX.out
 have HB1:=zh (HBW.out.trans (hb1.mono (Nat.le_succ _)))
 have hr1:=HH.out.grow HB1.out
 have x1:w1.cell? ⟨w.heap.size,1,none⟩=some (vi id):=zB hbx rfl
 have HBX1:=zh hbx
 have HR1:=zh hr1
 have HRQ:=zh (zCO hr1 id (by have:=HM.out;have:=HNN.out;omega))
 clear hb1 hbx hr1 HBX HBW
 go_wp2_with fail
 refine HRQ.out.mono ?_
 rintro e w2 ⟨v,rfl,hf,hb2⟩
 have hbx:=(hb2.block _ (zAs HBX1.out)).trans HBX1.out
 have HB2:=zh (HB1.out.trans (hb2.mono HB1.out.size))
 have HR2:=zh (HR1.out.grow hb2)
 have HBX2:=zh hbx
 have y0:w2.cell? ⟨w.heap.size,0,none⟩=some (vs (bs kd)):=zB hbx rfl
 have y1:w2.cell? ⟨w.heap.size,1,none⟩=some (vi id):=zB hbx rfl
 have y2:w2.cell? ⟨w.heap.size,2,none⟩=some (vi an):=zB hbx rfl
 have HRST:Hid (MSt w ρ G M (zC r) w2):=⟨ρ,L,HR2.out,Step.still (Fr.of_below HB2.out)⟩
 have HE:Hid (zQ r c ⟨kd,id,an,ten,txt⟩=zAb r c):=show _=_ from zWJ HKD.out
 have HCN:=zh (zFz HR2.out c (by show (r.conns.map yt).length≤_;rw [List.length_map];have:=HNN.out;omega))
 unfold zCL at HCN
 have hmc:zp (zC r) c=zC r:=by rw [zBk,zDH HC.out]
 simp only [hmc] at HCN
 clear hf hb2 hbx HRQ x1 hmc
 go_wp2_with fail
 refine HCN.out.mono ?_
 rintro e w3 ⟨ρ3,L3,cb,coff,ccap,k3,rfl,p1,p2,p3,p4,⟨y,p5,p6⟩,p7⟩
 obtain ⟨cd,fd⟩:=zNc p1 p3 p5
 obtain ⟨z,hz,hyz⟩:∃z,r.conns[k3]?=some (c,z)∧y=yt (c,z):=by
  have h5:(r.conns.map yt)[k3]?=some y:=p5
  rw [List.getElem?_map] at h5
  obtain ⟨⟨c',z⟩,h6,rfl⟩:=Option.map_eq_some_iff.1 h5
  have h7:c'=c:=p6
  subst h7
  exact ⟨z,h6,rfl⟩
 have hag:=zCI HI.out.q.kcn hz
 have HDI:=zh (zWK HC.out hag)
 obtain ⟨r4,hr4⟩:∃x:Raw,{r with conns:=aset r.conns c {z with drains:=true}}=x:=⟨_,rfl⟩
 have hI4:Inv N P r4:=by rw [←hr4];exact HI.out.conns (yi HI.out.q.kcn _ _)
 obtain ⟨ρ4,q1,q2,fz⟩:=zSO p1 p3 p5 (j:=2) (by decide) (v:=.bool true) (x':={y with drains:=true}) rfl
 have e4:zC r4={zC r with conns:=(zC r).conns.set k3 {y with drains:=true}}:=by
  have h5:=zMo HI.out.q.kcn hz {z with drains:=true}
  rw [←hr4,hyz]
  show ({zC r with conns:=(aset r.conns c {z with drains:=true}).map yt}:RefM)=_
  rw [h5]
  rfl
 rw [←e4] at q1
 have HID:=zh (zNl q1 c (by have:=hI4.mok.2.2.2.2.2.2.2;have:=HNN.out;omega))
 have HST:Hid (Step ρ ρ4 w (w3.setCell ⟨cb,coff+k3*4+2,none⟩ (.bool true))):=((Step.still (Fr.of_below HB2.out)).trans p2).trans q2
 have HI5:Hid (Inv N P {r4 with waiting:=zD r4.waiting c}):=hI4.idle c
 have HW5:Hid ({zC r4 with waiting:=zD (zC r4).waiting c}=zC {r4 with waiting:=zD r4.waiting c}):=rfl
 have HR4:=zh hr4
 have HCL:Hid (({r4 with waiting:=zD r4.waiting c}:Raw).conns.length≤1000000000):=show _≤_ by rw [←hr4];show (aset r.conns c _).length≤_;rw [zDK hag];have:=HNN.out;omega
 rw [HW5.out] at HID
 have fd':w3.frozen? ⟨cb,coff+k3*4+2,none⟩=false:=fz
 clear p1 p2 p3 p4 p5 p6 p7 hz hyz hag hr4 hI4 q1 q2 fz e4 fd
 go_wp2_with fail
 refine HID.out.mono ?_
 rintro e w5 ⟨rfl,hst5⟩
 obtain ⟨ρ5,L5,g1,g2⟩:=hst5
 have HBY:=zh (zIC g1 c HI5.out.mok.2.1 (by show (List.map yt _).length≤_;rw [List.length_map];exact Nat.le_trans HCL.out (by decide)) (by have:=HI5.out.mok;have:=HNN.out;omega) (by have:=HI5.out.mok;have:=HNN.out;omega))
 rw [zMp HI5.out.q.kcn c] at HBY
 have HG2:=zh g2
 clear g1 g2
 go_wp2_with fail
 refine HBY.out.mono ?_
 rintro e w6 ⟨rfl,hst6⟩
 have HFIN:=zh (MStA.ofStep (HST.out.trans HG2.out) hst6)
 clear hst6
 go_wp2_with fail
 go_end0
 refine ⟨rfl,?_⟩
 rw [HE.out,HDI.out]
 have h4:=HR4.out
 subst h4
 exact HFIN.out
end
end Go.Proofs.YtaejfobbogahmaaGreatDoor
