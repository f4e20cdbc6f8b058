/-
  RefG MMsgB MAgain MMsgF MsgL: texts of their own, joined.
-/
import Derived.Test.YtaejfobbogahmaaGreatDoorMkMLeft
import Derived.Test.YtaejfobbogahmaaGreatDoorMkMMsg
import Derived.Test.YtaejfobbogahmaaGreatDoorMkFedE
import Derived.Test.YtaejfobbogahmaaGreatDoorMkMIn
import Derived.Test.YtaejfobbogahmaaGreatDoorMkMShut
import Derived.Test.YtaejfobbogahmaaGreatDoorMkPlayG
import Derived.Test.YtaejfobbogahmaaGreatDoorMkStepG
set_option maxRecDepth 100000
set_option maxHeartbeats 16000000
set_option linter.all false
namespace Go.Proofs.YtaejfobbogahmaaGreatDoor
open Go
def beat1 (r:Raw) (c:Int) (a:Att):Att:=if a.conn=c then {a with till:=r.now+r.cfg.lease} else a
def zBn (r:Raw) (c:Int) (k:Nat):Raw:={r with atts:=(r.atts.take k).map (beat1 r c)++r.atts.drop k}
theorem zVY (r:Raw) (c:Int):zBn r c 0=r:=by simp [zBn]
theorem zRG (r:Raw) (c:Int):zBn r c r.atts.length=rBeat r c:=by
 unfold zBn rBeat
 rw [List.take_length,List.drop_length,List.append_nil]
 rfl
theorem zNd {r:Raw} (c:Int) {k:Nat} {a:Att} (h:r.atts[k]?=some a):(zBn r c k).atts[k]?=some a:=by
 have hk:=(List.getElem?_eq_some_iff.1 h).1
 show ((r.atts.take k).map (beat1 r c)++r.atts.drop k)[k]?=_
 rw [List.getElem?_append_right (by simp;omega),List.getElem?_drop]
 simp only [List.length_map,List.length_take]
 rw [show k+(k - min k r.atts.length)=k by omega,h]
theorem zRH (r:Raw) (c:Int) (k:Nat):(zBn r c k).atts.length=r.atts.length:=by
 simp [zBn];omega
theorem zJo {r:Raw} {c:Int} {k:Nat} {a:Att} (h:r.atts[k]?=some a):(zBn r c (k+1)).atts=(zBn r c k).atts.set k (beat1 r c a):=by
 obtain ⟨hk,e⟩:=List.getElem?_eq_some_iff.1 h
 show (r.atts.take (k+1)).map (beat1 r c)++r.atts.drop (k+1)=((r.atts.take k).map (beat1 r c)++r.atts.drop k).set k (beat1 r c a)
 rw [List.set_append_right _ _ (by simp;omega),List.take_add_one,h,List.map_append]
 rw [show k - ((r.atts.take k).map (beat1 r c)).length=0 by simp;omega,List.drop_eq_getElem_cons hk,e,List.set_cons_zero]
 simp
theorem zTj {r:Raw} {c:Int} {k:Nat} {a:Att} (h:r.atts[k]?=some a) (hc:a.conn≠c):zBn r c (k+1)=zBn r c k:=by
 have h1:=zJo (c:=c) h
 have h2:beat1 r c a=a:=if_neg hc
 rw [h2] at h1
 have h3:(zBn r c k).atts.set k a=(zBn r c k).atts:=by
  apply List.ext_getElem?
  intro j
  rw [List.getElem?_set]
  split
  ·rename_i e;subst e
   rw [if_pos (by rw [zRH];exact (List.getElem?_eq_some_iff.1 h).1),zNd c h]
  ·rfl
 rw [h3] at h1
 show ({r with atts:=(zBn r c (k+1)).atts}:Raw)={r with atts:=(zBn r c k).atts}
 rw [h1]
theorem zRI {r:Raw} {c:Int} {k:Nat} {a:Att} (h:r.atts[k]?=some a) (hc:a.conn=c):refOf (zBn r c (k+1))={refOf (zBn r c k) with atts:=(refOf (zBn r c k)).atts.set k {zBE a with till:=r.now+r.cfg.lease}}:=by
 have h1:=zJo (c:=c) h
 have h2:beat1 r c a={a with till:=r.now+r.cfg.lease}:=if_pos hc
 rw [h2] at h1
 have e1:(refOf (zBn r c (k+1))).atts=(refOf (zBn r c k)).atts.set k {zBE a with till:=r.now+r.cfg.lease}:=by
  show (zBn r c (k+1)).atts.map zBE=_
  rw [h1,List.map_set]
  rfl
 have e2:refOf (zBn r c (k+1))={refOf (zBn r c k) with atts:=(refOf (zBn r c (k+1))).atts}:=rfl
 rw [e2,e1]
def zJp (m:RefM) (id:Int):Bool:=m.ring.any fun p=>p.2.contains id
theorem zNe {N P:Nat} {r:Raw} (hI:Inv N P r) {id:Int} {q:Req} (hq:aget r.reqs id=some q):zJp (refOf r) id=q.queued:=by
 rw [Bool.eq_iff_iff]
 unfold zJp
 rw [List.any_eq_true]
 constructor
 ·rintro ⟨p,hp,hc⟩
  obtain ⟨h1,h2⟩:=zLW hp
  rw [List.contains_iff_mem,h2] at hc
  obtain ⟨q',h3,_,h4⟩:=hI.q.qreq p.1 id hc
  rw [hq] at h3;cases h3
  exact h4
 ·intro h
  have h1:=hI.q.reqq id q hq h
  have h2:q.tenant∈r.ring:=(hI.q.rqu _).2 (List.ne_nil_of_mem h1)
  exact ⟨(q.tenant,qOf r q.tenant),List.mem_map_of_mem (f:=fun t=>(t,qOf r t)) h2,List.contains_iff_mem.2 h1⟩
theorem zNf (r:Raw) (id:Int):(refOf r).atts.countP (fun q=>decide (q.id=id))=(rOf r id).length:=by
 show (r.atts.map zBE).countP _=_
 rw [List.countP_map,List.countP_eq_length_filter]
 rfl
theorem zRJ {N P:Nat} {r:Raw} (hI:Inv N P r) {id:Int} {q:Req} {k:Nat} (hk:r.reqs[k]?=some (id,q)):refOf (rLeft r id)={refOf r with reqs:=(refOf r).reqs.set k {zAl (id,q) with left:=q.left - 1}}:=by
 have hq:=zCR hI.q.kreq hk
 have h1:rLeft r id={r with reqs:=aset r.reqs id {q with left:=q.left - 1}}:=by unfold rLeft;rw [hq]
 rw [h1]
 have:=zIY hI.q.kreq hk {q with left:=q.left - 1}
 show ({refOf r with reqs:=(aset r.reqs id {q with left:=q.left - 1}).map zAl}:RefM)=_
 rw [this]
 rfl
theorem zKo {r:Raw} {id:Int} {q:Req} (hq:aget r.reqs id=some q) (b:Bool) (h:q.queued=true∨(rOf r id).length≠0):zAw r id b=r:=by
 unfold zAw
 rw [hq]
 simp only []
 rw [if_pos]
 rcases h with h | h
 ·rw [h];rfl
 ·cases h2:rOf r id with
  | nil=>rw [h2] at h;exact absurd rfl h
  | cons a l=>simp
theorem zVZ {r:Raw} {id:Int} {q:Req} (hq:aget r.reqs id=some q) (b:Bool) (h:q.queued=false) (h2:(rOf r id).length=0):zAw r id b=if b then (if q.left=0 then rShut (rSay r q.conn [wErr,decI id]) id else zAz (rLeft r id) id true) else zAz r id true:=by
 unfold zAw
 rw [hq]
 simp only []
 rw [if_neg]
 rw [h,List.eq_nil_of_length_eq_zero h2]
 simp
open Go Go.RowKit
section
variable {w w' w1 w2 w3 wr:World} {ρ:Nat→Role} {G M:Nat} {L:MLay} {m:RefM}
theorem zWi {r:Raw} {c:Int} {m:Msg} (hk:m.kind=kBeat):zAQ r c m=rBeat r c:=by unfold zAQ;rw [hk];rfl
theorem zTk {N P:Nat} {r:Raw} (hI:Inv N P r) (h:MRep w ρ G M L (refOf r)) (c:Int) {x:Msg} (hx:MsgOk x) (hk:x.kind=kBeat) (hc:zAh r c=true) (hN:N≤1000000000) (hP:P≤1000000000) (hC:r.conns.length≤1000000000) :
 Calls Tryz.prog 155 #[vp M,vi c,.agg (zAF x)] w fun e w'=>e=.returned (.tuple #[])∧MSt w ρ G M (refOf (zAQ r c x)) w':=by
 have HFG:=Lib.hid (fun (y:Int) (hy:0≤y∧y < 1000000000000) W=>zBq (x:=y) hy.1 hy.2 W)
 have hidr:0≤x.id∧x.id < 1000000000000:=by have:=hx.id;omega
 have HI:=Lib.hid hI
 have HH:=Lib.hid h
 have HC:=Lib.hid hc
 have HNN:=Lib.hid (And.intro hN (And.intro hP hC))
 have HM:=Lib.hid hI.mok
 obtain ⟨kd,id,an,ten,txt⟩:=x
 simp only [zAF]
 simp only at hidr hk
 have ht:(bs kd).toList=[98,101,97,116]:=by rw [hk];exact zAm _
 have HKD:=Lib.hid hk
 have HBX:Hid ((w.alloc (.cells #[vs (bs kd),vi id,vi an,vs (bs ten),vs (bs txt)] 151)).heap[w.heap.size]?=some (.cells #[vs (bs kd),vi id,vi an,vs (bs ten),vs (bs txt)] 151 (0,0))):=zAD w
 have HBW:Hid (Below w.heap.size w (w.alloc (.cells #[vs (bs kd),vi id,vi an,vs (bs ten),vs (bs txt)] 151))):=(Below.refl _ w).alloc (Nat.le_refl _) _
 clear h hI hx hN hP hC hk hc
 go_enter Tryz.func155,Tryz.ntmps155
 go_wp2_with fail
 refine (HFG.out _ hidr _).mono ?_
 rintro e w1 ⟨rfl,hb1⟩
 rw [World.size_alloc] at hb1
 have hbx:=(hb1.block _ (Nat.lt_succ_self _)).trans HBX.out
 have HB1:=Lib.hid (HBW.out.trans (hb1.mono (Nat.le_succ _)))
 have hr1:=HH.out.grow HB1.out
 have x1:w1.cell? ⟨w.heap.size,1,none⟩=some (vi id):=zAA hbx rfl
 have HBX1:=Lib.hid hbx
 have HR1:=Lib.hid hr1
 have HRQ:=Lib.hid (zCX hr1 id (by have:=HM.out;have:=HNN.out;omega))
 clear hb1 hbx hr1 HBX HBW
 go_wp2_with fail
 refine HRQ.out.mono ?_
 rintro e w2 ⟨v,rfl,hf,hb2⟩
 have hbx:=(hb2.block _ (zCq HBX1.out)).trans HBX1.out
 have HB2:=Lib.hid (HB1.out.trans (hb2.mono HB1.out.size))
 have HR2:=Lib.hid (HR1.out.grow hb2)
 have HBX2:=Lib.hid hbx
 have y0:w2.cell? ⟨w.heap.size,0,none⟩=some (vs (bs kd)):=zAA hbx rfl
 have y1:w2.cell? ⟨w.heap.size,1,none⟩=some (vi id):=zAA hbx rfl
 have y2:w2.cell? ⟨w.heap.size,2,none⟩=some (vi an):=zAA hbx rfl
 have HRST:Hid (MSt w ρ G M (refOf r) w2):=⟨ρ,L,HR2.out,Step.still (Fr.of_below HB2.out)⟩
 have HE:Hid (zAQ r c ⟨kd,id,an,ten,txt⟩=rBeat r c):=show _=_ from zWi HKD.out
 obtain ⟨aa,ac,hva,_⟩:=HR2.out.attsIn
 have c7:w2.cell? ⟨M,7,none⟩=some L.atts:=HR2.out.cell (k:=7) rfl
 obtain ⟨n,hnn⟩:∃n,(refOf r).atts.length=n:=⟨_,rfl⟩
 rw [hnn] at hva
 rw [hva] at c7
 have HVA:=Lib.hid hva
 have HN:Hid (r.atts.length=n):=show _=_ by rw [←hnn];show _=(r.atts.map zBE).length;rw [List.length_map]
 obtain ⟨nw,hnw⟩:∃x,r.now=x:=⟨_,rfl⟩
 obtain ⟨ls,hls⟩:∃x,r.cfg.lease=x:=⟨_,rfl⟩
 have hb0:=HI.out.n.now
 have hb1':=zCT HI.out.n.cfg
 rw [hnw] at hb0
 rw [hls] at hb1'
 have hwl:IntKind.i64.wrap (nw+ls)=nw+ls:=IntWalk.i64_in _ (by have:=HNN.out;omega)
 have HNW:=Lib.hid hnw
 have HLS:=Lib.hid hls
 have hnb:n≤1000000000:=by have h5:=HM.out.2.2.2.2.2.1;rw [hnn] at h5;have:=HNN.out;omega
 clear hf hb2 hbx HRQ x1 hnn hnw hls hb0 hb1' hva
 go_wp2_with fail
 go_loopw [11,105] (fun _ s105 wr=>∃k:Nat,s105=.int .i64 k∧k≤n∧Hid (∃ρk,MRep wr ρk G M L (refOf (zBn r c k))∧Step ρ ρk w wr)) (fun _ s105 _=>n - (intOf s105).toNat)
 case atStart=>exact ⟨0,by go_num,Nat.zero_le _,ρ,by rw [zVY];exact HR2.out,Step.still (Fr.of_below HB2.out)⟩
 case round =>
  obtain ⟨k,rfl,hk,HK⟩:=hrel
  by_cases hkl:k < n
  ·have hlt:decide ((k:Int) < (n:Int))=true:=decide_eq_true (by omega)
   obtain ⟨a,ha⟩:∃a,r.atts[k]?=some a:=⟨_,List.getElem?_eq_getElem (by rw [HN.out];exact hkl)⟩
   obtain ⟨ρk,hk1,hk2⟩:=HK.out
   have hak:(refOf (zBn r c k)).atts[k]?=some (zBE a):=zEi (zNd c ha)
   obtain ⟨ab,aoff,hae,i0,i1,i2,i3,i4⟩:=zBd (zFc hk1 HVA.out) hak
   subst hae
   have c7k:wr.cell? ⟨M,7,none⟩=some L.atts:=hk1.cell (k:=7) rfl
   rw [HVA.out] at c7k
   have c5k:wr.cell? ⟨M,5,none⟩=some (vi r.now):=hk1.cell (k:=5) rfl
   have c0k:wr.cell? ⟨M,0,none⟩=some (vi r.cfg.lease):=hk1.cell (k:=0) rfl
   rw [HNW.out] at c5k
   rw [HLS.out] at c0k
   have a2:wr.cell? ⟨ab,aoff+k*5+2,none⟩=some (vi a.conn):=i2
   clear i0 i1 i2 i3
   obtain ⟨y,hy⟩:∃y,a.conn=y:=⟨_,rfl⟩
   rw [hy] at a2
   have hk0:(0:Int)≤(k:Int):=by omega
   have hk3:(k:Int) < (n:Int):=by omega
   by_cases hyc:y=c
   ·have hq:(y==c)=true:=by rw [hyc];simp
    have hq2:decide (y=c)=true:=decide_eq_true hyc
    obtain ⟨ρ',q1,q2,fz⟩:=zVG hk1.drew HVA.out hak (j:=4) (by decide) (v:=vi (nw+ls)) (x':={zBE a with till:=nw+ls}) rfl
    have HNXT:Hid (∃ρk,MRep (wr.drew.setCell ⟨ab,aoff+k*5+4,none⟩ (vi (nw+ls))) ρk G M L (refOf (zBn r c (k+1)))∧Step ρ ρk w (wr.drew.setCell ⟨ab,aoff+k*5+4,none⟩ (vi (nw+ls)))):=⟨ρ',by rw [zRI ha (hy.trans hyc),HNW.out,HLS.out];exact q1,hk2.drew.trans q2⟩
    have fz':wr.frozen? ⟨ab,aoff+k*5+4,none⟩=false:=fz
    have s7:(wr.setCell ⟨ab,aoff+k*5+4,none⟩ (vi (nw+ls))).drew.cell? ⟨M,7,none⟩=some (.slice (some ⟨ab,aoff,none⟩) n ac):=by rw [←HVA.out];exact q1.cell (k:=7) rfl
    have s5:(wr.setCell ⟨ab,aoff+k*5+4,none⟩ (vi (nw+ls))).drew.cell? ⟨M,5,none⟩=some (vi nw):=(q1.cell (k:=5) rfl).trans (show some (vi r.now)=_ by rw [HNW.out])
    have s0:(wr.setCell ⟨ab,aoff+k*5+4,none⟩ (vi (nw+ls))).drew.cell? ⟨M,0,none⟩=some (vi ls):=(q1.cell (k:=0) rfl).trans (show some (vi r.cfg.lease)=_ by rw [HLS.out])
    clear ha hk1 hk2 hak hy q1 q2 fz HK
    go_wp2_with fail
    go_region_held3 (fun w'=>w'.cell? ⟨M,7,none⟩=some (.slice (some ⟨ab,aoff,none⟩) n ac)∧w'.cell? ⟨M,5,none⟩=some (vi nw)∧w'.cell? ⟨M,0,none⟩=some (vi ls)) (go_keep) (fail)
    all_goals
     go_wp2_with fail
     go_roundw
     case rel=>exact ⟨k+1,by go_num,by omega,HNXT.out⟩
     case measure=>simp [intOf];omega
   ·have hq:(y==c)=false:=beq_eq_false_iff_ne.2 hyc
    have hq2:decide (y=c)=false:=decide_eq_false hyc
    have HNXT:Hid (∃ρk,MRep wr ρk G M L (refOf (zBn r c (k+1)))∧Step ρ ρk w wr):=⟨ρk,by rw [zTj ha (fun e=>hyc (hy.symm.trans e))];exact hk1,hk2⟩
    clear ha hk1 hk2 hak hy HK
    go_wp2_with fail
    go_roundw
    case rel=>exact ⟨k+1,by go_num,by omega,HNXT.out⟩
    case measure=>simp [intOf];omega
  ·obtain rfl:k=n:=by omega
   have hlt:decide ((k:Int) < (k:Int))=false:=by simp
   have HFIN:Hid (MSt w ρ G M (refOf (rBeat r c)) wr):=by
    obtain ⟨ρk,k1,k2⟩:=HK.out
    rw [←HN.out,zRG] at k1
    exact ⟨ρk,L,k1,k2⟩
   clear HK
   go_wp2_with fail
   go_end0
   refine ⟨rfl,?_⟩
   rw [HE.out]
   exact HFIN.out
end
section
variable {w w' w1 w2 w3 wr:World} {ρ:Nat→Role} {G M:Nat} {L:MLay} {m:RefM}
theorem zEj {a:Addr} {v:Value} {o:Obj} (h:w.cell? a=some v):(w.alloc o).cell? a=some v:=(World.cell?_alloc_lt _ _ _ (zAX h)).trans h
theorem zVa {l:List (ByteArray×List Int)} {id:Int} {k:Nat} {p:ByteArray×List Int} (hn:∀(j:Nat) p,j < k→l[j]?=some p→id∉p.2) (hk:l[k]?=some p) (hp:id∉p.2):∀(j:Nat) p,j < k+1→l[j]?=some p→id∉p.2:=fun j b hj hb=>by
 by_cases e:j=k
 ·subst e;rw [hk] at hb;cases hb;exact hp
 ·exact hn j b (by omega) hb
theorem zIG (h:MRep w ρ G M L m) (id:Int) (hrn:m.ring.length≤1000000000000) (hin:∀p∈m.ring,p.2.length≤1000000000000) :
 Calls Tryz.prog 123 #[vp M,vi id] w fun e w'=>e=.returned (.bool (zJp m id))∧Below w.heap.size w w':=by
 obtain ⟨a,cap,hv,hr⟩:=h.ringIn
 have cL:w.cell? ⟨M,8,none⟩=some L.ring:=h.cell (k:=8) rfl
 rw [hv] at cL
 have HR:=Lib.hid hr
 have HH:=Lib.hid h
 have HIN:=Lib.hid hin
 obtain ⟨n,hnn⟩:∃n,m.ring.length=n:=⟨_,rfl⟩
 have HN:=Lib.hid hnn
 rw [hnn] at cL hrn
 clear h hv hr hnn hin
 go_enter Tryz.func123,Tryz.ntmps123
 go_wp2_with fail
 go_loopw [6,8,14] (fun _ _ s14 wr=>∃k:Nat,s14=.int .i64 k∧k≤n∧Hid (Below w.heap.size w wr∧∀(j:Nat) p,j < k→m.ring[j]?=some p→id∉p.2)) (fun _ _ s14 _=>n - (intOf s14).toNat)
 case atStart=>exact ⟨0,by go_num,Nat.zero_le _,Below.refl _ _,fun j p hj=>by omega⟩
 case round =>
  obtain ⟨k,rfl,hk,HI⟩:=hrel
  obtain ⟨wo,rfl⟩:∃wo,wo=wr:=⟨_,rfl⟩
  by_cases hkl:k < n
  ·have hlt:decide ((k:Int) < (n:Int))=true:=decide_eq_true (by omega)
   obtain ⟨⟨t,x⟩,hkq⟩:∃q,m.ring[k]?=some q:=⟨_,List.getElem?_eq_getElem (by rw [HN.out];exact hkl)⟩
   obtain ⟨b,off,hae,c0,c1⟩:=zDW (HR.out.below HI.out.1) hkq
   subst hae
   obtain ⟨ia,ic,hiv,hix⟩:=zNR ((HH.out.grow HI.out.1).ids t x (List.mem_of_getElem? hkq))
   simp only [] at c0 c1
   rw [hiv] at c1
   have hk0:(0:Int)≤(k:Int):=by omega
   have hk1:(k:Int) < (n:Int):=by omega
   have HKQ:=Lib.hid hkq
   have HIX:=Lib.hid hix
   obtain ⟨xl,hxl⟩:∃xl,x.length=xl:=⟨_,rfl⟩
   have hxb:xl≤1000000000000:=by rw [←hxl];exact HIN.out _ (List.mem_of_getElem? hkq)
   rw [hxl] at c1
   have HXL:=Lib.hid hxl
   have HBA:=Lib.hid (HI.out.1.alloc HI.out.1.size (.cells #[vs t,.slice ia xl ic] 191))
   clear hkq hiv hxl hix
   go_wp2_with fail
   go_loop [8,21] (fun _ s21=>∃j:Nat,s21=.int .i64 j∧j≤xl∧Hid (∀(i:Nat) y,i < j→x[i]?=some y→y≠id)) (fun _ s21=>xl - (intOf s21).toNat)
   case atStart=>exact ⟨0,by go_num,Nat.zero_le _,fun i y hi=>by omega⟩
   case round =>
    obtain ⟨j,rfl,hj,HJ⟩:=hrel
    by_cases hjl:j < xl
    ·have hlt2:decide ((j:Int) < (xl:Int))=true:=decide_eq_true (by omega)
     obtain ⟨y,hy⟩:∃y,x[j]?=some y:=⟨_,List.getElem?_eq_getElem (by rw [HXL.out];exact hjl)⟩
     obtain ⟨ib,ioff,hie,cj0⟩:=HIX.out j y hy
     subst hie
     have cj:=zEj (o:=.cells #[vs t,.slice (some ⟨ib,ioff,none⟩) xl ic] 191) cj0
     have hj0:(0:Int)≤(j:Int):=by omega
     have hj1:(j:Int) < (xl:Int):=by omega
     have HY:=Lib.hid hy
     by_cases hyi:y=id
     ·have hq:(y==id)=true:=by rw [hyi];simp
      have hq2:decide (y=id)=true:=decide_eq_true hyi
      have HW:Hid (zJp m id=true):=show _=_ by
       unfold zJp
       rw [List.any_eq_true]
       exact ⟨(t,x),List.mem_of_getElem? HKQ.out,List.contains_iff_mem.2 (by rw [←hyi];exact List.mem_of_getElem? hy)⟩
      clear hy
      go_wp2_with fail
      go_ret
      exact ⟨by rw [HW.out];rfl,HBA.out⟩
     ·have hq:(y==id)=false:=beq_eq_false_iff_ne.2 hyi
      have hq2:decide (y=id)=false:=decide_eq_false hyi
      have HNN:Hid (∀(i:Nat) z,i < j+1→x[i]?=some z→z≠id):=zDp (p:=fun z=>z=id) HJ.out hy hyi
      clear hy
      go_wp2_with fail
      go_round
      case rel=>exact ⟨j+1,by go_num,by omega,HNN.out⟩
      case measure=>simp [intOf];omega
    ·obtain rfl:j=xl:=by omega
     have hlt2:decide ((j:Int) < (j:Int))=false:=by simp
     have HNN:Hid (∀(i:Nat) p,i < k+1→m.ring[i]?=some p→id∉p.2):=zVa HI.out.2 HKQ.out (fun hm=>by
      obtain ⟨i,hi,e⟩:=List.getElem_of_mem hm
      exact HJ.out i id (by rw [←HXL.out];exact hi) (by rw [List.getElem?_eq_getElem hi,e]) rfl)
     go_wp2_with fail
     go_roundw
     case rel=>exact ⟨k+1,by go_num,by omega,HBA.out,HNN.out⟩
     case measure=>simp [intOf];omega
  ·obtain rfl:k=n:=by omega
   have hlt:decide ((k:Int) < (k:Int))=false:=by simp
   have HW:Hid (zJp m id=false):=show _=_ by
    unfold zJp
    rw [List.any_eq_false]
    intro p hp
    obtain ⟨j,hj,rfl⟩:=List.getElem_of_mem hp
    have:=HI.out.2 j _ (by rw [←HN.out];exact hj) (List.getElem?_eq_getElem hj)
    rw [List.contains_iff_mem]
    exact this
   go_wp2_with fail
   go_ret
   exact ⟨by rw [HW.out];rfl,HI.out.1⟩
theorem zQE {m':RefM} (h:MStO w1 ρ G M L m' w') (hb:Below w.heap.size w w1):MStO w ρ G M L m' w':=by
 obtain ⟨ρ',v,h1,h2⟩:=h
 exact ⟨ρ',v,h1,(Step.still (Fr.of_below hb)).trans h2⟩
theorem zWj (a:Int):(⟨#[101,114,114,32]⟩:ByteArray)++bs (decI a)=bs (words [wErr,decI a]):=by
 apply ByteArray.ext
 simp [bs,words,wErr]
theorem zNg {LB:MLay} {mB:RefM} (h:MRep w ρ G M LB mB) {b off n cap k:Nat} {x:MReq} (hv:LB.reqs=.slice (some ⟨b,off,none⟩) n cap) (hk:mB.reqs[k]?=some x) :
 w.cell? ⟨M,6,none⟩=some (.slice (some ⟨b,off,none⟩) n cap)∧w.cell? ⟨b,off+k*7+1,none⟩=some (vi x.conn)∧w.cell? ⟨b,off+k*7+5,none⟩=some (vi x.left)∧w.cell? ⟨b,off+k*7+6,none⟩=some (.bool x.hedged):=by
 obtain ⟨b',off',hae,_,q1,_,_,_,q5,q6⟩:=zBc (zCM h hv) hk
 injection hae with hae
 injection hae with e1 e2
 subst e1;subst e2
 have c6:w.cell? ⟨M,6,none⟩=some LB.reqs:=h.cell (k:=6) rfl
 rw [hv] at c6
 exact ⟨c6,q1,q5,q6⟩
theorem zIH {N P:Nat} {r:Raw} (hI:Inv N P r) (h:MRep w ρ G M L (refOf r)) {id:Int} {q:Req} (hq:aget r.reqs id=some q) (b:Bool) (hN:N≤10000000000) (hP:P≤10000000000) (hC:r.conns.length≤10000000000) :
 Calls Tryz.prog 121 #[vp M,vi id,.bool b] w fun e w'=>e=.returned (.tuple #[])∧MSt w ρ G M (refOf (zAw r id b)) w':=by
 have hidb:=hI.n.req id q hq
 have hidr:0≤id∧id < 1000000000000:=by omega
 have hm:=hI.mok
 have HFG:=Lib.hid (fun W=>zBq (x:=id) hidr.1 hidr.2 W)
 have HWT:=Lib.hid (zIG h id (by omega) (fun p hp=>by have:=hm.2.2.2.2.1 p hp;omega))
 rw [zNe hI hq] at HWT
 have HCT:=Lib.hid (fun W (hb:Below w.heap.size w W)=>zIC (h.grow hb) id (by omega))
 simp only [zNf] at HCT
 obtain ⟨k,hk⟩:=zDq hq
 have hkm:(refOf r).reqs[k]?=some (zAl (id,q)):=by show (r.reqs.map zAl)[k]?=_;rw [List.getElem?_map,hk];rfl
 have HKQ:=Lib.hid hk
 have HKM:=Lib.hid hkm
 have HI:=Lib.hid hI
 have HH:=Lib.hid h
 have HQ:=Lib.hid hq
 have HM:=Lib.hid hm
 have HB:Hid (N≤10000000000∧P≤10000000000∧r.conns.length≤10000000000):=⟨hN,hP,hC⟩
 obtain ⟨qd,hqd⟩:∃qd,q.queued=qd:=⟨_,rfl⟩
 obtain ⟨ct,hct⟩:∃ct,(rOf r id).length=ct:=⟨_,rfl⟩
 rw [hqd] at HWT
 rw [hct] at HCT
 have HQD:=Lib.hid hqd
 have HCN:=Lib.hid hct
 have hctb:ct≤10000000000:=by
  rw [←hct]
  have h1:(rOf r id).length≤r.atts.length:=List.length_filter_le _ _
  have:=hI.n.pot
  omega
 clear hI h hq hm hk hkm hqd hct hN hP hC hidb
 go_enter Tryz.func121,Tryz.ntmps121
 go_wp2_with fail
 refine HWT.out.mono ?_
 rintro e w1 ⟨rfl,hb1⟩
 have HB1:=Lib.hid hb1
 clear hb1
 cases qd with
 | true =>
   have HE:Hid (zAw r id b=r):=show _=_ from zKo HQ.out b (.inl HQD.out)
   go_wp2_with fail
   refine bodyPost_ret (results_none rfl _ _ _) rfl ?_
   refine ⟨rfl,?_⟩
   rw [HE.out]
   exact ⟨ρ,L,HH.out.grow HB1.out,Step.still (Fr.of_below HB1.out)⟩
 | false =>
   go_wp2_with fail
   refine (HCT.out _ HB1.out).mono ?_
   rintro e w2 ⟨rfl,hb2⟩
   have HB2:=Lib.hid (HB1.out.trans (hb2.mono HB1.out.size))
   have HR2:=Lib.hid (HH.out.grow HB2.out)
   clear hb2 HCT HWT
   by_cases hc0:ct=0
   ·have hgt:decide ((ct:Int) > 0)=false:=decide_eq_false (by omega)
    have HE:=Lib.hid (zVZ HQ.out b HQD.out (HCN.out.trans hc0))
    have HRA:=Lib.hid (zHc HR2.out (k:=k) HM.out.1 HKM.out (by have:=HM.out;have:=HB.out;omega))
    go_wp2_with fail
    refine HRA.out.mono ?_
    rintro e w3 ⟨rfl,hb3⟩
    have HB3:=Lib.hid (HB2.out.trans (hb3.mono HB2.out.size))
    have HR3:=Lib.hid (HH.out.grow HB3.out)
    obtain ⟨qa,qc,hvq,_⟩:=HR3.out.reqsIn
    obtain ⟨qn,hqn⟩:∃qn,(refOf r).reqs.length=qn:=⟨_,rfl⟩
    rw [hqn] at hvq
    obtain ⟨qb,qoff,_,_,_,hae⟩:∃qb qoff,∃_:Unit,∃_:Unit,∃_:Unit,qa=some ⟨qb,qoff,none⟩:=by
     obtain ⟨b',off',hae,_⟩:=zBc (zCM HR3.out hvq) HKM.out
     exact ⟨b',off',(),(),(),hae⟩
    subst hae
    obtain ⟨c6,q1a,q5a,q6a⟩:=zNg HR3.out hvq HKM.out
    have q1:w3.cell? ⟨qb,qoff+k*7+1,none⟩=some (vi q.conn):=q1a
    have q5:w3.cell? ⟨qb,qoff+k*7+5,none⟩=some (vi q.left):=q5a
    have hkl:=(List.getElem?_eq_some_iff.1 HKM.out).1
    have hk0:(0:Int)≤(k:Int):=by omega
    have hk1:(k:Int) < (qn:Int):=by omega
    have HVQ:=Lib.hid hvq
    have HST3:Hid (Step ρ ρ w w3):=Step.still (Fr.of_below HB3.out)
    clear hb3 HRA hqn hkl q1a q5a q6a hvq
    cases b with
    | true =>
      by_cases hl0:q.left=0
      ·have hql:(q.left==0)=true:=by rw [hl0];rfl
       have HE2:Hid (zAw r id true=rShut (rSay r q.conn [wErr,decI id]) id):=show _=_ by rw [HE.out,if_pos rfl,if_pos hl0]
       obtain ⟨d1,e1⟩:∃d1,(⟨#[101,114,114,32]⟩:ByteArray)++bs (decI id)=d1:=⟨_,rfl⟩
       have hstr:d1=bs (words [wErr,decI id]):=by rw [←e1];exact zWj id
       have hza:=zCh id
       have z1:¬9223372036854775807 < 4+(bs (decI id)).size:=by omega
       have HS:=Lib.hid (fun W (hW:MRep W ρ G M L (refOf r))=>zEg hW q.conn (words [wErr,decI id]) (zEN _ _ (by decide)) (by have:=HM.out;have:=HB.out;omega))
       rw [←hstr] at HS
       clear hstr hza hl0
       obtain ⟨cn,hcn⟩:∃cn,q.conn=cn:=⟨_,rfl⟩
       rw [hcn] at q1 HS
       have HCNN:=Lib.hid hcn
       clear hcn
       go_wp2_with fail
       apply zEA (S:=fun W=>MStO w3 ρ G M L (mSay (refOf r) cn (words [wErr,decI id])) W)
       ·intro R hR
        go_region_held3 (fun w'=>w'.cell? ⟨M,6,none⟩=some (.slice (some ⟨qb,qoff,none⟩) qn qc)∧w'.cell? ⟨qb,qoff+k*7+1,none⟩=some (vi cn)) (go_keep) (first
         | (go_at_call 119;refine (HFG.out _).mono ?_;rintro e wa ⟨rfl,hb⟩;have HBA:Hid (Below w3.heap.size w3 wa):=(by first | exact zBI hb | exact zNL hb);have c6b:=(HBA.out.cell (zAX c6)).trans c6;have q1b:=(HBA.out.cell (zAX q1)).trans q1;clear hb)
         | (go_at_call 118;refine (HS.out _ (HR3.out.grow HBA.out)).mono ?_;rintro e w4 ⟨rfl,hst⟩;obtain ⟨c6d,q1e⟩:=zQC hst HVQ.out HKM.out;have q1d:w4.cell? ⟨qb,qoff+k*7+1,none⟩=some (vi cn):=q1e.trans (show some (vi q.conn)=_ by rw [HCNN.out]);clear q1e;have HST:=Lib.hid (zQE hst HBA.out);clear hst))
        all_goals exact hR.out _ HST.out
       intro w4 hst4
       obtain ⟨ρ4,v4,g1,g2⟩:=hst4
       have hI4:=HI.out.say cn [wErr,decI id]
       have HSH:=Lib.hid (zGF hI4 (show MRep w4 ρ4 G M _ (refOf (rSay r cn [wErr,decI id])) from g1) (id:=id) (q:=q) HQ.out (by have:=HB.out;omega) (by have:=HB.out;omega) (by show r.conns.length≤_;have:=HB.out;omega))
       have HG2:=Lib.hid g2
       clear g1 g2 hI4 c6 q1 q5 e1 z1
       go_wp2_with fail
       refine HSH.out.mono ?_
       rintro e w5 ⟨rfl,hst5⟩
       have HFIN:Hid (MSt w ρ G M (refOf (rShut (rSay r cn [wErr,decI id]) id)) w5):=by
        obtain ⟨ρ5,L5,p1,p2⟩:=hst5
        exact ⟨ρ5,L5,p1,(HST3.out.trans HG2.out).trans p2⟩
       clear hst5
       go_wp2_with fail
       refine bodyPost_ret (results_none rfl _ _ _) rfl ?_
       refine ⟨rfl,?_⟩
       rw [HE2.out,HCNN.out]
       exact HFIN.out
      ·have hql:(q.left==0)=false:=beq_eq_false_iff_ne.2 hl0
       have hql2:decide (q.left=0)=false:=decide_eq_false hl0
       have HE2:Hid (zAw r id true=zAz (rLeft r id) id true):=show _=_ by rw [HE.out,if_pos rfl,if_neg hl0]
       have hlb:=HI.out.n.req id q HQ.out
       have hws:IntKind.i64.wrap (q.left - 1)=q.left - 1:=IntWalk.i64_in _ (by omega)
       obtain ⟨ρ',p1,p2,fz⟩:=zPu HR3.out HVQ.out HKM.out (j:=5) (by decide) (v:=vi (q.left - 1)) (x':={zAl (id,q) with left:=q.left - 1}) rfl
       have hI4:Inv N P (rLeft r id):=by
        have:=HI.out.left HQ.out hl0
        unfold rLeft;rw [HQ.out];exact this
       have hq4:aget (rLeft r id).reqs id=some {q with left:=q.left - 1}:=by
        unfold rLeft;rw [HQ.out]
        show aget (aset r.reqs id _) id=_
        rw [zAS,if_pos rfl]
       have e4:=zRJ HI.out HKQ.out
       have p1:MRep (w3.setCell ⟨qb,qoff+k*7+5,none⟩ (vi (q.left - 1))) ρ' G M L (refOf (rLeft r id)):=by rw [e4];exact p1
       have hkl2:=(List.getElem?_eq_some_iff.1 HKM.out).1
       have hk4:(refOf (rLeft r id)).reqs[k]?=some {zAl (id,q) with left:=q.left - 1}:=by
        rw [e4]
        show ((refOf r).reqs.set k _)[k]?=_
        rw [List.getElem?_set,if_pos rfl,if_pos hkl2]
       have hm4:=hI4.mok
       have HWA:=Lib.hid (zEh p1 true (kq:=k) (q:={zAl (id,q) with left:=q.left - 1}) hm4.1 hk4 (by have:=HB.out;omega) (by have:=HB.out;omega) (fun p hp=>by have:=hm4.2.2.2.2.1 p hp;have:=HB.out;omega))
       have HEQ:Hid (refOf (zAz (rLeft r id) id true)=mWait (refOf (rLeft r id)) q.tenant id true):=zEc hI4 hq4 true
       have HS4:Hid (Step ρ ρ' w (w3.setCell ⟨qb,qoff+k*7+5,none⟩ (vi (q.left - 1)))):=HST3.out.trans p2
       have fz':w3.frozen? ⟨qb,qoff+k*7+5,none⟩=false:=fz
       obtain ⟨lf,hlf⟩:∃lf,q.left=lf:=⟨_,rfl⟩
       rw [hlf] at q5 hws hql hql2
       simp only [hlf] at HWA HS4
       clear hlb p1 p2 hI4 hq4 e4 hk4 hm4 fz hlf hkl2 hl0
       go_wp2_with fail
       refine HWA.out.mono ?_
       rintro e w5 ⟨rfl,hst5⟩
       have HFIN:Hid (MSt w ρ G M (refOf (zAz (rLeft r id) id true)) w5):=by
        show MSt _ _ _ _ _ _
        rw [HEQ.out]
        exact MStA.ofStep HS4.out hst5
       clear hst5
       go_wp2_with fail
       go_end0
       refine ⟨rfl,?_⟩
       rw [HE2.out]
       exact HFIN.out
    | false =>
      have HE2:Hid (zAw r id false=zAz r id true):=show _=_ by rw [HE.out,if_neg (by simp)]
      have HWA:=Lib.hid (zEh HR3.out true (kq:=k) (q:=zAl (id,q)) HM.out.1 HKM.out (by have:=HM.out;have:=HB.out;omega) (by have:=HM.out;have:=HB.out;omega) (fun p hp=>by have:=HM.out.2.2.2.2.1 p hp;have:=HB.out;omega))
      have HEQ:Hid (refOf (zAz r id true)=mWait (refOf r) q.tenant id true):=zEc HI.out HQ.out true
      clear q1 q5
      go_wp2_with fail
      refine HWA.out.mono ?_
      rintro e w5 ⟨rfl,hst5⟩
      have HFIN:Hid (MSt w ρ G M (refOf (zAz r id true)) w5):=by
       show MSt _ _ _ _ _ _
       rw [HEQ.out]
       exact MStA.ofStep HST3.out hst5
      clear hst5
      go_wp2_with fail
      go_end0
      refine ⟨rfl,?_⟩
      rw [HE2.out]
      exact HFIN.out
   ·have hgt:decide ((ct:Int) > 0)=true:=decide_eq_true (by omega)
    have HE:Hid (zAw r id b=r):=show _=_ from zKo HQ.out b (.inr (by rw [HCN.out];exact hc0))
    go_wp2_with fail
    refine bodyPost_ret (results_none rfl _ _ _) rfl ?_
    refine ⟨rfl,?_⟩
    rw [HE.out]
    exact ⟨ρ,L,HR2.out,Step.still (Fr.of_below HB2.out)⟩
end
section
variable {w w' w1 w2 w3 wr:World} {ρ:Nat→Role} {G M:Nat} {L:MLay} {m:RefM}
theorem zOy {r:Raw} {c:Int} {m:Msg} (hk:m.kind=kFail):zAQ r c m=match rAtt r m.id m.att c with
 | some a=>zAw (rEnd r a) m.id true
 | none=>r:=by unfold zAQ;rw [hk];rfl
theorem zTl {N P:Nat} {r:Raw} (hI:Inv N P r) (h:MRep w ρ G M L (refOf r)) (c:Int) {x:Msg} (hx:MsgOk x) (hk:x.kind=kFail) (hc:zAh r c=true) (hN:N≤1000000000) (hP:P≤1000000000) (hC:r.conns.length≤1000000000) :
 Calls Tryz.prog 155 #[vp M,vi c,.agg (zAF x)] w fun e w'=>e=.returned (.tuple #[])∧MSt w ρ G M (refOf (zAQ r c x)) w':=by
 have HFG:=Lib.hid (fun (y:Int) (hy:0≤y∧y < 1000000000000) W=>zBq (x:=y) hy.1 hy.2 W)
 have hidr:0≤x.id∧x.id < 1000000000000:=by have:=hx.id;omega
 have HI:=Lib.hid hI
 have HH:=Lib.hid h
 have HC:=Lib.hid hc
 have HNN:=Lib.hid (And.intro hN (And.intro hP hC))
 have HM:=Lib.hid hI.mok
 obtain ⟨kd,id,an,ten,txt⟩:=x
 simp only [zAF]
 simp only at hidr hk
 have ht:(bs kd).toList=[102,97,105,108]:=by rw [hk];exact zAm _
 have HKD:=Lib.hid hk
 have HBX:Hid ((w.alloc (.cells #[vs (bs kd),vi id,vi an,vs (bs ten),vs (bs txt)] 151)).heap[w.heap.size]?=some (.cells #[vs (bs kd),vi id,vi an,vs (bs ten),vs (bs txt)] 151 (0,0))):=zAD w
 have HBW:Hid (Below w.heap.size w (w.alloc (.cells #[vs (bs kd),vi id,vi an,vs (bs ten),vs (bs txt)] 151))):=(Below.refl _ w).alloc (Nat.le_refl _) _
 clear h hI hx hN hP hC hk hc
 go_enter Tryz.func155,Tryz.ntmps155
 go_wp2_with fail
 refine (HFG.out _ hidr _).mono ?_
 rintro e w1 ⟨rfl,hb1⟩
 rw [World.size_alloc] at hb1
 have hbx:=(hb1.block _ (Nat.lt_succ_self _)).trans HBX.out
 have HB1:=Lib.hid (HBW.out.trans (hb1.mono (Nat.le_succ _)))
 have hr1:=HH.out.grow HB1.out
 have x1:w1.cell? ⟨w.heap.size,1,none⟩=some (vi id):=zAA hbx rfl
 have HBX1:=Lib.hid hbx
 have HR1:=Lib.hid hr1
 have HRQ:=Lib.hid (zCX hr1 id (by have:=HM.out;have:=HNN.out;omega))
 clear hb1 hbx hr1 HBX HBW
 go_wp2_with fail
 refine HRQ.out.mono ?_
 rintro e w2 ⟨v,rfl,hf,hb2⟩
 have hbx:=(hb2.block _ (zCq HBX1.out)).trans HBX1.out
 have HB2:=Lib.hid (HB1.out.trans (hb2.mono HB1.out.size))
 have HR2:=Lib.hid (HR1.out.grow hb2)
 have HBX2:=Lib.hid hbx
 have y0:w2.cell? ⟨w.heap.size,0,none⟩=some (vs (bs kd)):=zAA hbx rfl
 have y1:w2.cell? ⟨w.heap.size,1,none⟩=some (vi id):=zAA hbx rfl
 have y2:w2.cell? ⟨w.heap.size,2,none⟩=some (vi an):=zAA hbx rfl
 have HRST:Hid (MSt w ρ G M (refOf r) w2):=⟨ρ,L,HR2.out,Step.still (Fr.of_below HB2.out)⟩
 have HAT:=Lib.hid (zKf HR2.out id an (by have:=HM.out;have:=HNN.out;omega))
 clear hf hb2 hbx HRQ x1
 go_wp2_with fail
 refine HAT.out.mono ?_
 rintro e w3 ⟨u,rfl,hf,hb3⟩
 have hbx3:=(hb3.block _ (zCq HBX2.out)).trans HBX2.out
 have HB3:=Lib.hid (HB2.out.trans (hb3.mono HB2.out.size))
 have HR3:=Lib.hid (HR2.out.grow hb3)
 have HBX3:=Lib.hid hbx3
 have x1:w3.cell? ⟨w.heap.size,1,none⟩=some (vi id):=zAA hbx3 rfl
 clear y0 y1 y2 hb3 hbx3 HRST
 have HRST:Hid (MSt w ρ G M (refOf r) w3):=⟨ρ,L,HR3.out,Step.still (Fr.of_below HB3.out)⟩
 rcases hf with ⟨i,y,rfl,hiy,⟨hy1,hy2⟩,_⟩ | ⟨rfl,hno⟩
 ·obtain ⟨a,hai,rfl⟩:=zGy hiy
  obtain ⟨q,hq',_⟩:=HI.out.a.areq a (List.mem_of_getElem? hai)
  obtain ⟨aa,ac,hva,har⟩:=HR3.out.attsIn
  have c7:w3.cell? ⟨M,7,none⟩=some L.atts:=HR3.out.cell (k:=7) rfl
  obtain ⟨na,hna⟩:∃na,(refOf r).atts.length=na:=⟨_,rfl⟩
  rw [hva,hna] at c7
  obtain ⟨ab,aoff,rfl,_,_,a2a,_,_⟩:=zBd har hiy
  have a2:w3.cell? ⟨ab,aoff+i*5+2,none⟩=some (vi a.conn):=a2a
  have hil:=(List.getElem?_eq_some_iff.1 hiy).1
  have hi0:(0:Int)≤(i:Int):=by omega
  have hi1:(i:Int) < (na:Int):=by omega
  have hge:decide ((i:Int)≥0)=true:=decide_eq_true hi0
  have HRA:=Lib.hid (zKk HI.out (c:=c) hai hy1 hy2)
  have HAI:=Lib.hid hai
  have HIY:=Lib.hid hiy
  have hy1':a.id=id:=hy1
  rw [hy1'] at hq'
  have HQ:=Lib.hid hq'
  by_cases hcc:a.conn=c
  ·have hbq:(a.conn==c)=true:=by rw [hcc];simp
   have HE:Hid (zAQ r c ⟨kd,id,an,ten,txt⟩=zAw (rEnd r a) id true):=show _=_ by rw [zOy HKD.out];simp only [];rw [HRA.out,if_pos hcc]
   have HEN:=Lib.hid (zFe HR3.out (i:=i) (x:=zBE a) hiy HI.out.mok.2.1 (by show (r.conns.map mcnOf).length≤_;rw [List.length_map];have:=HNN.out;omega) (by have h5:=HM.out;have:=HNN.out;omega) (by have h5:=HM.out;have:=HNN.out;omega))
   have hen:mEnd (refOf r) i (zBE a).conn=refOf (rEnd r a):=zGz HI.out (a:=a) hai
   rw [hen] at HEN
   have HNB:Hid (¬Of ρ w.heap.size):=fun hb=>absurd (HH.out.dom _ hb).2 (Nat.lt_irrefl _)
   clear a2a hva har hna hil hai hiy hy1 hy2 hcc hy1' hq' hen
   go_wp2_with fail
   refine HEN.out.mono ?_
   rintro e w5 ⟨rfl,hst5⟩
   obtain ⟨ρ5,L5,k1,k2⟩:=hst5
   have hb5:=(zDt k2 HBX3.out HNB.out).1
   have x5:w5.cell? ⟨w.heap.size,1,none⟩=some (vi id):=zAA hb5 rfl
   have HAG:=Lib.hid (zIH (HI.out.end (List.mem_of_getElem? HAI.out)) k1 (id:=id) (q:=q) (by rw [zDX];exact HQ.out) true (by have:=HNN.out;omega) (by have:=HNN.out;omega) (by rw [zEM];have:=HNN.out;omega))
   have HK2:=Lib.hid k2
   clear k1 k2 hb5 x1 c7 a2
   go_wp2_with fail
   refine HAG.out.mono ?_
   rintro e w6 ⟨rfl,hst6⟩
   have HFIN:Hid (MSt w ρ G M (refOf (zAw (rEnd r a) id true)) w6):=by
    obtain ⟨ρ6,L6,p1,p2⟩:=hst6
    exact ⟨ρ6,L6,p1,((Step.still (Fr.of_below HB3.out)).trans HK2.out).trans p2⟩
   clear hst6
   go_wp2_with fail
   go_end0
   refine ⟨rfl,?_⟩
   rw [HE.out]
   exact HFIN.out
  ·have hbq:(a.conn==c)=false:=beq_eq_false_iff_ne.2 hcc
   have hbq2:decide (a.conn=c)=false:=decide_eq_false hcc
   have HE:Hid (zAQ r c ⟨kd,id,an,ten,txt⟩=r):=show _=_ by rw [zOy HKD.out];simp only [];rw [HRA.out,if_neg hcc]
   clear a2a hva har hna hil hai hiy hy1 hy2 hcc hy1' hq'
   go_wp2_with fail
   go_end0
   refine ⟨rfl,?_⟩
   rw [HE.out]
   exact HRST.out
 ·have HE:Hid (zAQ r c ⟨kd,id,an,ten,txt⟩=r):=show _=_ by rw [zOy HKD.out];simp only [];rw [zTK hno]
  clear hno
  go_wp2_with fail
  go_end0
  refine ⟨rfl,?_⟩
  rw [HE.out]
  exact HRST.out
end
theorem zVb:zNb kL:=fun hI h c x hx hk hc hN hP hC=>by
 unfold kL at hk
 simp only [Bool.or_eq_true,beq_iff_eq] at hk
 rcases hk with (e | e) | e
 ·exact zVS hI h c hx e hc hN hP hC
 ·exact zTk hI h c hx e hc hN hP hC
 ·exact zTl hI h c hx e hc hN hP hC
end Go.Proofs.YtaejfobbogahmaaGreatDoor
