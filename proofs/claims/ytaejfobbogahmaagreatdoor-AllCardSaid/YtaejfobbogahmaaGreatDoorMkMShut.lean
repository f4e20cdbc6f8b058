/-
  MShut MRuns But MSubmit: texts of their own, joined.
-/
import Derived.Test.YtaejfobbogahmaaGreatDoorMkMLeft
import Derived.OrdersHeld
import Derived.Deep.RegionHeld
set_option maxRecDepth 100000
set_option maxHeartbeats 16000000
set_option linter.all false
namespace Go.Proofs.YtaejfobbogahmaaGreatDoor
open Go Go.RowKit
section
variable {w w' w1 w2 w3 wr:World} {ρ:Nat→Role} {G M:Nat} {L:MLay} {m:RefM}
theorem zBO {x:Int} (h0:0≤x) (h1:x < 1000000000000) (w:World):Calls Tryz.prog 119 #[vi x] w fun e w'=>e=.returned (vs (bs (decI x)))∧Below w.heap.size w w':=by
 obtain ⟨n,rfl⟩:∃n:Nat,x=n:=⟨x.toNat,by omega⟩
 have:=zUW n (by omega) w
 unfold decI
 rw [if_neg (by omega)]
 exact this
theorem zAq (x:Int):(bs (decI x)).size≤22:=by
 rw [yP]
 exact zCE x
theorem Step.still (h:Fr (fun _=>False) w w'):Step ρ ρ w w':=⟨h.mono (fun _ f=>f.elim),fun b hb=>.inl hb⟩
theorem zGd (h:MRep w ρ G M L m) {a:Option Addr} {n cap:Nat} (e:L.atts=.slice a n cap):zAW w a 5 (m.atts.map zAJ):=by
 obtain ⟨a',cap',h1,h2⟩:=h.attsIn
 rw [e] at h1
 injection h1 with e1 e2 e3
 rw [e1];exact h2
def zDr (w:World) (M:Nat):Nat:=match w.cell? ⟨M,7,none⟩ with | some (.slice _ n _)=>n | _=>0
theorem zBo (h:MRep w ρ G M L m):zDr w M=m.atts.length:=by
 obtain ⟨a,cap,e,_⟩:=h.attsIn
 have c:w.cell? ⟨M,7,none⟩=some L.atts:=h.cell (k:=7) rfl
 unfold zDr
 rw [c,e]
def zUh (w:World) (ρ:Nat→Role) (G M N P:Nat) (r T:Raw) (id:Int) (wr:World) (rk:Raw):Prop:=
 ∃ρk Lk,MRep wr ρk G M Lk (zC rk)∧Step ρ ρk w wr∧Inv N P rk∧(rk.reqs=r.reqs∧rk.conns.length=r.conns.length)∧(rOf rk id).foldl zU rk=T
theorem zEn {m':RefM} (h:MStA w ρ G M L m' w'):∃ρ' L',MRep w' ρ' G M L' m'∧Step ρ ρ' w w':=by
 obtain ⟨ρ',L',h1,h2,_⟩:=h
 exact ⟨ρ',L',h1,h2⟩
theorem zMu {a b:Int} {sa sb:ByteArray} (ha:bs (decI a)=sa) (hb:bs (decI b)=sb):(⟨#[115,116,111,112,32]⟩:ByteArray)++sa++(⟨#[32]⟩:ByteArray)++sb=bs (zN [yl,decI a,decI b]):=by
 rw [←ha,←hb]
 apply ByteArray.ext
 simp [bs,zN,yl]
theorem zMv (a b:Int):(zN [yl,decI a,decI b]).length≤1000000000:=by
 have h1:=zCE a
 have h2:=zCE b
 simp [zN,yl]
 omega
theorem zMw (h:MRep w ρ G M L m) {E1 E2:Nat→Prop} (he1:∀b,E1 b→False∨b=w.heap.size) (hf1:Fr E1 w w1) (he2:∀b,E2 b→E1 b∨b=w1.heap.size) (hf2:Fr E2 w1 w2) {v:Value} {l:List MReq} {n:Nat}
 (hn:n=l.length) (hs:SlAt w2 189 7 E2 v n (l.flatMap xp)) :
 w2.heap[M]?=some (.cells (yS L m.cfg m.now) 179 (0,0))∧∃ρ',MRep (w2.setCell ⟨M,6,none⟩ v) ρ' G M {L with reqs:=v} {m with reqs:=l}∧Step ρ ρ' w (w2.setCell ⟨M,6,none⟩ v):=by
 have r1:=h.grown he1 hf1
 have hsz:=hf1.size
 have hE2:∀b,E2 b→w.heap.size≤b:=fun b hb=>by
  rcases he2 b hb with h1 | h1
  ·rcases he1 b h1 with f | e
   ·exact f.elim
   ·omega
  ·omega
 have hEM:¬E2 M:=fun hb=>by have:=hE2 M hb;have:=h.size;omega
 have hM:w2.heap[M]?=some (.cells (yS L m.cfg m.now) 179 (0,0)):=(hf2.block M r1.size.2 hEM).trans r1.mod.2
 refine ⟨hM,?_⟩
 have hfr:Fr (fun b=>b=M∨E2 b∨E1 b) w (w2.setCell ⟨M,6,none⟩ v):=((hf1.mono (fun x hx=>.inl (.inr (.inr hx)))).trans (hf2.mono (fun x hx=>.inl (.inr (.inl hx)))) (fun x hx=>.inl hx)).setCell _ _ (.inl (.inl rfl))
 exact h.put_reqsE (own:=E2) (S:=fun b=>b=M∨E2 b∨E1 b) (fun b hb=>.inr (hE2 b hb)) (zM w2 hM) (by
  subst hn
  exact hs.of_blk (fun b hb _=>zJ w2 (fun e=>hEM (by have e:b=M:=e;rw [←e];exact hb))) (fun _ hb _=>hb)) hfr (fun b hb=>by
  rcases hb with h1 | h1 | h1
  ·exact .inl h1
  ·exact .inr (.inr (hE2 b h1))
  ·rcases he1 b h1 with f | e
   ·exact f.elim
   ·exact .inr (.inr (by omega)))
def zGe (n cap i off o2 c2 r:Nat):Prop:=r=n - (i+1)∧((cap=i+1∧o2=off∧c2=0)∨(cap≠i+1∧o2=off+(i+1)*7∧c2=cap - (i+1)))
theorem zMx (h:MRep w ρ G M L m) {E:Nat→Prop} (he:∀b,E b→False∨b=w.heap.size) (hf:Fr E w w1) {b off n cap i o2 c2 r:Nat} (hv:L.reqs=.slice (some ⟨b,off,none⟩) n cap) (hn:m.reqs.length=n) (hi:i < n)
 (ho:zGe n cap i off o2 c2 r) :
 w1.cell? ⟨M,6,none⟩=some (.slice (some ⟨b,off,none⟩) n cap)∧SlAt w1 189 7 (fun b=>ρ b=yB) (.slice (some ⟨b,o2,none⟩) r c2) r ((m.reqs.drop (i+1)).flatMap xp)∧w1.frozen? ⟨M,6,none⟩=false:=by
 have r1:=h.grown he hf
 have c:=r1.cell (k:=6) (v:=L.reqs) rfl
 rw [hv] at c
 have hat:=r1.reqs
 rw [hv,hn] at hat
 refine ⟨c,?_,r1.frozen 6⟩
 rw [←zGG (sz:=7) (fun _=>rfl)]
 obtain ⟨rfl,ho⟩:=ho
 rcases ho with ⟨h1,rfl,rfl⟩ | ⟨h1,rfl,rfl⟩
 ·exact zGI hat hi h1
 ·exact zGH hat hi
theorem zMy {l:List MReq} {n cap i off o2 c2 r:Nat} (hn:l.length=n) (hi:i < n) (ho:zGe n cap i off o2 c2 r):i+r=(l.take i++l.drop (i+1)).length:=by
 rw [List.length_append,List.length_take,List.length_drop,hn,ho.1]
 omega
theorem zUi (hb:Below (w.drewN 1).heap.size (w.drewN 1) w1):Below w.heap.size w w1:=⟨hb.os,hb.tape,hb.output,hb.size,hb.block⟩
theorem zUj {r:Raw} {c:Int} {s:zA} (h:MStA w ρ G M L (mSay (zC r) c s) w') {ab aoff n ac i:Nat} {a:Att} {nn cc:Int} (hv:L.atts=.slice (some ⟨ab,aoff,none⟩) n ac∧a.att=nn∧a.conn=cc) (hi:(zC r).atts[i]?=some (zV a)) :
 w'.cell? ⟨M,7,none⟩=some (.slice (some ⟨ab,aoff,none⟩) n ac)∧w'.cell? ⟨ab,aoff+i*5+1,none⟩=some (vi nn)∧w'.cell? ⟨ab,aoff+i*5+2,none⟩=some (vi cc):=by
 obtain ⟨ρ',L',h1,_,h3,_⟩:=h
 obtain ⟨hv,rfl,rfl⟩:=hv
 have c7:w'.cell? ⟨M,7,none⟩=some L'.atts:=h1.cell (k:=7) rfl
 rw [h3,hv] at c7
 obtain ⟨b',off',hae,a0,a1,a2,_⟩:=zAD (zGd h1 (h3.trans hv)) hi
 injection hae with e
 injection e with e1 e2
 subst e1;subst e2
 exact ⟨c7,a1,a2⟩
theorem zMz (r:Raw) (c:Int):(rBye r c).conns.length=r.conns.length:=by
 unfold rBye
 split
 ·rfl
 ·next x hx =>
  split
  ·exact zDK hx _
  ·rfl
theorem zBp (r:Raw) (a:Att):(rEnd r a).conns.length=r.conns.length:=by
 cases h:aget r.reqs a.id with
 | none=>unfold rEnd;rw [h]
 | some q =>
   rw [zDM h,zMz]
   by_cases e:zT r q.tenant - 1=0
   ·rw [zDN e]
   ·rw [zDO e]
theorem zEo (r:Raw) (a:Att):(zU r a).conns.length=r.conns.length:=(zBp _ a).trans rfl
theorem zNA {N P:Nat} {r:Raw} (hI:Inv N P r) {a:Att} (ha:a∈r.atts):0≤a.att∧a.att≤N:=by
 obtain ⟨q,hq,h1,h2⟩:=hI.a.areq a ha
 have:=hI.n.req _ q hq
 have:=hI.n.seq
 omega
theorem zGf {N P:Nat} {r:Raw} (hI:Inv N P r) (h:MRep w ρ G M L (zC r)) {id:Int} {q:Req} (hq:aget r.reqs id=some q) (hN:N≤100000000000) (hP:P≤100000000000) (hC:r.conns.length≤100000000000) :
 Calls Tryz.prog 128 #[vp M,vi id] w fun e w'=>e=.returned (.tuple #[])∧MSt w ρ G M (zC (zy r id)) w':=by
 have hid:=hI.n.req id q hq
 have hid1:id≠-1:=by omega
 have HFG:=zh (fun (x:Int) (hx:0≤x∧x < 1000000000000) W=>zBO (x:=x) hx.1 hx.2 W)
 have hidr:0≤id∧id < 1000000000000:=by omega
 have HID1:=zh hid1
 have HI:=zh hI
 have HH:=zh h
 have HQ:=zh hq
 have HNN:=zh hN
 have HPP:=zh hP
 have HF:=zh (zLX h id 0 (by have:=hI.mok;omega) hid1)
 have HC:=zh hC
 clear hid hid1 hI h hq hN hP hC
 go_enter Tryz.func128,Tryz.ntmps128
 go_wp2_with fail
 refine HF.out.mono ?_
 rintro e w1 ⟨v,rfl,hf,hb⟩
 have HF0:=zh hf
 have HB0:=zh hb
 clear hf hb HF
 go_wp2_with fail
 go_loopw [4] (fun s4 wr=>∃v:Int,s4=.int .i64 v∧Hid (∃rk,zUh w ρ G M N P r ((rOf r id).foldl zU r) id wr rk∧zAC (zC rk).atts (fun q=>q.id=id) v)) (fun _ wr=>zDr wr M)
 case atStart=>exact ⟨v,rfl,r,⟨ρ,L,HH.out.grow HB0.out,Step.still (Fr.of_below HB0.out),HI.out,⟨rfl,rfl⟩,rfl⟩,HF0.out⟩
 case round =>
  obtain ⟨v,rfl,HR⟩:=hrel
  obtain ⟨rk,⟨ρk,Lk,hk1,hk2,hk3,hk4,hk5⟩,hk6⟩:=HR.out
  rcases hk6 with ⟨i,x,rfl,hix,hxid,hno⟩ | ⟨rfl,hno⟩
  ·obtain ⟨a,hai,rfl⟩:=zDp hix
   obtain ⟨aa,ac,hav,harows⟩:=hk1.attsIn
   have c7:wr.cell? ⟨M,7,none⟩=some Lk.atts:=hk1.cell (k:=7) rfl
   obtain ⟨n,hnn⟩:∃n,(zC rk).atts.length=n:=⟨_,rfl⟩
   rw [hav,hnn] at c7
   obtain ⟨ab,aoff,rfl,a0,a1,a2,a3,a4⟩:=zAD harows hix
   have hil:=(List.getElem?_eq_some_iff.1 hix).1
   have hi0:(0:Int)≤(i:Int):=by omega
   have hi1:(i:Int) < (n:Int):=by omega
   have hge:decide ((i:Int)≥0)=true:=decide_eq_true hi0
   obtain ⟨cc,hcc⟩:∃cc,(zV a).conn=cc:=⟨_,rfl⟩
   obtain ⟨nn,hnna⟩:∃nn,(zV a).n=nn:=⟨_,rfl⟩
   have hak:=zNA hk3 (List.mem_of_getElem? hai)
   have hnn2:a.att=nn:=hnna
   have hcc2:a.conn=cc:=hcc
   rw [hnn2] at hak
   rw [hcc] at a2
   rw [hnna] at a1
   have hnnr:0≤nn∧nn < 1000000000000:=by have:=HNN.out;omega
   have hmok:=hk3.mok
   have HS:=zh (fun W (hW:MRep W ρk G M Lk (zC rk))=>zCg hW cc (zN [yl,decI id,decI nn]) (zMv _ _) (by have:=HPP.out;omega))
   have hza:=zAq id
   have hzb:=zAq nn
   obtain ⟨d1,e1⟩:∃d1,(⟨#[115,116,111,112,32]⟩:ByteArray)++bs (decI id)=d1:=⟨_,rfl⟩
   obtain ⟨d2,e2⟩:∃d2,d1++(⟨#[32]⟩:ByteArray)=d2:=⟨_,rfl⟩
   obtain ⟨d3,e3⟩:∃d3,d2++bs (decI nn)=d3:=⟨_,rfl⟩
   have hs1:d1.size=5+(bs (decI id)).size:=by rw [←e1,ByteArray.size_append];rfl
   have hs2:d2.size=d1.size+1:=by rw [←e2,ByteArray.size_append];rfl
   have hstr:d3=bs (zN [yl,decI id,decI nn]):=by rw [←e3,←e2,←e1];exact zMu rfl rfl
   have z1:¬9223372036854775807 < 5+(bs (decI id)).size:=by omega
   have z2:¬9223372036854775807 < d1.size+1:=by omega
   have z3:¬9223372036854775807 < d2.size+(bs (decI nn)).size:=by omega
   rw [←hstr] at HS
   have HK1:=zh hk1
   have HK2:=zh hk2
   have HK3:=zh hk3
   have HK4:=zh hk4
   have HK5:=zh hk5
   have HIX:=zh hix
   have HAI:=zh hai
   have HAID:=zh hxid
   have HNO:=zh hno
   have HCC:=zh hcc2
   have HNA:=zh hnn2
   have HLN:=zh hnn
   have HAV:Hid (Lk.atts=.slice (some ⟨ab,aoff,none⟩) n ac∧a.att=nn∧a.conn=cc):=⟨by rw [←hnn];exact hav,hnn2,hcc2⟩
   clear hstr hs1 hs2 hk1 hk2 hk3 hk4 hk5 hix hai hxid hno HR hcc hcc2 hnna hnn2 hza hzb hmok harows hav hnn hil a0 a3 a4 hak
   go_wp2_with fail
   apply zBn (S:=fun W=>MStA wr ρk G M Lk (mSay (zC rk) cc (zN [yl,decI id,decI nn])) W)
   ·intro R hR
    go_region_held3 (fun w'=>w'.cell? ⟨M,7,none⟩=some (.slice (some ⟨ab,aoff,none⟩) n ac)∧w'.cell? ⟨ab,aoff+i*5+1,none⟩=some (vi nn)∧w'.cell? ⟨ab,aoff+i*5+2,none⟩=some (vi cc)) (go_keep) (first
     | (go_at_call 118;refine (HS.out _ (HK1.out.grow HB.out)).mono ?_;rintro e wc ⟨rfl,hst⟩;obtain ⟨c7c,a1c,a2c⟩:=zUj hst HAV.out HIX.out;have HST:=zh (hst.of_fr (Fr.of_below HB.out));clear hst)
     | (go_at_call 119;refine (HFG.out _ (by first | exact hidr | exact hnnr) _).mono ?_;rintro e wa ⟨rfl,hb⟩;have HB:Hid (Below wr.heap.size wr wa):=(by first | exact Below.trans HB.out (hb.mono HB.out.size) | exact zAh hb);have c7b:=(HB.out.cell (zW c7)).trans c7;have a1b:=(HB.out.cell (zW a1)).trans a1;have a2b:=(HB.out.cell (zW a2)).trans a2;clear hb))
    all_goals exact hR.out _ HST.out
   intro w2 hst2
   obtain ⟨ρ2,L2,q1,q2⟩:=zEn hst2
   have hI2:=HK3.out.say cc [yl,decI id,decI nn]
   have hm2:=hI2.mok
   have HEN:=zh (zDf (show MRep w2 ρ2 G M L2 (zC (rSay rk cc [yl,decI id,decI nn])) from q1) (i:=i) (x:=zV a) HIX.out hm2.2.1 (by
    show (rk.conns.map yt).length≤_
    rw [List.length_map,HK4.out.2];have:=HC.out;omega) (by have:=HPP.out;omega) (by have:=HPP.out;omega))
   have hstp:mEnd (zC (rSay rk cc [yl,decI id,decI nn])) i (zV a).conn=zC (zU rk a):=by
    have h1:=zDq hI2 (i:=i) (a:=a) HAI.out
    unfold zU
    rw [HCC.out,HNA.out,show a.id=id from HAID.out]
    rw [HCC.out] at h1
    exact (congrArg (mEnd _ i) HCC.out).trans h1
   rw [hstp] at HEN
   have hI3:=(HK3.out.stop (List.mem_of_getElem? HAI.out)).mono (Nat.le_refl _) (Nat.sub_le P 1)
   have HI3:=zh hI3
   have HQ2:=zh q2
   clear hst2 q1 q2 hI2 hm2 hstp hI3 c7 a1 a2 e1 e2 e3 z1 z2 z3
   go_wp2_with fail
   refine HEN.out.mono ?_
   rintro e w3 ⟨rfl,hst3⟩
   obtain ⟨ρ3,L3,g1,g2⟩:=hst3
   have HF3:=zh (zLX g1 id 0 (by have:=HI3.out.mok;have:=HPP.out;omega) HID1.out)
   have G1:=zh g1
   have G2:=zh g2
   clear g1 g2 HEN
   go_wp2_with fail
   refine HF3.out.mono ?_
   rintro e w4 ⟨v,rfl,hf,hb⟩
   have HFV:=zh hf
   have HBV:=zh hb
   clear hf hb
   go_wp2_with fail
   go_roundw
   case rel =>
    refine ⟨v,rfl,zU rk a,⟨ρ3,L3,G1.out.grow HBV.out,((HK2.out.trans HQ2.out).trans G2.out).trans (Step.still (Fr.of_below HBV.out)),HI3.out,⟨(zFD rk a).trans HK4.out.1,(zEo rk a).trans HK4.out.2⟩,?_⟩,HFV.out⟩
    rw [←HK5.out]
    exact (zUe HK3.out HAI.out HAID.out (fun j b hj hb=>HNO.out j (zV b) hj (zCT hb))).symm
   case measure =>
    have h1:=zJU HK3.out (List.mem_of_getElem? HAI.out)
    rw [zBo (G1.out.grow HBV.out),zBo HK1.out]
    show ((zU rk a).atts.map zV).length < (rk.atts.map zV).length
    rw [List.length_map,List.length_map]
    omega
  ·have hem:rOf rk id=[]:=by
    unfold rOf
    rw [List.filter_eq_nil_iff]
    intro b hb
    simp
    exact hno (zV b) (List.mem_map_of_mem hb)
   rw [hem] at hk5
   have hk5:rk=(rOf r id).foldl zU r:=hk5
   have hq':aget rk.reqs id=some q:=by rw [hk4.1];exact HQ.out
   have hmk:=hk3.mok
   have HLF:=zh (zUd hk1 id (by have:=HNN.out;omega) (fun p hp=>by have:=hmk.2.2.2.2.1 p hp;have:=HNN.out;omega))
   rw [←zRt hk3 hq'] at HLF
   have HIU:=zh (hk3.unqueue id)
   have HQU:=zh (zDP hq')
   have HK2:=zh hk2
   have HSH:Hid (zy r id={zO rk id with reqs:=adel (zO rk id).reqs id}):=show _=_ by rw [zBb,←hk5]
   clear hk1 hk2 hk3 hk4 hk5 hno hem hmk hq' HR
   go_wp2_with fail
   refine HLF.out.mono ?_
   rintro e w2 ⟨rfl,hst2⟩
   obtain ⟨ρ2,L2,g1,g2⟩:=zEn hst2
   obtain ⟨k,hk⟩:=zCH HQU.out
   have hkm:(zC (zO rk id)).reqs[k]?=some (zS (id,{q with queued:=false})):=by
    show ((zO rk id).reqs.map zS)[k]?=_
    rw [List.getElem?_map,hk];rfl
   have hmu:=HIU.out.mok
   have HRA:=zh (zDo g1 (k:=k) hmu.1 hkm (by have:=HNN.out;omega))
   have G1:=zh g1
   have G2:=zh g2
   have HK:=zh hk
   have HKM:=zh hkm
   have HMU:=zh hmu
   clear hst2 g1 g2 hk hkm hmu HLF
   go_wp2_with fail
   refine HRA.out.mono ?_
   rintro e w3 ⟨rfl,hb3⟩
   have h3:=G1.out.grow hb3
   have HS3:Hid (Step ρ ρ2 w w3):=(HK2.out.trans G2.out).trans (Step.still (Fr.of_below hb3))
   have hil:=(List.getElem?_eq_some_iff.1 HKM.out).1
   obtain ⟨b,off,cap,hv,_,_,hcap1,hcap2,_,_⟩:=h3.reqs.form (by omega)
   have hat:=h3.reqs
   rw [hv] at hat
   have cL:w3.cell? ⟨M,6,none⟩=some L2.reqs:=h3.cell (k:=6) rfl
   obtain ⟨n,hnn⟩:∃n,(zC (zO rk id)).reqs.length=n:=⟨_,rfl⟩
   rw [hv,hnn] at cL
   have hnb:n≤1000000000000:=by have:=HMU.out;have:=HNN.out;omega
   rw [hnn] at hcap1 hat hil
   have HY1:Hid (SlAt w3 189 7 (fun b=>ρ2 b=yB) (.slice (some ⟨b,off,none⟩) k cap) k (((zC (zO rk id)).reqs.take k).flatMap xp)):=by
    have:=zID hat (Nat.le_of_lt hil)
    rw [show zEX (zC (zO rk id)).reqs=(zC (zO rk id)).reqs.flatMap xp from rfl,zGF (sz:=7) (fun _=>rfl)] at this
    exact this
   have HV:Hid (L2.reqs=.slice (some ⟨b,off,none⟩) n cap):=by rw [←hnn];exact hv
   have HN:=zh hnn
   have H3:=zh h3
   have hi0:(0:Int)≤(k:Int):=by omega
   have hi1:(k:Int) < (n:Int):=by omega
   have hi2:(0:Int)≤(k:Int)+1:=by omega
   have hi3:(k:Int)+1≤(n:Int):=by omega
   have hi4:(k:Int)≤(cap:Int):=by omega
   have hi5:(n:Int)≤(cap:Int):=by omega
   have hi6:((k:Int)+1).toNat=k+1:=by omega
   have hwi:IntKind.i64.wrap ((k:Int)+1)=(k:Int)+1:=IntWalk.i64_in _ (by omega)
   have HIL:=zh hil
   have HB:=zh (show n≤maxLen∧n*72≤140737488355328 by unfold maxLen;omega)
   clear h3 hv hat hnn hb3 hcap2 HRA
   by_cases hcc:cap=k+1
   ·have HO2:=zh (show zGe n cap k off off 0 0 from ⟨by omega,.inl ⟨hcc,rfl,rfl⟩⟩)
    subst hcc
    go_wp2_with (at_builtin;first | (refine zAK rfl _ _ _ rfl zEa rfl (SlAt.nil (own:=fun _=>False)) rfl HY1.out zGE (by have:=HB.out.1;omega) (by have:=HB.out.2;omega) ?_;intro va1 vc1 w4 E1 he1 hf1 hl1 hs1;rw [Nat.zero_add,List.nil_append] at hs1;obtain ⟨cL1,hy2,fz1⟩:=zMx H3.out he1 hf1 HV.out HN.out HIL.out HO2.out;have HY2:=zh hy2;have HE1:=zh he1;have HF1:=zh hf1;have HS1:=zh hs1;clear he1 hf1 hl1 hs1 hy2) | (refine zAK rfl _ _ _ rfl zEa rfl HS1.out rfl HY2.out zGE (by have:=HB.out.1;omega) (by have:=HB.out.2;omega) ?_;intro va2 vc2 w5 E2 he2 hf2 hl2 hs2;rw [←List.flatMap_append] at hs2;obtain ⟨hM2,ρ3,k1,k2⟩:=zMw H3.out HE1.out HF1.out he2 hf2 (zMy HN.out HIL.out HO2.out) hs2;have c72:w5.cell? ⟨M,6,none⟩=some L2.reqs:=zB hM2 rfl;have fz2:w5.frozen? ⟨M,6,none⟩=false:=zI hM2;rw [HV.out] at c72;have HK1:=zh k1;have HK2:=zh k2;clear he2 hf2 hl2 hs2 hM2 k1 k2) | fail)
    go_end0
    refine ⟨rfl,?_⟩
    have hfin:zC (zy r id)={zC (zO rk id) with reqs:=(zC (zO rk id)).reqs.take k++(zC (zO rk id)).reqs.drop (k+1)}:=by
     rw [HSH.out]
     have:=zLT HIU.out.q.kreq HK.out
     unfold zC
     simp only [RefM.mk.injEq,true_and,and_true]
     exact ⟨this,rfl⟩
    rw [hfin]
    exact ⟨_,_,HK1.out,HS3.out.trans HK2.out⟩
   ·have HO2:=zh (show zGe n cap k off (off+(k+1)*7) (cap - (k+1)) (n - (k+1)) from ⟨rfl,.inr ⟨hcc,rfl,rfl⟩⟩)
    go_wp2_with (at_builtin;first | (refine zAK rfl _ _ _ rfl zEa rfl (SlAt.nil (own:=fun _=>False)) rfl HY1.out zGE (by have:=HB.out.1;omega) (by have:=HB.out.2;omega) ?_;intro va1 vc1 w4 E1 he1 hf1 hl1 hs1;rw [Nat.zero_add,List.nil_append] at hs1;obtain ⟨cL1,hy2,fz1⟩:=zMx H3.out he1 hf1 HV.out HN.out HIL.out HO2.out;have HY2:=zh hy2;have HE1:=zh he1;have HF1:=zh hf1;have HS1:=zh hs1;clear he1 hf1 hl1 hs1 hy2) | (refine zAK rfl _ _ _ rfl zEa rfl HS1.out rfl HY2.out zGE (by have:=HB.out.1;omega) (by have:=HB.out.2;omega) ?_;intro va2 vc2 w5 E2 he2 hf2 hl2 hs2;rw [←List.flatMap_append] at hs2;obtain ⟨hM2,ρ3,k1,k2⟩:=zMw H3.out HE1.out HF1.out he2 hf2 (zMy HN.out HIL.out HO2.out) hs2;have c72:w5.cell? ⟨M,6,none⟩=some L2.reqs:=zB hM2 rfl;have fz2:w5.frozen? ⟨M,6,none⟩=false:=zI hM2;rw [HV.out] at c72;have HK1:=zh k1;have HK2:=zh k2;clear he2 hf2 hl2 hs2 hM2 k1 k2) | fail)
    go_end0
    refine ⟨rfl,?_⟩
    have hfin:zC (zy r id)={zC (zO rk id) with reqs:=(zC (zO rk id)).reqs.take k++(zC (zO rk id)).reqs.drop (k+1)}:=by
     rw [HSH.out]
     have:=zLT HIU.out.q.kreq HK.out
     unfold zC
     simp only [RefM.mk.injEq,true_and,and_true]
     exact ⟨this,rfl⟩
    rw [hfin]
    exact ⟨_,_,HK1.out,HS3.out.trans HK2.out⟩
end
section
variable {w w' w1 w2 w3 wr:World} {ρ:Nat→Role} {G M:Nat} {L:MLay} {m:RefM}
theorem zCU (h:MRep w ρ G M L m) {a:Option Addr} {n cap:Nat} (e:L.reqs=.slice a n cap):zAW w a 7 (m.reqs.map xp):=by
 obtain ⟨a',cap',h1,h2⟩:=h.reqsIn
 rw [e] at h1
 injection h1 with e1 e2 e3
 rw [e1];exact h2
theorem zNB {r:Raw} (h:MRep w ρ G M L (zC r)) {id:Int} {q:Req} (hq:aget r.reqs id=some q):∃b off n cap k,L.reqs=.slice (some ⟨b,off,none⟩) n cap∧n=(zC r).reqs.length∧k < n∧(zC r).reqs[k]?=some (zS (id,q))∧r.reqs[k]?=some (id,q):=by
 obtain ⟨k,hk⟩:=zCH hq
 have hkm:(zC r).reqs[k]?=some (zS (id,q)):=by
  show (r.reqs.map zS)[k]?=_
  rw [List.getElem?_map,hk];rfl
 have hkl:=(List.getElem?_eq_some_iff.1 hkm).1
 obtain ⟨a,cap,h1,h2⟩:=h.reqsIn
 obtain ⟨b,off,rfl,_⟩:=zAX h2 hkm
 exact ⟨b,off,_,cap,k,h1,rfl,hkl,hkm,hk⟩
theorem zEp {B:Nat} {a:Addr} {v:Value} (hb:Below w.heap.size w w1) (h:w.cell? a=some v):w1.cell? a=some v:=(hb.cell (zW h)).trans h
theorem zNC (s:ByteArray):(s.toList==s.toList)=true:=by simp
theorem zUk {N P:Nat} {r:Raw} (hI:Inv N P r) (h:MRep w ρ G M L (zC r)) (t:ByteArray) (hN:N≤100000000000) (hP:P≤100000000000) :
 Calls Tryz.prog 157 #[vp M,vs t] w fun e w'=>e=.returned (vi (zT r t))∧Below w.heap.size w w':=by
 obtain ⟨a,cap,hv,hr⟩:=h.attsIn
 have cL:w.cell? ⟨M,7,none⟩=some L.atts:=h.cell (k:=7) rfl
 have c6:w.cell? ⟨M,6,none⟩=some L.reqs:=h.cell (k:=6) rfl
 rw [hv] at cL
 have HR:=zh hr
 have hm:=hI.mok
 obtain ⟨n,hnn⟩:∃n,(zC r).atts.length=n:=⟨_,rfl⟩
 have HN:=zh hnn
 rw [hnn] at cL hm
 have hn:n≤1000000000000:=by omega
 have HH:=zh h
 have HI:=zh hI
 have HM:=zh hm
 have HNN:=zh hN
 clear h hv hr hnn hm hI hN hP
 go_enter Tryz.func157,Tryz.ntmps157
 go_wp2_with fail
 go_loopw [5,13] (fun s5 s13 wr=>∃k j:Nat,s13=.int .i64 k∧s5=.int .i64 j∧k≤n∧j≤k∧Hid (Below w.heap.size w wr∧(r.atts.take k).countP (fun a=>decide (yj r a.id=some t))=j)) (fun _ s13 _=>n - (intOf s13).toNat)
 case atStart=>exact ⟨0,0,by go_num,by go_num,Nat.zero_le _,Nat.le_refl _,Below.refl _ _,by simp⟩
 case round =>
  obtain ⟨k,j,rfl,rfl,hk,hj,HI1⟩:=hrel
  by_cases hkl:k < n
  ·have hlt:decide ((k:Int) < (n:Int))=true:=decide_eq_true (by omega)
   obtain ⟨x,hkx⟩:∃x,(zC r).atts[k]?=some x:=⟨_,List.getElem?_eq_getElem (by rw [HN.out];exact hkl)⟩
   obtain ⟨ab,aoff,hae,a0,a1,a2,a3,a4⟩:=zAD (HR.out.below HI1.out.1) hkx
   subst hae
   obtain ⟨at',hka,rfl⟩:=zDp hkx
   obtain ⟨q,hq,_⟩:=HI.out.a.areq at' (List.mem_of_getElem? hka)
   obtain ⟨qb,qoff,qn,qc,kq,hvq,hqn,hkq,hqm,hqi⟩:=zNB HH.out hq
   have c6w:wr.cell? ⟨M,6,none⟩=some L.reqs:=zEp (B:=0) HI1.out.1 c6
   have c6a:(wr.alloc (.cells #[vi at'.id,vi at'.att,vi at'.conn,vi at'.since,vi at'.till] 186)).cell? ⟨M,6,none⟩=some L.reqs:=by rw [←c6w];exact World.cell?_alloc_lt _ _ _ (zW c6w)
   have hra:=(HH.out.grow HI1.out.1).alloc (.cells #[vi at'.id,vi at'.att,vi at'.conn,vi at'.since,vi at'.till] 186)
   obtain ⟨qb',qoff',hqe,_,_,e2,_,_,_,_⟩:=zAX (zCU hra hvq) hqm
   injection hqe with hqe
   injection hqe with hqe1 hqe2
   subst hqe1;subst hqe2
   have HRQ:=zh (zDo hra.drew HM.out.1 hqm (by have:=HM.out;have:=HNN.out;omega))
   have HBA:Hid (Below w.heap.size w (wr.alloc (.cells #[vi at'.id,vi at'.att,vi at'.conn,vi at'.since,vi at'.till] 186))):=HI1.out.1.alloc HI1.out.1.size _
   rw [hvq] at c6w c6a
   have hk0:(0:Int)≤(k:Int):=by omega
   have hk1:(k:Int) < (n:Int):=by omega
   have hq0:(0:Int)≤(kq:Int):=by omega
   have hq1:(kq:Int) < (qn:Int):=by omega
   have HT:Hid ((r.atts.take (k+1)).countP (fun a=>decide (yj r a.id=some t))=j+if q.tenant=t then 1 else 0):=show _=_ by
    rw [List.take_add_one,List.countP_append,HI1.out.2,hka]
    simp [zGw hq]
   have HB1:=zh HI1.out.1
   obtain ⟨aid,haid⟩:∃i,at'.id=i:=⟨_,rfl⟩
   obtain ⟨aat,haat⟩:∃i,at'.att=i:=⟨_,rfl⟩
   obtain ⟨aco,haco⟩:∃i,at'.conn=i:=⟨_,rfl⟩
   obtain ⟨asi,hasi⟩:∃i,at'.since=i:=⟨_,rfl⟩
   obtain ⟨ati,hati⟩:∃i,at'.till=i:=⟨_,rfl⟩
   obtain ⟨ten,hten⟩:∃i,q.tenant=i:=⟨_,rfl⟩
   simp only [zS,zV,haid,haat,haco,hasi,hati,hten] at a0 a1 a2 a3 a4 e2 HRQ c6a HBA HT
   clear hkx hka hq hvq hqn hqm hqi hra HI1 haid haat haco hasi hati hten
   by_cases htt:ten=t
   ·subst htt
    have hq:=zNC ten
    rw [if_pos rfl] at HT
    go_wp2_with fail
    apply zBn (S:=fun W=>Below w.heap.size w W)
    ·intro R hR
     go_region_law (first
      | (go_simp;go_at_call 122;refine HRQ.out.mono ?_;rintro e w1 ⟨rfl,hb⟩;have e2b:=yh hb e2;have c6b:=yh hb c6a;have HB:=zh (HBA.out.trans ((zAh hb).mono HBA.out.size));clear hb))
     all_goals exact hR.out _ HB.out
    intro w5 hb5
    have HB5:=zh hb5
    clear hb5 a0 a1 a2 a3 a4 e2 c6w c6a HRQ HBA HB1
    go_wp2_with fail
    go_roundw
    case rel=>exact ⟨k+1,j+1,by go_num,by go_num,by omega,by omega,HB5.out,HT.out⟩
    case measure=>simp [intOf];omega
   ·have hq:=zIa htt
    rw [if_neg htt] at HT
    clear htt
    go_wp2_with fail
    apply zBn (S:=fun W=>Below w.heap.size w W)
    ·intro R hR
     go_region_law (first
      | (go_simp;go_at_call 122;refine HRQ.out.mono ?_;rintro e w1 ⟨rfl,hb⟩;have e2b:=yh hb e2;have c6b:=yh hb c6a;have HB:=zh (HBA.out.trans ((zAh hb).mono HBA.out.size));clear hb))
     all_goals exact hR.out _ HB.out
    intro w5 hb5
    have HB5:=zh hb5
    clear hb5 a0 a1 a2 a3 a4 e2 c6w c6a HRQ HBA HB1
    go_wp2_with fail
    go_roundw
    case rel=>exact ⟨k+1,j,by go_num,by go_num,by omega,by omega,HB5.out,HT.out⟩
    case measure=>simp [intOf];omega
  ·obtain rfl:k=n:=by omega
   have hlt:decide ((k:Int) < (k:Int))=false:=by simp
   have HF:Hid (zT r t=j):=show _=_ by
    rw [HI.out.a.runs t,←HI1.out.2]
    unfold xa
    have:r.atts.length=k:=by have:=HN.out;show r.atts.length=k;rw [←this];show _=(r.atts.map zV).length;rw [List.length_map]
    rw [←this,List.take_length]
   have HB:=zh HI1.out.1
   clear HI1
   go_wp2_with fail
   go_ret
   exact ⟨by rw [HF.out];rfl,HB.out⟩
end
open Go
section
variable {P:Program} {ops:Array Oper} {Q:Exit→Act→World→Prop} {md:Region.Mode} {S:World→Prop} {s:Nat}
def zAr (P:Program) (md:Region.Mode) (ops:Array Oper) (Q:Exit→Act→World→Prop) (S:World→Prop) (s:Nat):Nat→Array Bool→Act→World→Prop
 | 0,l,a,w=>Region.ready md ops l=[]∧Q .normal a w
 | n+1,l,a,w=>(Region.ready md ops l=[]→Q .normal a w)∧∀i∈Region.ready md ops l,wpOp P ops Q i (fun a' w'=>(i≠s→S w')∧zAr P md ops Q S s n (l.setIfInBounds i true) a' w') a w
theorem zND:∀(n:Nat) (l:Array Bool) (a:Act) (w:World),zAr P md ops Q S s n l a w→wpAny P md ops Q n l a w
 | 0,_,_,_,h=>h
 | n+1,_,_,_,h=>⟨h.1,fun i hi=>wpOp_mono (fun a' w' k=>zND n _ a' w' k.2) (h.2 i hi)⟩
def zEq (md:Region.Mode) (ops:Array Oper) (s i:Nat):Bool:=match ops[s]? with
 | some o=>o.after.any fun e=>Region.binds md e&&e.on==i
 | none=>true
theorem zUl {i:Nat} (h:zEq md ops s i=true) {o:Oper} (ho:ops[s]?=some o):∃e∈o.after,Region.binds md e=true∧e.on=i:=by
 unfold zEq at h
 rw [ho] at h
 obtain ⟨k,hk,hb⟩:=Array.any_eq_true.1 h
 rw [Bool.and_eq_true] at hb
 exact ⟨o.after[k],Array.getElem_mem hk,hb.1,by simpa using hb.2⟩
theorem zUm {i:Nat} {oi:Oper} {v:Value} (hi:ops[i]?=some oi) (hsel:∀(j:Nat) (o:Oper) cs b,ops[j]?=some o→o.op≠.select cs b) (hQ:∀c a w,Q (.panic c) (a.put oi.dst v) w→Q (.panic c) a w) (hw:zEq md ops s i=true) (his:i≠s) :
 ∀(n:Nat) (l:Array Bool) (a:Act) (w:World),(∀j oj,ops[j]?=some oj→j≠i→l.getD j true=false→(∀e∈oj.after,Region.binds md e=true→e.on≠i)→oi.apart ops oj=true)→i∈Region.ready md ops l→YieldsIf P ops S oi v a→S w →
  zAr P md ops Q S s n (l.setIfInBounds i true) (a.put oi.dst v) w→zAr P md ops Q S s (n+1) l a w:=by
 intro n
 induction n with
 | zero =>
   intro l a w _ hr hy hS H
   refine ⟨fun h0=>absurd hr (by rw [h0];simp),fun j hj=>?_⟩
   by_cases e:j=i
   ·subst e;exact hy.wpOp hi hS ⟨fun _=>hS,H⟩
   ·exact absurd (ready_mono hj e) (by rw [H.1];simp)
 | succ n ih =>
   intro l a w hfree hr hy hS H
   refine ⟨fun h0=>absurd hr (by rw [h0];simp),fun j hj=>?_⟩
   by_cases e:j=i
   ·subst e;exact hy.wpOp hi hS ⟨fun _=>hS,H⟩
   obtain ⟨hjl,oj,hoj,hja⟩:=mem_ready.1 hj
   have hil:=(mem_ready.1 hr).1
   have hnot:∀d∈oj.after,Region.binds md d=true→d.on≠i:=fun d hd hb hdi=>by
    have h1:=hja d hd hb
    rw [hdi] at h1
    rcases Nat.lt_or_ge i l.size with h2 | h2
    ·simp [h2] at hil h1;rw [hil] at h1;cases h1
    ·simp [Array.getElem?_eq_none h2] at h1
   have hjs:j≠s:=fun hs=>by
    subst hs
    obtain ⟨d,hd,hb,hdi⟩:=zUl hw hoj
    exact hnot d hd hb hdi
   have h2:=wpOp_putIf hoj (hfree j oj hoj e hjl hnot) (fun cs b=>hsel i oi cs b hi) (fun cs b=>hsel j oj cs b hoj) hQ hy (H.2 j (ready_mono hj e))
   refine wpOp_mono (fun a' w' h3=>⟨fun _=>h3.2.1 hjs,ih (l.setIfInBounds j true) a' w' (fun k ok hk hki hun hno=>hfree k ok hk hki ?_ hno) (ready_mono hr (Ne.symm e)) h3.1 (h3.2.1 hjs) ?_⟩) h2
   ·by_cases hjk:j=k
    ·subst hjk;exact hjl
    ·rw [getD_set_ne true hjk] at hun;exact hun
   ·rw [Array.setIfInBounds_comm _ _ e]
    exact h3.2.2
theorem zUn {i:Nat} {oi:Oper} {v:Value} {n:Nat} {l:Array Bool} {a:Act} {w:World} (hi:ops[i]?=some oi) (hs:Region.noSelect ops=true) (hf:Region.free md ops l i=true) (hr:(Region.ready md ops l).contains i=true) (hw:zEq md ops s i=true) (his:(i==s)=false)
 (hQ:∀c a w,Q (.panic c) (a.put oi.dst v) w→Q (.panic c) a w) (hy:YieldsIf P ops S oi v a) (hS:S w) (h:zAr P md ops Q S s n (l.setIfInBounds i true) (a.put oi.dst v) w):zAr P md ops Q S s (n+1) l a w:=
 zUm hi (Region.noSelect_spec hs) hQ hw (beq_eq_false_iff_ne.1 his) n l a w (Region.free_spec hi hf) (by simpa using hr) hy hS h
theorem zUo {i:Nat} {n:Nat} {l:Array Bool} {a:Act} {w:World} {o:Oper} (ho:ops[i]?=some o) (hr:Region.ready md ops l=[i]) (hw:Region.wanted o (yielded ops a.tmps)=true)
 (h:∀K:Act→World→Prop,(∀a' w',(i≠s→S w')→zAr P md ops Q S s n (l.setIfInBounds i true) a' w'→K a' w')→o.wp P a w K Q):zAr P md ops Q S s (n+1) l a w:=
 ⟨fun h0=>absurd (hr.symm.trans h0) (by simp),fun j hj=>by
  rw [hr,List.mem_singleton] at hj
  subst hj
  unfold wpOp
  simp only [ho,hw,if_true]
  exact .inl (h _ (fun a' w' h1 h2=>⟨h1,h2⟩))⟩
theorem zNE {l:Array Bool} {a:Act} {w:World} (hr:Region.ready md ops l=[]) (h:Q .normal a w):∀n,zAr P md ops Q S s n l a w
 | 0=>⟨hr,h⟩
 | _+1=>⟨fun _=>h,by rw [hr];simp⟩
theorem zNF {id:Nat} {a:Act} {w:World} (hm:P.follows .mixedOrders=true) (h:zAr P .any ops Q S s ops.size (Array.replicate ops.size false) a w.drew):(Code.region id ops true).wp P Q a w:=
 wp_region_any hm (zND _ _ _ _ h)
def zBq (_:Nat) (p:Prop):Prop:=p
theorem zIe {p:Prop} (h:zBq 0 p):p:=h
theorem zIf {i:Nat} {p:Prop} (h:p):zBq i p:=h
theorem zGg {i:Nat} {oi:Oper} {rest:List Oper} (h:ops.toList.drop i=oi::rest):ops[i]?=some oi:=by
 have h1:(ops.toList.drop i)[0]?=some oi:=by rw [h];rfl
 rw [List.getElem?_drop] at h1
 simpa using h1
theorem zNG {i:Nat} {oi:Oper} {rest:List Oper} {v:Value} {n:Nat} {l:Array Bool} {a:Act} {w:World} (hi:ops.toList.drop i=oi::rest) (hb:(Region.noSelect ops&&Region.free md ops l i&&(Region.ready md ops l).contains i&&zEq md ops s i&&!(i==s))=true)
 (hQ:∀c a w,Q (.panic c) (a.put oi.dst v) w→Q (.panic c) a w) (hS:S w) (hy:YieldsIf P ops S oi v a) (h:zBq (i+1) (zAr P md ops Q S s n (l.setIfInBounds i true) (a.put oi.dst v) w)):zBq i (zAr P md ops Q S s (n+1) l a w):=by
 simp only [Bool.and_eq_true,Bool.not_eq_true'] at hb
 exact zUn (zGg hi) hb.1.1.1.1 hb.1.1.1.2 hb.1.1.2 hb.1.2 hb.2 hQ hy hS h
theorem zBr {i:Nat} {n:Nat} {l:Array Bool} {a:Act} {w:World} {o:Oper} {rest:List Oper} (hi:ops.toList.drop i=o::rest) (hr:Region.ready md ops l=[i]) (hw:Region.wanted o (yielded ops a.tmps)=true)
 (h:∀K:Act→World→Prop,(∀a' w',(i≠s→S w')→zBq (i+1) (zAr P md ops Q S s n (l.setIfInBounds i true) a' w')→K a' w')→o.wp P a w K Q):zBq i (zAr P md ops Q S s (n+1) l a w):=
 zUo (zGg hi) hr hw h
end
section
variable {w w' w1 w2 w3 wr:World} {ρ:Nat→Role} {G M:Nat} {L:MLay} {m:RefM}
theorem zUp (h:MRep w ρ G M L m) (hf1:Fr (fun _=>False) w w1) {E:Nat→Prop} (hE:∀b,E b→ρ b=yB∨b=w1.heap.size) (hf2:Fr E w1 w2) {v:Value} {l:List MReq} {n:Nat} (hn:n=l.length) (hs:SlAt w2 189 7 E v n (l.flatMap xp)) :
 w2.heap[M]?=some (.cells (yS L m.cfg m.now) 179 (0,0))∧∃ρ',MRep (w2.setCell ⟨M,6,none⟩ v) ρ' G M {L with reqs:=v} {m with reqs:=l}∧Step ρ ρ' w (w2.setCell ⟨M,6,none⟩ v):=by
 have r1:=h.of_fr hf1 (fun _ f=>f.elim)
 have hsz:=hf1.size
 have hE2:∀b,E b→ρ b=yB∨w.heap.size≤b:=fun b hb=>(hE b hb).imp (fun e=>e) (fun e=>by omega)
 have hEM:¬E M:=fun hb=>by
  rcases hE2 M hb with e | e
  ·rw [h.mod.1] at e;exact absurd (congrArg Role.tag e) (by decide)
  ·have:=h.size;omega
 have hM:w2.heap[M]?=some (.cells (yS L m.cfg m.now) 179 (0,0)):=(hf2.block M r1.size.2 hEM).trans r1.mod.2
 refine ⟨hM,?_⟩
 have hfr:Fr (fun b=>b=M∨E b) w (w2.setCell ⟨M,6,none⟩ v):=((Fr.mono hf1 (fun _ f=>f.elim)).trans (hf2.mono (fun x hx=>.inl (.inr hx))) (fun x hx=>.inl hx)).setCell _ _ (.inl (.inl rfl))
 exact h.put_reqsE (own:=E) (S:=fun b=>b=M∨E b) hE2 (zM w2 hM) (by
  subst hn
  exact hs.of_blk (fun b hb _=>zJ w2 (fun e=>hEM (by have e:b=M:=e;rw [←e];exact hb))) (fun _ hb _=>hb)) hfr (fun b hb=>hb.imp (fun e=>e) (hE2 b))
theorem zUq (h:MRep w ρ G M L m) (hf1:Fr (fun _=>False) w w1) {E:Nat→Prop} (hE:∀b,E b→ρ b=yE∨b=w1.heap.size) (hf2:Fr E w1 w2) {v:Value} {l:List MAtt} {n:Nat} (hn:n=l.length) (hs:SlAt w2 186 5 E v n (l.flatMap zAJ)) :
 w2.heap[M]?=some (.cells (yS L m.cfg m.now) 179 (0,0))∧∃ρ',MRep (w2.setCell ⟨M,7,none⟩ v) ρ' G M {L with atts:=v} {m with atts:=l}∧Step ρ ρ' w (w2.setCell ⟨M,7,none⟩ v):=by
 have r1:=h.of_fr hf1 (fun _ f=>f.elim)
 have hsz:=hf1.size
 have hE2:∀b,E b→ρ b=yE∨w.heap.size≤b:=fun b hb=>(hE b hb).imp (fun e=>e) (fun e=>by omega)
 have hEM:¬E M:=fun hb=>by
  rcases hE2 M hb with e | e
  ·rw [h.mod.1] at e;exact absurd (congrArg Role.tag e) (by decide)
  ·have:=h.size;omega
 have hM:w2.heap[M]?=some (.cells (yS L m.cfg m.now) 179 (0,0)):=(hf2.block M r1.size.2 hEM).trans r1.mod.2
 refine ⟨hM,?_⟩
 have hfr:Fr (fun b=>b=M∨E b) w (w2.setCell ⟨M,7,none⟩ v):=((Fr.mono hf1 (fun _ f=>f.elim)).trans (hf2.mono (fun x hx=>.inl (.inr hx))) (fun x hx=>.inl hx)).setCell _ _ (.inl (.inl rfl))
 exact h.put_attsE (own:=E) (S:=fun b=>b=M∨E b) hE2 (zM w2 hM) (by
  subst hn
  exact hs.of_blk (fun b hb _=>zJ w2 (fun e=>hEM (by have e:b=M:=e;rw [←e];exact hb))) (fun _ hb _=>hb)) hfr (fun b hb=>hb.imp (fun e=>e) (hE2 b))
theorem zAs {b:Nat} {o:Obj} (h:w.heap[b]?=some o):b < w.heap.size:=zF _ h
theorem zNH (a:Int) (w3:zA):(⟨#[114,101,106,32]⟩:ByteArray)++bs (decI a)++bs (32::w3)=bs (zN [wRej,decI a,w3]):=by
 apply ByteArray.ext
 simp [bs,zN,wRej]
theorem zUr (a:Int):(⟨#[97,99,99,32]⟩:ByteArray)++bs (decI a)=bs (zN [wAcc,decI a]):=by
 apply ByteArray.ext
 simp [bs,zN,wAcc]
theorem zIg (a:Int) (u v:zA) (hu:u.length≤80) (hv:v.length≤80):(zN [u,decI a,v]).length≤1000000000:=by
 have h1:=zCE a
 simp [zN]
 omega
theorem zEr (a:Int) (u:zA) (hu:u.length≤80):(zN [u,decI a]).length≤1000000000:=by
 have h1:=zCE a
 simp [zN]
 omega
theorem MRep.cfgCells (h:MRep w ρ G M L m):w.cell? ⟨M,0,none⟩=some (vi m.cfg.lease)∧w.cell? ⟨M,1,none⟩=some (vi m.cfg.retries)∧w.cell? ⟨M,2,none⟩=some (vi m.cfg.cap)∧w.cell? ⟨M,3,none⟩=some (vi m.cfg.bound)∧w.cell? ⟨M,4,none⟩=some (vi m.cfg.hedge)∧w.cell? ⟨M,5,none⟩=some (vi m.now):=
 ⟨h.cell (k:=0) rfl,h.cell (k:=1) rfl,h.cell (k:=2) rfl,h.cell (k:=3) rfl,h.cell (k:=4) rfl,h.cell (k:=5) rfl⟩
theorem MSt.of_fr {m':RefM} (h:MSt w1 ρ G M m' w') (hf:Fr (fun _=>False) w w1):MSt w ρ G M m' w':=by
 obtain ⟨ρ',L',h1,h2⟩:=h
 exact ⟨ρ',L',h1,(Step.still hf).trans h2⟩
theorem zNI {B:Nat} (h:Below B w w') (n:Nat):Below B w (w'.drewN n):=⟨h.os,h.tape,h.output,h.size,h.block⟩
theorem zUs {B k:Nat} {o:Obj} {v:Value} {E:Nat→Prop} (hn:¬Of ρ B) (hB:w1.heap[B]?=some o) (hE:∀b,E b→ρ b=yB∨b=w1.heap.size) (hf:Fr E w1 w2) (hM:ρ M=rMod):w2.heap[B]?=some o∧(w2.setCell ⟨M,k,none⟩ v).heap[B]?=some o:=by
 have hBM:B≠M:=by rintro rfl;exact hn (by unfold Of;rw [hM];decide)
 have hBE:¬E B:=fun h=>by
  rcases hE B h with e | e
  ·exact hn (by unfold Of;rw [e];decide)
  ·have:=zF _ hB;omega
 have h2:=(hf.block B (zF _ hB) hBE).trans hB
 exact ⟨h2,(zJ w2 hBM).trans h2⟩
theorem zCl {ρ':Nat→Role} {B:Nat} {o:Obj} (hs:Step ρ ρ' w w') (hB:w.heap[B]?=some o) (hn:¬Of ρ B):w'.heap[B]?=some o∧¬Of ρ' B:=
 ⟨(hs.fr.block B (zF _ hB) hn).trans hB,fun h=>by
   rcases hs.own B h with h1 | h1
   ·exact hn h1
   ·have:=zF _ hB;omega⟩
def zGh (t:ByteArray) (bd:Int) (p:ByteArray×List Int):Prop:=p.1=t∧bd≤p.2.length
theorem zUt {N P:Nat} {r:Raw} (hI:Inv N P r) {t:ByteArray} (h:∀p∈(zC r).ring,¬zGh t r.cfg.bound p):¬r.cfg.bound≤(qOf r t).length:=fun hb=>by
 have hc:=zCZ hI.n.cfg
 by_cases e:qOf r t=[]
 ·rw [e] at hb;simp at hb;omega
 ·exact h (t,qOf r t) (List.mem_map.2 ⟨t,(hI.q.rqu t).2 e,rfl⟩) ⟨rfl,hb⟩
theorem zUu {N P:Nat} {r:Raw} (hI:Inv N P r) (h:MRep w ρ G M L (zC r)) (c:Int) {x:Msg} (hx:xF x) (hN:N≤10000000000) (hP:P≤10000000000) :
 Calls Tryz.prog 173 #[vp M,vi c,.agg (zE x)] w fun e w'=>e=.returned (.tuple #[])∧MSt w ρ G M (zC (ye r c x)) w':=by
 have HFG:=zh (fun (y:Int) (hy:0≤y∧y < 1000000000000) W=>zBO (x:=y) hy.1 hy.2 W)
 have HX:=zh hx
 have hidr:0≤x.id∧x.id < 1000000000000:=by have:=hx.id;omega
 have HI:=zh hI
 have HH:=zh h
 have HNN:=zh hN
 have HPP:=zh hP
 have HM:=zh hI.mok
 obtain ⟨kd,id,an,ten,txt⟩:=x
 simp only [zE]
 simp only at hidr
 have HBX:Hid ((w.alloc (.cells #[vs (bs kd),vi id,vi an,vs (bs ten),vs (bs txt)] 151)).heap[w.heap.size]?=some (.cells #[vs (bs kd),vi id,vi an,vs (bs ten),vs (bs txt)] 151 (0,0))):=zL w
 have HBW:Hid (Below w.heap.size w (w.alloc (.cells #[vs (bs kd),vi id,vi an,vs (bs ten),vs (bs txt)] 151))):=(Below.refl _ w).alloc (Nat.le_refl _) _
 clear h hI hx hN hP
 go_enter Tryz.func173,Tryz.ntmps173
 go_wp2_with fail
 refine (HFG.out _ hidr _).mono ?_
 rintro e w1 ⟨rfl,hb1⟩
 rw [World.size_alloc] at hb1
 have hbx:=(hb1.block _ (Nat.lt_succ_self _)).trans HBX.out
 have HB1:=zh (HBW.out.trans (hb1.mono (Nat.le_succ _)))
 have hr1:=HH.out.grow HB1.out
 have x1:w1.cell? ⟨w.heap.size,1,none⟩=some (vi id):=zB hbx rfl
 have HBX1:=zh hbx
 have HR1:=zh hr1
 have HRQ:=zh (zCO hr1 id (by have:=HM.out;have:=HNN.out;omega))
 clear hb1 hbx hr1 HBX HBW
 go_wp2_with fail
 refine HRQ.out.mono ?_
 rintro e w2 ⟨v,rfl,hf,hb2⟩
 have hbx:=(hb2.block _ (zAs HBX1.out)).trans HBX1.out
 have HB2:=zh (HB1.out.trans (hb2.mono HB1.out.size))
 have HR2:=zh (HR1.out.grow hb2)
 have HBX2:=zh hbx
 have hza:=zAq id
 have hfr:=zFv HI.out.q.kreq hf
 clear hf hb2 hbx HRQ x1
 have z1:¬9223372036854775807 < 4+(bs (decI id)).size:=by omega
 rcases hfr with ⟨k,q,rfl,hq,_,_⟩ | ⟨rfl,hq⟩
 ·obtain ⟨d1,e1⟩:∃d1,(⟨#[114,101,106,32]⟩:ByteArray)++bs (decI id)=d1:=⟨_,rfl⟩
  obtain ⟨d2,e2⟩:∃d2,d1++(⟨#[32,100,117,112]⟩:ByteArray)=d2:=⟨_,rfl⟩
  have hs1:d1.size=4+(bs (decI id)).size:=by rw [←e1,ByteArray.size_append];rfl
  have hstr:d2=bs (zN [wRej,decI id,wDup]):=by rw [←e2,←e1];exact zNH id wDup
  have z2:¬9223372036854775807 < d1.size+4:=by omega
  have hge:decide ((k:Int)≥0)=true:=decide_eq_true (by omega)
  have HS:=zh (zCg HR2.out c (zN [wRej,decI id,wDup]) (zIg _ _ _ (by decide) (by decide)) (by have:=HM.out;have:=HPP.out;omega))
  rw [←hstr] at HS
  have HE:Hid (ye r c ⟨kd,id,an,ten,txt⟩=rSay r c [wRej,decI id,wDup]):=show _=_ by unfold ye;rw [if_pos (by rw [hq];rfl)]
  clear hstr hs1 hza hq
  go_wp2_with fail
  refine HS.out.mono ?_
  rintro e w3 ⟨rfl,hst⟩
  have HST:Hid (MSt w ρ G M (zC (rSay r c [wRej,decI id,wDup])) w3):=(hst.of_fr (Fr.of_below HB2.out)).st
  clear hst
  go_wp2_with fail
  refine bodyPost_ret (results_none rfl _ _ _) rfl ?_
  refine ⟨rfl,?_⟩
  rw [HE.out]
  exact HST.out
 ·obtain ⟨ra,rc,hvr,hrr⟩:=HR2.out.ringIn
  have c8:w2.cell? ⟨M,8,none⟩=some L.ring:=HR2.out.cell (k:=8) rfl
  obtain ⟨n,hnn⟩:∃n,(zC r).ring.length=n:=⟨_,rfl⟩
  rw [hnn] at hvr
  have HVR:=zh hvr
  rw [hvr] at c8
  have HN:=zh hnn
  have hnb:n≤1000000000000:=by have:=HM.out;have:=HNN.out;omega
  have HRR:=zh hrr
  have HQN:=zh hq
  obtain ⟨tn,htn⟩:∃tn,bs ten=tn:=⟨_,rfl⟩
  have HTN:=zh htn
  obtain ⟨bd,hbd⟩:∃bd,r.cfg.bound=bd:=⟨_,rfl⟩
  have HBD:=zh hbd
  clear hvr hnn hrr hq hza htn hbd
  go_wp2_with fail
  go_loopw [28] (fun s28 wr=>∃k:Nat,s28=.int .i64 k∧k≤n∧Hid (Below w2.heap.size w2 wr∧∀(j:Nat) p,j < k→(zC r).ring[j]?=some p→¬zGh tn bd p)) (fun s28 _=>n - (intOf s28).toNat)
  case atStart=>exact ⟨0,by go_num,Nat.zero_le _,Below.refl _ _,fun j p hj=>by omega⟩
  case round =>
   obtain ⟨k,rfl,hk,HNO⟩:=hrel
   by_cases hkl:k < n
   ·have hlt:decide ((k:Int) < (n:Int))=true:=decide_eq_true (by omega)
    obtain ⟨⟨t,l⟩,hkx⟩:∃p,(zC r).ring[k]?=some p:=⟨_,List.getElem?_eq_getElem (by rw [HN.out];exact hkl)⟩
    obtain ⟨rb,roff,hae,r0,r1⟩:=zDb (HRR.out.below HNO.out.1) hkx
    subst hae
    have hk0:(0:Int)≤(k:Int):=by omega
    have hk1:(k:Int) < (n:Int):=by omega
    have HKX:=zh hkx
    have HRW:=zh (HR2.out.grow HNO.out.1)
    have hbxw:=(HNO.out.1.block _ (zAs HBX2.out)).trans HBX2.out
    have x3:wr.cell? ⟨w.heap.size,3,none⟩=some (vs tn):=by rw [←HTN.out];exact zB hbxw rfl
    have cb:wr.cell? ⟨M,3,none⟩=some (vi bd):=by rw [←HBD.out];exact (HRW.out.cfgCells).2.2.2.1
    obtain ⟨ia,ic,hiv,_,_⟩:=(HR2.out.ids t l (List.mem_of_getElem? hkx)).form'
    rw [hiv] at r1
    obtain ⟨ln,hln⟩:∃ln,l.length=ln:=⟨_,rfl⟩
    rw [hln] at r1
    have HLN:=zh hln
    have HB3:=zh HNO.out.1
    have x3b:(wr.alloc (.cells #[vs t,.slice ia ln ic] 191)).cell? ⟨w.heap.size,3,none⟩=some (vs tn):=by rw [←x3];exact World.cell?_alloc_lt _ _ _ (zW x3)
    have cbb:(wr.alloc (.cells #[vs t,.slice ia ln ic] 191)).cell? ⟨M,3,none⟩=some (vi bd):=by rw [←cb];exact World.cell?_alloc_lt _ _ _ (zW cb)
    clear hkx hbxw hiv hln
    by_cases htt:t=tn
    ·subst htt
     have hq:=zNC t
     by_cases hbl:bd≤(ln:Int)
     ·have hge:decide ((ln:Int)≥bd)=true:=decide_eq_true hbl
      obtain ⟨d1,e1⟩:∃d1,(⟨#[114,101,106,32]⟩:ByteArray)++bs (decI id)=d1:=⟨_,rfl⟩
      obtain ⟨d2,e2⟩:∃d2,d1++(⟨#[32,102,117,108,108]⟩:ByteArray)=d2:=⟨_,rfl⟩
      have hza:=zAq id
      have hs1:d1.size=4+(bs (decI id)).size:=by rw [←e1,ByteArray.size_append];rfl
      have hstr:d2=bs (zN [wRej,decI id,zAy]):=by rw [←e2,←e1];exact zNH id zAy
      have z2:¬9223372036854775807 < d1.size+5:=by omega
      have HS:=zh (fun W (hW:MRep W ρ G M L (zC r))=>zCg hW c (zN [wRej,decI id,zAy]) (zIg _ _ _ (by decide) (by decide)) (by have:=HM.out;have:=HPP.out;omega))
      rw [←hstr] at HS
      have HE:Hid (ye r c ⟨kd,id,an,ten,txt⟩=rSay r c [wRej,decI id,zAy]):=show _=_ by
       unfold ye
       simp only []
       rw [HQN.out,if_neg (by simp),if_pos]
       rw [HTN.out,HBD.out]
       have h1:=zHx (List.mem_of_getElem? HKX.out)
       have h2:l=qOf r t:=h1.2
       rw [←h2,HLN.out]
       exact hbl
      clear hstr hs1 hza hbl
      go_wp2_with fail
      go_quiet (fail)
      go_wp2_with fail
      refine (HS.out _ ((HRW.out.alloc _).drewN nq)).mono ?_
      rintro e w3 ⟨rfl,hst⟩
      have HST:Hid (MSt w ρ G M (zC (rSay r c [wRej,decI id,zAy])) w3):=by
       have:=hst.of_fr (w:=wr) ((Fr.refl _ wr).alloc (.cells #[vs t,.slice ia ln ic] 191) |> fun f=>⟨f.os,f.tape,f.output,f.size,f.block⟩)
       exact ((this.of_fr (Fr.of_below HB3.out)).of_fr (Fr.of_below HB2.out)).st
      clear hst
      go_wp2_with fail
      refine bodyPost_ret (results_none rfl _ _ _) rfl ?_
      refine ⟨rfl,?_⟩
      rw [HE.out]
      exact HST.out
     ·have hge:decide ((ln:Int)≥bd)=false:=decide_eq_false hbl
      have HNN2:Hid (∀(j:Nat) p,j < k+1→(zC r).ring[j]?=some p→¬zGh t bd p):=zCG HNO.out.2 HKX.out (fun e=>hbl (by have:=e.2;rw [show ((t,l):ByteArray×List Int).2=l from rfl,HLN.out] at this;exact this))
      clear hbl
      go_wp2_with fail
      go_quiet (fail)
      go_wp2_with fail
      go_roundw
      case rel=>exact ⟨k+1,by go_num,by omega,zNI (HB3.out.alloc HB3.out.size _) nq,HNN2.out⟩
      case measure=>simp [intOf];omega
    ·have hq:=zIa htt
     have HNN2:Hid (∀(j:Nat) p,j < k+1→(zC r).ring[j]?=some p→¬zGh tn bd p):=zCG HNO.out.2 HKX.out (fun e=>htt e.1)
     clear htt
     go_wp2_with fail
     go_quiet (fail)
     go_wp2_with fail
     go_roundw
     case rel=>exact ⟨k+1,by go_num,by omega,zNI (HB3.out.alloc HB3.out.size _) nq,HNN2.out⟩
     case measure=>simp [intOf];omega
   ·obtain rfl:k=n:=by omega
    have hlt:decide ((k:Int) < (k:Int))=false:=by simp
    have hno:¬r.cfg.bound≤(qOf r (bs ten)).length:=zUt HI.out (fun p hp=>by
     obtain ⟨j,hj,rfl⟩:=List.getElem_of_mem hp
     rw [HTN.out,HBD.out]
     exact HNO.out.2 j _ (by rw [←HN.out];exact hj) (List.getElem?_eq_getElem hj))
    have HE:Hid (ye r c ⟨kd,id,an,ten,txt⟩=zl (rSay {r with reqs:=aset r.reqs id (xG r c ⟨kd,id,an,ten,txt⟩)} c [wAcc,decI id]) id false):=show _=_ by
     unfold ye
     simp only []
     rw [HQN.out,if_neg (by simp),if_neg hno]
     rfl
    have hrw:=HR2.out.grow HNO.out.1
    have HRW:=zh hrw
    have hbxw:=(HNO.out.1.block _ (zAs HBX2.out)).trans HBX2.out
    have HBXW:=zh hbxw
    have HFW:Hid (Fr (fun _=>False) w wr):=Fr.trans (S':=fun _=>False) (Fr.of_below HB2.out) (Fr.of_below HNO.out.1) (fun _ f=>f.elim)
    obtain ⟨qa,qc,hvq,hrq⟩:=hrw.reqsIn
    have c6:wr.cell? ⟨M,6,none⟩=some L.reqs:=hrw.cell (k:=6) rfl
    obtain ⟨qn,hqn⟩:∃qn,(zC r).reqs.length=qn:=⟨_,rfl⟩
    rw [hqn] at hvq
    rw [hvq] at c6
    have HVQ:=zh hvq
    have HQL:=zh hqn
    have hqb:qn≤1000000000000:=by have:=HM.out;have:=HNN.out;omega
    have x1:wr.cell? ⟨w.heap.size,1,none⟩=some (vi id):=zB hbxw rfl
    have x3:wr.cell? ⟨w.heap.size,3,none⟩=some (vs (bs ten)):=zB hbxw rfl
    have x4:wr.cell? ⟨w.heap.size,4,none⟩=some (vs (bs txt)):=zB hbxw rfl
    have cr:wr.cell? ⟨M,1,none⟩=some (vi r.cfg.retries):=(hrw.cfgCells).2.1
    have f6:=hrw.frozen 6
    obtain ⟨rt,hrt⟩:∃rt,r.cfg.retries=rt:=⟨_,rfl⟩
    rw [hrt] at cr
    have HRT:=zh hrt
    have HL:Hid ({zC r with reqs:=(zC r).reqs++[zS (id,xG r c ⟨kd,id,an,ten,txt⟩)]}=zC {r with reqs:=aset r.reqs id (xG r c ⟨kd,id,an,ten,txt⟩)}):=show _=_ by
     unfold zC
     simp only [RefM.mk.injEq,true_and,and_true]
     exact ⟨(zRr HQN.out _).symm,rfl⟩
    clear hno hbxw hvq hrq hqn hrw hrt HNO hnb
    go_wp2_with fail
    have HR6:Hid (MRep wr.drew ρ G M L (zC r)):=HRW.out.drew
    have HBX6:Hid (wr.drew.heap[w.heap.size]?=some (.cells #[vs (bs kd),vi id,vi an,vs (bs ten),vs (bs txt)] 151 (0,0))):=HBXW.out
    have HF6:Hid (Fr (fun _=>False) w wr.drew):=HFW.out.drew
    have HSQ:Hid (SlAt (wr.alloc (.cells #[vi id,vi c,vs (bs ten),vs (bs txt),vi 0,vi rt,.bool false] 189)).drew 189 7 (fun b=>ρ b=yB) (.slice qa qn qc) qn ((zC r).reqs.flatMap xp)):=by
     have:=(HRW.out.alloc (.cells #[vi id,vi c,vs (bs ten),vs (bs txt),vi 0,vi rt,.bool false] 189)).drew.reqs
     rw [HVQ.out,HQL.out] at this
     exact this
    have HNQ:Hid (SlAt (wr.alloc (.cells #[vi id,vi c,vs (bs ten),vs (bs txt),vi 0,vi rt,.bool false] 189)).drew 189 7 (fun b=>b=wr.heap.size) (.slice (some ⟨wr.heap.size,0,none⟩) 1 1) 1 [vi id,vi c,vs (bs ten),vs (bs txt),vi 0,vi rt,.bool false]):=(SlAt.mk_new (T:=189) (sz:=7) (n:=1) wr [vi id,vi c,vs (bs ten),vs (bs txt),vi 0,vi rt,.bool false] rfl (by simp [maxLen]) (own:=fun b=>b=wr.heap.size) rfl).of_blk (fun _ _ _=>rfl) (fun _ h _=>h)
    have HBXA:Hid ((wr.alloc (.cells #[vi id,vi c,vs (bs ten),vs (bs txt),vi 0,vi rt,.bool false] 189)).drew.heap[w.heap.size]?=some (.cells #[vs (bs kd),vi id,vi an,vs (bs ten),vs (bs txt)] 151 (0,0))):=(zP wr (zAs HBXW.out)).trans HBXW.out
    have HNB:Hid (¬Of ρ w.heap.size):=fun hb=>absurd (HH.out.dom _ hb).2 (Nat.lt_irrefl _)
    have a1:(wr.alloc (.cells #[vi id,vi c,vs (bs ten),vs (bs txt),vi 0,vi rt,.bool false] 189)).cell? ⟨w.heap.size,1,none⟩=some (vi id):=zB HBXA.out rfl
    have a3:(wr.alloc (.cells #[vi id,vi c,vs (bs ten),vs (bs txt),vi 0,vi rt,.bool false] 189)).cell? ⟨w.heap.size,3,none⟩=some (vs (bs ten)):=zB HBXA.out rfl
    have a4:(wr.alloc (.cells #[vi id,vi c,vs (bs ten),vs (bs txt),vi 0,vi rt,.bool false] 189)).cell? ⟨w.heap.size,4,none⟩=some (vs (bs txt)):=zB HBXA.out rfl
    have ar:(wr.alloc (.cells #[vi id,vi c,vs (bs ten),vs (bs txt),vi 0,vi rt,.bool false] 189)).cell? ⟨M,1,none⟩=some (vi rt):=by rw [←cr];exact World.cell?_alloc_lt _ _ _ (zW cr)
    have c6b:(wr.alloc (.cells #[vi id,vi c,vs (bs ten),vs (bs txt),vi 0,vi rt,.bool false] 189)).cell? ⟨M,6,none⟩=some (.slice qa qn qc):=by rw [←c6];exact World.cell?_alloc_lt _ _ _ (zW c6)
    clear c8
    refine zNF (S:=fun w'=>w'.cell? ⟨w.heap.size,1,none⟩=some (vi id)∧w'.cell? ⟨w.heap.size,3,none⟩=some (vs (bs ten))∧w'.cell? ⟨w.heap.size,4,none⟩=some (vs (bs txt))∧w'.cell? ⟨M,1,none⟩=some (vi rt)∧w'.cell? ⟨M,6,none⟩=some (.slice qa qn qc)) (s:=22) (by kernel_rfl) (zIe ?_)
    have hHeld:(fun w'=>w'.cell? ⟨w.heap.size,1,none⟩=some (vi id)∧w'.cell? ⟨w.heap.size,3,none⟩=some (vs (bs ten))∧w'.cell? ⟨w.heap.size,4,none⟩=some (vs (bs txt))∧w'.cell? ⟨M,1,none⟩=some (vi rt)∧w'.cell? ⟨M,6,none⟩=some (.slice qa qn qc)) wr.drew:=⟨x1,x3,x4,cr,c6⟩
    iterate 18 (refine zNG rfl (by kernel_rfl) (fun _ _ _ h=>h) hHeld (.inl ⟨by rfl,by (rintro w' ⟨s1,s2,s3,s4,s5⟩;go_simp;try with_reducible rfl)⟩) ?_;try simp only [Act.put,List.setIfInBounds_toArray,List.set_cons_zero,List.set_cons_succ,Nat.reduceAdd])
    refine zBr rfl (by kernel_rfl) (by rfl) (fun K hK=>?_)
    go_simp
    refine hK _ _ (fun _=>⟨a1,a3,a4,ar,c6b⟩) ?_
    try simp only [Act.put,List.setIfInBounds_toArray,List.set_cons_zero,List.set_cons_succ,Nat.reduceAdd]
    refine zBr rfl (by kernel_rfl) (by rfl) (fun K hK=>?_)
    refine zGC _ _ _ (by rfl) zEa (by rfl) HSQ.out (by rfl) HNQ.out (by simp [Value.oneCell']) (by unfold maxLen;omega) (by omega) ?_
    intro va2 vc2 w7 E he hf hl hs;obtain ⟨hb7,hb8⟩:=zUs (k:=6) (v:=.slice va2 (qn+1) vc2) HNB.out HBXA.out he hf HR6.out.mod.1;obtain ⟨k1,ρ8,k2,k3⟩:=zUp HR6.out (w1:=(wr.alloc (.cells #[vi id,vi c,vs (bs ten),vs (bs txt),vi 0,vi rt,.bool false] 189)).drew) ⟨rfl,rfl,rfl,by simp,fun b hb _=>zP wr hb⟩ he hf (l:=(zC r).reqs++[zS (id,xG r c ⟨kd,id,an,ten,txt⟩)]) (n:=qn+1) (by rw [List.length_append,HQL.out];rfl) (by rw [List.flatMap_append,show [zS (id,xG r c ⟨kd,id,an,ten,txt⟩)].flatMap xp=[vi id,vi c,vs (bs ten),vs (bs txt),vi 0,vi r.cfg.retries,.bool false] from rfl,HRT.out];exact hs);have c7:w7.cell? ⟨M,6,none⟩=some L.reqs:=zB k1 rfl;have f7:w7.frozen? ⟨M,6,none⟩=false:=zI k1;rw [HVQ.out] at c7;have y1:w7.cell? ⟨w.heap.size,1,none⟩=some (vi id):=zB hb7 rfl;have y3:w7.cell? ⟨w.heap.size,3,none⟩=some (vs (bs ten)):=zB hb7 rfl;have y4:w7.cell? ⟨w.heap.size,4,none⟩=some (vs (bs txt)):=zB hb7 rfl;have yr:w7.cell? ⟨M,1,none⟩=some (vi r.cfg.retries):=zB k1 rfl;rw [HRT.out] at yr;have v1:(w7.setCell ⟨M,6,none⟩ (.slice va2 (qn+1) vc2)).cell? ⟨w.heap.size,1,none⟩=some (vi id):=zB hb8 rfl;have v3:(w7.setCell ⟨M,6,none⟩ (.slice va2 (qn+1) vc2)).cell? ⟨w.heap.size,3,none⟩=some (vs (bs ten)):=zB hb8 rfl;have v4:(w7.setCell ⟨M,6,none⟩ (.slice va2 (qn+1) vc2)).cell? ⟨w.heap.size,4,none⟩=some (vs (bs txt)):=zB hb8 rfl;have vr:(w7.setCell ⟨M,6,none⟩ (.slice va2 (qn+1) vc2)).cell? ⟨M,1,none⟩=some (vi r.cfg.retries):=k2.cfgCells.2.1;rw [HRT.out] at vr;have HK2:=zh k2;have HK3:=zh k3;have HB8:=zh hb8;clear he hf hl hs k1 k2 k3 hb7 hb8
    clear hHeld
    have hHeld:(fun w'=>w'.cell? ⟨w.heap.size,1,none⟩=some (vi id)∧w'.cell? ⟨w.heap.size,3,none⟩=some (vs (bs ten))∧w'.cell? ⟨w.heap.size,4,none⟩=some (vs (bs txt))∧w'.cell? ⟨M,1,none⟩=some (vi rt)∧w'.cell? ⟨M,6,none⟩=some (.slice qa qn qc)) w7:=⟨y1,y3,y4,yr,c7⟩
    refine hK _ _ (fun _=>hHeld) ?_
    try simp only [Act.put,List.setIfInBounds_toArray,List.set_cons_zero,List.set_cons_succ,Nat.reduceAdd]
    refine zBr rfl (by kernel_rfl) (by rfl) (fun K hK=>?_)
    go_simp
    refine hK _ _ (fun _=>hHeld) ?_
    try simp only [Act.put,List.setIfInBounds_toArray,List.set_cons_zero,List.set_cons_succ,Nat.reduceAdd]
    refine zBr rfl (by kernel_rfl) (by rfl) (fun K hK=>?_)
    go_simp
    refine hK _ _ (fun _=>hHeld) ?_
    try simp only [Act.put,List.setIfInBounds_toArray,List.set_cons_zero,List.set_cons_succ,Nat.reduceAdd]
    refine zBr rfl (by kernel_rfl) (by rfl) (fun K hK=>?_)
    go_simp
    refine hK _ _ (fun h=>absurd rfl h) ?_
    refine zIf (zNE (by kernel_rfl) ?_ _)
    all_goals
     rw [HL.out] at HK2
     obtain ⟨w8,hw8⟩:∃w8,w8=w7.setCell ⟨M,6,none⟩ (.slice va2 (qn+1) vc2):=⟨_,rfl⟩
     rw [←hw8] at HK2 HK3 HB8 v1 v3 v4 vr ⊢
     have hza:=zAq id
     obtain ⟨d1,e1⟩:∃d1,(⟨#[97,99,99,32]⟩:ByteArray)++bs (decI id)=d1:=⟨_,rfl⟩
     have hstr:d1=bs (zN [wAcc,decI id]):=by rw [←e1];exact zUr id
     have hI1:=HI.out.accept (c:=c) HX.out HQN.out
     have HS:=zh (zCg HK2.out c (zN [wAcc,decI id]) (zEr _ _ (by decide)) (by have h5:(zC {r with reqs:=aset r.reqs id (xG r c ⟨kd,id,an,ten,txt⟩)}).out.length≤P:=hI1.mok.2.2.2.2.2.2.1;have:=HPP.out;omega))
     rw [←hstr] at HS
     have HI1:=zh hI1
     clear hw8 hstr hza hI1 y1 y3 y4 yr v3 v4 vr c6 c6b a1 a3 a4 ar x1 x3 x4 cr f6 f7 c7 HSQ HNQ HBXA
     go_wp2_with fail
     refine HS.out.mono ?_
     rintro e w9 ⟨rfl,hst⟩
     obtain ⟨ρ9,L9,g1,g2⟩:=zEn hst
     have hb9:=(zCl g2 HB8.out (fun hb=>by
      rcases HK3.out.own _ hb with h1 | h1
      ·exact HNB.out h1
      ·exact absurd h1 (by have:=zAs HBX6.out;omega))).1
     have hq9:aget (rSay {r with reqs:=aset r.reqs id (xG r c ⟨kd,id,an,ten,txt⟩)} c [wAcc,decI id]).reqs id=some (xG r c ⟨kd,id,an,ten,txt⟩):=by
      show aget (aset r.reqs id _) id=_
      rw [zo,if_pos rfl]
     have hI2:=HI1.out.say c [wAcc,decI id]
     have hm2:=hI2.mok
     obtain ⟨kq,hkq⟩:=zCH hq9
     have hkm:(zC (rSay {r with reqs:=aset r.reqs id (xG r c ⟨kd,id,an,ten,txt⟩)} c [wAcc,decI id])).reqs[kq]?=some (zS (id,xG r c ⟨kd,id,an,ten,txt⟩)):=by
      show ((rSay _ c _).reqs.map zS)[kq]?=_
      rw [List.getElem?_map,hkq];rfl
     have HWT:=zh (zGZ (show MRep w9 ρ9 G M L9 (zC (rSay {r with reqs:=aset r.reqs id (xG r c ⟨kd,id,an,ten,txt⟩)} c [wAcc,decI id])) from g1) false hm2.1 hkm (by have:=HNN.out;omega) (by have:=HNN.out;omega) (fun p hp=>by have:=hm2.2.2.2.2.1 p hp;have:=HNN.out;omega))
     rw [show zBD (zC (rSay {r with reqs:=aset r.reqs id (xG r c ⟨kd,id,an,ten,txt⟩)} c [wAcc,decI id])) (zS (id,xG r c ⟨kd,id,an,ten,txt⟩)).tenant (zS (id,xG r c ⟨kd,id,an,ten,txt⟩)).id false=zC (zl (rSay {r with reqs:=aset r.reqs id (xG r c ⟨kd,id,an,ten,txt⟩)} c [wAcc,decI id]) id false) from (zFx hI2 hq9 false).symm] at HWT
     have x9:w9.cell? ⟨w.heap.size,1,none⟩=some (vi id):=zB hb9 rfl
     have HG2:=zh g2
     clear hst g1 g2 hb9 hq9 hI2 hm2 hkq hkm v1
     simp only [zS] at HWT
     go_wp2_with fail
     refine HWT.out.mono ?_
     rintro e w10 ⟨rfl,hst⟩
     obtain ⟨ρ10,L10,g3,g4⟩:=zEn hst
     have HST:Hid (MSt w ρ G M (zC (zl (rSay {r with reqs:=aset r.reqs id (xG r c ⟨kd,id,an,ten,txt⟩)} c [wAcc,decI id]) id false)) w10):=⟨ρ10,L10,g3,(((Step.still HF6.out).trans HK3.out).trans HG2.out).trans g4⟩
     clear hst g3 g4
     go_wp2_with fail
     go_end0
     refine ⟨rfl,?_⟩
     rw [HE.out]
     exact HST.out
end
end Go.Proofs.YtaejfobbogahmaaGreatDoor
