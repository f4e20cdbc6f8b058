/-
  MMsg MMsgD MMsgP: texts of their own, joined.
-/
import Derived.Test.YtaejfobbogahmaaGreatDoorMkFedE
set_option maxRecDepth 100000
set_option maxHeartbeats 16000000
set_option linter.all false
namespace Go.Proofs.YtaejfobbogahmaaGreatDoor
open Go Go.RowKit
section
variable {w w' w1 w2 w3 wr:World} {ρ:Nat→Role} {G M:Nat} {L:MLay} {m:RefM}
theorem zNY (a:Int):(⟨#[110,111,110,101,32]⟩:ByteArray)++bs (decI a)=bs (zN [xk,decI a]):=by
 apply ByteArray.ext
 simp [bs,zN,xk]
theorem zVl (a:Int):(⟨#[103,111,110,101,32]⟩:ByteArray)++bs (decI a)=bs (zN [zAl,decI a]):=by
 apply ByteArray.ext
 simp [bs,zN,zAl]
theorem zVm {r:Raw} {c:Int} {m:Msg} (hk:m.kind=kSub):zQ r c m=ye r c m:=by unfold zQ;rw [hk];rfl
theorem zIq {r:Raw} {c:Int} {m:Msg} (hk:m.kind=kCan):zQ r c m=match aget r.reqs m.id with
 | some q=>if q.conn=c then zy (rSay r c [zAl,decI m.id]) m.id else rSay r c [xk,decI m.id]
 | none=>rSay r c [xk,decI m.id]:=by unfold zQ;rw [hk];rfl
theorem zVn {N P:Nat} {r:Raw} (hI:Inv N P r) (h:MRep w ρ G M L (zC r)) (c:Int) {x:Msg} (hx:xF x) (hk:x.kind=kSub) (hN:N≤1000000000) (hP:P≤1000000000) (hC:r.conns.length≤1000000000) :
 Calls Tryz.prog 155 #[vp M,vi c,.agg (zE x)] w fun e w'=>e=.returned (.tuple #[])∧MSt w ρ G M (zC (zQ r c x)) w':=by
 have HFG:=zh (fun (y:Int) (hy:0≤y∧y < 1000000000000) W=>zBO (x:=y) hy.1 hy.2 W)
 have HX:=zh hx
 have hidr:0≤x.id∧x.id < 1000000000000:=by have:=hx.id;omega
 have HI:=zh hI
 have HH:=zh h
 have HNN:=zh hN
 have HPP:=zh hP
 have HCC:=zh hC
 have HM:=zh hI.mok
 obtain ⟨kd,id,an,ten,txt⟩:=x
 simp only [zE]
 simp only at hidr hk
 have ht:(bs kd).toList=[115,117,98]:=by rw [hk];exact yp _
 have HKD:=zh hk
 have HBX:Hid ((w.alloc (.cells #[vs (bs kd),vi id,vi an,vs (bs ten),vs (bs txt)] 151)).heap[w.heap.size]?=some (.cells #[vs (bs kd),vi id,vi an,vs (bs ten),vs (bs txt)] 151 (0,0))):=zL w
 have HBW:Hid (Below w.heap.size w (w.alloc (.cells #[vs (bs kd),vi id,vi an,vs (bs ten),vs (bs txt)] 151))):=(Below.refl _ w).alloc (Nat.le_refl _) _
 clear h hI hx hN hP hC hk
 go_enter Tryz.func155,Tryz.ntmps155
 go_wp2_with fail
 refine (HFG.out _ hidr _).mono ?_
 rintro e w1 ⟨rfl,hb1⟩
 rw [World.size_alloc] at hb1
 have hbx:=(hb1.block _ (Nat.lt_succ_self _)).trans HBX.out
 have HB1:=zh (HBW.out.trans (hb1.mono (Nat.le_succ _)))
 have hr1:=HH.out.grow HB1.out
 have x1:w1.cell? ⟨w.heap.size,1,none⟩=some (vi id):=zB hbx rfl
 have HBX1:=zh hbx
 have HR1:=zh hr1
 have HRQ:=zh (zCO hr1 id (by have:=HM.out;have:=HNN.out;omega))
 clear hb1 hbx hr1 HBX HBW
 go_wp2_with fail
 refine HRQ.out.mono ?_
 rintro e w2 ⟨v,rfl,hf,hb2⟩
 have hbx:=(hb2.block _ (zAs HBX1.out)).trans HBX1.out
 have HB2:=zh (HB1.out.trans (hb2.mono HB1.out.size))
 have HR2:=zh (HR1.out.grow hb2)
 have HBX2:=zh hbx
 have y0:w2.cell? ⟨w.heap.size,0,none⟩=some (vs (bs kd)):=zB hbx rfl
 have y1:w2.cell? ⟨w.heap.size,1,none⟩=some (vi id):=zB hbx rfl
 have y2:w2.cell? ⟨w.heap.size,2,none⟩=some (vi an):=zB hbx rfl
 have y3:w2.cell? ⟨w.heap.size,3,none⟩=some (vs (bs ten)):=zB hbx rfl
 have y4:w2.cell? ⟨w.heap.size,4,none⟩=some (vs (bs txt)):=zB hbx rfl
 have hfr:=zFv HI.out.q.kreq hf
 clear hf hb2 hbx HRQ x1
 have HSB:=zh (zUu HI.out HR2.out c (x:=⟨kd,id,an,ten,txt⟩) HX.out (by have:=HNN.out;omega) (by have:=HPP.out;omega))
 simp only [zE] at HSB
 have HE:Hid (zQ r c ⟨kd,id,an,ten,txt⟩=ye r c ⟨kd,id,an,ten,txt⟩):=zVm HKD.out
 clear hfr
 go_wp2_with fail
 refine HSB.out.mono ?_
 rintro e w3 ⟨rfl,hst⟩
 have HST:=zh (hst.of_fr (Fr.of_below HB2.out))
 clear hst
 go_wp2_with fail
 go_end0
 refine ⟨rfl,?_⟩
 rw [HE.out]
 exact HST.out
theorem zVo {N P:Nat} {r:Raw} (hI:Inv N P r) (h:MRep w ρ G M L (zC r)) (c:Int) {x:Msg} (hx:xF x) (hk:x.kind=kCan) (hN:N≤1000000000) (hP:P≤1000000000) (hC:r.conns.length≤1000000000) :
 Calls Tryz.prog 155 #[vp M,vi c,.agg (zE x)] w fun e w'=>e=.returned (.tuple #[])∧MSt w ρ G M (zC (zQ r c x)) w':=by
 have HFG:=zh (fun (y:Int) (hy:0≤y∧y < 1000000000000) W=>zBO (x:=y) hy.1 hy.2 W)
 have HX:=zh hx
 have hidr:0≤x.id∧x.id < 1000000000000:=by have:=hx.id;omega
 have HI:=zh hI
 have HH:=zh h
 have HNN:=zh hN
 have HPP:=zh hP
 have HCC:=zh hC
 have HM:=zh hI.mok
 obtain ⟨kd,id,an,ten,txt⟩:=x
 simp only [zE]
 simp only at hidr hk
 have ht:(bs kd).toList=[99,97,110]:=by rw [hk];exact yp _
 have HKD:=zh hk
 have HBX:Hid ((w.alloc (.cells #[vs (bs kd),vi id,vi an,vs (bs ten),vs (bs txt)] 151)).heap[w.heap.size]?=some (.cells #[vs (bs kd),vi id,vi an,vs (bs ten),vs (bs txt)] 151 (0,0))):=zL w
 have HBW:Hid (Below w.heap.size w (w.alloc (.cells #[vs (bs kd),vi id,vi an,vs (bs ten),vs (bs txt)] 151))):=(Below.refl _ w).alloc (Nat.le_refl _) _
 clear h hI hx hN hP hC hk
 go_enter Tryz.func155,Tryz.ntmps155
 go_wp2_with fail
 refine (HFG.out _ hidr _).mono ?_
 rintro e w1 ⟨rfl,hb1⟩
 rw [World.size_alloc] at hb1
 have hbx:=(hb1.block _ (Nat.lt_succ_self _)).trans HBX.out
 have HB1:=zh (HBW.out.trans (hb1.mono (Nat.le_succ _)))
 have hr1:=HH.out.grow HB1.out
 have x1:w1.cell? ⟨w.heap.size,1,none⟩=some (vi id):=zB hbx rfl
 have HBX1:=zh hbx
 have HR1:=zh hr1
 have HRQ:=zh (zCO hr1 id (by have:=HM.out;have:=HNN.out;omega))
 clear hb1 hbx hr1 HBX HBW
 go_wp2_with fail
 refine HRQ.out.mono ?_
 rintro e w2 ⟨v,rfl,hf,hb2⟩
 have hbx:=(hb2.block _ (zAs HBX1.out)).trans HBX1.out
 have HB2:=zh (HB1.out.trans (hb2.mono HB1.out.size))
 have HR2:=zh (HR1.out.grow hb2)
 have HBX2:=zh hbx
 have y0:w2.cell? ⟨w.heap.size,0,none⟩=some (vs (bs kd)):=zB hbx rfl
 have y1:w2.cell? ⟨w.heap.size,1,none⟩=some (vi id):=zB hbx rfl
 have y2:w2.cell? ⟨w.heap.size,2,none⟩=some (vi an):=zB hbx rfl
 have y3:w2.cell? ⟨w.heap.size,3,none⟩=some (vs (bs ten)):=zB hbx rfl
 have y4:w2.cell? ⟨w.heap.size,4,none⟩=some (vs (bs txt)):=zB hbx rfl
 have hfr:=zFv HI.out.q.kreq hf
 clear hf hb2 hbx HRQ x1
 rcases hfr with ⟨k,q,rfl,hq,hqm,hqi⟩ | ⟨rfl,hq⟩
 ·obtain ⟨qa,qc,hvq,hrq⟩:=HR2.out.reqsIn
  have c6:w2.cell? ⟨M,6,none⟩=some L.reqs:=HR2.out.cell (k:=6) rfl
  obtain ⟨qn,hqn⟩:∃qn,(zC r).reqs.length=qn:=⟨_,rfl⟩
  rw [hqn] at hvq
  rw [hvq] at c6
  obtain ⟨qb,qoff,rfl,_,q1a,_,_,_,_,_⟩:=zAX hrq hqm
  have hkl:=(List.getElem?_eq_some_iff.1 hqm).1
  have hk0:(0:Int)≤(k:Int):=by omega
  have hk1:(k:Int) < (qn:Int):=by omega
  have hlt:decide ((k:Int) < 0)=false:=decide_eq_false (by omega)
  have q1:w2.cell? ⟨qb,qoff+k*7+1,none⟩=some (vi q.conn):=q1a
  have HQ:=zh hq
  clear q1a hvq hrq hqn hqm hqi hkl hq
  by_cases hcc:q.conn=c
  ·have hb2:(q.conn != c)=false:=by rw [hcc];simp
   have HE:Hid (zQ r c ⟨kd,id,an,ten,txt⟩=zy (rSay r c [zAl,decI id]) id):=show _=_ by rw [zIq HKD.out];simp only [];rw [HQ.out];simp only [];rw [if_pos hcc]
   obtain ⟨d1,e1⟩:∃d1,(⟨#[103,111,110,101,32]⟩:ByteArray)++bs (decI id)=d1:=⟨_,rfl⟩
   have hstr:d1=bs (zN [zAl,decI id]):=by rw [←e1];exact zVl id
   have hza:=zAq id
   have z1:¬9223372036854775807 < 5+(bs (decI id)).size:=by omega
   have HS:=zh (zCg HR2.out c (zN [zAl,decI id]) (zEr _ _ (by decide)) (by have:=HM.out;have:=HPP.out;omega))
   rw [←hstr] at HS
   clear hstr hza
   go_wp2_with fail
   refine HS.out.mono ?_
   rintro e w3 ⟨rfl,hst⟩
   obtain ⟨ρ3,L3,g1,g2⟩:=zEn hst
   have hb3:=(zCl g2 HBX2.out (fun hb=>absurd (HH.out.dom _ hb).2 (Nat.lt_irrefl _))).1
   have x3:w3.cell? ⟨w.heap.size,1,none⟩=some (vi id):=zB hb3 rfl
   have HSH:=zh (zGf (HI.out.say c [zAl,decI id]) (show MRep w3 ρ3 G M L3 (zC (rSay r c [zAl,decI id])) from g1) (id:=id) (q:=q) HQ.out (by have:=HNN.out;omega) (by have:=HPP.out;omega) (by show r.conns.length≤_;have:=HCC.out;omega))
   have HG2:=zh g2
   clear hst g1 g2 hb3 y0 y1 y2 y3 y4 c6 q1
   go_wp2_with fail
   refine HSH.out.mono ?_
   rintro e w4 ⟨rfl,hst⟩
   have HST:Hid (MSt w ρ G M (zC (zy (rSay r c [zAl,decI id]) id)) w4):=by
    obtain ⟨ρ4,L4,g3,g4⟩:=hst
    exact ⟨ρ4,L4,g3,((Step.still (Fr.of_below HB2.out)).trans HG2.out).trans g4⟩
   clear hst
   go_wp2_with fail
   go_end0
   refine ⟨rfl,?_⟩
   rw [HE.out]
   exact HST.out
  ·have hb2:(q.conn != c)=true:=by rw [bne_iff_ne];exact hcc
   have HE:Hid (zQ r c ⟨kd,id,an,ten,txt⟩=rSay r c [xk,decI id]):=show _=_ by rw [zIq HKD.out];simp only [];rw [HQ.out];simp only [];rw [if_neg hcc]
   obtain ⟨d1,e1⟩:∃d1,(⟨#[110,111,110,101,32]⟩:ByteArray)++bs (decI id)=d1:=⟨_,rfl⟩
   have hstr:d1=bs (zN [xk,decI id]):=by rw [←e1];exact zNY id
   have hza:=zAq id
   have z1:¬9223372036854775807 < 5+(bs (decI id)).size:=by omega
   have HS:=zh (zCg HR2.out c (zN [xk,decI id]) (zEr _ _ (by decide)) (by have:=HM.out;have:=HPP.out;omega))
   rw [←hstr] at HS
   clear hstr hza
   go_wp2_with fail
   refine HS.out.mono ?_
   rintro e w3 ⟨rfl,hst⟩
   have HST:Hid (MSt w ρ G M (zC (rSay r c [xk,decI id])) w3):=(hst.of_fr (Fr.of_below HB2.out)).st
   clear hst
   go_wp2_with fail
   refine bodyPost_ret (results_none rfl _ _ _) rfl ?_
   refine ⟨rfl,?_⟩
   rw [HE.out]
   exact HST.out
 ·have HE:Hid (zQ r c ⟨kd,id,an,ten,txt⟩=rSay r c [xk,decI id]):=show _=_ by rw [zIq HKD.out];simp only [];rw [hq]
  clear hq
  obtain ⟨d1,e1⟩:∃d1,(⟨#[110,111,110,101,32]⟩:ByteArray)++bs (decI id)=d1:=⟨_,rfl⟩
  have hstr:d1=bs (zN [xk,decI id]):=by rw [←e1];exact zNY id
  have hza:=zAq id
  have z1:¬9223372036854775807 < 5+(bs (decI id)).size:=by omega
  have HS:=zh (zCg HR2.out c (zN [xk,decI id]) (zEr _ _ (by decide)) (by have:=HM.out;have:=HPP.out;omega))
  rw [←hstr] at HS
  clear hstr hza
  go_wp2_with fail
  refine HS.out.mono ?_
  rintro e w3 ⟨rfl,hst⟩
  have HST:Hid (MSt w ρ G M (zC (rSay r c [xk,decI id])) w3):=(hst.of_fr (Fr.of_below HB2.out)).st
  clear hst
  go_wp2_with fail
  refine bodyPost_ret (results_none rfl _ _ _) rfl ?_
  refine ⟨rfl,?_⟩
  rw [HE.out]
  exact HST.out
end
section
variable {w w' w1 w2 w3 wr:World} {ρ:Nat→Role} {G M:Nat} {L:MLay} {m:RefM}
theorem zVp (a:Int) (t:zA):(⟨#[118,97,108,32]⟩:ByteArray)++bs (decI a)++(⟨#[32]⟩:ByteArray)++bs t=bs (zN [wVal,decI a,t]):=by
 apply ByteArray.ext
 simp [bs,zN,wVal]
theorem zIr {r:Raw} {c:Int} {m:Msg} (hk:m.kind=xM):zQ r c m=match rAtt r m.id m.att c,aget r.reqs m.id with
 | some a,some q=>zy (rEnd (rSay r q.conn [wVal,decI m.id,m.text]) a) m.id
 | _,_=>r:=by unfold zQ;rw [hk];rfl
theorem zNZ {m':RefM} {B:Nat} {o:Obj} (h:MStO w ρ G M L m' w') (hB:w.heap[B]?=some o) (hn:¬Of ρ B):w'.heap[B]?=some o:=by
 obtain ⟨ρ',v,_,h2⟩:=h
 exact (zCl h2 hB hn).1
theorem zNa {mB:RefM} {LB:MLay} {c:Int} {str:zA} (h:MStO w ρ G M LB (mSay mB c str) w') {b off n cap kq:Nat} {x:MReq} (hv:LB.reqs=.slice (some ⟨b,off,none⟩) n cap) (hk:mB.reqs[kq]?=some x) :
 w'.cell? ⟨M,6,none⟩=some (.slice (some ⟨b,off,none⟩) n cap)∧w'.cell? ⟨b,off+kq*7+1,none⟩=some (vi x.conn):=by
 obtain ⟨ρ',v,h1,_⟩:=h
 obtain ⟨qb',qoff',hae,_,q1,_⟩:=zAX (zCU h1 hv) (show (mSay mB c str).reqs[kq]?=_ from hk)
 injection hae with hae
 injection hae with hae1 hae2
 subst hae1;subst hae2
 have c6:w'.cell? ⟨M,6,none⟩=some LB.reqs:=h1.cell (k:=6) rfl
 rw [hv] at c6
 exact ⟨c6,q1⟩
theorem zVq {N P:Nat} {r:Raw} (hI:Inv N P r) (h:MRep w ρ G M L (zC r)) (c:Int) {x:Msg} (hx:xF x) (hk:x.kind=xM) (hN:N≤1000000000) (hP:P≤1000000000) (hC:r.conns.length≤1000000000) :
 Calls Tryz.prog 155 #[vp M,vi c,.agg (zE x)] w fun e w'=>e=.returned (.tuple #[])∧MSt w ρ G M (zC (zQ r c x)) w':=by
 have HFG:=zh (fun (y:Int) (hy:0≤y∧y < 1000000000000) W=>zBO (x:=y) hy.1 hy.2 W)
 have HX:=zh hx
 have hidr:0≤x.id∧x.id < 1000000000000:=by have:=hx.id;omega
 have HI:=zh hI
 have HH:=zh h
 have HNN:=zh hN
 have HPP:=zh hP
 have HCC:=zh hC
 have HM:=zh hI.mok
 obtain ⟨kd,id,an,ten,txt⟩:=x
 simp only [zE]
 simp only at hidr hk
 have ht:(bs kd).toList=[100,111,110,101]:=by rw [hk];exact yp _
 have HKD:=zh hk
 have HBX:Hid ((w.alloc (.cells #[vs (bs kd),vi id,vi an,vs (bs ten),vs (bs txt)] 151)).heap[w.heap.size]?=some (.cells #[vs (bs kd),vi id,vi an,vs (bs ten),vs (bs txt)] 151 (0,0))):=zL w
 have HBW:Hid (Below w.heap.size w (w.alloc (.cells #[vs (bs kd),vi id,vi an,vs (bs ten),vs (bs txt)] 151))):=(Below.refl _ w).alloc (Nat.le_refl _) _
 clear h hI hx hN hP hC hk
 go_enter Tryz.func155,Tryz.ntmps155
 go_wp2_with fail
 refine (HFG.out _ hidr _).mono ?_
 rintro e w1 ⟨rfl,hb1⟩
 rw [World.size_alloc] at hb1
 have hbx:=(hb1.block _ (Nat.lt_succ_self _)).trans HBX.out
 have HB1:=zh (HBW.out.trans (hb1.mono (Nat.le_succ _)))
 have hr1:=HH.out.grow HB1.out
 have x1:w1.cell? ⟨w.heap.size,1,none⟩=some (vi id):=zB hbx rfl
 have HBX1:=zh hbx
 have HR1:=zh hr1
 have HRQ:=zh (zCO hr1 id (by have:=HM.out;have:=HNN.out;omega))
 clear hb1 hbx hr1 HBX HBW
 go_wp2_with fail
 refine HRQ.out.mono ?_
 rintro e w2 ⟨v,rfl,hf,hb2⟩
 have hbx:=(hb2.block _ (zAs HBX1.out)).trans HBX1.out
 have HB2:=zh (HB1.out.trans (hb2.mono HB1.out.size))
 have HR2:=zh (HR1.out.grow hb2)
 have HBX2:=zh hbx
 have y0:w2.cell? ⟨w.heap.size,0,none⟩=some (vs (bs kd)):=zB hbx rfl
 have y1:w2.cell? ⟨w.heap.size,1,none⟩=some (vi id):=zB hbx rfl
 have y2:w2.cell? ⟨w.heap.size,2,none⟩=some (vi an):=zB hbx rfl
 have y3:w2.cell? ⟨w.heap.size,3,none⟩=some (vs (bs ten)):=zB hbx rfl
 have y4:w2.cell? ⟨w.heap.size,4,none⟩=some (vs (bs txt)):=zB hbx rfl
 have hfr:=zFv HI.out.q.kreq hf
 clear hf hb2 hbx HRQ x1
 have HAT:=zh (zLW HR2.out id an (by have:=HM.out;have:=HPP.out;omega))
 have HFR:=zh hfr
 clear hfr
 go_wp2_with fail
 refine HAT.out.mono ?_
 rintro e w3 ⟨u,rfl,hf,hb3⟩
 have hbx3:=(hb3.block _ (zAs HBX2.out)).trans HBX2.out
 have HB3:=zh (HB2.out.trans (hb3.mono HB2.out.size))
 have HR3:=zh (HR2.out.grow hb3)
 have HBX3:=zh hbx3
 have x1:w3.cell? ⟨w.heap.size,1,none⟩=some (vi id):=zB hbx3 rfl
 have x4:w3.cell? ⟨w.heap.size,4,none⟩=some (vs (bs txt)):=zB hbx3 rfl
 clear y0 y1 y2 y3 y4 hb3 hbx3
 have HRST:Hid (MSt w ρ G M (zC r) w3):=⟨ρ,L,HR3.out,Step.still (Fr.of_below HB3.out)⟩
 rcases hf with ⟨i,y,rfl,hiy,⟨hy1,hy2⟩,_⟩ | ⟨rfl,hno⟩
 ·obtain ⟨a,hai,rfl⟩:=zDp hiy
  obtain ⟨q',hq',_⟩:=HI.out.a.areq a (List.mem_of_getElem? hai)
  rcases HFR.out with ⟨k,q,rfl,hq,hqm,hqi⟩ | ⟨_,hq⟩
  ·obtain ⟨aa,ac,hva,har⟩:=HR3.out.attsIn
   have c7:w3.cell? ⟨M,7,none⟩=some L.atts:=HR3.out.cell (k:=7) rfl
   obtain ⟨na,hna⟩:∃na,(zC r).atts.length=na:=⟨_,rfl⟩
   rw [hva,hna] at c7
   obtain ⟨ab,aoff,rfl,_,_,a2a,_,_⟩:=zAD har hiy
   have a2:w3.cell? ⟨ab,aoff+i*5+2,none⟩=some (vi a.conn):=a2a
   have hil:=(List.getElem?_eq_some_iff.1 hiy).1
   have hi0:(0:Int)≤(i:Int):=by omega
   have hi1:(i:Int) < (na:Int):=by omega
   have hge:decide ((i:Int)≥0)=true:=decide_eq_true hi0
   have HRA:=zh (zMs HI.out (c:=c) hai hy1 hy2)
   have HAI:=zh hai
   have HIY:=zh hiy
   have HQ:=zh hq
   have HQM:=zh hqm
   have hy1':a.id=id:=hy1
   have HY1:=zh hy1'
   by_cases hcc:a.conn=c
   ·have hbq:(a.conn==c)=true:=by rw [hcc];simp
    have HCA:=zh hcc
    have HE:Hid (zQ r c ⟨kd,id,an,ten,txt⟩=zy (rEnd (rSay r q.conn [wVal,decI id,txt]) a) id):=show _=_ by
     rw [zIr HKD.out];simp only [];rw [HRA.out,if_pos hcc,HQ.out]
    obtain ⟨qa,qc,hvq,hrq⟩:=HR3.out.reqsIn
    have c6:w3.cell? ⟨M,6,none⟩=some L.reqs:=HR3.out.cell (k:=6) rfl
    obtain ⟨qn,hqn⟩:∃qn,(zC r).reqs.length=qn:=⟨_,rfl⟩
    rw [hqn] at hvq
    rw [hvq] at c6
    obtain ⟨qb,qoff,rfl,_,q1a,_,_,_,_,_⟩:=zAX hrq hqm
    have hkl:=(List.getElem?_eq_some_iff.1 hqm).1
    have hk0:(0:Int)≤(k:Int):=by omega
    have hk1:(k:Int) < (qn:Int):=by omega
    have q1:w3.cell? ⟨qb,qoff+k*7+1,none⟩=some (vi q.conn):=q1a
    have HVQ:=zh hvq
    obtain ⟨d1,e1⟩:∃d1,(⟨#[118,97,108,32]⟩:ByteArray)++bs (decI id)=d1:=⟨_,rfl⟩
    obtain ⟨d2,e2⟩:∃d2,d1++(⟨#[32]⟩:ByteArray)=d2:=⟨_,rfl⟩
    obtain ⟨d3,e3⟩:∃d3,d2++bs txt=d3:=⟨_,rfl⟩
    have hza:=zAq id
    have hzt:(bs txt).size≤80:=by rw [yP];exact HX.out.text
    have hs1:d1.size=4+(bs (decI id)).size:=by rw [←e1,ByteArray.size_append];rfl
    have hs2:d2.size=d1.size+1:=by rw [←e2,ByteArray.size_append];rfl
    have hstr:d3=bs (zN [wVal,decI id,txt]):=by rw [←e3,←e2,←e1];exact zVp id txt
    have z1:¬9223372036854775807 < 4+(bs (decI id)).size:=by omega
    have z2:¬9223372036854775807 < d1.size+1:=by omega
    have z3:¬9223372036854775807 < d2.size+(bs txt).size:=by omega
    have HS:=zh (zDe HR3.out.drew q.conn (zN [wVal,decI id,txt]) (zIg _ _ _ (by decide) HX.out.text) (by have:=HM.out;have:=HPP.out;omega))
    rw [←hstr] at HS
    clear q1a a2a hvq hrq hqn hqm hqi hkl hq hva har hna hil hai hiy hy1 hy2 hcc hstr hza hzt hs1 hs2 hy1' hq'
    have HNB:Hid (¬Of ρ w.heap.size):=fun hb=>absurd (HH.out.dom _ hb).2 (Nat.lt_irrefl _)
    go_wp2_with fail
    go_region_held3 (fun w'=>w'.cell? ⟨M,6,none⟩=some (.slice (some ⟨qb,qoff,none⟩) qn qc)∧w'.cell? ⟨qb,qoff+k*7+1,none⟩=some (vi q.conn)∧w'.cell? ⟨w.heap.size,4,none⟩=some (vs (bs txt))) (go_keep) ((go_at_call 118;refine HS.out.mono ?_;rintro e w4 ⟨rfl,hst⟩;obtain ⟨c6d,q1e⟩:=zNa hst HVQ.out HQM.out;have q1d:w4.cell? ⟨qb,qoff+k*7+1,none⟩=some (vi q.conn):=q1e;clear q1e;have hb4:=zNZ hst (show w3.drew.heap[w.heap.size]?=_ from HBX3.out) HNB.out;have x4d:w4.cell? ⟨w.heap.size,4,none⟩=some (vs (bs txt)):=zB hb4 rfl;have HST:=zh hst;have HB4:=zh hb4;clear hst hb4))
    all_goals
     obtain ⟨ρ4,v4,g1,g2⟩:=HST.out
     have hI4:=HI.out.say q.conn [wVal,decI id,txt]
     have HEN:=zh (zDf (show MRep w4 ρ4 G M _ (zC (rSay r q.conn [wVal,decI id,txt])) from g1) (i:=i) (x:=zV a) HIY.out hI4.mok.2.1 (by show (r.conns.map yt).length≤_;rw [List.length_map];have:=HCC.out;omega) (by have h5:(zC (rSay r q.conn [wVal,decI id,txt])).atts.length≤P+1:=hI4.mok.2.2.2.2.2.1;have:=HPP.out;omega) (by have h5:(zC (rSay r q.conn [wVal,decI id,txt])).out.length≤P+1:=hI4.mok.2.2.2.2.2.2.1;have:=HPP.out;omega))
     have hen:mEnd (zC (rSay r q.conn [wVal,decI id,txt])) i (zV a).conn=zC (rEnd (rSay r q.conn [wVal,decI id,txt]) a):=zDq hI4 (a:=a) HAI.out
     rw [hen] at HEN
     have hnb4:=(zCl g2 (show w3.drew.heap[w.heap.size]?=_ from HBX3.out) HNB.out).2
     have HNB4:=zh hnb4
     have HG2:Hid (Step ρ ρ4 w3 w4):=g2.ofDrew
     have HI4:=zh hI4
     clear g1 g2 hI4 hen hnb4 c6d q1d x4d c6 q1 c7 a2 x1 x4 e1 e2 e3 z1 z2 z3
     go_wp2_with fail
     refine HEN.out.mono ?_
     rintro e w5 ⟨rfl,hst5⟩
     obtain ⟨ρ5,L5,k1,k2⟩:=hst5
     have hb5:=(zCl k2 HB4.out HNB4.out).1
     have x5:w5.cell? ⟨w.heap.size,1,none⟩=some (vi id):=zB hb5 rfl
     have HSH:=zh (zGf (HI4.out.end (List.mem_of_getElem? HAI.out)) k1 (id:=id) (q:=q) (by rw [zBJ];exact HQ.out) (by have:=HNN.out;omega) (by have:=HPP.out;omega) (by rw [zBp];show r.conns.length≤_;have:=HCC.out;omega))
     have HK2:=zh k2
     clear k1 k2 hb5
     go_wp2_with fail
     refine HSH.out.mono ?_
     rintro e w6 ⟨rfl,hst6⟩
     have HFIN:Hid (MSt w ρ G M (zC (zy (rEnd (rSay r q.conn [wVal,decI id,txt]) a) id)) w6):=by
      obtain ⟨ρ6,L6,p1,p2⟩:=hst6
      exact ⟨ρ6,L6,p1,(((Step.still (Fr.of_below HB3.out)).trans HG2.out).trans HK2.out).trans p2⟩
     clear hst6
     go_wp2_with fail
     go_end0
     refine ⟨rfl,?_⟩
     rw [HE.out]
     exact HFIN.out
   ·have hbq:(a.conn==c)=false:=beq_eq_false_iff_ne.2 hcc
    have hbq2:decide (a.conn=c)=false:=decide_eq_false hcc
    have HE:Hid (zQ r c ⟨kd,id,an,ten,txt⟩=r):=show _=_ by rw [zIr HKD.out];simp only [];rw [HRA.out,if_neg hcc]
    clear a2a hva har hna hil hai hiy hy1 hy2 hcc hy1' hq' hq hqm hqi
    go_wp2_with fail
    go_end0
    refine ⟨rfl,?_⟩
    rw [HE.out]
    exact HRST.out
  ·exfalso
   rw [show a.id=id from hy1,hq] at hq'
   cases hq'
 ·have HE:Hid (zQ r c ⟨kd,id,an,ten,txt⟩=r):=show _=_ by rw [zIr HKD.out];simp only [];rw [zMt hno]
  clear hno
  go_wp2_with fail
  go_end0
  refine ⟨rfl,?_⟩
  rw [HE.out]
  exact HRST.out
end
section
variable {w w' w1 w2 w3 wr:World} {ρ:Nat→Role} {G M:Nat} {L:MLay} {m:RefM}
theorem zVr {r:Raw} {c:Int} {m:Msg} (hk:m.kind=xh):zQ r c m=zAP r c:=by unfold zQ;rw [hk];rfl
theorem zNb {r:Raw} {c:Int} (hc:zd r c=true) {x:Cn} (hx:aget r.conns c=some x):zAP r c=if !x.drains&&!r.waiting.contains c then {r with waiting:=r.waiting++[c]} else r:=by
 unfold zAP
 rw [zDH hc]
 simp only []
 rw [hx]
theorem zVs {r:Raw} {c:Int} (hc:zd r c=true) (h:r.waiting.contains c=true):zAP r c=r:=by
 obtain ⟨x,hx⟩:=Option.isSome_iff_exists.1 (show (aget r.conns c).isSome=true from hc)
 rw [zNb hc hx,h];simp
theorem zVt {l:List Int} {k:Nat} {y:Int} (c:Int) (hk:l[k]?=some y):(l.take (k+1)).contains c=((l.take k).contains c||(y==c)):=by
 rw [List.take_add_one,hk,Bool.eq_iff_iff,List.contains_iff_mem,Bool.or_eq_true,List.contains_iff_mem,beq_iff_eq]
 show c∈l.take k++[y]↔_
 rw [List.mem_append,List.mem_singleton]
 exact or_congr Iff.rfl eq_comm
theorem zNc {LB:MLay} {mB:RefM} (h:MRep w ρ G M LB mB) {b off cap k:Nat} {x:MCn} (hv:LB.conns=.slice (some ⟨b,off,none⟩) mB.conns.length cap) (hk:mB.conns[k]?=some x) :
 w.cell? ⟨b,off+k*4+2,none⟩=some (.bool x.drains)∧w.frozen? ⟨b,off+k*4+2,none⟩=false:=by
 have h1:=h.conns
 rw [hv] at h1
 have hkl:=(List.getElem?_eq_some_iff.1 hk).1
 obtain ⟨b',off',cap',hv',_,_,_,_,hcc,hff⟩:=h1.form (by omega)
 injection hv' with e1 e2 e3
 injection e1 with e1
 injection e1 with e4 e5
 subst e4;subst e5
 refine ⟨?_,hff _⟩
 have:=hcc (k*4+2) _ (by rw [zCf,zBU zDZ _ k 2 x hk (by decide)];rfl)
 rw [Nat.add_assoc]
 exact this
theorem zVu (h:MRep w ρ G M L m) (hf1:Fr (fun _=>False) w w1) {E:Nat→Prop} (hE:∀b,E b→ρ b=yQ∨b=w1.heap.size) (hf2:Fr E w1 w2) {v:Value} {l:List Int} {n:Nat} (hn:n=l.length) (hs:SlAt w2 3 1 E v n (l.map encI)) :
 w2.heap[M]?=some (.cells (yS L m.cfg m.now) 179 (0,0))∧∃ρ',MRep (w2.setCell ⟨M,9,none⟩ v) ρ' G M {L with waiting:=v} {m with waiting:=l}∧Step ρ ρ' w (w2.setCell ⟨M,9,none⟩ v):=by
 have r1:=h.of_fr hf1 (fun _ f=>f.elim)
 have hsz:=hf1.size
 have hE2:∀b,E b→ρ b=yQ∨w.heap.size≤b:=fun b hb=>(hE b hb).imp (fun e=>e) (fun e=>by omega)
 have hEM:¬E M:=fun hb=>by
  rcases hE2 M hb with e | e
  ·rw [h.mod.1] at e;exact absurd (congrArg Role.tag e) (by decide)
  ·have:=h.size;omega
 have hM:w2.heap[M]?=some (.cells (yS L m.cfg m.now) 179 (0,0)):=(hf2.block M r1.size.2 hEM).trans r1.mod.2
 refine ⟨hM,?_⟩
 have hfr:Fr (fun b=>b=M∨E b) w (w2.setCell ⟨M,9,none⟩ v):=((Fr.mono hf1 (fun _ f=>f.elim)).trans (hf2.mono (fun x hx=>.inl (.inr hx))) (fun x hx=>.inl hx)).setCell _ _ (.inl (.inl rfl))
 exact h.put_waitingE (own:=E) (S:=fun b=>b=M∨E b) hE2 (zM w2 hM) (by
  subst hn
  exact hs.of_blk (fun b hb _=>zJ w2 (fun e=>hEM (by have e:b=M:=e;rw [←e];exact hb))) (fun _ hb _=>hb)) hfr (fun b hb=>hb.imp (fun e=>e) (hE2 b))
theorem zVv {N P:Nat} {r:Raw} (hI:Inv N P r) (h:MRep w ρ G M L (zC r)) (c:Int) {x:Msg} (hx:xF x) (hk:x.kind=xh) (hc:zd r c=true) (hN:N≤1000000000) (hP:P≤1000000000) (hC:r.conns.length≤1000000000) :
 Calls Tryz.prog 155 #[vp M,vi c,.agg (zE x)] w fun e w'=>e=.returned (.tuple #[])∧MSt w ρ G M (zC (zQ r c x)) w':=by
 have HFG:=zh (fun (y:Int) (hy:0≤y∧y < 1000000000000) W=>zBO (x:=y) hy.1 hy.2 W)
 have hidr:0≤x.id∧x.id < 1000000000000:=by have:=hx.id;omega
 have HI:=zh hI
 have HH:=zh h
 have HC:=zh hc
 have HNN:=zh (And.intro hN (And.intro hP hC))
 have HM:=zh hI.mok
 obtain ⟨kd,id,an,ten,txt⟩:=x
 simp only [zE]
 simp only at hidr hk
 have ht:(bs kd).toList=[112,117,108,108]:=by rw [hk];exact yp _
 have HKD:=zh hk
 have HBX:Hid ((w.alloc (.cells #[vs (bs kd),vi id,vi an,vs (bs ten),vs (bs txt)] 151)).heap[w.heap.size]?=some (.cells #[vs (bs kd),vi id,vi an,vs (bs ten),vs (bs txt)] 151 (0,0))):=zL w
 have HBW:Hid (Below w.heap.size w (w.alloc (.cells #[vs (bs kd),vi id,vi an,vs (bs ten),vs (bs txt)] 151))):=(Below.refl _ w).alloc (Nat.le_refl _) _
 clear h hI hx hN hP hC hk hc
 go_enter Tryz.func155,Tryz.ntmps155
 go_wp2_with fail
 refine (HFG.out _ hidr _).mono ?_
 rintro e w1 ⟨rfl,hb1⟩
 rw [World.size_alloc] at hb1
 have hbx:=(hb1.block _ (Nat.lt_succ_self _)).trans HBX.out
 have HB1:=zh (HBW.out.trans (hb1.mono (Nat.le_succ _)))
 have hr1:=HH.out.grow HB1.out
 have x1:w1.cell? ⟨w.heap.size,1,none⟩=some (vi id):=zB hbx rfl
 have HBX1:=zh hbx
 have HR1:=zh hr1
 have HRQ:=zh (zCO hr1 id (by have:=HM.out;have:=HNN.out;omega))
 clear hb1 hbx hr1 HBX HBW
 go_wp2_with fail
 refine HRQ.out.mono ?_
 rintro e w2 ⟨v,rfl,hf,hb2⟩
 have hbx:=(hb2.block _ (zAs HBX1.out)).trans HBX1.out
 have HB2:=zh (HB1.out.trans (hb2.mono HB1.out.size))
 have HR2:=zh (HR1.out.grow hb2)
 have HBX2:=zh hbx
 have y0:w2.cell? ⟨w.heap.size,0,none⟩=some (vs (bs kd)):=zB hbx rfl
 have y1:w2.cell? ⟨w.heap.size,1,none⟩=some (vi id):=zB hbx rfl
 have y2:w2.cell? ⟨w.heap.size,2,none⟩=some (vi an):=zB hbx rfl
 have HRST:Hid (MSt w ρ G M (zC r) w2):=⟨ρ,L,HR2.out,Step.still (Fr.of_below HB2.out)⟩
 have HE:Hid (zQ r c ⟨kd,id,an,ten,txt⟩=zAP r c):=show _=_ from zVr HKD.out
 obtain ⟨wa,wcp,hvw,hww⟩:=zDa HR2.out.waiting
 have c9:w2.cell? ⟨M,9,none⟩=some L.waiting:=HR2.out.cell (k:=9) rfl
 rw [hvw] at c9
 obtain ⟨n,hnn⟩:∃n,(zC r).waiting.length=n:=⟨_,rfl⟩
 rw [hnn] at c9 hvw
 have HWW:=zh hww
 have HN:=zh hnn
 have HVW:=zh hvw
 have HCN:=zh (zFz HR2.out c (by show (r.conns.map yt).length≤_;rw [List.length_map];have:=HNN.out;omega))
 unfold zCL at HCN
 have hmc:zp (zC r) c=zC r:=by rw [zBk,zDH HC.out]
 simp only [hmc] at HCN
 have hkb0:n≤1000000000:=by have:=HM.out.2.2.2.2.2.2.2;have:=HNN.out;omega
 clear hf hb2 hbx HRQ x1 hww hnn hvw hmc
 go_wp2_with fail
 go_loop [8,10,66] (fun s8 _ s66=>∃k:Nat,s66=.int .i64 k∧k≤n∧s8=.bool ((r.waiting.take k).contains c)) (fun _ _ s66=>n - (intOf s66).toNat)
 case atStart=>exact ⟨0,by go_num,Nat.zero_le _,rfl⟩
 case round =>
  obtain ⟨k,rfl,hk,rfl⟩:=hrel
  by_cases hkl:k < n
  ·have hlt:decide ((k:Int) < (n:Int))=true:=decide_eq_true (by omega)
   obtain ⟨y,hy⟩:∃y,r.waiting[k]?=some y:=⟨_,List.getElem?_eq_getElem (by have:=HN.out;rw [show r.waiting.length=n from this];exact hkl)⟩
   obtain ⟨wb,woff,hae,cy⟩:=HWW.out k y hy
   subst hae
   have hk0:(0:Int)≤(k:Int):=by omega
   have hk1:(k:Int) < (n:Int):=by omega
   have HNX:=zh (zVt c hy)
   obtain ⟨b,hb⟩:∃b,(r.waiting.take k).contains c=b:=⟨_,rfl⟩
   rw [hb] at HNX ⊢
   clear hy hb
   cases b with
   | true =>
     go_wp2_with fail
     go_round
     case rel=>exact ⟨k+1,by go_num,by omega,by rw [HNX.out];rfl⟩
     case measure=>simp [intOf];omega
   | false =>
     by_cases hyc:y=c
     ·have hq:(y==c)=true:=by rw [hyc];simp
      go_wp2_with fail
      go_round
      case rel=>exact ⟨k+1,by go_num,by omega,by rw [HNX.out,hq];rfl⟩
      case measure=>simp [intOf];omega
     ·have hq:(y==c)=false:=beq_eq_false_iff_ne.2 hyc
      have hq2:decide (y=c)=false:=decide_eq_false hyc
      go_wp2_with fail
      go_round
      case rel=>exact ⟨k+1,by go_num,by omega,by rw [HNX.out,hq];rfl⟩
      case measure=>simp [intOf];omega
  ·obtain rfl:k=n:=by omega
   have hlt:decide ((k:Int) < (k:Int))=false:=by simp
   obtain ⟨b,hb⟩:∃b,r.waiting.contains c=b:=⟨_,rfl⟩
   rw [show r.waiting.take k=r.waiting from List.take_of_length_le (Nat.le_of_eq (show r.waiting.length=k from HN.out)),hb]
   have HBB:=zh hb
   clear hb
   cases b with
   | true =>
     go_wp2_with fail
     go_end0
     refine ⟨rfl,?_⟩
     rw [HE.out,zVs HC.out HBB.out]
     exact HRST.out
   | false =>
     go_wp2_with fail
     refine HCN.out.mono ?_
     rintro e w3 ⟨ρ3,L3,cb,coff,ccap,k3,rfl,p1,p2,p3,p4,⟨y,p5,p6⟩,p7⟩
     obtain ⟨cd,fd⟩:=zNc p1 p3 p5
     obtain ⟨z,hz,hyz⟩:∃z,aget r.conns c=some z∧y.drains=z.drains:=by
      have h5:(r.conns.map yt)[k3]?=some y:=p5
      rw [List.getElem?_map] at h5
      obtain ⟨⟨c',z⟩,h6,rfl⟩:=Option.map_eq_some_iff.1 h5
      have h7:c'=c:=p6
      subst h7
      exact ⟨z,zCI HI.out.q.kcn h6,rfl⟩
     have HPI:=zh (zNb HC.out hz)
     obtain ⟨dr,hdr⟩:∃dr,z.drains=dr:=⟨_,rfl⟩
     rw [hyz,hdr] at cd
     have HDR:=zh hdr
     have HST:Hid (Step ρ ρ3 w w3):=(Step.still (Fr.of_below HB2.out)).trans p2
     have HP1:=zh p1
     clear p1 p2 p3 p4 p5 p6 p7 hz hyz hdr c9
     cases dr with
     | true =>
       go_wp2_with fail
       go_end0
       refine ⟨rfl,?_⟩
       rw [HE.out,HPI.out,HDR.out]
       exact ⟨ρ3,L3,HP1.out,HST.out⟩
     | false =>
       obtain ⟨va,vc,hv3,_,_⟩:=HP1.out.waiting.form'
       have c9:w3.cell? ⟨M,9,none⟩=some L3.waiting:=HP1.out.cell (k:=9) rfl
       rw [hv3,HN.out] at c9
       have HSA:Hid (SlAt (w3.alloc (.cells #[vi c] 3)) 3 1 (fun b=>ρ3 b=yQ) (.slice va k vc) k (r.waiting.map encI)):=by
        have:=(HP1.out.alloc (.cells #[vi c] 3)).waiting
        rw [hv3,HN.out] at this
        exact this
       have HNW:Hid (SlAt (w3.alloc (.cells #[vi c] 3)) 3 1 (fun b=>b=w3.heap.size) (.slice (some ⟨w3.heap.size,0,none⟩) 1 1) 1 [vi c]):=(zIZ w3 c).of_blk (fun _ _ _=>rfl) (fun _ h _=>h)
       clear hv3
       go_wp2_with (at_builtin;refine zAK rfl _ _ _ rfl zBC rfl HSA.out rfl HNW.out (by simp [Value.oneCell']) (by unfold maxLen;omega) (by omega) ?_;intro va2 vc2 w4 E he hf hl hs;obtain ⟨k1,k2⟩:=zVu HP1.out (w1:=w3.alloc (.cells #[vi c] 3)) (n:=k+1) (l:=r.waiting++[c]) ((Fr.refl _ w3).alloc _) he hf (by rw [List.length_append,show r.waiting.length=k from HN.out];rfl) (by rw [List.map_append];exact hs);have c4:w4.cell? ⟨M,9,none⟩=some L3.waiting:=zB k1 rfl;have f4:w4.frozen? ⟨M,9,none⟩=false:=zI k1;have HK:=zh k2;clear he hf hl hs k1 k2)
       go_end0
       refine ⟨rfl,?_⟩
       rw [HE.out,HPI.out,HDR.out,HBB.out]
       obtain ⟨ρ4,q1,q2⟩:=HK.out
       exact ⟨ρ4,_,q1,HST.out.trans q2⟩
end
end Go.Proofs.YtaejfobbogahmaaGreatDoor
