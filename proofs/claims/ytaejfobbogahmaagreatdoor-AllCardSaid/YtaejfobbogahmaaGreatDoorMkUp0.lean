/-
  Play0 MsgA LawL Up0 AllLaw AllLawCard: texts of their own, joined.
-/
import Derived.Test.YtaejfobbogahmaaGreatDoorMkStepT
import Derived.Test.YtaejfobbogahmaaGreatDoorMkStepC
import Derived.Test.YtaejfobbogahmaaGreatDoorMkLaid
import Derived.Carry
import Derived.ChangeMaps5
set_option maxRecDepth 100000
set_option maxHeartbeats 16000000
set_option linter.all false
namespace Go.Proofs.YtaejfobbogahmaaGreatDoor
open Go Go.RowKit
theorem zVc (w:World) (o:OpD) (hs:o.s.length≤1000000000):Calls Tryz.prog 43 #[.agg (za o),vi 0] w fun e w'=>e=.returned (.bool true)∧Below w.heap.size w w':=by
 have h0:(zK w o).heap[w.heap.size]?=some (.cells (za o) 98):=zL w
 have HBK:=zh h0
 have HB:Hid (Below w.heap.size w (zK w o)):=(Below.refl _ w).alloc (Nat.le_refl _) _
 have HHC:=zh (zSt (zK w o) o (by omega))
 have hz:(bs o.s).size=o.s.length:=zIH _
 have HH:Hid (zEd o=if o.kind=3 then o.s.takeWhile (· != 32) else []):=show _=_ from rfl
 obtain ⟨kd,a,b,⟨d1,d2,d3,d4,d5⟩,s⟩:=o
 simp only [za,zK] at *
 obtain ⟨H,hH⟩:∃H,zEd ⟨kd,a,b,⟨d1,d2,d3,d4,d5⟩,s⟩=H:=⟨_,rfl⟩
 rw [hH] at HH HHC
 clear h0 hH hs
 go_enter Tryz.func43,Tryz.ntmps43
 go_wp2_with fail
 refine HHC.out.mono ?_
 rintro e w1 ⟨rfl,hb1⟩
 rw [World.size_alloc] at hb1
 have hblk:=(hb1.block _ (Nat.lt_succ_self _)).trans HBK.out
 have HB1:=zh (HB.out.trans (hb1.mono (Nat.le_succ _)))
 have HBL:=zh hblk
 clear hb1 HHC HBK HB
 have c0:w1.cell? ⟨w.heap.size,0,none⟩=some (vi kd):=zB hblk rfl
 have c8:w1.cell? ⟨w.heap.size,8,none⟩=some (vs (bs s)):=zB hblk rfl
 have ht:(bs H).toList=H:=by rw [ByteArray.toList_eq];rfl
 clear hblk
 go_wp2_with fail
 all_goals
  go_ret
  exact ⟨rfl,HB1.out⟩
theorem zVd:zDs kA:=fun hI h c x hx hk hc hN hP hC=>by
 unfold kA at hk
 simp only [Bool.or_eq_true,beq_iff_eq] at hk
 rcases hk with e | e
 ·exact zWI hI h c hx e hc hN hP hC
 ·exact zWL hI h c hx e hc hN hP hC
theorem zVe {G V:Nat} {w0 w:World} {tg:Nat→Nat×Nat} {dsv lsv:Value} {lss:List Value} {ps:List DP} (h:LawC G w0 w tg V dsv lsv lss ps) (hk:lss.length≤1000000000) :
 Calls Tryz.prog 45 #[vp V] w fun e w'=>e=.returned (.bool true)∧Below w.heap.size w w':=by
 have HL:=zh h
 obtain ⟨la,lc,rfl,_,_⟩:=h.ls.form'
 have v1:w.cell? ⟨V,1,none⟩=some (.slice la lss.length lc):=zB h.vb.2 rfl
 obtain ⟨n,hnn⟩:∃n,lss.length=n:=⟨_,rfl⟩
 have HN:=zh hnn
 rw [hnn] at v1 hk
 clear h hnn
 go_enter Tryz.func45,Tryz.ntmps45
 go_wp2_with fail
 go_loopw [3,4,6,12] (fun _ _ _ s12 wr=>∃k:Nat,s12=.int .i64 k∧k≤n∧Hid (Below w.heap.size w wr)) (fun _ _ _ s12 _=>n - (intOf s12).toNat)
 case atStart=>exact ⟨0,by go_num,Nat.zero_le _,Below.refl _ _⟩
 case round =>
  obtain ⟨k,rfl,hkk,HI⟩:=hrel
  obtain ⟨wo,rfl⟩:∃wo,wo=wr:=⟨_,rfl⟩
  by_cases hkl:k < n
  ·have hlt:decide ((k:Int) < (n:Int))=true:=decide_eq_true (by omega)
   obtain ⟨v,hv⟩:∃v,lss[k]?=some v:=⟨_,List.getElem?_eq_getElem (by rw [HN.out];exact hkl)⟩
   obtain ⟨m,hm⟩:=HL.out.lists k v hv
   have hmb:m≤maxLen:=by
    by_cases h0:0 < m
    ·obtain ⟨_,_,cap',_,_,_,h1,h2,_,_⟩:=hm.form h0
     exact Nat.le_trans h1 h2
    ·omega
   unfold maxLen at hmb
   have hlen:m=(List.replicate m (zAY k)).length:=by simp
   have hm':SlAt w 59 2 (fun b=>tg b=(4,k)) v (List.replicate m (zAY k)).length (yG (List.replicate m (zAY k))):=by rw [←hlen];exact hm
   obtain ⟨va,vc,rfl,hvl,_⟩:=hm.form'
   have hls:=(HL.out.grow HI.out).ls
   obtain ⟨lb,lo,lc',hlv,_,_,_,_,hcc,_⟩:=hls.form (by rw [HN.out];omega)
   obtain ⟨rfl,rfl⟩:la=some ⟨lb,lo,none⟩∧lc=lc':=by injection hlv with e1 e2 e3;exact ⟨e1,e3⟩
   have ck:wo.cell? ⟨lb,lo+k,none⟩=some (.slice va m vc):=hcc k _ hv
   have hk0:(0:Int)≤(k:Int):=by omega
   have hk1:(k:Int) < (n:Int):=by omega
   have hw1:IntKind.i64.wrap (-1 - (k:Int)) = -1 - (k:Int):=IntWalk.i64_in _ (by omega)
   have HMS:=zh hm'
   have HV:=zh hv
   obtain ⟨mk,hmk⟩:∃x:Int,-1 - (k:Int)=x:=⟨_,rfl⟩
   have HMK:=zh hmk
   rw [hmk] at hw1
   clear hm hm' hlen hls hlv hcc hv hvl
   go_wp2_with fail
   go_loopw [6,19] (fun _ s19 wr=>∃j:Nat,s19=.int .i64 j∧j≤m∧Hid (Below w.heap.size w wr)) (fun _ s19 _=>m - (intOf s19).toNat)
   case atStart=>exact ⟨0,by go_num,Nat.zero_le _,HI.out⟩
   case round =>
    obtain ⟨j,rfl,hj,HJ⟩:=hrel
    by_cases hjl:j < m
    ·have hlt2:decide ((j:Int) < (m:Int))=true:=decide_eq_true (by omega)
     have hB:=HMS.out.of_blk (w':=wr) (own':=fun b=>tg b=(4,k)) (fun b _ hl=>HJ.out.block b hl) (fun _ h _=>h)
     rw [List.length_replicate] at hB
     obtain ⟨ob,oo,oc',hov,_⟩:=hB.form (by omega)
     obtain ⟨rfl,rfl⟩:va=some ⟨ob,oo,none⟩∧vc=oc':=by injection hov with e1 e2 e3;exact ⟨e1,e3⟩
     have hp:(List.replicate m (zAY k))[j]?=some (zAY k):=by rw [List.getElem?_replicate,if_pos hjl]
     obtain ⟨a0,a1⟩:=zGO hB hp (by omega)
     have a0:wr.cell? ⟨ob,oo+j*2,none⟩=some (vi mk):=by rw [←HMK.out];exact a0
     have a1:wr.cell? ⟨ob,oo+j*2+1,none⟩=some (vs (bs xw)):=a1
     have hj0:(0:Int)≤(j:Int):=by omega
     have hj1:(j:Int) < (m:Int):=by omega
     have hq:(mk==mk)=true:=by simp
     have ht:(bs xw).toList=[109,105,110,101]:=by rw [ByteArray.toList_eq];rfl
     have hmk:=HMK.out
     clear hB hov hp
     go_wp2_with fail
     go_roundw
     case rel=>exact ⟨j+1,by go_num,by omega,HJ.out.alloc HJ.out.size _⟩
     case measure=>simp [intOf];omega
    ·obtain rfl:j=m:=by omega
     have hlt2:decide ((j:Int) < (j:Int))=false:=by simp
     go_wp2_with fail
     go_roundw
     case rel=>exact ⟨k+1,by go_num,by omega,HJ.out⟩
     case measure=>simp [intOf];omega
  ·obtain rfl:k=n:=by omega
   have hlt:decide ((k:Int) < (k:Int))=false:=by simp
   go_wp2_with fail
   go_ret
   exact ⟨rfl,HI.out⟩
def zNX (_:OpD):Prop:=True
theorem zAZ.step0 {G V k:Nat} {w0 w:World} {ops:List OpD} (h:zAZ G w0 V zAll ops k w) {o:OpD} (ho:ops[k]?=some o) (hs:ops.length+(ops.map fun o=>o.s.length).sum≤1048576) (hp:zNX o) (hw:wfOp o) :
 Calls Tryz.prog 44 #[vp V,.agg (za o)] w fun e w'=>e=.returned (.bool true)∧zAZ G w0 V zAll ops (k+1) w':=
 h.stepP ho hs fun ps n h1 h2 h3 h4 h5 h6=>by
  by_cases k1:o.kind=1
  ·exact zVT rfl h1 h2 h3 o k1
  by_cases k2:o.kind=2
  ·exact zVY h1 h2 o k2 h6
  by_cases k3:o.kind=3∨o.kind=4
  ·exact zVV rfl zVd h1 h2 h5 h4 h3 o k3 (fun rest hr=>zVa rest _) hw.2.1 h6
  by_cases k5:o.kind=5
  ·exact zWu rfl h1 h2 h5 h4 h3 o k5 hw.2.1
  by_cases k6:o.kind=6
  ·exact zXR rfl h1 h2 h5 h4 h3 o k6 hw.2.1
  exact zWX h1 h2 h5 h4 h3 o (by omega) hw.2.1
theorem zVf {G:Nat} {w:World} (hE:Env G w) (hG:G≤w.heap.size) {a:Option Addr} {cap:Nat} (ops:List OpD) (h:zCP w a ops) (hs:ops.length+(ops.map fun o=>o.s.length).sum≤1048576) (hw:∀o∈ops,wfOp o) :
 Calls Tryz.prog 26 #[.slice a ops.length cap,vi 0] w fun e w'=>e=.returned (vi (-1))∧Below w.heap.size w w':=by
 have HO:=zh h
 have HS:=zh hs
 have HW:=zh hw
 have H0:=zh (yV.start hE hG)
 obtain ⟨n,hnn⟩:∃n,ops.length=n:=⟨_,rfl⟩
 have hn:n≤1048576:=by omega
 rw [hnn]
 have HN:=zh hnn
 clear h hs hw hnn hE
 go_enter Tryz.func26,Tryz.ntmps26
 go_wp2_with fail
 go_loopw [6,7,8,13] (fun _ _ _ s13 wr=>∃k:Nat,s13=.int .i64 k∧k≤n∧Hid (zAZ G w w.heap.size zAll ops k wr)) (fun _ _ _ s13 _=>n - (intOf s13).toNat)
 case atStart=>exact ⟨0,by go_num,Nat.zero_le _,⟨[],0,H0.out,(fun p hp=>by cases hp),Nat.le_refl _,Nat.le_refl _⟩⟩
 case round =>
  obtain ⟨k,rfl,hk,HB⟩:=hrel
  by_cases hkl:k < n
  ·have hlt:decide ((k:Int) < (n:Int))=true:=decide_eq_true (by omega)
   obtain ⟨o,hko⟩:∃o,ops[k]?=some o:=⟨_,List.getElem?_eq_getElem (by rw [HN.out];exact hkl)⟩
   obtain ⟨b,off,hae,c0,c1,c2,c3,c4,c5,c6,c7,c8⟩:=(HO.out.below HB.out.below).cells hko
   subst hae
   have hol:o.s.length≤(ops.map fun o=>o.s.length).sum:=zGX (List.mem_map_of_mem (List.mem_of_getElem? hko))
   have hk0:(0:Int)≤(k:Int):=by omega
   have hk1:(k:Int) < (n:Int):=by omega
   have HPL:=zh (zVc (zK wr o) o (by have:=HS.out;omega))
   have HV:Hid (Below wr.heap.size wr (zK wr o)∧(zK wr o).heap[wr.heap.size]?=some (.cells (za o) 98)):=⟨(Below.refl _ wr).alloc (Nat.le_refl _) _,zL wr⟩
   have HST:=zh (fun (W:World) (h:zAZ G w w.heap.size zAll ops k W) (hp:zNX o)=>h.step0 hko HS.out hp (HW.out o (List.mem_of_getElem? hko)))
   have HKO:=zh hko
   obtain ⟨kd,a',b',⟨d1,d2,d3,d4,d5⟩,s⟩:=o
   simp only [za,zK] at *
   clear hko hol
   go_wp2_with fail
   refine HPL.out.mono ?_
   rintro e w1 ⟨rfl,hb1⟩
   have HB1:=zh (zEg HV.out hb1)
   have HBA:=zh (HB.out.grow HB1.out.1)
   have hb:=HB1.out.2
   have HSTP:=zh (HST.out w1 HBA.out trivial)
   clear hb1 c0 c1 c2 c3 c4 c5 c6 c7 c8
   have c0:=zB (off:=0) hb rfl
   have c1:=zB (off:=1) hb rfl
   have c2:=zB (off:=2) hb rfl
   have c3:=zB (off:=3) hb rfl
   have c4:=zB (off:=4) hb rfl
   have c5:=zB (off:=5) hb rfl
   have c6:=zB (off:=6) hb rfl
   have c7:=zB (off:=7) hb rfl
   have c8:=zB (off:=8) hb rfl
   clear hb
   go_wp2_with fail
   refine HSTP.out.mono ?_
   rintro e w2 ⟨rfl,hb2⟩
   have HB2:=zh hb2
   obtain ⟨ps2,n2,⟨tg2,dsv2,lsv2,lss2,hC2,hlk2⟩,_,_,hn2⟩:=hb2
   have HLK:=zh (zVe hC2 (by rw [hlk2];omega))
   clear hC2 hlk2 hn2 c0 c1 c2 c3 c4 c5 c6 c7 c8
   go_wp2_with fail
   refine HLK.out.mono ?_
   rintro e w3 ⟨rfl,hb3⟩
   have HB3:=zh (HB2.out.grow hb3)
   clear hb3
   go_wp2_with fail
   go_roundw
   case rel=>exact ⟨k+1,by go_num,by omega,HB3.out⟩
   case measure=>simp [intOf];omega
  ·obtain rfl:k=n:=by omega
   have hlt:decide ((k:Int) < (k:Int))=false:=by simp
   go_wp2_with fail
   go_ret
   exact ⟨rfl,HB.out.below⟩
namespace all
theorem All_calls {G:Nat} {w:World} (hE:Env G w) (hG:G≤w.heap.size) {a:Option Addr} {cap:Nat} (ops:List OpD) (h:zCP w a ops) (hn:ops.length≤140737488351232) (hs:∀o∈ops,o.s.length≤140737488351232) (hw:∀o∈ops,wfOp o) :
 Calls Tryz.prog 8 #[.slice a ops.length cap] w fun e w'=>e=.returned (.bool true)∧Below w.heap.size w w':=by
 have HSM:=zh (zSo (cap:=cap) ops h hn hs)
 have HUP:=zh (fun (W:World) (hb:Below w.heap.size w W) (hsm:zCR ops=true)=>zVf (cap:=cap) (hE.grow hb) (Nat.le_trans hG hb.size) ops (h.below hb) (zTU hsm) hw)
 obtain ⟨b,hb⟩:∃b,zCR ops=b:=⟨_,rfl⟩
 rw [hb] at HSM HUP
 clear h hn hs hw hE hG
 cases b with
 | false =>
   go_enter Tryz.func8,Tryz.ntmps8
   go_wp2_with fail
   refine HSM.out.mono ?_
   rintro e w1 ⟨rfl,hb1⟩
   have HB:=zh hb1
   clear hb1
   go_wp2_with fail
   go_ret
   exact ⟨rfl,HB.out⟩
 | true =>
   go_enter Tryz.func8,Tryz.ntmps8
   go_wp2_with fail
   refine HSM.out.mono ?_
   rintro e w1 ⟨rfl,hb1⟩
   have HB:=zh hb1
   clear hb1
   go_wp2_with fail
   refine (HUP.out _ HB.out (by first | trivial | rfl)).mono ?_
   rintro e w2 ⟨rfl,hb2⟩
   have HB2:=zh (HB.out.trans (hb2.mono HB.out.size))
   clear hb2
   go_wp2_with fail
   go_ret
   exact ⟨rfl,HB2.out⟩
end all
open Go Go.Shelf Go.ChangeShapes Go.WideShapes Go.ChangeAt Go.RowKit Go.Lib
namespace all
theorem zVg {H:Type} (o:OpD):o.s.length∈DataW.weights Tryz.prog 98 (zDD o:DataW H):=by
 unfold zDD
 rw [DataW.weights,Tryz.underlying98]
 simp [DataW.weightsEach,DataW.weights]
theorem zVh {H:Type} {ops:List OpD} {o:OpD} (h:o∈ops):o.s.length∈DataW.weightsAll Tryz.prog 98 (ops.map fun o=>(zDD o:DataW H)):=by
 induction ops with
 | nil=>cases h
 | cons a l ih =>
   simp only [List.map_cons,DataW.weightsAll,List.mem_append]
   rcases List.mem_cons.1 h with rfl | h'
   ·exact .inl (zVg _)
   ·exact .inr (ih h')
theorem zVi (os:Os) {H:Type} (enc:TypeId×Value→H) :
 (OpenSpec.ofChange Rows.allSpec).preRow enc Tryz.prog Tryz.f8 Rows.allRow.domain false Rows.allRow.laid ((zGs os).forCall (fun _ _=>0) ⟨#[],#[.slice none 0 0],[]⟩).memory #[.slice none 0 0]:=by
 have hw:(DataW.whole enc Tryz.prog ((zGs os).forCall (fun _ _=>0) ⟨#[],#[.slice none 0 0],[]⟩).memory Tryz.f8.params.toList (OpenSpec.ofChange Rows.allSpec).vars false (#[.slice none 0 0]:Array Value).toList 8).map (fun x=>(x.1,x.2.1)) =
  some ([.nil],[]):=by kernel_rfl
 obtain ⟨⟨x1,x2,x3⟩,hx,hx1⟩:=Option.map_eq_some_iff.1 hw
 simp only [Prod.mk.injEq] at hx1
 obtain ⟨rfl,rfl⟩:=hx1
 exact OpenSpec.preRow_of_cond 8 hx (by kernel_rfl) (fun k hk=>by cases hk) (by kernel_rfl) (zXS os _)
theorem zVj (os:Os) (started:os.Started) (H:Type) (enc:TypeId×Value→H) (F:Stop.Interp) :
 ReturnsInHanded {} Tryz.checked os 8 .any ((OpenSpec.ofChange Rows.allSpec).preRow enc Tryz.prog Tryz.f8 Rows.allRow.domain false Rows.allRow.laid) (((OpenSpec.ofChange Rows.allSpec).at F).post enc Tryz.prog Tryz.f8 false true false false):=by
 refine returnsInHanded_of_row (C:=Tryz.checked) (s:=OpenSpec.ofChange Rows.allSpec) own started (by kernel_rfl) Tryz.func8
  (witness_row_atRef (enc:=enc) (C:=Tryz.checked) false (zGs os) #[.slice none 0 0] rfl (by kernel_rfl) (by kernel_rfl) (by kernel_rfl) (zVi os enc)) ?_
 intro W base args ds gs before hval0 hW _ _ hsz0 hL hsh _
 have hsz:(DataW.weightsEach Tryz.prog (Tryz.f8.params.toList++(OpenSpec.ofChange Rows.allSpec).bare.plain.varTypes Tryz.prog) (ds++gs)).all (·≤reachBytes)=true:=hsz0
 clear hsz0
 have hval:∀(j:Nat) t v,Tryz.f8.params[j]?=some t→args[j]?=some v→Value.okWide Tryz.prog W .any base t v:=hval0
 have hW':=hW
 obtain ⟨p,q,hA0,hV0,rfl,_,_⟩:=hW
 have hA:DataW.TrodAll enc Tryz.prog W 0 (fun _=>true) true Tryz.f8.params.toList args.toList ds p:=hA0
 rw [Tryz.params8] at hA hval hsz
 obtain ⟨v0,d0,rfl,rfl,h0⟩:=trodAll_one hA
 obtain ⟨rfl,rfl⟩:=trodVars_none hV0
 obtain ⟨a0,n0,c0,rfl⟩:=okWide_slice Tryz.underlying55 (hval 0 55 v0 rfl rfl)
 have h0k:=h0
 obtain ⟨fuel0,hf0⟩:=h0
 clear hA0 hV0 hval0
 simp only [List.append_nil] at hW' hsz
 have hlt:∀x∈p,x.block < W.heap.size:=fun x hx=>by simpa using hW'.lt x (by simp [hx])
 obtain ⟨ops,hops,hn,hwf,hts⟩:=zSw hf0
 replace hts:ops=[]∨∃spare,d0=.slice (ops.map zDD) spare:=hts
 have hall:ops.length≤140737488351232∧∀o∈ops,o.s.length≤140737488351232:=by
  rcases hts with h0 | ⟨spare,hd0⟩
  ·subst h0;exact ⟨Nat.zero_le _,fun _ h=>by cases h⟩
  ·constructor
   ·have:=sized_slice hsz (j:=0) (t:=55) (e:=98) rfl (by rw [hd0];rfl) Tryz.underlying55
    rw [show Tryz.prog.bytesOf 98=80 by kernel_rfl] at this
    simp only [List.length_map,reachBytes] at this
    omega
   ·intro o ho
    have:=List.all_eq_true.1 hsz o.s.length (DataW.weights_mem_each (j:=0) (t:=55) (d:=d0) rfl rfl o.s.length (by
     rw [hd0,DataW.weights,Tryz.underlying55]
     refine List.mem_cons.2 (.inr (List.mem_append.2 (.inl ?_)))
     exact zVh ho))
    exact of_decide_eq_true this
 subst hn
 have hw:=All_calls (zXU hL hsh) (Nat.le_refl _) (cap:=c0) ops hops hall.1 hall.2 hwf
 refine hw.mono ?_
 rintro e W' ⟨rfl,bel⟩
 have e1:((OpenSpec.ofChange Rows.allSpec).at F).fn H ([d0]++[])={results:=[.lit (.bool true)],args:=[d0]}:=rfl
 refine ⟨_,rfl,_,_,_,[],p,[],hW',?_,?_,?_,bel.frame _,fun h=>by cases h⟩
 ·rw [e1];exact trodAll_mk1 (shut_bool Tryz.underlying4 _)
 ·rw [e1];exact trodAll_mk1 (Below.trod (by kernel_rfl) (by kernel_rfl) (of_decide_eq_true (by kernel_rfl)) h0k bel hlt)
 ·rw [e1];rfl
theorem zVk:Rows.AllSaid:=
 OpenClaim.holds_of_cond 8 Tryz.f8 rfl rfl rfl rfl rfl rfl rfl ⟨rfl,rfl,rfl,rfl,rfl⟩ rfl rfl rfl rfl rfl (by kernel_rfl) Tryz.func8 (by kernel_rfl)
  (of_decide_eq_true (by kernel_rfl)) (by unfold Func.isWrapper;rw [if_neg (of_decide_eq_false (by kernel_rfl))];exact ⟨rfl,rfl⟩)
  (fun os started H enc _ F0=>by rw [OpenClaim.pre_eq_preRow];exact zVj os started H enc F0)
theorem proved:Rows.AllCardSaid:=
 Claim7.holds_tied_plain_at .later [] [.data,.data,.data,.data,.pinned] true (true,"e824820f69296c1c8a0df1f7592b042f868eb2c349dd41e66be5cd9602294ad7") true
  zVk (fun _ h=>by cases h) (by kernel_rfl) (fun _ h=>by cases h) all_row_tie rfl ⟨rfl,rfl⟩ (by kernel_rfl) rfl
  (fun f fn hf hfn=>by
   obtain rfl:f=8:=Option.some.inj ((show Tryz.prog.funcNamed "dispatch/dispatchlaw.All" = some 8 by kernel_rfl).symm.trans hf) |>.symm
   obtain rfl:fn=Tryz.f8:=(Option.some.inj (Tryz.func8.symm.trans hfn)).symm
   exact ⟨by kernel_rfl,fun j t ht=>by
    rw [Tryz.params8] at ht
    have hm:t∈([55]:List TypeId):=by simpa using Array.mem_of_getElem? ht
    have hall:(([55]:List TypeId).all fun u=>!Tryz.prog.wantsStandIn u)=true:=by kernel_rfl
    exact (show Tryz.prog.wantsStandIn t=false by simpa using List.all_eq_true.1 hall t hm)⟩)
  (by kernel_rfl)
#print axioms proved
end all
end Go.Proofs.YtaejfobbogahmaaGreatDoor
