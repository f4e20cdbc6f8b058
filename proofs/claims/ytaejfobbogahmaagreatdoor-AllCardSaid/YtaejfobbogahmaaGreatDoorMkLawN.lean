/-
  LawS LawN LawF: texts of their own, joined.
-/
import Derived.Test.YtaejfobbogahmaaGreatDoorMkLaw1
import Derived.Test.YtaejfobbogahmaaGreatDoorMkOps
set_option maxRecDepth 100000
set_option maxHeartbeats 16000000
set_option linter.all false
namespace Go.Proofs.YtaejfobbogahmaaGreatDoor
open Go Go.RowKit
def zEf (c:UInt8):Bool:=[115,117,98,99,97,110,112,108,101,116,100,111,102,105,114].contains c.toNat
def zAg (s:zA):Prop:=∀c∈s,zEf c=false
def yV (G:Nat) (w0:World) (V:Nat) (ps:List DP) (k:Nat) (w:World):Prop:=∃tg dsv lsv lss,LawC G w0 w tg V dsv lsv lss ps∧lss.length=k
theorem zTF:(Tryz.prog.info? 158).map (fun i=>(i.zero,i.size,i.bytes))=some (some (.agg #[.pointer none,.pointer none]),2,16):=by kernel_rfl
theorem zTG:yF Tryz.prog 100 158 2 16:=yF.of_parts Tryz.underlying100 zTF rfl (by decide)
section
variable {G V k:Nat} {w0 w w':World} {ps:List DP}
theorem yV.grow (h:yV G w0 V ps k w) (hb:Below w.heap.size w w'):yV G w0 V ps k w':=by
 obtain ⟨tg,dsv,lsv,lss,h1,h2⟩:=h
 exact ⟨tg,dsv,lsv,lss,h1.grow hb,h2⟩
theorem zEg {n:Nat} {w W W':World} {X:Obj} (h:Below n w W∧W.heap[n]?=some X) (hb:Below W.heap.size W W'):Below n w W'∧W'.heap[n]?=some X:=
 ⟨h.1.trans (hb.mono (Nat.le_of_lt (zF _ h.2))),(hb.block _ (zF _ h.2)).trans h.2⟩
theorem zLx (h:yV G w0 V ps k w) (o:OpD) (hk:o.kind=1) (hc:zAN o.c=false) :
 Calls Tryz.prog 44 #[vp V,.agg (za o)] w fun e w'=>e=.returned (.bool true)∧yV G w0 V ps k w':=by
 have h0:(zK w o).heap[w.heap.size]?=some (.cells (za o) 98):=zL w
 have HV:Hid (Below w.heap.size w (zK w o)∧(zK w o).heap[w.heap.size]?=some (.cells (za o) 98)):=⟨(Below.refl _ w).alloc (Nat.le_refl _) _,h0⟩
 have HN1:=zh (fun w=>zMe (G:=0) (w:=w) (Nat.zero_le _) o.c)
 have HN2:=zh (fun w=>zMi (G:=0) (w:=w) (Nat.zero_le _) o.c)
 have HC:=zh hc
 have HH:=zh h
 have d0:(zK w o).cell? ⟨w.heap.size,0,none⟩=some (vi o.kind):=zB h0 rfl
 have d3:(zK w o).cell? ⟨w.heap.size,3,none⟩=some (vi o.c.lease):=zB h0 rfl
 have d4:(zK w o).cell? ⟨w.heap.size,4,none⟩=some (vi o.c.retries):=zB h0 rfl
 have d5:(zK w o).cell? ⟨w.heap.size,5,none⟩=some (vi o.c.cap):=zB h0 rfl
 have d6:(zK w o).cell? ⟨w.heap.size,6,none⟩=some (vi o.c.bound):=zB h0 rfl
 have d7:(zK w o).cell? ⟨w.heap.size,7,none⟩=some (vi o.c.hedge):=zB h0 rfl
 obtain ⟨kd,a,b,⟨c1,c2,c3,c4,c5⟩,s⟩:=o
 simp only [za,zK,cfgCells] at *
 subst hk
 clear h0 h hc
 go_enter Tryz.func44,Tryz.ntmps44
 go_wp2_with fail
 refine (HN1.out _).mono ?_
 rintro e w1 ⟨_,hp2,hb1⟩
 obtain rfl:=hp2 HC.out
 have HV1:=zh (zEg HV.out hb1)
 have b1:=HV1.out.2
 have d3:=zB (off:=3) b1 rfl
 have d4:=zB (off:=4) b1 rfl
 have d5:=zB (off:=5) b1 rfl
 have d6:=zB (off:=6) b1 rfl
 have d7:=zB (off:=7) b1 rfl
 clear b1 hp2 hb1
 go_wp2_with fail
 refine (HN2.out _).mono ?_
 rintro e w2 ⟨_,hp2,hb2⟩
 obtain rfl:=hp2 HC.out
 have HV2:=zh (zEg HV1.out hb2)
 clear hp2 hb2
 go_wp2_with fail
 go_ret
 exact ⟨rfl,HH.out.grow HV2.out.1⟩
theorem zLy (h:yV G w0 V ps k w) (hn:ps.length≤100000000000) (o:OpD) (hk:o.kind=1) (hc:zAN o.c=true) :
 Calls Tryz.prog 44 #[vp V,.agg (za o)] w fun e w'=>e=.returned (.bool true)∧∃D M,yV G w0 V (ps++[⟨D,M,rNew o.c,mNew o.c⟩]) k w':=by
 have h0:(zK w o).heap[w.heap.size]?=some (.cells (za o) 98):=zL w
 have HV:Hid (Below w.heap.size w (zK w o)∧(zK w o).heap[w.heap.size]?=some (.cells (za o) 98)):=⟨(Below.refl _ w).alloc (Nat.le_refl _) _,h0⟩
 obtain ⟨tg,dsv,lsv,lss,hL,hlk⟩:=h
 have hGw:G≤w.heap.size:=Nat.le_trans hL.hG hL.below.size
 have HN1:=zh (fun (W:World) (hW:w.heap.size≤W.heap.size)=>zMe (G:=G) (w:=W) (Nat.le_trans hGw hW) o.c)
 have HN2:=zh (fun (W:World) (hW:w.heap.size≤W.heap.size)=>zMi (G:=G) (w:=W) (Nat.le_trans hGw hW) o.c)
 have HC:=zh hc
 have HL:=zh hL
 have HLK:=zh hlk
 have HOC:Hid (rNew o.c=rNew o.c):=rfl
 have d0:(zK w o).cell? ⟨w.heap.size,0,none⟩=some (vi o.kind):=zB h0 rfl
 have d3:(zK w o).cell? ⟨w.heap.size,3,none⟩=some (vi o.c.lease):=zB h0 rfl
 have d4:(zK w o).cell? ⟨w.heap.size,4,none⟩=some (vi o.c.retries):=zB h0 rfl
 have d5:(zK w o).cell? ⟨w.heap.size,5,none⟩=some (vi o.c.cap):=zB h0 rfl
 have d6:(zK w o).cell? ⟨w.heap.size,6,none⟩=some (vi o.c.bound):=zB h0 rfl
 have d7:(zK w o).cell? ⟨w.heap.size,7,none⟩=some (vi o.c.hedge):=zB h0 rfl
 obtain ⟨rr,hrr⟩:∃rr,rNew o.c=rr:=⟨_,rfl⟩
 obtain ⟨mm,hmm⟩:∃mm,mNew o.c=mm:=⟨_,rfl⟩
 rw [hrr,hmm]
 unfold zMc at HN1
 unfold zMf at HN2
 simp only [hrr] at HN1
 simp only [hmm] at HN2
 obtain ⟨kd,a,b,⟨c1,c2,c3,c4,c5⟩,s⟩:=o
 simp only [za,zK,cfgCells] at *
 subst hk
 clear h0 hL hc hGw hlk HOC hrr hmm
 go_enter Tryz.func44,Tryz.ntmps44
 go_wp2_with fail
 refine (HN1.out _ HV.out.1.size).mono ?_
 rintro e w1 ⟨hp1,_,hb1⟩
 obtain ⟨D,ρ,L,rfl,hR,ho⟩:=hp1 HC.out
 have HV1:=zh (zEg HV.out hb1)
 have HR:=zh hR
 have HO:Hid (∀b,Of ρ b→w.heap.size≤b):=fun b hb=>Nat.le_trans HV.out.1.size (ho b hb)
 have b1:=HV1.out.2
 have d3:=zB (off:=3) b1 rfl
 have d4:=zB (off:=4) b1 rfl
 have d5:=zB (off:=5) b1 rfl
 have d6:=zB (off:=6) b1 rfl
 have d7:=zB (off:=7) b1 rfl
 clear b1 hp1 hb1 hR ho
 go_wp2_with fail
 refine (HN2.out _ HV1.out.1.size).mono ?_
 rintro e w2 ⟨hp2,_,hb2⟩
 obtain ⟨M,σ,ML,rfl,hM,hs⟩:=hp2 HC.out
 have HV2:=zh (zEg HV1.out hb2)
 have HM:=zh hM
 have HR2:=zh (HR.out.of_fr (S:=fun _=>False) (Fr.of_below hb2) (fun _ f=>f.elim))
 have HS:Hid (∀b,Of σ b→w.heap.size≤b∧¬Of ρ b):=fun b hb=>⟨Nat.le_trans HV1.out.1.size (hs b hb),fun h1=>by have:=(HR.out.dom b h1).2;have:=hs b hb;omega⟩
 have HL2:=zh (HL.out.grow HV2.out.1)
 obtain ⟨da,dc,hdv,hd2,hd3⟩:=HL2.out.ds.form'
 have HDV:=zh hdv
 have hvb:=HL2.out.vb.2
 rw [hdv] at hvb
 have v0:w2.cell? ⟨V,0,none⟩=some (.slice da ps.length dc):=zB hvb rfl
 obtain ⟨n,hnn⟩:∃n,ps.length=n:=⟨_,rfl⟩
 rw [hnn] at v0 hn
 have HNN:=zh hnn
 have HSA:=zh (HL2.out.ds.of_blk (w':=w2.alloc (.cells #[vp D,vp M] 158)) (own':=fun b=>tg b=(2,0)) (fun b _ hl=>zP w2 hl) (fun _ h _=>h))
 rw [hdv,hnn] at HSA
 have HBD:=zh (show n+1≤maxLen∧(n+1)*16≤140737488355328 by unfold maxLen;omega)
 clear hp2 hb2 hM hs hdv hd2 hd3 hvb hnn
 go_wp2_with (at_builtin;refine xy _ rfl _ _ _ _ rfl zTG rfl HSA.out rfl (xV w2 Tryz.underlying100 [vp D,vp M] (by rfl) (by simp [Value.oneCell']) w2.heap.size (by simp)) (by omega) HBD.out.1 HBD.out.2 ?_;intro g goff gcap w3 hg3 hs3 hf3 hlt3 _ _;obtain ⟨k1,k2⟩:=HL2.out.add_mid hg3 hf3;have c3:w3.cell? ⟨V,0,none⟩=some dsv:=zB k1 rfl;have f3:w3.frozen? ⟨V,0,none⟩=false:=zI k1;have HS3:=zh hs3;have HG3:=zh hg3;have HF3:=zh hf3;have HLT3:=zh hlt3;clear hs3 hf3 hg3 hlt3 k1 k2)
 go_ret
 have hz:∀b,w.heap.size≤b→tg b=(0,0):=fun b hb=>Classical.byContradiction fun h1=>by have:=(HL.out.dom b h1).2;omega
 have hws:=HL.out.below.size
 have hs3:=HS3.out
 have hnn:=HNN.out
 subst hnn
 obtain ⟨tg',hfin⟩:=HL2.out.add (r:=rr) (m:=mm) HR2.out HM.out (fun b hb=>⟨hz b (HO.out b hb),Nat.le_trans hws (HO.out b hb),fun h1=>(HS.out b h1).2 hb⟩) (fun b hb=>⟨hz b (HS.out b hb).1,Nat.le_trans hws (HS.out b hb).1⟩) HG3.out HF3.out HLT3.out hs3
 exact ⟨rfl,D,M,tg',_,lsv,lss,hfin,HLK.out⟩
end
theorem zGR {P:Program} {c:Code} {K:Act→World→Prop} {Q:Exit→Act→World→Prop} {a A:Act} {w W:World} (h:∀R:Act→World→Prop,Hid (R A W)→c.wp P (Exit.then R Q) a w) (k:K A W):c.wp P (Exit.then K Q) a w:=h K k
section
variable {G V k:Nat} {w0 w w':World} {ps:List DP}
theorem zEh (h:yV G w0 V [] k w) (o:OpD) (h1:o.kind≠1) (h2:o.kind≠2) :
 Calls Tryz.prog 44 #[vp V,.agg (za o)] w fun e w'=>e=.returned (.bool true)∧yV G w0 V [] k w':=by
 have h0:(zK w o).heap[w.heap.size]?=some (.cells (za o) 98):=zL w
 have hB:Below w.heap.size w (zK w o):=(Below.refl _ w).alloc (Nat.le_refl _) _
 have HH:=zh (h.grow hB)
 have d0:(zK w o).cell? ⟨w.heap.size,0,none⟩=some (vi o.kind):=zB h0 rfl
 obtain ⟨tg,dsv,lsv,lss,hL,hlk⟩:=h
 obtain ⟨da,dc,rfl,hd2,hd3⟩:=hL.ds.form'
 have v0:(zK w o).cell? ⟨V,0,none⟩=some (.slice da 0 dc):=zB (hL.grow hB).vb.2 rfl
 have q1:(o.kind==1)=false:=beq_eq_false_iff_ne.2 h1
 have q2:(o.kind==2)=false:=beq_eq_false_iff_ne.2 h2
 have q1':decide (o.kind=1)=false:=decide_eq_false h1
 have q2':decide (o.kind=2)=false:=decide_eq_false h2
 obtain ⟨kd,a,b,⟨c1,c2,c3,c4,c5⟩,s⟩:=o
 simp only [za,zK] at *
 clear h0 hB hL hlk hd2 hd3 h1 h2
 go_enter Tryz.func44,Tryz.ntmps44
 go_wp2_with fail
 go_ret
 exact ⟨rfl,HH.out⟩
theorem zGS {G V:Nat} {w0 w:World} {tg:Nat→Nat×Nat} {dsv lsv:Value} {lss:List Value} {ps:List DP} (h:LawC G w0 w tg V dsv lsv lss ps) {i:Nat} {p:DP} (hp:ps[i]?=some p) :
 ∃db doff dc,dsv=.slice (some ⟨db,doff,none⟩) ps.length dc∧∀w',Below w.heap.size w w'→w'.cell? ⟨db,doff+i*2,none⟩=some (vp p.D)∧w'.cell? ⟨db,doff+i*2+1,none⟩=some (vp p.M):=by
 have hil:=(List.getElem?_eq_some_iff.1 hp).1
 obtain ⟨db,doff,dc,hv,_⟩:=h.ds.form (by omega)
 refine ⟨db,doff,dc,hv,fun w' hb=>?_⟩
 have h':=(h.grow hb).ds
 rw [hv] at h'
 obtain ⟨b',off',cap',hv',_,_,_,_,hcc,_⟩:=h'.form (by omega)
 injection hv' with e1 e2 e3
 injection e1 with e1
 injection e1 with e4 e5
 subst e4;subst e5
 refine ⟨?_,?_⟩
 ·exact hcc (i*2) _ (by have:=zBU zLw ps i 0 p hp (by decide);rw [Nat.add_zero] at this;rw [this];rfl)
 ·rw [Nat.add_assoc];exact hcc (i*2+1) _ (by rw [zBU zLw ps i 1 p hp (by decide)];rfl)
def xK (o:OpD):zA:=if o.kind=3 then zi o.s++[10] else o.s
theorem zLz (h:yV G w0 V ps k w) (hk:k≤100000000) (hn:ps.length≤100000000000) (o:OpD) (hkd:o.kind=3∨o.kind=4) (hsl:o.s.length≤1000000000) (ha:-9223372036854775808≤o.a∧o.a≤9223372036854775807) {p:DP} (hp:ps[xu o.a ps.length]?=some p)
 {N P:Nat} (hI:Inv N P p.r) (hF:Few p.r) (hN:N+(xK o).length≤NB) (hP:P+4*(xK o).length+5 < NB)
 (hag:∀(W:World) (σ:Nat→Role) (ML:MLay),MRep W σ G p.M ML p.m→Calls Tryz.prog 85 #[vp p.M,vi o.b,vs (bs (xK o))] W (zBW W σ G p.M (zC (yO p.r o.b (xK o))))) :
 Calls Tryz.prog 44 #[vp V,.agg (za o)] w fun e w'=>e=.returned (.bool true)∧yV G w0 V (ps.set (xu o.a ps.length) ⟨p.D,p.M,ym (yO p.r o.b (xK o)),zC (ym (yO p.r o.b (xK o)))⟩) (k+1) w':=by
 have h0:(zK w o).heap[w.heap.size]?=some (.cells (za o) 98):=zL w
 have hB:Below w.heap.size w (zK w o):=(Below.refl _ w).alloc (Nat.le_refl _) _
 obtain ⟨tg,dsv,lsv,lss,hL,hlk⟩:=h
 have hil:=(List.getElem?_eq_some_iff.1 hp).1
 obtain ⟨i,hi⟩:∃i,xu o.a ps.length=i:=⟨_,rfl⟩
 have HPK:=zh (fun w=>zGM (w:=w) o.a ps.length ha (by omega))
 rw [hi] at HPK hp hil ⊢
 obtain ⟨db,doff,dc,rfl,hpc⟩:=zGS hL hp
 have HPC:=zh hpc
 obtain ⟨x0,x1⟩:=hpc _ hB
 have v0:(zK w o).cell? ⟨V,0,none⟩=some (.slice (some ⟨db,doff,none⟩) ps.length dc):=zB (hL.grow hB).vb.2 rfl
 have hBZ:Below w.heap.size w ((zK w o).alloc (.cells #[.pointer none,.pointer none] 158)):=hB.alloc hB.size _
 obtain ⟨x0z,x1z⟩:=hpc _ hBZ
 have v0z:((zK w o).alloc (.cells #[.pointer none,.pointer none] 158)).cell? ⟨V,0,none⟩=some (.slice (some ⟨db,doff,none⟩) ps.length dc):=zB (hL.grow hBZ).vb.2 rfl
 have d1z:((zK w o).alloc (.cells #[.pointer none,.pointer none] 158)).cell? ⟨w.heap.size,1,none⟩=some (vi o.a):=zB ((zP _ (by simp)).trans h0) rfl
 have HL:=zh hL
 have HLK:=zh hlk
 have HP:=zh hp
 have HI:=zh hI
 have HF:=zh hF
 have HNP:=zh (And.intro hN hP)
 have HAG:=zh hag
 obtain ⟨n,hnn⟩:∃n,ps.length=n:=⟨_,rfl⟩
 have HNN:=zh hnn
 rw [hnn] at v0 v0z HPK hn hil
 have hn0:((n:Int)==0)=false:=beq_eq_false_iff_ne.2 (by omega)
 have hn0':decide ((n:Int)=0)=false:=decide_eq_false (by omega)
 have hi0:(0:Int)≤(i:Int):=by omega
 have hi1:(i:Int) < (n:Int):=by omega
 have d0:(zK w o).cell? ⟨w.heap.size,0,none⟩=some (vi o.kind):=zB h0 rfl
 have d1:(zK w o).cell? ⟨w.heap.size,1,none⟩=some (vi o.a):=zB h0 rfl
 have HBO:Hid (Below w.heap.size w (zK w o)∧(zK w o).heap[w.heap.size]?=some (.cells (za o) 98)):=⟨hB,h0⟩
 have hkt:(o.kind=3∧xK o=zi o.s++[10])∨(o.kind=4∧xK o=o.s):=hkd.imp (fun h=>⟨h,by unfold xK;rw [if_pos h]⟩) (fun h=>⟨h,by unfold xK;rw [if_neg (by omega)]⟩)
 have hk1:(o.kind==1)=false:=beq_eq_false_iff_ne.2 (by omega)
 have hk2:(o.kind==2)=false:=beq_eq_false_iff_ne.2 (by omega)
 have hk1':decide (o.kind=1)=false:=decide_eq_false (by omega)
 have hk2':decide (o.kind=2)=false:=decide_eq_false (by omega)
 obtain ⟨t,htt⟩:∃t,xK o=t:=⟨_,rfl⟩
 rw [htt] at hkt HNP HAG ⊢
 have HKT:=zh hkt
 obtain ⟨kd,a,c,⟨c1,c2,c3,c4,c5⟩,s⟩:=o
 simp only [za,zK] at *
 clear htt hkt hkd h0 hB hBZ hL hlk hp hpc hI hF hN hP hag hnn hi ha
 go_enter Tryz.func44,Tryz.ntmps44
 go_wp2_with fail
 apply zGR
 ·intro R hR
  go_region_law (first
   | (go_simp;go_at_call 84;refine (HPK.out _).mono ?_;rintro e w2 ⟨rfl,rfl⟩))
  all_goals exact hR.out
 obtain ⟨W2,hW2⟩:∃W2,((w.alloc (.cells #[vi kd,vi a,vi c,vi c1,vi c2,vi c3,vi c4,vi c5,vs (bs s)] 98)).alloc (.cells #[vp p.D,vp p.M] 158)).drew=W2:=⟨_,rfl⟩
 rw [show ((w.alloc (.cells #[vi kd,vi a,vi c,vi c1,vi c2,vi c3,vi c4,vi c5,vs (bs s)] 98)).alloc (.cells #[Value.pointer (some ⟨p.D,0,none⟩),Value.pointer (some ⟨p.M,0,none⟩)] 158)).drew=W2 from hW2]
 have hB2:Below w.heap.size w W2:=by rw [←hW2];exact (HBO.out.1.alloc HBO.out.1.size _).drew
 have ho2:W2.heap[w.heap.size]?=some (.cells #[vi kd,vi a,vi c,vi c1,vi c2,vi c3,vi c4,vi c5,vs (bs s)] 98 (0,0)):=by rw [←hW2];exact (zP _ (by simp)).trans HBO.out.2
 have hp2:W2.heap[w.heap.size+1]?=some (.cells #[vp p.D,vp p.M] 158 (0,0)):=by
  rw [←hW2]
  have:=zL (w.alloc (.cells #[vi kd,vi a,vi c,vi c1,vi c2,vi c3,vi c4,vi c5,vs (bs s)] 98)) (o:=.cells #[vp p.D,vp p.M] 158)
  rw [World.size_alloc] at this
  exact this
 have HL2:=zh (HL.out.grow hB2)
 have hz:∀b,w.heap.size≤b→tg b=(0,0):=fun b hb=>Classical.byContradiction fun h1=>by have:=(HL.out.dom b h1).2;omega
 have HZ:=zh hz
 have HO2:=zh (And.intro ho2 hp2)
 clear hW2 hB2 ho2 hp2 hz d0 d1 d1z v0 v0z x0 x1 x0z x1z hk1 hk2 hk1' hk2'
 rcases HKT.out with ⟨rfl,ht⟩ | ⟨rfl,ht⟩
 case' inl =>
  have e0:=zB (off:=0) HO2.out.1 rfl
  have e8:=zB (off:=8) HO2.out.1 rfl
  have HSEAL:=zh (zGA s (by omega) W2)
  have hadd:bs (zi s)++(⟨#[10]⟩:ByteArray)=bs t:=by rw [ht];exact zEY (zi s) [10]
  have hzs:(bs (zi s)).size=(zi s).length:=yP _
  have hsn:¬9223372036854775807 < (zi s).length+1:=by
   have:(zi s).length=s.length+9:=by simp [zi,zBZ,hex2]
   omega
  clear ht
  go_wp2_with fail
  refine HSEAL.out.mono ?_
  rintro e w2s ⟨rfl,hb2s⟩
  replace HL2:=zh (HL2.out.grow hb2s)
  replace HO2:=zh (And.intro ((hb2s.block _ (zF _ HO2.out.1)).trans HO2.out.1) ((hb2s.block _ (zF _ HO2.out.2)).trans HO2.out.2))
  clear e0 e8 hb2s
 case' inr=>subst ht
 all_goals
  have e0:=zB (off:=0) HO2.out.1 rfl
  have e2:=zB (off:=2) HO2.out.1 rfl
  have e8:=zB (off:=8) HO2.out.1 rfl
  have g0:=zB (off:=0) HO2.out.2 rfl
  have g1:=zB (off:=1) HO2.out.2 rfl
  obtain ⟨ρ,L,hR,hro⟩:=HL2.out.real i p HP.out
  have HFC:=zh (zUK hR HL2.out.env HI.out HF.out c t HNP.out.1 HNP.out.2)
  have HRO:=zh hro
  clear hR hro
  go_wp2_with fail
  refine HFC.out.mono ?_
  intro e w3 hpost
  obtain ⟨v,tg1,rfl,hL1,hs1,hd1,hf1⟩:=HL2.out.dcall HP.out HRO.out hpost
  have hlt0:=zF _ HO2.out.1
  have hlt1:=zF _ HO2.out.2
  obtain ⟨q1,q2⟩:=hf1 _ hlt0 (HZ.out _ (Nat.le_refl _))
  obtain ⟨q3,q4⟩:=hf1 _ hlt1 (HZ.out _ (Nat.le_succ _))
  have ho3:=q1.trans HO2.out.1
  have hp3:=q3.trans HO2.out.2
  have hlen:i < ps.length:=(List.getElem?_eq_some_iff.1 HP.out).1
  have hpi:(ps.set i {p with r:=ym (yO p.r c t)})[i]?=some {p with r:=ym (yO p.r c t)}:=by rw [List.getElem?_set_self hlen]
  obtain ⟨σ,ML,hM,hmo⟩:=hL1.ref i _ hpi
  have HMF:=zh (HAG.out w3 σ ML hM)
  have HMO:=zh hmo
  have HPI:=zh hpi
  have HL1:=zh hL1
  have HS1:=zh (And.intro hs1 hd1)
  have HQ3:=zh (And.intro q2 q4)
  have HO3:=zh (And.intro ho3 hp3)
  clear e0 e2 e8 g0 g1 hpost hf1 hlt0 hlt1 q1 q2 q3 q4 hlen hpi hM hmo hL1 hs1 hd1
  have e0:=zB (off:=0) ho3 rfl
  have e2:=zB (off:=2) ho3 rfl
  have e8:=zB (off:=8) ho3 rfl
  have g0:=zB (off:=0) hp3 rfl
  have g1:=zB (off:=1) hp3 rfl
  clear ho3 hp3
  go_wp2_with fail
  refine HMF.out.mono ?_
  intro e w4 hpost
  obtain ⟨v2,tg2,rfl,hL4,hs4,hk4,hf4⟩:=HL1.out.mcall HPI.out HMO.out hpost
  have hsa:=HS1.out.1.of_blk (w':=w4) (own':=fun b=>tg2 b=(4,lss.length)) (fun b hb _=>(hk4 b hb).1) (fun b hb _=>(hk4 b hb).2)
  have hlo:(yO p.r c t).out.length≤1000000000000:=by
   have h1:=(HI.out.feed c t).n.pot
   have h2:=HNP.out.2
   unfold NB at h2
   omega
  have HSAME:=zh (zGP (yO p.r c t).out hlo hsa hs4)
  have HL4:=zh hL4
  have HSA:=zh hsa
  have HLO:=zh hlo
  clear e0 e2 e8 g0 g1 hpost hL4 hs4 hk4 hf4 hsa hlo
  go_wp2_with fail
  refine HSAME.out.mono ?_
  rintro e w5 ⟨rfl,hb5⟩
  have hL5:=HL4.out.grow hb5
  have hsa5:=HSA.out.of_blk (w':=w5) (own':=fun b=>tg2 b=(4,lss.length)) (fun b _ hl=>hb5.block b hl) (fun _ h _=>h)
  have HMINE:=zh (zGQ (yO p.r c t).out hL5.vb.2 hL5.ls hsa5 (by have:=HLO.out;exact this) (by rw [HLK.out];omega) (by rw [hL5.vb.1];exact xB (by decide)) (by rw [hL5.vb.1];exact xB (by decide)) (fun b h1 h2=>xB (by decide) (h1.symm.trans h2))
   (fun b hb=>(hL5.dom b (by rw [hb];simp)).2) (fun b hb=>(hL5.dom b (by rw [hb];simp)).2))
  have HL5:=zh hL5
  clear hb5 hL5 hsa5
  go_wp2_with fail
  refine HMINE.out.mono ?_
  rintro e w6 ⟨rfl,hpost⟩
  obtain ⟨tg6,lsv6,v6,hL6⟩:=HL5.out.mine hpost
  have HL6:=zh hL6
  clear hpost hL6
  go_wp2_with fail
  go_ret
  have hlk2:(lss++[v6]).length=k+1:=by rw [List.length_append,List.length_singleton,HLK.out]
  have hfin:=HL6.out
  rw [List.set_set] at hfin
  exact ⟨rfl,tg6,_,lsv6,lss++[v6],hfin,hlk2⟩
end
end Go.Proofs.YtaejfobbogahmaaGreatDoor
