/-
  StepC: texts of their own, joined.
-/
import Derived.Test.YtaejfobbogahmaaGreatDoorMkMClose
set_option maxRecDepth 100000
set_option maxHeartbeats 16000000
set_option linter.all false
namespace Go.Proofs.YtaejfobbogahmaaGreatDoor
open Go Go.RowKit
section
variable {G V k:Nat} {w0 w w':World} {ps:List DP} {Z K:zA→Bool}
theorem zXP {N P:Nat} {r:Raw} (hI:Inv N P r) (c:Int):(yx r c).conns.length≤r.conns.length:=by
 rw [zEE]
 unfold yC
 rw [zEI]
 rw [zEs (fun r:Raw=>r.conns.length) yu (fun r a=>by show (zZ (rEnd r a) a.id false).conns.length=_;rw [zEu,zBp])]
 rw [zEs (fun r:Raw=>r.conns.length) (zx c) (fun r id=>by
  show (zy _ id).conns.length=_
  rw [zEt]
  exact zEs (fun r:Raw=>r.conns.length) rEnd zBp _ r)]
 show (adel r.conns c).length≤_
 rw [zDY hI.q.kcn]
 exact List.length_filter_le _ _
theorem xE.closed (hz:Z []=true) {U:Nat} {p:DP} (h:xE Z U p) (c:Int):xE Z (U+1) ⟨p.D,p.M,ym (yx p.r c),zC (ym (yx p.r c))⟩:=
 ⟨rfl,(((h.inv.close c)).told).mono (by omega) (by omega),(h.few.close c).told,by show (yx p.r c).conns.length≤_;have:=zXP h.inv c;have:=h.cns;omega,rfl,(h.no.close c).told hz⟩
theorem zXQ (h:yV G w0 V ps k w) (hk:k≤10000000) (hn:ps.length≤100000000000) (o:OpD) (hkd:o.kind=6) (ha:-9223372036854775808≤o.a∧o.a≤9223372036854775807) {p:DP} (hp:ps[xu o.a ps.length]?=some p)
 {N P:Nat} (hI:Inv N P p.r) (hm:p.m=zC p.r) (hN:N≤100000000) (hP:P≤200000000) (hC:p.r.conns.length≤100000000) :
 Calls Tryz.prog 44 #[vp V,.agg (za o)] w fun e w'=>e=.returned (.bool true)∧yV G w0 V (ps.set (xu o.a ps.length) ⟨p.D,p.M,ym (yx p.r o.b),zC (ym (yx p.r o.b))⟩) (k+1) w':=by
 have h0:(zK w o).heap[w.heap.size]?=some (.cells (za o) 98):=zL w
 have hB:Below w.heap.size w (zK w o):=(Below.refl _ w).alloc (Nat.le_refl _) _
 have HH:=zh h
 obtain ⟨tg,dsv,lsv,lss,hL,hlk⟩:=h
 have hil:=(List.getElem?_eq_some_iff.1 hp).1
 obtain ⟨i,hi⟩:∃i,xu o.a ps.length=i:=⟨_,rfl⟩
 have HPK:=zh (fun w=>zGM (w:=w) o.a ps.length ha (by omega))
 rw [hi] at HPK hp hil ⊢
 obtain ⟨db,doff,dc,rfl,hpc⟩:=zGS hL hp
 obtain ⟨x0,x1⟩:=hpc _ hB
 have v0:(zK w o).cell? ⟨V,0,none⟩=some (.slice (some ⟨db,doff,none⟩) ps.length dc):=zB (hL.grow hB).vb.2 rfl
 have hBZ:Below w.heap.size w ((zK w o).alloc (.cells #[.pointer none,.pointer none] 158)):=hB.alloc hB.size _
 obtain ⟨x0z,x1z⟩:=hpc _ hBZ
 have v0z:((zK w o).alloc (.cells #[.pointer none,.pointer none] 158)).cell? ⟨V,0,none⟩=some (.slice (some ⟨db,doff,none⟩) ps.length dc):=zB (hL.grow hBZ).vb.2 rfl
 have d1z:((zK w o).alloc (.cells #[.pointer none,.pointer none] 158)).cell? ⟨w.heap.size,1,none⟩=some (vi o.a):=zB ((zP _ (by simp)).trans h0) rfl
 obtain ⟨n,hnn⟩:∃n,ps.length=n:=⟨_,rfl⟩
 have HLL:=zh (And.intro hL hlk)
 have HP:=zh hp
 have HI:=zh hI
 have HME:=zh hm
 have HNP:Hid (N≤100000000∧P≤200000000∧p.r.conns.length≤100000000):=⟨hN,hP,hC⟩
 rw [hnn] at v0 v0z HPK hn hil
 have hn0:((n:Int)==0)=false:=beq_eq_false_iff_ne.2 (by omega)
 have hn0':decide ((n:Int)=0)=false:=decide_eq_false (by omega)
 have hi0:(0:Int)≤(i:Int):=by omega
 have hi1:(i:Int) < (n:Int):=by omega
 have d0:(zK w o).cell? ⟨w.heap.size,0,none⟩=some (vi o.kind):=zB h0 rfl
 have d1:(zK w o).cell? ⟨w.heap.size,1,none⟩=some (vi o.a):=zB h0 rfl
 have HBO:Hid (Below w.heap.size w (zK w o)∧(zK w o).heap[w.heap.size]?=some (.cells (za o) 98)):=⟨hB,h0⟩
 have hk1:(o.kind==1)=false:=beq_eq_false_iff_ne.2 (by omega)
 have hk2:(o.kind==2)=false:=beq_eq_false_iff_ne.2 (by omega)
 have hk1':decide (o.kind=1)=false:=decide_eq_false (by omega)
 have hk2':decide (o.kind=2)=false:=decide_eq_false (by omega)
 have HKD:=zh hkd
 have HKB:=zh hk
 obtain ⟨kd,a,c,⟨c1,c2,c3,c4,c5⟩,s⟩:=o
 simp only [za,zK] at *
 clear hkd h0 hB hBZ hL hlk hp hpc hI hnn hi ha hm hk hN hP hC
 go_enter Tryz.func44,Tryz.ntmps44
 go_wp2_with fail
 apply zGR
 ·intro R hR
  go_region_law (first
   | (go_simp;go_at_call 84;refine (HPK.out _).mono ?_;rintro e w2 ⟨rfl,rfl⟩))
  all_goals exact hR.out
 obtain ⟨W2,hW2⟩:∃W2,((w.alloc (.cells #[vi kd,vi a,vi c,vi c1,vi c2,vi c3,vi c4,vi c5,vs (bs s)] 98)).alloc (.cells #[vp p.D,vp p.M] 158)).drew=W2:=⟨_,rfl⟩
 rw [show ((w.alloc (.cells #[vi kd,vi a,vi c,vi c1,vi c2,vi c3,vi c4,vi c5,vs (bs s)] 98)).alloc (.cells #[Value.pointer (some ⟨p.D,0,none⟩),Value.pointer (some ⟨p.M,0,none⟩)] 158)).drew=W2 from hW2]
 have HB2:Hid (Below w.heap.size w W2):=show Below _ _ _ by rw [←hW2];exact (HBO.out.1.alloc HBO.out.1.size _).drew
 have ho2:W2.heap[w.heap.size]?=some (.cells #[vi kd,vi a,vi c,vi c1,vi c2,vi c3,vi c4,vi c5,vs (bs s)] 98 (0,0)):=by rw [←hW2];exact (zP _ (by simp)).trans HBO.out.2
 have hp2:W2.heap[w.heap.size+1]?=some (.cells #[vp p.D,vp p.M] 158 (0,0)):=by
  rw [←hW2]
  have:=zL (w.alloc (.cells #[vi kd,vi a,vi c,vi c1,vi c2,vi c3,vi c4,vi c5,vs (bs s)] 98)) (o:=.cells #[vp p.D,vp p.M] 158)
  rw [World.size_alloc] at this
  exact this
 have HO2:=zh (And.intro ho2 hp2)
 have e0:=zB (off:=0) ho2 rfl
 have e2:=zB (off:=2) ho2 rfl
 have g0:=zB (off:=0) hp2 rfl
 have g1:=zB (off:=1) hp2 rfl
 clear hW2 ho2 hp2 d0 d1 d1z v0 v0z x0 x1 x0z x1z
 obtain rfl:=HKD.out
 have HL2:=zh (HLL.out.1.grow HB2.out)
 have HLK:=zh HLL.out.2
 have HZ:Hid (∀b,w.heap.size≤b→tg b=(0,0)):=fun b hb=>Classical.byContradiction fun h1=>by have:=(HLL.out.1.dom b h1).2;omega
 obtain ⟨ρ,L,hR,hro⟩:=HL2.out.real i p HP.out
 have HFC:=zh (zXD hR HL2.out.env HI.out (by have:=HNP.out;unfold NB;omega) (by have:=HNP.out;unfold NB;omega) c)
 have HRO:=zh hro
 clear hR hro
 go_wp2_with fail
 refine HFC.out.mono ?_
 intro e w3 hpost
 obtain ⟨v,tg1,rfl,hL1,hs1,hd1,hf1⟩:=HL2.out.dcall HP.out HRO.out hpost
 obtain ⟨q1,q2⟩:=hf1 _ (zF _ HO2.out.1) (HZ.out _ (Nat.le_refl _))
 obtain ⟨q3,q4⟩:=hf1 _ (zF _ HO2.out.2) (HZ.out _ (Nat.le_succ _))
 have ho3:=q1.trans HO2.out.1
 have hp3:=q3.trans HO2.out.2
 have hlen:i < ps.length:=(List.getElem?_eq_some_iff.1 HP.out).1
 have hpi:(ps.set i {p with r:=ym (yx p.r c)})[i]?=some {p with r:=ym (yx p.r c)}:=by rw [List.getElem?_set_self hlen]
 obtain ⟨σ,ML,hM,hmo⟩:=hL1.ref i _ hpi
 have hM':MRep w3 σ G p.M ML (zC p.r):=by rw [←HME.out];exact hM
 have HMF:=zh (zXO HI.out hM' c (by have:=HNP.out;omega) (by have:=HNP.out;omega) (by have:=HNP.out;omega))
 have HMO:=zh hmo
 have HPI:=zh hpi
 have HL1:=zh hL1
 have HS1:=zh hs1
 clear e0 e2 g0 g1 hpost hf1 hd1 q1 q2 q3 q4 hlen hpi hM hM' hmo hL1 hs1
 have e0:=zB (off:=0) ho3 rfl
 have e2:=zB (off:=2) ho3 rfl
 have g0:=zB (off:=0) hp3 rfl
 have g1:=zB (off:=1) hp3 rfl
 clear ho3 hp3
 go_wp2_with fail
 refine HMF.out.mono ?_
 intro e w4 hpost
 obtain ⟨v2,tg4,rfl,hL4,hs4,hk4,hf4⟩:=HL1.out.mcall HPI.out HMO.out hpost
 have HSA:=zh (HS1.out.of_blk (w':=w4) (own':=fun b=>tg4 b=(4,lss.length)) (fun b hb _=>(hk4 b hb).1) (fun b hb _=>(hk4 b hb).2))
 have HLO:Hid ((yx p.r c).out.length≤1000000000000):=show _≤_ by
  have h1:=(HI.out.close c).n.pot
  have:=HNP.out
  omega
 have HL4:=zh hL4
 have HSB:=zh hs4
 clear e0 e2 g0 g1 hpost hL4 hs4 hk4 hf4
 have HSAME:=zh (zGP (yx p.r c).out HLO.out HSA.out HSB.out)
 go_wp2_with fail
 refine HSAME.out.mono ?_
 rintro e w5 ⟨rfl,hb5⟩
 have hL5:=HL4.out.grow hb5
 have hsa5:=HSA.out.of_blk (w':=w5) (own':=fun b=>tg4 b=(4,lss.length)) (fun b _ hl=>hb5.block b hl) (fun _ h _=>h)
 have HMINE:=zh (zGQ (yx p.r c).out hL5.vb.2 hL5.ls hsa5 (by have:=HLO.out;exact this) (by rw [HLK.out];have:=HKB.out;omega) (by rw [hL5.vb.1];exact xB (by decide)) (by rw [hL5.vb.1];exact xB (by decide)) (fun b h1 h2=>xB (by decide) (h1.symm.trans h2))
  (fun b hb=>(hL5.dom b (by rw [hb];simp)).2) (fun b hb=>(hL5.dom b (by rw [hb];simp)).2))
 have HL5:=zh hL5
 clear hb5 hL5 hsa5
 go_wp2_with fail
 refine HMINE.out.mono ?_
 rintro e w6 ⟨rfl,hpost⟩
 obtain ⟨tg6,lsv6,v6,hL6⟩:=HL5.out.mine hpost
 have HL6:=zh hL6
 clear hpost hL6
 go_wp2_with fail
 go_ret
 have hlk2:(lss++[v6]).length=k+1:=by rw [List.length_append,List.length_singleton,HLK.out]
 have hfin:=HL6.out
 rw [List.set_set] at hfin
 exact ⟨rfl,tg6,_,lsv6,lss++[v6],hfin,hlk2⟩
theorem zXR (hz:Z []=true) {U:Nat} (h:yV G w0 V ps k w) (hok:∀p∈ps,xE Z U p) (hU:U≤30000000) (hk:k≤10000000) (hn:ps.length≤10000000) (o:OpD) (hkd:o.kind=6) (ha:-9223372036854775808≤o.a∧o.a≤9223372036854775807) :
 Calls Tryz.prog 44 #[vp V,.agg (za o)] w (zCV G w0 V Z U ps.length k o):=by
 by_cases he:ps=[]
 ·subst he
  refine (zEh h o (by omega) (by omega)).mono ?_
  rintro e w' ⟨rfl,h1⟩
  exact .same h1 hok (by omega)
 ·obtain ⟨p,hpp⟩:=zGj ps o.a he
  have hpo:=hok p (List.mem_of_getElem? hpp)
  refine (zXQ h hk (by omega) o hkd ha hpp hpo.inv hpo.eq (by omega) (by omega) (by have:=hpo.cns;omega)).mono ?_
  rintro e w' ⟨rfl,h1⟩
  refine ⟨rfl,_,k+1,h1,fun q hq=>?_,by simp,by omega⟩
  rcases List.mem_or_eq_of_mem_set hq with hq | rfl
  ·exact (hok q hq).mono (by omega)
  ·exact (hpo.closed hz o.b).mono (by omega)
end
end Go.Proofs.YtaejfobbogahmaaGreatDoor
