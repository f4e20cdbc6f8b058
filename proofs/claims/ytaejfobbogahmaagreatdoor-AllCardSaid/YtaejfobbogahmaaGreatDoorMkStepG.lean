/-
  LineM StepG FedAt StepS: texts of their own, joined.
-/
import Derived.Test.YtaejfobbogahmaaGreatDoorMkFedE
import Derived.Test.YtaejfobbogahmaaGreatDoorMkMServe
set_option maxRecDepth 100000
set_option maxHeartbeats 16000000
set_option linter.all false
namespace Go.Proofs.YtaejfobbogahmaaGreatDoor
open Go Go.RowKit
def zDs (K:zA→Bool):Prop:=∀{w:World} {ρ:Nat→Role} {G M:Nat} {L:MLay} {N P:Nat} {r:Raw},Inv N P r→MRep w ρ G M L (zC r)→∀(c:Int) {x:Msg},xF x→K x.kind=true→zd r c=true→N≤1000000000→P≤1000000000→r.conns.length≤1000000000 →
    Calls Tryz.prog 155 #[vp M,vi c,.agg (zE x)] w fun e w'=>e=.returned (.tuple #[])∧MSt w ρ G M (zC (zQ r c x)) w'
section
variable {w w' w1 w2 w3:World} {ρ:Nat→Role} {G M:Nat} {L:MLay} {m:RefM}
theorem zVQ {l t:zA} (h:zu l=some t):l.length≤80:=by
 unfold zu at h
 split at h
 ·cases h
 ·omega
theorem zVR {K:zA→Bool} (hK:zDs K) {N P:Nat} {r:Raw} (hI:Inv N P r) (h:MRep w ρ G M L (zC r)) (c:Int) {l t:zA} {x:Msg} (ho:zu l=some t) (hr:zz t=some x) (hk:K x.kind=true) (hc:zd r c=true) (hN:N≤900000000) (hP:P≤900000000) (hC:r.conns.length≤900000000) :
 Calls Tryz.prog 115 #[vp M,vi c,vs (bs l)] w fun e w'=>e=.returned (.tuple #[])∧MSt w ρ G M (zC (zj r c l)) w':=by
 have hl:=zVQ ho
 have htl:=zHF ho
 have HO:=zh (zLj l (by omega) w)
 have HR:=zh (fun w=>zLp t (by omega) w)
 unfold zDg at HO
 rw [ho] at HO
 have hx:=zHE htl hr
 have HE:Hid (zj r c l=yC (zQ r c x)):=show _=_ by unfold zj;rw [ho];simp only [];rw [hr]
 have HMS:=zh (fun (W:World) (hb:Below w.heap.size w W)=>hK hI (h.grow hb) c hx hk hc (by omega) (by omega) (by omega))
 have HI:=zh (hI.handle c hx)
 have HRD:=zh hr
 have HNP:=zh (And.intro hN hP)
 simp only [Option.getD_some,Option.isSome_some] at HO
 clear hI h ho hr hk hc hN hP hC hl htl hx hK
 go_enter Tryz.func115,Tryz.ntmps115
 go_wp2_with fail
 refine HO.out.mono ?_
 rintro e w1 ⟨rfl,hb1⟩
 have HB1:=zh hb1
 clear hb1
 go_wp2_with fail
 refine (HR.out _).mono ?_
 rintro e w2 ⟨mm,fine,rfl,hrd,hb2⟩
 have HB2:=zh (HB1.out.trans (hb2.mono HB1.out.size))
 rw [HRD.out] at hrd
 cases fine with
 | false=>simp at hrd
 | true =>
   simp only [if_true,Option.some.injEq] at hrd
   subst hrd
   obtain ⟨k1,k2,k3,k4,k5⟩:=x
   simp only [zE] at *
   clear hb2 HO HR
   go_wp2_with fail
   refine (HMS.out _ (Below.alloc HB2.out HB2.out.size _)).mono ?_
   rintro e w3 ⟨rfl,hst⟩
   obtain ⟨ρ3,L3,g1,g2⟩:=MSt.of_grow hst (Below.alloc HB2.out HB2.out.size _)
   have HSV:=zh (zIo HI.out g1 (by have:=HNP.out;omega) (by have:=HNP.out;omega))
   have HG2:=zh g2
   clear hst g1 g2
   go_wp2_with fail
   refine HSV.out.mono ?_
   rintro e w4 ⟨rfl,hst⟩
   have HST:Hid (MSt w ρ G M (zC (zj r c l)) w4):=show MSt _ _ _ _ _ _ by rw [HE.out];exact MSt.after HG2.out hst
   clear hst
   go_wp2_with fail
   go_end0
   exact ⟨rfl,HST.out⟩
theorem zVS {K:zA→Bool} (hK:zDs K) {N P:Nat} {r:Raw} (hI:Inv N P r) (hF:Few r) (h:MRep w ρ G M L (zC r)) (c:Int) (t:zA) (ht:t.length≤10000000) (hN:N≤500000000) (hP:P≤500000000) (hC:r.conns.length≤500000000) (hl:∀l∈zAt r c t,zNN K l) :
 Calls Tryz.prog 85 #[vp M,vi c,vs (bs t)] w (zBW w ρ G M (zC (yO r c t))):=by
 have hr:zBi (zp (zC r) c) c=zm (zH r c) c:=by rw [zBk,zMI]
 have hrl:=(hF.conn c).rest c
 have hcn:(zC r).conns.length=r.conns.length:=by simp [zC]
 have hlc:(zAt r c t).length≤t.length:=by
  unfold zAt zg
  have h1:=zGL 10 t
  split
  ·simp
  ·rename_i a l he;rw [he] at h1;simpa using h1
 have hlen:∀j,(zC (zAi r c t j)).conns.length≤r.conns.length+1:=fun j=>by
  have:=zIi r c t j
  simpa [zC] using this
 have key:=zLt h c t (by omega) (by rw [hr];omega) (by omega) (fun j=>zC (zAi r c t j)) (zBk r c).symm (by have:=hlen (zg (zBi (zp (zC r) c) c) t).dropLast.length;show (zC (zAi r c t _)).conns.length≤_;omega) (fun j l hj hll ρ1 L1 W1 h1=>?_)
 ·rw [hr] at key
  have e:=zVC hI hF c t
  unfold zEv at e
  rw [show (zg (zm (zH r c) c) t).dropLast=zAt r c t from rfl,e] at key
  exact key
 ·rw [hr] at hj
  have hj:(zAt r c t)[j]?=some l:=hj
  have hjl:=(List.getElem?_eq_some_iff.1 hj).1
  have hIj:=zNL hI c t j
  have hnx:=zVA hj
  have hcl:=zIi r c t j
  rw [hnx]
  by_cases hm:∃t' x,zu l=some t'∧zz t'=some x
  ·obtain ⟨t',x,h2,h3⟩:=hm
   exact zVR hK hIj h1 c h2 h3 (hl l (List.mem_of_getElem? hj) t' x h2 h3) (zIh r c t j) (by omega) (by omega) (by omega)
  ·have hno:zBV l:=fun t' h2=>by
    cases h3:zz t' with
    | none=>rfl
    | some x=>exact absurd ⟨t',x,h2,h3⟩ hm
   rw [zMD hno]
   have ho:(zC (zAi r c t j)).out.length≤1000000000000:=by
    have:=hIj.n.pot
    show (zAi r c t j).out.length≤_
    omega
   have:=zLq h1 c l (by omega) hno ho
   exact this
end
structure xE (Z:zA→Bool) (U:Nat) (p:DP):Prop where
 eq:p.m=zC p.r
 inv:Inv U (4*U) p.r
 few:Few p.r
 cns:p.r.conns.length≤U
 out:p.r.out=[]
 no:ZOk Z p.r
theorem xE.mono {Z:zA→Bool} {U U':Nat} {p:DP} (h:xE Z U p) (hU:U≤U'):xE Z U' p:=⟨h.eq,h.inv.mono hU (by omega),h.few,Nat.le_trans h.cns hU,h.out,h.no⟩
theorem xE.new {Z:zA→Bool} {D M:Nat} {c:Cfg} (h:zAN c=true):xE Z 0 ⟨D,M,rNew c,mNew c⟩:=⟨rfl,Inv.init h,Few.init c,Nat.le_refl _,rfl,ZOk.init c⟩
theorem xE.fed {Z K:zA→Bool} (hz:Z []=true) {U:Nat} {p:DP} (h:xE Z U p) (c:Int) (t:zA) (hf:zIk Z K (zm (zH p.r c) c) t):xE Z (U+t.length+1) ⟨p.D,p.M,ym (yO p.r c t),zC (ym (yO p.r c t))⟩:=by
 refine ⟨rfl,((h.inv.feed c t).told).mono (by omega) (by omega),(h.few.feed c t).told,?_,rfl,(h.no.feed hz h.inv h.few c t hf.last).told hz⟩
 have:=zVB h.inv h.few c t
 have h2:=h.cns
 show (yO p.r c t).conns.length≤_
 omega
def zCV (G:Nat) (w0:World) (V:Nat) (Z:zA→Bool) (U n k:Nat) (o:OpD) (e:Ending) (w':World):Prop:=
 e=.returned (.bool true)∧∃ps' k',yV G w0 V ps' k' w'∧(∀p∈ps',xE Z (U+o.s.length+20) p)∧ps'.length≤n+1∧k'≤k+1
section
variable {G V k:Nat} {w0 w w':World} {ps:List DP} {Z K:zA→Bool}
theorem zCV.same {U:Nat} {o:OpD} {k':Nat} (h:yV G w0 V ps k' w') (hok:∀p∈ps,xE Z U p) (hk:k'≤k+1):zCV G w0 V Z U ps.length k o (.returned (.bool true)) w':=
 ⟨rfl,ps,k',h,fun p hp=>(hok p hp).mono (by omega),by omega,hk⟩
theorem zVT (hz:Z []=true) {U:Nat} (h:yV G w0 V ps k w) (hok:∀p∈ps,xE Z U p) (hn:ps.length≤10000000) (o:OpD) (hp:o.kind=1) :
 Calls Tryz.prog 44 #[vp V,.agg (za o)] w (zCV G w0 V Z U ps.length k o):=by
 cases hc:zAN o.c with
 | false =>
   refine (zLx h o hp hc).mono ?_
   rintro e w' ⟨rfl,h1⟩
   exact .same h1 hok (by omega)
 | true =>
   refine (zLy h (by omega) o hp hc).mono ?_
   rintro e w' ⟨rfl,D,M,h1⟩
   refine ⟨rfl,_,k,h1,fun p hp=>?_,by simp,by omega⟩
   rcases List.mem_append.1 hp with hp | hp
   ·exact (hok p hp).mono (by omega)
   ·simp at hp
    rw [hp]
    exact (xE.new hc).mono (Nat.zero_le _)
theorem zVU (o:OpD):(xK o).length≤o.s.length+10:=by
 unfold xK
 split
 ·simp [zi,zBZ,hex2]
 ·omega
theorem zGj (ps:List DP) (a:Int) (he:ps≠[]):∃p,ps[xu a ps.length]?=some p:=⟨_,List.getElem?_eq_getElem (zLv _ (List.length_pos_iff.2 he))⟩
theorem zVV (hz:Z []=true) (hK:zDs K) {U:Nat} (h:yV G w0 V ps k w) (hok:∀p∈ps,xE Z U p) (hU:U≤30000000) (hk:k≤10000000) (hn:ps.length≤10000000) (o:OpD) (hkd:o.kind=3∨o.kind=4) (hp:∀rest,Z rest=true→zIk Z K rest (xK o)) (ha:-9223372036854775808≤o.a∧o.a≤9223372036854775807) (hs:o.s.length≤1048576) :
 Calls Tryz.prog 44 #[vp V,.agg (za o)] w (zCV G w0 V Z U ps.length k o):=by
 by_cases he:ps=[]
 ·subst he
  refine (zEh h o (by omega) (by omega)).mono ?_
  rintro e w' ⟨rfl,h1⟩
  exact .same h1 hok (by omega)
 ·obtain ⟨p,hpp⟩:=zGj ps o.a he
  have hpo:=hok p (List.mem_of_getElem? hpp)
  have htl:=zVU o
  have hfo:=hp (zm (zH p.r o.b) o.b) ((hpo.no.conn hz o.b).rest hz o.b)
  refine (zLz h (by omega) (by omega) o hkd (by omega) ha hpp hpo.inv hpo.few (by unfold NB;omega) (by unfold NB;omega) (fun W σ ML hM=>?_)).mono ?_
  ·rw [hpo.eq] at hM
   exact zVS hK hpo.inv hpo.few hM o.b (xK o) (by omega) (by omega) (by omega) (by have:=hpo.cns;omega) hfo.lines
  rintro e w' ⟨rfl,h1⟩
  refine ⟨rfl,_,k+1,h1,fun q hq=>?_,by simp,by omega⟩
  rcases List.mem_or_eq_of_mem_set hq with hq | rfl
  ·exact (hok q hq).mono (by omega)
  ·exact (hpo.fed hz o.b (xK o) hfo).mono (by omega)
end
def zAZ (G:Nat) (w0:World) (V:Nat) (Z:zA→Bool) (ops:List OpD) (k:Nat) (w:World):Prop:=∃ps n,yV G w0 V ps n w∧(∀p∈ps,xE Z (zBl ops k) p)∧ps.length≤k∧n≤k
section
variable {G V k:Nat} {w0 w w':World} {Z:zA→Bool} {ops:List OpD}
theorem zAZ.grow (h:zAZ G w0 V Z ops k w) (hb:Below w.heap.size w w'):zAZ G w0 V Z ops k w':=by
 obtain ⟨ps,n,h1,h2⟩:=h
 exact ⟨ps,n,h1.grow hb,h2⟩
theorem zAZ.below (h:zAZ G w0 V Z ops k w):Below w0.heap.size w0 w:=by
 obtain ⟨ps,n,⟨tg,dsv,lsv,lss,h1,_⟩,_⟩:=h
 exact h1.below
theorem zAZ.next (h:zAZ G w0 V Z ops k w) {o:OpD} (ho:ops[k]?=some o):zAZ G w0 V Z ops (k+1) w:=by
 obtain ⟨ps,n,h1,h2,h3,h4⟩:=h
 exact ⟨ps,n,h1,fun p hp=>(h2 p hp).mono (by rw [zGW ho];omega),by omega,by omega⟩
theorem zAZ.stepP (h:zAZ G w0 V Z ops k w) {o:OpD} (ho:ops[k]?=some o) (hs:ops.length+(ops.map fun o=>o.s.length).sum≤1048576)
 (hst:∀ps n,yV G w0 V ps n w→(∀p∈ps,xE Z (zBl ops k) p)→ps.length≤10000000→n≤10000000→zBl ops k≤30000000→o.s.length≤1048576→Calls Tryz.prog 44 #[vp V,.agg (za o)] w (zCV G w0 V Z (zBl ops k) ps.length n o)) :
 Calls Tryz.prog 44 #[vp V,.agg (za o)] w fun e w'=>e=.returned (.bool true)∧zAZ G w0 V Z ops (k+1) w':=by
 obtain ⟨ps,n,h1,h2,h3,h4⟩:=h
 have hk:=(List.getElem?_eq_some_iff.1 ho).1
 have hu:=zMU ops k
 have hol:o.s.length≤(ops.map fun o=>o.s.length).sum:=zGX (List.mem_map_of_mem (List.mem_of_getElem? ho))
 refine (hst ps n h1 h2 (by omega) (by omega) (by omega) (by omega)).mono ?_
 rintro e w' ⟨rfl,ps',k',q1,q2,q3,q4⟩
 exact ⟨rfl,ps',k',q1,fun p hp=>by rw [zGW ho];exact q2 p hp,by omega,by omega⟩
end
theorem zVW {w:World} (s:zA) (hs:s.length≤1000000000000):Calls Tryz.prog 19 #[vs (bs s)] w fun e w'=>e=.returned (vs (bs (zi s)))∧Below w.heap.size w w':=by
 have HC:=zh (zLH s hs w)
 go_enter Tryz.func19,Tryz.ntmps19
 go_wp2_with fail
 refine HC.out.mono ?_
 rintro e w1 ⟨rfl,hb⟩
 have HB:=zh hb
 clear hb
 go_wp2_with fail
 go_ret
 exact ⟨rfl,HB.out⟩
theorem zIp {n:Nat} {w W W':World} {X:Obj} (h:Below n w W∧W.heap[n]?=some X) (hb:Below W.heap.size W W'):Below n w W'∧W'.heap[n]?=some X:=
 ⟨h.1.trans (hb.mono (Nat.le_of_lt (zF _ h.2))),(hb.block _ (zF _ h.2)).trans h.2⟩
theorem zNW {n:Nat} {w W W':World} {X:Obj} (h:Below n w W∧W.heap[n]?=some X) (hb:Below W.drew.heap.size W.drew W'):Below n w W'∧W'.heap[n]?=some X:=zIp (W:=W.drew) ⟨xo h.1 1,h.2⟩ hb
theorem zVX (w:World) (p:Value) (o:OpD) (hk:o.kind=2) (hs:o.s.length≤1000000000000) :
 Calls Tryz.prog 44 #[p,.agg (za o)] w fun e w'=>e=.returned (.bool true)∧Below w.heap.size w w':=by
 have h0:(zK w o).heap[w.heap.size]?=some (.cells (za o) 98):=zL w
 have HBK:=zh h0
 have HB:Hid (Below w.heap.size w (zK w o)):=(Below.refl _ w).alloc (Nat.le_refl _) _
 have HS1:=zh (fun w:World=>zVW (w:=w) o.s hs)
 have HS2:=zh (fun w:World=>zGA o.s hs w)
 obtain ⟨z,hz⟩:∃z,zi o.s=z:=⟨_,rfl⟩
 rw [hz] at HS1 HS2
 have HV:Hid (Below w.heap.size w (zK w o)∧(zK w o).heap[w.heap.size]?=some (.cells (za o) 98)):=⟨HB.out,h0⟩
 have c0:(zK w o).cell? ⟨w.heap.size,0,none⟩=some (vi o.kind):=zB h0 rfl
 have c8:(zK w o).cell? ⟨w.heap.size,8,none⟩=some (vs (bs o.s)):=zB h0 rfl
 obtain ⟨kd,a,b,⟨d1,d2,d3,d4,d5⟩,s⟩:=o
 simp only [za,zK] at *
 subst hk
 clear h0 hz hs
 go_enter Tryz.func44,Tryz.ntmps44
 go_wp2_with fail
 go_region_law (first
  | (go_simp;go_at_call 19;refine (HS1.out _).mono ?_;rintro e w2 ⟨rfl,hb⟩;first | (have HV2:=zh (zIp HV1.out hb)) | (have HV1:=zh (zNW HV.out hb);have c81:=zB (off:=8) HV1.out.2 rfl);clear hb)
  | (go_simp;go_at_call 83;refine (HS2.out _).mono ?_;rintro e w2 ⟨rfl,hb⟩;first | (have HV2:=zh (zIp HV1.out hb)) | (have HV1:=zh (zNW HV.out hb);have c81:=zB (off:=8) HV1.out.2 rfl);clear hb))
 all_goals
  go_wp2_with fail
  go_ret
  exact ⟨rfl,HV2.out.1⟩
section
variable {G V k:Nat} {w0 w w':World} {ps:List DP} {Z K:zA→Bool}
theorem zVY {U:Nat} (h:yV G w0 V ps k w) (hok:∀p∈ps,xE Z U p) (o:OpD) (hkd:o.kind=2) (hs:o.s.length≤1048576) :
 Calls Tryz.prog 44 #[vp V,.agg (za o)] w (zCV G w0 V Z U ps.length k o):=by
 refine (zVX w (vp V) o hkd (by omega)).mono ?_
 rintro e w' ⟨rfl,hb⟩
 exact .same (h.grow hb) hok (by omega)
end
end Go.Proofs.YtaejfobbogahmaaGreatDoor
