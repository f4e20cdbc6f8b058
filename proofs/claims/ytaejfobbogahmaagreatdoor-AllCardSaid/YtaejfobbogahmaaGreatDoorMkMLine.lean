/-
  MLine MFeed: texts of their own, joined.
-/
import Derived.Test.YtaejfobbogahmaaGreatDoorMkMSayA
import Derived.Test.YtaejfobbogahmaaGreatDoorMkRNum
set_option maxRecDepth 100000
set_option maxHeartbeats 16000000
set_option linter.all false
namespace Go.Proofs.YtaejfobbogahmaaGreatDoor
open Go Go.RowKit
def zBV (l:zA):Prop:=∀t,zu l=some t→zz t=none
section
variable {w w' w1 w2 w3:World} {ρ:Nat→Role} {G M:Nat} {L:MLay} {m:RefM}
theorem MSt.of_grow {m':RefM} (h:MSt w1 ρ G M m' w') (hb:Below w.heap.size w w1):MSt w ρ G M m' w':=by
 obtain ⟨ρ',L',k1,k2⟩:=h
 refine ⟨ρ',L',k1,?_,fun b hb'=>(k2.own b hb').imp id (fun h=>Nat.le_trans hb.size h)⟩
 exact Fr.trans (Fr.of_below hb) k2.fr (fun x hx=>.inl hx)
theorem zSl:(bs wBad)=⟨#[98,97,100]⟩:=rfl
theorem zLq (h:MRep w ρ G M L m) (c:Int) (l:zA) (hl:l.length≤1099511627776) (hb:zBV l) (hn:m.out.length≤1000000000000) :
 Calls Tryz.prog 115 #[vp M,vi c,vs (bs l)] w fun e w'=>e=.returned (.tuple #[])∧MSt w ρ G M (mSay m c wBad) w':=by
 have HO:=zh (zLj l hl w)
 have HH:=zh h
 obtain ⟨t,ht⟩:∃t,(zu l).getD []=t:=⟨_,rfl⟩
 obtain ⟨ok,hok⟩:∃ok,(zu l).isSome=ok:=⟨_,rfl⟩
 have htl:t.length≤1099511627776:=by
  rw [←ht]
  unfold zu
  split
  ·simp
  ·split
   ·simp;omega
   ·simp
 have HR:=zh (fun w=>zLp t htl w)
 unfold zDg at HO
 rw [ht,hok] at HO
 have HF:Hid (ok=false∨zz t=none):=show _∨_ by
  cases h1:zu l with
  | none=>left;rw [←hok,h1];rfl
  | some t'=>right;rw [←ht,h1];exact hb t' h1
 have HN:=zh hn
 clear h ht hok hb hn
 go_enter Tryz.func115,Tryz.ntmps115
 go_wp2_with fail
 refine HO.out.mono ?_
 rintro e w1 ⟨rfl,hb1⟩
 have HB1:=zh hb1
 clear hb1
 go_wp2_with fail
 refine (HR.out _).mono ?_
 rintro e w2 ⟨mm,fine,rfl,hrd,hb2⟩
 have HB2:=zh (HB1.out.trans (hb2.mono HB1.out.size))
 have HF2:Hid (ok=false∨fine=false):=HF.out.imp id (fun h=>by
  rw [h] at hrd
  cases fine
  ·rfl
  ·simp at hrd)
 have HS:=zh (fun (w3:World) (hb3:Below w.heap.size w w3)=>(zDe (HH.out.grow hb3) c wBad (by decide) HN.out).mono (fun _ _ ⟨e,ρ',v,p1,p2⟩=>(⟨e,ρ',_,p1,p2⟩:_∧MSt w3 ρ G M (mSay m c wBad) _)))
 rw [zSl] at HS
 clear hrd hb2
 obtain ⟨k1,k2,k3,k4,k5⟩:=mm
 simp only [zE]
 have hq:ok=false∨(ok=true∧fine=false):=by
  have:=HF2.out
  cases ok
  ·exact .inl rfl
  ·exact .inr ⟨rfl,by simpa using this⟩
 rcases hq with rfl | ⟨rfl,rfl⟩
 all_goals
  go_wp2_with fail
  refine (HS.out _ (Below.alloc HB2.out HB2.out.size _)).mono ?_
  rintro e w3 ⟨rfl,hst⟩
  have HST:=zh (MSt.of_grow hst (Below.alloc HB2.out HB2.out.size _))
  clear hst
  go_wp2_with fail
  refine bodyPost_ret (results_none rfl _ _ _) rfl ?_
  exact ⟨rfl,HST.out⟩
end
def zAo (c:Int) (b:zA):List MCn→List MCn
 | []=>[]
 | x::l=>if x.n=c then {x with rest:=b}::l else x::zAo c b l
def zBh (m:RefM) (c:Int) (b:zA):RefM:={m with conns:=zAo c b m.conns}
def zBi (m:RefM) (c:Int):zA:=match m.conns.find? fun x=>decide (x.n=c) with | none=>[] | some x=>x.rest
def zg (rest b:zA):List zA:=match cut 10 b with | []=>[rest] | a::l=>(rest++a)::l
theorem zLr {c:Int} {b:zA}:∀{l:List MCn} {k:Nat} {x:MCn},l[k]?=some x→x.n=c→(∀(j:Nat) y,j < k→l[j]?=some y→y.n≠c)→zAo c b l=l.set k {x with rest:=b}
 | [],_,_,h,_,_=>by simp at h
 | y::l,0,x,h,hx,_=>by
   simp at h;subst h
   simp [zAo,hx]
 | y::l,k+1,x,h,hx,hn=>by
   have h0:=hn 0 y (by omega) rfl
   have ih:=zLr (b:=b) (l:=l) (k:=k) (x:=x) (by simpa using h) hx (fun j z hj hz=>hn (j+1) z (by omega) (by simpa using hz))
   simp [zAo,h0,ih]
theorem zLs {m:RefM} {c:Int}:∀{l:List MCn} {k:Nat} {x:MCn},l[k]?=some x→x.n=c→(∀(j:Nat) y,j < k→l[j]?=some y→y.n≠c)→(match l.find? fun x=>decide (x.n=c) with | none=>[] | some x=>x.rest)=x.rest
 | [],_,_,h,_,_=>by simp at h
 | y::l,0,x,h,hx,_=>by
   simp at h;subst h
   simp [List.find?_cons,hx]
 | y::l,k+1,x,h,hx,hn=>by
   have h0:=hn 0 y (by omega) rfl
   have ih:=zLs (m:=m) (l:=l) (k:=k) (x:=x) (by simpa using h) hx (fun j z hj hz=>hn (j+1) z (by omega) (by simpa using hz))
   simp only [List.find?_cons,decide_eq_false h0]
   exact ih
theorem zSm {rest b a:zA} {l:List zA} (h:cut 10 b=a::l):zg rest b=(rest++a)::l:=by unfold zg;rw [h]
def zBW (w:World) (ρ:Nat→Role) (G M:Nat) (m:RefM) (e:Ending) (w':World):Prop:=
 ∃v ρ' L',e=.returned v∧MRep w' ρ' G M L' {m with out:=[]}∧Step ρ ρ' w w'∧SlAt w' 59 2 (fun b=>(Of ρ b∨w.heap.size≤b)∧¬Of ρ' b) v m.out.length (yG m.out)
section
variable {w w' w1 w2 w3:World} {ρ ρ':Nat→Role} {G M:Nat} {L:MLay} {m:RefM}
theorem MSt.after {ρ1:Nat→Role} {m':RefM} (h:Step ρ ρ1 w w1) (k:MSt w1 ρ1 G M m' w'):MSt w ρ G M m' w':=by
 obtain ⟨ρ2,L2,k1,k2⟩:=k
 exact ⟨ρ2,L2,k1,h.trans k2⟩
theorem MSt.told (h:MSt w ρ G M m w'):Calls Tryz.prog 116 #[vp M] w' (zBW w ρ G M m):=by
 obtain ⟨ρk,Lk,h1,h2⟩:=h
 refine (zRw h1).mono ?_
 rintro e w'' ⟨rfl,k1,k2,k3⟩
 exact ⟨_,_,_,rfl,k1,h2.trans k2,k3.of_blk (fun _ _ _=>rfl) (fun b hb _=>⟨h2.own b hb.1,hb.2⟩)⟩
theorem MRep.put_rest (h:MRep w ρ G M L m) {b off cap k:Nat} {c:Int} {x:MCn} (hL:L.conns=.slice (some ⟨b,off,none⟩) m.conns.length cap) (hk:m.conns[k]?=some x) (hx:x.n=c) (hn:∀(j:Nat) y,j < k→m.conns[j]?=some y→y.n≠c) (t:zA) :
 MSt w ρ G M (zBh m c t) (w.setCell ⟨b,off+k*4+1,none⟩ (vs (bs t))):=by
 have hc:=h.conns
 rw [hL] at hc
 obtain ⟨q1,q2,q3⟩:=zBf hc
 have hkl:=(List.getElem?_eq_some_iff.1 hk).1
 have hs:=zCK q3 (i:=k*4+1) (by omega) (vs (bs t))
 have hfl:=zBg zDZ m.conns k 1 x {x with rest:=t} (vs (bs t)) hk (by decide) rfl
 rw [zCf,hfl] at hs
 have hsr:=zLr (b:=t) hk hx hn
 rw [←hsr] at hs
 rw [←Nat.add_assoc] at hs
 have hMb:M≠b:=by
  rintro rfl
  have h1:=h.mod.1
  rw [show ρ M=zn from q1] at h1
  simp [rMod,zn] at h1
 have hlen:(zAo c t m.conns).length=m.conns.length:=by rw [hsr];simp
 have key:=h.put_conns (w':=w.setCell ⟨b,off+k*4+1,none⟩ (vs (bs t))) (g:=b) (v:=L.conns) (l:=zAo c t m.conns) (.inl q1) (by simpa using q2) ((zJ w (a:=⟨b,off+k*4+1,none⟩) hMb).trans h.mod.2) (by rw [hlen,hL,zCf];exact hs) ((Fr.refl _ w).setCell _ _ (.inl (.inr rfl)))
 exact key
def zBj (w:World) (ρ:Nat→Role) (G M:Nat) (m:RefM) (lb:Nat) (v:Value) (ls:List zA) (W:World):Prop:=
 ∃ρ' L',MRep W ρ' G M L' m∧Step ρ ρ' w W∧SlAt W 9 1 (fun b=>b=lb) v ls.length (ls.map encB)∧¬Of ρ' lb∧lb < W.heap.size
theorem zBj.step {m':RefM} {lb:Nat} {v:Value} {ls:List zA} {ρ1:Nat→Role} {L1:MLay} {W W':World} (h1:MRep W ρ1 G M L1 m) (h2:Step ρ ρ1 w W) (h3:SlAt W 9 1 (fun b=>b=lb) v ls.length (ls.map encB)) (h4:¬Of ρ1 lb) (h5:lb < W.heap.size) (hk:MSt W ρ1 G M m' W') :
 zBj w ρ G M m' lb v ls W':=by
 obtain ⟨ρ2,L2,k1,k2⟩:=hk
 refine ⟨ρ2,L2,k1,h2.trans k2,h3.of_blk (fun b hb _=>?_) (fun b hb _=>hb),fun ho=>?_,Nat.lt_of_lt_of_le h5 k2.fr.size⟩
 ·have hb:b=lb:=hb
  subst hb
  exact k2.fr.block b h5 h4
 ·rcases k2.own lb ho with h | h
  ·exact h4 h
  ·omega
theorem zBj.first {a:zA} {ls:List zA} {lb loff lcap:Nat} {r:zA} {W:World} (h1:MRep W ρ' G M L m) (h2:Step ρ ρ' w W) (h3:SlAt W 9 1 (fun b=>b=lb) (.slice (some ⟨lb,loff,none⟩) (ls.length+1) lcap) (ls.length+1) ((a::ls).map encB)) (h4:¬Of ρ' lb) (h5:lb < W.heap.size) (h6:w.heap.size≤lb) :
 zBj w ρ G M m lb (.slice (some ⟨lb,loff,none⟩) (ls.length+1) lcap) ((r++a)::ls) (W.setCell ⟨lb,loff,none⟩ (vs (bs (r++a)))):=by
 have hf:Fr (fun b=>b=lb) W (W.setCell ⟨lb,loff,none⟩ (vs (bs (r++a)))):=(Fr.refl _ W).setCell _ _ (.inl rfl)
 refine ⟨ρ',L,h1.of_fr hf (fun b hb=>by rw [show b=lb from hb];exact h4),⟨?_,h2.own⟩,?_,h4,by simpa using h5⟩
 ·exact h2.fr.trans hf (fun x hx=>.inr (by rw [show x=lb from hx];exact h6))
 ·have:=h3.set (i:=0) (by omega) (vs (bs (r++a)))
  exact this
theorem zGL (c:UInt8):∀l:zA,(cut c l).length≤l.length+1
 | []=>Nat.le_refl _
 | x::l=>by
   have ih:=zGL c l
   obtain ⟨a,r,h1,h2⟩:=zDC c x l
   rw [h2]
   rw [h1] at ih
   split
   ·rw [h1];simp at ih ⊢;omega
   ·simp at ih ⊢;omega
theorem zLt (h:MRep w ρ G M L m) (c:Int) (b:zA) (hb:b.length≤1000000000) (hr:(zBi (zp m c) c).length≤1000000000) (hcn:m.conns.length≤100000000000) (st:Nat→RefM) (h0:st 0=zp m c)
 (hcl:(st (zg (zBi (zp m c) c) b).dropLast.length).conns.length≤100000000000)
 (hf:∀(j:Nat) (l:zA),(zg (zBi (zp m c) c) b).dropLast[j]?=some l→l.length≤2000000000→∀(ρ1:Nat→Role) (L1:MLay) (W:World),MRep W ρ1 G M L1 (st j)→Calls Tryz.prog 115 #[vp M,vi c,vs (bs l)] W fun e w'=>e=.returned (.tuple #[])∧MSt W ρ1 G M (st (j+1)) w') :
 Calls Tryz.prog 85 #[vp M,vi c,vs (bs b)] w (zBW w ρ G M (zBh (zp (st (zg (zBi (zp m c) c) b).dropLast.length) c) c (((zg (zBi (zp m c) c) b).getLastD []).take 81))):=by
 have HC:=zh (zLi 10 b (by omega) w)
 have HH:=zh h
 have HLE:=zh (fun t ht=>zDW (c:=10) b t ht)
 obtain ⟨a,ls,hcut⟩:∃a ls,cut 10 b=a::ls:=by
  cases h:cut 10 b with
  | nil=>exact absurd h (zHo b)
  | cons k ws=>exact ⟨k,ws,rfl⟩
 obtain ⟨r,hrr⟩:∃r,zBi (zp m c) c=r:=⟨_,rfl⟩
 rw [hrr] at hr hf hcl ⊢
 rw [zSm hcut] at hf hcl ⊢
 rw [hcut] at HC HLE
 have HRR:=zh hrr
 have HF:=zh hf
 have HCL:=zh hcl
 have H0:=zh h0
 have hal:a.length≤1000000000:=by have:=HLE.out a List.mem_cons_self;omega
 have HLL:Hid (∀t∈ls,t.length≤1000000000):=fun t ht=>by have:=HLE.out t (List.mem_cons_of_mem _ ht);omega
 have HCN1:=zh hcn
 have hln:ls.length≤1000000000:=by have:=zGL 10 b;rw [hcut] at this;simp at this;omega
 obtain ⟨LS,hLS⟩:∃LS,(r++a)::ls=LS:=⟨_,rfl⟩
 obtain ⟨q,hq⟩:∃q,ls.length=q:=⟨_,rfl⟩
 have hdl:LS.dropLast.length=q:=by rw [←hLS,←hq];simp
 have hLL:LS.length=q+1:=by rw [←hLS,←hq];simp
 rw [hLS] at HF HCL ⊢
 rw [hdl] at HCL ⊢
 obtain ⟨F,hFF⟩:∃F,zBW w ρ G M (zBh (zp (st q) c) c ((LS.getLastD []).take 81))=F:=⟨_,rfl⟩
 rw [hFF]
 have HFF:=zh hFF
 have HLS:=zh hLS
 have HLN:=zh hLL
 have HDL:=zh hdl
 have hq1:(a::ls).length=q+1:=by rw [←hq];rfl
 have HQ:=zh hq1
 rw [hq] at hln
 clear hcut hrr hf h h0 hcl HLE hcn hLS hdl hLL hFF hq
 go_enter Tryz.func85,Tryz.ntmps85
 go_wp2_with fail
 refine HC.out.mono ?_
 rintro e w1 ⟨v,rfl,hs,hb1⟩
 obtain ⟨lb,loff,lcap,rfl,hlo,hlb,hlc,hlm,hlcc,hlf⟩:=hs.form (by simp)
 rw [HQ.out] at hs hlc
 rw [HQ.out]
 have HS1:=zh (zBf hs).2.2
 have HM1:=zh (HH.out.grow hb1)
 have HB1:=zh hb1
 have HLB:=zh (And.intro hlo hlb)
 have HCN:=zh (zFz HM1.out c (by have:=HCN1.out;omega))
 unfold maxLen at hlm
 clear hs hb1 hlo hlb hlcc hlf HC
 go_wp2_with fail
 refine HCN.out.mono ?_
 rintro e w2 ⟨ρ2,L2,cb,coff,ccap,k,rfl,k1,k2,k3,k4,⟨x,k5,k6⟩,k7⟩
 have hrest:x.rest=r:=by rw [←HRR.out];exact (zLs (m:=m) k5 k6 k7).symm
 have hnof:¬Of ρ lb:=fun ho=>by have:=HH.out.dom lb ho;have:=HLB.out.1;omega
 have hnof2:¬Of ρ2 lb:=fun ho=>(k2.own lb ho).elim hnof (fun h=>by have:=HLB.out.2;omega)
 have hblk:w2.heap[lb]?=w1.heap[lb]?:=k2.fr.block lb HLB.out.2 hnof
 have HS2:=zh (HS1.out.of_blk (w':=w2) (fun b hb _=>by rw [show b=lb from hb];exact hblk) (fun b hb _=>hb))
 have hlb2:lb < w2.heap.size:=Nat.lt_of_lt_of_le HLB.out.2 k2.fr.size
 have HST2:Hid (Step ρ ρ2 w w2):=⟨Fr.trans (Fr.of_below HB1.out) k2.fr (fun x hx=>.inl hx),fun b hb=>(k2.own b hb).imp id (fun h=>Nat.le_trans HB1.out.size h)⟩
 have cR:w2.cell? ⟨cb,coff+k*4+1,none⟩=some (vs (bs r)):=by
  have h1:=k1.conns
  rw [k3] at h1
  obtain ⟨b',off',cap',hv,_,_,_,_,hcc,_⟩:=h1.form (by omega)
  injection hv with e1 e2 e3
  injection e1 with e1
  injection e1 with e4 e5
  subst e4;subst e5
  have:=hcc (k*4+1) _ (by rw [zCf,zBU zDZ _ k 1 x k5 (by decide)];rfl)
  rw [Nat.add_assoc,←hrest]
  exact this
 obtain ⟨b',off',cap',hv,_,_,_,_,hcc,hff⟩:=HS2.out.form (by simp)
 injection hv with e1 e2 e3
 injection e1 with e1
 injection e1 with e4 e5
 subst e4;subst e5;subst e3
 have c0:w2.cell? ⟨lb,loff,none⟩=some (vs (bs a)):=hcc 0 _ rfl
 have f0:=hff loff
 have HFA:Hid (zBj w ρ G M (st 0) lb (.slice (some ⟨lb,loff,none⟩) (q+1) lcap) LS ((w2.setCell ⟨lb,loff,none⟩ (vs (bs (r++a)))).drew)):=show zBj _ _ _ _ _ _ _ _ _ by
  have hqq:ls.length+1=q+1:=HQ.out
  have hs2:=HS2.out
  rw [H0.out,←HLS.out]
  rw [←hqq] at hs2 ⊢
  exact zBj.first (r:=r) k1.drew HST2.out.drew (hs2.of_blk (w':=w2.drew) (fun _ _ _=>rfl) (fun b hb _=>hb)) hnof2 (by exact hlb2) (by have:=HLB.out.1;exact this)
 have hzr:(bs r).size=r.length:=yP r
 have hza:(bs a).size=a.length:=yP a
 have hadd:bs r++bs a=bs (r++a):=zEY r a
 have n1:¬9223372036854775807 < r.length+a.length:=by omega
 have hl0:(0:Int) < (q:Int)+1:=by omega
 have hwq:IntKind.i64.wrap (q:Int)=(q:Int):=by rw [IntKind.wrap_i64];omega
 have hq0:(0:Int)≤(q:Int):=by omega
 have hqc:(q:Int)≤(lcap:Int):=by omega
 have hqc2:q≤lcap:=by omega
 have hqq:(q:Int) < (q:Int)+1:=by omega
 clear k1 k2 k3 k4 k5 k6 k7 hrest hnof hnof2 hblk hlb2 hcc hff
 go_wp2_with fail
 refine xz 10 zAA (by kernel_rfl) ?_
 simp only [List.take_succ_cons,List.take_zero,List.drop_succ_cons,List.drop_zero]
 repeat still_step
 refine wpStill_nil ?_
 go_wp2_with fail
 go_loopw [33] (fun s33 wr=>∃j:Nat,s33=.int .i64 j∧j≤q∧Hid (zBj w ρ G M (st j) lb (.slice (some ⟨lb,loff,none⟩) (q+1) lcap) LS wr)) (fun s33 _=>q - (intOf s33).toNat)
 case atStart=>exact ⟨0,by go_num,Nat.zero_le _,HFA.out⟩
 case round =>
  obtain ⟨j,rfl,hj,HI⟩:=hrel
  obtain ⟨ρ1,L1,g1,g2,g3,g4,g5⟩:=HI.out
  rw [HLN.out] at g3
  obtain ⟨b',off',cap',hv,_,_,_,_,hcc,hff⟩:=g3.form (by omega)
  injection hv with e1 e2 e3
  injection e1 with e1
  injection e1 with e4 e5
  subst e4;subst e5;subst e3
  clear c0 f0 cR
  by_cases hjq:j < q
  ·have hlt:decide ((j:Int) < (q:Int))=true:=decide_eq_true (by omega)
   obtain ⟨l,hl⟩:∃l,LS[j]?=some l:=⟨_,List.getElem?_eq_getElem (by rw [HLN.out];omega)⟩
   have cj:wr.cell? ⟨lb,loff+j,none⟩=some (vs (bs l)):=hcc j _ (by rw [List.getElem?_map,hl];rfl)
   have hll:l.length≤2000000000:=by
    have h1:=List.mem_of_getElem? hl
    rw [←HLS.out] at h1
    rcases List.mem_cons.1 h1 with h1 | h1
    ·rw [h1,List.length_append];omega
    ·have:=HLL.out l h1;omega
   have hdj:LS.dropLast[j]?=some l:=by rw [List.getElem?_dropLast,if_pos (by rw [HLN.out];omega)];exact hl
   have HCJ:=zh (HF.out j l hdj hll ρ1 L1 wr g1)
   have HST:Hid (∀W',MSt wr ρ1 G M (st (j+1)) W'→zBj w ρ G M (st (j+1)) lb (.slice (some ⟨lb,loff,none⟩) (q+1) lcap) LS W'):=fun W' hk=>zBj.step g1 g2 (by rw [HLN.out];exact g3) g4 g5 hk
   have hj0:(0:Int)≤(j:Int):=by omega
   have hj1:(j:Int) < (q:Int):=by omega
   clear g1 g2 g3 g4 g5 hcc hff hl hdj hll HI HFA
   go_wp2_with fail
   refine HCJ.out.mono ?_
   rintro e w3 ⟨rfl,hk3⟩
   have HFN:=zh (HST.out _ hk3)
   clear hk3
   go_wp2_with fail
   go_roundw
   case rel=>exact ⟨j+1,by go_num,by omega,HFN.out⟩
   case measure=>simp [intOf];omega
  ·obtain rfl:j=q:=by omega
   have hlt:decide ((j:Int) < (j:Int))=false:=by simp
   obtain ⟨t,ht⟩:∃t,LS[j]?=some t:=⟨_,List.getElem?_eq_getElem (by rw [HLN.out];omega)⟩
   have cj:wr.cell? ⟨lb,loff+j,none⟩=some (vs (bs t)):=hcc j _ (by rw [List.getElem?_map,ht];rfl)
   have hlast:LS.getLastD []=t:=by rw [List.getLastD_eq_getLast?,List.getLast?_eq_getElem?,HLN.out,Nat.add_sub_cancel,ht];rfl
   have HLT:=zh hlast
   have HCN2:=zh (zFz g1 c (by have:=HCL.out;omega))
   have htz:(bs t).size=t.length:=yP t
   have hex:(bs t).extract 0 81=bs (t.take 81):=ByteArray.ext (by simp [bs])
   have HG2:=zh g2
   have htl:t.length≤2000000000:=by
    have h1:=List.mem_of_getElem? ht
    rw [←HLS.out] at h1
    rcases List.mem_cons.1 h1 with h1 | h1
    ·rw [h1,List.length_append];omega
    ·have:=HLL.out t h1;omega
   clear g1 g2 g3 g4 g5 hcc hff ht hlast HI HFA
   have hcase:(decide ((t.length:Int) > 81)=true∧(81:Int)≤(t.length:Int)∧True)∨(decide ((t.length:Int) > 81)=false∧t.take 81=t):=by
    rcases Nat.lt_or_ge 81 t.length with h | h
    ·exact .inl ⟨decide_eq_true (by omega),by omega,trivial⟩
    ·exact .inr ⟨decide_eq_false (by omega),List.take_of_length_le h⟩
   obtain ⟨T,hT⟩:∃T,t.take 81=T:=⟨_,rfl⟩
   rw [hT] at hex hcase
   have HT:=zh hT
   clear hT
   rcases hcase with ⟨hgt,hge,_⟩ | ⟨hgt,rfl⟩
   all_goals
    go_wp2_with fail
    refine HCN2.out.mono ?_
    rintro e w3 ⟨ρ3,L3,cb3,coff3,ccap3,k3,rfl,p1,p2,p3,p4,⟨y,p5,p6⟩,p7⟩
    have hpc:=p1.conns
    rw [p3] at hpc
    obtain ⟨b',off',cap',hv,_,_,_,_,hcc3,hff3⟩:=hpc.form (by omega)
    injection hv with e1 e2 e3
    injection e1 with e1
    injection e1 with e4 e5
    subst e4;subst e5;subst e3
    have cS:w3.cell? ⟨cb3,coff3+k3*4+1,none⟩=some (vs (bs y.rest)):=by
     have:=hcc3 (k3*4+1) _ (by rw [zCf,zBU zDZ _ k3 1 y p5 (by decide)];rfl)
     rw [Nat.add_assoc]
     exact this
    have fS:=hff3 (coff3+k3*4+1)
    have HPR:=zh (MSt.after (HG2.out.trans p2) (p1.put_rest p3 p5 p6 p7 T))
    have HTD:=zh (MSt.told HPR.out)
    clear p1 p2 p3 p4 p5 p6 p7 hpc hcc3 hff3
    go_wp2_with fail
    refine HTD.out.mono ?_
    rintro e w4 ⟨v4,ρ4,L4,rfl,hp⟩
    have HP:=zh hp
    clear hp
    go_wp2_with fail
    show F (.returned v4) w4
    rw [←HFF.out,HLT.out,HT.out]
    exact ⟨v4,ρ4,L4,rfl,HP.out⟩
end
end Go.Proofs.YtaejfobbogahmaaGreatDoor
