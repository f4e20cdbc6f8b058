/-
  MSayA MBye MEnd MSayO: texts of their own, joined.
-/
import Derived.Test.YtaejfobbogahmaaGreatDoorMkMIn
set_option maxRecDepth 100000
set_option maxHeartbeats 16000000
set_option linter.all false
namespace Go.Proofs.YtaejfobbogahmaaGreatDoor
open Go Go.RowKit
section
variable {w w' w1 w2 w3:World} {ρ:Nat→Role} {G M:Nat} {L:MLay} {m:RefM}
def MStO (w:World) (ρ:Nat→Role) (G M:Nat) (L:MLay) (m':RefM) (w':World):Prop:=∃ρ' v,MRep w' ρ' G M {L with out:=v} m'∧Step ρ ρ' w w'
theorem zSP (h:MRep w ρ G M L m) (hb:Fr (fun _=>False) w w1) {g off cap:Nat} {c:Int} {s:zA} (hg:ρ g=yL∨g=w1.heap.size)
 (hs:SlAt w3 59 2 (fun b=>b=g) (.slice (some ⟨g,off,none⟩) (m.out.length+1) cap) (m.out.length+1) (yG m.out++[vi c,vs (bs s)])) (hf:Fr (fun b=>b=g) w1 w3) (hlt:g < w3.heap.size) :
 w3.heap[M]?=some (.cells (yS L m.cfg m.now) 179 (0,0)) ∧
 MStO w ρ G M L {m with out:=m.out++[(c,s)]} (w3.setCell ⟨M,11,none⟩ (.slice (some ⟨g,off,none⟩) (m.out.length+1) cap)):=by
 have h1:=h.of_fr hb (fun b f=>f.elim)
 have hgM:M≠g:=by
  rintro rfl
  rcases hg with h2 | h2
  ·rw [h1.mod.1] at h2;simp [rMod,yL] at h2
  ·have:=h1.size;omega
 have hM:w3.heap[M]?=some (.cells (yS L m.cfg m.now) 179 (0,0)):=(hf.block M h1.size.2 hgM).trans h1.mod.2
 refine ⟨hM,?_⟩
 have key:=h.put_outE (w':=w3.setCell ⟨M,11,none⟩ (.slice (some ⟨g,off,none⟩) (m.out.length+1) cap)) (own:=fun b=>b=g) (S:=fun b=>b=M∨b=g) (v:=.slice (some ⟨g,off,none⟩) (m.out.length+1) cap) (l:=m.out++[(c,s)]) (fun b e=>by rw [show b=g from e];exact hg.imp id (fun e=>by rw [e];exact hb.size)) (zM w3 hM) ?_ ?_ (fun b e=>e.elim .inl (fun e=>by rw [e];exact .inr (hg.imp id (fun e=>by rw [e];exact hb.size))))
 ·obtain ⟨ρ',k1,k2⟩:=key
  exact ⟨ρ',_,k1,k2⟩
 ·rw [List.length_append,List.length_singleton,zLI]
  exact hs.of_blk (fun b hb _=>zJ w3 (by have hb:b=g:=hb;rw [hb];exact Ne.symm hgM)) (fun b hb _=>hb)
 ·exact Fr.trans (Fr.mono hb (fun x f=>f.elim)) ((hf.mono (fun x hx=>.inl (.inr hx))).setCell _ _ (.inl (.inl rfl))) (fun x hx=>.inl hx)
theorem zDe (h:MRep w ρ G M L m) (c:Int) (s:zA) (hs:s.length≤1000000000) (hn:m.out.length≤1000000000000) :
 Calls Tryz.prog 118 #[vp M,vi c,vs (bs s)] w fun e w'=>e=.returned (.tuple #[])∧MStO w ρ G M L (mSay m c s) w':=by
 have c11:=h.cell (k:=11) rfl
 have f11:=h.frozen 11
 have HH:=zh h
 have HSW:=zh (fun w=>zGA s (by omega) w)
 have HB:=zh (show m.out.length+1≤maxLen∧(m.out.length+1)*24≤140737488355328 by unfold maxLen;omega)
 have HSY:Hid (mSay m c s={m with out:=m.out++[(c,zi s)]}):=rfl
 clear h
 go_enter Tryz.func118,Tryz.ntmps118
 go_wp2_with fail
 go_region_law (first
  | (go_simp;go_at_call 83;refine (HSW.out _).mono ?_;rintro e w2 ⟨rfl,hb2⟩;
     obtain ⟨q1,q2,c11b,f11b,f11c,c11c⟩:=zRx HH.out.drew hb2 (.cells #[vi c,vs (bs (zi s))] 59);
     have HF2:=zh q1;
     have HSA:=zh q2;
     clear q1 q2;
     clear hb2)
  | ((refine zDS _ (by rfl) _ _ _ _ (by rfl) zHR (by rfl) HSA.out (by rfl) (xV w2 Tryz.underlying41 [vi c,vs (bs (zi s))] (by rfl) (by simp [Value.oneCell']) w2.heap.size (by simp)) (by omega) HB.out.1 HB.out.2 ?_;intro g goff gcap w3 hg3 hs3 hf3 hlt3 _ _;obtain ⟨k1,k2⟩:=zSP HH.out.drew HF2.out hg3 hs3 hf3 hlt3;have HP:=zh k2;have c3:w3.cell? ⟨M,11,none⟩=some L.out:=zB k1 rfl;have f3:w3.frozen? ⟨M,11,none⟩=false:=zI k1;clear hs3 hf3 hg3 hlt3 k1 k2)))
 all_goals
  go_wp2_with fail
  go_end0
  refine ⟨rfl,?_⟩
  rw [HSY.out]
  obtain ⟨ρ',v,p1,p2⟩:=HP.out
  exact ⟨ρ',v,p1,p2.ofDrew⟩
theorem zCg (h:MRep w ρ G M L m) (c:Int) (s:zA) (hs:s.length≤1000000000) (hn:m.out.length≤1000000000000) :
 Calls Tryz.prog 118 #[vp M,vi c,vs (bs s)] w fun e w'=>e=.returned (.tuple #[])∧MStA w ρ G M L (mSay m c s) w':=
 (zDe h c s hs hn).mono (fun _ _ ⟨e,ρ',v,p1,p2⟩=>⟨e,ρ',{L with out:=v},p1,p2,rfl,rfl⟩)
end
def zCh:zA:=[98,121,101]
def zIA (m:RefM) (c:Int):Bool:=m.conns.any (fun x=>decide (x.n=c)&&x.drains&&!x.gone)&&decide (m.atts.countP (fun q=>decide (q.conn=c))=0)
def zLa (m:RefM) (c:Int):RefM:={m with conns:=m.conns.map fun x=>if x.n=c then {x with gone:=true} else x}
def mBye (m:RefM) (c:Int):RefM:=if zIA m c then mSay (zLa m c) c zCh else m
theorem zLb {m:RefM} {c:Int} (h:∀x∈m.conns,x.n≠c):mBye m c=m:=by
 unfold mBye zIA
 rw [if_neg]
 rw [Bool.and_eq_true,List.any_eq_true]
 rintro ⟨⟨x,hx,hc⟩,_⟩
 simp at hc
 exact h x hx hc.1.1
theorem zIB {m:RefM} {c:Int} {k:Nat} {x:MCn} (hn:(m.conns.map MCn.n).Nodup) (hk:m.conns[k]?=some x) (hx:x.n=c):∀(j:Nat) (y:MCn),m.conns[j]?=some y→y.n=c→j=k:=fun j y hj hy=>by
 have h1:(m.conns.map MCn.n)[k]?=some c:=by rw [List.getElem?_map,hk];exact congrArg some hx
 have h2:(m.conns.map MCn.n)[j]?=some c:=by rw [List.getElem?_map,hj];exact congrArg some hy
 exact (List.getElem?_inj (List.getElem?_eq_some_iff.1 h2).1 hn).1 (h2.trans h1.symm)
theorem zLc {m:RefM} {c:Int} {k:Nat} {x:MCn} (hn:(m.conns.map MCn.n).Nodup) (hk:m.conns[k]?=some x) (hx:x.n=c) :
 mBye m c=if x.drains&&!x.gone&&decide (m.atts.countP (fun q=>decide (q.conn=c))=0) then mSay {m with conns:=m.conns.set k {x with gone:=true}} c zCh else m:=by
 subst hx
 have e1:m.conns.any (fun y=>decide (y.n=x.n)&&y.drains&&!y.gone)=(x.drains&&!x.gone):=by
  rw [Bool.eq_iff_iff,List.any_eq_true]
  constructor
  ·rintro ⟨y,hy,hc⟩
   obtain ⟨j,hj,rfl⟩:=List.getElem_of_mem hy
   simp only [Bool.and_eq_true,decide_eq_true_eq] at hc
   have:=zIB hn hk rfl j _ (List.getElem?_eq_getElem hj) hc.1.1
   subst this
   rw [List.getElem?_eq_getElem hj] at hk
   cases hk
   rw [Bool.and_eq_true];exact ⟨hc.1.2,hc.2⟩
  ·intro h
   exact ⟨x,List.mem_of_getElem? hk,by rw [Bool.and_assoc,h];simp⟩
 have e2:m.conns.map (fun y=>if y.n=x.n then {y with gone:=true} else y)=m.conns.set k {x with gone:=true}:=by
  have:=zDX (key:=MCn.n) (fun y=>{y with gone:=true}) m.conns k x hn hk
  exact this
 unfold mBye zIA zLa
 rw [e1,e2]
section
variable {w w' w1 w2 w3:World} {ρ:Nat→Role} {G M:Nat} {L:MLay} {m:RefM}
theorem zLd (h:MRep w ρ G M L m) {a:Option Addr} {n cap:Nat} (e:L.conns=.slice a n cap):zAW w a 4 (m.conns.map mcnC):=by
 obtain ⟨a',cap',h1,h2⟩:=h.connsIn
 rw [e] at h1
 injection h1 with e1 e2 e3
 rw [e1];exact h2
theorem zSQ (h:MRep w ρ G M L m) {b off n cap k:Nat} {x:MCn} (hv:L.conns=.slice (some ⟨b,off,none⟩) n cap) (hk:m.conns[k]?=some x) :
 ∃ρ',MRep (w.setCell ⟨b,off+k*4+3,none⟩ (.bool true)) ρ' G M L {m with conns:=m.conns.set k {x with gone:=true}}∧Step ρ ρ' w (w.setCell ⟨b,off+k*4+3,none⟩ (.bool true)):=by
 have hs:=h.conns
 have hkl:=(List.getElem?_eq_some_iff.1 hk).1
 obtain ⟨a',cap',h1,_⟩:=h.connsIn
 have hn:n=m.conns.length:=by rw [hv] at h1;injection h1
 subst hn
 rw [hv] at hs
 obtain ⟨ho,hlt,hs1⟩:=zBf hs
 have hb:ρ b=zn:=ho
 have hbM:M≠b:=by rintro rfl;rw [h.mod.1] at hb;simp [rMod,zn] at hb
 have hs2:=zCK hs1 (i:=k*4+3) (by omega) (.bool true)
 have hfs:=zBg zDZ m.conns k 3 x {x with gone:=true} (.bool true) hk (by decide) rfl
 rw [zCf,hfs,←Nat.add_assoc] at hs2
 have key:=h.put_connsE (w':=w.setCell ⟨b,off+k*4+3,none⟩ (.bool true)) (own:=fun x=>x=b) (S:=fun x=>x=b) (v:=L.conns) (l:=m.conns.set k {x with gone:=true}) (fun x e=>.inl (by rw [show x=b from e];exact hb)) ((zJ w hbM).trans h.mod.2)
  (by rw [hv,List.length_set];exact hs2) ((Fr.refl _ w).setCell _ _ (.inl rfl)) (fun x e=>.inr (.inl (by rw [show x=b from e];exact hb)))
 exact key
def zAf (w:World) (ρ:Nat→Role) (G M:Nat) (L:MLay) (m:RefM) (c:Int) (k:Nat) (wr:World):Prop:=
 ∃mk ρk,∃Lk:MLay,MRep wr ρk G M Lk mk∧Step ρ ρk w wr∧Lk.conns=L.conns∧Lk.atts=L.atts∧mk.conns.length=m.conns.length ∧
  ((mk=m∧∀(j:Nat) x,j < k→m.conns[j]?=some x→x.n≠c)∨(mk=mBye m c∧∀(j:Nat) x,k≤j→mk.conns[j]?=some x→x.n≠c))
theorem zAf.skip {c:Int} {k:Nat} {wr:World} {mk:RefM} {ρk:Nat→Role} {Lk:MLay} {x:MCn} (h1:MRep wr ρk G M Lk mk) (h2:Step ρ ρk w wr) (h3:Lk.conns=L.conns) (h4:Lk.atts=L.atts) (h5:mk.conns.length=m.conns.length)
 (h6:(mk=m∧∀(j:Nat) x,j < k→m.conns[j]?=some x→x.n≠c)∨(mk=mBye m c∧∀(j:Nat) x,k≤j→mk.conns[j]?=some x→x.n≠c)) (hk:mk.conns[k]?=some x) (hx:x.n≠c) (hf:Fr (fun _=>False) wr w'):zAf w ρ G M L m c (k+1) w':=by
 refine ⟨mk,ρk,Lk,h1.of_fr hf (fun _ f=>f.elim),⟨h2.fr.trans hf (fun _ f=>f.elim),h2.own⟩,h3,h4,h5,?_⟩
 rcases h6 with ⟨rfl,h⟩ | ⟨rfl,h⟩
 ·exact .inl ⟨rfl,fun j y hj hy=>by
   by_cases e:j=k
   ·subst e;rw [hk] at hy;cases hy;exact hx
   ·exact h j y (by omega) hy⟩
 ·exact .inr ⟨rfl,fun j y hj hy=>h j y (by omega) hy⟩
theorem zAf.no {c:Int} {k:Nat} {wr:World} {ρk:Nat→Role} {Lk:MLay} {x:MCn} (h1:MRep wr ρk G M Lk m) (h2:Step ρ ρk w wr) (h3:Lk.conns=L.conns) (h4:Lk.atts=L.atts) (hn:(m.conns.map MCn.n).Nodup) (hk:m.conns[k]?=some x) (hx:x.n=c)
 (hno:mBye m c=m) (hf:Fr (fun _=>False) wr w'):zAf w ρ G M L m c (k+1) w':=
 ⟨m,ρk,Lk,h1.of_fr hf (fun _ f=>f.elim),⟨h2.fr.trans hf (fun _ f=>f.elim),h2.own⟩,h3,h4,rfl,.inr ⟨hno.symm,fun j y hj hy e=>by have:=zIB hn hk hx j y hy e;omega⟩⟩
theorem zAf.yes {c:Int} {k:Nat} {wr:World} {ρk:Nat→Role} {Lk:MLay} {x:MCn} (h2:Step ρ ρk w wr) (h3:Lk.conns=L.conns) (h4:Lk.atts=L.atts) (hn:(m.conns.map MCn.n).Nodup) (hk:m.conns[k]?=some x) (hx:x.n=c)
 (hy:mBye m c=mSay {m with conns:=m.conns.set k {x with gone:=true}} c zCh) {w2:World} {ρ2:Nat→Role} (hs:Step ρk ρ2 wr w2) (hst:MStA w2 ρ2 G M Lk (mSay {m with conns:=m.conns.set k {x with gone:=true}} c zCh) w'):zAf w ρ G M L m c (k+1) w':=by
 obtain ⟨ρ3,L3,p1,p2,p3,p4⟩:=hst
 refine ⟨_,ρ3,L3,p1,(h2.trans hs).trans p2,p4.trans h3,p3.trans h4,by simp [mSay],.inr ⟨hy.symm,fun j y hj hy e=>?_⟩⟩
 have hkl:=(List.getElem?_eq_some_iff.1 hk).1
 have hy:(m.conns.set k {x with gone:=true})[j]?=some y:=hy
 rw [List.getElem?_set_ne (by omega)] at hy
 have:=zIB hn hk hx j y hy e
 omega
theorem zAf.done {c:Int} {wr:World} (h:zAf w ρ G M L m c m.conns.length wr):MStA w ρ G M L (mBye m c) wr:=by
 obtain ⟨mk,ρk,Lk,h1,h2,h3,h4,h5,h6⟩:=h
 rcases h6 with ⟨rfl,h⟩ | ⟨rfl,h⟩
 ·rw [zLb (fun x hx=>by obtain ⟨j,hj,rfl⟩:=List.getElem_of_mem hx;exact h j _ hj (List.getElem?_eq_getElem hj))]
  exact ⟨ρk,Lk,h1,h2,h4,h3⟩
 ·exact ⟨ρk,Lk,h1,h2,h4,h3⟩
theorem zSR:(bs zCh)=⟨#[98,121,101]⟩:=rfl
theorem zIC (h:MRep w ρ G M L m) (c:Int) (hnd:(m.conns.map MCn.n).Nodup) (hn:m.conns.length≤1000000000000) (ha:m.atts.length≤1000000000000) (ho:m.out.length≤1000000000000) :
 Calls Tryz.prog 156 #[vp M,vi c] w fun e w'=>e=.returned (.tuple #[])∧MStA w ρ G M L (mBye m c) w':=by
 obtain ⟨a,cap,hv,hr⟩:=h.connsIn
 have cL:w.cell? ⟨M,10,none⟩=some L.conns:=h.cell (k:=10) rfl
 have HV0:=zh hv
 rw [hv] at cL
 obtain ⟨n,hnn⟩:∃n,m.conns.length=n:=⟨_,rfl⟩
 have HN:=zh hnn
 rw [hnn] at cL hn
 have HV:Hid (L.conns=.slice a n cap):=by rw [←HN.out];exact HV0.out
 have HH:=zh h
 have HND:=zh hnd
 have HA:=zh ha
 have HO:=zh ho
 clear h hv hr hnn HV0 hnd ha ho
 go_enter Tryz.func156,Tryz.ntmps156
 go_wp2_with fail
 go_loopw [11] (fun s11 wr=>∃k:Nat,s11=.int .i64 k∧k≤n∧Hid (zAf w ρ G M L m c k wr)) (fun s11 _=>n - (intOf s11).toNat)
 case atStart=>exact ⟨0,by go_num,Nat.zero_le _,⟨m,ρ,L,HH.out,Step.refl _ _,rfl,rfl,rfl,.inl ⟨rfl,fun j x hj=>by omega⟩⟩⟩
 case round =>
  obtain ⟨k,rfl,hk,HI⟩:=hrel
  by_cases hkl:k < n
  ·have hlt:decide ((k:Int) < (n:Int))=true:=decide_eq_true (by omega)
   obtain ⟨mk,ρk,Lk,h1,h2,h3,h4,h5,h6⟩:=HI.out
   obtain ⟨x,hkx⟩:∃x,mk.conns[k]?=some x:=⟨_,List.getElem?_eq_getElem (by rw [h5,HN.out];exact hkl)⟩
   have hvk:Lk.conns=.slice a n cap:=h3.trans HV.out
   obtain ⟨b,off,hae,c0,c1,c2,c3⟩:=zLV (zLd h1 hvk) hkx
   subst hae
   have hk0:(0:Int)≤(k:Int):=by omega
   have hk1:(k:Int) < (n:Int):=by omega
   have H1:=zh h1
   have H2:=zh h2
   have H3:=zh h3
   have H4:=zh h4
   have H5:=zh h5
   have H6:=zh h6
   have HQ:=zh hkx
   have HVK:=zh hvk
   clear h1 h2 h3 h4 h5 h6 HI hvk
   by_cases hyc:x.n=c
   ·have hm:mk=m:=by
     rcases H6.out with ⟨e,_⟩ | ⟨_,e⟩
     ·exact e
     ·exact absurd hyc (e k x (Nat.le_refl _) HQ.out)
    subst hm
    rw [hyc] at c0
    have hq:(c==c)=true:=by simp
    have HB:=zh (zLc HND.out HQ.out hyc)
    have HYC:=zh hyc
    have HB0:=HB
    obtain ⟨d,hd⟩:∃d,x.drains=d:=⟨_,rfl⟩
    obtain ⟨g,hg⟩:∃g,x.gone=g:=⟨_,rfl⟩
    rw [hd] at c2
    rw [hg] at c3
    have HD:=zh hd
    have HG:=zh hg
    rw [hd,hg] at HB
    clear hkx hyc hd hg
    cases d with
    | false =>
      have HNO:Hid (mBye mk c=mk):=show _=_ by simpa using HB.out
      go_wp2_with fail
      go_roundw
      case rel=>exact ⟨k+1,by go_num,by omega,zAf.no H1.out H2.out H3.out H4.out HND.out HQ.out HYC.out HNO.out ((Fr.refl _ _).alloc _)⟩
      case measure=>simp [intOf];omega
    | true =>
      cases g with
      | true =>
        have HNO:Hid (mBye mk c=mk):=show _=_ by simpa using HB.out
        go_wp2_with fail
        go_roundw
        case rel=>exact ⟨k+1,by go_num,by omega,zAf.no H1.out H2.out H3.out H4.out HND.out HQ.out HYC.out HNO.out ((Fr.refl _ _).alloc _)⟩
        case measure=>simp [intOf];omega
      | false =>
        have HC:=zh (fun W (hW:MRep W ρk G M Lk mk)=>zSG hW c HA.out)
        go_wp2_with fail
        refine (HC.out _ (H1.out.alloc _)).mono ?_
        rintro e w1 ⟨rfl,hb1⟩
        have HF1:Hid (Fr (fun _=>False) wr w1):=Fr.trans (S':=fun _=>False) ((Fr.refl _ wr).alloc _) (Fr.of_below hb1) (fun _ f=>f.elim)
        obtain ⟨j,hj⟩:∃j,mk.atts.countP (fun q=>decide (q.conn=c))=j:=⟨_,rfl⟩
        have HJ:=zh hj
        rw [hj] at HB ⊢
        have hr1:=H1.out.of_fr HF1.out (fun _ f=>f.elim)
        have HR1:=zh hr1
        clear hj hb1 HC
        by_cases hj0:j=0
        ·subst hj0
         have HYE:Hid (mBye mk c=mSay {mk with conns:=mk.conns.set k {x with gone:=true}} c zCh):=show _=_ from HB0.out.trans (if_pos (by rw [HD.out,HG.out,HJ.out];rfl))
         obtain ⟨ρ2,k1,k2⟩:=zSQ hr1 HVK.out HQ.out
         have HK1:=zh k1
         have HK2:=zh k2
         have cL1:w1.cell? ⟨M,10,none⟩=some Lk.conns:=hr1.cell (k:=10) rfl
         rw [HVK.out] at cL1
         obtain ⟨b',off',hae,d0,d1,d2,d3⟩:=zLV (zLd hr1 HVK.out) HQ.out
         injection hae with e0
         injection e0 with e1 e2
         subst e1;subst e2
         have fr3:w1.frozen? ⟨b,off+k*4+3,none⟩=false:=by
          obtain ⟨_,_,_,hv2,_,_,_,_,_,hfz⟩:=hr1.conns.form (by have:=(List.getElem?_eq_some_iff.1 HQ.out).1;omega)
          rw [HVK.out] at hv2
          injection hv2 with e1 e2 e3
          injection e1 with e1
          injection e1 with e4 e5
          subst e4
          exact hfz _
         have HSY:=zh (zCg k1 c zCh (by decide) HO.out)
         rw [zSR] at HSY
         clear k1 k2 hr1
         go_wp2_with fail
         refine HSY.out.mono ?_
         rintro e w3 ⟨rfl,hst⟩
         have HST:=zh hst
         clear hst
         go_wp2_with fail
         go_roundw
         case rel=>exact ⟨k+1,by go_num,by omega,zAf.yes ⟨H2.out.fr.trans HF1.out (fun _ f=>f.elim),H2.out.own⟩ H3.out H4.out HND.out HQ.out HYC.out HYE.out HK2.out HST.out⟩
         case measure=>simp [intOf];omega
        ·have HNO:Hid (mBye mk c=mk):=show _=_ by simpa [hj0] using HB.out
         have hj1:((j:Int)==0)=false:=beq_eq_false_iff_ne.2 (by omega)
         have hj2:decide ((j:Int)=0)=false:=decide_eq_false (by omega)
         clear hr1
         go_wp2_with fail
         go_roundw
         case rel=>exact ⟨k+1,by go_num,by omega,zAf.no H1.out H2.out H3.out H4.out HND.out HQ.out HYC.out HNO.out HF1.out⟩
         case measure=>simp [intOf];omega
   ·obtain ⟨y,hy⟩:∃y,x.n=y:=⟨_,rfl⟩
    rw [hy] at c0 hyc
    have HY:=zh hy
    have hq:(y==c)=false:=beq_eq_false_iff_ne.2 hyc
    have hq2:decide (y=c)=false:=decide_eq_false hyc
    have HNE:Hid (x.n≠c):=by rw [hy];exact hyc
    clear hy hkx hyc
    go_wp2_with fail
    go_roundw
    case rel=>exact ⟨k+1,by go_num,by omega,zAf.skip H1.out H2.out H3.out H4.out H5.out H6.out HQ.out HNE.out ((Fr.refl _ _).alloc _)⟩
    case measure=>simp [intOf];omega
  ·obtain rfl:k=n:=by omega
   have hlt:decide ((k:Int) < (k:Int))=false:=by simp
   have HF:Hid (MStA w ρ G M L (mBye m c) wr):=zAf.done (by rw [HN.out];exact HI.out)
   clear HI
   go_wp2_with fail
   go_end0
   exact ⟨rfl,HF.out⟩
end
theorem zGF {α:Type} {f:α→List Value} {sz:Nat} (hf:∀a,(f a).length=sz):∀(l:List α) (k:Nat),(l.flatMap f).take (k*sz)=(l.take k).flatMap f
 | [],k=>by simp
 | x::l,0=>by simp
 | x::l,k+1=>by
   rw [List.take_succ_cons,List.flatMap_cons,List.flatMap_cons,List.take_append,hf,List.take_of_length_le (by rw [hf,Nat.add_mul];omega),show (k+1)*sz - sz=k*sz by rw [Nat.add_mul];omega,zGF hf l k]
theorem zGG {α:Type} {f:α→List Value} {sz:Nat} (hf:∀a,(f a).length=sz):∀(l:List α) (k:Nat),(l.flatMap f).drop (k*sz)=(l.drop k).flatMap f
 | [],k=>by simp
 | x::l,0=>by simp
 | x::l,k+1=>by
   rw [List.drop_succ_cons,List.flatMap_cons,List.drop_append,hf,List.drop_of_length_le (by rw [hf,Nat.add_mul];omega),show (k+1)*sz - sz=k*sz by rw [Nat.add_mul];omega,zGG hf l k,List.nil_append]
section
variable {w w' w1 w2 w3:World} {ρ:Nat→Role} {G M:Nat} {L:MLay} {m:RefM}
theorem zID {T:TypeId} {sz:Nat} {own:Nat→Prop} {b off n cap:Nat} {xs:List Value} (h:SlAt w T sz own (.slice (some ⟨b,off,none⟩) n cap) n xs) {i:Nat} (hi:i≤n):SlAt w T sz own (.slice (some ⟨b,off,none⟩) i cap) i (xs.take (i*sz)):=by
 rcases h with ⟨h,_⟩ | ⟨b',off',cap',cs,e,hb,hblk,hc1,hc2,hsz,hlen,hcell⟩
 ·cases h
 injection e with e1 e2 e3
 injection e1 with e1
 injection e1 with e4 e5
 subst e4;subst e5;subst e3
 refine .inr ⟨b,off,cap,cs,rfl,hb,hblk,by omega,hc2,hsz,?_,?_⟩
 ·rw [List.length_take,hlen];exact Nat.min_eq_left (Nat.mul_le_mul_right _ hi)
 ·intro j u hj
  rw [List.getElem?_take] at hj
  split at hj
  ·exact hcell j u hj
  ·cases hj
theorem zGH {T:TypeId} {sz:Nat} {own:Nat→Prop} {b off n cap:Nat} {xs:List Value} (h:SlAt w T sz own (.slice (some ⟨b,off,none⟩) n cap) n xs) {i:Nat} (hi:i≤n):SlAt w T sz own (.slice (some ⟨b,off+i*sz,none⟩) (n - i) (cap - i)) (n - i) (xs.drop (i*sz)):=by
 rcases h with ⟨h,_⟩ | ⟨b',off',cap',cs,e,hb,hblk,hc1,hc2,hsz,hlen,hcell⟩
 ·cases h
 injection e with e1 e2 e3
 injection e1 with e1
 injection e1 with e4 e5
 subst e4;subst e5;subst e3
 refine .inr ⟨b,off+i*sz,cap - i,cs,rfl,hb,hblk,by omega,by omega,?_,?_,?_⟩
 ·have:i*sz+(cap - i)*sz=cap*sz:=by rw [←Nat.add_mul];congr 1;omega
  omega
 ·rw [List.length_drop,hlen,Nat.sub_mul]
 ·intro j u hj
  rw [List.getElem?_drop] at hj
  have:=hcell _ u hj
  rwa [←Nat.add_assoc] at this
theorem zGI {T:TypeId} {sz:Nat} {own:Nat→Prop} {b off n cap:Nat} {xs:List Value} (h:SlAt w T sz own (.slice (some ⟨b,off,none⟩) n cap) n xs) {i:Nat} (hi:i≤n) (hc:cap=i):SlAt w T sz own (.slice (some ⟨b,off,none⟩) (n - i) 0) (n - i) (xs.drop (i*sz)):=by
 rcases h with ⟨h,_⟩ | ⟨b',off',cap',cs,e,hb,hblk,hc1,hc2,hsz,hlen,hcell⟩
 ·cases h
 injection e with e1 e2 e3
 injection e1 with e1
 injection e1 with e4 e5
 subst e4;subst e5;subst e3
 have hin:i=n:=by omega
 subst hin
 refine .inr ⟨b,off,0,cs,rfl,hb,hblk,by omega,by omega,by omega,?_,?_⟩
 ·rw [List.length_drop,hlen,Nat.sub_mul]
 ·intro j u hj
  rw [List.getElem?_drop,List.getElem?_eq_none (by omega)] at hj
  cases hj
def mEnd (m:RefM) (i:Nat) (c:Int):RefM:=mBye {m with atts:=m.atts.take i++m.atts.drop (i+1)} c
theorem MRep.grown (h:MRep w ρ G M L m) {E:Nat→Prop} (he:∀b,E b→False∨b=w.heap.size) (hf:Fr E w w'):MRep w' ρ G M L m:=h.of_fr hf (fun b hb ho=>by
 rcases he b hb with f | e
 ·exact f.elim
 ·have:=(h.dom b ho).2;omega)
theorem zLe (h:MRep w ρ G M L m) {E1 E2:Nat→Prop} (he1:∀b,E1 b→False∨b=w.heap.size) (hf1:Fr E1 w w1) (he2:∀b,E2 b→E1 b∨b=w1.heap.size) (hf2:Fr E2 w1 w2) {v:Value} {l:List MAtt} {n:Nat}
 (hn:n=l.length) (hs:SlAt w2 186 5 E2 v n (l.flatMap zAJ)) :
 w2.heap[M]?=some (.cells (yS L m.cfg m.now) 179 (0,0))∧∃ρ',MRep (w2.setCell ⟨M,7,none⟩ v) ρ' G M {L with atts:=v} {m with atts:=l}∧Step ρ ρ' w (w2.setCell ⟨M,7,none⟩ v):=by
 have r1:=h.grown he1 hf1
 have hsz:=hf1.size
 have hE2:∀b,E2 b→w.heap.size≤b:=fun b hb=>by
  rcases he2 b hb with h1 | h1
  ·rcases he1 b h1 with f | e
   ·exact f.elim
   ·omega
  ·omega
 have hEM:¬E2 M:=fun hb=>by have:=hE2 M hb;have:=h.size;omega
 have hM:w2.heap[M]?=some (.cells (yS L m.cfg m.now) 179 (0,0)):=(hf2.block M r1.size.2 hEM).trans r1.mod.2
 refine ⟨hM,?_⟩
 have hfr:Fr (fun b=>b=M∨E2 b∨E1 b) w (w2.setCell ⟨M,7,none⟩ v):=((hf1.mono (fun x hx=>.inl (.inr (.inr hx)))).trans (hf2.mono (fun x hx=>.inl (.inr (.inl hx)))) (fun x hx=>.inl hx)).setCell _ _ (.inl (.inl rfl))
 exact h.put_attsE (own:=E2) (S:=fun b=>b=M∨E2 b∨E1 b) (fun b hb=>.inr (hE2 b hb)) (zM w2 hM) (by
  subst hn
  exact hs.of_blk (fun b hb _=>zJ w2 (fun e=>hEM (by have e:b=M:=e;rw [←e];exact hb))) (fun _ hb _=>hb)) hfr (fun b hb=>by
  rcases hb with h1 | h1 | h1
  ·exact .inl h1
  ·exact .inr (.inr (hE2 b h1))
  ·rcases he1 b h1 with f | e
   ·exact f.elim
   ·exact .inr (.inr (by omega)))
def zGJ (n cap i off o2 c2 r:Nat):Prop:=r=n - (i+1)∧((cap=i+1∧o2=off∧c2=0)∨(cap≠i+1∧o2=off+(i+1)*5∧c2=cap - (i+1)))
theorem zLf (h:MRep w ρ G M L m) {E:Nat→Prop} (he:∀b,E b→False∨b=w.heap.size) (hf:Fr E w w1) {b off n cap i o2 c2 r:Nat} (hv:L.atts=.slice (some ⟨b,off,none⟩) n cap) (hn:m.atts.length=n) (hi:i < n)
 (ho:zGJ n cap i off o2 c2 r) :
 w1.cell? ⟨M,7,none⟩=some (.slice (some ⟨b,off,none⟩) n cap)∧SlAt w1 186 5 (fun b=>ρ b=yE) (.slice (some ⟨b,o2,none⟩) r c2) r ((m.atts.drop (i+1)).flatMap zAJ)∧w1.frozen? ⟨M,7,none⟩=false:=by
 have r1:=h.grown he hf
 have c:=r1.cell (k:=7) (v:=L.atts) rfl
 rw [hv] at c
 have hat:=r1.atts
 rw [hv,hn] at hat
 refine ⟨c,?_,r1.frozen 7⟩
 rw [←zGG (sz:=5) (fun _=>rfl)]
 obtain ⟨rfl,ho⟩:=ho
 rcases ho with ⟨h1,rfl,rfl⟩ | ⟨h1,rfl,rfl⟩
 ·exact zGI hat hi h1
 ·exact zGH hat hi
theorem zGK {l:List MAtt} {n cap i off o2 c2 r:Nat} (hn:l.length=n) (hi:i < n) (ho:zGJ n cap i off o2 c2 r):i+r=(l.take i++l.drop (i+1)).length:=by
 rw [List.length_append,List.length_take,List.length_drop,hn,ho.1]
 omega
theorem MStA.ofStep {m':RefM} {ρ1:Nat→Role} {L1:MLay} (hs:Step ρ ρ1 w w1) (h:MStA w1 ρ1 G M L1 m' w'):MSt w ρ G M m' w':=by
 obtain ⟨ρ2,L2,h1,h2,_⟩:=h
 exact ⟨ρ2,L2,h1,hs.trans h2⟩
theorem zDf (h:MRep w ρ G M L m) {i:Nat} {x:MAtt} (hi:m.atts[i]?=some x) (hnd:(m.conns.map MCn.n).Nodup) (hn:m.conns.length≤1000000000000) (ha:m.atts.length≤1000000000000) (ho:m.out.length≤1000000000000) :
 Calls Tryz.prog 120 #[vp M,vi i] w fun e w'=>e=.returned (.tuple #[])∧MSt w ρ G M (mEnd m i x.conn) w':=by
 have hil:=(List.getElem?_eq_some_iff.1 hi).1
 obtain ⟨b,off,cap,hv,_,_,hcap1,hcap2,_,_⟩:=h.atts.form (by omega)
 have hat:=h.atts
 rw [hv] at hat
 have cL:w.cell? ⟨M,7,none⟩=some L.atts:=h.cell (k:=7) rfl
 obtain ⟨a',cap',hv2,hrows⟩:=h.attsIn
 rw [hv] at hv2
 injection hv2 with e1 e2 e3
 subst e1;subst e3
 obtain ⟨b',off',hae,c0,c1,c2,c3,c4⟩:=zAD hrows hi
 injection hae with e1
 injection e1 with e1 e2
 subst e1;subst e2
 have HH:=zh h
 obtain ⟨n,hnn⟩:∃n,m.atts.length=n:=⟨_,rfl⟩
 rw [hv,hnn] at cL
 rw [hnn] at hcap1 hat ha hil
 have HY1:Hid (SlAt w 186 5 (fun b=>ρ b=yE) (.slice (some ⟨b,off,none⟩) i cap) i ((m.atts.take i).flatMap zAJ)):=by
  have:=zID hat (Nat.le_of_lt hil)
  rw [show zFy m.atts=m.atts.flatMap zAJ from rfl,zGF (sz:=5) (fun _=>rfl)] at this
  exact this
 have HV:Hid (L.atts=.slice (some ⟨b,off,none⟩) n cap):=by rw [←hnn];exact hv
 have HN:=zh hnn
 have hi0:(0:Int)≤(i:Int):=by omega
 have hi1:(i:Int) < (n:Int):=by omega
 have hi2:(0:Int)≤(i:Int)+1:=by omega
 have hi3:(i:Int)+1≤(n:Int):=by omega
 have hi4:(i:Int)≤(cap:Int):=by omega
 have hi5:(n:Int)≤(cap:Int):=by omega
 have hi6:((i:Int)+1).toNat=i+1:=by omega
 have hwi:IntKind.i64.wrap ((i:Int)+1)=(i:Int)+1:=IntWalk.i64_in _ (by omega)
 have HND:=zh hnd
 have HCN:=zh hn
 have HA:=zh ha
 have HO:=zh ho
 have HIL:=zh hil
 have HB:=zh (show n≤maxLen∧n*40≤140737488355328 by unfold maxLen;omega)
 clear h hv hat hrows hi hnd hn ho hcap2 hnn
 by_cases hcc:cap=i+1
 ·have HO2:=zh (show zGJ n cap i off off 0 0 from ⟨by omega,.inl ⟨hcc,rfl,rfl⟩⟩)
  subst hcc
  go_enter Tryz.func120,Tryz.ntmps120
  go_wp2_with (at_builtin;first | (refine zAK rfl _ _ _ rfl zEb rfl (SlAt.nil (own:=fun _=>False)) rfl HY1.out zGD (by have:=HB.out.1;omega) (by have:=HB.out.2;omega) ?_;intro va1 vc1 w1 E1 he1 hf1 hl1 hs1;rw [Nat.zero_add,List.nil_append] at hs1;obtain ⟨cL1,hy2,fz1⟩:=zLf HH.out he1 hf1 HV.out HN.out HIL.out HO2.out;have HY2:=zh hy2;have HE1:=zh he1;have HF1:=zh hf1;have HS1:=zh hs1;clear he1 hf1 hl1 hs1 hy2) | (refine zAK rfl _ _ _ rfl zEb rfl HS1.out rfl HY2.out zGD (by have:=HB.out.1;omega) (by have:=HB.out.2;omega) ?_;intro va2 vc2 w2 E2 he2 hf2 hl2 hs2;rw [←List.flatMap_append] at hs2;obtain ⟨hM2,ρ3,k1,k2⟩:=zLe HH.out HE1.out HF1.out he2 hf2 (zGK HN.out HIL.out HO2.out) hs2;have c72:w2.cell? ⟨M,7,none⟩=some L.atts:=zB hM2 rfl;have fz2:w2.frozen? ⟨M,7,none⟩=false:=zI hM2;rw [HV.out] at c72;have HK1:=zh k1;have HK2:=zh k2;clear he2 hf2 hl2 hs2 hM2 k1 k2) | fail)
  refine (zIC HK1.out x.conn HND.out HCN.out (by show (m.atts.take i++m.atts.drop (i+1)).length≤_;have:=zGK HN.out HIL.out HO2.out;have:=HA.out;have:=HIL.out;omega) HO.out).mono ?_
  rintro e w4 ⟨rfl,hst⟩
  have HST:=zh (hst.ofStep HK2.out)
  clear hst
  go_wp2_with fail
  go_end0
  exact ⟨rfl,HST.out⟩
 ·have HO2:=zh (show zGJ n cap i off (off+(i+1)*5) (cap - (i+1)) (n - (i+1)) from ⟨rfl,.inr ⟨hcc,rfl,rfl⟩⟩)
  go_enter Tryz.func120,Tryz.ntmps120
  go_wp2_with (at_builtin;first | (refine zAK rfl _ _ _ rfl zEb rfl (SlAt.nil (own:=fun _=>False)) rfl HY1.out zGD (by have:=HB.out.1;omega) (by have:=HB.out.2;omega) ?_;intro va1 vc1 w1 E1 he1 hf1 hl1 hs1;rw [Nat.zero_add,List.nil_append] at hs1;obtain ⟨cL1,hy2,fz1⟩:=zLf HH.out he1 hf1 HV.out HN.out HIL.out HO2.out;have HY2:=zh hy2;have HE1:=zh he1;have HF1:=zh hf1;have HS1:=zh hs1;clear he1 hf1 hl1 hs1 hy2) | (refine zAK rfl _ _ _ rfl zEb rfl HS1.out rfl HY2.out zGD (by have:=HB.out.1;omega) (by have:=HB.out.2;omega) ?_;intro va2 vc2 w2 E2 he2 hf2 hl2 hs2;rw [←List.flatMap_append] at hs2;obtain ⟨hM2,ρ3,k1,k2⟩:=zLe HH.out HE1.out HF1.out he2 hf2 (zGK HN.out HIL.out HO2.out) hs2;have c72:w2.cell? ⟨M,7,none⟩=some L.atts:=zB hM2 rfl;have fz2:w2.frozen? ⟨M,7,none⟩=false:=zI hM2;rw [HV.out] at c72;have HK1:=zh k1;have HK2:=zh k2;clear he2 hf2 hl2 hs2 hM2 k1 k2) | fail)
  refine (zIC HK1.out x.conn HND.out HCN.out (by show (m.atts.take i++m.atts.drop (i+1)).length≤_;have:=zGK HN.out HIL.out HO2.out;have:=HA.out;have:=HIL.out;omega) HO.out).mono ?_
  rintro e w4 ⟨rfl,hst⟩
  have HST:=zh (hst.ofStep HK2.out)
  clear hst
  go_wp2_with fail
  go_end0
  exact ⟨rfl,HST.out⟩
end
end Go.Proofs.YtaejfobbogahmaaGreatDoor
