/-
  Dead RefT MTick MTick2: texts of their own, joined.
-/
import Derived.OrdersHeld
import Derived.Deep.RegionHeld3
import Derived.Test.YtaejfobbogahmaaGreatDoorMkMAgain
import Derived.Test.YtaejfobbogahmaaGreatDoorMkMServe
import Derived.Test.YtaejfobbogahmaaGreatDoorMkMLine
import Derived.Deep.QuietTactic
import Derived.BigQuiet
import Derived.Test.YtaejfobbogahmaaGreatDoorMkTick
import Derived.Test.YtaejfobbogahmaaGreatDoorMkFedE
set_option maxRecDepth 100000
set_option maxHeartbeats 16000000
set_option linter.all false
namespace Go.Proofs.YtaejfobbogahmaaGreatDoor
open Go
section
variable {P:Program} {ops:Array Oper} {Q:Exit→Act→World→Prop} {md:Region.Mode} {S:World→Prop}
theorem zSt {i:Nat} {oi:Oper} {rest:List Oper} (h:ops.toList.drop i=oi::rest):ops[i]?=some oi:=by
 have h1:(ops.toList.drop i)[0]?=some oi:=by rw [h];rfl
 rw [List.getElem?_drop] at h1
 simpa using h1
theorem zAR {i:Nat} {oi:Oper} {rest:List Oper} {v:Value} {fuel:Nat} {listed:Array Bool} {a:Act} {w:World} (hi:ops.toList.drop i=oi::rest) (hb:(Region.noSelect ops&&Region.free md ops listed i&&(Region.ready md ops listed).contains i)=true)
 (hQ:∀c a w,Q (.panic c) (a.put oi.dst v) w→Q (.panic c) a w) (hS:S w) (hy:YieldsIf P ops S oi v a) (h:wpAnyH P md ops Q S fuel (listed.setIfInBounds i true) (a.put oi.dst v) w):wpAnyH P md ops Q S (fuel+1) listed a w:=by
 simp only [Bool.and_eq_true] at hb
 exact wpAnyH_take (zSt hi) hb.1.1 hb.1.2 hb.2 hQ hy hS h
theorem zVB {i:Nat} {n:Nat} {l:Array Bool} {a:Act} {w:World} {o:Oper} {rest:List Oper} (hi:ops.toList.drop i=o::rest) (hr:Region.ready md ops l=[i]) (hw:Region.wanted o (yielded ops a.tmps)=true)
 (h:∀K:Act→World→Prop,(∀a' w',S w'→wpAnyH P md ops Q S n (l.setIfInBounds i true) a' w'→K a' w')→o.wp P a w K Q):wpAnyH P md ops Q S (n+1) l a w:=
 ⟨fun h0=>absurd (hr.symm.trans h0) (by simp),fun j hj=>by
  rw [hr,List.mem_singleton] at hj
  subst hj
  unfold wpOp
  simp only [zSt hi,hw,if_true]
  exact .inl (h _ (fun a' w' h1 h2=>⟨h1,h2⟩))⟩
end
def Best (l:List MAtt) (now:Int) (k:Nat) (v:Int):Prop:=
 (v = -1∧∀(j:Nat) b,j < k→l[j]?=some b→now < b.till) ∨
 ∃(i:Nat) (a:MAtt),v=(i:Int)∧i < k∧l[i]?=some a∧a.till≤now∧(∀(j:Nat) b,j < i→l[j]?=some b→a.till < b.till)∧(∀(j:Nat) b,i < j→j < k→l[j]?=some b→a.till≤b.till)
theorem Best.start (l:List MAtt) (now:Int):Best l now 0 (-1):=.inl ⟨rfl,fun j b hj=>by omega⟩
theorem Best.skip {l:List MAtt} {now:Int} {k:Nat} {v:Int} (h:Best l now k v) {b:MAtt} (hb:l[k]?=some b) (hn:now < b.till∨∃(i:Nat) (a:MAtt),v=(i:Int)∧l[i]?=some a∧a.till≤b.till):Best l now (k+1) v:=by
 rcases h with ⟨rfl,h⟩ | ⟨i,a,rfl,hi,ha,h1,h2,h3⟩
 ·left
  refine ⟨rfl,fun j c hj hc=>?_⟩
  by_cases e:j=k
  ·subst e
   rw [hb] at hc;cases hc
   rcases hn with h4 | ⟨i,a,h5,_⟩
   ·exact h4
   ·omega
  ·exact h j c (by omega) hc
 ·right
  refine ⟨i,a,rfl,by omega,ha,h1,h2,fun j c hij hj hc=>?_⟩
  by_cases e:j=k
  ·subst e
   rw [hb] at hc;cases hc
   rcases hn with h4 | ⟨i',a',h5,h6,h7⟩
   ·omega
   ·have:i'=i:=by omega
    subst this
    rw [ha] at h6;cases h6
    exact h7
  ·exact h3 j c hij (by omega) hc
theorem Best.take {l:List MAtt} {now:Int} {k:Nat} {v:Int} (h:Best l now k v) {b:MAtt} (hb:l[k]?=some b) (hn:b.till≤now) (hl:∀(i:Nat) (a:MAtt),v=(i:Int)→l[i]?=some a→b.till < a.till):Best l now (k+1) (k:Int):=by
 right
 refine ⟨k,b,rfl,by omega,hb,hn,fun j c hj hc=>?_,fun j c h1 h2=>by omega⟩
 rcases h with ⟨rfl,h⟩ | ⟨i,a,rfl,hi,ha,h1,h2,h3⟩
 ·have:=h j c hj hc;omega
 ·have h4:=hl i a rfl ha
  rcases Nat.lt_trichotomy j i with h5 | h5 | h5
  ·have:=h2 j c h5 hc;omega
  ·subst h5;rw [ha] at hc;cases hc;exact h4
  ·have:=h3 j c h5 hj hc;omega
theorem zPs:∀{l:List Att} {i:Nat} {a:Att},l.Pairwise (fun a b=>a.seq < b.seq)→l[i]?=some a→(∀(j:Nat) b,j < i→l[j]?=some b→a.till < b.till)→(∀(j:Nat) b,i < j→l[j]?=some b→a.till≤b.till)→least l=some a
 | [],_,_,_,h,_,_=>by simp at h
 | x::l,0,a,hp,h,_,h2=>by
   simp at h;subst h
   rw [List.pairwise_cons] at hp
   unfold least
   cases hl:least l with
   | none=>rfl
   | some b =>
     simp only []
     have hb:=zFO hl
     obtain ⟨j,hj,e⟩:=List.getElem_of_mem hb
     have h3:=h2 (j+1) b (by omega) (by rw [List.getElem?_cons_succ,List.getElem?_eq_getElem hj,e])
     have h4:=hp.1 b hb
     rw [if_neg]
     unfold zBS
     simp
     omega
 | x::l,i+1,a,hp,h,h1,h2=>by
   rw [List.pairwise_cons] at hp
   have ih:=zPs hp.2 (by simpa using h) (fun j b hj hb=>h1 (j+1) b (by omega) (by simpa using hb)) (fun j b hj hb=>h2 (j+1) b (by omega) (by simpa using hb))
   have h3:=h1 0 x (by omega) rfl
   unfold least
   rw [ih]
   simp only []
   rw [if_pos]
   unfold zBS
   simp [h3]
theorem zVC {N P:Nat} {r:Raw} (hI:Inv N P r) {i:Nat} (h:Best (refOf r).atts r.now (refOf r).atts.length (i:Int)):∃a,r.atts[i]?=some a∧rDue r=some a:=by
 rcases h with ⟨h,_⟩ | ⟨j,x,h0,hi,ha,h1,h2,h3⟩
 ·omega
 ·have:j=i:=by omega
  subst this
  obtain ⟨a,hai,rfl⟩:=zGy ha
  refine ⟨a,hai,?_⟩
  have hl:=zPs hI.a.apw hai (fun k b hk hb=>h2 k (zBE b) hk (zEi hb)) (fun k b hk hb=>h3 k (zBE b) hk (by have:=(List.getElem?_eq_some_iff.1 hb).1;show k < (r.atts.map zBE).length;rw [List.length_map];exact this) (zEi hb))
  unfold rDue
  rw [hl]
  simp only []
  rw [if_pos (show a.till≤r.now from h1)]
theorem zVD {r:Raw} (h:Best (refOf r).atts r.now (refOf r).atts.length (-1)):rDue r=none:=by
 rcases h with ⟨_,h⟩ | ⟨j,x,h0,_⟩
 ·unfold rDue
  cases hl:least r.atts with
  | none=>rfl
  | some a =>
    simp only []
    have hm:=zFO hl
    obtain ⟨j,hj,e⟩:=List.getElem_of_mem hm
    have:=h j (zBE a) (by show j < (r.atts.map zBE).length;rw [List.length_map];exact hj) (zEi (by rw [List.getElem?_eq_getElem hj,e]))
    rw [if_neg]
    have:r.now < a.till:=this
    omega
 ·omega
def zDE (r:Raw) (a:Att):Bool:=decide (0 < r.cfg.hedge)&&decide (r.cfg.hedge≤r.now - a.since)
def hedgeTo (r:Raw) (k:Nat):Raw:=((r.atts.take k).filter (zDE r)).foldl zAq r
theorem zNM (r:Raw):hedgeTo r 0=r:=by simp [hedgeTo]
theorem zIA {r:Raw} {k:Nat} {a:Att} (h:r.atts[k]?=some a):hedgeTo r (k+1)=if zDE r a then zAq (hedgeTo r k) a else hedgeTo r k:=by
 unfold hedgeTo
 rw [List.take_add_one,h,List.filter_append,List.foldl_append]
 show List.foldl zAq _ ([a].filter (zDE r))=_
 cases hs:zDE r a<;>simp [hs]
theorem zOi (r:Raw):hedgeTo r r.atts.length=zCS r:=by
 unfold hedgeTo zCS
 rw [List.take_length]
 by_cases h:0 < r.cfg.hedge
 ·rw [if_pos h]
  congr 1
  apply List.filter_congr
  intro a _
  unfold zDE
  rw [decide_eq_true h,Bool.true_and]
 ·rw [if_neg h]
  have:r.atts.filter (zDE r)=[]:=by
   rw [List.filter_eq_nil_iff]
   intro a _
   unfold zDE
   rw [decide_eq_false h]
   simp
  rw [this]
  rfl
theorem zNN (r:Raw) (a:Att):(zAq r a).atts=r.atts∧(zAq r a).now=r.now∧(zAq r a).cfg=r.cfg∧(zAq r a).conns=r.conns:=by
 unfold zAq
 split
 ·exact ⟨rfl,rfl,rfl,rfl⟩
 ·split
  ·unfold zAz
   split<;>exact ⟨rfl,rfl,rfl,rfl⟩
  ·exact ⟨rfl,rfl,rfl,rfl⟩
theorem zGG:∀(l:List Att) (r:Raw),(l.foldl zAq r).atts=r.atts∧(l.foldl zAq r).now=r.now∧(l.foldl zAq r).cfg=r.cfg∧(l.foldl zAq r).conns=r.conns
 | [],_=>⟨rfl,rfl,rfl,rfl⟩
 | a::l,r=>by
   obtain ⟨h1,h2,h3,h4⟩:=zGG l (zAq r a)
   obtain ⟨g1,g2,g3,g4⟩:=zNN r a
   exact ⟨h1.trans g1,h2.trans g2,h3.trans g3,h4.trans g4⟩
theorem zNO {r:Raw} {a:Att} {q:Req} (hq:aget r.reqs a.id=some q):zAq r a=if !q.hedged&&!q.queued&&(rOf r a.id).length==1 then zAz {r with reqs:=aset r.reqs a.id {q with hedged:=true}} a.id false else r:=by unfold zAq;rw [hq]
theorem zHb {r:Raw} {a:Att} {q:Req} (hq:aget r.reqs a.id=some q) (h:q.hedged=true∨q.queued=true∨(rOf r a.id).length≠1):zAq r a=r:=by
 rw [zNO hq,if_neg]
 rcases h with h | h | h
 ·simp [h]
 ·simp [h]
 ·simp [h]
theorem zVE {r:Raw} {a:Att} {q:Req} (hq:aget r.reqs a.id=some q) (h1:q.hedged=false) (h2:q.queued=false) (h3:(rOf r a.id).length=1):zAq r a=zAz {r with reqs:=aset r.reqs a.id {q with hedged:=true}} a.id false:=by
 rw [zNO hq,if_pos]
 simp [h1,h2,h3]
theorem Inv.hedged {N P:Nat} {r:Raw} (h:Inv N P r) {id:Int} {q:Req} (hq:aget r.reqs id=some q):Inv N P {r with reqs:=aset r.reqs id {q with hedged:=true}}:=by
 have hr:=h.n.req id q hq
 exact ⟨h.q.set_req hq rfl rfl,h.a.set_req hq rfl (Int.le_refl _),h.n.set_req hq hr.2.2.1 hr.2.2.2.1 hr.2.2.2.2.1 hr.2.2.2.2.2.1 hr.2.2.2.2.2.2.1 hr.2.2.2.2.2.2.2⟩
theorem zNP {N P:Nat} {r:Raw} (hI:Inv N P r) {id:Int} {q:Req} {k:Nat} (hk:r.reqs[k]?=some (id,q)):refOf {r with reqs:=aset r.reqs id {q with hedged:=true}}={refOf r with reqs:=(refOf r).reqs.set k {zAl (id,q) with hedged:=true}}:=by
 have:=zIY hI.q.kreq hk {q with hedged:=true}
 show ({refOf r with reqs:=(aset r.reqs id {q with hedged:=true}).map zAl}:RefM)=_
 rw [this]
 rfl
open Go Go.RowKit
section
variable {w w' w1 w2 w3 wr:World} {ρ:Nat→Role} {G M:Nat} {L:MLay} {m:RefM}
theorem zSu (h:MRep w ρ G M L m) {b off n cap i:Nat} {x:MAtt} (hv:L.atts=.slice (some ⟨b,off,none⟩) n cap) (hi:m.atts[i]?=some x):w.cell? ⟨b,off+i*5+4,none⟩=some (vi x.till):=by
 obtain ⟨b',off',hae,_,_,_,_,q4⟩:=zBd (zFc h hv) hi
 injection hae with hae
 injection hae with e1 e2
 subst e1;subst e2
 exact q4
theorem zQu (h:MRep w ρ G M L m) (hn:m.atts.length≤1000000000000) :
 Calls Tryz.prog 117 #[vp M] w fun e w'=>∃v,e=.returned (vi v)∧Best m.atts m.now m.atts.length v∧Below w.heap.size w w':=by
 obtain ⟨a,cap,hv,hr⟩:=h.attsIn
 have cL:w.cell? ⟨M,7,none⟩=some L.atts:=h.cell (k:=7) rfl
 have cN:w.cell? ⟨M,5,none⟩=some (vi m.now):=h.cell (k:=5) rfl
 rw [hv] at cL
 have HR:=Lib.hid hr
 have HH:=Lib.hid h
 obtain ⟨n,hnn⟩:∃n,m.atts.length=n:=⟨_,rfl⟩
 have HN:=Lib.hid hnn
 rw [hnn] at cL hn hv
 have HV:=Lib.hid hv
 obtain ⟨nw,hnw⟩:∃x,m.now=x:=⟨_,rfl⟩
 rw [hnw] at cN
 have HNW:=Lib.hid hnw
 clear h hv hr hnn hnw
 go_enter Tryz.func117,Tryz.ntmps117
 go_wp2_with fail
 go_loopw [3,4,5,11] (fun s3 _ _ s11 wr=>∃(k:Nat) (v:Int),s11=.int .i64 k∧s3=.int .i64 v∧k≤n∧Hid (Below w.heap.size w wr∧Best m.atts nw k v)) (fun _ _ _ s11 _=>n - (intOf s11).toNat)
 case atStart=>exact ⟨0,-1,by go_num,by first | rfl | go_num,Nat.zero_le _,Below.refl _ _,Best.start _ _⟩
 case round =>
  obtain ⟨k,v,rfl,rfl,hk,HI⟩:=hrel
  by_cases hkl:k < n
  ·have hlt:decide ((k:Int) < (n:Int))=true:=decide_eq_true (by omega)
   obtain ⟨q,hkq⟩:∃q,m.atts[k]?=some q:=⟨_,List.getElem?_eq_getElem (by rw [HN.out];exact hkl)⟩
   obtain ⟨b,off,hae,c0,c1,c2,c3,c4⟩:=zBd (HR.out.below HI.out.1) hkq
   subst hae
   have hk0:(0:Int)≤(k:Int):=by omega
   have hk1:(k:Int) < (n:Int):=by omega
   have HKQ:=Lib.hid hkq
   have HBA:=Lib.hid (HI.out.1.alloc HI.out.1.size (.cells #[vi q.id,vi q.n,vi q.conn,vi q.since,vi q.till] 186))
   have HBST:=Lib.hid HI.out.2
   obtain ⟨tl,htl⟩:∃x,q.till=x:=⟨_,rfl⟩
   have HTL:=Lib.hid htl
   rw [htl] at c4
   have cLk:(wr.alloc (.cells #[vi q.id,vi q.n,vi q.conn,vi q.since,vi tl] 186)).cell? ⟨M,7,none⟩=some (.slice (some ⟨b,off,none⟩) n cap):=zEj ((HI.out.1.cell (zAX cL)).trans cL)
   have cNk:(wr.alloc (.cells #[vi q.id,vi q.n,vi q.conn,vi q.since,vi tl] 186)).cell? ⟨M,5,none⟩=some (vi nw):=zEj ((HI.out.1.cell (zAX cN)).trans cN)
   have hgr:=HH.out.grow HI.out.1
   have HTC:=Lib.hid (fun (i:Nat) x (hi:m.atts[i]?=some x)=>zSu hgr HV.out hi)
   have hvb:v = -1∨∃(i:Nat) (x:MAtt),v=(i:Int)∧i < k∧m.atts[i]?=some x:=by
    rcases HI.out.2 with ⟨h,_⟩ | ⟨i,x,h,hi,hx,_⟩
    ·exact .inl h
    ·exact .inr ⟨i,x,h,hi,hx⟩
   rw [htl] at HBA
   clear hkq htl hgr HI
   by_cases hle:tl≤nw
   ·have hle1:decide (tl≤nw)=true:=decide_eq_true hle
    rcases hvb with rfl | ⟨i,x,rfl,hik,hix⟩
    ·have hv0:decide ((-1:Int) < 0)=true:=by decide
     have HBN:Hid (Best m.atts nw (k+1) (k:Int)):=HBST.out.take HKQ.out (by rw [HTL.out];exact hle) (fun i a e=>by omega)
     go_wp2_with fail
     go_quiet (fail)
     go_wp2_with fail
     go_roundw
     case rel=>exact ⟨k+1,k,by go_num,rfl,by omega,zAt HBA.out _,HBN.out⟩
     case measure=>simp [intOf];omega
    ·have hv0:decide ((i:Int) < 0)=false:=decide_eq_false (by omega)
     have hi0:(0:Int)≤(i:Int):=by omega
     have hi1:(i:Int) < (n:Int):=by omega
     obtain ⟨xt,hxt⟩:∃y,x.till=y:=⟨_,rfl⟩
     have cx0:=HTC.out i x hix
     rw [hxt] at cx0
     have cx:=zEj (o:=.cells #[vi q.id,vi q.n,vi q.conn,vi q.since,vi tl] 186) cx0
     have HIX:=Lib.hid hix
     have HXT:=Lib.hid hxt
     clear cx0 hix hxt
     by_cases hlx:tl < xt
     ·have hl1:decide (tl < xt)=true:=decide_eq_true hlx
      have HBN:Hid (Best m.atts nw (k+1) (k:Int)):=HBST.out.take HKQ.out (by rw [HTL.out];exact hle) (fun j a e hj=>by
       have:j=i:=by omega
       subst this
       rw [HIX.out] at hj;cases hj
       rw [HTL.out,HXT.out];exact hlx)
      go_wp2_with fail
      go_quiet (fail)
      go_wp2_with fail
      go_roundw
      case rel=>exact ⟨k+1,k,by go_num,rfl,by omega,zAt HBA.out _,HBN.out⟩
      case measure=>simp [intOf];omega
     ·have hl1:decide (tl < xt)=false:=decide_eq_false hlx
      have HBN:Hid (Best m.atts nw (k+1) (i:Int)):=HBST.out.skip HKQ.out (.inr ⟨i,x,rfl,HIX.out,by rw [HTL.out,HXT.out];omega⟩)
      go_wp2_with fail
      go_quiet (fail)
      go_wp2_with fail
      go_roundw
      case rel=>exact ⟨k+1,i,by go_num,rfl,by omega,zAt HBA.out _,HBN.out⟩
      case measure=>simp [intOf];omega
   ·have hle1:decide (tl≤nw)=false:=decide_eq_false hle
    have HBN:Hid (Best m.atts nw (k+1) v):=HBST.out.skip HKQ.out (.inl (by rw [HTL.out];omega))
    go_wp2_with fail
    go_quiet (fail)
    go_wp2_with fail
    go_roundw
    case rel=>exact ⟨k+1,v,by go_num,rfl,by omega,zAt HBA.out _,HBN.out⟩
    case measure=>simp [intOf];omega
  ·obtain rfl:k=n:=by omega
   have hlt:decide ((k:Int) < (k:Int))=false:=by simp
   have HF:Hid (Best m.atts m.now m.atts.length v):=show Best _ _ _ _ by rw [HNW.out,HN.out];exact HI.out.2
   have HB:=Lib.hid HI.out.1
   clear HI
   go_wp2_with fail
   go_ret
   exact ⟨_,rfl,HF.out,HB.out⟩
end
section
variable {w w' w1 w2 w3 wr:World} {ρ:Nat→Role} {G M:Nat} {L:MLay} {m:RefM}
def zKe (w:World) (ρ:Nat→Role) (G M N P:Nat) (tgt:Raw) (nc:Nat) (wr:World) (rk:Raw):Prop:=
 ∃ρk Lk,MRep wr ρk G M Lk (refOf rk)∧Step ρ ρk w wr∧Inv N P rk∧zBB rk.atts.length rk=tgt∧rk.conns.length=nc
theorem zKe.next {N P nc:Nat} {tgt rk:Raw} {ρk ρ2:Nat→Role} {L2:MLay} {a:Att} (hk2:Step ρ ρk w wr) (hk3:Inv N P rk) (hk4:zBB rk.atts.length rk=tgt) (hk5:rk.conns.length=nc) (hd:rDue rk=some a)
 (k1:MRep w2 ρ2 G M L2 (refOf (zAw (rStop rk a) a.id true))) (k2:Step ρk ρ2 wr w2):zKe w ρ G M N P tgt nc w2 (zAw (rStop rk a) a.id true):=
 ⟨ρ2,L2,k1,hk2.trans k2,hk3.due1 (zDj hd),by rw [←zQF hk3 hd];exact hk4,by rw [zJh,zDd];exact hk5⟩
def zGH (w:World) (ρ:Nat→Role) (G M N P:Nat) (LD:MLay) (rD:Raw) (k:Nat) (wr:World):Prop:=
 ∃ρk Lk,MRep wr ρk G M Lk (refOf (hedgeTo rD k))∧Step ρ ρk w wr∧Inv N P (hedgeTo rD k)∧Lk.atts=LD.atts
theorem zNQ (r:Raw) (k:Nat):(hedgeTo r k).atts=r.atts∧(hedgeTo r k).now=r.now∧(hedgeTo r k).cfg=r.cfg∧(hedgeTo r k).conns=r.conns:=zGG _ r
theorem Inv.hedgeTo {N P:Nat} {r:Raw} (h:Inv N P r) (k:Nat):Inv N P (hedgeTo r k):=Inv.hedges _ h
theorem zGH.still {N P k:Nat} {LD:MLay} {rD:Raw} {ρk:Nat→Role} {Lk:MLay} {a:Att} (h1:MRep wr ρk G M Lk (refOf (hedgeTo rD k))) (h2:Step ρ ρk w wr) (h3:Inv N P rD) (h4:Lk.atts=LD.atts) (ha:rD.atts[k]?=some a) (hs:zDE rD a=false∨zAq (hedgeTo rD k) a=hedgeTo rD k) (hb:Below wr.heap.size wr w2):zGH w ρ G M N P LD rD (k+1) w2:=by
 have e:hedgeTo rD (k+1)=hedgeTo rD k:=by
  rw [zIA ha]
  rcases hs with hs | hs
  ·rw [hs];rfl
  ·split
   ·exact hs
   ·rfl
 refine ⟨ρk,Lk,?_,h2.trans (Step.still (Fr.of_below hb)),h3.hedgeTo _,h4⟩
 rw [e]
 exact h1.grow hb
theorem MStA.own {m':RefM} (h:MStA w ρ G M L m' w'):∃ρ' L',MRep w' ρ' G M L' m'∧Step ρ ρ' w w'∧L'.atts=L.atts:=by
 obtain ⟨ρ',L',h1,h2,h3⟩:=h
 exact ⟨ρ',L',h1,h2,h3.1⟩
theorem zOj {N P:Nat} {r:Raw} (hI:Inv N P r) (h:MRep w ρ G M L (refOf r)) (hN:N≤900000000) (hP:P≤900000000) (hC:r.conns.length≤900000000) :
 Calls Tryz.prog 86 #[vp M] w (zDS w ρ G M (refOf (rTick r))):=by
 have c5:w.cell? ⟨M,5,none⟩=some (vi r.now):=h.cell (k:=5) rfl
 have f5:=h.frozen 5
 have hnb:=hI.n.now
 obtain ⟨r1,hr1⟩:∃r1:Raw,r1={r with now:=r.now+1}:=⟨_,rfl⟩
 have hI1:Inv (N+1) P r1:=by rw [hr1];exact hI.later
 obtain ⟨k1,k2⟩:=h.put_now (n:=r.now+1) (w':=w.setCell ⟨M,5,none⟩ (vi (r.now+1))) (zAE w (off:=5) h.mod.2) ((Fr.refl _ w).setCell _ _ (.inl rfl))
 have k1:MRep (w.setCell ⟨M,5,none⟩ (vi (r.now+1))) ρ G M L (refOf r1):=by rw [hr1];exact k1
 obtain ⟨nw,hnw⟩:∃x,r.now=x:=⟨_,rfl⟩
 rw [hnw] at c5 hnb k1 k2
 have hw1:IntKind.i64.wrap (nw+1)=nw+1:=IntWalk.i64_in _ (by omega)
 have HDU:=Lib.hid (fun (rk:Raw) (ρk:Nat→Role) (Lk:MLay) (W:World) (hIk:Inv (N+1) P rk) (hk:MRep W ρk G M Lk (refOf rk))=>zQu hk (by have:=hIk.mok;omega))
 have HD0:=Lib.hid (HDU.out _ _ _ _ hI1 k1)
 have HFG:=Lib.hid (fun (x:Int) (hx:0≤x∧x < 1000000000000) W=>zBq (x:=x) hx.1 hx.2 W)
 obtain ⟨tgt,htgt⟩:∃t,zBB r1.atts.length r1=t:=⟨_,rfl⟩
 obtain ⟨nc,hnc⟩:∃x,r1.conns.length=x:=⟨_,rfl⟩
 have hncb:nc≤900000000:=by rw [←hnc,hr1];exact hC
 have HT0:Hid (zKe w ρ G M (N+1) P tgt nc (w.setCell ⟨M,5,none⟩ (vi (nw+1))) r1):=⟨ρ,L,k1,k2,hI1,htgt,hnc⟩
 have HTR:Hid (rTick r=zBe (zCS tgt)):=show _=_ by rw [←htgt,hr1];rfl
 obtain ⟨F,hF⟩:∃F,zDS w ρ G M (refOf (rTick r))=F:=⟨_,rfl⟩
 rw [hF]
 have HF:=Lib.hid hF
 have HNP:Hid (N≤900000000∧P≤900000000):=⟨hN,hP⟩
 clear hF hI h hN hP hC hr1 hI1 k1 k2 hnw htgt hnc hnb
 go_enter Tryz.func86,Tryz.ntmps86
 go_wp2_with fail
 refine HD0.out.mono ?_
 rintro e w0 ⟨v,rfl,hb0,hB0⟩
 have HV0:Hid (∃rk,zKe w ρ G M (N+1) P tgt nc w0 rk∧Best (refOf rk).atts rk.now (refOf rk).atts.length v):=by
  obtain ⟨ρk,Lk,h1,h2,h3⟩:=HT0.out
  exact ⟨r1,⟨ρk,Lk,h1.grow hB0,h2.trans (Step.still (Fr.of_below hB0)),h3⟩,hb0⟩
 clear hb0 hB0 c5 f5
 go_wp2_with fail
 go_loopw [3,4] (fun s3 _ wr=>∃v:Int,s3=.int .i64 v∧Hid (∃rk,zKe w ρ G M (N+1) P tgt nc wr rk∧Best (refOf rk).atts rk.now (refOf rk).atts.length v)) (fun _ _ wr=>zPl wr M)
 case atStart=>exact ⟨v,rfl,HV0.out⟩
 case round =>
  obtain ⟨v,rfl,HR⟩:=hrel
  obtain ⟨wo,rfl⟩:∃wo,wo=wr:=⟨_,rfl⟩
  obtain ⟨rk,⟨ρk,Lk,hk1,hk2,hk3,hk4,hk5⟩,hbest⟩:=HR.out
  have hvb:v = -1∨∃i:Nat,v=(i:Int):=by
   rcases hbest with ⟨h,_⟩ | ⟨i,x,h,_⟩
   ·exact .inl h
   ·exact .inr ⟨i,h⟩
  rcases hvb with rfl | ⟨i,rfl⟩
  ·have hge:decide ((-1:Int)≥0)=false:=by decide
   have hrk:rk=tgt:=by rw [←hk4];exact (zTp (zVD hbest)).symm
   subst hrk
   obtain ⟨aa,ac,hva,_⟩:=hk1.attsIn
   have c7:wo.cell? ⟨M,7,none⟩=some Lk.atts:=hk1.cell (k:=7) rfl
   obtain ⟨n,hnn⟩:∃n,(refOf rk).atts.length=n:=⟨_,rfl⟩
   rw [hnn] at hva
   rw [hva] at c7
   have hm:=hk3.mok
   have hnb:n≤1000000000:=by rw [←hnn];have:=HNP.out;omega
   have HVA:=Lib.hid hva
   have HN:Hid (rk.atts.length=n):=show _=_ by rw [←hnn];show _=(rk.atts.map zBE).length;rw [List.length_map]
   have HI3:=Lib.hid hk3
   have HH0:Hid (zGH w ρ G M (N+1) P Lk rk 0 wo):=⟨ρk,Lk,by rw [zNM];exact hk1,hk2,by rw [zNM];exact hk3,rfl⟩
   obtain ⟨hg,hhg⟩:∃x,rk.cfg.hedge=x:=⟨_,rfl⟩
   obtain ⟨nx,hnx⟩:∃x,rk.now=x:=⟨_,rfl⟩
   have hnxb:0≤nx∧nx≤1000000000:=by rw [←hnx];have:=hk3.n.now;have:=HNP.out;omega
   have HHG:=Lib.hid hhg
   have HNX:=Lib.hid hnx
   clear hk1 hk2 hk3 hk4 hbest HR hva hnn hm hhg hnx
   go_wp2_with fail
   go_loopw [6,7,53] (fun _ _ s53 wr=>∃k:Nat,s53=.int .i64 k∧k≤n∧Hid (zGH w ρ G M (N+1) P Lk rk k wr)) (fun _ _ s53 _=>n - (intOf s53).toNat)
   case atStart=>exact ⟨0,by go_num,Nat.zero_le _,HH0.out⟩
   case round =>
    obtain ⟨k,rfl,hk,HK⟩:=hrel
    obtain ⟨ρh,Lh,g1,g2,g3,g4⟩:=HK.out
    obtain ⟨e1,e2,e3,e4⟩:=zNQ rk k
    by_cases hkl:k < n
    ·have hlt:decide ((k:Int) < (n:Int))=true:=decide_eq_true (by omega)
     obtain ⟨a,hak⟩:∃a,rk.atts[k]?=some a:=⟨_,List.getElem?_eq_getElem (by rw [HN.out];exact hkl)⟩
     have hak2:(refOf (hedgeTo rk k)).atts[k]?=some (zBE a):=zEi (by rw [e1];exact hak)
     obtain ⟨ab,aoff,hae,i0,i1,i2,i3,i4⟩:=zBd (zFc g1 (g4.trans HVA.out)) hak2
     subst hae
     obtain ⟨q,hq,_⟩:=g3.a.areq a (by rw [e1];exact List.mem_of_getElem? hak)
     obtain ⟨kq,hkq⟩:=zDq hq
     have hkm:(refOf (hedgeTo rk k)).reqs[kq]?=some (zAl (a.id,q)):=by show ((hedgeTo rk k).reqs.map zAl)[kq]?=_;rw [List.getElem?_map,hkq];rfl
     have hm:=g3.mok
     have hk0:(0:Int)≤(k:Int):=by omega
     have hk1:(k:Int) < (n:Int):=by omega
     have c4:wr.cell? ⟨M,4,none⟩=some (vi hg):=by
      have:=g1.cell (k:=4) rfl
      rw [←HHG.out,←e3];exact this
     have c5:wr.cell? ⟨M,5,none⟩=some (vi nx):=by
      have:=g1.cell (k:=5) rfl
      rw [←HNX.out,←e2];exact this
     obtain ⟨qa,qc,hvq,_⟩:=g1.reqsIn
     obtain ⟨qn,hqn⟩:∃x,(refOf (hedgeTo rk k)).reqs.length=x:=⟨_,rfl⟩
     rw [hqn] at hvq
     obtain ⟨qb,qoff,hqe⟩:∃qb qoff,qa=some ⟨qb,qoff,none⟩:=by
      obtain ⟨b',off',hae,_⟩:=zBc (zCM g1 hvq) hkm
      exact ⟨b',off',hae⟩
     subst hqe
     obtain ⟨c6,q1,q5,q6o⟩:=zNg g1 hvq hkm
     have hkql:=(List.getElem?_eq_some_iff.1 hkm).1
     have hq0:(0:Int)≤(kq:Int):=by omega
     have hq1:(kq:Int) < (qn:Int):=by omega
     obtain ⟨id,hid⟩:∃x,a.id=x:=⟨_,rfl⟩
     obtain ⟨sn,hsn⟩:∃x,a.since=x:=⟨_,rfl⟩
     obtain ⟨hd,hhd⟩:∃x,q.hedged=x:=⟨_,rfl⟩
     have hsnb:0≤sn∧sn≤nx:=by
      have h5:=g3.n.att a (by rw [e1];exact List.mem_of_getElem? hak)
      rw [e2,HNX.out,hsn] at h5;omega
     have hws:IntKind.i64.wrap (nx - sn)=nx - sn:=IntWalk.i64_in _ (by omega)
     have a0:wr.cell? ⟨ab,aoff+k*5,none⟩=some (vi id):=by rw [←hid];exact i0
     have a3:wr.cell? ⟨ab,aoff+k*5+3,none⟩=some (vi sn):=by rw [←hsn];exact i3
     have a1:wr.cell? ⟨ab,aoff+k*5+1,none⟩=some (vi a.att):=i1
     have a2:wr.cell? ⟨ab,aoff+k*5+2,none⟩=some (vi a.conn):=i2
     have a4:wr.cell? ⟨ab,aoff+k*5+4,none⟩=some (vi a.till):=i4
     have q6:wr.cell? ⟨qb,qoff+kq*7+6,none⟩=some (.bool hd):=by rw [←hhd];exact q6o
     clear i0 i1 i2 i3 i4 q6o
     rw [hid] at hq hkq hkm
     obtain ⟨wA,hwA⟩:∃W,wr.alloc (.cells #[.int .i64 id,.int .i64 a.att,.int .i64 a.conn,.int .i64 sn,.int .i64 a.till] 186)=W:=⟨_,rfl⟩
     have hbA:Below wr.heap.size wr wA:=by rw [←hwA];exact (Below.refl _ wr).alloc (Nat.le_refl _) _
     have hblA:wA.heap[wr.heap.size]?=some (.cells #[vi id,vi a.att,vi a.conn,vi sn,vi a.till] 186 (0,0)):=by rw [←hwA];exact zAD wr
     have b0:wA.cell? ⟨wr.heap.size,0,none⟩=some (vi id):=zAA hblA rfl
     have HRA:=Lib.hid (zHc (g1.grow hbA) (k:=kq) hm.1 hkm (by have:=HNP.out;omega))
     have HBA:=Lib.hid hbA
     have HBLA:=Lib.hid hblA
     have HAK:=Lib.hid hak
     have HID:=Lib.hid hid
     have HQ:=Lib.hid hq
     have HKQ:=Lib.hid hkq
     have HKM:=Lib.hid hkm
     have HM:=Lib.hid hm
     have HVQ:=Lib.hid hvq
     have HHD:=Lib.hid hhd
     have G1:=Lib.hid g1
     have G2:=Lib.hid g2
     have G3:=Lib.hid g3
     have G4:=Lib.hid g4
     have HE2:Hid (zDE rk a=(decide (0 < hg)&&decide (hg≤nx - sn))):=show _=_ by unfold zDE;rw [HHG.out,HNX.out,hsn]
     have HC4:=Lib.hid c4
     have HC5:=Lib.hid c5
     have HC6:=Lib.hid c6
     have HQ6:=Lib.hid q6
     have HST:Hid (∀W:World,Below wr.heap.size wr W→(zDE rk a=false∨zAq (hedgeTo rk k) a=hedgeTo rk k)→zGH w ρ G M (N+1) P Lk rk (k+1) W):=fun W hb hs=>zGH.still G1.out G2.out HI3.out G4.out HAK.out hs hb
     clear hak hak2 hq hkq hkm hm hvq hqn hkql hid hsn hhd g1 g2 g3 g4 e1 e2 e3 e4 q1 q5 HK c4 c5 c6 q6 hbA hblA
     go_upto_region 12 with fail
     try rw [hwA]
     clear hwA a0 a1 a2 a3 a4
     go_wp2_with fail
     refine HRA.out.mono ?_
     rintro e w2 ⟨rfl,hb2⟩
     have hB2:=HBA.out.trans (hb2.mono HBA.out.size)
     have HB2:=Lib.hid hB2
     have hbl2:=(hb2.block _ (zAL _ HBLA.out)).trans HBLA.out
     have b0:w2.cell? ⟨wr.heap.size,0,none⟩=some (vi id):=zAA hbl2 rfl
     have b3:w2.cell? ⟨wr.heap.size,3,none⟩=some (vi sn):=zAA hbl2 rfl
     have c4:=(hB2.cell (zAX HC4.out)).trans HC4.out
     have c5:=(hB2.cell (zAX HC5.out)).trans HC5.out
     have c6:=(hB2.cell (zAX HC6.out)).trans HC6.out
     have q6:=(hB2.cell (zAX HQ6.out)).trans HQ6.out
     have HBL2:=Lib.hid hbl2
     clear hb2 hB2 hbl2 HRA
     by_cases hg0:0 < hg
     ·have hgt:decide (hg > 0)=true:=decide_eq_true hg0
      by_cases hsl:hg≤nx - sn
      ·have hge2:decide (nx - sn≥hg)=true:=decide_eq_true hsl
       have HSL:Hid (zDE rk a=true):=show _=_ by rw [HE2.out,decide_eq_true hg0,decide_eq_true hsl];rfl
       cases hd with
       | true =>
         have HR1:Hid (zAq (hedgeTo rk k) a=hedgeTo rk k):=zHb (by rw [HID.out];exact HQ.out) (.inl HHD.out)
         go_wp2_with fail
         go_quiet (fail)
         go_wp2_with fail
         go_roundw
         case rel=>exact ⟨k+1,by go_num,by omega,HST.out _ (zAt HB2.out _) (.inr HR1.out)⟩
         case measure=>simp [intOf];omega
       | false =>
         have HWT:=Lib.hid (fun (W:World) (hb:Below wr.heap.size wr W)=>zIG (G1.out.grow hb) id (by have:=HM.out;have:=HNP.out;omega) (fun p hp=>by have:=HM.out.2.2.2.2.1 p hp;have:=HNP.out;omega))
         rw [zNe G3.out HQ.out] at HWT
         have HCT:=Lib.hid (fun W (hb:Below wr.heap.size wr W)=>zIC (G1.out.grow hb) id (by have:=HM.out;have:=HNP.out;omega))
         simp only [zNf] at HCT
         obtain ⟨qd,hqd⟩:∃x,q.queued=x:=⟨_,rfl⟩
         obtain ⟨ct,hct⟩:∃x,(rOf (hedgeTo rk k) id).length=x:=⟨_,rfl⟩
         rw [hqd] at HWT
         rw [hct] at HCT
         have HQD:=Lib.hid hqd
         have HCN:=Lib.hid hct
         clear hqd hct
         cases qd with
         | true =>
           have HRS:Hid (zDE rk a=false∨zAq (hedgeTo rk k) a=hedgeTo rk k):=.inr (zHb (by rw [HID.out];exact HQ.out) (.inr (.inl HQD.out)))
           go_wp2_with fail
           refine wp_region_held_drew (S:=(fun w'=>w'.cell? ⟨M,4,none⟩=some (vi hg)∧w'.cell? ⟨M,5,none⟩=some (vi nx)∧w'.cell? ⟨M,6,none⟩=some (.slice (some ⟨qb,qoff,none⟩) qn qc)∧w'.cell? ⟨qb,qoff+kq*7+6,none⟩=some (.bool false)∧w'.cell? ⟨wr.heap.size,0,none⟩=some (vi id)∧w'.cell? ⟨wr.heap.size,3,none⟩=some (vi sn))) (by kernel_rfl) ⟨c4,c5,c6,q6,b0,b3⟩ (fun hHeld=>?_)
           refine zAR (i:=0) (v:=?v0) rfl (by kernel_rfl) (fun _ _ _ h=>h) hHeld (.inl ⟨by rfl,?y0⟩) ?r0
           case y0=>(intro w' hS';obtain ⟨s1,s2,s3,s4,s5,s6⟩:=hS';go_simp;try with_reducible rfl)
           try simp only [Act.put,List.setIfInBounds_toArray,List.set_cons_zero,List.set_cons_succ]
           refine zAR (i:=1) (v:=?v1) rfl (by kernel_rfl) (fun _ _ _ h=>h) hHeld (.inl ⟨by rfl,?y1⟩) ?r1
           case y1=>(intro w' hS';obtain ⟨s1,s2,s3,s4,s5,s6⟩:=hS';go_simp;try with_reducible rfl)
           try simp only [Act.put,List.setIfInBounds_toArray,List.set_cons_zero,List.set_cons_succ]
           refine zAR (i:=2) (v:=?v2) rfl (by kernel_rfl) (fun _ _ _ h=>h) hHeld (.inl ⟨by rfl,?y2⟩) ?r2
           case y2=>(intro w' hS';obtain ⟨s1,s2,s3,s4,s5,s6⟩:=hS';go_simp;try with_reducible rfl)
           try simp only [Act.put,List.setIfInBounds_toArray,List.set_cons_zero,List.set_cons_succ]
           refine zAR (i:=3) (v:=?v3) rfl (by kernel_rfl) (fun _ _ _ h=>h) hHeld (.inl ⟨by rfl,?y3⟩) ?r3
           case y3=>(intro w' hS';obtain ⟨s1,s2,s3,s4,s5,s6⟩:=hS';go_simp;try with_reducible rfl)
           try simp only [Act.put,List.setIfInBounds_toArray,List.set_cons_zero,List.set_cons_succ]
           refine zAR (i:=4) (v:=?v4) rfl (by kernel_rfl) (fun _ _ _ h=>h) hHeld (.inl ⟨by rfl,?y4⟩) ?r4
           case y4=>(intro w' hS';obtain ⟨s1,s2,s3,s4,s5,s6⟩:=hS';go_simp;try with_reducible rfl)
           try simp only [Act.put,List.setIfInBounds_toArray,List.set_cons_zero,List.set_cons_succ]
           refine zAR (i:=5) (v:=?v5) rfl (by kernel_rfl) (fun _ _ _ h=>h) hHeld (.inl ⟨by rfl,?y5⟩) ?r5
           case y5=>(intro w' hS';obtain ⟨s1,s2,s3,s4,s5,s6⟩:=hS';go_simp;try with_reducible rfl)
           try simp only [Act.put,List.setIfInBounds_toArray,List.set_cons_zero,List.set_cons_succ]
           refine zAR (i:=6) (v:=?v6) rfl (by kernel_rfl) (fun _ _ _ h=>h) hHeld (.inl ⟨by rfl,?y6⟩) ?r6
           case y6=>(intro w' hS';obtain ⟨s1,s2,s3,s4,s5,s6⟩:=hS';go_simp;try with_reducible rfl)
           try simp only [Act.put,List.setIfInBounds_toArray,List.set_cons_zero,List.set_cons_succ]
           refine zAR (i:=7) (v:=?v7) rfl (by kernel_rfl) (fun _ _ _ h=>h) hHeld (.inl ⟨by rfl,?y7⟩) ?r7
           case y7=>(intro w' hS';obtain ⟨s1,s2,s3,s4,s5,s6⟩:=hS';go_simp;try with_reducible rfl)
           try simp only [Act.put,List.setIfInBounds_toArray,List.set_cons_zero,List.set_cons_succ]
           refine zAR (i:=8) (v:=?v8) rfl (by kernel_rfl) (fun _ _ _ h=>h) hHeld (.inl ⟨by rfl,?y8⟩) ?r8
           case y8=>(intro w' hS';obtain ⟨s1,s2,s3,s4,s5,s6⟩:=hS';go_simp;try with_reducible rfl)
           try simp only [Act.put,List.setIfInBounds_toArray,List.set_cons_zero,List.set_cons_succ]
           refine zAR (i:=9) (v:=?v9) rfl (by kernel_rfl) (fun _ _ _ h=>h) hHeld (.inl ⟨by rfl,?y9⟩) ?r9
           case y9=>(intro w' hS';obtain ⟨s1,s2,s3,s4,s5,s6⟩:=hS';go_simp;try with_reducible rfl)
           try simp only [Act.put,List.setIfInBounds_toArray,List.set_cons_zero,List.set_cons_succ]
           refine zAR (i:=10) (v:=?v10) rfl (by kernel_rfl) (fun _ _ _ h=>h) hHeld (.inl ⟨by rfl,?y10⟩) ?r10
           case y10=>(intro w' hS';obtain ⟨s1,s2,s3,s4,s5,s6⟩:=hS';go_simp;try with_reducible rfl)
           try simp only [Act.put,List.setIfInBounds_toArray,List.set_cons_zero,List.set_cons_succ]
           refine zAR (i:=11) (v:=?v11) rfl (by kernel_rfl) (fun _ _ _ h=>h) hHeld (.inl ⟨by rfl,?y11⟩) ?r11
           case y11=>(intro w' hS';obtain ⟨s1,s2,s3,s4,s5,s6⟩:=hS';go_simp;try with_reducible rfl)
           try simp only [Act.put,List.setIfInBounds_toArray,List.set_cons_zero,List.set_cons_succ]
           refine zAR (i:=12) (v:=?v12) rfl (by kernel_rfl) (fun _ _ _ h=>h) hHeld (.inl ⟨by rfl,?y12⟩) ?r12
           case y12=>(intro w' hS';obtain ⟨s1,s2,s3,s4,s5,s6⟩:=hS';go_simp;try with_reducible rfl)
           try simp only [Act.put,List.setIfInBounds_toArray,List.set_cons_zero,List.set_cons_succ]
           refine zAR (i:=13) (v:=?v13) rfl (by kernel_rfl) (fun _ _ _ h=>h) hHeld (.inl ⟨by rfl,?y13⟩) ?r13
           case y13=>(intro w' hS';obtain ⟨s1,s2,s3,s4,s5,s6⟩:=hS';go_simp;try with_reducible rfl)
           try simp only [Act.put,List.setIfInBounds_toArray,List.set_cons_zero,List.set_cons_succ]
           refine zAR (i:=14) (v:=?v14) rfl (by kernel_rfl) (fun _ _ _ h=>h) hHeld (.inl ⟨by rfl,?y14⟩) ?r14
           case y14=>(intro w' hS';obtain ⟨s1,s2,s3,s4,s5,s6⟩:=hS';go_simp;try with_reducible rfl)
           try simp only [Act.put,List.setIfInBounds_toArray,List.set_cons_zero,List.set_cons_succ]
           refine zAR (i:=15) (v:=?v15) rfl (by kernel_rfl) (fun _ _ _ h=>h) hHeld (.inl ⟨by rfl,?y15⟩) ?r15
           case y15=>(intro w' hS';obtain ⟨s1,s2,s3,s4,s5,s6⟩:=hS';go_simp;try with_reducible rfl)
           try simp only [Act.put,List.setIfInBounds_toArray,List.set_cons_zero,List.set_cons_succ]
           refine zAR (i:=16) (v:=?v16) rfl (by kernel_rfl) (fun _ _ _ h=>h) hHeld (.inl ⟨by rfl,?y16⟩) ?r16
           case y16=>(intro w' hS';obtain ⟨s1,s2,s3,s4,s5,s6⟩:=hS';go_simp;try with_reducible rfl)
           try simp only [Act.put,List.setIfInBounds_toArray,List.set_cons_zero,List.set_cons_succ]
           refine zAR (i:=17) (v:=?v17) rfl (by kernel_rfl) (fun _ _ _ h=>h) hHeld (.inl ⟨by rfl,?y17⟩) ?r17
           case y17=>(intro w' hS';obtain ⟨s1,s2,s3,s4,s5,s6⟩:=hS';go_simp;try with_reducible rfl)
           try simp only [Act.put,List.setIfInBounds_toArray,List.set_cons_zero,List.set_cons_succ]
           refine zAR (i:=18) (v:=?v18) rfl (by kernel_rfl) (fun _ _ _ h=>h) hHeld (.inl ⟨by rfl,?y18⟩) ?r18
           case y18=>(intro w' hS';obtain ⟨s1,s2,s3,s4,s5,s6⟩:=hS';go_simp;try with_reducible rfl)
           try simp only [Act.put,List.setIfInBounds_toArray,List.set_cons_zero,List.set_cons_succ]
           refine zAR (i:=19) (v:=?v19) rfl (by kernel_rfl) (fun _ _ _ h=>h) hHeld (.inl ⟨by rfl,?y19⟩) ?r19
           case y19=>(intro w' hS';obtain ⟨s1,s2,s3,s4,s5,s6⟩:=hS';go_simp;try with_reducible rfl)
           try simp only [Act.put,List.setIfInBounds_toArray,List.set_cons_zero,List.set_cons_succ]
           refine zAR (i:=20) (v:=?v20) rfl (by kernel_rfl) (fun _ _ _ h=>h) hHeld (.inl ⟨by rfl,?y20⟩) ?r20
           case y20=>(intro w' hS';obtain ⟨s1,s2,s3,s4,s5,s6⟩:=hS';go_simp;try with_reducible rfl)
           try simp only [Act.put,List.setIfInBounds_toArray,List.set_cons_zero,List.set_cons_succ]
           refine zAR (i:=21) (v:=?v21) rfl (by kernel_rfl) (fun _ _ _ h=>h) hHeld (.inl ⟨by rfl,?y21⟩) ?r21
           case y21=>(intro w' hS';obtain ⟨s1,s2,s3,s4,s5,s6⟩:=hS';go_simp;try with_reducible rfl)
           try simp only [Act.put,List.setIfInBounds_toArray,List.set_cons_zero,List.set_cons_succ]
           refine zAR (i:=22) (v:=?v22) rfl (by kernel_rfl) (fun _ _ _ h=>h) hHeld (.inl ⟨by rfl,?y22⟩) ?r22
           case y22=>(intro w' hS';obtain ⟨s1,s2,s3,s4,s5,s6⟩:=hS';go_simp;try with_reducible rfl)
           try simp only [Act.put,List.setIfInBounds_toArray,List.set_cons_zero,List.set_cons_succ]
           refine zAR (i:=23) (v:=?v23) rfl (by kernel_rfl) (fun _ _ _ h=>h) hHeld (.inl ⟨by rfl,?y23⟩) ?r23
           case y23=>(intro w' hS';obtain ⟨s1,s2,s3,s4,s5,s6⟩:=hS';go_simp;try with_reducible rfl)
           try simp only [Act.put,List.setIfInBounds_toArray,List.set_cons_zero,List.set_cons_succ]
           refine zAR (i:=24) (v:=?v24) rfl (by kernel_rfl) (fun _ _ _ h=>h) hHeld (.inl ⟨by rfl,?y24⟩) ?r24
           case y24=>(intro w' hS';obtain ⟨s1,s2,s3,s4,s5,s6⟩:=hS';go_simp;try with_reducible rfl)
           try simp only [Act.put,List.setIfInBounds_toArray,List.set_cons_zero,List.set_cons_succ]
           refine zAR (i:=25) (v:=?v25) rfl (by kernel_rfl) (fun _ _ _ h=>h) hHeld (.inl ⟨by rfl,?y25⟩) ?r25
           case y25=>(intro w' hS';obtain ⟨s1,s2,s3,s4,s5,s6⟩:=hS';go_simp;try with_reducible rfl)
           try simp only [Act.put,List.setIfInBounds_toArray,List.set_cons_zero,List.set_cons_succ]
           refine zAR (i:=26) (v:=?v26) rfl (by kernel_rfl) (fun _ _ _ h=>h) hHeld (.inl ⟨by rfl,?y26⟩) ?r26
           case y26=>(intro w' hS';obtain ⟨s1,s2,s3,s4,s5,s6⟩:=hS';go_simp;try with_reducible rfl)
           try simp only [Act.put,List.setIfInBounds_toArray,List.set_cons_zero,List.set_cons_succ]
           refine zAR (i:=27) (v:=?v27) rfl (by kernel_rfl) (fun _ _ _ h=>h) hHeld (.inl ⟨by rfl,?y27⟩) ?r27
           case y27=>(intro w' hS';obtain ⟨s1,s2,s3,s4,s5,s6⟩:=hS';go_simp;try with_reducible rfl)
           try simp only [Act.put,List.setIfInBounds_toArray,List.set_cons_zero,List.set_cons_succ]
           refine zAR (i:=28) (v:=?v28) rfl (by kernel_rfl) (fun _ _ _ h=>h) hHeld (.inl ⟨by rfl,?y28⟩) ?r28
           case y28=>(intro w' hS';obtain ⟨s1,s2,s3,s4,s5,s6⟩:=hS';go_simp;try with_reducible rfl)
           try simp only [Act.put,List.setIfInBounds_toArray,List.set_cons_zero,List.set_cons_succ]
           refine zAR (i:=29) (v:=?v29) rfl (by kernel_rfl) (fun _ _ _ h=>h) hHeld (.inl ⟨by rfl,?y29⟩) ?r29
           case y29=>(intro w' hS';obtain ⟨s1,s2,s3,s4,s5,s6⟩:=hS';go_simp;try with_reducible rfl)
           try simp only [Act.put,List.setIfInBounds_toArray,List.set_cons_zero,List.set_cons_succ]
           refine zAR (i:=30) (v:=?v30) rfl (by kernel_rfl) (fun _ _ _ h=>h) hHeld (.inl ⟨by rfl,?y30⟩) ?r30
           case y30=>(intro w' hS';obtain ⟨s1,s2,s3,s4,s5,s6⟩:=hS';go_simp;try with_reducible rfl)
           try simp only [Act.put,List.setIfInBounds_toArray,List.set_cons_zero,List.set_cons_succ]
           refine zAR (i:=31) (v:=?v31) rfl (by kernel_rfl) (fun _ _ _ h=>h) hHeld (.inl ⟨by rfl,?y31⟩) ?r31
           case y31=>(intro w' hS';obtain ⟨s1,s2,s3,s4,s5,s6⟩:=hS';go_simp;try with_reducible rfl)
           try simp only [Act.put,List.setIfInBounds_toArray,List.set_cons_zero,List.set_cons_succ]
           refine zAR (i:=32) (v:=?v32) rfl (by kernel_rfl) (fun _ _ _ h=>h) hHeld (.inl ⟨by rfl,?y32⟩) ?r32
           case y32=>(intro w' hS';obtain ⟨s1,s2,s3,s4,s5,s6⟩:=hS';go_simp;try with_reducible rfl)
           try simp only [Act.put,List.setIfInBounds_toArray,List.set_cons_zero,List.set_cons_succ]
           refine zAR (i:=33) (v:=?v33) rfl (by kernel_rfl) (fun _ _ _ h=>h) hHeld (.inl ⟨by rfl,?y33⟩) ?r33
           case y33=>(intro w' hS';obtain ⟨s1,s2,s3,s4,s5,s6⟩:=hS';go_simp;try with_reducible rfl)
           try simp only [Act.put,List.setIfInBounds_toArray,List.set_cons_zero,List.set_cons_succ]
           refine zAR (i:=34) (v:=?v34) rfl (by kernel_rfl) (fun _ _ _ h=>h) hHeld (.inl ⟨by rfl,?y34⟩) ?r34
           case y34=>(intro w' hS';obtain ⟨s1,s2,s3,s4,s5,s6⟩:=hS';go_simp;try with_reducible rfl)
           try simp only [Act.put,List.setIfInBounds_toArray,List.set_cons_zero,List.set_cons_succ]
           refine zAR (i:=35) (v:=?v35) rfl (by kernel_rfl) (fun _ _ _ h=>h) hHeld (.inl ⟨by rfl,?y35⟩) ?r35
           case y35=>(intro w' hS';obtain ⟨s1,s2,s3,s4,s5,s6⟩:=hS';go_simp;try with_reducible rfl)
           try simp only [Act.put,List.setIfInBounds_toArray,List.set_cons_zero,List.set_cons_succ]
           refine zVB (i:=36) rfl (by kernel_rfl) (by rfl) (fun K hK=>?_)
           go_simp
           go_at_call 123
           refine (HWT.out _ HB2.out.drew).mono ?_
           rintro e w4 ⟨rfl,hb⟩
           have HB4:=Lib.hid (zBI hb)
           replace hHeld:=And.intro (zAb hb c4) (And.intro (zAb hb c5) (And.intro (zAb hb c6) (And.intro (zAb hb q6) (And.intro (zAb hb b0) (zAb hb b3)))))
           clear hb
           refine hK _ _ hHeld ?_
           try simp only [Act.put,List.setIfInBounds_toArray,List.set_cons_zero,List.set_cons_succ]
           refine zAR (i:=37) (v:=?v37) rfl (by kernel_rfl) (fun _ _ _ h=>h) hHeld (.inl ⟨by rfl,?y37⟩) ?r37
           case y37=>(intro w' hS';obtain ⟨s1,s2,s3,s4,s5,s6⟩:=hS';go_simp;try with_reducible rfl)
           try simp only [Act.put,List.setIfInBounds_toArray,List.set_cons_zero,List.set_cons_succ]
           refine zAR (i:=38) (v:=?v38) rfl (by kernel_rfl) (fun _ _ _ h=>h) hHeld (.inl ⟨by rfl,?y38⟩) ?r38
           case y38=>(intro w' hS';obtain ⟨s1,s2,s3,s4,s5,s6⟩:=hS';go_simp;try with_reducible rfl)
           try simp only [Act.put,List.setIfInBounds_toArray,List.set_cons_zero,List.set_cons_succ]
           refine zAR (i:=39) (v:=?v39) rfl (by kernel_rfl) (fun _ _ _ h=>h) hHeld (.inl ⟨by rfl,?y39⟩) ?r39
           case y39=>(intro w' hS';obtain ⟨s1,s2,s3,s4,s5,s6⟩:=hS';go_simp;try with_reducible rfl)
           try simp only [Act.put,List.setIfInBounds_toArray,List.set_cons_zero,List.set_cons_succ]
           refine zAR (i:=40) (v:=undef) rfl (by kernel_rfl) (fun _ _ _ h=>h) hHeld (.inr ⟨by rfl,rfl⟩) ?_
           try simp only [Act.put,List.setIfInBounds_toArray,List.set_cons_zero,List.set_cons_succ]
           refine zAR (i:=41) (v:=undef) rfl (by kernel_rfl) (fun _ _ _ h=>h) hHeld (.inr ⟨by rfl,rfl⟩) ?_
           try simp only [Act.put,List.setIfInBounds_toArray,List.set_cons_zero,List.set_cons_succ]
           refine zAR (i:=42) (v:=undef) rfl (by kernel_rfl) (fun _ _ _ h=>h) hHeld (.inr ⟨by rfl,rfl⟩) ?_
           try simp only [Act.put,List.setIfInBounds_toArray,List.set_cons_zero,List.set_cons_succ]
           refine zAR (i:=43) (v:=undef) rfl (by kernel_rfl) (fun _ _ _ h=>h) hHeld (.inr ⟨by rfl,rfl⟩) ?_
           try simp only [Act.put,List.setIfInBounds_toArray,List.set_cons_zero,List.set_cons_succ]
           refine zAR (i:=44) (v:=undef) rfl (by kernel_rfl) (fun _ _ _ h=>h) hHeld (.inr ⟨by rfl,rfl⟩) ?_
           try simp only [Act.put,List.setIfInBounds_toArray,List.set_cons_zero,List.set_cons_succ]
           refine zAR (i:=45) (v:=?v45) rfl (by kernel_rfl) (fun _ _ _ h=>h) hHeld (.inl ⟨by rfl,?y45⟩) ?r45
           case y45=>(intro w' hS';obtain ⟨s1,s2,s3,s4,s5,s6⟩:=hS';go_simp;try with_reducible rfl)
           try simp only [Act.put,List.setIfInBounds_toArray,List.set_cons_zero,List.set_cons_succ]
           refine wpAnyH_done (by kernel_rfl) ?_ _
           have HBF:=Lib.hid (HB2.out.trans (HB4.out.mono HB2.out.size))
           go_wp2_with fail
           go_roundw
           case rel=>exact ⟨k+1,by go_num,by omega,HST.out _ HBF.out HRS.out⟩
           case measure=>simp [intOf];omega
         | false =>
           by_cases hc1:ct=1
           ·have hcq:((ct:Int)==1)=true:=by rw [hc1];rfl
            have hcq2:decide ((ct:Int)=1)=true:=decide_eq_true (by omega)
            have HR1:Hid (hedgeTo rk (k+1)=zAz {hedgeTo rk k with reqs:=aset (hedgeTo rk k).reqs id {q with hedged:=true}} id false):=show _=_ by
             rw [zIA HAK.out,HSL.out,if_pos rfl,zVE (a:=a) (q:=q) (by rw [HID.out];exact HQ.out) HHD.out HQD.out (by rw [HID.out];exact HCN.out.trans hc1),HID.out]
            go_wp2_with fail
            apply zEA (S:=fun W=>Below w2.heap.size w2 W)
            ·intro R hR
             go_region_held3 (fun w'=>w'.cell? ⟨M,4,none⟩=some (vi hg)∧w'.cell? ⟨M,5,none⟩=some (vi nx)∧w'.cell? ⟨M,6,none⟩=some (.slice (some ⟨qb,qoff,none⟩) qn qc)∧w'.cell? ⟨qb,qoff+kq*7+6,none⟩=some (.bool false)∧w'.cell? ⟨wr.heap.size,0,none⟩=some (vi id)∧w'.cell? ⟨wr.heap.size,3,none⟩=some (vi sn)) (go_keep) (first | (go_at_call 123;refine (HWT.out _ HB2.out.drew).mono ?_;rintro e w3 ⟨rfl,hb⟩;have HB3:=Lib.hid (zBI hb);have c4b:=zAb hb c4;have c5b:=zAb hb c5;have c6b:=zAb hb c6;have q6b:=zAb hb q6;have b0b:=zAb hb b0;have b3b:=zAb hb b3;clear hb) | (go_at_call 124;refine (HCT.out _ (HB2.out.trans (HB3.out.mono HB2.out.size))).mono ?_;rintro e w4 ⟨rfl,hb⟩;have HB4:=Lib.hid (HB3.out.trans (hb.mono HB3.out.size));have c4d:=(hb.cell (zAX c4b)).trans c4b;have c5d:=(hb.cell (zAX c5b)).trans c5b;have c6d:=(hb.cell (zAX c6b)).trans c6b;have q6d:=(hb.cell (zAX q6b)).trans q6b;have b0d:=(hb.cell (zAX b0b)).trans b0b;have b3d:=(hb.cell (zAX b3b)).trans b3b;clear hb))
             all_goals exact hR.out _ HB4.out
            intro w4 hb4
            have HBF:=Lib.hid (HB2.out.trans (hb4.mono HB2.out.size))
            have h4:=G1.out.grow HBF.out
            obtain ⟨ρ',p1,p2,fz⟩:=zPu h4 HVQ.out HKM.out (j:=6) (by decide) (v:=.bool true) (x':={zAl (id,q) with hedged:=true}) rfl
            have hI5:=G3.out.hedged HQ.out
            have e5:=zNP G3.out HKQ.out
            rw [←e5] at p1
            obtain ⟨r5,hr5⟩:∃x:Raw,{hedgeTo rk k with reqs:=aset (hedgeTo rk k).reqs id {q with hedged:=true}}=x:=⟨_,rfl⟩
            have hq5:aget r5.reqs id=some {q with hedged:=true}:=by
             rw [←hr5]
             show aget (aset (hedgeTo rk k).reqs id _) id=_
             rw [zAS,if_pos rfl]
            have hkql:=(List.getElem?_eq_some_iff.1 HKM.out).1
            have hk5':(refOf r5).reqs[kq]?=some {zAl (id,q) with hedged:=true}:=by
             rw [←hr5,e5]
             show ((refOf (hedgeTo rk k)).reqs.set kq _)[kq]?=_
             rw [List.getElem?_set,if_pos rfl,if_pos hkql]
            rw [hr5] at p1 hI5 HR1
            have hm5:=hI5.mok
            have HWA:=Lib.hid (zEh p1 false (kq:=kq) (q:={zAl (id,q) with hedged:=true}) hm5.1 hk5' (by have:=HNP.out;omega) (by have:=HNP.out;omega) (fun p hp=>by have:=hm5.2.2.2.2.1 p hp;have:=HNP.out;omega))
            have HEQ:Hid (refOf (zAz r5 id false)=mWait (refOf r5) q.tenant id false):=zEc hI5 hq5 false
            have HS5:Hid (Step ρ ρ' w (w4.setCell ⟨qb,qoff+kq*7+6,none⟩ (.bool true))):=(G2.out.trans (Step.still (Fr.of_below HBF.out))).trans p2
            have q6w:=(HBF.out.cell (zAX HQ6.out)).trans HQ6.out
            have c6w:=(HBF.out.cell (zAX HC6.out)).trans HC6.out
            have hqbl:qb < wr.heap.size:=zAX HQ6.out
            have hbl4:=(hb4.block _ (zAL _ HBL2.out)).trans HBL2.out
            have hbw:(w4.setCell ⟨qb,qoff+kq*7+6,none⟩ (.bool true)).heap[wr.heap.size]?=some (.cells #[vi id,vi a.att,vi a.conn,vi sn,vi a.till] 186 (0,0)):=(zAB w4 (fun (e:wr.heap.size=qb)=>by omega)).trans hbl4
            have b0w:(w4.setCell ⟨qb,qoff+kq*7+6,none⟩ (.bool true)).cell? ⟨wr.heap.size,0,none⟩=some (vi id):=zAA hbw rfl
            clear hb4 h4 p1 p2 hI5 e5 hr5 hq5 hk5' hm5 hbl4 hbw c4 c5 c6 q6 b0 b3 HWT HCT
            go_wp2_with fail
            refine HWA.out.mono ?_
            rintro e w6 ⟨rfl,hst6⟩
            have HFN:Hid (zGH w ρ G M (N+1) P Lk rk (k+1) w6):=by
             obtain ⟨ρ6,L6,z1,z2,z3⟩:=hst6.own
             refine ⟨ρ6,L6,?_,HS5.out.trans z2,HI3.out.hedgeTo _,z3.trans G4.out⟩
             rw [HR1.out,HEQ.out]
             exact z1
            clear hst6
            go_wp2_with fail
            go_roundw
            case rel=>exact ⟨k+1,by go_num,by omega,HFN.out⟩
            case measure=>simp [intOf];omega
           ·have hcq:((ct:Int)==1)=false:=beq_eq_false_iff_ne.2 (by omega)
            have hcq2:decide ((ct:Int)=1)=false:=decide_eq_false (by omega)
            have HRS:Hid (zDE rk a=false∨zAq (hedgeTo rk k) a=hedgeTo rk k):=.inr (zHb (by rw [HID.out];exact HQ.out) (.inr (.inr (by rw [HID.out,HCN.out];exact hc1))))
            go_wp2_with fail
            apply zEA (S:=fun W=>Below w2.heap.size w2 W)
            ·intro R hR
             go_region_held3 (fun w'=>w'.cell? ⟨M,4,none⟩=some (vi hg)∧w'.cell? ⟨M,5,none⟩=some (vi nx)∧w'.cell? ⟨M,6,none⟩=some (.slice (some ⟨qb,qoff,none⟩) qn qc)∧w'.cell? ⟨qb,qoff+kq*7+6,none⟩=some (.bool false)∧w'.cell? ⟨wr.heap.size,0,none⟩=some (vi id)∧w'.cell? ⟨wr.heap.size,3,none⟩=some (vi sn)) (go_keep) (first | (go_at_call 123;refine (HWT.out _ HB2.out.drew).mono ?_;rintro e w3 ⟨rfl,hb⟩;have HB3:=Lib.hid (zBI hb);have c4b:=zAb hb c4;have c5b:=zAb hb c5;have c6b:=zAb hb c6;have q6b:=zAb hb q6;have b0b:=zAb hb b0;have b3b:=zAb hb b3;clear hb) | (go_at_call 124;refine (HCT.out _ (HB2.out.trans (HB3.out.mono HB2.out.size))).mono ?_;rintro e w4 ⟨rfl,hb⟩;have HB4:=Lib.hid (HB3.out.trans (hb.mono HB3.out.size));have c4d:=(hb.cell (zAX c4b)).trans c4b;have c5d:=(hb.cell (zAX c5b)).trans c5b;have c6d:=(hb.cell (zAX c6b)).trans c6b;have q6d:=(hb.cell (zAX q6b)).trans q6b;have b0d:=(hb.cell (zAX b0b)).trans b0b;have b3d:=(hb.cell (zAX b3b)).trans b3b;clear hb))
             all_goals exact hR.out _ HB4.out
            intro w4 hb4
            have HBF:=Lib.hid (HB2.out.trans (hb4.mono HB2.out.size))
            clear hb4
            go_wp2_with fail
            go_roundw
            case rel=>exact ⟨k+1,by go_num,by omega,HST.out _ HBF.out HRS.out⟩
            case measure=>simp [intOf];omega
      ·have hge2:decide (nx - sn≥hg)=false:=decide_eq_false hsl
       have HRS:Hid (zDE rk a=false∨zAq (hedgeTo rk k) a=hedgeTo rk k):=.inl (by rw [HE2.out,decide_eq_false hsl,Bool.and_false])
       go_wp2_with fail
       go_quiet (fail)
       have HBF:=Lib.hid (zAt HB2.out nq)
       go_wp2_with fail
       go_roundw
       case rel=>exact ⟨k+1,by go_num,by omega,HST.out _ HBF.out HRS.out⟩
       case measure=>simp [intOf];omega
     ·have hgt:decide (hg > 0)=false:=decide_eq_false hg0
      have HRS:Hid (zDE rk a=false∨zAq (hedgeTo rk k) a=hedgeTo rk k):=.inl (by rw [HE2.out,decide_eq_false hg0,Bool.false_and])
      go_wp2_with fail
      go_quiet (fail)
      have HBF:=Lib.hid (zAt HB2.out nq)
      go_wp2_with fail
      go_roundw
      case rel=>exact ⟨k+1,by go_num,by omega,HST.out _ HBF.out HRS.out⟩
      case measure=>simp [intOf];omega
    ·obtain rfl:k=n:=by omega
     have hlt:decide ((k:Int) < (k:Int))=false:=by simp
     have hall:hedgeTo rk k=zCS rk:=by rw [←HN.out];exact zOi rk
     rw [hall] at g1 g3
     have HSV:=Lib.hid (zIF g3 g1 (by have:=HNP.out;omega) (by have:=HNP.out;omega))
     have HG2:=Lib.hid g2
     clear g1 g2 g3 g4 e1 e2 e3 e4 hall HK
     go_wp2_with fail
     refine HSV.out.mono ?_
     rintro e w6 ⟨rfl,hst6⟩
     have HTD:=Lib.hid (MSt.told (MSt.after HG2.out hst6))
     clear hst6
     go_wp2_with fail
     refine HTD.out.mono ?_
     rintro e w7 ⟨v7,ρ7,L7,rfl,hp⟩
     have HP:=Lib.hid hp
     clear hp
     go_wp2_with fail
     show F (.returned v7) w7
     rw [←HF.out,HTR.out]
     exact ⟨v7,ρ7,L7,rfl,HP.out⟩
  ·have hge:decide ((i:Int)≥0)=true:=decide_eq_true (by omega)
   obtain ⟨a,hai,hdu⟩:=zVC hk3 hbest
   have hix:(refOf rk).atts[i]?=some (zBE a):=zEi hai
   obtain ⟨aa,ac,hav,harows⟩:=hk1.attsIn
   have c7:wo.cell? ⟨M,7,none⟩=some Lk.atts:=hk1.cell (k:=7) rfl
   obtain ⟨n,hnn⟩:∃n,(refOf rk).atts.length=n:=⟨_,rfl⟩
   rw [hav,hnn] at c7
   obtain ⟨ab,aoff,rfl,i0,i1,i2,i3,i4⟩:=zBd harows hix
   have hil:=(List.getElem?_eq_some_iff.1 hix).1
   have hi0:(0:Int)≤(i:Int):=by omega
   have hi1:(i:Int) < (n:Int):=by omega
   have hmem:=List.mem_of_getElem? hai
   have hak:=zVm hk3 hmem
   obtain ⟨q,hq,_⟩:=hk3.a.areq a hmem
   have hidq:=hk3.n.req a.id q hq
   obtain ⟨id,hid⟩:∃x,a.id=x:=⟨_,rfl⟩
   obtain ⟨nn,hnna⟩:∃x,a.att=x:=⟨_,rfl⟩
   obtain ⟨cc,hcc⟩:∃x,a.conn=x:=⟨_,rfl⟩
   have a0:wo.cell? ⟨ab,aoff+i*5,none⟩=some (vi id):=by rw [←hid];exact i0
   have a1:wo.cell? ⟨ab,aoff+i*5+1,none⟩=some (vi nn):=by rw [←hnna];exact i1
   have a2:wo.cell? ⟨ab,aoff+i*5+2,none⟩=some (vi cc):=by rw [←hcc];exact i2
   have a3:wo.cell? ⟨ab,aoff+i*5+3,none⟩=some (vi a.since):=i3
   have a4:wo.cell? ⟨ab,aoff+i*5+4,none⟩=some (vi a.till):=i4
   clear i0 i1 i2 i3 i4
   rw [hid] at hidq
   rw [hnna] at hak
   have hidr:0≤id∧id < 1000000000000:=by omega
   have hnnr:0≤nn∧nn < 1000000000000:=by have:=HNP.out;omega
   have hmok:=hk3.mok
   obtain ⟨wA,hwA⟩:∃W,wo.alloc (.cells #[.int .i64 id,.int .i64 nn,.int .i64 cc,.int .i64 a.since,.int .i64 a.till] 186)=W:=⟨_,rfl⟩
   have hbA:Below wo.heap.size wo wA:=by rw [←hwA];exact (Below.refl _ wo).alloc (Nat.le_refl _) _
   have hblA:wA.heap[wo.heap.size]?=some (.cells #[vi id,vi nn,vi cc,vi a.since,vi a.till] 186 (0,0)):=by rw [←hwA];exact zAD wo
   have b0:wA.cell? ⟨wo.heap.size,0,none⟩=some (vi id):=zAA hblA rfl
   have b1:wA.cell? ⟨wo.heap.size,1,none⟩=some (vi nn):=zAA hblA rfl
   have b2:wA.cell? ⟨wo.heap.size,2,none⟩=some (vi cc):=zAA hblA rfl
   have HNO:Hid (¬Of ρk wo.heap.size):=fun hb=>absurd (hk1.dom _ hb).2 (Nat.lt_irrefl _)
   have HS:=Lib.hid (fun W (hW:MRep W ρk G M Lk (refOf rk))=>zEg hW cc (words [wStop,decI id,decI nn]) (zPn _ _) (by have:=HNP.out;omega))
   have hza:=zCh id
   have hzb:=zCh nn
   obtain ⟨d1,e1⟩:∃d1,(⟨#[115,116,111,112,32]⟩:ByteArray)++bs (decI id)=d1:=⟨_,rfl⟩
   obtain ⟨d2,e2⟩:∃d2,d1++(⟨#[32]⟩:ByteArray)=d2:=⟨_,rfl⟩
   obtain ⟨d3,e3⟩:∃d3,d2++bs (decI nn)=d3:=⟨_,rfl⟩
   have hs1:d1.size=5+(bs (decI id)).size:=by rw [←e1,ByteArray.size_append];rfl
   have hs2:d2.size=d1.size+1:=by rw [←e2,ByteArray.size_append];rfl
   have hstr:d3=bs (words [wStop,decI id,decI nn]):=by rw [←e3,←e2,←e1];exact zPm rfl rfl
   have z1:¬9223372036854775807 < 5+(bs (decI id)).size:=by omega
   have z2:¬9223372036854775807 < d1.size+1:=by omega
   have z3:¬9223372036854775807 < d2.size+(bs (decI nn)).size:=by omega
   rw [←hstr] at HS
   have HK1:=Lib.hid hk1
   have HK2:=Lib.hid hk2
   have HK3:=Lib.hid hk3
   have HK4:=Lib.hid hk4
   have HK5:=Lib.hid hk5
   have HIX:=Lib.hid hix
   have HAI:=Lib.hid hai
   have HDU2:=Lib.hid hdu
   have HQ:=Lib.hid hq
   have HID:=Lib.hid hid
   have HCC:=Lib.hid hcc
   have HNA:=Lib.hid hnna
   have HBA:=Lib.hid hbA
   have HBLA:=Lib.hid hblA
   have HMK:=Lib.hid hmok
   clear hstr hs1 hs2 hk1 hk2 hk3 hk4 hk5 hix hai hdu hbest HR hid hcc hnna hza hzb hmok harows hav hnn hil hak hq hidq hmem hbA hblA
   go_upto_region 6 with fail
   try rw [hwA]
   clear hwA a0 a1 a2 a3 a4 c7
   apply zEA (S:=fun W=>MStO wA ρk G M Lk (mSay (refOf rk) cc (words [wStop,decI id,decI nn])) W)
   ·intro R hR
    go_region_held3 (fun w'=>w'.cell? ⟨wo.heap.size,0,none⟩=some (vi id)∧w'.cell? ⟨wo.heap.size,1,none⟩=some (vi nn)∧w'.cell? ⟨wo.heap.size,2,none⟩=some (vi cc)) (go_keep) (first
     | (go_at_call 118;refine (HS.out _ (HK1.out.grow (HBA.out.trans (HB.out.mono HBA.out.size)))).mono ?_;rintro e wc ⟨rfl,hst⟩;have hbx:=zTe hst ((HB.out.block _ (zAL _ HBLA.out)).trans HBLA.out) HNO.out;have b0c:=zAA (off:=0) hbx rfl;have b1c:=zAA (off:=1) hbx rfl;have b2c:=zAA (off:=2) hbx rfl;have HST:=Lib.hid (zQE hst HB.out);clear hst hbx)
     | (go_at_call 119;refine (HFG.out _ (by first | exact hidr | exact hnnr) _).mono ?_;rintro e wa ⟨rfl,hb⟩;have HB:Hid (Below wA.heap.size wA wa):=(by first | exact Below.trans HB.out (hb.mono HB.out.size) | exact zBI hb);have b0b:=(HB.out.cell (zAX b0)).trans b0;have b1b:=(HB.out.cell (zAX b1)).trans b1;have b2b:=(HB.out.cell (zAX b2)).trans b2;clear hb))
    all_goals exact hR.out _ HST.out
   intro w2 hst2
   obtain ⟨ρ2,v2,q1,q2⟩:=hst2
   obtain ⟨hbx2,hno2⟩:=zDt q2 HBLA.out HNO.out
   have hI2:=HK3.out.say cc [wStop,decI id,decI nn]
   have hm2:=hI2.mok
   have HEN:=Lib.hid (zFe (show MRep w2 ρ2 G M _ (refOf (rSay rk cc [wStop,decI id,decI nn])) from q1) (i:=i) (x:=zBE a) HIX.out hm2.2.1 (by
    show (rk.conns.map mcnOf).length≤_
    rw [List.length_map,HK5.out];omega) (by have:=HNP.out;omega) (by have:=HNP.out;omega))
   have hstp:mEnd (refOf (rSay rk cc [wStop,decI id,decI nn])) i (zBE a).conn=refOf (rStop rk a):=by
    have h1:=zGz hI2 (i:=i) (a:=a) HAI.out
    unfold rStop
    rw [HCC.out,HNA.out,HID.out]
    rw [HCC.out] at h1
    exact (congrArg (mEnd _ i) HCC.out).trans h1
   rw [hstp] at HEN
   have HI3:=Lib.hid ((HK3.out.stop (List.mem_of_getElem? HAI.out)).mono (Nat.le_refl _) (Nat.sub_le P 1))
   have HQ2:=Lib.hid q2
   have HBX2:=Lib.hid hbx2
   have HNO2:=Lib.hid hno2
   clear q1 q2 hI2 hm2 hstp hbx2 hno2 b0 b1 b2 e1 e2 e3 z1 z2 z3
   go_wp2_with fail
   refine HEN.out.mono ?_
   rintro e w3 ⟨rfl,hst3⟩
   obtain ⟨ρ3,L3,g1,g2⟩:=hst3
   have hbx3:=(zDt g2 HBX2.out HNO2.out).1
   have b0:w3.cell? ⟨wo.heap.size,0,none⟩=some (vi id):=zAA hbx3 rfl
   have HAG:=Lib.hid (zIH HI3.out g1 (id:=id) (q:=q) (by rw [zFL,←HID.out];exact HQ.out) true (by have:=HNP.out;omega) (by have:=HNP.out;omega) (by rw [zDd,HK5.out];omega))
   have HG2:=Lib.hid g2
   clear g1 g2 hbx3 HEN
   go_wp2_with fail
   refine HAG.out.mono ?_
   rintro e w4 ⟨rfl,hst4⟩
   obtain ⟨ρ4,L4,p1,p2⟩:=hst4
   have p1:MRep w4 ρ4 G M L4 (refOf (zAw (rStop rk a) a.id true)):=by rw [HID.out];exact p1
   have HST4:Hid (Step ρk ρ4 wo w4):=(((Step.still (Fr.of_below HBA.out)).trans HQ2.out).trans HG2.out).trans p2
   have HD4:=Lib.hid (HDU.out _ _ _ _ (HK3.out.due1 (zDj HDU2.out)) p1)
   have HP1:=Lib.hid p1
   clear p1 p2 HAG b0
   go_wp2_with fail
   refine HD4.out.mono ?_
   rintro e w5 ⟨v5,rfl,hb5,hB5⟩
   have HBE:=Lib.hid hb5
   have HB5:=Lib.hid hB5
   clear hb5 hB5
   go_wp2_with fail
   go_roundw
   case rel=>exact ⟨v5,rfl,_,zKe.next HK2.out HK3.out HK4.out HK5.out HDU2.out (HP1.out.grow HB5.out) (HST4.out.trans (Step.still (Fr.of_below HB5.out))),HBE.out⟩
   case measure =>
    have h1:=zIc HK3.out (zDj HDU2.out)
    rw [zGr (HP1.out.grow HB5.out),zGr HK1.out]
    show ((zAw (rStop rk a) a.id true).atts.map zBE).length < (rk.atts.map zBE).length
    rw [List.length_map,List.length_map]
    omega
end
end Go.Proofs.YtaejfobbogahmaaGreatDoor
