/-
  RefT MTick Dead MTick2: texts of their own, joined.
-/
import Derived.Test.YtaejfobbogahmaaGreatDoorMkMAgain
import Derived.Test.YtaejfobbogahmaaGreatDoorMkTick
set_option maxRecDepth 100000
set_option maxHeartbeats 16000000
set_option linter.all false
namespace Go.Proofs.YtaejfobbogahmaaGreatDoor
open Go
def Best (l:List MAtt) (now:Int) (k:Nat) (v:Int):Prop:=
 (v = -1∧∀(j:Nat) b,j < k→l[j]?=some b→now < b.till) ∨
 ∃(i:Nat) (a:MAtt),v=(i:Int)∧i < k∧l[i]?=some a∧a.till≤now∧(∀(j:Nat) b,j < i→l[j]?=some b→a.till < b.till)∧(∀(j:Nat) b,i < j→j < k→l[j]?=some b→a.till≤b.till)
theorem Best.start (l:List MAtt) (now:Int):Best l now 0 (-1):=.inl ⟨rfl,fun j b hj=>by omega⟩
theorem Best.skip {l:List MAtt} {now:Int} {k:Nat} {v:Int} (h:Best l now k v) {b:MAtt} (hb:l[k]?=some b) (hn:now < b.till∨∃(i:Nat) (a:MAtt),v=(i:Int)∧l[i]?=some a∧a.till≤b.till):Best l now (k+1) v:=by
 rcases h with ⟨rfl,h⟩ | ⟨i,a,rfl,hi,ha,h1,h2,h3⟩
 ·left
  refine ⟨rfl,fun j c hj hc=>?_⟩
  by_cases e:j=k
  ·subst e
   rw [hb] at hc;cases hc
   rcases hn with h4 | ⟨i,a,h5,_⟩
   ·exact h4
   ·omega
  ·exact h j c (by omega) hc
 ·right
  refine ⟨i,a,rfl,by omega,ha,h1,h2,fun j c hij hj hc=>?_⟩
  by_cases e:j=k
  ·subst e
   rw [hb] at hc;cases hc
   rcases hn with h4 | ⟨i',a',h5,h6,h7⟩
   ·omega
   ·have:i'=i:=by omega
    subst this
    rw [ha] at h6;cases h6
    exact h7
  ·exact h3 j c hij (by omega) hc
theorem Best.take {l:List MAtt} {now:Int} {k:Nat} {v:Int} (h:Best l now k v) {b:MAtt} (hb:l[k]?=some b) (hn:b.till≤now) (hl:∀(i:Nat) (a:MAtt),v=(i:Int)→l[i]?=some a→b.till < a.till):Best l now (k+1) (k:Int):=by
 right
 refine ⟨k,b,rfl,by omega,hb,hn,fun j c hj hc=>?_,fun j c h1 h2=>by omega⟩
 rcases h with ⟨rfl,h⟩ | ⟨i,a,rfl,hi,ha,h1,h2,h3⟩
 ·have:=h j c hj hc;omega
 ·have h4:=hl i a rfl ha
  rcases Nat.lt_trichotomy j i with h5 | h5 | h5
  ·have:=h2 j c h5 hc;omega
  ·subst h5;rw [ha] at hc;cases hc;exact h4
  ·have:=h3 j c h5 hj hc;omega
theorem zNz:∀{l:List Att} {i:Nat} {a:Att},l.Pairwise (fun a b=>a.seq < b.seq)→l[i]?=some a→(∀(j:Nat) b,j < i→l[j]?=some b→a.till < b.till)→(∀(j:Nat) b,i < j→l[j]?=some b→a.till≤b.till)→yX l=some a
 | [],_,_,_,h,_,_=>by simp at h
 | x::l,0,a,hp,h,_,h2=>by
   simp at h;subst h
   rw [List.pairwise_cons] at hp
   unfold yX
   cases hl:yX l with
   | none=>rfl
   | some b =>
     simp only []
     have hb:=zFK hl
     obtain ⟨j,hj,e⟩:=List.getElem_of_mem hb
     have h3:=h2 (j+1) b (by omega) (by rw [List.getElem?_cons_succ,List.getElem?_eq_getElem hj,e])
     have h4:=hp.1 b hb
     rw [if_neg]
     unfold yI
     simp
     omega
 | x::l,i+1,a,hp,h,h1,h2=>by
   rw [List.pairwise_cons] at hp
   have ih:=zNz hp.2 (by simpa using h) (fun j b hj hb=>h1 (j+1) b (by omega) (by simpa using hb)) (fun j b hj hb=>h2 (j+1) b (by omega) (by simpa using hb))
   have h3:=h1 0 x (by omega) rfl
   unfold yX
   rw [ih]
   simp only []
   rw [if_pos]
   unfold yI
   simp [h3]
theorem zWf {N P:Nat} {r:Raw} (hI:Inv N P r) {i:Nat} (h:Best (zC r).atts r.now (zC r).atts.length (i:Int)):∃a,r.atts[i]?=some a∧rDue r=some a:=by
 rcases h with ⟨h,_⟩ | ⟨j,x,h0,hi,ha,h1,h2,h3⟩
 ·omega
 ·have:j=i:=by omega
  subst this
  obtain ⟨a,hai,rfl⟩:=zDp ha
  refine ⟨a,hai,?_⟩
  have hl:=zNz hI.a.apw hai (fun k b hk hb=>h2 k (zV b) hk (zCT hb)) (fun k b hk hb=>h3 k (zV b) hk (by have:=(List.getElem?_eq_some_iff.1 hb).1;show k < (r.atts.map zV).length;rw [List.length_map];exact this) (zCT hb))
  unfold rDue
  rw [hl]
  simp only []
  rw [if_pos (show a.till≤r.now from h1)]
theorem zWg {r:Raw} (h:Best (zC r).atts r.now (zC r).atts.length (-1)):rDue r=none:=by
 rcases h with ⟨_,h⟩ | ⟨j,x,h0,_⟩
 ·unfold rDue
  cases hl:yX r.atts with
  | none=>rfl
  | some a =>
    simp only []
    have hm:=zFK hl
    obtain ⟨j,hj,e⟩:=List.getElem_of_mem hm
    have:=h j (zV a) (by show j < (r.atts.map zV).length;rw [List.length_map];exact hj) (zCT (by rw [List.getElem?_eq_getElem hj,e]))
    rw [if_neg]
    have:r.now < a.till:=this
    omega
 ·omega
def zAa (r:Raw) (a:Att):Bool:=decide (0 < r.cfg.hedge)&&decide (r.cfg.hedge≤r.now - a.since)
def hedgeTo (r:Raw) (k:Nat):Raw:=((r.atts.take k).filter (zAa r)).foldl zv r
theorem zOA (r:Raw):hedgeTo r 0=r:=by simp [hedgeTo]
theorem zOB {r:Raw} {k:Nat} {a:Att} (h:r.atts[k]?=some a):hedgeTo r (k+1)=if zAa r a then zv (hedgeTo r k) a else hedgeTo r k:=by
 unfold hedgeTo
 rw [List.take_add_one,h,List.filter_append,List.foldl_append]
 show List.foldl zv _ ([a].filter (zAa r))=_
 cases hs:zAa r a<;>simp [hs]
theorem zWh (r:Raw):hedgeTo r r.atts.length=xZ r:=by
 unfold hedgeTo xZ
 rw [List.take_length]
 by_cases h:0 < r.cfg.hedge
 ·rw [if_pos h]
  congr 1
  apply List.filter_congr
  intro a _
  unfold zAa
  rw [decide_eq_true h,Bool.true_and]
 ·rw [if_neg h]
  have:r.atts.filter (zAa r)=[]:=by
   rw [List.filter_eq_nil_iff]
   intro a _
   unfold zAa
   rw [decide_eq_false h]
   simp
  rw [this]
  rfl
theorem zWi (r:Raw) (a:Att):(zv r a).atts=r.atts∧(zv r a).now=r.now∧(zv r a).cfg=r.cfg∧(zv r a).conns=r.conns:=by
 unfold zv
 split
 ·exact ⟨rfl,rfl,rfl,rfl⟩
 ·split
  ·unfold zl
   split<;>exact ⟨rfl,rfl,rfl,rfl⟩
  ·exact ⟨rfl,rfl,rfl,rfl⟩
theorem zIu:∀(l:List Att) (r:Raw),(l.foldl zv r).atts=r.atts∧(l.foldl zv r).now=r.now∧(l.foldl zv r).cfg=r.cfg∧(l.foldl zv r).conns=r.conns
 | [],_=>⟨rfl,rfl,rfl,rfl⟩
 | a::l,r=>by
   obtain ⟨h1,h2,h3,h4⟩:=zIu l (zv r a)
   obtain ⟨g1,g2,g3,g4⟩:=zWi r a
   exact ⟨h1.trans g1,h2.trans g2,h3.trans g3,h4.trans g4⟩
theorem zOC {r:Raw} {a:Att} {q:Req} (hq:aget r.reqs a.id=some q):zv r a=if !q.hedged&&!q.queued&&(rOf r a.id).length==1 then zl {r with reqs:=aset r.reqs a.id {q with hedged:=true}} a.id false else r:=by unfold zv;rw [hq]
theorem zIv {r:Raw} {a:Att} {q:Req} (hq:aget r.reqs a.id=some q) (h:q.hedged=true∨q.queued=true∨(rOf r a.id).length≠1):zv r a=r:=by
 rw [zOC hq,if_neg]
 rcases h with h | h | h
 ·simp [h]
 ·simp [h]
 ·simp [h]
theorem zWj {r:Raw} {a:Att} {q:Req} (hq:aget r.reqs a.id=some q) (h1:q.hedged=false) (h2:q.queued=false) (h3:(rOf r a.id).length=1):zv r a=zl {r with reqs:=aset r.reqs a.id {q with hedged:=true}} a.id false:=by
 rw [zOC hq,if_pos]
 simp [h1,h2,h3]
theorem Inv.hedged {N P:Nat} {r:Raw} (h:Inv N P r) {id:Int} {q:Req} (hq:aget r.reqs id=some q):Inv N P {r with reqs:=aset r.reqs id {q with hedged:=true}}:=by
 have hr:=h.n.req id q hq
 exact ⟨h.q.set_req hq rfl rfl,h.a.set_req hq rfl (Int.le_refl _),h.n.set_req hq hr.2.2.1 hr.2.2.2.1 hr.2.2.2.2.1 hr.2.2.2.2.2.1 hr.2.2.2.2.2.2.1 hr.2.2.2.2.2.2.2⟩
theorem zWk {N P:Nat} {r:Raw} (hI:Inv N P r) {id:Int} {q:Req} {k:Nat} (hk:r.reqs[k]?=some (id,q)):zC {r with reqs:=aset r.reqs id {q with hedged:=true}}={zC r with reqs:=(zC r).reqs.set k {zS (id,q) with hedged:=true}}:=by
 have:=zFw hI.q.kreq hk {q with hedged:=true}
 show ({zC r with reqs:=(aset r.reqs id {q with hedged:=true}).map zS}:RefM)=_
 rw [this]
 rfl
open Go Go.RowKit
section
variable {w w' w1 w2 w3 wr:World} {ρ:Nat→Role} {G M:Nat} {L:MLay} {m:RefM}
theorem zWl (h:MRep w ρ G M L m) {b off n cap i:Nat} {x:MAtt} (hv:L.atts=.slice (some ⟨b,off,none⟩) n cap) (hi:m.atts[i]?=some x):w.cell? ⟨b,off+i*5+4,none⟩=some (vi x.till):=by
 obtain ⟨b',off',hae,_,_,_,_,q4⟩:=zAD (zGd h hv) hi
 injection hae with hae
 injection hae with e1 e2
 subst e1;subst e2
 exact q4
theorem zWm (h:MRep w ρ G M L m) (hn:m.atts.length≤1000000000000) :
 Calls Tryz.prog 117 #[vp M] w fun e w'=>∃v,e=.returned (vi v)∧Best m.atts m.now m.atts.length v∧Below w.heap.size w w':=by
 obtain ⟨a,cap,hv,hr⟩:=h.attsIn
 have cL:w.cell? ⟨M,7,none⟩=some L.atts:=h.cell (k:=7) rfl
 have cN:w.cell? ⟨M,5,none⟩=some (vi m.now):=h.cell (k:=5) rfl
 rw [hv] at cL
 have HR:=zh hr
 have HH:=zh h
 obtain ⟨n,hnn⟩:∃n,m.atts.length=n:=⟨_,rfl⟩
 have HN:=zh hnn
 rw [hnn] at cL hn hv
 have HV:=zh hv
 obtain ⟨nw,hnw⟩:∃x,m.now=x:=⟨_,rfl⟩
 rw [hnw] at cN
 have HNW:=zh hnw
 clear h hv hr hnn hnw
 go_enter Tryz.func117,Tryz.ntmps117
 go_wp2_with fail
 go_loopw [3,4,5,11] (fun s3 _ _ s11 wr=>∃(k:Nat) (v:Int),s11=.int .i64 k∧s3=.int .i64 v∧k≤n∧Hid (Below w.heap.size w wr∧Best m.atts nw k v)) (fun _ _ _ s11 _=>n - (intOf s11).toNat)
 case atStart=>exact ⟨0,-1,by go_num,by first | rfl | go_num,Nat.zero_le _,Below.refl _ _,Best.start _ _⟩
 case round =>
  obtain ⟨k,v,rfl,rfl,hk,HI⟩:=hrel
  by_cases hkl:k < n
  ·have hlt:decide ((k:Int) < (n:Int))=true:=decide_eq_true (by omega)
   obtain ⟨q,hkq⟩:∃q,m.atts[k]?=some q:=⟨_,List.getElem?_eq_getElem (by rw [HN.out];exact hkl)⟩
   obtain ⟨b,off,hae,c0,c1,c2,c3,c4⟩:=zAD (HR.out.below HI.out.1) hkq
   subst hae
   have hk0:(0:Int)≤(k:Int):=by omega
   have hk1:(k:Int) < (n:Int):=by omega
   have HKQ:=zh hkq
   have HBA:=zh (HI.out.1.alloc HI.out.1.size (.cells #[vi q.id,vi q.n,vi q.conn,vi q.since,vi q.till] 186))
   have HBST:=zh HI.out.2
   obtain ⟨tl,htl⟩:∃x,q.till=x:=⟨_,rfl⟩
   have HTL:=zh htl
   rw [htl] at c4
   have cLk:(wr.alloc (.cells #[vi q.id,vi q.n,vi q.conn,vi q.since,vi tl] 186)).cell? ⟨M,7,none⟩=some (.slice (some ⟨b,off,none⟩) n cap):=zGk ((HI.out.1.cell (zW cL)).trans cL)
   have cNk:(wr.alloc (.cells #[vi q.id,vi q.n,vi q.conn,vi q.since,vi tl] 186)).cell? ⟨M,5,none⟩=some (vi nw):=zGk ((HI.out.1.cell (zW cN)).trans cN)
   have hgr:=HH.out.grow HI.out.1
   have HTC:=zh (fun (i:Nat) x (hi:m.atts[i]?=some x)=>zWl hgr HV.out hi)
   have hvb:v = -1∨∃(i:Nat) (x:MAtt),v=(i:Int)∧i < k∧m.atts[i]?=some x:=by
    rcases HI.out.2 with ⟨h,_⟩ | ⟨i,x,h,hi,hx,_⟩
    ·exact .inl h
    ·exact .inr ⟨i,x,h,hi,hx⟩
   rw [htl] at HBA
   clear hkq htl hgr HI
   by_cases hle:tl≤nw
   ·have hle1:decide (tl≤nw)=true:=decide_eq_true hle
    rcases hvb with rfl | ⟨i,x,rfl,hik,hix⟩
    ·have hv0:decide ((-1:Int) < 0)=true:=by decide
     have HBN:Hid (Best m.atts nw (k+1) (k:Int)):=HBST.out.take HKQ.out (by rw [HTL.out];exact hle) (fun i a e=>by omega)
     go_wp2_with fail
     go_quiet (fail)
     go_wp2_with fail
     go_roundw
     case rel=>exact ⟨k+1,k,by go_num,rfl,by omega,xo HBA.out _,HBN.out⟩
     case measure=>simp [intOf];omega
    ·have hv0:decide ((i:Int) < 0)=false:=decide_eq_false (by omega)
     have hi0:(0:Int)≤(i:Int):=by omega
     have hi1:(i:Int) < (n:Int):=by omega
     obtain ⟨xt,hxt⟩:∃y,x.till=y:=⟨_,rfl⟩
     have cx0:=HTC.out i x hix
     rw [hxt] at cx0
     have cx:=zGk (o:=.cells #[vi q.id,vi q.n,vi q.conn,vi q.since,vi tl] 186) cx0
     have HIX:=zh hix
     have HXT:=zh hxt
     clear cx0 hix hxt
     by_cases hlx:tl < xt
     ·have hl1:decide (tl < xt)=true:=decide_eq_true hlx
      have HBN:Hid (Best m.atts nw (k+1) (k:Int)):=HBST.out.take HKQ.out (by rw [HTL.out];exact hle) (fun j a e hj=>by
       have:j=i:=by omega
       subst this
       rw [HIX.out] at hj;cases hj
       rw [HTL.out,HXT.out];exact hlx)
      go_wp2_with fail
      go_quiet (fail)
      go_wp2_with fail
      go_roundw
      case rel=>exact ⟨k+1,k,by go_num,rfl,by omega,xo HBA.out _,HBN.out⟩
      case measure=>simp [intOf];omega
     ·have hl1:decide (tl < xt)=false:=decide_eq_false hlx
      have HBN:Hid (Best m.atts nw (k+1) (i:Int)):=HBST.out.skip HKQ.out (.inr ⟨i,x,rfl,HIX.out,by rw [HTL.out,HXT.out];omega⟩)
      go_wp2_with fail
      go_quiet (fail)
      go_wp2_with fail
      go_roundw
      case rel=>exact ⟨k+1,i,by go_num,rfl,by omega,xo HBA.out _,HBN.out⟩
      case measure=>simp [intOf];omega
   ·have hle1:decide (tl≤nw)=false:=decide_eq_false hle
    have HBN:Hid (Best m.atts nw (k+1) v):=HBST.out.skip HKQ.out (.inl (by rw [HTL.out];omega))
    go_wp2_with fail
    go_quiet (fail)
    go_wp2_with fail
    go_roundw
    case rel=>exact ⟨k+1,v,by go_num,rfl,by omega,xo HBA.out _,HBN.out⟩
    case measure=>simp [intOf];omega
  ·obtain rfl:k=n:=by omega
   have hlt:decide ((k:Int) < (k:Int))=false:=by simp
   have HF:Hid (Best m.atts m.now m.atts.length v):=show Best _ _ _ _ by rw [HNW.out,HN.out];exact HI.out.2
   have HB:=zh HI.out.1
   clear HI
   go_wp2_with fail
   go_ret
   exact ⟨_,rfl,HF.out,HB.out⟩
end
section
variable {P:Program} {ops:Array Oper} {Q:Exit→Act→World→Prop} {md:Region.Mode} {S:World→Prop}
theorem zWn {i:Nat} {oi:Oper} {rest:List Oper} {v:Value} {fuel:Nat} {listed:Array Bool} {a:Act} {w:World} (hi:ops.toList.drop i=oi::rest) (hb:(Region.noSelect ops&&Region.free md ops listed i&&(Region.ready md ops listed).contains i)=true)
 (hQ:∀c a w,Q (.panic c) (a.put oi.dst v) w→Q (.panic c) a w) (hS:S w) (hy:YieldsIf P ops S oi v a) (h:wpAnyH P md ops Q S fuel (listed.setIfInBounds i true) (a.put oi.dst v) w):wpAnyH P md ops Q S (fuel+1) listed a w:=by
 simp only [Bool.and_eq_true] at hb
 exact wpAnyH_take (zGg hi) hb.1.1 hb.1.2 hb.2 hQ hy hS h
theorem zWo {i:Nat} {n:Nat} {l:Array Bool} {a:Act} {w:World} {o:Oper} {rest:List Oper} (hi:ops.toList.drop i=o::rest) (hr:Region.ready md ops l=[i]) (hw:Region.wanted o (yielded ops a.tmps)=true)
 (h:∀K:Act→World→Prop,(∀a' w',S w'→wpAnyH P md ops Q S n (l.setIfInBounds i true) a' w'→K a' w')→o.wp P a w K Q):wpAnyH P md ops Q S (n+1) l a w:=
 ⟨fun h0=>absurd (hr.symm.trans h0) (by simp),fun j hj=>by
  rw [hr,List.mem_singleton] at hj
  subst hj
  unfold wpOp
  simp only [zGg hi,hw,if_true]
  exact .inl (h _ (fun a' w' h1 h2=>⟨h1,h2⟩))⟩
theorem zGo {i:Nat} {oi:Oper} {rest:List Oper} {v:Value} {fuel:Nat} {listed:Array Bool} {a:Act} {w:World} (hi:ops.toList.drop i=oi::rest) (hb:(Region.noSelect ops&&Region.free md ops listed i&&(Region.ready md ops listed).contains i)=true)
 (hQ:∀c a w,Q (.panic c) (a.put oi.dst v) w→Q (.panic c) a w) (hS:S w) (hy:YieldsIf P ops S oi v a) (h:zBq (i+1) (wpAnyH P md ops Q S fuel (listed.setIfInBounds i true) (a.put oi.dst v) w)):zBq i (wpAnyH P md ops Q S (fuel+1) listed a w):=
 zWn hi hb hQ hS hy h
theorem zWp {i:Nat} {n:Nat} {l:Array Bool} {a:Act} {w:World} {o:Oper} {rest:List Oper} (hi:ops.toList.drop i=o::rest) (hr:Region.ready md ops l=[i]) (hw:Region.wanted o (yielded ops a.tmps)=true)
 (h:∀K:Act→World→Prop,(∀a' w',S w'→zBq (i+1) (wpAnyH P md ops Q S n (l.setIfInBounds i true) a' w')→K a' w')→o.wp P a w K Q):zBq i (wpAnyH P md ops Q S (n+1) l a w):=
 zWo hi hr hw h
end
section
variable {w w' w1 w2 w3 wr:World} {ρ:Nat→Role} {G M:Nat} {L:MLay} {m:RefM}
def zDu (w:World) (ρ:Nat→Role) (G M N P:Nat) (tgt:Raw) (nc:Nat) (wr:World) (rk:Raw):Prop:=
 ∃ρk Lk,MRep wr ρk G M Lk (zC rk)∧Step ρ ρk w wr∧Inv N P rk∧yT rk.atts.length rk=tgt∧rk.conns.length=nc
theorem zDu.next {N P nc:Nat} {tgt rk:Raw} {ρk ρ2:Nat→Role} {L2:MLay} {a:Att} (hk2:Step ρ ρk w wr) (hk3:Inv N P rk) (hk4:yT rk.atts.length rk=tgt) (hk5:rk.conns.length=nc) (hd:rDue rk=some a)
 (k1:MRep w2 ρ2 G M L2 (zC (zZ (zU rk a) a.id true))) (k2:Step ρk ρ2 wr w2):zDu w ρ G M N P tgt nc w2 (zZ (zU rk a) a.id true):=
 ⟨ρ2,L2,k1,hk2.trans k2,hk3.due1 (zCa hd),by rw [←zNv hk3 hd];exact hk4,by rw [zEu,zEo];exact hk5⟩
def zDJ (w:World) (ρ:Nat→Role) (G M N P:Nat) (LD:MLay) (rD:Raw) (k:Nat) (wr:World):Prop:=
 ∃ρk Lk,MRep wr ρk G M Lk (zC (hedgeTo rD k))∧Step ρ ρk w wr∧Inv N P (hedgeTo rD k)∧Lk.atts=LD.atts
theorem zWq (r:Raw) (k:Nat):(hedgeTo r k).atts=r.atts∧(hedgeTo r k).now=r.now∧(hedgeTo r k).cfg=r.cfg∧(hedgeTo r k).conns=r.conns:=zIu _ r
theorem Inv.hedgeTo {N P:Nat} {r:Raw} (h:Inv N P r) (k:Nat):Inv N P (hedgeTo r k):=Inv.hedges _ h
theorem zDJ.still {N P k:Nat} {LD:MLay} {rD:Raw} {ρk:Nat→Role} {Lk:MLay} {a:Att} (h1:MRep wr ρk G M Lk (zC (hedgeTo rD k))) (h2:Step ρ ρk w wr) (h3:Inv N P rD) (h4:Lk.atts=LD.atts) (ha:rD.atts[k]?=some a) (hs:zAa rD a=false∨zv (hedgeTo rD k) a=hedgeTo rD k) (hb:Below wr.heap.size wr w2):zDJ w ρ G M N P LD rD (k+1) w2:=by
 have e:hedgeTo rD (k+1)=hedgeTo rD k:=by
  rw [zOB ha]
  rcases hs with hs | hs
  ·rw [hs];rfl
  ·split
   ·exact hs
   ·rfl
 refine ⟨ρk,Lk,?_,h2.trans (Step.still (Fr.of_below hb)),h3.hedgeTo _,h4⟩
 rw [e]
 exact h1.grow hb
theorem MStA.own {m':RefM} (h:MStA w ρ G M L m' w'):∃ρ' L',MRep w' ρ' G M L' m'∧Step ρ ρ' w w'∧L'.atts=L.atts:=by
 obtain ⟨ρ',L',h1,h2,h3⟩:=h
 exact ⟨ρ',L',h1,h2,h3.1⟩
theorem zWr {N P:Nat} {r:Raw} (hI:Inv N P r) (h:MRep w ρ G M L (zC r)) (hN:N≤900000000) (hP:P≤900000000) (hC:r.conns.length≤900000000) :
 Calls Tryz.prog 86 #[vp M] w (zBW w ρ G M (zC (yw r))):=by
 have c5:w.cell? ⟨M,5,none⟩=some (vi r.now):=h.cell (k:=5) rfl
 have f5:=h.frozen 5
 have hnb:=hI.n.now
 obtain ⟨r1,hr1⟩:∃r1:Raw,r1={r with now:=r.now+1}:=⟨_,rfl⟩
 have hI1:Inv (N+1) P r1:=by rw [hr1];exact hI.later
 obtain ⟨k1,k2⟩:=h.put_now (n:=r.now+1) (w':=w.setCell ⟨M,5,none⟩ (vi (r.now+1))) (zM w (off:=5) h.mod.2) ((Fr.refl _ w).setCell _ _ (.inl rfl))
 have k1:MRep (w.setCell ⟨M,5,none⟩ (vi (r.now+1))) ρ G M L (zC r1):=by rw [hr1];exact k1
 obtain ⟨nw,hnw⟩:∃x,r.now=x:=⟨_,rfl⟩
 rw [hnw] at c5 hnb k1 k2
 have hw1:IntKind.i64.wrap (nw+1)=nw+1:=IntWalk.i64_in _ (by omega)
 have HDU:=zh (fun (rk:Raw) (ρk:Nat→Role) (Lk:MLay) (W:World) (hIk:Inv (N+1) P rk) (hk:MRep W ρk G M Lk (zC rk))=>zWm hk (by have:=hIk.mok;omega))
 have HD0:=zh (HDU.out _ _ _ _ hI1 k1)
 have HFG:=zh (fun (x:Int) (hx:0≤x∧x < 1000000000000) W=>zBO (x:=x) hx.1 hx.2 W)
 obtain ⟨tgt,htgt⟩:∃t,yT r1.atts.length r1=t:=⟨_,rfl⟩
 obtain ⟨nc,hnc⟩:∃x,r1.conns.length=x:=⟨_,rfl⟩
 have hncb:nc≤900000000:=by rw [←hnc,hr1];exact hC
 have HT0:Hid (zDu w ρ G M (N+1) P tgt nc (w.setCell ⟨M,5,none⟩ (vi (nw+1))) r1):=⟨ρ,L,k1,k2,hI1,htgt,hnc⟩
 have HTR:Hid (yw r=yC (xZ tgt)):=show _=_ by rw [←htgt,hr1];rfl
 obtain ⟨F,hF⟩:∃F,zBW w ρ G M (zC (yw r))=F:=⟨_,rfl⟩
 rw [hF]
 have HF:=zh hF
 have HNP:Hid (N≤900000000∧P≤900000000):=⟨hN,hP⟩
 clear hF hI h hN hP hC hr1 hI1 k1 k2 hnw htgt hnc hnb
 go_enter Tryz.func86,Tryz.ntmps86
 go_wp2_with fail
 refine HD0.out.mono ?_
 rintro e w0 ⟨v,rfl,hb0,hB0⟩
 have HV0:Hid (∃rk,zDu w ρ G M (N+1) P tgt nc w0 rk∧Best (zC rk).atts rk.now (zC rk).atts.length v):=by
  obtain ⟨ρk,Lk,h1,h2,h3⟩:=HT0.out
  exact ⟨r1,⟨ρk,Lk,h1.grow hB0,h2.trans (Step.still (Fr.of_below hB0)),h3⟩,hb0⟩
 clear hb0 hB0 c5 f5
 go_wp2_with fail
 go_loopw [3,4] (fun s3 _ wr=>∃v:Int,s3=.int .i64 v∧Hid (∃rk,zDu w ρ G M (N+1) P tgt nc wr rk∧Best (zC rk).atts rk.now (zC rk).atts.length v)) (fun _ _ wr=>zDr wr M)
 case atStart=>exact ⟨v,rfl,HV0.out⟩
 case round =>
  obtain ⟨v,rfl,HR⟩:=hrel
  obtain ⟨wo,rfl⟩:∃wo,wo=wr:=⟨_,rfl⟩
  obtain ⟨rk,⟨ρk,Lk,hk1,hk2,hk3,hk4,hk5⟩,hbest⟩:=HR.out
  have hvb:v = -1∨∃i:Nat,v=(i:Int):=by
   rcases hbest with ⟨h,_⟩ | ⟨i,x,h,_⟩
   ·exact .inl h
   ·exact .inr ⟨i,h⟩
  rcases hvb with rfl | ⟨i,rfl⟩
  ·have hge:decide ((-1:Int)≥0)=false:=by decide
   have hrk:rk=tgt:=by rw [←hk4];exact (zNw (zWg hbest)).symm
   subst hrk
   obtain ⟨aa,ac,hva,_⟩:=hk1.attsIn
   have c7:wo.cell? ⟨M,7,none⟩=some Lk.atts:=hk1.cell (k:=7) rfl
   obtain ⟨n,hnn⟩:∃n,(zC rk).atts.length=n:=⟨_,rfl⟩
   rw [hnn] at hva
   rw [hva] at c7
   have hm:=hk3.mok
   have hnb:n≤1000000000:=by rw [←hnn];have:=HNP.out;omega
   have HVA:=zh hva
   have HN:Hid (rk.atts.length=n):=show _=_ by rw [←hnn];show _=(rk.atts.map zV).length;rw [List.length_map]
   have HI3:=zh hk3
   have HH0:Hid (zDJ w ρ G M (N+1) P Lk rk 0 wo):=⟨ρk,Lk,by rw [zOA];exact hk1,hk2,by rw [zOA];exact hk3,rfl⟩
   obtain ⟨hg,hhg⟩:∃x,rk.cfg.hedge=x:=⟨_,rfl⟩
   obtain ⟨nx,hnx⟩:∃x,rk.now=x:=⟨_,rfl⟩
   have hnxb:0≤nx∧nx≤1000000000:=by rw [←hnx];have:=hk3.n.now;have:=HNP.out;omega
   have HHG:=zh hhg
   have HNX:=zh hnx
   clear hk1 hk2 hk3 hk4 hbest HR hva hnn hm hhg hnx
   go_wp2_with fail
   go_loopw [6,7,53] (fun _ _ s53 wr=>∃k:Nat,s53=.int .i64 k∧k≤n∧Hid (zDJ w ρ G M (N+1) P Lk rk k wr)) (fun _ _ s53 _=>n - (intOf s53).toNat)
   case atStart=>exact ⟨0,by go_num,Nat.zero_le _,HH0.out⟩
   case round =>
    obtain ⟨k,rfl,hk,HK⟩:=hrel
    obtain ⟨ρh,Lh,g1,g2,g3,g4⟩:=HK.out
    obtain ⟨e1,e2,e3,e4⟩:=zWq rk k
    by_cases hkl:k < n
    ·have hlt:decide ((k:Int) < (n:Int))=true:=decide_eq_true (by omega)
     obtain ⟨a,hak⟩:∃a,rk.atts[k]?=some a:=⟨_,List.getElem?_eq_getElem (by rw [HN.out];exact hkl)⟩
     have hak2:(zC (hedgeTo rk k)).atts[k]?=some (zV a):=zCT (by rw [e1];exact hak)
     obtain ⟨ab,aoff,hae,i0,i1,i2,i3,i4⟩:=zAD (zGd g1 (g4.trans HVA.out)) hak2
     subst hae
     obtain ⟨q,hq,_⟩:=g3.a.areq a (by rw [e1];exact List.mem_of_getElem? hak)
     obtain ⟨kq,hkq⟩:=zCH hq
     have hkm:(zC (hedgeTo rk k)).reqs[kq]?=some (zS (a.id,q)):=by show ((hedgeTo rk k).reqs.map zS)[kq]?=_;rw [List.getElem?_map,hkq];rfl
     have hm:=g3.mok
     have hk0:(0:Int)≤(k:Int):=by omega
     have hk1:(k:Int) < (n:Int):=by omega
     have c4:wr.cell? ⟨M,4,none⟩=some (vi hg):=by
      have:=g1.cell (k:=4) rfl
      rw [←HHG.out,←e3];exact this
     have c5:wr.cell? ⟨M,5,none⟩=some (vi nx):=by
      have:=g1.cell (k:=5) rfl
      rw [←HNX.out,←e2];exact this
     obtain ⟨qa,qc,hvq,_⟩:=g1.reqsIn
     obtain ⟨qn,hqn⟩:∃x,(zC (hedgeTo rk k)).reqs.length=x:=⟨_,rfl⟩
     rw [hqn] at hvq
     obtain ⟨qb,qoff,hqe⟩:∃qb qoff,qa=some ⟨qb,qoff,none⟩:=by
      obtain ⟨b',off',hae,_⟩:=zAX (zCU g1 hvq) hkm
      exact ⟨b',off',hae⟩
     subst hqe
     obtain ⟨c6,q1,q5,q6o⟩:=zNk g1 hvq hkm
     have hkql:=(List.getElem?_eq_some_iff.1 hkm).1
     have hq0:(0:Int)≤(kq:Int):=by omega
     have hq1:(kq:Int) < (qn:Int):=by omega
     obtain ⟨id,hid⟩:∃x,a.id=x:=⟨_,rfl⟩
     obtain ⟨sn,hsn⟩:∃x,a.since=x:=⟨_,rfl⟩
     obtain ⟨hd,hhd⟩:∃x,q.hedged=x:=⟨_,rfl⟩
     have hsnb:0≤sn∧sn≤nx:=by
      have h5:=g3.n.att a (by rw [e1];exact List.mem_of_getElem? hak)
      rw [e2,HNX.out,hsn] at h5;omega
     have hws:IntKind.i64.wrap (nx - sn)=nx - sn:=IntWalk.i64_in _ (by omega)
     have a0:wr.cell? ⟨ab,aoff+k*5,none⟩=some (vi id):=by rw [←hid];exact i0
     have a3:wr.cell? ⟨ab,aoff+k*5+3,none⟩=some (vi sn):=by rw [←hsn];exact i3
     have a1:wr.cell? ⟨ab,aoff+k*5+1,none⟩=some (vi a.att):=i1
     have a2:wr.cell? ⟨ab,aoff+k*5+2,none⟩=some (vi a.conn):=i2
     have a4:wr.cell? ⟨ab,aoff+k*5+4,none⟩=some (vi a.till):=i4
     have q6:wr.cell? ⟨qb,qoff+kq*7+6,none⟩=some (.bool hd):=by rw [←hhd];exact q6o
     clear i0 i1 i2 i3 i4 q6o
     rw [hid] at hq hkq hkm
     obtain ⟨wA,hwA⟩:∃W,wr.alloc (.cells #[.int .i64 id,.int .i64 a.att,.int .i64 a.conn,.int .i64 sn,.int .i64 a.till] 186)=W:=⟨_,rfl⟩
     have hbA:Below wr.heap.size wr wA:=by rw [←hwA];exact (Below.refl _ wr).alloc (Nat.le_refl _) _
     have hblA:wA.heap[wr.heap.size]?=some (.cells #[vi id,vi a.att,vi a.conn,vi sn,vi a.till] 186 (0,0)):=by rw [←hwA];exact zL wr
     have b0:wA.cell? ⟨wr.heap.size,0,none⟩=some (vi id):=zB hblA rfl
     have HRA:=zh (zDo (g1.grow hbA) (k:=kq) hm.1 hkm (by have:=HNP.out;omega))
     have HBA:=zh hbA
     have HBLA:=zh hblA
     have HAK:=zh hak
     have HID:=zh hid
     have HQ:=zh hq
     have HKQ:=zh hkq
     have HKM:=zh hkm
     have HM:=zh hm
     have HVQ:=zh hvq
     have HHD:=zh hhd
     have G1:=zh g1
     have G2:=zh g2
     have G3:=zh g3
     have G4:=zh g4
     have HE2:Hid (zAa rk a=(decide (0 < hg)&&decide (hg≤nx - sn))):=show _=_ by unfold zAa;rw [HHG.out,HNX.out,hsn]
     have HC4:=zh c4
     have HC5:=zh c5
     have HC6:=zh c6
     have HQ6:=zh q6
     have HST:Hid (∀W:World,Below wr.heap.size wr W→(zAa rk a=false∨zv (hedgeTo rk k) a=hedgeTo rk k)→zDJ w ρ G M (N+1) P Lk rk (k+1) W):=fun W hb hs=>zDJ.still G1.out G2.out HI3.out G4.out HAK.out hs hb
     clear hak hak2 hq hkq hkm hm hvq hqn hkql hid hsn hhd g1 g2 g3 g4 e1 e2 e3 e4 q1 q5 HK c4 c5 c6 q6 hbA hblA
     go_upto_region 12 with fail
     try rw [hwA]
     clear hwA a0 a1 a2 a3 a4
     go_wp2_with fail
     refine HRA.out.mono ?_
     rintro e w2 ⟨rfl,hb2⟩
     have hB2:=HBA.out.trans (hb2.mono HBA.out.size)
     have HB2:=zh hB2
     have hbl2:=(hb2.block _ (zF _ HBLA.out)).trans HBLA.out
     have b0:w2.cell? ⟨wr.heap.size,0,none⟩=some (vi id):=zB hbl2 rfl
     have b3:w2.cell? ⟨wr.heap.size,3,none⟩=some (vi sn):=zB hbl2 rfl
     have c4:=(hB2.cell (zW HC4.out)).trans HC4.out
     have c5:=(hB2.cell (zW HC5.out)).trans HC5.out
     have c6:=(hB2.cell (zW HC6.out)).trans HC6.out
     have q6:=(hB2.cell (zW HQ6.out)).trans HQ6.out
     have HBL2:=zh hbl2
     clear hb2 hB2 hbl2 HRA
     by_cases hg0:0 < hg
     ·have hgt:decide (hg > 0)=true:=decide_eq_true hg0
      by_cases hsl:hg≤nx - sn
      ·have hge2:decide (nx - sn≥hg)=true:=decide_eq_true hsl
       have HSL:Hid (zAa rk a=true):=show _=_ by rw [HE2.out,decide_eq_true hg0,decide_eq_true hsl];rfl
       cases hd with
       | true =>
         have HR1:Hid (zv (hedgeTo rk k) a=hedgeTo rk k):=zIv (by rw [HID.out];exact HQ.out) (.inl HHD.out)
         go_wp2_with fail
         go_quiet (fail)
         go_wp2_with fail
         go_roundw
         case rel=>exact ⟨k+1,by go_num,by omega,HST.out _ (xo HB2.out _) (.inr HR1.out)⟩
         case measure=>simp [intOf];omega
       | false =>
         have HWT:=zh (fun (W:World) (hb:Below wr.heap.size wr W)=>zNi (G1.out.grow hb) id (by have:=HM.out;have:=HNP.out;omega) (fun p hp=>by have:=HM.out.2.2.2.2.1 p hp;have:=HNP.out;omega))
         rw [zNf G3.out HQ.out] at HWT
         have HCT:=zh (fun W (hb:Below wr.heap.size wr W)=>zLY (G1.out.grow hb) id (by have:=HM.out;have:=HNP.out;omega))
         simp only [zNg] at HCT
         obtain ⟨qd,hqd⟩:∃x,q.queued=x:=⟨_,rfl⟩
         obtain ⟨ct,hct⟩:∃x,(rOf (hedgeTo rk k) id).length=x:=⟨_,rfl⟩
         rw [hqd] at HWT
         rw [hct] at HCT
         have HQD:=zh hqd
         have HCN:=zh hct
         clear hqd hct
         cases qd with
         | true =>
           have HRS:Hid (zAa rk a=false∨zv (hedgeTo rk k) a=hedgeTo rk k):=.inr (zIv (by rw [HID.out];exact HQ.out) (.inr (.inl HQD.out)))
           go_wp2_with fail
           refine wp_region_held_drew (S:=(fun w'=>w'.cell? ⟨M,4,none⟩=some (vi hg)∧w'.cell? ⟨M,5,none⟩=some (vi nx)∧w'.cell? ⟨M,6,none⟩=some (.slice (some ⟨qb,qoff,none⟩) qn qc)∧w'.cell? ⟨qb,qoff+kq*7+6,none⟩=some (.bool false)∧w'.cell? ⟨wr.heap.size,0,none⟩=some (vi id)∧w'.cell? ⟨wr.heap.size,3,none⟩=some (vi sn))) (by kernel_rfl) ⟨c4,c5,c6,q6,b0,b3⟩ (fun hHeld=>zIe ?_)
           iterate 36 (refine zGo rfl (by kernel_rfl) (fun _ _ _ h=>h) hHeld (.inl ⟨by rfl,by (rintro w' ⟨s1,s2,s3,s4,s5,s6⟩;go_simp;try with_reducible rfl)⟩) ?_;try simp only [Act.put,List.setIfInBounds_toArray,List.set_cons_zero,List.set_cons_succ,Nat.reduceAdd])
           refine zWp rfl (by kernel_rfl) (by rfl) (fun K hK=>?_)
           go_simp
           go_at_call 123
           refine (HWT.out _ HB2.out.drew).mono ?_
           rintro e w4 ⟨rfl,hb⟩
           have HB4:=zh (zAh hb)
           replace hHeld:=And.intro (yh hb c4) (And.intro (yh hb c5) (And.intro (yh hb c6) (And.intro (yh hb q6) (And.intro (yh hb b0) (yh hb b3)))))
           clear hb
           refine hK _ _ hHeld ?_
           try simp only [Act.put,List.setIfInBounds_toArray,List.set_cons_zero,List.set_cons_succ,Nat.reduceAdd]
           iterate 3 (refine zGo rfl (by kernel_rfl) (fun _ _ _ h=>h) hHeld (.inl ⟨by rfl,by (rintro w' ⟨s1,s2,s3,s4,s5,s6⟩;go_simp;try with_reducible rfl)⟩) ?_;try simp only [Act.put,List.setIfInBounds_toArray,List.set_cons_zero,List.set_cons_succ,Nat.reduceAdd])
           iterate 5 (refine zGo (v:=undef) rfl (by kernel_rfl) (fun _ _ _ h=>h) hHeld (.inr ⟨by rfl,rfl⟩) ?_;try simp only [Act.put,List.setIfInBounds_toArray,List.set_cons_zero,List.set_cons_succ,Nat.reduceAdd])
           (refine zGo rfl (by kernel_rfl) (fun _ _ _ h=>h) hHeld (.inl ⟨by rfl,by (rintro w' ⟨s1,s2,s3,s4,s5,s6⟩;go_simp;try with_reducible rfl)⟩) ?_;try simp only [Act.put,List.setIfInBounds_toArray,List.set_cons_zero,List.set_cons_succ,Nat.reduceAdd])
           refine zIf (wpAnyH_done (by kernel_rfl) ?_ _)
           have HBF:=zh (HB2.out.trans (HB4.out.mono HB2.out.size))
           go_wp2_with fail
           go_roundw
           case rel=>exact ⟨k+1,by go_num,by omega,HST.out _ HBF.out HRS.out⟩
           case measure=>simp [intOf];omega
         | false =>
           by_cases hc1:ct=1
           ·have hcq:((ct:Int)==1)=true:=by rw [hc1];rfl
            have hcq2:decide ((ct:Int)=1)=true:=decide_eq_true (by omega)
            have HR1:Hid (hedgeTo rk (k+1)=zl {hedgeTo rk k with reqs:=aset (hedgeTo rk k).reqs id {q with hedged:=true}} id false):=show _=_ by
             rw [zOB HAK.out,HSL.out,if_pos rfl,zWj (a:=a) (q:=q) (by rw [HID.out];exact HQ.out) HHD.out HQD.out (by rw [HID.out];exact HCN.out.trans hc1),HID.out]
            go_wp2_with fail
            apply zBn (S:=fun W=>Below w2.heap.size w2 W)
            ·intro R hR
             go_region_held3 (fun w'=>w'.cell? ⟨M,4,none⟩=some (vi hg)∧w'.cell? ⟨M,5,none⟩=some (vi nx)∧w'.cell? ⟨M,6,none⟩=some (.slice (some ⟨qb,qoff,none⟩) qn qc)∧w'.cell? ⟨qb,qoff+kq*7+6,none⟩=some (.bool false)∧w'.cell? ⟨wr.heap.size,0,none⟩=some (vi id)∧w'.cell? ⟨wr.heap.size,3,none⟩=some (vi sn)) (go_keep) (first | (go_at_call 123;refine (HWT.out _ HB2.out.drew).mono ?_;rintro e w3 ⟨rfl,hb⟩;have HB3:=zh (zAh hb);have c4b:=yh hb c4;have c5b:=yh hb c5;have c6b:=yh hb c6;have q6b:=yh hb q6;have b0b:=yh hb b0;have b3b:=yh hb b3;clear hb) | (go_at_call 124;refine (HCT.out _ (HB2.out.trans (HB3.out.mono HB2.out.size))).mono ?_;rintro e w4 ⟨rfl,hb⟩;have HB4:=zh (HB3.out.trans (hb.mono HB3.out.size));have c4d:=(hb.cell (zW c4b)).trans c4b;have c5d:=(hb.cell (zW c5b)).trans c5b;have c6d:=(hb.cell (zW c6b)).trans c6b;have q6d:=(hb.cell (zW q6b)).trans q6b;have b0d:=(hb.cell (zW b0b)).trans b0b;have b3d:=(hb.cell (zW b3b)).trans b3b;clear hb))
             all_goals exact hR.out _ HB4.out
            intro w4 hb4
            have HBF:=zh (HB2.out.trans (hb4.mono HB2.out.size))
            have h4:=G1.out.grow HBF.out
            obtain ⟨ρ',p1,p2,fz⟩:=zLZ h4 HVQ.out HKM.out (j:=6) (by decide) (v:=.bool true) (x':={zS (id,q) with hedged:=true}) rfl
            have hI5:=G3.out.hedged HQ.out
            have e5:=zWk G3.out HKQ.out
            rw [←e5] at p1
            obtain ⟨r5,hr5⟩:∃x:Raw,{hedgeTo rk k with reqs:=aset (hedgeTo rk k).reqs id {q with hedged:=true}}=x:=⟨_,rfl⟩
            have hq5:aget r5.reqs id=some {q with hedged:=true}:=by
             rw [←hr5]
             show aget (aset (hedgeTo rk k).reqs id _) id=_
             rw [zo,if_pos rfl]
            have hkql:=(List.getElem?_eq_some_iff.1 HKM.out).1
            have hk5':(zC r5).reqs[kq]?=some {zS (id,q) with hedged:=true}:=by
             rw [←hr5,e5]
             show ((zC (hedgeTo rk k)).reqs.set kq _)[kq]?=_
             rw [List.getElem?_set,if_pos rfl,if_pos hkql]
            rw [hr5] at p1 hI5 HR1
            have hm5:=hI5.mok
            have HWA:=zh (zGZ p1 false (kq:=kq) (q:={zS (id,q) with hedged:=true}) hm5.1 hk5' (by have:=HNP.out;omega) (by have:=HNP.out;omega) (fun p hp=>by have:=hm5.2.2.2.2.1 p hp;have:=HNP.out;omega))
            have HEQ:Hid (zC (zl r5 id false)=zBD (zC r5) q.tenant id false):=zFx hI5 hq5 false
            have HS5:Hid (Step ρ ρ' w (w4.setCell ⟨qb,qoff+kq*7+6,none⟩ (.bool true))):=(G2.out.trans (Step.still (Fr.of_below HBF.out))).trans p2
            have q6w:=(HBF.out.cell (zW HQ6.out)).trans HQ6.out
            have c6w:=(HBF.out.cell (zW HC6.out)).trans HC6.out
            have hqbl:qb < wr.heap.size:=zW HQ6.out
            have hbl4:=(hb4.block _ (zF _ HBL2.out)).trans HBL2.out
            have hbw:(w4.setCell ⟨qb,qoff+kq*7+6,none⟩ (.bool true)).heap[wr.heap.size]?=some (.cells #[vi id,vi a.att,vi a.conn,vi sn,vi a.till] 186 (0,0)):=(zJ w4 (fun (e:wr.heap.size=qb)=>by omega)).trans hbl4
            have b0w:(w4.setCell ⟨qb,qoff+kq*7+6,none⟩ (.bool true)).cell? ⟨wr.heap.size,0,none⟩=some (vi id):=zB hbw rfl
            clear hb4 h4 p1 p2 hI5 e5 hr5 hq5 hk5' hm5 hbl4 hbw c4 c5 c6 q6 b0 b3 HWT HCT
            go_wp2_with fail
            refine HWA.out.mono ?_
            rintro e w6 ⟨rfl,hst6⟩
            have HFN:Hid (zDJ w ρ G M (N+1) P Lk rk (k+1) w6):=by
             obtain ⟨ρ6,L6,z1,z2,z3⟩:=hst6.own
             refine ⟨ρ6,L6,?_,HS5.out.trans z2,HI3.out.hedgeTo _,z3.trans G4.out⟩
             rw [HR1.out,HEQ.out]
             exact z1
            clear hst6
            go_wp2_with fail
            go_roundw
            case rel=>exact ⟨k+1,by go_num,by omega,HFN.out⟩
            case measure=>simp [intOf];omega
           ·have hcq:((ct:Int)==1)=false:=beq_eq_false_iff_ne.2 (by omega)
            have hcq2:decide ((ct:Int)=1)=false:=decide_eq_false (by omega)
            have HRS:Hid (zAa rk a=false∨zv (hedgeTo rk k) a=hedgeTo rk k):=.inr (zIv (by rw [HID.out];exact HQ.out) (.inr (.inr (by rw [HID.out,HCN.out];exact hc1))))
            go_wp2_with fail
            apply zBn (S:=fun W=>Below w2.heap.size w2 W)
            ·intro R hR
             go_region_held3 (fun w'=>w'.cell? ⟨M,4,none⟩=some (vi hg)∧w'.cell? ⟨M,5,none⟩=some (vi nx)∧w'.cell? ⟨M,6,none⟩=some (.slice (some ⟨qb,qoff,none⟩) qn qc)∧w'.cell? ⟨qb,qoff+kq*7+6,none⟩=some (.bool false)∧w'.cell? ⟨wr.heap.size,0,none⟩=some (vi id)∧w'.cell? ⟨wr.heap.size,3,none⟩=some (vi sn)) (go_keep) (first | (go_at_call 123;refine (HWT.out _ HB2.out.drew).mono ?_;rintro e w3 ⟨rfl,hb⟩;have HB3:=zh (zAh hb);have c4b:=yh hb c4;have c5b:=yh hb c5;have c6b:=yh hb c6;have q6b:=yh hb q6;have b0b:=yh hb b0;have b3b:=yh hb b3;clear hb) | (go_at_call 124;refine (HCT.out _ (HB2.out.trans (HB3.out.mono HB2.out.size))).mono ?_;rintro e w4 ⟨rfl,hb⟩;have HB4:=zh (HB3.out.trans (hb.mono HB3.out.size));have c4d:=(hb.cell (zW c4b)).trans c4b;have c5d:=(hb.cell (zW c5b)).trans c5b;have c6d:=(hb.cell (zW c6b)).trans c6b;have q6d:=(hb.cell (zW q6b)).trans q6b;have b0d:=(hb.cell (zW b0b)).trans b0b;have b3d:=(hb.cell (zW b3b)).trans b3b;clear hb))
             all_goals exact hR.out _ HB4.out
            intro w4 hb4
            have HBF:=zh (HB2.out.trans (hb4.mono HB2.out.size))
            clear hb4
            go_wp2_with fail
            go_roundw
            case rel=>exact ⟨k+1,by go_num,by omega,HST.out _ HBF.out HRS.out⟩
            case measure=>simp [intOf];omega
      ·have hge2:decide (nx - sn≥hg)=false:=decide_eq_false hsl
       have HRS:Hid (zAa rk a=false∨zv (hedgeTo rk k) a=hedgeTo rk k):=.inl (by rw [HE2.out,decide_eq_false hsl,Bool.and_false])
       go_wp2_with fail
       go_quiet (fail)
       have HBF:=zh (xo HB2.out nq)
       go_wp2_with fail
       go_roundw
       case rel=>exact ⟨k+1,by go_num,by omega,HST.out _ HBF.out HRS.out⟩
       case measure=>simp [intOf];omega
     ·have hgt:decide (hg > 0)=false:=decide_eq_false hg0
      have HRS:Hid (zAa rk a=false∨zv (hedgeTo rk k) a=hedgeTo rk k):=.inl (by rw [HE2.out,decide_eq_false hg0,Bool.false_and])
      go_wp2_with fail
      go_quiet (fail)
      have HBF:=zh (xo HB2.out nq)
      go_wp2_with fail
      go_roundw
      case rel=>exact ⟨k+1,by go_num,by omega,HST.out _ HBF.out HRS.out⟩
      case measure=>simp [intOf];omega
    ·obtain rfl:k=n:=by omega
     have hlt:decide ((k:Int) < (k:Int))=false:=by simp
     have hall:hedgeTo rk k=xZ rk:=by rw [←HN.out];exact zWh rk
     rw [hall] at g1 g3
     have HSV:=zh (zIo g3 g1 (by have:=HNP.out;omega) (by have:=HNP.out;omega))
     have HG2:=zh g2
     clear g1 g2 g3 g4 e1 e2 e3 e4 hall HK
     go_wp2_with fail
     refine HSV.out.mono ?_
     rintro e w6 ⟨rfl,hst6⟩
     have HTD:=zh (MSt.told (MSt.after HG2.out hst6))
     clear hst6
     go_wp2_with fail
     refine HTD.out.mono ?_
     rintro e w7 ⟨v7,ρ7,L7,rfl,hp⟩
     have HP:=zh hp
     clear hp
     go_wp2_with fail
     show F (.returned v7) w7
     rw [←HF.out,HTR.out]
     exact ⟨v7,ρ7,L7,rfl,HP.out⟩
  ·have hge:decide ((i:Int)≥0)=true:=decide_eq_true (by omega)
   obtain ⟨a,hai,hdu⟩:=zWf hk3 hbest
   have hix:(zC rk).atts[i]?=some (zV a):=zCT hai
   obtain ⟨aa,ac,hav,harows⟩:=hk1.attsIn
   have c7:wo.cell? ⟨M,7,none⟩=some Lk.atts:=hk1.cell (k:=7) rfl
   obtain ⟨n,hnn⟩:∃n,(zC rk).atts.length=n:=⟨_,rfl⟩
   rw [hav,hnn] at c7
   obtain ⟨ab,aoff,rfl,i0,i1,i2,i3,i4⟩:=zAD harows hix
   have hil:=(List.getElem?_eq_some_iff.1 hix).1
   have hi0:(0:Int)≤(i:Int):=by omega
   have hi1:(i:Int) < (n:Int):=by omega
   have hmem:=List.mem_of_getElem? hai
   have hak:=zNA hk3 hmem
   obtain ⟨q,hq,_⟩:=hk3.a.areq a hmem
   have hidq:=hk3.n.req a.id q hq
   obtain ⟨id,hid⟩:∃x,a.id=x:=⟨_,rfl⟩
   obtain ⟨nn,hnna⟩:∃x,a.att=x:=⟨_,rfl⟩
   obtain ⟨cc,hcc⟩:∃x,a.conn=x:=⟨_,rfl⟩
   have a0:wo.cell? ⟨ab,aoff+i*5,none⟩=some (vi id):=by rw [←hid];exact i0
   have a1:wo.cell? ⟨ab,aoff+i*5+1,none⟩=some (vi nn):=by rw [←hnna];exact i1
   have a2:wo.cell? ⟨ab,aoff+i*5+2,none⟩=some (vi cc):=by rw [←hcc];exact i2
   have a3:wo.cell? ⟨ab,aoff+i*5+3,none⟩=some (vi a.since):=i3
   have a4:wo.cell? ⟨ab,aoff+i*5+4,none⟩=some (vi a.till):=i4
   clear i0 i1 i2 i3 i4
   rw [hid] at hidq
   rw [hnna] at hak
   have hidr:0≤id∧id < 1000000000000:=by omega
   have hnnr:0≤nn∧nn < 1000000000000:=by have:=HNP.out;omega
   have hmok:=hk3.mok
   obtain ⟨wA,hwA⟩:∃W,wo.alloc (.cells #[.int .i64 id,.int .i64 nn,.int .i64 cc,.int .i64 a.since,.int .i64 a.till] 186)=W:=⟨_,rfl⟩
   have hbA:Below wo.heap.size wo wA:=by rw [←hwA];exact (Below.refl _ wo).alloc (Nat.le_refl _) _
   have hblA:wA.heap[wo.heap.size]?=some (.cells #[vi id,vi nn,vi cc,vi a.since,vi a.till] 186 (0,0)):=by rw [←hwA];exact zL wo
   have b0:wA.cell? ⟨wo.heap.size,0,none⟩=some (vi id):=zB hblA rfl
   have b1:wA.cell? ⟨wo.heap.size,1,none⟩=some (vi nn):=zB hblA rfl
   have b2:wA.cell? ⟨wo.heap.size,2,none⟩=some (vi cc):=zB hblA rfl
   have HNO:Hid (¬Of ρk wo.heap.size):=fun hb=>absurd (hk1.dom _ hb).2 (Nat.lt_irrefl _)
   have HS:=zh (fun W (hW:MRep W ρk G M Lk (zC rk))=>zDe hW cc (zN [yl,decI id,decI nn]) (zMv _ _) (by have:=HNP.out;omega))
   have hza:=zAq id
   have hzb:=zAq nn
   obtain ⟨d1,e1⟩:∃d1,(⟨#[115,116,111,112,32]⟩:ByteArray)++bs (decI id)=d1:=⟨_,rfl⟩
   obtain ⟨d2,e2⟩:∃d2,d1++(⟨#[32]⟩:ByteArray)=d2:=⟨_,rfl⟩
   obtain ⟨d3,e3⟩:∃d3,d2++bs (decI nn)=d3:=⟨_,rfl⟩
   have hs1:d1.size=5+(bs (decI id)).size:=by rw [←e1,ByteArray.size_append];rfl
   have hs2:d2.size=d1.size+1:=by rw [←e2,ByteArray.size_append];rfl
   have hstr:d3=bs (zN [yl,decI id,decI nn]):=by rw [←e3,←e2,←e1];exact zMu rfl rfl
   have z1:¬9223372036854775807 < 5+(bs (decI id)).size:=by omega
   have z2:¬9223372036854775807 < d1.size+1:=by omega
   have z3:¬9223372036854775807 < d2.size+(bs (decI nn)).size:=by omega
   rw [←hstr] at HS
   have HK1:=zh hk1
   have HK2:=zh hk2
   have HK3:=zh hk3
   have HK4:=zh hk4
   have HK5:=zh hk5
   have HIX:=zh hix
   have HAI:=zh hai
   have HDU2:=zh hdu
   have HQ:=zh hq
   have HID:=zh hid
   have HCC:=zh hcc
   have HNA:=zh hnna
   have HBA:=zh hbA
   have HBLA:=zh hblA
   have HMK:=zh hmok
   clear hstr hs1 hs2 hk1 hk2 hk3 hk4 hk5 hix hai hdu hbest HR hid hcc hnna hza hzb hmok harows hav hnn hil hak hq hidq hmem hbA hblA
   go_upto_region 6 with fail
   try rw [hwA]
   clear hwA a0 a1 a2 a3 a4 c7
   apply zBn (S:=fun W=>MStO wA ρk G M Lk (mSay (zC rk) cc (zN [yl,decI id,decI nn])) W)
   ·intro R hR
    go_region_held3 (fun w'=>w'.cell? ⟨wo.heap.size,0,none⟩=some (vi id)∧w'.cell? ⟨wo.heap.size,1,none⟩=some (vi nn)∧w'.cell? ⟨wo.heap.size,2,none⟩=some (vi cc)) (go_keep) (first
     | (go_at_call 118;refine (HS.out _ (HK1.out.grow (HBA.out.trans (HB.out.mono HBA.out.size)))).mono ?_;rintro e wc ⟨rfl,hst⟩;have hbx:=zNZ hst ((HB.out.block _ (zF _ HBLA.out)).trans HBLA.out) HNO.out;have b0c:=zB (off:=0) hbx rfl;have b1c:=zB (off:=1) hbx rfl;have b2c:=zB (off:=2) hbx rfl;have HST:=zh (zNj hst HB.out);clear hst hbx)
     | (go_at_call 119;refine (HFG.out _ (by first | exact hidr | exact hnnr) _).mono ?_;rintro e wa ⟨rfl,hb⟩;have HB:Hid (Below wA.heap.size wA wa):=(by first | exact Below.trans HB.out (hb.mono HB.out.size) | exact zAh hb);have b0b:=(HB.out.cell (zW b0)).trans b0;have b1b:=(HB.out.cell (zW b1)).trans b1;have b2b:=(HB.out.cell (zW b2)).trans b2;clear hb))
    all_goals exact hR.out _ HST.out
   intro w2 hst2
   obtain ⟨ρ2,v2,q1,q2⟩:=hst2
   obtain ⟨hbx2,hno2⟩:=zCl q2 HBLA.out HNO.out
   have hI2:=HK3.out.say cc [yl,decI id,decI nn]
   have hm2:=hI2.mok
   have HEN:=zh (zDf (show MRep w2 ρ2 G M _ (zC (rSay rk cc [yl,decI id,decI nn])) from q1) (i:=i) (x:=zV a) HIX.out hm2.2.1 (by
    show (rk.conns.map yt).length≤_
    rw [List.length_map,HK5.out];omega) (by have:=HNP.out;omega) (by have:=HNP.out;omega))
   have hstp:mEnd (zC (rSay rk cc [yl,decI id,decI nn])) i (zV a).conn=zC (zU rk a):=by
    have h1:=zDq hI2 (i:=i) (a:=a) HAI.out
    unfold zU
    rw [HCC.out,HNA.out,HID.out]
    rw [HCC.out] at h1
    exact (congrArg (mEnd _ i) HCC.out).trans h1
   rw [hstp] at HEN
   have HI3:=zh ((HK3.out.stop (List.mem_of_getElem? HAI.out)).mono (Nat.le_refl _) (Nat.sub_le P 1))
   have HQ2:=zh q2
   have HBX2:=zh hbx2
   have HNO2:=zh hno2
   clear q1 q2 hI2 hm2 hstp hbx2 hno2 b0 b1 b2 e1 e2 e3 z1 z2 z3
   go_wp2_with fail
   refine HEN.out.mono ?_
   rintro e w3 ⟨rfl,hst3⟩
   obtain ⟨ρ3,L3,g1,g2⟩:=hst3
   have hbx3:=(zCl g2 HBX2.out HNO2.out).1
   have b0:w3.cell? ⟨wo.heap.size,0,none⟩=some (vi id):=zB hbx3 rfl
   have HAG:=zh (zIs HI3.out g1 (id:=id) (q:=q) (by rw [zFD,←HID.out];exact HQ.out) true (by have:=HNP.out;omega) (by have:=HNP.out;omega) (by rw [zEo,HK5.out];omega))
   have HG2:=zh g2
   clear g1 g2 hbx3 HEN
   go_wp2_with fail
   refine HAG.out.mono ?_
   rintro e w4 ⟨rfl,hst4⟩
   obtain ⟨ρ4,L4,p1,p2⟩:=hst4
   have p1:MRep w4 ρ4 G M L4 (zC (zZ (zU rk a) a.id true)):=by rw [HID.out];exact p1
   have HST4:Hid (Step ρk ρ4 wo w4):=(((Step.still (Fr.of_below HBA.out)).trans HQ2.out).trans HG2.out).trans p2
   have HD4:=zh (HDU.out _ _ _ _ (HK3.out.due1 (zCa HDU2.out)) p1)
   have HP1:=zh p1
   clear p1 p2 HAG b0
   go_wp2_with fail
   refine HD4.out.mono ?_
   rintro e w5 ⟨v5,rfl,hb5,hB5⟩
   have HBE:=zh hb5
   have HB5:=zh hB5
   clear hb5 hB5
   go_wp2_with fail
   go_roundw
   case rel=>exact ⟨v5,rfl,_,zDu.next HK2.out HK3.out HK4.out HK5.out HDU2.out (HP1.out.grow HB5.out) (HST4.out.trans (Step.still (Fr.of_below HB5.out))),HBE.out⟩
   case measure =>
    have h1:=zGm HK3.out (zCa HDU2.out)
    rw [zBo (HP1.out.grow HB5.out),zBo HK1.out]
    show ((zZ (zU rk a) a.id true).atts.map zV).length < (rk.atts.map zV).length
    rw [List.length_map,List.length_map]
    omega
end
end Go.Proofs.YtaejfobbogahmaaGreatDoor
