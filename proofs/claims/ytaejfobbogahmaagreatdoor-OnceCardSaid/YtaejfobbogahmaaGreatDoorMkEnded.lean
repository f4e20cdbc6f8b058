/-
  Ended: texts of their own, joined.
-/
import Derived.Test.YtaejfobbogahmaaGreatDoorMkOnceW
set_option maxRecDepth 100000
set_option maxHeartbeats 16000000
set_option linter.all false
namespace Go.Proofs.YtaejfobbogahmaaGreatDoor
open Go Go.RowKit
structure EAt (w:World) (bo bw:Nat) (A B:Nat→Prop) (oa:Option Addr) (oc:Nat) (wa:Option Addr) (wc:Nat) (n:Nat) (E:List (zA×Int)):Prop where
 len:E.length=n
 bo:w.heap[bo]?=some (.cells #[.slice oa n oc] 47 (0,0))
 bw:w.heap[bw]?=some (.cells #[.slice wa n wc] 46 (0,0))
 so:SlAt w 9 1 A (.slice oa n oc) n (E.map fun e=>vs (bs e.1))
 sw:SlAt w 3 1 B (.slice wa n wc) n (E.map fun e=>vi e.2)
structure EOwn (bo bw:Nat) (A B:Nat→Prop) (w:World):Prop where
 dis:∀b,A b→¬B b
 oA:¬A bo
 oB:¬B bo
 wA:¬A bw
 wB:¬B bw
 ne:bo≠bw
 lt:∀b,A b∨B b→b < w.heap.size
def PrE (bo bw:Nat) (A B:Nat→Prop):Nat→Prop:=fun b=>b=bo∨b=bw∨A b∨B b
inductive zAf (t:zA) (c:Int) (E:List (zA×Int)):List zA→List (zA×Int)→Prop
 | oth {x:zA} {ws:List zA}:Oth x→zAf t c E (x::ws) E
 | run {s a b d:zA} {i:Nat} {c':Int}:(∀a,AtIs E s E.length a→a=i)→E[i]?=some (s,c')→0≤c'→zAf t c E [wRun,s,a,b,d] E
 | acc {s:zA}:(∀a,AtIs E s E.length a→a = -1)→zAf t c E [wAcc,s] (E++[(s,c)])
 | fin {w s:zA} {i:Nat}:w=wErr∨w=zAU→(∀a,AtIs E s E.length a→a=i)→E[i]?=some (s,c)→zAf t c E [w,s] (E.set i ([],-1))
 | val {s x n:zA} {i:Nat}:(∀a,AtIs E s E.length a→a=i)→E[i]?=some (s,c)→cut 32 t=[yE,s,n,x]→t.length≤140737488355328→zAf t c E [wVal,s,x] (E.set i ([],-1))
def xx (w:World) (bo bw:Nat) (A B:Nat→Prop) (E':List (zA×Int)) (e:Ending) (w':World):Prop:=
 e=.returned (.bool true)∧∃(A' B':Nat→Prop) (oa:Option Addr) (oc:Nat) (wa:Option Addr) (wc n:Nat),EAt w' bo bw A' B' oa oc wa wc n E'∧EOwn bo bw A' B' w'∧(∀b,A' b→A b∨w.heap.size≤b)∧(∀b,B' b→B b∨w.heap.size≤b)∧Fr (PrE bo bw A B) w w'
theorem xx.same {w w':World} {bo bw:Nat} {A B:Nat→Prop} {oa wa:Option Addr} {oc wc n:Nat} {E:List (zA×Int)} (h:EAt w bo bw A B oa oc wa wc n E) (ho:EOwn bo bw A B w) (hw:w'=w):xx w bo bw A B E (.returned (.bool true)) w':=by
 subst hw
 exact ⟨rfl,A,B,oa,oc,wa,wc,n,h,ho,fun _ h=>.inl h,fun _ h=>.inl h,Fr.refl _ _⟩
theorem zNs {w w3:World} {bo bw:Nat} {A B:Nat→Prop} {oa wa:Option Addr} {oc wc n:Nat} {E:List (zA×Int)} (h:EAt w bo bw A B oa oc wa wc n E) (ho:EOwn bo bw A B w) {o:Obj} {g:Nat} (hg:A g∨g=(w.drew.alloc o).heap.size) (hf:Fr (fun b=>b=g) (w.drew.alloc o) w3) :
 g≠bo∧g≠bw∧¬B g∧w3.heap[bo]?=w.heap[bo]?∧w3.heap[bw]?=w.heap[bw]?∧SlAt w3 3 1 B (.slice wa n wc) n (E.map fun e=>vi e.2)∧Fr (PrE bo bw A B) w w3∧(A g∨w.heap.size≤g)∧w.heap.size≤w3.heap.size:=by
 have l1:=zD w h.bo
 have l2:=zD w h.bw
 have hz:(w.drew.alloc o).heap.size=w.heap.size+1:=by rw [World.size_alloc];rfl
 have hg2:A g∨w.heap.size≤g:=hg.imp id (fun e=>by omega)
 have n1:g≠bo:=fun e=>by subst e;rcases hg with hg | hg;exact ho.oA hg;omega
 have n2:g≠bw:=fun e=>by subst e;rcases hg with hg | hg;exact ho.wA hg;omega
 have n3:¬B g:=fun e=>by
  rcases hg with hg | hg
  ·exact ho.dis g hg e
  ·have:=ho.lt g (.inr e);omega
 have blk:∀b,b < w.heap.size→b≠g→w3.heap[b]?=w.heap[b]?:=fun b hb hne=>(hf.block b (by omega) hne).trans (zM w.drew hb)
 refine ⟨n1,n2,n3,blk bo l1 (Ne.symm n1),blk bw l2 (Ne.symm n2),h.sw.of_blk (fun b hb hl=>blk b hl (fun e=>n3 (by rw [←e];exact hb))) (fun _ h _=>h),?_,hg2,by have:=hf.size;omega⟩
 exact ((Fr.drew (Fr.refl (PrE bo bw A B) w)).alloc o).trans hf (fun x hx=>by
  have hx:x=g:=hx
  subst hx
  exact hg2.imp (fun h=>.inr (.inr (.inl h))) id)
theorem zNt {w w3 w5:World} {bo bw:Nat} {A B:Nat→Prop} {oa wa ga:Option Addr} {oc wc n gc:Nat} {E:List (zA×Int)} {xs:List Value} (h:EAt w bo bw A B oa oc wa wc n E) (ho:EOwn bo bw A B w) {g:Nat} (hg:A g∨w.heap.size≤g) (nB:¬B g) (hgl:g < w3.heap.size)
 (ho3:w3.heap[bo]?=w.heap[bo]?) (hw3:w3.heap[bw]?=w.heap[bw]?) (hs:SlAt w3 9 1 (fun b=>b=g) (.slice ga (n+1) gc) (n+1) xs) (hf3:Fr (PrE bo bw A B) w w3)
 {o:Obj} {g2:Nat} (hg2:B g2∨g2=(w3.alloc o).heap.size) (hf:Fr (fun b=>b=g2) (w3.alloc o) w5) :
 g2≠bo∧g2≠bw∧g2≠g∧w5.heap[bo]?=w.heap[bo]?∧w5.heap[bw]?=w.heap[bw]?∧SlAt w5 9 1 (fun b=>b=g) (.slice ga (n+1) gc) (n+1) xs∧Fr (PrE bo bw A B) w w5∧(B g2∨w.heap.size≤g2)∧w3.heap.size≤w5.heap.size:=by
 have l1:=zD w h.bo
 have l2:=zD w h.bw
 have l3:=hf3.size
 have hz:(w3.alloc o).heap.size=w3.heap.size+1:=by rw [World.size_alloc]
 have n1:g2≠bo:=fun e=>by subst e;rcases hg2 with hg | hg;exact ho.oB hg;omega
 have n2:g2≠bw:=fun e=>by subst e;rcases hg2 with hg | hg;exact ho.wB hg;omega
 have n3:g2≠g:=fun e=>by subst e;rcases hg2 with hg | hg;exact nB hg;omega
 have hgw:B g2∨w.heap.size≤g2:=hg2.imp id (fun e=>by omega)
 have blk:∀b,b < w3.heap.size→b≠g2→w5.heap[b]?=w3.heap[b]?:=fun b hb hne=>(hf.block b (by omega) hne).trans (zM w3 hb)
 refine ⟨n1,n2,n3,(blk bo (by omega) (Ne.symm n1)).trans ho3,(blk bw (by omega) (Ne.symm n2)).trans hw3,hs.of_blk (fun b hb hl=>blk b hl (fun e=>n3 (by rw [←e];exact hb))) (fun _ h _=>h),?_,hgw,by have:=hf.size;omega⟩
 exact (hf3.alloc o).trans hf (fun x hx=>by
  have hx:x=g2:=hx
  subst hx
  exact hgw.imp (fun h=>.inr (.inr (.inr h))) id)
theorem zNu {w w5:World} {bo bw:Nat} {A B:Nat→Prop} {E:List (zA×Int)} {x:zA} {c:Int} {n g goff gcap g2 goff2 gcap2:Nat} (hl:E.length=n) (hbo:∃v,w5.heap[bo]?=some (.cells #[v] 47 (0,0))) (hbw:∃v,w5.heap[bw]?=some (.cells #[v] 46 (0,0)))
 (n1:g≠bo) (n2:g≠bw) (m1:g2≠bo) (m2:g2≠bw) (m3:g2≠g) (hne:bo≠bw) (hgl:g < w5.heap.size) (hgl2:g2 < w5.heap.size)
 (hs:SlAt w5 9 1 (fun b=>b=g) (.slice (some ⟨g,goff,none⟩) (n+1) gcap) (n+1) ((E.map fun e=>vs (bs e.1))++[vs (bs x)])) (hs2:SlAt w5 3 1 (fun b=>b=g2) (.slice (some ⟨g2,goff2,none⟩) (n+1) gcap2) (n+1) ((E.map fun e=>vi e.2)++[vi c]))
 (hf:Fr (PrE bo bw A B) w w5) (hgA:A g∨w.heap.size≤g) (hgB:B g2∨w.heap.size≤g2) :
 xx w bo bw A B (E++[(x,c)]) (.returned (.bool true)) ((w5.setCell ⟨bo,0,none⟩ (.slice (some ⟨g,goff,none⟩) (n+1) gcap)).setCell ⟨bw,0,none⟩ (.slice (some ⟨g2,goff2,none⟩) (n+1) gcap2)):=by
 obtain ⟨v1,hbo⟩:=hbo
 obtain ⟨v2,hbw⟩:=hbw
 refine ⟨rfl,fun b=>b=g,fun b=>b=g2,some ⟨g,goff,none⟩,gcap,some ⟨g2,goff2,none⟩,gcap2,n+1,⟨by rw [List.length_append,hl];rfl,?_,?_,?_,?_⟩,⟨fun b h1 h2=>m3 (h2.symm.trans h1),Ne.symm n1,Ne.symm m1,Ne.symm n2,Ne.symm m2,hne,fun b hb=>?_⟩,fun b hb=>by rw [show b=g from hb];exact hgA,fun b hb=>by rw [show b=g2 from hb];exact hgB,?_⟩
 ·exact (zG _ hne).trans (zO _ (off:=0) (v:=.slice (some ⟨g,goff,none⟩) (n+1) gcap) hbo)
 ·exact zO _ (off:=0) (v:=.slice (some ⟨g2,goff2,none⟩) (n+1) gcap2) ((zG _ (Ne.symm hne)).trans hbw)
 ·rw [List.map_append]
  exact hs.of_blk (fun b hb _=>by rw [show b=g from hb];exact (zG _ n2).trans (zG _ n1)) (fun _ h _=>h)
 ·rw [List.map_append]
  exact hs2.of_blk (fun b hb _=>by rw [show b=g2 from hb];exact (zG _ m2).trans (zG _ m1)) (fun _ h _=>h)
 ·simp only [World.size_setCell]
  rcases hb with hb | hb
  ·rw [show b=g from hb];exact hgl
  ·rw [show b=g2 from hb];exact hgl2
 ·exact (hf.setCell _ _ (.inl (.inl rfl))).setCell _ _ (.inl (.inr (.inl rfl)))
theorem EAt.below {w w':World} {bo bw:Nat} {A B:Nat→Prop} {oa wa:Option Addr} {oc wc n:Nat} {E:List (zA×Int)} (h:EAt w bo bw A B oa oc wa wc n E) (hb:Below w.heap.size w w'):EAt w' bo bw A B oa oc wa wc n E:=
 ⟨h.len,(hb.block _ (zD _ h.bo)).trans h.bo,(hb.block _ (zD _ h.bw)).trans h.bw,h.so.of_blk (fun b _ hl=>hb.block b hl) (fun _ h _=>h),h.sw.of_blk (fun b _ hl=>hb.block b hl) (fun _ h _=>h)⟩
theorem EOwn.le {w w':World} {bo bw:Nat} {A B:Nat→Prop} (h:EOwn bo bw A B w) (hb:w.heap.size≤w'.heap.size):EOwn bo bw A B w':=
 ⟨h.dis,h.oA,h.oB,h.wA,h.wB,h.ne,fun b hb'=>Nat.lt_of_lt_of_le (h.lt b hb') hb⟩
theorem zEr {w0 w:World} {bo bw:Nat} {A B:Nat→Prop} {ob wb ooff woff oc wc n i:Nat} {E:List (zA×Int)} (h:EAt w bo bw A B (some ⟨ob,ooff,none⟩) oc (some ⟨wb,woff,none⟩) wc n E) (ho:EOwn bo bw A B w) (hb:Below w0.heap.size w0 w) (ha:A ob) (hw:B wb) (hi:i < n) :
 xx w0 bo bw A B (E.set i ([],-1)) (.returned (.bool true)) ((w.setCell ⟨wb,woff+i,none⟩ (vi (-1))).setCell ⟨ob,ooff+i,none⟩ (vs (bs []))):=by
 have d1:ob≠wb:=fun e=>ho.dis ob ha (by rw [e];exact hw)
 have d2:ob≠bo:=fun e=>ho.oA (by rw [←e];exact ha)
 have d3:ob≠bw:=fun e=>ho.wA (by rw [←e];exact ha)
 have d4:wb≠bo:=fun e=>ho.oB (by rw [←e];exact hw)
 have d5:wb≠bw:=fun e=>ho.wB (by rw [←e];exact hw)
 refine ⟨rfl,fun b=>b=ob,fun b=>b=wb,some ⟨ob,ooff,none⟩,oc,some ⟨wb,woff,none⟩,wc,n,⟨by rw [List.length_set];exact h.len,?_,?_,?_,?_⟩,⟨fun b h1 h2=>d1 (h1.symm.trans h2),Ne.symm d2,Ne.symm d4,Ne.symm d3,Ne.symm d5,ho.ne,fun b hb=>?_⟩,fun b hb=>by rw [show b=ob from hb];exact .inl ha,fun b hb=>by rw [show b=wb from hb];exact .inl hw,?_⟩
 ·exact (zG _ (Ne.symm d2)).trans ((zG _ (Ne.symm d4)).trans h.bo)
 ·exact (zG _ (Ne.symm d3)).trans ((zG _ (Ne.symm d5)).trans h.bw)
 ·rw [List.map_set]
  refine SlAt.set (own:=fun b=>b=ob) (SlAt.of_blk (w:=w) (own:=fun b=>b=ob) ?_ (fun b hb _=>by rw [show b=ob from hb];exact zG _ d1) (fun _ h _=>h)) hi _
  rcases h.so with ⟨e,_⟩ | ⟨b,off,cap,cs,e,g⟩
  ·cases e
  ·injection e with e1 e2 e3
   injection e1 with e1
   injection e1 with e4 e5
   subst e4;subst e5;subst e3
   exact .inr ⟨ob,ooff,oc,cs,rfl,rfl,g.2⟩
 ·rw [List.map_set]
  refine SlAt.of_blk (w:=w.setCell ⟨wb,woff+i,none⟩ (vi (-1))) (own:=fun b=>b=wb) ?_ (fun b hb _=>by rw [show b=wb from hb];exact zG _ (Ne.symm d1)) (fun _ h _=>h)
  refine SlAt.set (own:=fun b=>b=wb) ?_ hi _
  rcases h.sw with ⟨e,_⟩ | ⟨b,off,cap,cs,e,g⟩
  ·cases e
  ·injection e with e1 e2 e3
   injection e1 with e1
   injection e1 with e4 e5
   subst e4;subst e5;subst e3
   exact .inr ⟨wb,woff,wc,cs,rfl,rfl,g.2⟩
 ·simp only [World.size_setCell]
  rcases hb with hb | hb
  ·rw [show b=ob from hb];exact ho.lt ob (.inl ha)
  ·rw [show b=wb from hb];exact ho.lt wb (.inr hw)
 ·exact ((Fr.of_below (S:=PrE bo bw A B) hb).setCell _ _ (.inl (.inr (.inr (.inr hw))))).setCell _ _ (.inl (.inr (.inr (.inl ha))))
theorem zNv {w:World} {bo bw:Nat} {A B X:Nat→Prop} {oa wa xa:Option Addr} {oc wc n xc:Nat} {E E':List (zA×Int)} (h:EAt w bo bw A B oa oc wa wc n E) (ho:EOwn bo bw A B w) (hn:n≤1000000) (c:Int) {x:zA} {ws:List zA} (hx:SlAt w 9 1 X (.slice xa (ws.length+1) xc) (ws.length+1) ((x::ws).map encB)) (hwl:ws.length≤1000000) (t:zA) (hst:zAf t c E (x::ws) E') :
 Calls Tryz.prog 31 #[vp bo,vp bw,vi c,.slice xa (ws.length+1) xc,vs (bs t)] w (xx w bo bw A B E'):=by
 obtain ⟨xb,xoff,xc',hxe,_,_,_,_,hxc,_⟩:=hx.form (Nat.succ_pos _)
 injection hxe with hxe _ hxe2
 subst hxe;subst hxe2
 have x0:w.cell? ⟨xb,xoff,none⟩=some (vs (bs x)):=hxc 0 _ rfl
 have co:w.cell? ⟨bo,0,none⟩=some (.slice oa n oc):=zB h.bo rfl
 have HH:=zh h
 have HO:=zh ho
 have HXC:=zh hxc
 obtain ⟨m,hm⟩:∃m,ws.length=m:=⟨_,rfl⟩
 have HM:=zh hm
 rw [hm] at hwl ⊢
 clear h ho hx hxc hm
 go_enter Tryz.func31,Tryz.ntmps31
 go_upto_if 19 with (fail)
 generalize hbz:decide ((1:Int) < (m:Int)+1)=bz
 have HBZ:=zh hbz
 clear hbz
 go_cut [11,12,13] from 20 to 35 (fun s11 s12 s13 wx=>(∃a:Int,s11=vi a∧Hid (∀y ys,ws=y::ys→AtIs E y n a))∧wx=w)
 case first =>
  cases bz with
  | false =>
    go_wp2_with fail
    go_meet
    case rel=>exact ⟨⟨_,rfl,fun y ys h=>by have h1:=of_decide_eq_false HBZ.out;have h2:=HM.out;rw [h] at h2;simp at h2;omega⟩,rfl⟩
  | true =>
    have hm0:0 < m:=by have:=of_decide_eq_true HBZ.out;omega
    have hm1:(1:Int) < (m:Int)+1:=by omega
    obtain ⟨y,ys,hys⟩:∃y ys,ws=y::ys:=by
     cases ws with
     | nil=>have:=HM.out;simp at this;omega
     | cons y ys=>exact ⟨y,ys,rfl⟩
    have HYS:=zh hys
    have x1:w.cell? ⟨xb,xoff+1,none⟩=some (vs (bs y)):=HXC.out 1 _ (by rw [hys];rfl)
    clear hys
    go_wp2_with fail
    go_loopw [11,12,13,24] (fun s11 s12 s13 s24 wx=>∃(k:Nat) (a:Int),s24=vi k∧s11=vi a∧k≤n∧Hid (AtIs E y k a)∧wx=w) (fun _ _ _ s24 _=>n - (intOf s24).toNat)
    case atStart=>exact ⟨0,-1,by go_num,rfl,by omega,AtIs.start _ _,rfl⟩
    case round =>
     obtain ⟨k,a,rfl,rfl,hk,HAT,rfl⟩:=hrel
     by_cases hkn:k < n
     ·have hlt:decide ((k:Int) < (n:Int))=true:=decide_eq_true (by omega)
      have hk0:(0:Int)≤(k:Int):=by omega
      have hk1:(k:Int) < (n:Int):=by omega
      obtain ⟨e,he⟩:∃e,E[k]?=some e:=⟨_,List.getElem?_eq_getElem (by rw [HH.out.len];exact hkn)⟩
      obtain ⟨ob,ooff,oc',hoe,_,_,_,_,hoc,_⟩:=HH.out.so.form (by omega)
      injection hoe with hoe _ hoe2
      subst hoe;subst hoe2
      have ok:wr.cell? ⟨ob,ooff+k,none⟩=some (vs (bs e.1)):=hoc k _ (by rw [List.getElem?_map,he];rfl)
      have HE:=zh he
      clear hoc he
      by_cases hey:e.1=y
      ·have hq2:((bs e.1).toList==(bs y).toList)=true:=by rw [hey];simp
       go_wp2_with fail
       go_roundw
       case rel=>exact ⟨k+1,k,by go_num,rfl,by omega,AtIs.hit HE.out hey,trivial⟩
       case measure=>simp [intOf];omega
      ·have hne:bs e.1≠bs y:=fun h=>hey (by have:=congrArg ByteArray.toList h;rwa [yJ,yJ] at this)
       have hq2:((bs e.1).toList==(bs y).toList)=false:=beq_eq_false_iff_ne.2 (by rw [yJ,yJ];exact hey)
       go_wp2_with fail
       go_roundw
       case rel=>exact ⟨k+1,a,by go_num,rfl,by omega,HAT.out.miss HE.out hey,trivial⟩
       case measure=>simp [intOf];omega
     ·obtain rfl:k=n:=by omega
      have hlt:decide ((k:Int) < (k:Int))=false:=by simp
      go_wp2_with fail
      go_meet
      case rel=>exact ⟨⟨_,rfl,fun y2 ys2 h=>by have h2:=HYS.out.symm.trans h;injection h2 with h3 h4;subst h3;exact HAT.out⟩,rfl⟩
 case rest =>
 obtain ⟨⟨a,rfl,HA⟩,rfl⟩:=hcut
 have HST:=zh hst
 clear hst
 cases HST.out with
 | @oth _ _ ho =>
  rcases ho with rfl | rfl | rfl | rfl | rfl
  ·rw [show bs yf=(⟨#[115,116,111,112]⟩:ByteArray) from rfl] at x0
   go_wp2_with fail
   go_ret
   exact xx.same HH.out HO.out rfl
  ·rw [show bs wRej=(⟨#[114,101,106]⟩:ByteArray) from rfl] at x0
   go_wp2_with fail
   go_ret
   exact xx.same HH.out HO.out rfl
  ·rw [show bs zAA=(⟨#[110,111,110,101]⟩:ByteArray) from rfl] at x0
   go_wp2_with fail
   go_ret
   exact xx.same HH.out HO.out rfl
  ·rw [show bs wBad=(⟨#[98,97,100]⟩:ByteArray) from rfl] at x0
   go_wp2_with fail
   go_ret
   exact xx.same HH.out HO.out rfl
  ·rw [show bs oBye=(⟨#[98,121,101]⟩:ByteArray) from rfl] at x0
   go_wp2_with fail
   go_ret
   exact xx.same HH.out HO.out rfl
 | @run s a1 b1 d1 i c' ha hi hc =>
   obtain rfl:m=4:=HM.out.symm
   have hai:a=i:=ha a (by rw [HH.out.len];exact HA.out _ _ rfl)
   subst hai
   have hin:i < n:=by have:=(List.getElem?_eq_some_iff.1 hi).1;rw [HH.out.len] at this;exact this
   obtain ⟨wb,woff,wc',hwe,_,_,_,_,hwc,_⟩:=HH.out.sw.form (by omega)
   injection hwe with hwe _ hwe2
   subst hwe;subst hwe2
   have wk:wc.cell? ⟨wb,woff+i,none⟩=some (vi c'):=hwc i _ (by rw [List.getElem?_map,hi];rfl)
   have cw:wc.cell? ⟨bw,0,none⟩=some (.slice (some ⟨wb,woff,none⟩) n _):=zB HH.out.bw rfl
   have hge:decide ((i:Int)≥0)=true:=decide_eq_true (by omega)
   have hge2:decide (c'≥0)=true:=decide_eq_true hc
   have hi0:(0:Int)≤(i:Int):=by omega
   have hi1:(i:Int) < (n:Int):=by omega
   rw [show bs wRun=(⟨#[114,117,110]⟩:ByteArray) from rfl] at x0
   clear ha hi hwc
   go_wp2_with fail
   go_ret
   exact xx.same HH.out HO.out rfl
 | @acc s ha =>
   obtain rfl:m=1:=HM.out.symm
   have hai:a = -1:=ha a (by rw [HH.out.len];exact HA.out _ _ rfl)
   subst hai
   have x1:wc.cell? ⟨xb,xoff+1,none⟩=some (vs (bs s)):=HXC.out 1 _ rfl
   have cw:wc.cell? ⟨bw,0,none⟩=some (.slice wa n _):=zB HH.out.bw rfl
   rw [show bs wAcc=(⟨#[97,99,99]⟩:ByteArray) from rfl] at x0
   have nbo:bo≠bw:=HO.out.ne
   have nbw:bw≠bo:=Ne.symm nbo
   have HBD:=zh (show n+1≤maxLen∧(n+1)*16≤140737488355328∧(n+1)*8≤140737488355328 by unfold maxLen;omega)
   have HS1:Hid (SlAt (wc.drew.alloc (.cells #[vs (bs s)] 9)) 9 1 A (.slice oa n oc) n (E.map fun e=>vs (bs e.1))):=HH.out.so.of_blk (fun b _ hl=>zM wc.drew hl) (fun _ h _=>h)
   clear ha
   go_wp2_with fail
   have cA:(wc.alloc (.cells #[vs (bs s)] 9)).drew.cell? ⟨bo,0,none⟩=some (.slice oa n oc):=zB (w:=(wc.alloc (.cells #[vs (bs s)] 9)).drew) ((zM wc (zD wc HH.out.bo)).trans HH.out.bo) rfl
   go_region_law ((refine zBQ _ (by rfl) _ _ _ _ (by rfl) zAi (by rfl) HS1.out (by rfl) (yn wc.drew Tryz.underlying47 [vs (bs s)] (by rfl) (by simp [Value.oneCell']) wc.heap.size (by simp)) (by omega) HBD.out.1 HBD.out.2.1 ?_;intro gg goff gcap w3 hg3 hs3 hf3 hlt3 _ _;have HK:=zh (And.intro hs3 (And.intro hlt3 (zNs HH.out HO.out hg3 hf3)));clear hs3 hlt3 hg3 hf3))
   all_goals
    have c3:w3.cell? ⟨bw,0,none⟩=some (.slice wa n _):=zB (HK.out.2.2.2.2.2.2.1.trans HH.out.bw) rfl
    have HS5:Hid (SlAt (w3.alloc (.cells #[vi c] 3)) 3 1 B (.slice wa n _) n (E.map fun e=>vi e.2)):=HK.out.2.2.2.2.2.2.2.1.of_blk (fun b _ hl=>zM w3 hl) (fun _ h _=>h)
    go_wp2_with (at_builtin;refine xU _ rfl _ _ _ _ rfl zBR rfl HS5.out rfl (yn w3 Tryz.underlying46 [vi c] (by rfl) (by simp [Value.oneCell']) w3.heap.size (by simp)) (by omega) HBD.out.1 HBD.out.2.2 ?_;intro g2 goff2 gcap2 w5 hg5 hs5 hf5 hlt5 _ _;have HL:=zh (And.intro hs5 (And.intro hlt5 (zNt HH.out HO.out HK.out.2.2.2.2.2.2.2.2.2.1 HK.out.2.2.2.2.1 HK.out.2.1 HK.out.2.2.2.2.2.1 HK.out.2.2.2.2.2.2.1 HK.out.1 HK.out.2.2.2.2.2.2.2.2.1 hg5 hf5)));have c5:w5.cell? ⟨bo,0,none⟩=some (.slice oa n oc):=zB (HL.out.2.2.2.2.2.1.trans HH.out.bo) rfl;have c6:w5.cell? ⟨bw,0,none⟩=some (.slice wa n _):=zB (HL.out.2.2.2.2.2.2.1.trans HH.out.bw) rfl;have f5:w5.frozen? ⟨bo,0,none⟩=false:=zK (HL.out.2.2.2.2.2.1.trans HH.out.bo);have f6:w5.frozen? ⟨bw,0,none⟩=false:=zK (HL.out.2.2.2.2.2.2.1.trans HH.out.bw);clear hg5 hs5 hf5 hlt5)
    go_ret
    exact zNu HH.out.len ⟨_,HL.out.2.2.2.2.2.1.trans HH.out.bo⟩ ⟨_,HL.out.2.2.2.2.2.2.1.trans HH.out.bw⟩ HK.out.2.2.1 HK.out.2.2.2.1 HL.out.2.2.1 HL.out.2.2.2.1 HL.out.2.2.2.2.1 HO.out.ne (Nat.lt_of_lt_of_le HK.out.2.1 HL.out.2.2.2.2.2.2.2.2.2.2) HL.out.2.1 HL.out.2.2.2.2.2.2.2.1 HL.out.1 HL.out.2.2.2.2.2.2.2.2.1 HK.out.2.2.2.2.2.2.2.2.2.1 HL.out.2.2.2.2.2.2.2.2.2.1
 | @fin wd s i hw ha hi =>
   obtain rfl:m=1:=HM.out.symm
   have hai:a=i:=ha a (by rw [HH.out.len];exact HA.out _ _ rfl)
   subst hai
   have hin:i < n:=by have:=(List.getElem?_eq_some_iff.1 hi).1;rw [HH.out.len] at this;exact this
   obtain ⟨wb,woff,wc',hwe,hwB,_,_,_,hwc,hwf⟩:=HH.out.sw.form (by omega)
   injection hwe with hwe _ hwe2
   subst hwe;subst hwe2
   obtain ⟨ob,ooff,oc',hoe,hoA,_,_,_,hoc,hof⟩:=HH.out.so.form (by omega)
   injection hoe with hoe _ hoe2
   subst hoe;subst hoe2
   have hlt:decide ((i:Int) < 0)=false:=decide_eq_false (by omega)
   have hi0:(0:Int)≤(i:Int):=by omega
   have hi1:(i:Int) < (n:Int):=by omega
   have HAB:=zh (And.intro hoA hwB)
   have wbo:wb≠bo:=fun e=>HO.out.oB (by rw [←e];exact hwB)
   have obw:ob≠wb:=fun e=>HO.out.dis ob hoA (by rw [e];exact hwB)
   have wk:wc.cell? ⟨wb,woff+i,none⟩=some (vi c):=hwc i _ (by rw [List.getElem?_map,hi];rfl)
   have cw:wc.cell? ⟨bw,0,none⟩=some (.slice (some ⟨wb,woff,none⟩) n _):=zB HH.out.bw rfl
   have fw:wc.frozen? ⟨wb,woff+i,none⟩=false:=hwf _
   have co2:(wc.setCell ⟨wb,woff+i,none⟩ (vi (-1))).cell? ⟨bo,0,none⟩=some (.slice (some ⟨ob,ooff,none⟩) n _):=zB ((zG _ (Ne.symm wbo)).trans HH.out.bo) rfl
   have fo2:wc.frozen? ⟨ob,ooff+i,none⟩=false:=hof _
   have co3:wc.cell? ⟨ob,ooff+i,none⟩=some (vs (bs s)):=hoc i _ (by rw [List.getElem?_map,hi];rfl)
   clear ha hi hwc hwf hof hoc
   rcases hw with rfl | rfl
   ·rw [show bs wErr=(⟨#[101,114,114]⟩:ByteArray) from rfl] at x0
    go_wp2_with fail
    go_ret
    exact zEr HH.out HO.out (Below.refl _ _) HAB.out.1 HAB.out.2 hin
   ·rw [show bs zAU=(⟨#[103,111,110,101]⟩:ByteArray) from rfl] at x0
    go_wp2_with fail
    go_ret
    exact zEr HH.out HO.out (Below.refl _ _) HAB.out.1 HAB.out.2 hin
 | @val s y nn i ha hi hcut htl =>
   obtain rfl:m=2:=HM.out.symm
   have hai:a=i:=ha a (by rw [HH.out.len];exact HA.out _ _ rfl)
   subst hai
   have hin:i < n:=by have:=(List.getElem?_eq_some_iff.1 hi).1;rw [HH.out.len] at this;exact this
   obtain ⟨wb,woff,wc',hwe,hwB,_,_,_,hwc,hwf⟩:=HH.out.sw.form (by omega)
   injection hwe with hwe _ hwe2
   subst hwe;subst hwe2
   obtain ⟨ob,ooff,oc',hoe,hoA,_,_,_,hoc,hof⟩:=HH.out.so.form (by omega)
   injection hoe with hoe _ hoe2
   subst hoe;subst hoe2
   have hlt:decide ((i:Int) < 0)=false:=decide_eq_false (by omega)
   have hi0:(0:Int)≤(i:Int):=by omega
   have hi1:(i:Int) < (n:Int):=by omega
   have HAB:=zh (And.intro hoA hwB)
   have wbo:wb≠bo:=fun e=>HO.out.oB (by rw [←e];exact hwB)
   have obw:ob≠wb:=fun e=>HO.out.dis ob hoA (by rw [e];exact hwB)
   have wk:wc.cell? ⟨wb,woff+i,none⟩=some (vi c):=hwc i _ (by rw [List.getElem?_map,hi];rfl)
   have cw:wc.cell? ⟨bw,0,none⟩=some (.slice (some ⟨wb,woff,none⟩) n _):=zB HH.out.bw rfl
   have co3:wc.cell? ⟨ob,ooff+i,none⟩=some (vs (bs s)):=hoc i _ (by rw [List.getElem?_map,hi];rfl)
   rw [show bs wVal=(⟨#[118,97,108]⟩:ByteArray) from rfl] at x0
   have HWD:=zh (zHk t htl (by rw [hcut];simp))
   have HX0:=zh x0
   have HC:=zh hcut
   clear ha hi hwc hwf hof hoc hcut htl
   go_wp2_with fail
   refine (HWD.out _).mono ?_
   rintro e w1 ⟨v,rfl,hs,hb⟩
   rw [HC.out] at hs
   obtain ⟨yb,yoff,yc,hye,_,_,_,_,hyc,_⟩:=hs.form (by simp)
   subst hye
   have y0:w1.cell? ⟨yb,yoff,none⟩=some (vs (⟨#[100,111,110,101]⟩:ByteArray)):=hyc 0 _ rfl
   have y1:w1.cell? ⟨yb,yoff+1,none⟩=some (vs (bs s)):=hyc 1 _ rfl
   have y3:w1.cell? ⟨yb,yoff+3,none⟩=some (vs (bs y)):=hyc 3 _ rfl
   have x11:w1.cell? ⟨xb,xoff+1,none⟩=some (vs (bs s)):=xu hb (HXC.out 1 _ rfl)
   have x12:w1.cell? ⟨xb,xoff+2,none⟩=some (vs (bs y)):=xu hb (HXC.out 2 _ rfl)
   have HH1:=zh (HH.out.below hb)
   have HO1:=zh (HO.out.le hb.size)
   have HB1:=zh hb
   have cw1:w1.cell? ⟨bw,0,none⟩=some (.slice (some ⟨wb,woff,none⟩) n _):=zB HH1.out.bw rfl
   have co1:w1.cell? ⟨bo,0,none⟩=some (.slice (some ⟨ob,ooff,none⟩) n _):=zB HH1.out.bo rfl
   have fw1:w1.frozen? ⟨wb,woff+i,none⟩=false:=by obtain ⟨_,_,_,e,_,_,_,_,_,f⟩:=HH1.out.sw.form (by omega);injection e with e;injection e with e;injection e with e;subst e;exact f _
   have co2:(w1.setCell ⟨wb,woff+i,none⟩ (vi (-1))).cell? ⟨bo,0,none⟩=some (.slice (some ⟨ob,ooff,none⟩) n _):=zB ((zG _ (Ne.symm wbo)).trans HH1.out.bo) rfl
   have fo2:w1.frozen? ⟨ob,ooff+i,none⟩=false:=by obtain ⟨_,_,_,e,_,_,_,_,_,f⟩:=HH1.out.so.form (by omega);injection e with e;injection e with e;injection e with e;subst e;exact f _
   have co31:w1.cell? ⟨ob,ooff+i,none⟩=some (vs (bs s)):=xu HB1.out co3
   have wk1:w1.cell? ⟨wb,woff+i,none⟩=some (vi c):=xu HB1.out wk
   clear hs hb hyc x0 cw wk co3
   go_wp2_with fail
   go_quiet (fail)
   go_wp2_with fail
   go_ret
   exact zEr (HH1.out.below (zAK (Below.refl _ _) _)) (HO1.out.le (by simp)) (zAK HB1.out _) HAB.out.1 HAB.out.2 hin
end Go.Proofs.YtaejfobbogahmaaGreatDoor
