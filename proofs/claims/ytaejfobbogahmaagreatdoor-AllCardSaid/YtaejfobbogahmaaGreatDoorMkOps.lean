/-
  Ops Played OpsIn: texts of their own, joined.
-/
import Derived.Test.YtaejfobbogahmaaGreatDoorMkRep
import Derived.Deep.Slices
import Derived.Deep.Fields
import Derived.ChangeSame
import Derived.SizedLaws
set_option maxRecDepth 100000
set_option maxHeartbeats 16000000
set_option linter.all false
namespace Go.Proofs.YtaejfobbogahmaaGreatDoor
open Go Go.RowKit
structure OpD where
 kind:Int
 a:Int
 b:Int
 c:Cfg
 s:zA
def za (o:OpD):Array Value:=#[vi o.kind,vi o.a,vi o.b,vi o.c.lease,vi o.c.retries,vi o.c.cap,vi o.c.bound,vi o.c.hedge,vs (bs o.s)]
def zCP (w:World) (a:Option Addr) (ops:List OpD):Prop:=∀j o,ops[j]?=some o→∃b off,a=some ⟨b,off,none⟩∧∀k v,(za o)[k]?=some v→w.cell? ⟨b,off+j*9+k,none⟩=some v
theorem zSn {w:World} {a:Addr} {v:Value} (h:w.cell? a=some v):a.block < w.heap.size:=by
 rcases Nat.lt_or_ge a.block w.heap.size with h1 | h1
 ·exact h1
 ·rw [World.cell?,Array.getElem?_eq_none h1] at h;simp at h
theorem zCP.below {w w':World} {a:Option Addr} {ops:List OpD} (h:zCP w a ops) (hb:Below w.heap.size w w'):zCP w' a ops:=fun j o hj=>by
 obtain ⟨b,off,he,hc⟩:=h j o hj
 refine ⟨b,off,he,fun k v hk=>?_⟩
 have h1:=hc k v hk
 rw [hb.cell (zSn h1)]
 exact h1
theorem zCP.cells {w:World} {a:Option Addr} {ops:List OpD} (h:zCP w a ops) {k:Nat} {o:OpD} (hk:ops[k]?=some o):∃b off,a=some ⟨b,off,none⟩ ∧
 w.cell? ⟨b,off+k*9,none⟩=some (vi o.kind)∧w.cell? ⟨b,off+k*9+1,none⟩=some (vi o.a)∧w.cell? ⟨b,off+k*9+2,none⟩=some (vi o.b)∧w.cell? ⟨b,off+k*9+3,none⟩=some (vi o.c.lease)∧w.cell? ⟨b,off+k*9+4,none⟩=some (vi o.c.retries)∧w.cell? ⟨b,off+k*9+5,none⟩=some (vi o.c.cap)∧w.cell? ⟨b,off+k*9+6,none⟩=some (vi o.c.bound)∧w.cell? ⟨b,off+k*9+7,none⟩=some (vi o.c.hedge)∧w.cell? ⟨b,off+k*9+8,none⟩=some (vs (bs o.s)):=by
 obtain ⟨b,off,he,hc⟩:=h k o hk
 exact ⟨b,off,he,hc 0 _ rfl,hc 1 _ rfl,hc 2 _ rfl,hc 3 _ rfl,hc 4 _ rfl,hc 5 _ rfl,hc 6 _ rfl,hc 7 _ rfl,hc 8 _ rfl⟩
theorem zIH (l:zA):(bs l).size=l.length:=by simp [bs,ByteArray.size]
def zCQ:Nat→List OpD→Option Nat
 | n,[]=>some n
 | n,o::l=>if 1048576 < n+o.s.length then none else zCQ (n+o.s.length) l
def zCR (ops:List OpD):Bool:=match zCQ ops.length ops with
 | none=>false
 | some n=>decide (n≤1048576)
theorem zSo {w:World} {a:Option Addr} {cap:Nat} (ops:List OpD) (h:zCP w a ops) (hn:ops.length≤140737488351232) (hs:∀o∈ops,o.s.length≤140737488351232) :
 Calls Tryz.prog 25 #[.slice a ops.length cap] w fun e w'=>e=.returned (.bool (zCR ops))∧Below w.heap.size w w':=by
 have HO:=zh h
 have HS:=zh hs
 obtain ⟨n,hnn⟩:∃n,ops.length=n:=⟨_,rfl⟩
 rw [hnn] at hn ⊢
 have HN:=zh hnn
 clear h hs hnn
 go_enter Tryz.func25,Tryz.ntmps25
 go_wp2_with fail
 go_loopw [3,5,10] (fun s3 _ s10 wr=>∃k m:Nat,s10=.int .i64 k∧s3=.int .i64 m∧k≤n∧m≤140737488351232∧Hid (zCR ops=(match zCQ m (ops.drop k) with | none=>false | some x=>decide (x≤1048576))∧Below w.heap.size w wr)) (fun _ _ s10 _=>n - (intOf s10).toNat)
 case atStart=>exact ⟨0,n,by go_num,rfl,Nat.zero_le _,hn,(by rw [←HN.out];rfl),Below.refl _ _⟩
 case round =>
  obtain ⟨k,m,rfl,rfl,hk,hm,HI⟩:=hrel
  by_cases hkl:k < n
  ·have hlt:decide ((k:Int) < (n:Int))=true:=decide_eq_true (by omega)
   obtain ⟨o,hko⟩:∃o,ops[k]?=some o:=⟨_,List.getElem?_eq_getElem (by rw [HN.out];exact hkl)⟩
   obtain ⟨b,off,hae,c0,c1,c2,c3,c4,c5,c6,c7,c8⟩:=(HO.out.below (HI.out.2)).cells hko
   subst hae
   have hk0:(0:Int)≤(k:Int):=by omega
   have hk1:(k:Int) < (n:Int):=by omega
   have hsl:o.s.length≤140737488351232:=HS.out o (List.mem_of_getElem? hko)
   have hzs:(bs o.s).size=o.s.length:=zIH o.s
   have hdr:ops.drop k=o::ops.drop (k+1):=by
    have hx:=List.getElem?_eq_some_iff.1 hko
    rw [List.drop_eq_getElem_cons hx.1,hx.2]
   have HD:=zh hdr
   clear hdr hko
   by_cases hst:1048576 < m+o.s.length
   ·have hst1:decide ((m:Int)+(o.s.length:Int) > 1048576)=true:=decide_eq_true (by omega)
    have HF:Hid (zCR ops=false):=show _=_ by rw [HI.out.1,HD.out,zCQ,if_pos hst]
    have HB:=zh HI.out.2
    clear HI HD hst
    go_wp2_with fail
    go_ret
    exact ⟨by rw [HF.out];rfl,HB.out.alloc HB.out.size _⟩
   ·have hst1:decide ((m:Int)+(o.s.length:Int) > 1048576)=false:=decide_eq_false (by omega)
    have HF:Hid (zCR ops=(match zCQ (m+o.s.length) (ops.drop (k+1)) with | none=>false | some x=>decide (x≤1048576))):=show _=_ by rw [HI.out.1,HD.out,zCQ,if_neg hst]
    have HB:=zh HI.out.2
    clear HI HD
    go_wp2_with fail
    go_roundw
    case rel=>exact ⟨k+1,m+o.s.length,by go_num,by go_num,by omega,by omega,HF.out,HB.out.alloc HB.out.size _⟩
    case measure=>simp [intOf];omega
  ·obtain rfl:k=n:=by omega
   have hlt:decide ((k:Int) < (k:Int))=false:=by simp
   have HF:Hid (zCR ops=decide (m≤1048576)):=show _=_ by
    rw [HI.out.1,show k=ops.length from HN.out.symm,List.drop_length];rfl
   have HB:=zh HI.out.2
   have hd:decide ((m:Int)≤1048576)=decide (m≤1048576):=by rw [decide_eq_decide];omega
   clear HI
   go_wp2_with fail
   go_ret
   exact ⟨by rw [HF.out];rfl,HB.out⟩
def zEd (o:OpD):zA:=if o.kind=3 then o.s.takeWhile (· != 32) else []
abbrev zK (w:World) (o:OpD):World:=w.alloc (.cells (za o) 98)
theorem zSp {l:zA} {k:Nat} {c:UInt8} (h:l[k]?=some c) {hh:k < (bs l).size}:(bs l)[k]'hh=c:=by
 obtain ⟨h1,h2⟩:=List.getElem?_eq_some_iff.1 h
 simpa [bs,ByteArray.getElem_eq_getElem_data] using h2
theorem zSq (l:zA) (n:Nat):(bs l).extract 0 n=bs (l.take n):=ByteArray.ext (by simp [bs])
theorem zSr {l:zA} {k:Nat} {c:UInt8} {p:UInt8→Bool} (h:l[k]?=some c) (hc:p c=false) (ha:∀(j:Nat) (x:UInt8),j < k→l[j]?=some x→p x=true):l.takeWhile p=l.take k:=by
 induction l generalizing k with
 | nil=>simp at h
 | cons a l ih =>
   match k with
   | 0 =>
     simp at h;subst h
     simp [List.takeWhile_cons,hc]
   | k+1 =>
     have:=ha 0 a (by omega) rfl
     rw [List.takeWhile_cons,if_pos this,List.take_succ_cons,ih (by simpa using h) (fun j x hj hx=>ha (j+1) x (by omega) (by simpa using hx))]
theorem zSs {l:zA} {p:UInt8→Bool} (ha:∀(j:Nat) (x:UInt8),l[j]?=some x→p x=true):l.takeWhile p=l:=by
 induction l with
 | nil=>rfl
 | cons a l ih=>rw [List.takeWhile_cons,if_pos (ha 0 a rfl),ih fun j x hx=>ha (j+1) x (by simpa using hx)]
theorem zSt (w:World) (o:OpD) (hs:o.s.length≤140737488351232) :
 Calls Tryz.prog 79 #[.agg (za o)] w fun e w'=>e=.returned (vs (bs (zEd o)))∧Below w.heap.size w w':=by
 have h0:(zK w o).heap[w.heap.size]?=some (.cells (za o) 98):=zL w
 have c0:(zK w o).cell? ⟨w.heap.size,0,none⟩=some (vi o.kind):=zB h0 rfl
 have c8:(zK w o).cell? ⟨w.heap.size,8,none⟩=some (vs (bs o.s)):=zB h0 rfl
 have HB:Hid (Below w.heap.size w (zK w o)):=(Below.refl _ w).alloc (Nat.le_refl _) _
 have hz:(bs o.s).size=o.s.length:=zIH _
 have HH:Hid (zEd o=if o.kind=3 then o.s.takeWhile (· != 32) else []):=show _=_ from rfl
 obtain ⟨kd,a,b,⟨d1,d2,d3,d4,d5⟩,s⟩:=o
 simp only [za,zK] at *
 obtain ⟨H,hH⟩:∃H,zEd ⟨kd,a,b,⟨d1,d2,d3,d4,d5⟩,s⟩=H:=⟨_,rfl⟩
 rw [hH] at HH ⊢
 clear h0 hH
 by_cases hk:kd=3
 ·subst hk
  have HH2:Hid (H=s.takeWhile (· != 32)):=show _=_ by rw [HH.out,if_pos rfl]
  clear HH
  go_enter Tryz.func79,Tryz.ntmps79
  go_wp2_with fail
  go_loop [3] (fun s3=>∃k:Nat,s3=.int .i64 k∧k≤s.length∧Hid (∀(j:Nat) (x:UInt8),j < k→s[j]?=some x→(x != 32)=true)) (fun s3=>s.length - (intOf s3).toNat)
  case atStart=>exact ⟨0,by go_num,Nat.zero_le _,fun j x hj=>by omega⟩
  case round =>
   obtain ⟨k,rfl,hkn,HA⟩:=hrel
   by_cases hkl:k < s.length
   ·have hlt:decide ((k:Int) < (s.length:Int))=true:=decide_eq_true (by omega)
    obtain ⟨c,hkc⟩:∃c,s[k]?=some c:=⟨_,List.getElem?_eq_getElem hkl⟩
    have hkz:k < (bs s).size:=by rw [hz];exact hkl
    have hget:(bs s)[k]'hkz=c:=zSp hkc
    have hk0:(0:Int)≤(k:Int):=by omega
    have hk1:(k:Int) < (s.length:Int):=by omega
    have HKC:=zh hkc
    clear hkc
    by_cases hc:c=32
    ·subst hc
     have HR:Hid (s.takeWhile (· != 32)=s.take k):=zSr HKC.out (by decide) HA.out
     have hex:(bs s).extract 0 k=bs (s.take k):=zSq s k
     go_wp2_with fail
     go_ret
     exact ⟨by rw [HH2.out,HR.out];rfl,HB.out⟩
    ·have hcb:(c==32)=false:=by simp [hc]
     have hc1:c.toNat≠32:=fun h=>hc (UInt8.toNat_inj.1 (by simpa using h))
     have hc2:decide ((c.toNat:Int)=32)=false:=decide_eq_false (by omega)
     have hc3:((c.toNat:Int)==32)=false:=beq_eq_false_iff_ne.2 (by omega)
     have HN:Hid (∀(j:Nat) (x:UInt8),j < k+1→s[j]?=some x→(x != 32)=true):=fun j x hj hx=>by
      rcases Nat.lt_succ_iff_lt_or_eq.1 hj with h | rfl
      ·exact HA.out j x h hx
      ·have:=HKC.out.symm.trans hx
       cases this;simp [hc]
     go_wp2_with fail
     go_round
     case rel=>exact ⟨k+1,by go_num,by omega,HN⟩
     case measure=>simp [intOf];omega
   ·obtain rfl:k=s.length:=by omega
    have hlt:decide ((s.length:Int) < (s.length:Int))=false:=by simp
    have HR:Hid (s.takeWhile (· != 32)=s):=zSs fun j x hx=>HA.out j x (List.getElem?_eq_some_iff.1 hx).1 hx
    go_wp2_with fail
    go_ret
    exact ⟨by rw [HH2.out,HR.out];rfl,HB.out⟩
 ·have hk1:(kd==3)=false:=beq_eq_false_iff_ne.2 hk
  have hk2:decide (kd=3)=false:=decide_eq_false hk
  have HH2:Hid (H=[]):=show _=_ by rw [HH.out,if_neg hk]
  clear HH
  go_enter Tryz.func79,Tryz.ntmps79
  go_wp2_with fail
  go_ret
  exact ⟨by rw [HH2.out];rfl,HB.out⟩
open Go Go.RowKit Go.ChangeShapes Go.WideShapes Go.Deep
def zDD {H:Type} (o:OpD):DataW H:=.agg [.lit (.int .i64 o.kind),.lit (.int .i64 o.a),.lit (.int .i64 o.b),.agg [.lit (.int .i64 o.c.lease),.lit (.int .i64 o.c.retries),.lit (.int .i64 o.c.cap),.lit (.int .i64 o.c.bound),.lit (.int .i64 o.c.hedge)],.lit (.string o.s)]
def wfI (n:Int):Prop:=-9223372036854775808≤n∧n≤9223372036854775807
def wfOp (o:OpD):Prop:=wfI o.kind∧wfI o.a∧wfI o.b∧wfI o.c.lease∧wfI o.c.retries∧wfI o.c.cap∧wfI o.c.bound∧wfI o.c.hedge
theorem zCi {n:Int} (h:(Lit.int .i64 n).wf=true):wfI n:=by
 simp only [Lit.wf,Bool.and_eq_true,decide_eq_true_eq] at h
 exact h
section
variable {H:Type} {enc:TypeId×Value→H} {w:World} {base:Nat} {spare:Nat→Bool} {held:Bool}
theorem zLu {t:TypeId} {f0 f1 f2 f3 f4:Field} {fuel:Nat} {cs:List Value} {x:DataW H×List MemPlace} (ht:Tryz.prog.underlying t=some (.struct #[f0,f1,f2,f3,f4])) (h:DataW.trod enc Tryz.prog w base spare held fuel t cs=some x) :
 ∃(y0 y1 y2 y3 y4:DataW H×List MemPlace) (n:Nat),x.1=.agg [y0.1,y1.1,y2.1,y3.1,y4.1]∧cs.length=Tryz.prog.cellsOf t ∧
  DataW.trod enc Tryz.prog w base spare held n f0.type ((cs.drop f0.offset).take (Tryz.prog.cellsOf f0.type))=some y0 ∧
  DataW.trod enc Tryz.prog w base spare held n f1.type ((cs.drop f1.offset).take (Tryz.prog.cellsOf f1.type))=some y1 ∧
  DataW.trod enc Tryz.prog w base spare held n f2.type ((cs.drop f2.offset).take (Tryz.prog.cellsOf f2.type))=some y2 ∧
  DataW.trod enc Tryz.prog w base spare held n f3.type ((cs.drop f3.offset).take (Tryz.prog.cellsOf f3.type))=some y3 ∧
  DataW.trod enc Tryz.prog w base spare held n f4.type ((cs.drop f4.offset).take (Tryz.prog.cellsOf f4.type))=some y4:=by
 obtain ⟨xs,n,_,rfl,hl,hlen,hf⟩:=DataW.trod_struct ht h
 match xs,hlen with
 | [y0,y1,y2,y3,y4],_=>exact ⟨y0,y1,y2,y3,y4,n,by simp,hl,by simpa using hf 0 f0 rfl,by simpa using hf 1 f1 rfl,by simpa using hf 2 f2 rfl,by simpa using hf 3 f3 rfl,by simpa using hf 4 f4 rfl⟩
theorem zSu {fuel:Nat} {v0 v1 v2 v3 v4:Value} {y:DataW H×List MemPlace} (h:DataW.trod enc Tryz.prog w base spare held fuel 34 [v0,v1,v2,v3,v4]=some y) :
 ∃c:Cfg,v0=vi c.lease∧v1=vi c.retries∧v2=vi c.cap∧v3=vi c.bound∧v4=vi c.hedge∧y.1=.agg [.lit (.int .i64 c.lease),.lit (.int .i64 c.retries),.lit (.int .i64 c.cap),.lit (.int .i64 c.bound),.lit (.int .i64 c.hedge)] ∧
  wfI c.lease∧wfI c.retries∧wfI c.cap∧wfI c.bound∧wfI c.hedge:=by
 obtain ⟨x0,x1,x2,x3,x4,n,hx,_,g0,g1,g2,g3,g4⟩:=zLu Tryz.underlying34 h
 have hk:Tryz.prog.cellsOf 3=1:=by kernel_rfl
 simp only [hk,List.drop_zero,List.drop_succ_cons,List.take_succ_cons,List.take_zero] at g0 g1 g2 g3 g4
 obtain ⟨z0,e0,f0,u0⟩:=DataW.trod_int Tryz.underlying3 g0
 obtain ⟨z1,e1,f1,u1⟩:=DataW.trod_int Tryz.underlying3 g1
 obtain ⟨z2,e2,f2,u2⟩:=DataW.trod_int Tryz.underlying3 g2
 obtain ⟨z3,e3,f3,u3⟩:=DataW.trod_int Tryz.underlying3 g3
 obtain ⟨z4,e4,f4,u4⟩:=DataW.trod_int Tryz.underlying3 g4
 simp only [List.cons.injEq,and_true] at e0 e1 e2 e3 e4
 exact ⟨⟨z0,z1,z2,z3,z4⟩,e0,e1,e2,e3,e4,by rw [hx,f0,f1,f2,f3,f4],zCi u0,zCi u1,zCi u2,zCi u3,zCi u4⟩
theorem zSv {fuel:Nat} {cs:List Value} {y:DataW H×List MemPlace} (h:DataW.trod enc Tryz.prog w base spare held fuel 98 cs=some y) :
 ∃o:OpD,cs=(za o).toList∧y.1=zDD o∧wfOp o:=by
 obtain ⟨x0,x1,x2,x3,x4,n,hx,hl,g0,g1,g2,g3,g4⟩:=zLu Tryz.underlying98 h
 have hk:Tryz.prog.cellsOf 3=1:=by kernel_rfl
 have hks:Tryz.prog.cellsOf 9=1:=by kernel_rfl
 have hkc:Tryz.prog.cellsOf 34=5:=by kernel_rfl
 have hko:Tryz.prog.cellsOf 98=9:=by kernel_rfl
 rw [hko] at hl
 match cs,hl with
 | [v0,v1,v2,v3,v4,v5,v6,v7,v8],_ =>
   simp only [hk,hks,hkc,List.drop_zero,List.drop_succ_cons,List.take_succ_cons,List.take_zero] at g0 g1 g2 g3 g4
   obtain ⟨z0,e0,f0,u0⟩:=DataW.trod_int Tryz.underlying3 g0
   obtain ⟨z1,e1,f1,u1⟩:=DataW.trod_int Tryz.underlying3 g1
   obtain ⟨z2,e2,f2,u2⟩:=DataW.trod_int Tryz.underlying3 g2
   obtain ⟨c,k0,k1,k2,k3,k4,f3,u3,u4,u5,u6,u7⟩:=zSu g3
   obtain ⟨s,e4,f4,_⟩:=DataW.trod_string Tryz.underlying9 g4
   simp only [List.cons.injEq,and_true] at e0 e1 e2 e4
   refine ⟨⟨z0,z1,z2,c,s.data.toList⟩,?_,?_,zCi u0,zCi u1,zCi u2,u3,u4,u5,u6,u7⟩
   ·rw [e0,e1,e2,k0,k1,k2,k3,k4,e4]
    show _=[vi z0,vi z1,vi z2,vi c.lease,vi c.retries,vi c.cap,vi c.bound,vi c.hedge,vs (bs s.data.toList)]
    rw [show bs s.data.toList=s by cases s;simp [bs]]
   ·rw [hx,f0,f1,f2,f3,f4]
    rfl
end
instance:Inhabited OpD:=⟨⟨0,0,0,⟨0,0,0,0,0⟩,[]⟩⟩
theorem zSw {H:Type} {enc:TypeId×Value→H} {W:World} {a0:Option Addr} {len cap fuel:Nat} {x:DataW H×List MemPlace}
 (hf:DataW.trod enc Tryz.prog W 0 (fun _=>true) true fuel 55 [.slice a0 len cap]=some x) :
 ∃ops:List OpD,zCP W a0 ops∧ops.length=len∧(∀o∈ops,wfOp o)∧(ops=[]∨∃spare,x.1=.slice (ops.map zDD) spare):=by
 have hko:Tryz.prog.cellsOf 98=9:=by kernel_rfl
 rcases open_slice Tryz.underlying55 hf with ⟨hcs,hx⟩ | ⟨a,len',cap',m,n,D,Pl,hcs,_,hl,hm,hmm,hx,hi⟩
 ·simp at hcs
  obtain ⟨rfl,rfl,rfl⟩:=hcs
  refine ⟨[],fun j t h=>by simp at h,rfl,fun o ho=>?_,Or.inl rfl⟩
  cases ho
 ·simp at hcs
  obtain ⟨rfl,rfl,rfl⟩:=hcs
  simp only [if_true] at hmm
  subst hmm
  rw [hko] at hi
  obtain ⟨O,hO⟩:=choose_lt (α:=OpD) (n:=len) (p:=fun i o=>W.cells? 0 (a.add (i*9)) 9=some (za o).toList∧D i=zDD o∧wfOp o) (fun i hil=>by
   obtain ⟨cs',h1,h2⟩:=hi i (by omega)
   obtain ⟨o,rfl,h4,h5⟩:=zSv h2
   exact ⟨o,h1,h4,h5⟩)
  refine ⟨(List.range len).map O,fun j o hj=>?_,by simp,fun o ho=>?_,Or.inr ?_⟩
  ·rw [List.getElem?_map,Option.map_eq_some_iff] at hj
   obtain ⟨i,hi',rfl⟩:=hj
   have hjl:j < len:=by
    have:=(List.getElem?_eq_some_iff.1 hi').1
    simpa using this
   have hij:i=j:=by
    have h1:=(List.getElem?_eq_some_iff.1 hi').2
    simpa using h1.symm
   subst hij
   have hil:=hjl
   obtain ⟨_,_,hat⟩:=World.cells?_some (hO i hil).1
   obtain ⟨b,off,spot⟩:=a
   obtain ⟨_,_,hat0⟩:=World.cells?_some (hO 0 (by omega)).1
   have h0:=hat0 0 (by omega)
   have hspot:spot=none:=by simpa [Addr.add] using World.cell?_spot h0
   subst hspot
   refine ⟨b,off,rfl,fun k v hk=>?_⟩
   have hk9:k < 9:=(Array.getElem?_eq_some_iff.1 hk).1
   have h1:=hat k hk9
   rw [WideShapes.add_plain,WideShapes.add_plain] at h1
   rw [h1,Array.getElem?_toList]
   exact hk
  ·simp only [List.mem_map,List.mem_range] at ho
   obtain ⟨i,hi',rfl⟩:=ho
   exact (hO i hi').2.2
  ·rw [hx,List.map_map]
   refine ⟨_,congrArg (fun l=>DataW.slice l _) ?_⟩
   exact List.map_congr_left fun i hi'=>(hO i (by simpa using hi')).2.1
end Go.Proofs.YtaejfobbogahmaaGreatDoor
