/-
  MIn MRead MPut MApp MSet: texts of their own, joined.
-/
import Derived.Test.YtaejfobbogahmaaGreatDoorMkMRep
set_option maxRecDepth 100000
set_option maxHeartbeats 16000000
set_option linter.all false
namespace Go.Proofs.YtaejfobbogahmaaGreatDoor
open Go Go.RowKit
def zAW (w:World) (a:Option Addr) (sz:Nat) (rows:List (List Value)):Prop:=∀(j:Nat) row,rows[j]?=some row→∃b off,a=some ⟨b,off,none⟩∧∀(k:Nat) v,row[k]?=some v→w.cell? ⟨b,off+j*sz+k,none⟩=some v
theorem zW {w:World} {a:Addr} {v:Value} (h:w.cell? a=some v):a.block < w.heap.size:=by
 rcases Nat.lt_or_ge a.block w.heap.size with h1 | h1
 ·exact h1
 ·rw [World.cell?,Array.getElem?_eq_none h1] at h;simp at h
theorem zAW.below {w w':World} {a:Option Addr} {sz:Nat} {rows:List (List Value)} (h:zAW w a sz rows) (hb:Below w.heap.size w w'):zAW w' a sz rows:=fun j row hj=>by
 obtain ⟨b,off,he,hc⟩:=h j row hj
 refine ⟨b,off,he,fun k v hk=>?_⟩
 have h1:=hc k v hk
 rw [hb.cell (zW h1)]
 exact h1
theorem zGB {w:World} {T:TypeId} {sz:Nat} {own:Nat→Prop} {α:Type} {f:α→List Value} (hf:∀x,(f x).length=sz) {l:List α} {a:Option Addr} {cap:Nat} (h:SlAt w T sz own (.slice a l.length cap) l.length (l.flatMap f)):zAW w a sz (l.map f):=by
 intro j row hj
 rw [List.getElem?_map] at hj
 obtain ⟨x,hx,rfl⟩:=Option.map_eq_some_iff.1 hj
 have h3:=(List.getElem?_eq_some_iff.1 hx).1
 rcases h with ⟨_,h0,hn⟩ | ⟨b,off,cap',cs,e,_,hblk,_,_,_,_,hcell⟩
 ·omega
 ·injection e with e1 e2 e3
  refine ⟨b,off,e1,fun k v hk=>?_⟩
  have hks:k < sz:=by have:=(List.getElem?_eq_some_iff.1 hk).1;rw [hf] at this;exact this
  have:=zBU hf l j k x hx hks
  rw [hk] at this
  have:=hcell _ _ this
  rw [Nat.add_assoc]
  exact zB hblk this
def xp (q:MReq):List Value:=[vi q.id,vi q.conn,vs q.tenant,vs q.text,vi q.n,vi q.left,.bool q.hedged]
def zAJ (a:MAtt):List Value:=[vi a.id,vi a.n,vi a.conn,vi a.since,vi a.till]
def zAn (ids:ByteArray→Value) (p:ByteArray×List Int):List Value:=[vs p.1,ids p.1]
section
variable {w:World} {ρ:Nat→Role} {G M:Nat} {L:MLay} {m:RefM}
theorem MRep.reqsIn (h:MRep w ρ G M L m):∃a cap,L.reqs=.slice a m.reqs.length cap∧zAW w a 7 (m.reqs.map xp):=by
 obtain ⟨a,cap,hv,_,_⟩:=h.reqs.form'
 have:=h.reqs
 rw [hv] at this
 exact ⟨a,cap,hv,zGB (f:=xp) (sz:=7) (fun _=>rfl) this⟩
theorem MRep.attsIn (h:MRep w ρ G M L m):∃a cap,L.atts=.slice a m.atts.length cap∧zAW w a 5 (m.atts.map zAJ):=by
 obtain ⟨a,cap,hv,_,_⟩:=h.atts.form'
 have:=h.atts
 rw [hv] at this
 exact ⟨a,cap,hv,zGB (f:=zAJ) (sz:=5) (fun _=>rfl) this⟩
theorem MRep.ringIn (h:MRep w ρ G M L m):∃a cap,L.ring=.slice a m.ring.length cap∧zAW w a 2 (m.ring.map (zAn L.ids)):=by
 obtain ⟨a,cap,hv,_,_⟩:=h.ring.form'
 have:=h.ring
 rw [hv] at this
 exact ⟨a,cap,hv,zGB (f:=zAn L.ids) (sz:=2) (fun _=>rfl) this⟩
theorem MRep.connsIn (h:MRep w ρ G M L m):∃a cap,L.conns=.slice a m.conns.length cap∧zAW w a 4 (m.conns.map mcnC):=by
 obtain ⟨a,cap,hv,_,_⟩:=h.conns.form'
 have:=h.conns
 rw [hv] at this
 exact ⟨a,cap,hv,zGB (f:=mcnC) (sz:=4) (fun _=>rfl) this⟩
theorem zDa {T:TypeId} {own:Nat→Prop} {v:Value} {l:List Int} (h:SlAt w T 1 own v l.length (l.map encI)):∃a cap,v=.slice a l.length cap∧∀(k:Nat) x,l[k]?=some x→∃b off,a=some ⟨b,off,none⟩∧w.cell? ⟨b,off+k,none⟩=some (vi x):=by
 obtain ⟨a,cap,hv,_,_⟩:=h.form'
 refine ⟨a,cap,hv,fun k x hx=>?_⟩
 have h3:=(List.getElem?_eq_some_iff.1 hx).1
 obtain ⟨b,off,cap',hv2,_,_,_,_,hc,_⟩:=h.form (by omega)
 rw [hv] at hv2
 injection hv2 with e1 e2 e3
 exact ⟨b,off,e1,hc k _ (by rw [List.getElem?_map,hx];rfl)⟩
theorem zAX {a:Option Addr} {l:List MReq} (h:zAW w a 7 (l.map xp)) {k:Nat} {q:MReq} (hk:l[k]?=some q):∃b off,a=some ⟨b,off,none⟩ ∧
 w.cell? ⟨b,off+k*7,none⟩=some (vi q.id)∧w.cell? ⟨b,off+k*7+1,none⟩=some (vi q.conn)∧w.cell? ⟨b,off+k*7+2,none⟩=some (vs q.tenant)∧w.cell? ⟨b,off+k*7+3,none⟩=some (vs q.text)∧w.cell? ⟨b,off+k*7+4,none⟩=some (vi q.n)∧w.cell? ⟨b,off+k*7+5,none⟩=some (vi q.left)∧w.cell? ⟨b,off+k*7+6,none⟩=some (.bool q.hedged):=by
 obtain ⟨b,off,he,hc⟩:=h k _ (by rw [List.getElem?_map,hk];rfl)
 exact ⟨b,off,he,hc 0 _ rfl,hc 1 _ rfl,hc 2 _ rfl,hc 3 _ rfl,hc 4 _ rfl,hc 5 _ rfl,hc 6 _ rfl⟩
theorem zAD {a:Option Addr} {l:List MAtt} (h:zAW w a 5 (l.map zAJ)) {k:Nat} {x:MAtt} (hk:l[k]?=some x):∃b off,a=some ⟨b,off,none⟩ ∧
 w.cell? ⟨b,off+k*5,none⟩=some (vi x.id)∧w.cell? ⟨b,off+k*5+1,none⟩=some (vi x.n)∧w.cell? ⟨b,off+k*5+2,none⟩=some (vi x.conn)∧w.cell? ⟨b,off+k*5+3,none⟩=some (vi x.since)∧w.cell? ⟨b,off+k*5+4,none⟩=some (vi x.till):=by
 obtain ⟨b,off,he,hc⟩:=h k _ (by rw [List.getElem?_map,hk];rfl)
 exact ⟨b,off,he,hc 0 _ rfl,hc 1 _ rfl,hc 2 _ rfl,hc 3 _ rfl,hc 4 _ rfl⟩
theorem zDb {a:Option Addr} {ids:ByteArray→Value} {l:List (ByteArray×List Int)} (h:zAW w a 2 (l.map (zAn ids))) {k:Nat} {x:ByteArray×List Int} (hk:l[k]?=some x):∃b off,a=some ⟨b,off,none⟩ ∧
 w.cell? ⟨b,off+k*2,none⟩=some (vs x.1)∧w.cell? ⟨b,off+k*2+1,none⟩=some (ids x.1):=by
 obtain ⟨b,off,he,hc⟩:=h k _ (by rw [List.getElem?_map,hk];rfl)
 exact ⟨b,off,he,hc 0 _ rfl,hc 1 _ rfl⟩
theorem zLV {a:Option Addr} {l:List MCn} (h:zAW w a 4 (l.map mcnC)) {k:Nat} {x:MCn} (hk:l[k]?=some x):∃b off,a=some ⟨b,off,none⟩ ∧
 w.cell? ⟨b,off+k*4,none⟩=some (vi x.n)∧w.cell? ⟨b,off+k*4+1,none⟩=some (vs (bs x.rest))∧w.cell? ⟨b,off+k*4+2,none⟩=some (.bool x.drains)∧w.cell? ⟨b,off+k*4+3,none⟩=some (.bool x.gone):=by
 obtain ⟨b,off,he,hc⟩:=h k _ (by rw [List.getElem?_map,hk];rfl)
 exact ⟨b,off,he,hc 0 _ rfl,hc 1 _ rfl,hc 2 _ rfl,hc 3 _ rfl⟩
end
section
variable {w w' w1 w2 w3:World} {ρ:Nat→Role} {G M:Nat} {L:MLay} {m:RefM}
theorem zCO (h:MRep w ρ G M L m) (id:Int) (hn:m.reqs.length≤1000000000000) :
 Calls Tryz.prog 122 #[vp M,vi id] w fun e w'=>∃v,e=.returned (vi v)∧zAC m.reqs (fun q=>q.id=id) v∧Below w.heap.size w w':=by
 obtain ⟨a,cap,hv,hr⟩:=h.reqsIn
 have cL:w.cell? ⟨M,6,none⟩=some L.reqs:=h.cell (k:=6) rfl
 rw [hv] at cL
 have HR:=zh hr
 obtain ⟨n,hnn⟩:∃n,m.reqs.length=n:=⟨_,rfl⟩
 have HN:=zh hnn
 rw [hnn] at cL hn
 clear h hv hr hnn
 go_enter Tryz.func122,Tryz.ntmps122
 go_wp2_with fail
 go_loopw [5,6,12] (fun _ _ s12 wr=>∃k:Nat,s12=.int .i64 k∧k≤n∧Hid (Below w.heap.size w wr∧∀(j:Nat) b,j < k→m.reqs[j]?=some b→¬(fun q=>q.id=id) b)) (fun _ _ s12 _=>n - (intOf s12).toNat)
 case atStart=>exact ⟨0,by go_num,Nat.zero_le _,Below.refl _ _,fun j b hj=>by omega⟩
 case round =>
  obtain ⟨k,rfl,hk,HI⟩:=hrel
  by_cases hkl:k < n
  ·have hlt:decide ((k:Int) < (n:Int))=true:=decide_eq_true (by omega)
   obtain ⟨q,hkq⟩:∃q,m.reqs[k]?=some q:=⟨_,List.getElem?_eq_getElem (by rw [HN.out];exact hkl)⟩
   obtain ⟨b,off,hae,c0,c1,c2,c3,c4,c5,c6⟩:=zAX (HR.out.below HI.out.1) hkq
   subst hae
   have hk0:(0:Int)≤(k:Int):=by omega
   have hk1:(k:Int) < (n:Int):=by omega
   have HQ:=zh hkq
   obtain ⟨y,hy⟩:∃y,q.id=y:=⟨_,rfl⟩
   rw [hy] at c0
   have HY:=zh hy
   clear hy
   clear hkq
   by_cases hyc:y=id
   ·subst hyc
    have hq:(y==y)=true:=by simp
    have HF:Hid (zAC m.reqs (fun q=>q.id=y) (k:Int)):=zFr HQ.out (HY.out) HI.out.2
    have HB:=zh HI.out.1
    clear HI
    go_wp2_with fail
    go_ret
    exact ⟨_,rfl,HF.out,HB.out.alloc HB.out.size _⟩
   ·have hq:(y==id)=false:=beq_eq_false_iff_ne.2 hyc
    have hq2:decide (y=id)=false:=decide_eq_false hyc
    have HNN:Hid (∀(j:Nat) b,j < k+1→m.reqs[j]?=some b→¬(fun q=>q.id=id) b):=zCG HI.out.2 HQ.out (fun e=>hyc (HY.out.symm.trans e))
    have HB:=zh HI.out.1
    clear HI
    go_wp2_with fail
    go_roundw
    case rel=>exact ⟨k+1,by go_num,by omega,HB.out.alloc HB.out.size _,HNN.out⟩
    case measure=>simp [intOf];omega
  ·obtain rfl:k=n:=by omega
   have hlt:decide ((k:Int) < (k:Int))=false:=by simp
   have HF:Hid (zAC m.reqs (fun q=>q.id=id) (-1)):=zFs (by rw [HN.out];exact HI.out.2)
   have HB:=zh HI.out.1
   clear HI
   go_wp2_with fail
   go_ret
   exact ⟨_,rfl,HF.out,HB.out⟩
theorem zLW (h:MRep w ρ G M L m) (id i:Int) (hn:m.atts.length≤1000000000000) :
 Calls Tryz.prog 174 #[vp M,vi id,vi i] w fun e w'=>∃v,e=.returned (vi v)∧zAC m.atts (fun q=>q.id=id∧q.n=i) v∧Below w.heap.size w w':=by
 obtain ⟨a,cap,hv,hr⟩:=h.attsIn
 have cL:w.cell? ⟨M,7,none⟩=some L.atts:=h.cell (k:=7) rfl
 rw [hv] at cL
 have HR:=zh hr
 obtain ⟨n,hnn⟩:∃n,m.atts.length=n:=⟨_,rfl⟩
 have HN:=zh hnn
 rw [hnn] at cL hn
 clear h hv hr hnn
 go_enter Tryz.func174,Tryz.ntmps174
 go_wp2_with fail
 go_loopw [7,8,14] (fun _ _ s14 wr=>∃k:Nat,s14=.int .i64 k∧k≤n∧Hid (Below w.heap.size w wr∧∀(j:Nat) b,j < k→m.atts[j]?=some b→¬(fun q=>q.id=id∧q.n=i) b)) (fun _ _ s14 _=>n - (intOf s14).toNat)
 case atStart=>exact ⟨0,by go_num,Nat.zero_le _,Below.refl _ _,fun j b hj=>by omega⟩
 case round =>
  obtain ⟨k,rfl,hk,HI⟩:=hrel
  by_cases hkl:k < n
  ·have hlt:decide ((k:Int) < (n:Int))=true:=decide_eq_true (by omega)
   obtain ⟨q,hkq⟩:∃q,m.atts[k]?=some q:=⟨_,List.getElem?_eq_getElem (by rw [HN.out];exact hkl)⟩
   obtain ⟨b,off,hae,c0,c1,c2,c3,c4⟩:=zAD (HR.out.below HI.out.1) hkq
   subst hae
   have hk0:(0:Int)≤(k:Int):=by omega
   have hk1:(k:Int) < (n:Int):=by omega
   have HQ:=zh hkq
   obtain ⟨y,hy⟩:∃y,q.id=y:=⟨_,rfl⟩
   rw [hy] at c0
   have HY:=zh hy
   clear hy
   obtain ⟨z,hz⟩:∃z,q.n=z:=⟨_,rfl⟩
   rw [hz] at c1
   have HZ:=zh hz
   clear hz
   clear hkq
   by_cases hyc:y=id
   ·subst hyc
    have hq:(y==y)=true:=by simp
    by_cases hzc:z=i
    ·subst hzc
     have hq3:(z==z)=true:=by simp
     have HF:Hid (zAC m.atts (fun q=>q.id=y∧q.n=z) (k:Int)):=zFr HQ.out (⟨HY.out,HZ.out⟩) HI.out.2
     have HB:=zh HI.out.1
     clear HI
     go_wp2_with fail
     go_ret
     exact ⟨_,rfl,HF.out,HB.out.alloc HB.out.size _⟩
    ·have hq3:(z==i)=false:=beq_eq_false_iff_ne.2 hzc
     have hq4:decide (z=i)=false:=decide_eq_false hzc
     have HNN:Hid (∀(j:Nat) b,j < k+1→m.atts[j]?=some b→¬(fun q=>q.id=y∧q.n=i) b):=zCG HI.out.2 HQ.out (fun e=>hzc (HZ.out.symm.trans e.2))
     have HB:=zh HI.out.1
     clear HI
     go_wp2_with fail
     go_roundw
     case rel=>exact ⟨k+1,by go_num,by omega,HB.out.alloc HB.out.size _,HNN.out⟩
     case measure=>simp [intOf];omega
   ·have hq:(y==id)=false:=beq_eq_false_iff_ne.2 hyc
    have hq2:decide (y=id)=false:=decide_eq_false hyc
    have HNN:Hid (∀(j:Nat) b,j < k+1→m.atts[j]?=some b→¬(fun q=>q.id=id∧q.n=i) b):=zCG HI.out.2 HQ.out (fun e=>hyc (HY.out.symm.trans e.1))
    have HB:=zh HI.out.1
    clear HI
    go_wp2_with fail
    go_roundw
    case rel=>exact ⟨k+1,by go_num,by omega,HB.out.alloc HB.out.size _,HNN.out⟩
    case measure=>simp [intOf];omega
  ·obtain rfl:k=n:=by omega
   have hlt:decide ((k:Int) < (k:Int))=false:=by simp
   have HF:Hid (zAC m.atts (fun q=>q.id=id∧q.n=i) (-1)):=zFs (by rw [HN.out];exact HI.out.2)
   have HB:=zh HI.out.1
   clear HI
   go_wp2_with fail
   go_ret
   exact ⟨_,rfl,HF.out,HB.out⟩
theorem zLX (h:MRep w ρ G M L m) (id c:Int) (hn:m.atts.length≤1000000000000) (hid:id≠-1) :
 Calls Tryz.prog 129 #[vp M,vi id,vi c] w fun e w'=>∃v,e=.returned (vi v)∧zAC m.atts (fun q=>q.id=id) v∧Below w.heap.size w w':=by
 obtain ⟨a,cap,hv,hr⟩:=h.attsIn
 have cL:w.cell? ⟨M,7,none⟩=some L.atts:=h.cell (k:=7) rfl
 rw [hv] at cL
 have HR:=zh hr
 obtain ⟨n,hnn⟩:∃n,m.atts.length=n:=⟨_,rfl⟩
 have HN:=zh hnn
 rw [hnn] at cL hn
 have HID:=zh hid
 clear hid
 clear h hv hr hnn
 go_enter Tryz.func129,Tryz.ntmps129
 go_wp2_with fail
 go_loopw [7,8,14] (fun _ _ s14 wr=>∃k:Nat,s14=.int .i64 k∧k≤n∧Hid (Below w.heap.size w wr∧∀(j:Nat) b,j < k→m.atts[j]?=some b→¬(fun q=>q.id=id) b)) (fun _ _ s14 _=>n - (intOf s14).toNat)
 case atStart=>exact ⟨0,by go_num,Nat.zero_le _,Below.refl _ _,fun j b hj=>by omega⟩
 case round =>
  obtain ⟨k,rfl,hk,HI⟩:=hrel
  by_cases hkl:k < n
  ·have hlt:decide ((k:Int) < (n:Int))=true:=decide_eq_true (by omega)
   obtain ⟨q,hkq⟩:∃q,m.atts[k]?=some q:=⟨_,List.getElem?_eq_getElem (by rw [HN.out];exact hkl)⟩
   obtain ⟨b,off,hae,c0,c1,c2,c3,c4⟩:=zAD (HR.out.below HI.out.1) hkq
   subst hae
   have hk0:(0:Int)≤(k:Int):=by omega
   have hk1:(k:Int) < (n:Int):=by omega
   have HQ:=zh hkq
   obtain ⟨y,hy⟩:∃y,q.id=y:=⟨_,rfl⟩
   rw [hy] at c0
   have HY:=zh hy
   clear hy
   clear hkq
   by_cases hyc:y=id
   ·subst hyc
    have hq:(y==y)=true:=by simp
    have HF:Hid (zAC m.atts (fun q=>q.id=y) (k:Int)):=zFr HQ.out (HY.out) HI.out.2
    have HB:=zh HI.out.1
    clear HI
    go_wp2_with fail
    go_ret
    exact ⟨_,rfl,HF.out,HB.out.alloc HB.out.size _⟩
   ·have hq:(y==id)=false:=beq_eq_false_iff_ne.2 hyc
    have hq2:decide (y=id)=false:=decide_eq_false hyc
    have hq5:(id==-1)=false:=beq_eq_false_iff_ne.2 HID.out
    have hq6:decide (id = -1)=false:=decide_eq_false HID.out
    have HNN:Hid (∀(j:Nat) b,j < k+1→m.atts[j]?=some b→¬(fun q=>q.id=id) b):=zCG HI.out.2 HQ.out (fun e=>hyc (HY.out.symm.trans e))
    have HB:=zh HI.out.1
    clear HI
    go_wp2_with fail
    go_roundw
    case rel=>exact ⟨k+1,by go_num,by omega,HB.out.alloc HB.out.size _,HNN.out⟩
    case measure=>simp [intOf];omega
  ·obtain rfl:k=n:=by omega
   have hlt:decide ((k:Int) < (k:Int))=false:=by simp
   have HF:Hid (zAC m.atts (fun q=>q.id=id) (-1)):=zFs (by rw [HN.out];exact HI.out.2)
   have HB:=zh HI.out.1
   clear HI
   go_wp2_with fail
   go_ret
   exact ⟨_,rfl,HF.out,HB.out⟩
theorem zSF (h:MRep w ρ G M L m) (c:Int) (hn:m.atts.length≤1000000000000) (hid:∀a∈m.atts,a.id≠-1) :
 Calls Tryz.prog 129 #[vp M,vi (-1),vi c] w fun e w'=>∃v,e=.returned (vi v)∧zAC m.atts (fun q=>q.conn=c) v∧Below w.heap.size w w':=by
 obtain ⟨a,cap,hv,hr⟩:=h.attsIn
 have cL:w.cell? ⟨M,7,none⟩=some L.atts:=h.cell (k:=7) rfl
 rw [hv] at cL
 have HR:=zh hr
 obtain ⟨n,hnn⟩:∃n,m.atts.length=n:=⟨_,rfl⟩
 have HN:=zh hnn
 rw [hnn] at cL hn
 have HID:=zh hid
 clear hid
 clear h hv hr hnn
 go_enter Tryz.func129,Tryz.ntmps129
 go_wp2_with fail
 go_loopw [7,8,14] (fun _ _ s14 wr=>∃k:Nat,s14=.int .i64 k∧k≤n∧Hid (Below w.heap.size w wr∧∀(j:Nat) b,j < k→m.atts[j]?=some b→¬(fun q=>q.conn=c) b)) (fun _ _ s14 _=>n - (intOf s14).toNat)
 case atStart=>exact ⟨0,by go_num,Nat.zero_le _,Below.refl _ _,fun j b hj=>by omega⟩
 case round =>
  obtain ⟨k,rfl,hk,HI⟩:=hrel
  by_cases hkl:k < n
  ·have hlt:decide ((k:Int) < (n:Int))=true:=decide_eq_true (by omega)
   obtain ⟨q,hkq⟩:∃q,m.atts[k]?=some q:=⟨_,List.getElem?_eq_getElem (by rw [HN.out];exact hkl)⟩
   obtain ⟨b,off,hae,c0,c1,c2,c3,c4⟩:=zAD (HR.out.below HI.out.1) hkq
   subst hae
   have hk0:(0:Int)≤(k:Int):=by omega
   have hk1:(k:Int) < (n:Int):=by omega
   have HQ:=zh hkq
   have HYN:Hid (q.id≠-1):=HID.out q (List.mem_of_getElem? hkq)
   obtain ⟨y,hy⟩:∃y,q.id=y:=⟨_,rfl⟩
   rw [hy] at c0
   have HY:=zh hy
   clear hy
   obtain ⟨z,hz⟩:∃z,q.conn=z:=⟨_,rfl⟩
   rw [hz] at c2
   have HZ:=zh hz
   clear hz
   have hq:(y==-1)=false:=beq_eq_false_iff_ne.2 (by rw [←HY.out];exact HYN.out)
   have hq2:decide (y = -1)=false:=decide_eq_false (by rw [←HY.out];exact HYN.out)
   clear hkq
   by_cases hyc:z=c
   ·subst hyc
    have hq3:(z==z)=true:=by simp
    have HF:Hid (zAC m.atts (fun q=>q.conn=z) (k:Int)):=zFr HQ.out (HZ.out) HI.out.2
    have HB:=zh HI.out.1
    clear HI
    go_wp2_with fail
    go_ret
    exact ⟨_,rfl,HF.out,HB.out.alloc HB.out.size _⟩
   ·have hq3:(z==c)=false:=beq_eq_false_iff_ne.2 hyc
    have hq4:decide (z=c)=false:=decide_eq_false hyc
    have HNN:Hid (∀(j:Nat) b,j < k+1→m.atts[j]?=some b→¬(fun q=>q.conn=c) b):=zCG HI.out.2 HQ.out (fun e=>hyc (HZ.out.symm.trans e))
    have HB:=zh HI.out.1
    clear HI
    go_wp2_with fail
    go_roundw
    case rel=>exact ⟨k+1,by go_num,by omega,HB.out.alloc HB.out.size _,HNN.out⟩
    case measure=>simp [intOf];omega
  ·obtain rfl:k=n:=by omega
   have hlt:decide ((k:Int) < (k:Int))=false:=by simp
   have HF:Hid (zAC m.atts (fun q=>q.conn=c) (-1)):=zFs (by rw [HN.out];exact HI.out.2)
   have HB:=zh HI.out.1
   clear HI
   go_wp2_with fail
   go_ret
   exact ⟨_,rfl,HF.out,HB.out⟩
theorem zLY (h:MRep w ρ G M L m) (id:Int) (hn:m.atts.length≤1000000000000) :
 Calls Tryz.prog 124 #[vp M,vi id] w fun e w'=>e=.returned (vi (m.atts.countP fun q=>decide (q.id=id)))∧Below w.heap.size w w':=by
 obtain ⟨a,cap,hv,hr⟩:=h.attsIn
 have cL:w.cell? ⟨M,7,none⟩=some L.atts:=h.cell (k:=7) rfl
 rw [hv] at cL
 have HR:=zh hr
 obtain ⟨n,hnn⟩:∃n,m.atts.length=n:=⟨_,rfl⟩
 have HN:=zh hnn
 rw [hnn] at cL hn
 clear h hv hr hnn
 go_enter Tryz.func124,Tryz.ntmps124
 go_wp2_with fail
 go_loopw [5,7,13] (fun s5 _ s13 wr=>∃k j:Nat,s13=.int .i64 k∧s5=.int .i64 j∧k≤n∧j≤k∧Hid (Below w.heap.size w wr∧(m.atts.take k).countP (fun q=>decide (q.id=id))=j)) (fun _ _ s13 _=>n - (intOf s13).toNat)
 case atStart=>exact ⟨0,0,by go_num,by go_num,Nat.zero_le _,Nat.le_refl _,Below.refl _ _,by simp⟩
 case round =>
  obtain ⟨k,j,rfl,rfl,hk,hj,HI⟩:=hrel
  by_cases hkl:k < n
  ·have hlt:decide ((k:Int) < (n:Int))=true:=decide_eq_true (by omega)
   obtain ⟨q,hkq⟩:∃q,m.atts[k]?=some q:=⟨_,List.getElem?_eq_getElem (by rw [HN.out];exact hkl)⟩
   obtain ⟨b,off,hae,c0,c1,c2,c3,c4⟩:=zAD (HR.out.below HI.out.1) hkq
   subst hae
   have hk0:(0:Int)≤(k:Int):=by omega
   have hk1:(k:Int) < (n:Int):=by omega
   have HQ:=zh hkq
   obtain ⟨y,hy⟩:∃y,q.id=y:=⟨_,rfl⟩
   rw [hy] at c0
   have HY:=zh hy
   clear hy
   have HT:Hid ((m.atts.take (k+1)).countP (fun q=>decide (q.id=id))=j+if y=id then 1 else 0):=show _=_ by
    rw [List.take_add_one,List.countP_append,HI.out.2,HQ.out]
    simp [HY.out]
   clear hkq
   by_cases hyc:y=id
   ·subst hyc
    have hq:(y==y)=true:=by simp
    rw [if_pos rfl] at HT
    have HB:=zh HI.out.1
    clear HI
    go_wp2_with fail
    go_roundw
    case rel=>exact ⟨k+1,j+1,by go_num,by go_num,by omega,by omega,HB.out.alloc HB.out.size _,HT.out⟩
    case measure=>simp [intOf];omega
   ·have hq:(y==id)=false:=beq_eq_false_iff_ne.2 hyc
    have hq2:decide (y=id)=false:=decide_eq_false hyc
    rw [if_neg hyc] at HT
    have HB:=zh HI.out.1
    clear HI
    go_wp2_with fail
    go_roundw
    case rel=>exact ⟨k+1,j,by go_num,by go_num,by omega,by omega,HB.out.alloc HB.out.size _,HT.out⟩
    case measure=>simp [intOf];omega
  ·obtain rfl:k=n:=by omega
   have hlt:decide ((k:Int) < (k:Int))=false:=by simp
   have HF:Hid (m.atts.countP (fun q=>decide (q.id=id))=j):=show _=_ by rw [←HI.out.2,←HN.out,List.take_length]
   have HB:=zh HI.out.1
   clear HI
   go_wp2_with fail
   go_ret
   exact ⟨by rw [HF.out];rfl,HB.out⟩
theorem zSG (h:MRep w ρ G M L m) (c:Int) (hn:m.atts.length≤1000000000000) :
 Calls Tryz.prog 175 #[vp M,vi c] w fun e w'=>e=.returned (vi (m.atts.countP fun q=>decide (q.conn=c)))∧Below w.heap.size w w':=by
 obtain ⟨a,cap,hv,hr⟩:=h.attsIn
 have cL:w.cell? ⟨M,7,none⟩=some L.atts:=h.cell (k:=7) rfl
 rw [hv] at cL
 have HR:=zh hr
 obtain ⟨n,hnn⟩:∃n,m.atts.length=n:=⟨_,rfl⟩
 have HN:=zh hnn
 rw [hnn] at cL hn
 clear h hv hr hnn
 go_enter Tryz.func175,Tryz.ntmps175
 go_wp2_with fail
 go_loopw [5,7,13] (fun s5 _ s13 wr=>∃k j:Nat,s13=.int .i64 k∧s5=.int .i64 j∧k≤n∧j≤k∧Hid (Below w.heap.size w wr∧(m.atts.take k).countP (fun q=>decide (q.conn=c))=j)) (fun _ _ s13 _=>n - (intOf s13).toNat)
 case atStart=>exact ⟨0,0,by go_num,by go_num,Nat.zero_le _,Nat.le_refl _,Below.refl _ _,by simp⟩
 case round =>
  obtain ⟨k,j,rfl,rfl,hk,hj,HI⟩:=hrel
  by_cases hkl:k < n
  ·have hlt:decide ((k:Int) < (n:Int))=true:=decide_eq_true (by omega)
   obtain ⟨q,hkq⟩:∃q,m.atts[k]?=some q:=⟨_,List.getElem?_eq_getElem (by rw [HN.out];exact hkl)⟩
   obtain ⟨b,off,hae,c0,c1,c2,c3,c4⟩:=zAD (HR.out.below HI.out.1) hkq
   subst hae
   have hk0:(0:Int)≤(k:Int):=by omega
   have hk1:(k:Int) < (n:Int):=by omega
   have HQ:=zh hkq
   obtain ⟨y,hy⟩:∃y,q.conn=y:=⟨_,rfl⟩
   rw [hy] at c2
   have HY:=zh hy
   clear hy
   have HT:Hid ((m.atts.take (k+1)).countP (fun q=>decide (q.conn=c))=j+if y=c then 1 else 0):=show _=_ by
    rw [List.take_add_one,List.countP_append,HI.out.2,HQ.out]
    simp [HY.out]
   clear hkq
   by_cases hyc:y=c
   ·subst hyc
    have hq:(y==y)=true:=by simp
    rw [if_pos rfl] at HT
    have HB:=zh HI.out.1
    clear HI
    go_wp2_with fail
    go_roundw
    case rel=>exact ⟨k+1,j+1,by go_num,by go_num,by omega,by omega,HB.out.alloc HB.out.size _,HT.out⟩
    case measure=>simp [intOf];omega
   ·have hq:(y==c)=false:=beq_eq_false_iff_ne.2 hyc
    have hq2:decide (y=c)=false:=decide_eq_false hyc
    rw [if_neg hyc] at HT
    have HB:=zh HI.out.1
    clear HI
    go_wp2_with fail
    go_roundw
    case rel=>exact ⟨k+1,j,by go_num,by go_num,by omega,by omega,HB.out.alloc HB.out.size _,HT.out⟩
    case measure=>simp [intOf];omega
  ·obtain rfl:k=n:=by omega
   have hlt:decide ((k:Int) < (k:Int))=false:=by simp
   have HF:Hid (m.atts.countP (fun q=>decide (q.conn=c))=j):=show _=_ by rw [←HI.out.2,←HN.out,List.take_length]
   have HB:=zh HI.out.1
   clear HI
   go_wp2_with fail
   go_ret
   exact ⟨by rw [HF.out];rfl,HB.out⟩
end
section
variable {w w' w1 w2 w3:World} {ρ ρ':Nat→Role} {G M:Nat} {L:MLay} {m:RefM}
theorem MRep.hold (h:MRep w ρ G M L m) {S:Nat→Prop} (hf:Fr S w w') {R:Role} (hR:R.tag≠0) (hS:∀b,S b→ρ b≠R) (hρ:∀b,ρ b=R→ρ' b=R) {T:TypeId} {sz n:Nat} {v:Value} {xs:List Value}
 (hs:SlAt w T sz (fun b=>ρ b=R) v n xs):SlAt w' T sz (fun b=>ρ' b=R) v n xs:=
 hs.of_blk (fun b hr hl=>hf.block b hl (fun hb=>hS b hb hr)) (fun b hr _=>hρ b hr)
theorem zDc (h:MRep w ρ G M L m) {R:Role} {T:TypeId} {sz n:Nat} {v:Value} {xs:List Value} {own:Nat→Prop} (ho:∀b,own b→ρ b=R∨w.heap.size≤b) (hs:SlAt w' T sz own v n xs) (hsz:w.heap.size≤w'.heap.size) (hR:R.tag≠0) :
 ∃ρ':Nat→Role,SlAt w' T sz (fun b=>ρ' b=R) v n xs∧(∀b,(ρ' b).tag≠0→G≤b∧b < w'.heap.size)∧(∀b,ρ' b=ρ b∨(ρ' b=R∧w.heap.size≤b)):=by
 have hd:∀b,(ρ b).tag≠0→G≤b∧b < w'.heap.size:=fun b hb=>⟨(h.dom b hb).1,Nat.lt_of_lt_of_le (h.dom b hb).2 hsz⟩
 rcases hs with hs | ⟨b,off,cap,cs,q1,q2,q3,q4⟩
 ·exact ⟨ρ,.inl hs,hd,fun b=>.inl rfl⟩
 ·refine ⟨zk ρ b R,.inr ⟨b,off,cap,cs,q1,yo _ _ _,q3,q4⟩,fun x hx=>?_,fun x=>?_⟩
  ·by_cases e:x=b
   ·subst e
    refine ⟨?_,zF _ q3⟩
    rcases ho x q2 with h1 | h1
    ·exact (h.dom x (by rw [h1];exact hR)).1
    ·have:=h.size;omega
   ·rw [zc e] at hx
    exact hd x hx
  ·by_cases e:x=b
   ·subst e
    rw [yo]
    rcases ho x q2 with h1 | h1
    ·exact .inl h1.symm
    ·exact .inr ⟨rfl,h1⟩
   ·exact .inl (zc e)
theorem zEZ {S:Nat→Prop} {R:Role} (hρ:∀b,ρ' b=ρ b∨(ρ' b=R∧w.heap.size≤b)) (hf:Fr S w w') (hS:∀b,S b→Of ρ b∨w.heap.size≤b):Step ρ ρ' w w':=
 ⟨hf.mono (fun b hb=>(hS b hb).imp id id),fun b hb=>by
  rcases hρ b with e | ⟨_,h⟩
  ·left;unfold Of at hb ⊢;rw [e] at hb;exact hb
  ·exact .inr h⟩
theorem xq (h:MRep w ρ G M L m) {b:Nat} (hb:w.heap.size≤b):(ρ b).tag=0:=by
 by_cases e:(ρ b).tag=0
 ·exact e
 ·have:=(h.dom b e).2;omega
theorem MRep.put_reqsE (h:MRep w ρ G M L m) {own S:Nat→Prop} {v:Value} {l:List MReq} (ho:∀b,own b→ρ b=yB∨w.heap.size≤b) (hM:w'.heap[M]?=some (.cells (yS {L with reqs:=v} m.cfg m.now) 179 (0,0)))
 (hs:SlAt w' 189 7 own v l.length (zEX l)) (hf:Fr S w w') (hS:∀b,S b→b=M∨ρ b=yB∨w.heap.size≤b):∃ρ',MRep w' ρ' G M {L with reqs:=v} {m with reqs:=l}∧Step ρ ρ' w w':=by
 obtain ⟨ρ',hs1,hd,hρ⟩:=zDc h ho hs hf.size (by simp [yB])
 have kp:∀{R:Role} (b:Nat),(ρ b).tag≠0→ρ b=R→ρ' b=R:=fun b ht e=>by
  rcases hρ b with h1 | ⟨_,h1⟩
  ·rw [h1,e]
  ·exact absurd (xq h h1) ht
 have hne:∀b,S b→(ρ b).tag≠0∧(ρ b).tag≠21→ρ b≠yB→False:=fun b hb ht hr=>by
  rcases hS b hb with h1 | h1 | h1
  ·subst h1;rw [h.mod.1] at ht;exact ht.2 rfl
  ·exact hr h1
  ·exact ht.1 (xq h h1)
 refine ⟨ρ',⟨hd,⟨kp M (by rw [h.mod.1];decide) h.mod.1,hM⟩,hs1,
  h.hold hf (by simp [yE]) (fun b hb e=>hne b hb (by rw [e];decide) (by rw [e];exact (show yE≠yB from yH (by decide)))) (fun b e=>kp b (by rw [e];simp [yE]) e) h.atts,
  h.hold hf (by simp [ze]) (fun b hb e=>hne b hb (by rw [e];decide) (by rw [e];exact (show ze≠yB from yH (by decide)))) (fun b e=>kp b (by rw [e];simp [ze]) e) h.ring,
  fun t l hl=>h.hold hf (by simp [zR]) (fun b hb e=>hne b hb (by rw [e];simp [zR]) (by rw [e];exact (show zR t≠yB from yH (by simp [zR,yB])))) (fun b e=>kp b (by rw [e];simp [zR]) e) (h.ids t l hl),h.rnd,
  h.hold hf (by simp [yQ]) (fun b hb e=>hne b hb (by rw [e];decide) (by rw [e];exact (show yQ≠yB from yH (by decide)))) (fun b e=>kp b (by rw [e];simp [yQ]) e) h.waiting,
  h.hold hf (by simp [zn]) (fun b hb e=>hne b hb (by rw [e];decide) (by rw [e];exact (show zn≠yB from yH (by decide)))) (fun b e=>kp b (by rw [e];simp [zn]) e) h.conns,
  h.hold hf (by simp [yL]) (fun b hb e=>hne b hb (by rw [e];decide) (by rw [e];exact (show yL≠yB from yH (by decide)))) (fun b e=>kp b (by rw [e];simp [yL]) e) h.out⟩,zEZ hρ hf (fun b hb=>?_)⟩
 rcases hS b hb with h1 | h1 | h1
 ·left;subst h1;unfold Of;rw [h.mod.1];decide
 ·left;unfold Of;rw [h1];decide
 ·exact .inr h1
theorem MRep.put_attsE (h:MRep w ρ G M L m) {own S:Nat→Prop} {v:Value} {l:List MAtt} (ho:∀b,own b→ρ b=yE∨w.heap.size≤b) (hM:w'.heap[M]?=some (.cells (yS {L with atts:=v} m.cfg m.now) 179 (0,0)))
 (hs:SlAt w' 186 5 own v l.length (zFy l)) (hf:Fr S w w') (hS:∀b,S b→b=M∨ρ b=yE∨w.heap.size≤b):∃ρ',MRep w' ρ' G M {L with atts:=v} {m with atts:=l}∧Step ρ ρ' w w':=by
 obtain ⟨ρ',hs1,hd,hρ⟩:=zDc h ho hs hf.size (by simp [yE])
 have kp:∀{R:Role} (b:Nat),(ρ b).tag≠0→ρ b=R→ρ' b=R:=fun b ht e=>by
  rcases hρ b with h1 | ⟨_,h1⟩
  ·rw [h1,e]
  ·exact absurd (xq h h1) ht
 have hne:∀b,S b→(ρ b).tag≠0∧(ρ b).tag≠21→ρ b≠yE→False:=fun b hb ht hr=>by
  rcases hS b hb with h1 | h1 | h1
  ·subst h1;rw [h.mod.1] at ht;exact ht.2 rfl
  ·exact hr h1
  ·exact ht.1 (xq h h1)
 refine ⟨ρ',⟨hd,⟨kp M (by rw [h.mod.1];decide) h.mod.1,hM⟩,h.hold hf (by simp [yB]) (fun b hb e=>hne b hb (by rw [e];decide) (by rw [e];exact (show yB≠yE from yH (by decide)))) (fun b e=>kp b (by rw [e];simp [yB]) e) h.reqs,
  hs1,
  h.hold hf (by simp [ze]) (fun b hb e=>hne b hb (by rw [e];decide) (by rw [e];exact (show ze≠yE from yH (by decide)))) (fun b e=>kp b (by rw [e];simp [ze]) e) h.ring,
  fun t l hl=>h.hold hf (by simp [zR]) (fun b hb e=>hne b hb (by rw [e];simp [zR]) (by rw [e];exact (show zR t≠yE from yH (by simp [zR,yE])))) (fun b e=>kp b (by rw [e];simp [zR]) e) (h.ids t l hl),h.rnd,
  h.hold hf (by simp [yQ]) (fun b hb e=>hne b hb (by rw [e];decide) (by rw [e];exact (show yQ≠yE from yH (by decide)))) (fun b e=>kp b (by rw [e];simp [yQ]) e) h.waiting,
  h.hold hf (by simp [zn]) (fun b hb e=>hne b hb (by rw [e];decide) (by rw [e];exact (show zn≠yE from yH (by decide)))) (fun b e=>kp b (by rw [e];simp [zn]) e) h.conns,
  h.hold hf (by simp [yL]) (fun b hb e=>hne b hb (by rw [e];decide) (by rw [e];exact (show yL≠yE from yH (by decide)))) (fun b e=>kp b (by rw [e];simp [yL]) e) h.out⟩,zEZ hρ hf (fun b hb=>?_)⟩
 rcases hS b hb with h1 | h1 | h1
 ·left;subst h1;unfold Of;rw [h.mod.1];decide
 ·left;unfold Of;rw [h1];decide
 ·exact .inr h1
theorem MRep.put_waitingE (h:MRep w ρ G M L m) {own S:Nat→Prop} {v:Value} {l:List Int} (ho:∀b,own b→ρ b=yQ∨w.heap.size≤b) (hM:w'.heap[M]?=some (.cells (yS {L with waiting:=v} m.cfg m.now) 179 (0,0)))
 (hs:SlAt w' 3 1 own v l.length (l.map encI)) (hf:Fr S w w') (hS:∀b,S b→b=M∨ρ b=yQ∨w.heap.size≤b):∃ρ',MRep w' ρ' G M {L with waiting:=v} {m with waiting:=l}∧Step ρ ρ' w w':=by
 obtain ⟨ρ',hs1,hd,hρ⟩:=zDc h ho hs hf.size (by simp [yQ])
 have kp:∀{R:Role} (b:Nat),(ρ b).tag≠0→ρ b=R→ρ' b=R:=fun b ht e=>by
  rcases hρ b with h1 | ⟨_,h1⟩
  ·rw [h1,e]
  ·exact absurd (xq h h1) ht
 have hne:∀b,S b→(ρ b).tag≠0∧(ρ b).tag≠21→ρ b≠yQ→False:=fun b hb ht hr=>by
  rcases hS b hb with h1 | h1 | h1
  ·subst h1;rw [h.mod.1] at ht;exact ht.2 rfl
  ·exact hr h1
  ·exact ht.1 (xq h h1)
 refine ⟨ρ',⟨hd,⟨kp M (by rw [h.mod.1];decide) h.mod.1,hM⟩,h.hold hf (by simp [yB]) (fun b hb e=>hne b hb (by rw [e];decide) (by rw [e];exact (show yB≠yQ from yH (by decide)))) (fun b e=>kp b (by rw [e];simp [yB]) e) h.reqs,
  h.hold hf (by simp [yE]) (fun b hb e=>hne b hb (by rw [e];decide) (by rw [e];exact (show yE≠yQ from yH (by decide)))) (fun b e=>kp b (by rw [e];simp [yE]) e) h.atts,
  h.hold hf (by simp [ze]) (fun b hb e=>hne b hb (by rw [e];decide) (by rw [e];exact (show ze≠yQ from yH (by decide)))) (fun b e=>kp b (by rw [e];simp [ze]) e) h.ring,
  fun t l hl=>h.hold hf (by simp [zR]) (fun b hb e=>hne b hb (by rw [e];simp [zR]) (by rw [e];exact (show zR t≠yQ from yH (by simp [zR,yQ])))) (fun b e=>kp b (by rw [e];simp [zR]) e) (h.ids t l hl),h.rnd,
  hs1,
  h.hold hf (by simp [zn]) (fun b hb e=>hne b hb (by rw [e];decide) (by rw [e];exact (show zn≠yQ from yH (by decide)))) (fun b e=>kp b (by rw [e];simp [zn]) e) h.conns,
  h.hold hf (by simp [yL]) (fun b hb e=>hne b hb (by rw [e];decide) (by rw [e];exact (show yL≠yQ from yH (by decide)))) (fun b e=>kp b (by rw [e];simp [yL]) e) h.out⟩,zEZ hρ hf (fun b hb=>?_)⟩
 rcases hS b hb with h1 | h1 | h1
 ·left;subst h1;unfold Of;rw [h.mod.1];decide
 ·left;unfold Of;rw [h1];decide
 ·exact .inr h1
theorem MRep.put_connsE (h:MRep w ρ G M L m) {own S:Nat→Prop} {v:Value} {l:List MCn} (ho:∀b,own b→ρ b=zn∨w.heap.size≤b) (hM:w'.heap[M]?=some (.cells (yS {L with conns:=v} m.cfg m.now) 179 (0,0)))
 (hs:SlAt w' 183 4 own v l.length (zCJ l)) (hf:Fr S w w') (hS:∀b,S b→b=M∨ρ b=zn∨w.heap.size≤b):∃ρ',MRep w' ρ' G M {L with conns:=v} {m with conns:=l}∧Step ρ ρ' w w':=by
 obtain ⟨ρ',hs1,hd,hρ⟩:=zDc h ho hs hf.size (by simp [zn])
 have kp:∀{R:Role} (b:Nat),(ρ b).tag≠0→ρ b=R→ρ' b=R:=fun b ht e=>by
  rcases hρ b with h1 | ⟨_,h1⟩
  ·rw [h1,e]
  ·exact absurd (xq h h1) ht
 have hne:∀b,S b→(ρ b).tag≠0∧(ρ b).tag≠21→ρ b≠zn→False:=fun b hb ht hr=>by
  rcases hS b hb with h1 | h1 | h1
  ·subst h1;rw [h.mod.1] at ht;exact ht.2 rfl
  ·exact hr h1
  ·exact ht.1 (xq h h1)
 refine ⟨ρ',⟨hd,⟨kp M (by rw [h.mod.1];decide) h.mod.1,hM⟩,h.hold hf (by simp [yB]) (fun b hb e=>hne b hb (by rw [e];decide) (by rw [e];exact (show yB≠zn from yH (by decide)))) (fun b e=>kp b (by rw [e];simp [yB]) e) h.reqs,
  h.hold hf (by simp [yE]) (fun b hb e=>hne b hb (by rw [e];decide) (by rw [e];exact (show yE≠zn from yH (by decide)))) (fun b e=>kp b (by rw [e];simp [yE]) e) h.atts,
  h.hold hf (by simp [ze]) (fun b hb e=>hne b hb (by rw [e];decide) (by rw [e];exact (show ze≠zn from yH (by decide)))) (fun b e=>kp b (by rw [e];simp [ze]) e) h.ring,
  fun t l hl=>h.hold hf (by simp [zR]) (fun b hb e=>hne b hb (by rw [e];simp [zR]) (by rw [e];exact (show zR t≠zn from yH (by simp [zR,zn])))) (fun b e=>kp b (by rw [e];simp [zR]) e) (h.ids t l hl),h.rnd,
  h.hold hf (by simp [yQ]) (fun b hb e=>hne b hb (by rw [e];decide) (by rw [e];exact (show yQ≠zn from yH (by decide)))) (fun b e=>kp b (by rw [e];simp [yQ]) e) h.waiting,
  hs1,
  h.hold hf (by simp [yL]) (fun b hb e=>hne b hb (by rw [e];decide) (by rw [e];exact (show yL≠zn from yH (by decide)))) (fun b e=>kp b (by rw [e];simp [yL]) e) h.out⟩,zEZ hρ hf (fun b hb=>?_)⟩
 rcases hS b hb with h1 | h1 | h1
 ·left;subst h1;unfold Of;rw [h.mod.1];decide
 ·left;unfold Of;rw [h1];decide
 ·exact .inr h1
theorem MRep.put_outE (h:MRep w ρ G M L m) {own S:Nat→Prop} {v:Value} {l:List (Int×zA)} (ho:∀b,own b→ρ b=yL∨w.heap.size≤b) (hM:w'.heap[M]?=some (.cells (yS {L with out:=v} m.cfg m.now) 179 (0,0)))
 (hs:SlAt w' 59 2 own v l.length (yG l)) (hf:Fr S w w') (hS:∀b,S b→b=M∨ρ b=yL∨w.heap.size≤b):∃ρ',MRep w' ρ' G M {L with out:=v} {m with out:=l}∧Step ρ ρ' w w':=by
 obtain ⟨ρ',hs1,hd,hρ⟩:=zDc h ho hs hf.size (by simp [yL])
 have kp:∀{R:Role} (b:Nat),(ρ b).tag≠0→ρ b=R→ρ' b=R:=fun b ht e=>by
  rcases hρ b with h1 | ⟨_,h1⟩
  ·rw [h1,e]
  ·exact absurd (xq h h1) ht
 have hne:∀b,S b→(ρ b).tag≠0∧(ρ b).tag≠21→ρ b≠yL→False:=fun b hb ht hr=>by
  rcases hS b hb with h1 | h1 | h1
  ·subst h1;rw [h.mod.1] at ht;exact ht.2 rfl
  ·exact hr h1
  ·exact ht.1 (xq h h1)
 refine ⟨ρ',⟨hd,⟨kp M (by rw [h.mod.1];decide) h.mod.1,hM⟩,h.hold hf (by simp [yB]) (fun b hb e=>hne b hb (by rw [e];decide) (by rw [e];exact (show yB≠yL from yH (by decide)))) (fun b e=>kp b (by rw [e];simp [yB]) e) h.reqs,
  h.hold hf (by simp [yE]) (fun b hb e=>hne b hb (by rw [e];decide) (by rw [e];exact (show yE≠yL from yH (by decide)))) (fun b e=>kp b (by rw [e];simp [yE]) e) h.atts,
  h.hold hf (by simp [ze]) (fun b hb e=>hne b hb (by rw [e];decide) (by rw [e];exact (show ze≠yL from yH (by decide)))) (fun b e=>kp b (by rw [e];simp [ze]) e) h.ring,
  fun t l hl=>h.hold hf (by simp [zR]) (fun b hb e=>hne b hb (by rw [e];simp [zR]) (by rw [e];exact (show zR t≠yL from yH (by simp [zR,yL])))) (fun b e=>kp b (by rw [e];simp [zR]) e) (h.ids t l hl),h.rnd,
  h.hold hf (by simp [yQ]) (fun b hb e=>hne b hb (by rw [e];decide) (by rw [e];exact (show yQ≠yL from yH (by decide)))) (fun b e=>kp b (by rw [e];simp [yQ]) e) h.waiting,
  h.hold hf (by simp [zn]) (fun b hb e=>hne b hb (by rw [e];decide) (by rw [e];exact (show zn≠yL from yH (by decide)))) (fun b e=>kp b (by rw [e];simp [zn]) e) h.conns,
  hs1⟩,zEZ hρ hf (fun b hb=>?_)⟩
 rcases hS b hb with h1 | h1 | h1
 ·left;subst h1;unfold Of;rw [h.mod.1];decide
 ·left;unfold Of;rw [h1];decide
 ·exact .inr h1
theorem MRep.put_now (h:MRep w ρ G M L m) {n:Int} (hM:w'.heap[M]?=some (.cells (yS L m.cfg n) 179 (0,0))) (hf:Fr (fun b=>b=M) w w'):MRep w' ρ G M L {m with now:=n}∧Step ρ ρ w w':=by
 have hne:∀b,b=M→(ρ b).tag≠21→False:=fun b hb ht=>by subst hb;rw [h.mod.1] at ht;exact ht rfl
 refine ⟨⟨fun b hb=>⟨(h.dom b hb).1,Nat.lt_of_lt_of_le (h.dom b hb).2 hf.size⟩,⟨h.mod.1,hM⟩,h.hold hf (by simp [yB]) (fun b hb e=>hne b hb (by rw [e];decide)) (fun b e=>e) h.reqs,h.hold hf (by simp [yE]) (fun b hb e=>hne b hb (by rw [e];decide)) (fun b e=>e) h.atts,h.hold hf (by simp [ze]) (fun b hb e=>hne b hb (by rw [e];decide)) (fun b e=>e) h.ring,
  fun t l hl=>h.hold hf (by simp [zR]) (fun b hb e=>hne b hb (by rw [e];simp [zR])) (fun b e=>e) (h.ids t l hl),h.rnd,h.hold hf (by simp [yQ]) (fun b hb e=>hne b hb (by rw [e];decide)) (fun b e=>e) h.waiting,h.hold hf (by simp [zn]) (fun b hb e=>hne b hb (by rw [e];decide)) (fun b e=>e) h.conns,h.hold hf (by simp [yL]) (fun b hb e=>hne b hb (by rw [e];decide)) (fun b e=>e) h.out⟩,⟨hf.mono (fun b hb=>.inl ?_),fun b hb=>.inl hb⟩⟩
 have hb:b=M:=hb
 unfold Of;rw [hb,h.mod.1];decide
theorem MRep.put_ring (h:MRep w ρ G M L m) {S:Nat→Prop} {v:Value} {ids:ByteArray→Value} {l:List (ByteArray×List Int)} (hd:∀b,(ρ' b).tag≠0→G≤b∧b < w'.heap.size)
 (hρ:∀b,ρ' b=ρ b∨((ρ b).tag=24∨(ρ b).tag=25∨w.heap.size≤b)) (hM:w'.heap[M]?=some (.cells (yS {L with ring:=v} m.cfg m.now) 179 (0,0)))
 (hr:SlAt w' 191 2 (fun b=>ρ' b=ze) v l.length (yg ids l)) (hi:∀t x,(t,x)∈l→SlAt w' 3 1 (fun b=>ρ' b=zR t) (ids t) x.length (x.map encI)) (hn:(l.map Prod.fst).Nodup)
 (hf:Fr S w w') (hS:∀b,S b→b=M∨(ρ b).tag=24∨(ρ b).tag=25∨w.heap.size≤b):MRep w' ρ' G M {L with ring:=v,ids:=ids} {m with ring:=l}∧Step ρ ρ' w w':=by
 have kp:∀{R:Role} (b:Nat),((ρ b).tag≠0∧(ρ b).tag≠24∧(ρ b).tag≠25)→ρ b=R→ρ' b=R:=fun b ht e=>by
  rcases hρ b with h1 | h1 | h1 | h1
  ·rw [h1,e]
  ·exact absurd h1 ht.2.1
  ·exact absurd h1 ht.2.2
  ·exact absurd (xq h h1) ht.1
 have hne:∀b,S b→((ρ b).tag≠0∧(ρ b).tag≠21∧(ρ b).tag≠24∧(ρ b).tag≠25)→False:=fun b hb ht=>by
  rcases hS b hb with h1 | h1 | h1 | h1
  ·subst h1;rw [h.mod.1] at ht;exact ht.2.1 rfl
  ·exact ht.2.2.1 h1
  ·exact ht.2.2.2 h1
  ·exact ht.1 (xq h h1)
 refine ⟨⟨hd,⟨kp M (by rw [h.mod.1];decide) h.mod.1,hM⟩,h.hold hf (by simp [yB]) (fun b hb e=>hne b hb (by rw [e];decide)) (fun b e=>kp b (by rw [e];decide) e) h.reqs,h.hold hf (by simp [yE]) (fun b hb e=>hne b hb (by rw [e];decide)) (fun b e=>kp b (by rw [e];decide) e) h.atts,hr,hi,hn,h.hold hf (by simp [yQ]) (fun b hb e=>hne b hb (by rw [e];decide)) (fun b e=>kp b (by rw [e];decide) e) h.waiting,h.hold hf (by simp [zn]) (fun b hb e=>hne b hb (by rw [e];decide)) (fun b e=>kp b (by rw [e];decide) e) h.conns,h.hold hf (by simp [yL]) (fun b hb e=>hne b hb (by rw [e];decide)) (fun b e=>kp b (by rw [e];decide) e) h.out⟩,⟨hf.mono (fun b hb=>?_),fun b hb=>?_⟩⟩
 ·rcases hS b hb with h1 | h1 | h1 | h1
  ·left;subst h1;unfold Of;rw [h.mod.1];decide
  ·left;unfold Of;rw [h1];decide
  ·left;unfold Of;rw [h1];decide
  ·exact .inr h1
 ·rcases hρ b with h1 | h1 | h1 | h1
  ·left;unfold Of at hb ⊢;rw [h1] at hb;exact hb
  ·left;unfold Of;rw [h1];decide
  ·left;unfold Of;rw [h1];decide
  ·exact .inr h1
def MStA (w:World) (ρ:Nat→Role) (G M:Nat) (L:MLay) (m':RefM) (w':World):Prop:=∃ρ' L',MRep w' ρ' G M L' m'∧Step ρ ρ' w w'∧L'.atts=L.atts∧L'.conns=L.conns
theorem MStA.st {m':RefM} (h:MStA w ρ G M L m' w'):MSt w ρ G M m' w':=by
 obtain ⟨ρ',L',h1,h2,_⟩:=h
 exact ⟨ρ',L',h1,h2⟩
end
theorem yF.und {P:Program} {t e:TypeId} {sz bytes:Nat} (E:yF P t e sz bytes):P.underlying t=some (.slice e):=by
 obtain ⟨⟨i,z,h,_⟩,_⟩:=E
 exact h
theorem zSH {P:Program} {w:World} {t e:TypeId} {sz bytes:Nat} (E:yF P t e sz bytes) {own:Nat→Prop} {ya:Option Addr} {m yc:Nat} {ys:List Value} (h:SlAt w e sz own (.slice ya m yc) m ys) (h1:∀u∈ys,u.oneCell'=true):Src P sz t (.slice ya m yc) m ys w:=by
 rcases h with ⟨hv,h0,hx⟩ | ⟨b,off,cap,cs,hv,h2,h3,h4,h5,h6,h7,h8⟩
 ·injection hv with e1 e2 e3
  subst e1;subst e2;subst hx
  exact Src.ofNil w E.und yc
 ·injection hv with e1 e2 e3
  subst e1
  exact Src.ofSlice w E.und ⟨b,off,none⟩ m yc ys h7 (fun j u hj=>by rw [Addr.add_lit];exact zB h3 (h8 j u hj)) h1
theorem zSI {P:Program} {w:World} {t e:TypeId} {sz bytes:Nat} (E:yF P t e sz bytes) {own:Nat→Prop} {va:Option Addr} {n vc:Nat} {xs:List Value} (h:SlAt w e sz own (.slice va n vc) n xs) {y:Value} (hs:Src P sz t y 0 [] w) (ty:TypeId) :
 (Builtin.append_ #[t,t] ty #[.slice va n vc,y]).run P w=.ok (.slice va n vc) w:=by
 obtain ⟨⟨i,z,e0,e1,e2,e3,e4,e5⟩,_⟩:=E
 rcases h with ⟨hv,h0,hx⟩ | ⟨b,off,cap,cs,hv,h2,h3,h4,h5,h6,h7,h8⟩
 ·injection hv with f1 f2 f3
  subst f1;subst f2;subst f3
  have hc:=hs.cells
  rcases hs.kind with ⟨e',hk⟩ | hk<;>simp [Builtin.append_,run_underlying e0,sizeOf,typeInfo,e1,e3,hs.len,hc]
 ·injection hv with f1 f2 f3
  subst f1;subst f3
  have:=run_append_room_src (P:=P) w t t ty e i e0 e1 b off n vc y 0 [] (by rw [e3];exact hs) (by omega) (by simp) (by simp)
  simpa [World.setCells] using this
section
variable {P:Program} {w:World} {o:Oper} {a:Act} {Q:Exit→Act→World→Prop}
theorem zGC {K:Act→World→Prop} (s x:Operand) (t:TypeId)
 (hop:o.op=Op.call {callee:=Callee.builtin Builtin.append,args:=#[s,x],argTypes:=#[t,t]}) {e:TypeId} {sz bytes:Nat} (E:yF P t e sz bytes) {own own2:Nat→Prop} {va ya:Option Addr} {n vc m yc:Nat} {xs ys:List Value}
 (hs:a.eval s=.slice va n vc) (h:SlAt w e sz own (.slice va n vc) n xs) (hx:a.eval x=.slice ya m yc) (hy:SlAt w e sz own2 (.slice ya m yc) m ys) (h1:∀u∈ys,u.oneCell'=true) (h63:n+m≤maxLen) (hbytes:(n+m)*bytes≤140737488355328)
 (hK:∀va' vc' w' E',(∀b,E' b→own b∨b=w.heap.size)→Fr E' w w'→(∀b,E' b→b < w'.heap.size)→SlAt w' e sz E' (.slice va' (n+m) vc') (n+m) (xs++ys)→K (a.put o.dst (.slice va' (n+m) vc')) w'):o.wp P a w K Q:=by
 have hsrc:=zSH E hy h1
 by_cases hm:m=0
 ·subst hm
  have hys:ys=[]:=List.eq_nil_of_length_eq_zero (by have:=hy.length;simpa using this)
  subst hys
  have hr:=zSI E h hsrc o.type
  unfold Oper.wp
  simp [execOp,hop,resolve,invoke,builtin,hs,hx,hr,Result.andThen]
  have hE:∃E':Nat→Prop,(∀b,E' b→own b)∧(∀b,E' b→b < w.heap.size)∧SlAt w e sz E' (.slice va n vc) n xs:=by
   rcases h with h | ⟨b,off,cap,cs,q1,q2,q3,q4⟩
   ·exact ⟨fun _=>False,fun _ f=>f.elim,fun _ f=>f.elim,.inl h⟩
   ·exact ⟨fun z=>z=b,fun z hz=>by rw [hz];exact q2,fun z hz=>by rw [hz];exact zF _ q3,.inr ⟨b,off,cap,cs,q1,rfl,q3,q4⟩⟩
  obtain ⟨E',g1,g2,g3⟩:=hE
  exact hK va vc w E' (fun b hb=>.inl (g1 b hb)) (Fr.refl _ _) g2 (by rw [List.append_nil,Nat.add_zero];exact g3)
 ·refine zHP w s x _ _ hop E hs h hx hsrc (by omega) h63 hbytes (fun g off cap w' h1 h2 h3 h4 h5 h6=>?_)
  exact hK _ _ w' (fun b=>b=g) (fun b hb=>by rw [show b=g from hb];exact h1) h3 (fun b hb=>by rw [show b=g from hb];exact h4) h2
theorem zAK {ops:Array Oper} {rest:List Oper} (hg:o.guard=none) (s x:Operand) (t:TypeId)
 (hop:o.op=Op.call {callee:=Callee.builtin Builtin.append,args:=#[s,x],argTypes:=#[t,t]}) {e:TypeId} {sz bytes:Nat} (E:yF P t e sz bytes) {own own2:Nat→Prop} {va ya:Option Addr} {n vc m yc:Nat} {xs ys:List Value}
 (hs:a.eval s=.slice va n vc) (h:SlAt w e sz own (.slice va n vc) n xs) (hx:a.eval x=.slice ya m yc) (hy:SlAt w e sz own2 (.slice ya m yc) m ys) (h1:∀u∈ys,u.oneCell'=true) (h63:n+m≤maxLen) (hbytes:(n+m)*bytes≤140737488355328)
 (hK:∀va' vc' w' E',(∀b,E' b→own b∨b=w.heap.size)→Fr E' w w'→(∀b,E' b→b < w'.heap.size)→SlAt w' e sz E' (.slice va' (n+m) vc') (n+m) (xs++ys)→wpList P ops Q rest (a.put o.dst (.slice va' (n+m) vc')) w'):wpList P ops Q (o::rest) a w:=
 wpList_plain hg fun _ hK'=>zGC s x t hop E hs h hx hy h1 h63 hbytes (fun va' vc' w' E' q1 q2 q3 q4=>hK' _ _ (hK va' vc' w' E' q1 q2 q3 q4))
theorem zHz {K:Act→World→Prop} {ops:Array Oper} {EE:Prop} (hg:o.guard=none) (s x:Operand) (t:TypeId)
 (hop:o.op=Op.call {callee:=Callee.builtin Builtin.append,args:=#[s,x],argTypes:=#[t,t]}) {e:TypeId} {sz bytes:Nat} (E:yF P t e sz bytes) {own own2:Nat→Prop} {va ya:Option Addr} {n vc m yc:Nat} {xs ys:List Value}
 (hs:a.eval s=.slice va n vc) (h:SlAt w e sz own (.slice va n vc) n xs) (hx:a.eval x=.slice ya m yc) (hy:SlAt w e sz own2 (.slice ya m yc) m ys) (h1:∀u∈ys,u.oneCell'=true) (h63:n+m≤maxLen) (hbytes:(n+m)*bytes≤140737488355328)
 (hK:∀va' vc' w' E',(∀b,E' b→own b∨b=w.heap.size)→Fr E' w w'→(∀b,E' b→b < w'.heap.size)→SlAt w' e sz E' (.slice va' (n+m) vc') (n+m) (xs++ys)→K (a.put o.dst (.slice va' (n+m) vc')) w') :
 if Region.wanted o (yielded ops a.tmps)=true then o.wp P a w K Q else EE:=by
 have hw:Region.wanted o (yielded ops a.tmps)=true:=by simp [Region.wanted,hg]
 rw [if_pos hw]
 exact zGC s x t hop E hs h hx hy h1 h63 hbytes hK
end
theorem zSJ:(Tryz.prog.info? 189).map (fun i=>(i.zero,i.size,i.bytes))=some (some (.agg #[.int .i64 0,.int .i64 0,.string ⟨#[]⟩,.string ⟨#[]⟩,.int .i64 0,.int .i64 0,.bool false]),7,72):=by kernel_rfl
theorem zEa:yF Tryz.prog 174 189 7 72:=yF.of_parts Tryz.underlying174 zSJ rfl (by decide)
theorem zSK:(Tryz.prog.info? 186).map (fun i=>(i.zero,i.size,i.bytes))=some (some (.agg #[.int .i64 0,.int .i64 0,.int .i64 0,.int .i64 0,.int .i64 0]),5,40):=by kernel_rfl
theorem zEb:yF Tryz.prog 175 186 5 40:=yF.of_parts Tryz.underlying175 zSK rfl (by decide)
theorem zSL:(Tryz.prog.info? 191).map (fun i=>(i.zero,i.size,i.bytes))=some (some (.agg #[.string ⟨#[]⟩,.slice none 0 0]),2,40):=by kernel_rfl
theorem zDd:yF Tryz.prog 176 191 2 40:=yF.of_parts Tryz.underlying176 zSL rfl (by decide)
theorem zGD {l:List MAtt}:∀u∈l.flatMap zAJ,u.oneCell'=true:=fun u hu=>by
 obtain ⟨x,_,hx⟩:=List.mem_flatMap.1 hu
 simp [zAJ] at hx
 rcases hx with rfl | rfl | rfl | rfl | rfl<;>rfl
theorem zGE {l:List MReq}:∀u∈l.flatMap xp,u.oneCell'=true:=fun u hu=>by
 obtain ⟨x,_,hx⟩:=List.mem_flatMap.1 hu
 simp [xp] at hx
 rcases hx with rfl | rfl | rfl | rfl | rfl | rfl | rfl<;>rfl
theorem zSM {l:List Int}:∀u∈l.map encI,u.oneCell'=true:=fun u hu=>by
 obtain ⟨x,_,hx⟩:=List.mem_map.1 hu
 subst hx;rfl
section
variable {w:World} {ρ:Nat→Role} {G M:Nat} {L:MLay} {m:RefM}
theorem zLZ (h:MRep w ρ G M L m) {b off n cap k:Nat} {x:MReq} (hv:L.reqs=.slice (some ⟨b,off,none⟩) n cap) (hk:m.reqs[k]?=some x) {j:Nat} (hj:j < 7) {v:Value} {x':MReq} (hx:(xp x).set j v=xp x') :
 ∃ρ',MRep (w.setCell ⟨b,off+k*7+j,none⟩ v) ρ' G M L {m with reqs:=m.reqs.set k x'}∧Step ρ ρ' w (w.setCell ⟨b,off+k*7+j,none⟩ v)∧w.frozen? ⟨b,off+k*7+j,none⟩=false:=by
 have hs:=h.reqs
 have hkl:=(List.getElem?_eq_some_iff.1 hk).1
 obtain ⟨a',cap',h1,_⟩:=h.reqsIn
 have hn:n=m.reqs.length:=by rw [hv] at h1;injection h1
 subst hn
 rw [hv] at hs
 obtain ⟨ho,hlt,hs1⟩:=zBf hs
 have hb:ρ b=yB:=ho
 have hbM:M≠b:=by rintro rfl;rw [h.mod.1] at hb;exact absurd (congrArg Role.tag hb) (by decide)
 have hs2:=zCK hs1 (i:=k*7+j) (by omega) v
 have hfs:=zBg (f:=xp) (sz:=7) (fun _=>rfl) m.reqs k j x x' v hk hj hx
 rw [show zEX m.reqs=m.reqs.flatMap xp from rfl,hfs,←Nat.add_assoc] at hs2
 obtain ⟨ρ',p1,p2⟩:=h.put_reqsE (w':=w.setCell ⟨b,off+k*7+j,none⟩ v) (own:=fun x=>x=b) (S:=fun x=>x=b) (v:=L.reqs) (l:=m.reqs.set k x') (fun x e=>.inl (by rw [show x=b from e];exact hb)) ((zJ w hbM).trans h.mod.2)
  (by rw [hv,List.length_set];exact hs2) ((Fr.refl _ w).setCell _ _ (.inl rfl)) (fun x e=>.inr (.inl (by rw [show x=b from e];exact hb)))
 obtain ⟨_,_,_,hv2,_,_,_,_,_,hfz⟩:=hs.form (by omega)
 injection hv2 with e1 e2 e3
 injection e1 with e1
 injection e1 with e4 e5
 subst e4
 exact ⟨ρ',p1,p2,hfz _⟩
theorem zSN (h:MRep w ρ G M L m) {b off n cap k:Nat} {x:MAtt} (hv:L.atts=.slice (some ⟨b,off,none⟩) n cap) (hk:m.atts[k]?=some x) {j:Nat} (hj:j < 5) {v:Value} {x':MAtt} (hx:(zAJ x).set j v=zAJ x') :
 ∃ρ',MRep (w.setCell ⟨b,off+k*5+j,none⟩ v) ρ' G M L {m with atts:=m.atts.set k x'}∧Step ρ ρ' w (w.setCell ⟨b,off+k*5+j,none⟩ v)∧w.frozen? ⟨b,off+k*5+j,none⟩=false:=by
 have hs:=h.atts
 have hkl:=(List.getElem?_eq_some_iff.1 hk).1
 obtain ⟨a',cap',h1,_⟩:=h.attsIn
 have hn:n=m.atts.length:=by rw [hv] at h1;injection h1
 subst hn
 rw [hv] at hs
 obtain ⟨ho,hlt,hs1⟩:=zBf hs
 have hb:ρ b=yE:=ho
 have hbM:M≠b:=by rintro rfl;rw [h.mod.1] at hb;exact absurd (congrArg Role.tag hb) (by decide)
 have hs2:=zCK hs1 (i:=k*5+j) (by omega) v
 have hfs:=zBg (f:=zAJ) (sz:=5) (fun _=>rfl) m.atts k j x x' v hk hj hx
 rw [show zFy m.atts=m.atts.flatMap zAJ from rfl,hfs,←Nat.add_assoc] at hs2
 obtain ⟨ρ',p1,p2⟩:=h.put_attsE (w':=w.setCell ⟨b,off+k*5+j,none⟩ v) (own:=fun x=>x=b) (S:=fun x=>x=b) (v:=L.atts) (l:=m.atts.set k x') (fun x e=>.inl (by rw [show x=b from e];exact hb)) ((zJ w hbM).trans h.mod.2)
  (by rw [hv,List.length_set];exact hs2) ((Fr.refl _ w).setCell _ _ (.inl rfl)) (fun x e=>.inr (.inl (by rw [show x=b from e];exact hb)))
 obtain ⟨_,_,_,hv2,_,_,_,_,_,hfz⟩:=hs.form (by omega)
 injection hv2 with e1 e2 e3
 injection e1 with e1
 injection e1 with e4 e5
 subst e4
 exact ⟨ρ',p1,p2,hfz _⟩
theorem zSO (h:MRep w ρ G M L m) {b off n cap k:Nat} {x:MCn} (hv:L.conns=.slice (some ⟨b,off,none⟩) n cap) (hk:m.conns[k]?=some x) {j:Nat} (hj:j < 4) {v:Value} {x':MCn} (hx:(mcnC x).set j v=mcnC x') :
 ∃ρ',MRep (w.setCell ⟨b,off+k*4+j,none⟩ v) ρ' G M L {m with conns:=m.conns.set k x'}∧Step ρ ρ' w (w.setCell ⟨b,off+k*4+j,none⟩ v)∧w.frozen? ⟨b,off+k*4+j,none⟩=false:=by
 have hs:=h.conns
 have hkl:=(List.getElem?_eq_some_iff.1 hk).1
 obtain ⟨a',cap',h1,_⟩:=h.connsIn
 have hn:n=m.conns.length:=by rw [hv] at h1;injection h1
 subst hn
 rw [hv] at hs
 obtain ⟨ho,hlt,hs1⟩:=zBf hs
 have hb:ρ b=zn:=ho
 have hbM:M≠b:=by rintro rfl;rw [h.mod.1] at hb;exact absurd (congrArg Role.tag hb) (by decide)
 have hs2:=zCK hs1 (i:=k*4+j) (by omega) v
 have hfs:=zBg (f:=mcnC) (sz:=4) (fun _=>rfl) m.conns k j x x' v hk hj hx
 rw [show zCJ m.conns=m.conns.flatMap mcnC from rfl,hfs,←Nat.add_assoc] at hs2
 obtain ⟨ρ',p1,p2⟩:=h.put_connsE (w':=w.setCell ⟨b,off+k*4+j,none⟩ v) (own:=fun x=>x=b) (S:=fun x=>x=b) (v:=L.conns) (l:=m.conns.set k x') (fun x e=>.inl (by rw [show x=b from e];exact hb)) ((zJ w hbM).trans h.mod.2)
  (by rw [hv,List.length_set];exact hs2) ((Fr.refl _ w).setCell _ _ (.inl rfl)) (fun x e=>.inr (.inl (by rw [show x=b from e];exact hb)))
 obtain ⟨_,_,_,hv2,_,_,_,_,_,hfz⟩:=hs.form (by omega)
 injection hv2 with e1 e2 e3
 injection e1 with e1
 injection e1 with e4 e5
 subst e4
 exact ⟨ρ',p1,p2,hfz _⟩
end
end Go.Proofs.YtaejfobbogahmaaGreatDoor
