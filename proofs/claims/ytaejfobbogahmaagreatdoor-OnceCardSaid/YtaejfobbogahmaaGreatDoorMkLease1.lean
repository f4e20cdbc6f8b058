/-
  Lease1 Lease2 Lease3 Lease4 Lease5: texts of their own, joined.
-/
import Derived.Test.YtaejfobbogahmaaGreatDoorMkRep
import Derived.BigRegion
set_option maxRecDepth 100000
set_option maxHeartbeats 16000000
set_option linter.all false
namespace Go.Proofs.YtaejfobbogahmaaGreatDoor
open Go Go.RowKit
def MRow (t:TypeId) (name:String) (f:FuncId) (ptr:Bool):Prop:=(Tryz.prog.info? t).bind (fun i=>(i.methods.find? (·.name==name)).map (fun m=>(m.path,m.func)))=some (#[],some (f,ptr))
theorem zDq:MRow 170 "Less" 208 false:=by unfold MRow;kernel_rfl
theorem zDr:MRow 170 "Len" 207 false:=by unfold MRow;kernel_rfl
theorem zDs:MRow 170 "Swap" 209 false:=by unfold MRow;kernel_rfl
theorem zJP:MRow 170 "Push" 213 true:=by unfold MRow;kernel_rfl
theorem zJQ:MRow 170 "Pop" 212 true:=by unfold MRow;kernel_rfl
theorem zJR (ts:Array TypeId) (ty:TypeId) (a:Addr) (x y:String):Builtin.ssaWrapNilChk_ ts ty #[.pointer (some a),strVal x,strVal y]=pure (.pointer (some a)):=rfl
theorem zAW {name:String} {f:FuncId} (hr:MRow 170 name f false) {a:Addr} {v:Value} {w:World} (h:w.cell? a=some v) (n:Nat):(method (n+1) 170 (.pointer (some a)) name).run Tryz.prog w=.ok (f,v) w:=by
 obtain ⟨i,hi,hm⟩:=Option.bind_eq_some_iff.1 hr
 obtain ⟨m,hm1,hm2⟩:=Option.map_eq_some_iff.1 hm
 simp only [Prod.mk.injEq] at hm2
 have hu:=Tryz.underlying170
 simp [method,typeInfo,hi,hm1,hm2.1,hm2.2,follow,receiverAt,run_underlying hu,zJR,Place.get,go_sem,h]
theorem zFt {name:String} {f:FuncId} (hr:MRow 170 name f true) {a:Addr} {w:World} (n:Nat):(method (n+1) 170 (.pointer (some a)) name).run Tryz.prog w=.ok (f,.pointer (some a)) w:=by
 obtain ⟨i,hi,hm⟩:=Option.bind_eq_some_iff.1 hr
 obtain ⟨m,hm1,hm2⟩:=Option.map_eq_some_iff.1 hm
 simp only [Prod.mk.injEq] at hm2
 have hu:=Tryz.underlying170
 simp [method,typeInfo,hi,hm1,hm2.1,hm2.2,follow,receiverAt,run_underlying hu,Place.get,go_sem]
theorem zCi {a:Option Addr} {n cap:Nat} {w:World} (_hn:n≤maxLen) :
 Calls Tryz.prog 207 #[.slice a n cap] w fun e w'=>e=.returned (vi n)∧w=w':=by
 go_enter Tryz.func207,Tryz.ntmps207
 go_wp2
 go_ret
 exact ⟨rfl,rfl⟩
theorem zU.at_ {w:World} {ρ:Nat→Role} {v:Value} {att:Int→Nat} {hp:List Att} (h:zU w ρ v att hp) {i:Nat} (hi:i < hp.length) :
 w.heap[att (hg hp i).seq]?=some (.cells (yV (hg hp i) i) 109 (0,0)):=(h.2.2 i _ (zZ hi)).2
theorem zAX {w:World} {ρ:Nat→Role} {v:Value} {att:Int→Nat} {hp:List Att} (h:zU w ρ v att hp) {i j:Nat} (hi:i < hp.length) (hj:j < hp.length) :
 Calls Tryz.prog 208 #[v,vi i,vi j] w fun e w'=>∃k,e=.returned (.bool (zg (hg hp i) (hg hp j)))∧w'=w.drewN k:=by
 obtain ⟨b,off,cap,rfl,_,_,hc1,hc2,hc,_⟩:=h.1.form (by omega)
 have ci:=hc i (vp (att (hg hp i).seq)) (by simp [zZ hi])
 have cj:=hc j (vp (att (hg hp j).seq)) (by simp [zZ hj])
 have bi:=h.at_ hi
 have bj:=h.at_ hj
 have ti:w.cell? ⟨att (hg hp i).seq,4,none⟩=some (vi (hg hp i).till):=zB bi rfl
 have tj:w.cell? ⟨att (hg hp j).seq,4,none⟩=some (vi (hg hp j).till):=zB bj rfl
 have si:w.cell? ⟨att (hg hp i).seq,5,none⟩=some (vi (hg hp i).seq):=zB bi rfl
 have sj:w.cell? ⟨att (hg hp j).seq,5,none⟩=some (vi (hg hp j).seq):=zB bj rfl
 clear bi bj hc h
 unfold maxLen at hc2
 have i0:(0:Int)≤i:=by omega
 have j0:(0:Int)≤j:=by omega
 have i1:(i:Int) < (hp.length:Int):=by omega
 have j1:(j:Int) < (hp.length:Int):=by omega
 by_cases ht:(hg hp i).till=(hg hp j).till
 ·have hne:((hg hp i).till != (hg hp j).till)=false:=by simp [ht]
  have hb:=zh (show decide ((hg hp i).seq < (hg hp j).seq)=zg (hg hp i) (hg hp j) by unfold zg;simp [ht])
  clear ht
  go_enter Tryz.func208,Tryz.ntmps208
  go_wp2
  go_quiet (fail)
  go_wp2
  go_quiet (fail)
  go_wp2
  go_ret
  exact ⟨_,congrArg (fun b=>Ending.returned (.bool b)) hb.out,by rw [World.drewN_drewN]⟩
 ·have hne:((hg hp i).till != (hg hp j).till)=true:=by simp [ht]
  have hb:=zh (show decide ((hg hp i).till < (hg hp j).till)=zg (hg hp i) (hg hp j) by unfold zg;simp [ht])
  clear ht
  go_enter Tryz.func208,Tryz.ntmps208
  go_wp2
  go_quiet (fail)
  go_wp2
  go_quiet (fail)
  go_wp2
  go_ret
  exact ⟨_,congrArg (fun b=>Ending.returned (.bool b)) hb.out,by rw [World.drewN_drewN]⟩
theorem zU.drew2 {w:World} {ρ:Nat→Role} {v:Value} {att:Int→Nat} {hp:List Att} (h:zU w ρ v att hp):zU w.drew.drew ρ v att hp:=h
def HpB (ρ:Nat→Role):Nat→Prop:=fun b=>(ρ b).tag=8∨(ρ b).tag=11
theorem zU.seq_ne {w:World} {ρ:Nat→Role} {v:Value} {att:Int→Nat} {hp:List Att} (h:zU w ρ v att hp) {i j:Nat} (hi:i < hp.length) (hj:j < hp.length) (hij:i≠j):(hg hp i).seq≠(hg hp j).seq:=fun e=>hij (by
 have h1:(hp.map (·.seq))[i]?=some (hg hp i).seq:=by simp [zZ hi]
 have h2:(hp.map (·.seq))[j]?=some (hg hp j).seq:=by simp [zZ hj]
 exact (List.getElem?_inj (by simpa using hi) h.2.1).1 (by rw [h1,h2,e]))
theorem zU.role {w:World} {ρ:Nat→Role} {v:Value} {att:Int→Nat} {hp:List Att} (h:zU w ρ v att hp) {i:Nat} (hi:i < hp.length):ρ (att (hg hp i).seq)=zn (hg hp i).seq:=(h.2.2 i _ (zZ hi)).1
theorem zU.att_ne {w:World} {ρ:Nat→Role} {v:Value} {att:Int→Nat} {hp:List Att} (h:zU w ρ v att hp) {i j:Nat} (hi:i < hp.length) (hj:j < hp.length) (hij:i≠j):att (hg hp i).seq≠att (hg hp j).seq:=fun e=>by
 have h1:=h.role hi
 have h2:=h.role hj
 rw [e,h2] at h1
 simp only [zn,Role.mk.injEq,true_and,and_true] at h1
 exact h.seq_ne hi hj hij h1.symm
theorem zJS {w:World} {ρ:Nat→Role} {b off n cap:Nat} {att:Int→Nat} {hp:List Att} (h:zU w ρ (.slice (some ⟨b,off,none⟩) n cap) att hp) {i j:Nat} (hi:i < hp.length) (hj:j < hp.length) (hij:i≠j) :
 zU ((((w.setCell ⟨b,off+i,none⟩ (vp (att (hg hp j).seq))).setCell ⟨b,off+j,none⟩ (vp (att (hg hp i).seq))).setCell ⟨att (hg hp j).seq,6,none⟩ (vi i)).setCell ⟨att (hg hp i).seq,6,none⟩ (vi j)) ρ (.slice (some ⟨b,off,none⟩) n cap) att (zW hp i j) ∧
 Fr (HpB ρ) w ((((w.setCell ⟨b,off+i,none⟩ (vp (att (hg hp j).seq))).setCell ⟨b,off+j,none⟩ (vp (att (hg hp i).seq))).setCell ⟨att (hg hp j).seq,6,none⟩ (vi i)).setCell ⟨att (hg hp i).seq,6,none⟩ (vi j)):=by
 have hij':=h.att_ne hi hj hij
 have ri:=h.role hi
 have rj:=h.role hj
 have bi:=h.at_ hi
 have bj:=h.at_ hj
 obtain ⟨h1,h2,h3⟩:=h
 rcases h1 with ⟨h1,_⟩ | ⟨b',off',cap',cs,e,hb,hblk,hc1,hc2,hsz,hlen,hcell⟩
 ·cases h1
 injection e with e1 e2 e3
 injection e1 with e1
 injection e1 with e4 e5
 subst e4;subst e5;subst e3;subst e2
 have n3:b≠att (hg hp i).seq:=fun e=>by rw [←e,hb] at ri;simp [ze,zn] at ri
 have n4:b≠att (hg hp j).seq:=fun e=>by rw [←e,hb] at rj;simp [ze,zn] at rj
 have hcs:off+i < cs.size∧off+j < cs.size:=by omega
 have hB:((((w.setCell ⟨b,off+i,none⟩ (vp (att (hg hp j).seq))).setCell ⟨b,off+j,none⟩ (vp (att (hg hp i).seq))).setCell ⟨att (hg hp j).seq,6,none⟩ (vi i)).setCell ⟨att (hg hp i).seq,6,none⟩ (vi j)).heap[b]? =
  some (.cells ((cs.setIfInBounds (off+i) (vp (att (hg hp j).seq))).setIfInBounds (off+j) (vp (att (hg hp i).seq))) 106 (0,0)):=by
  rw [zG _ n3,zG _ n4]
  exact zO _ (zO _ hblk)
 have hO:∀x,x≠b→x≠att (hg hp i).seq→x≠att (hg hp j).seq→((((w.setCell ⟨b,off+i,none⟩ (vp (att (hg hp j).seq))).setCell ⟨b,off+j,none⟩ (vp (att (hg hp i).seq))).setCell ⟨att (hg hp j).seq,6,none⟩ (vi i)).setCell ⟨att (hg hp i).seq,6,none⟩ (vi j)).heap[x]?=w.heap[x]?:=by
  intro x x1 x2 x3
  rw [zG _ x2,zG _ x3,zG _ x1,zG _ x1]
 have hI:((((w.setCell ⟨b,off+i,none⟩ (vp (att (hg hp j).seq))).setCell ⟨b,off+j,none⟩ (vp (att (hg hp i).seq))).setCell ⟨att (hg hp j).seq,6,none⟩ (vi i)).setCell ⟨att (hg hp i).seq,6,none⟩ (vi j)).heap[att (hg hp i).seq]? =
  some (.cells (yV (hg hp i) j) 109 (0,0)):=by
  have:((w.setCell ⟨b,off+i,none⟩ (vp (att (hg hp j).seq))).setCell ⟨b,off+j,none⟩ (vp (att (hg hp i).seq))).heap[att (hg hp i).seq]?=some (.cells (yV (hg hp i) i) 109 (0,0)):=by
   rw [zG _ n3.symm,zG _ n3.symm];exact bi
  exact zO _ ((zG _ hij').trans this)
 have hJ:((((w.setCell ⟨b,off+i,none⟩ (vp (att (hg hp j).seq))).setCell ⟨b,off+j,none⟩ (vp (att (hg hp i).seq))).setCell ⟨att (hg hp j).seq,6,none⟩ (vi i)).setCell ⟨att (hg hp i).seq,6,none⟩ (vi j)).heap[att (hg hp j).seq]? =
  some (.cells (yV (hg hp j) i) 109 (0,0)):=by
  have:((w.setCell ⟨b,off+i,none⟩ (vp (att (hg hp j).seq))).setCell ⟨b,off+j,none⟩ (vp (att (hg hp i).seq))).heap[att (hg hp j).seq]?=some (.cells (yV (hg hp j) j) 109 (0,0)):=by
   rw [zG _ n4.symm,zG _ n4.symm];exact bj
  rw [zG _ hij'.symm]
  exact zO _ this
 refine ⟨⟨.inr ⟨b,off,cap,_,by rw [yC],hb,hB,by rw [yC];exact hc1,hc2,by simpa using hsz,by simp [yC],?_⟩,?_,?_⟩,?_⟩
 ·intro k u hk
  have hkl:k < hp.length:=by
   have:=(List.getElem?_eq_some_iff.1 hk).1
   simpa [yC] using this
  rw [List.getElem?_map,zZ (by rw [yC];exact hkl)] at hk
  simp only [Option.map_some,Option.some.injEq] at hk
  rw [yW hp i j k hi hj] at hk
  rw [Array.getElem?_setIfInBounds]
  by_cases e1:off+j=off+k
  ·rw [if_pos e1,if_pos (by simp;omega)]
   rw [if_pos (by omega)] at hk
   rw [hk]
  ·rw [if_neg e1,Array.getElem?_setIfInBounds]
   rw [if_neg (by omega)] at hk
   by_cases e2:off+i=off+k
   ·rw [if_pos e2,if_pos (by omega)]
    rw [if_pos (by omega)] at hk
    rw [hk]
   ·rw [if_neg e2]
    rw [if_neg (by omega)] at hk
    exact hcell k u (by rw [List.getElem?_map,zZ hkl];simpa using hk)
 ·have:=(zBs hp i j hi hj).map (·.seq)
  exact this.nodup_iff.2 h2
 ·intro k a hk
  have hkl:k < hp.length:=by
   have:=(List.getElem?_eq_some_iff.1 hk).1
   simpa [yC] using this
  have ha:=zAJ hk
  rw [yW hp i j k hi hj] at ha
  by_cases e1:k=j
  ·subst e1
   rw [if_pos rfl] at ha
   subst ha
   exact ⟨ri,hI⟩
  ·rw [if_neg e1] at ha
   by_cases e2:k=i
   ·subst e2
    rw [if_pos rfl] at ha
    subst ha
    exact ⟨rj,hJ⟩
   ·rw [if_neg e2] at ha
    subst ha
    have hh:zU w ρ (.slice (some ⟨b,off,none⟩) hp.length cap) att hp:=⟨.inr ⟨b,off,cap,cs,rfl,hb,hblk,hc1,hc2,hsz,hlen,hcell⟩,h2,h3⟩
    have rk:=hh.role hkl
    refine ⟨rk,(hO _ (fun e=>?_) (hh.att_ne hkl hi e2) (hh.att_ne hkl hj e1)).trans (hh.at_ hkl)⟩
    rw [e,hb] at rk;simp [ze,zn] at rk
 ·have f1:HpB ρ b:=.inr (by rw [hb];rfl)
  have f2:HpB ρ (att (hg hp i).seq):=.inl (by rw [ri];rfl)
  have f3:HpB ρ (att (hg hp j).seq):=.inl (by rw [rj];rfl)
  exact ((((Fr.refl _ w).setCell _ _ (.inl f1)).setCell _ _ (.inl f1)).setCell _ _ (.inl f3)).setCell _ _ (.inl f2)
theorem zBw {w:World} {ρ:Nat→Role} {v:Value} {att:Int→Nat} {hp:List Att} (h:zU w ρ v att hp) {i j:Nat} (hi:i < hp.length) (hj:j < hp.length) (hij:i≠j) :
 Calls Tryz.prog 209 #[v,vi i,vi j] w fun e w'=>e=.returned (.tuple #[])∧zU w' ρ v att (zW hp i j)∧Fr (HpB ρ) w w':=by
 obtain ⟨b,off,cap,rfl,hb1,_,hc1,hc2,hc,hfz⟩:=h.1.form (by omega)
 have hrep:=zh (zJS h hi hj hij)
 have ci:=hc i (vp (att (hg hp i).seq)) (by simp [zZ hi])
 have cj:=hc j (vp (att (hg hp j).seq)) (by simp [zZ hj])
 have bi:=h.at_ hi
 have bj:=h.at_ hj
 have ri:=h.role hi
 have rj:=h.role hj
 have ti:w.cell? ⟨att (hg hp i).seq,6,none⟩=some (vi i):=zB bi rfl
 have tj:w.cell? ⟨att (hg hp j).seq,6,none⟩=some (vi j):=zB bj rfl
 have fi:w.frozen? ⟨att (hg hp i).seq,6,none⟩=false:=zK bi
 have fj:w.frozen? ⟨att (hg hp j).seq,6,none⟩=false:=zK bj
 have gi:=hfz (off+i)
 have gj:=hfz (off+j)
 unfold maxLen at hc2
 have i0:(0:Int)≤i:=by omega
 have j0:(0:Int)≤j:=by omega
 have i1:(i:Int) < (hp.length:Int):=by omega
 have j1:(j:Int) < (hp.length:Int):=by omega
 have n1:off+i≠off+j:=by omega
 have n2:off+j≠off+i:=by omega
 have n3:att (hg hp i).seq≠b:=fun e=>by rw [e,hb1] at ri;simp [ze,zn] at ri
 have n4:att (hg hp j).seq≠b:=fun e=>by rw [e,hb1] at rj;simp [ze,zn] at rj
 have n5:=h.att_ne hi hj hij
 have n6:att (hg hp j).seq≠att (hg hp i).seq:=fun e=>n5 e.symm
 clear bi bj hc h hfz
 go_enter Tryz.func209,Tryz.ntmps209
 go_wp2
 go_region
 go_wp2
 go_region
 go_end0
 exact ⟨rfl,hrep.out.1.drew2,hrep.out.2.drew.drew⟩
abbrev hI (D:Nat):Value:=.iface 170 (.pointer (some ⟨D,12,none⟩))
theorem zU.drewN {w:World} {ρ:Nat→Role} {v:Value} {att:Int→Nat} {hp:List Att} (h:zU w ρ v att hp) (k:Nat):zU (w.drewN k) ρ v att hp:=h
theorem Fr.drewN {S:Nat→Prop} {a b:World} (h:Fr S a b) (k:Nat):Fr S a (b.drewN k):=⟨h.os,h.tape,h.output,h.size,h.block⟩
theorem Fr.ofDrewN {S:Nat→Prop} {a b:World} {k:Nat} (h:Fr S (a.drewN k) b):Fr S a b:=⟨h.os,h.tape,h.output,h.size,h.block⟩
theorem Fr.cell {S:Nat→Prop} {a b:World} (h:Fr S a b) {p:Addr} {v:Value} (hp:¬S p.block) (hc:a.cell? p=some v):b.cell? p=some v:=by
 rw [World.cell?_of_block (h.block p.block (World.block_lt_of_cell? a p hc) hp)];exact hc
theorem zJT {f:Nat} {l:List Att} {j:Nat} (h1:(j - 1) / 2≠j) (h2:zg (hg l j) (hg l ((j - 1) / 2))=true):upF (f+1) l j=upF f (zW l ((j - 1) / 2) j) ((j - 1) / 2):=by
 rw [upF,if_neg (by simp [h1,h2])]
theorem zJU {f:Nat} {l:List Att} {j:Nat} (h:zg (hg l j) (hg l ((j - 1) / 2))=false):upF f l j=l:=by
 cases f with
 | zero=>rfl
 | succ f=>rw [upF,if_pos (.inr h)]
theorem zJV {f:Nat} {l:List Att}:upF f l 0=l:=by
 cases f with
 | zero=>rfl
 | succ f=>rw [upF,if_pos (.inl (by omega))]
def zCj (w:World) (ρ:Nat→Role) (v:Value) (att:Int→Nat) (l:List Att) (w':World):Prop:=zU w' ρ v att l∧Fr (HpB ρ) w w'
theorem zDt {D:Nat} {w:World} {ρ:Nat→Role} {v:Value} {att:Int→Nat} {hp:List Att} (hD:¬HpB ρ D) (hv:w.cell? ⟨D,12,none⟩=some v) (h:zU w ρ v att hp) {j:Nat} (hj:j < hp.length) :
 Calls Tryz.prog 151 #[hI D,vi j] w fun e w'=>e=.returned (.tuple #[])∧zCj w ρ v att (upF hp.length hp j) w':=by
 have hlen:hp.length≤maxLen:=by obtain ⟨a,cap,_,h1,h2⟩:=h.1.form';omega
 unfold maxLen at hlen
 go_enter Tryz.func151,Tryz.ntmps151
 go_wp2_with fail
 go_loopw [1,4] (fun s1 _ wr=>∃(jn f:Nat) (l:List Att),s1=.int .i64 jn∧jn < l.length∧jn≤f∧Hid (upF hp.length hp j=upF f l jn)∧Hid (zU wr ρ v att l)∧Hid (Fr (HpB ρ) w wr)∧Hid (l.length=hp.length)) (fun s1 _ _=>(intOf s1).toNat)
 case atStart=>exact ⟨j,hp.length,hp,rfl,hj,by omega,rfl,h,Fr.refl _ _,rfl⟩
 case round =>
  obtain ⟨jn,f,l,rfl,hjn,hjf,hup,hH,hF,hL⟩:=hrel
  have hc:=hF.out.cell hD hv
  have hmL:(method 362 170 (.pointer (some ⟨D,12,none⟩)) "Less").run Tryz.prog wr=.ok (208,v) wr:=zAW zDq hc _
  have hlr:l.length≤9223372036854775807:=by have:=hL.out;omega
  by_cases h0:jn=0
  ·subst h0
   clear hmL hc
   go_wp2
   go_end0
   exact ⟨rfl,by rw [hup.out,zJV];exact ⟨hH.out,hF.out⟩⟩
  ·obtain ⟨ip,hip⟩:∃ip:Nat,Hid (ip=(jn - 1) / 2):=⟨_,rfl⟩
   have hq:((jn:Int) - 1) / 2=(ip:Int):=by have:=hip.out;omega
   have hne:((ip:Int)==(jn:Int))=false:=by have:=hip.out;rw [beq_eq_false_iff_ne];omega
   have hil:ip < l.length:=by have:=hip.out;omega
   have hj1:(1:Int)≤(jn:Int):=by omega
   have hf0:0 < f:=by omega
   have hne':Hid (ip≠jn):=by have:=hip.out;show ip≠jn;omega
   obtain ⟨b,hb⟩:∃b:Bool,Hid (zg (hg l jn) (hg l ip)=b):=⟨_,rfl⟩
   cases b with
   | false =>
     go_wp2_with fail
     refine (zAX hH.out hjn hil).mono ?_
     rintro e w1 ⟨k,rfl,rfl⟩
     rw [hb.out]
     go_wp2_with fail
     go_end0
     refine ⟨rfl,?_⟩
     rw [hup.out,zJU (by rw [←hip.out];exact hb.out)]
     exact ⟨hH.out.drewN _,hF.out.drewN _⟩
   | true =>
     have hmS:∀k,(method 362 170 (.pointer (some ⟨D,12,none⟩)) "Swap").run Tryz.prog (wr.drewN k)=.ok (209,v) (wr.drewN k):=fun k=>zAW zDs (w:=wr.drewN k) hc _
     go_wp2_with fail
     refine (zAX hH.out hjn hil).mono ?_
     rintro e w1 ⟨k,rfl,rfl⟩
     rw [hb.out]
     go_wp2_with fail
     refine (zBw (hH.out.drewN k) hil hjn hne'.out).mono ?_
     rintro e w1 ⟨rfl,hH1,hF1⟩
     have HH1:=zh hH1
     have HF1:=zh hF1
     clear hH1 hF1
     go_wp2_with fail
     go_roundw
     case rel =>
      refine ⟨ip,f - 1,zW l ip jn,rfl,by rw [yC];exact hil,by have:=hip.out;omega,?_,HH1.out,hF.out.trans HF1.out.ofDrewN (fun x hx=>.inl hx),?_⟩
      ·have:=hup.out
       have e:=zJT (f:=f - 1) (l:=l) (j:=jn) (by rw [←hip.out];exact hne'.out) (by rw [←hip.out];exact hb.out)
       rw [show f - 1+1=f by omega,←hip.out] at e
       exact this.trans e
      ·show (zW l ip jn).length=_
       rw [yC];exact hL.out
     case measure=>simp [intOf];have:=hip.out;omega
theorem zJW {f:Nat} {l:List Att} {i n:Nat} (h:n≤2*i+1):zi f l i n=(l,i):=by
 cases f with
 | zero=>rfl
 | succ f=>rw [zi,if_pos h]
theorem zDu {f:Nat} {l:List Att} {i n:Nat} (h:zg (hg l (kid l i n)) (hg l i)=false):zi f l i n=(l,i):=by
 cases f with
 | zero=>rfl
 | succ f =>
   rw [zi]
   split
   ·rfl
   ·rfl
theorem zDv {f:Nat} {l:List Att} {i n:Nat} (h1:¬n≤2*i+1) (h:zg (hg l (kid l i n)) (hg l i)=true):zi (f+1) l i n=zi f (zW l i (kid l i n)) (kid l i n) n:=by
 rw [zi,if_neg h1,if_neg (by simp [h])]
def zBx (w:World) (ρ:Nat→Role) (v:Value) (att:Int→Nat) (p:List Att×Nat) (i0:Nat) (e:Ending) (w':World):Prop:=
 e=.returned (.bool (decide (i0 < p.2)))∧zU w' ρ v att p.1∧Fr (HpB ρ) w w'
theorem zFu {D:Nat} {w:World} {ρ:Nat→Role} {v:Value} {att:Int→Nat} {hp:List Att} (hD:¬HpB ρ D) (hv:w.cell? ⟨D,12,none⟩=some v) (h:zU w ρ v att hp) {i0 n:Nat} (hn:n≤hp.length) (hi:i0≤n) (hsm:hp.length≤1099511627776) :
 Calls Tryz.prog 150 #[hI D,vi i0,vi n] w (zBx w ρ v att (zi hp.length hp i0 n) i0):=by
 go_enter Tryz.func150,Tryz.ntmps150
 go_wp2_with fail
 go_loopw [7,8,9,10] (fun s7 _ _ _ wr=>∃(ic f:Nat) (l:List Att),s7=.int .i64 ic∧i0≤ic∧ic≤n∧n≤ic+f∧Hid (zi hp.length hp i0 n=zi f l ic n)∧Hid (zU wr ρ v att l)∧Hid (Fr (HpB ρ) w wr)∧Hid (l.length=hp.length)) (fun s7 _ _ _ _=>n - (intOf s7).toNat)
 case atStart=>exact ⟨i0,hp.length,hp,rfl,Nat.le_refl _,hi,by omega,rfl,h,Fr.refl _ _,rfl⟩
 case round =>
  obtain ⟨ic,f,l,rfl,hi0,hin,hif,hdn,hH,hF,hL⟩:=hrel
  have hc:=hF.out.cell hD hv
  have hmL0:(method 362 170 (.pointer (some ⟨D,12,none⟩)) "Less").run Tryz.prog wr=.ok (208,v) wr:=zAW zDq hc _
  have hmL:∀k,(method 362 170 (.pointer (some ⟨D,12,none⟩)) "Less").run Tryz.prog (wr.drewN k)=.ok (208,v) (wr.drewN k):=fun k=>zAW zDq (w:=wr.drewN k) hc _
  have hmS:∀k,(method 362 170 (.pointer (some ⟨D,12,none⟩)) "Swap").run Tryz.prog (wr.drewN k)=.ok (209,v) (wr.drewN k):=fun k=>zAW zDs (w:=wr.drewN k) hc _
  have hdc:decide ((i0:Int) < (ic:Int))=decide (i0 < ic):=by simp
  by_cases hA:n≤2*ic+1
  ·have hge:decide ((n:Int)≤2*(ic:Int)+1)=true:=by simp;omega
   clear hmL0 hmL hmS hc
   go_wp2_with fail
   go_ret
   unfold zBx
   rw [hdn.out,zJW hA]
   exact ⟨by first | rfl | (simp),hH.out,hF.out⟩
  ·obtain ⟨p1,hp1⟩:∃p1:Nat,Hid (p1=2*ic+1):=⟨_,rfl⟩
   obtain ⟨p2,hp2⟩:∃p2:Nat,Hid (p2=p1+1):=⟨_,rfl⟩
   have e1:2*(ic:Int)+1=(p1:Int):=by have:=hp1.out;omega
   have e2:(p1:Int)+1=(p2:Int):=by have:=hp2.out;omega
   have q1:p1 < n:=by have:=hp1.out;omega
   have q2:ic < p1:=by have:=hp1.out;omega
   have q3:p1 < p2:=by have:=hp2.out;omega
   have hge:decide ((n:Int)≤(p1:Int))=false:=by simp;omega
   have hnl:n≤l.length:=by have:=hL.out;omega
   have hp0:(0:Int)≤(p1:Int):=by omega
   by_cases hB:p2 < n
   ·have hlt:decide ((p2:Int) < (n:Int))=true:=by simp;exact hB
    have hl1:p1 < l.length:=by omega
    have hl2:p2 < l.length:=by omega
    obtain ⟨c,hcb⟩:∃c:Bool,Hid (zg (hg l p2) (hg l p1)=c):=⟨_,rfl⟩
    obtain ⟨kk,hkv,hkk,hkn⟩:∃kk:Nat,Hid (kk=if c then p2 else p1)∧Hid (kk=kid l ic n)∧(ic < kk∧kk < n):=by
     refine ⟨_,rfl,?_,?_⟩
     ·show (if c=true then p2 else p1)=_
      unfold kid
      have h1:=hp1.out
      have h2:=hp2.out
      have h3:=hcb.out
      have e3:2*ic+2=p2:=by omega
      rw [e3,←h1,h3]
      cases c<;>simp [hB]
     ·cases c<;>simp<;>omega
    go_wp2_with fail
    refine (zAX hH.out hl2 hl1).mono ?_
    rintro e w1 ⟨k,rfl,rfl⟩
    rw [hcb.out]
    cases c with
    | true =>
      obtain rfl:kk=p2:=by simpa using hkv.out
      go_wp2_with fail
      have HX:=zh (hH.out.drewN k)
      have hkl:kk < l.length:=by omega
      have hil:ic < l.length:=by omega
      obtain ⟨b,hb⟩:∃b:Bool,Hid (zg (hg l kk) (hg l ic)=b):=⟨_,rfl⟩
      cases b with
      | false =>
        refine (zAX HX.out hkl hil).mono ?_
        rintro e w1 ⟨k2,rfl,rfl⟩
        rw [hb.out]
        go_wp2_with fail
        go_ret
        unfold zBx
        rw [hdn.out,zDu (by rw [←hkk.out];exact hb.out)]
        exact ⟨by first | rfl | (simp),hH.out.drewN _,hF.out.drewN _⟩
      | true =>
        refine (zAX HX.out hkl hil).mono ?_
        rintro e w1 ⟨k2,rfl,rfl⟩
        rw [hb.out]
        go_wp2_with fail
        refine (zBw (hH.out.drewN _) hil hkl (by omega)).mono ?_
        rintro e w1 ⟨rfl,hH1,hF1⟩
        have HH1:=zh hH1
        have HF1:=zh hF1
        clear hH1 hF1
        go_wp2_with fail
        go_roundw
        case rel =>
         refine ⟨kk,f - 1,zW l ic kk,by simp,by omega,by omega,by omega,?_,HH1.out,hF.out.trans HF1.out.ofDrewN (fun x hx=>.inl hx),?_⟩
         ·have e:=zDv (f:=f - 1) (l:=l) (i:=ic) hA (by rw [←hkk.out];exact hb.out)
          rw [show f - 1+1=f by omega,←hkk.out] at e
          exact hdn.out.trans e
         ·show (zW l ic kk).length=_
          rw [yC];exact hL.out
        case measure=>simp [intOf];omega
    | false =>
      obtain rfl:kk=p1:=by simpa using hkv.out
      go_wp2_with fail
      have HX:=zh (hH.out.drewN k)
      have hkl:kk < l.length:=by omega
      have hil:ic < l.length:=by omega
      obtain ⟨b,hb⟩:∃b:Bool,Hid (zg (hg l kk) (hg l ic)=b):=⟨_,rfl⟩
      cases b with
      | false =>
        refine (zAX HX.out hkl hil).mono ?_
        rintro e w1 ⟨k2,rfl,rfl⟩
        rw [hb.out]
        go_wp2_with fail
        go_ret
        unfold zBx
        rw [hdn.out,zDu (by rw [←hkk.out];exact hb.out)]
        exact ⟨by first | rfl | (simp),hH.out.drewN _,hF.out.drewN _⟩
      | true =>
        refine (zAX HX.out hkl hil).mono ?_
        rintro e w1 ⟨k2,rfl,rfl⟩
        rw [hb.out]
        go_wp2_with fail
        refine (zBw (hH.out.drewN _) hil hkl (by omega)).mono ?_
        rintro e w1 ⟨rfl,hH1,hF1⟩
        have HH1:=zh hH1
        have HF1:=zh hF1
        clear hH1 hF1
        go_wp2_with fail
        go_roundw
        case rel =>
         refine ⟨kk,f - 1,zW l ic kk,by simp,by omega,by omega,by omega,?_,HH1.out,hF.out.trans HF1.out.ofDrewN (fun x hx=>.inl hx),?_⟩
         ·have e:=zDv (f:=f - 1) (l:=l) (i:=ic) hA (by rw [←hkk.out];exact hb.out)
          rw [show f - 1+1=f by omega,←hkk.out] at e
          exact hdn.out.trans e
         ·show (zW l ic kk).length=_
          rw [yC];exact hL.out
        case measure=>simp [intOf];omega
   ·have hlt:decide ((p2:Int) < (n:Int))=false:=by simp;omega
    obtain ⟨kk,hkv,hkk⟩:∃kk:Nat,kk=p1∧Hid (kk=kid l ic n):=by
     refine ⟨_,rfl,?_⟩
     show p1=_
     unfold kid
     have h1:=hp1.out
     have h2:=hp2.out
     rw [if_neg (by omega)];exact h1
    subst hkv
    have hkn:ic < kk∧kk < n:=⟨q2,q1⟩
    go_wp2_with fail
    have HX:=hH
    have hkl:kk < l.length:=by omega
    have hil:ic < l.length:=by omega
    obtain ⟨b,hb⟩:∃b:Bool,Hid (zg (hg l kk) (hg l ic)=b):=⟨_,rfl⟩
    cases b with
    | false =>
      refine (zAX HX.out hkl hil).mono ?_
      rintro e w1 ⟨k2,rfl,rfl⟩
      rw [hb.out]
      go_wp2_with fail
      go_ret
      unfold zBx
      rw [hdn.out,zDu (by rw [←hkk.out];exact hb.out)]
      exact ⟨by first | rfl | (simp),hH.out.drewN _,hF.out.drewN _⟩
    | true =>
      refine (zAX HX.out hkl hil).mono ?_
      rintro e w1 ⟨k2,rfl,rfl⟩
      rw [hb.out]
      go_wp2_with fail
      refine (zBw (hH.out.drewN _) hil hkl (by omega)).mono ?_
      rintro e w1 ⟨rfl,hH1,hF1⟩
      have HH1:=zh hH1
      have HF1:=zh hF1
      clear hH1 hF1
      go_wp2_with fail
      go_roundw
      case rel =>
       refine ⟨kk,f - 1,zW l ic kk,by simp,by omega,by omega,by omega,?_,HH1.out,hF.out.trans HF1.out.ofDrewN (fun x hx=>.inl hx),?_⟩
       ·have e:=zDv (f:=f - 1) (l:=l) (i:=ic) hA (by rw [←hkk.out];exact hb.out)
        rw [show f - 1+1=f by omega,←hkk.out] at e
        exact hdn.out.trans e
       ·show (zW l ic kk).length=_
        rw [yC];exact hL.out
      case measure=>simp [intOf];omega
theorem yn {P:Program} (w:World) {t e T:TypeId} {sz:Nat} (hk:P.underlying t=some (.slice e)) (cs:List Value) (hl:cs.length=1*sz) (h1:∀u∈cs,u.oneCell'=true) (B:Nat) (hB:B=w.heap.size) :
 Src P sz t (.slice (some ⟨B,0,none⟩) 1 1) 1 cs (w.alloc (.cells cs.toArray T)):=by
 subst hB
 exact Src.ofSlice _ hk _ 1 1 cs hl (fun j u hj=>by
  rw [Addr.add_lit]
  exact zB (zP w) (by simpa using hj)) h1
def zCk (w:World) (ρ:Nat→Role) (D A:Nat) (cs:Array Value) (TD:TypeId) (att:Int→Nat) (hp:List Att) (a:Att) (f:List Att→List Att) (w':World):Prop:=
 ∃g v' ρ' att',zU w' ρ' v' att' (f (hp++[a]))∧w'.heap[D]?=some (.cells (cs.setIfInBounds 12 v') TD (0,0))∧Fr (fun b=>b=A∨b=D∨b=g∨HpB ρ b) w w'∧(ρ g=ze∨w.heap.size≤g)∧g < w'.heap.size ∧
  ρ'=zf (zf ρ A (zn a.seq)) g ze∧att'=fun s=>if s=a.seq then A else att s
theorem zJX {w w1:World} {ρ:Nat→Role} {D A:Nat} {cs:Array Value} {TD:TypeId} {att:Int→Nat} {hp:List Att} {a:Att} {x:Nat} {v:Value}
 (hD:w.heap[D]?=some (.cells cs TD (0,0))) (hDr:ρ D=zC) (hA:w.heap[A]?=some (.cells (yV a x) 109 (0,0))) (hAr:(ρ A).tag=0) (h:zU w ρ v att hp) (ha:a.seq∉hp.map (·.seq))
 {g off cap:Nat} (hg:ρ g=ze∨g=w.heap.size+1) (hs:SlAt w1 106 1 (fun b=>b=g) (.slice (some ⟨g,off,none⟩) (hp.length+1) cap) (hp.length+1) (hp.map (fun a=>vp (att a.seq))++[vp A]))
 (hf:Fr (fun b=>b=g) ((w.setCell ⟨A,6,none⟩ (vi hp.length)).alloc (.cells #[vp A] 106)) w1) (hlt:g < w1.heap.size) :
 zCk w ρ D A cs TD att hp a (fun l=>l) (w1.setCell ⟨D,12,none⟩ (.slice (some ⟨g,off,none⟩) (hp.length+1) cap)):=by
 have hAl:=zD w hA
 have hDl:=zD w hD
 have hAD:A≠D:=fun e=>by rw [e,hDr] at hAr;simp [zC] at hAr
 have hgA:g≠A:=by rintro rfl;rcases hg with h1 | h1;· rw [h1] at hAr;simp [ze] at hAr
                  ·omega
 have hgD:g≠D:=by rintro rfl;rcases hg with h1 | h1;· rw [h1] at hDr;simp [ze,zC] at hDr
                  ·omega
 have hf1:Fr (fun b=>b=A∨b=g) w w1:=(((Fr.refl _ w).setCell ⟨A,6,none⟩ (vi hp.length) (.inl (.inl rfl))).alloc _).trans hf (fun y hy=>.inl (.inr hy))
 have hA1:w1.heap[A]?=some (.cells (yV a hp.length) 109 (0,0)):=by
  rw [hf.block A (by simp;omega) (fun e=>hgA e.symm),zM _ (by simp;omega)]
  exact zO _ hA
 have hD1:w1.heap[D]?=some (.cells cs TD (0,0)):=by
  rw [hf1.block D hDl (by rintro (e | e);exact hAD e.symm;exact hgD e.symm)];exact hD
 have hblk:∀y,y≠D→(w1.setCell ⟨D,12,none⟩ (.slice (some ⟨g,off,none⟩) (hp.length+1) cap)).heap[y]?=w1.heap[y]?:=fun y hy=>zG _ hy
 refine ⟨g,.slice (some ⟨g,off,none⟩) (hp.length+1) cap,_,_,⟨?_,?_,?_⟩,zO _ hD1,(hf1.mono (fun y hy=>.inl (by rcases hy with e | e;exact .inl e;exact .inr (.inr (.inl e))))).setCell _ _ (.inl (.inr (.inl rfl))),
  hg.imp id (fun e=>by omega),by simpa using hlt,rfl,rfl⟩
 ·have:(List.map (fun b=>vp (if b.seq=a.seq then A else att b.seq)) (hp++[a]))=hp.map (fun a=>vp (att a.seq))++[vp A]:=by
   simp only [List.map_append,List.map_cons,List.map_nil,if_true]
   congr 1
   refine List.map_congr_left fun b hb=>?_
   rw [if_neg (fun e=>ha (by rw [←e];exact List.mem_map.2 ⟨b,hb,rfl⟩))]
  simp only [List.length_append,List.length_cons,List.length_nil,this]
  exact hs.of_blk (fun b hb _=>by subst hb;exact hblk _ hgD) (fun b hb _=>by subst hb;exact ym _ _ _)
 ·simp only [List.map_append,List.map_cons,List.map_nil]
  rw [List.nodup_append]
  exact ⟨h.2.1,by simp,fun y hy z hz=>by simp at hz;subst hz;exact fun e=>ha (e ▸ hy)⟩
 ·intro i b hb
  by_cases hi:i < hp.length
  ·rw [List.getElem?_append_left hi] at hb
   have hne:b.seq≠a.seq:=fun e=>ha (by rw [←e];exact List.mem_map.2 ⟨b,List.mem_of_getElem? hb,rfl⟩)
   obtain ⟨h5,h6⟩:=h.2.2 i b hb
   simp only [if_neg hne]
   have hx1:att b.seq≠g:=by
    rintro e;rcases hg with h1 | h1
    ·rw [e,h1] at h5;simp [ze,zn] at h5
    ·have:=zD w h6;omega
   have hx2:att b.seq≠A:=fun e=>by rw [e] at h5;rw [h5] at hAr;simp [zn] at hAr
   have hx3:att b.seq≠D:=fun e=>by rw [e,hDr] at h5;simp [zC,zn] at h5
   refine ⟨by rw [zo hx1,zo hx2];exact h5,?_⟩
   rw [hblk _ hx3,hf1.block _ (zD w h6) (by rintro (e | e);exact hx2 e;exact hx1 e)]
   exact h6
  ·have hil:i < (hp++[a]).length:=(List.getElem?_eq_some_iff.1 hb).1
   simp only [List.length_append,List.length_cons,List.length_nil] at hil
   obtain rfl:i=hp.length:=by omega
   simp only [List.getElem?_append_right (Nat.le_refl _),Nat.sub_self,List.getElem?_cons_zero,Option.some.injEq] at hb
   subst hb
   simp only [if_true]
   exact ⟨by rw [zo hgA.symm,ym],(hblk _ hAD).trans hA1⟩
theorem zJY {w:World} {ρ:Nat→Role} {D A:Nat} {cs:Array Value} {TD:TypeId} {att:Int→Nat} {hp:List Att} {a:Att} {x:Nat} {v:Value}
 (hD:w.heap[D]?=some (.cells cs TD (0,0))) (hcs:cs[12]?=some v) (hDr:ρ D=zC) (hA:w.heap[A]?=some (.cells (yV a x) 109 (0,0))) (hAr:(ρ A).tag=0) (h:zU w ρ v att hp) (ha:a.seq∉hp.map (·.seq)) (hsm:hp.length≤1099511627776) :
 Calls Tryz.prog 213 #[.pointer (some ⟨D,12,none⟩),.iface 106 (vp A)] w fun e w'=>e=.returned (.tuple #[])∧zCk w ρ D A cs TD att hp a (fun l=>l) w':=by
 have HR:=zh (fun (w1:World) (g off cap:Nat) (hg:ρ g=ze∨g=w.heap.size+1) (hs:SlAt w1 106 1 (fun b=>b=g) (.slice (some ⟨g,off,none⟩) (hp.length+1) cap) (hp.length+1) (hp.map (fun a=>vp (att a.seq))++[vp A])) (hf:Fr (fun b=>b=g) ((w.setCell ⟨A,6,none⟩ (vi hp.length)).alloc (.cells #[vp A] 106)) w1) (hlt:g < w1.heap.size)=>zJX hD hDr hA hAr h ha hg hs hf hlt)
 obtain ⟨va,vc,rfl,hv1,hv2⟩:=h.1.form'
 have hDc:=zB (w:=w) hD hcs
 have hDf:=zK (off:=12) hD
 have hAc:w.cell? ⟨A,6,none⟩=some (vi x):=zB hA rfl
 have hAf:=zK (off:=6) hA
 have hDA:D≠A:=fun e=>by rw [←e,hDr] at hAr;simp [zC] at hAr
 have hAD:A≠D:=hDA.symm
 have hAl:=zD w hA
 have hDl:=zD w hD
 have hnl:A≠w.heap.size:=by omega
 have hSL:SlAt ((w.setCell ⟨A,6,none⟩ (vi hp.length)).alloc (.cells #[vp A] 106)) 106 1 (fun b=>ρ b=ze) (.slice va hp.length vc) hp.length (hp.map (fun a=>vp (att a.seq))):=
  h.1.of_blk (fun b hb hl=>by
   rw [zM _ (by simpa using hl),zG _ (show b≠A from fun e=>by rw [←e,hb] at hAr;simp [ze] at hAr)]) (fun b hb _=>hb)
 have HD1:=zh (fun (g:Nat) (w1:World) (hg:ρ g=ze∨g=((w.setCell ⟨A,6,none⟩ (vi hp.length)).alloc (.cells #[vp A] 106)).heap.size) (hf:Fr (fun b=>b=g) ((w.setCell ⟨A,6,none⟩ (vi hp.length)).alloc (.cells #[vp A] 106)) w1) =>
  show w1.cell? ⟨D,12,none⟩=some (.slice va hp.length vc)∧w1.frozen? ⟨D,12,none⟩=false∧(ρ g=ze∨g=w.heap.size+1) by
   simp only [World.size_alloc,World.size_setCell] at hg
   have hb:w1.heap[D]?=some (.cells cs TD (0,0)):=by
    rw [hf.block D (by simp;omega) (by rintro rfl;rcases hg with h1 | h1;· rw [h1] at hDr;simp [ze,zC] at hDr
                                       ·omega),zM _ (by simpa using hDl),zG _ hDA]
    exact hD
   exact ⟨zB hb hcs,zK hb,hg⟩)
 have HSL:=zh hSL
 clear hSL h hD hA ha hcs
 unfold maxLen at hv2
 have HB:=zh (show hp.length+1≤maxLen∧(hp.length+1)*8≤140737488355328 by unfold maxLen;omega)
 have hta:∀w:World,(Instr.typeAssert (.iface 106 (vp A)) 20 106 false).run Tryz.prog w=.ok (vp A) w:=fun w=>by kernel_rfl
 go_enter Tryz.func213,Tryz.ntmps213
 go_wp2_with (at_builtin;refine xU _ rfl _ _ _ _ rfl zIt rfl HSL.out rfl (yn (w.setCell ⟨A,6,none⟩ (vi hp.length)) Tryz.underlying77 [vp A] (by rfl) (by simp [Value.oneCell']) w.heap.size (by simp)) (by omega) HB.out.1 HB.out.2 ?_;intro g off cap w1 hg1 hs1 hf1 hlt1 _ _;obtain ⟨k1,k2,hg2⟩:=HD1.out g w1 hg1 hf1;have HP:=zh (HR.out w1 g off cap hg2 hs1 hf1 hlt1);clear hg1 hs1 hf1 hg2)
 go_end0
 exact ⟨rfl,HP.out⟩
theorem zCl {ρ:Nat→Role} {D:Nat} (h:ρ D=zC):¬HpB ρ D:=by unfold HpB;rw [h];simp [zC]
theorem zJZ {w:World} {ρ:Nat→Role} {D A:Nat} {cs:Array Value} {TD:TypeId} {att:Int→Nat} {hp:List Att} {a:Att} {x:Nat} {v:Value}
 (hD:w.heap[D]?=some (.cells cs TD (0,0))) (hcs:cs[12]?=some v) (hDr:ρ D=zC) (hA:w.heap[A]?=some (.cells (yV a x) 109 (0,0))) (hAr:(ρ A).tag=0) (h:zU w ρ v att hp) (ha:a.seq∉hp.map (·.seq)) (hsm:hp.length≤1099511627776) :
 Calls Tryz.prog 107 #[hI D,.iface 106 (vp A)] w fun e w'=>e=.returned (.tuple #[])∧zCk w ρ D A cs TD att hp a (fun l=>upF l.length l hp.length) w':=by
 have hm:=zFt zJP (a:=⟨D,12,none⟩) (w:=w) (362 - 1)
 have HC:=zh (zJY hD hcs hDr hA hAr h ha hsm)
 have h12:12 < cs.size:=(Array.getElem?_eq_some_iff.1 hcs).1
 have hDl:=zD w hD
 have hDA:D≠A:=fun e=>by rw [←e,hDr] at hAr;simp [zC] at hAr
 clear hD hcs hA hAr h ha
 go_enter Tryz.func107,Tryz.ntmps107
 go_wp2_with fail
 refine HC.out.mono ?_
 rintro e w1 ⟨rfl,g,v',ρ',att',hH,hD1,hF,hg,hgl,rfl,rfl⟩
 have hDg:D≠g:=fun e=>by
  subst e
  rcases hg with h1 | h1
  ·rw [hDr] at h1;simp [ze,zC] at h1
  ·omega
 have hDr1:¬HpB (zf (zf ρ A (zn a.seq)) g ze) D:=zCl (by rw [zo hDg,zo hDA];exact hDr)
 have hD12:w1.cell? ⟨D,12,none⟩=some v':=zB hD1 (by simp [h12])
 obtain ⟨va,vc,hvv,hv1,hv2⟩:=hH.1.form'
 have hmL:=zAW zDr hD12 (362 - 1)
 have HU:=zh (zDt hDr1 hD12 hH (j:=hp.length) (by simp))
 have HR:=zh (And.intro hH.2.1 (And.intro hD1 (And.intro hF (And.intro hg hgl))))
 rw [hvv] at hmL
 have HV:=zh hvv
 have hn2:hp.length+1≤maxLen:=by unfold maxLen;omega
 have hz:(0:Int)≤(hp.length:Int):=by omega
 have hz2:(hp.length:Int)≤1099511627776:=by omega
 clear hD12 hvv hH hD1 hF hg hgl hDr1
 go_wp2_with fail
 refine (zCi (by first | exact hn2 | (simp;exact hn2))).mono ?_
 rintro e w2 ⟨rfl,rfl⟩
 go_wp2_with fail
 refine HU.out.mono ?_
 rintro e w3 ⟨rfl,hU⟩
 have HU2:=zh hU
 clear hU
 go_wp2_with fail
 go_end0
 obtain ⟨hH3,hF3⟩:=HU2.out
 obtain ⟨hnd,hD1,hF,hg,hgl⟩:=HR.out
 refine ⟨rfl,g,v',_,_,hH3,?_,?_,hg,by have:=hF3.size;omega,rfl,rfl⟩
 ·rw [hF3.block D (by have:=hF.size;omega) (zCl (by rw [zo hDg,zo hDA];exact hDr))]
  exact hD1
 ·refine hF.trans hF3 (fun y hy=>?_)
  by_cases e1:y=g
  ·exact .inl (.inr (.inr (.inl e1)))
  ·by_cases e2:y=A
   ·exact .inl (.inl e2)
   ·left;right;right;right
    unfold HpB at hy ⊢
    rwa [zo e1,zo e2] at hy
theorem zJa {D:Nat} {w:World} {ρ:Nat→Role} {v:Value} {att:Int→Nat} {hp:List Att} (hD:¬HpB ρ D) (hv:w.cell? ⟨D,12,none⟩=some v) (h:zU w ρ v att hp) {i:Nat} (hi:i < hp.length) (hsm:hp.length≤1099511627776) :
 Calls Tryz.prog 104 #[hI D,vi i] w fun e w'=>e=.returned (.tuple #[])∧zCj w ρ v att (fixF hp i hp.length) w':=by
 have hmL:=zAW zDr hv (362 - 1)
 obtain ⟨va,vc,hvv,hv1,hv2⟩:=h.1.form'
 rw [hvv] at hmL
 have HD:=zh (zFu hD hv h (i0:=i) (n:=hp.length) (Nat.le_refl _) (by omega) hsm)
 have hlm:hp.length≤maxLen:=by unfold maxLen;omega
 have HV:=zh hv
 have Hh:=zh h
 obtain ⟨b,hb⟩:∃b:Bool,Hid (decide (i < (zi hp.length hp i hp.length).2)=b):=⟨_,rfl⟩
 clear hv h hvv
 go_enter Tryz.func104,Tryz.ntmps104
 go_wp2_with fail
 refine (zCi hlm).mono ?_
 rintro e w2 ⟨rfl,rfl⟩
 go_wp2_with fail
 refine HD.out.mono ?_
 rintro e w1 ⟨rfl,hH1,hF1⟩
 have HH1:=zh hH1
 have HF1:=zh hF1
 clear hH1 hF1
 rw [hb.out]
 cases b with
 | true =>
   go_wp2_with fail
   go_end0
   refine ⟨rfl,?_⟩
   have hlt:i < (zi hp.length hp i hp.length).2:=by simpa using hb.out
   unfold fixF
   simp only [if_pos hlt]
   exact ⟨HH1.out,HF1.out⟩
 | false =>
   have hlt:¬i < (zi hp.length hp i hp.length).2:=by simpa using hb.out
   have hpl:(zi hp.length hp i hp.length).1.length=hp.length:=(zBv hp.length hp i hp.length (Nat.le_refl _)).length_eq
   have HU:=zh (zDt hD (HF1.out.cell hD HV.out) HH1.out (j:=i) (by rw [hpl];exact hi))
   have HL:=zh hpl
   have HT:=zh hlt
   clear hlt hpl
   go_wp2_with fail
   refine HU.out.mono ?_
   rintro e w3 ⟨rfl,hU⟩
   have HU2:=zh hU
   clear hU
   go_wp2_with fail
   go_end0
   refine ⟨rfl,?_⟩
   unfold fixF
   simp only [if_neg HT.out]
   obtain ⟨h1,h2⟩:=HU2.out
   rw [HL.out] at h1
   exact ⟨h1,HF1.out.trans h2 (fun x hx=>.inl hx)⟩
def zAY (w:World) (ρ:Nat→Role) (D:Nat) (cs:Array Value) (TD:TypeId) (att:Int→Nat) (full l:List Att) (w':World):Prop:=
 ∃v',zU w' ρ v' att l∧w'.heap[D]?=some (.cells (cs.setIfInBounds 12 v') TD (0,0))∧Fr (fun b=>b=D∨HpB ρ b) w w' ∧
  ∀a,a∈full→∃k,w'.heap[att a.seq]?=some (.cells (yV a k) 109 (0,0))
theorem zJb {w:World} {ρ:Nat→Role} {D:Nat} {cs:Array Value} {TD:TypeId} {att:Int→Nat} {hp:List Att} {b off cap m:Nat}
 (hD:w.heap[D]?=some (.cells cs TD (0,0))) (hDr:ρ D=zC) (h:zU w ρ (.slice (some ⟨b,off,none⟩) hp.length cap) att hp) (hm:m+1=hp.length) :
 zAY w ρ D cs TD att hp (hp.take m) (w.setCell ⟨D,12,none⟩ (.slice (some ⟨b,off,none⟩) m cap)):=by
 have hblk:∀y,y≠D→(w.setCell ⟨D,12,none⟩ (.slice (some ⟨b,off,none⟩) m cap)).heap[y]?=w.heap[y]?:=fun y hy=>zG _ hy
 obtain ⟨h1,h2,h3⟩:=h
 refine ⟨_,⟨?_,?_,?_⟩,zO _ hD,(Fr.refl _ w).setCell _ _ (.inl (.inl rfl)),fun a ha=>?_⟩
 ·rcases h1 with ⟨h1,_⟩ | ⟨b',off',cap',cs',e,hb,hblk',hc1,hc2,hsz,hlen,hcell⟩
  ·cases h1
  injection e with e1 e2 e3
  injection e1 with e1
  injection e1 with e4 e5
  subst e4;subst e5;subst e3
  have hl:(hp.take m).length=m:=by simp;omega
  refine .inr ⟨b,off,cap,cs',by rw [hl],hb,?_,by rw [hl];omega,hc2,hsz,by simp,?_⟩
  ·rw [hblk b (fun e=>by rw [e,hDr] at hb;simp [ze,zC] at hb)];exact hblk'
  ·intro j u hj
   rw [List.map_take,List.getElem?_take] at hj
   split at hj
   ·exact hcell j u hj
   ·cases hj
 ·exact h2.sublist ((List.take_sublist m hp).map _)
 ·intro i a ha
  rw [List.getElem?_take] at ha
  split at ha
  ·obtain ⟨h5,h6⟩:=h3 i a ha
   exact ⟨h5,(hblk _ (fun e=>by rw [e,hDr] at h5;simp [zn,zC] at h5)).trans h6⟩
  ·cases ha
 ·obtain ⟨i,hi⟩:=List.getElem?_of_mem ha
  obtain ⟨h5,h6⟩:=h3 i a hi
  exact ⟨i,(hblk _ (fun e=>by rw [e,hDr] at h5;simp [zn,zC] at h5)).trans h6⟩
theorem zJc {w:World} {ρ:Nat→Role} {D:Nat} {cs:Array Value} {TD:TypeId} {att:Int→Nat} {hp:List Att} {v:Value}
 (hD:w.heap[D]?=some (.cells cs TD (0,0))) (hcs:cs[12]?=some v) (hDr:ρ D=zC) (h:zU w ρ v att hp) {m:Nat} (hm:m+1=hp.length) :
 Calls Tryz.prog 212 #[.pointer (some ⟨D,12,none⟩)] w fun e w'=>e=.returned (.iface 106 (vp (att (hg hp m).seq)))∧zAY w ρ D cs TD att hp (hp.take m) w':=by
 have hDc:=zB (w:=w) hD hcs
 have hDf:=zK (off:=12) hD
 obtain ⟨b,off,cap,rfl,_,_,hc1,hc2,hc,_⟩:=h.1.form (by omega)
 have HR:=zh (zJb hD hDr h hm)
 have ci:=hc m (vp (att (hg hp m).seq)) (by simp [zZ (show m < hp.length by omega)])
 have e1:(hp.length:Int) - 1=(m:Int):=by omega
 unfold maxLen at hc2
 have m0:(0:Int)≤(m:Int):=by omega
 have m1:(m:Int) < (hp.length:Int):=by omega
 have m2:(m:Int)≤(cap:Int):=by omega
 have m3:(1:Int)≤(hp.length:Int):=by omega
 have m4:(hp.length:Int)≤9223372036854775807:=by omega
 clear hc hD hcs h
 go_enter Tryz.func212,Tryz.ntmps212
 go_wp2_with fail
 go_ret
 exact ⟨rfl,HR.out⟩
def zJd (w:World) (ρ:Nat→Role) (D:Nat) (cs:Array Value) (TD:TypeId) (att:Int→Nat) (full l:List Att) (e:Ending) (w':World):Prop:=
 (∃p,e=.returned (.iface 106 p))∧zAY w ρ D cs TD att full l w'
theorem zAY.of_fr {w w1 w':World} {ρ:Nat→Role} {D:Nat} {cs:Array Value} {TD:TypeId} {att:Int→Nat} {full full' l:List Att} (hf:Fr (HpB ρ) w w1) (h:zAY w1 ρ D cs TD att full' l w') (hp:∀a,a∈full→a∈full'):zAY w ρ D cs TD att full l w':=by
 obtain ⟨v',h1,h2,h3,h4⟩:=h
 exact ⟨v',h1,h2,(hf.mono (fun x hx=>.inl (.inr hx))).trans h3 (fun x hx=>.inl hx),fun a ha=>h4 a (hp a ha)⟩
theorem zJe {w:World} {ρ:Nat→Role} {D:Nat} {cs:Array Value} {TD:TypeId} {att:Int→Nat} {hp:List Att} {v:Value}
 (hD:w.heap[D]?=some (.cells cs TD (0,0))) (hcs:cs[12]?=some v) (hDr:ρ D=zC) (h:zU w ρ v att hp) {i:Nat} (hi:i < hp.length) (hsm:hp.length≤1099511627776) :
 Calls Tryz.prog 130 #[hI D,vi i] w (zJd w ρ D cs TD att hp (remF hp i)):=by
 have hDl:=zD w hD
 have hv:=zB (w:=w) hD hcs
 have hB:=zCl hDr
 have hmL:=zAW zDr hv (362 - 1)
 obtain ⟨va,vc,hvv,hv1,hv2⟩:=h.1.form'
 rw [hvv] at hmL
 have hlm:hp.length≤maxLen:=by unfold maxLen;omega
 obtain ⟨m,hm⟩:∃m,m+1=hp.length:=⟨hp.length - 1,by omega⟩
 have e1:(hp.length:Int) - 1=(m:Int):=by omega
 have m3:(1:Int)≤(hp.length:Int):=by omega
 have m4:(hp.length:Int)≤1099511627776:=by omega
 have hmp:∀w:World,(method 362 170 (.pointer (some ⟨D,12,none⟩)) "Pop").run Tryz.prog w=.ok (212,.pointer (some ⟨D,12,none⟩)) w:=fun w=>zFt zJQ _
 have HPop:=zh (fun (l:List Att) (w1:World) (hH:zU w1 ρ v att l) (hF:Fr (HpB ρ) w w1) (hl:l.length=hp.length) =>
  zJc (w:=w1) (show w1.heap[D]?=some (.cells cs TD (0,0)) by rw [hF.block D hDl hB];exact hD) hcs hDr hH (m:=m) (by omega))
 by_cases hmi:m=i
 ·have hne:((m:Int) != (i:Int))=false:=by simp [hmi]
  have hrem:remF hp i=hp.take m:=by unfold remF;rw [show hp.length - 1=m by omega,if_pos hmi]
  rw [hrem]
  have HP:=zh (HPop.out hp w h (Fr.refl _ _) rfl)
  clear hrem hvv h hD hcs hv hmi
  go_enter Tryz.func130,Tryz.ntmps130
  go_wp2_with fail
  refine (zCi hlm).mono ?_
  rintro e w2 ⟨rfl,rfl⟩
  go_wp2_with fail
  refine HP.out.mono ?_
  rintro e w1 ⟨rfl,hp1⟩
  have HP1:=zh hp1
  clear hp1
  go_wp2_with fail
  go_ret
  exact ⟨⟨_,rfl⟩,HP1.out⟩
 ·have hne:((m:Int) != (i:Int))=true:=by simp;omega
  have hml:m < hp.length:=by omega
  have hmS:=zAW zDs hv (362 - 1)
  have HSw:=zh (zBw h hi hml (fun e=>hmi e.symm))
  rw [←hvv] at hmL
  have HVV:=zh hvv
  have Hv:=zh hv
  have Hmi:=zh hmi
  obtain ⟨b,hb⟩:∃b:Bool,Hid (decide (i < (zi (zW hp i m).length (zW hp i m) i m).2)=b):=⟨_,rfl⟩
  rw [hvv] at hmL
  clear hvv h hD hcs hv hmi
  go_enter Tryz.func130,Tryz.ntmps130
  go_wp2_with fail
  refine (zCi hlm).mono ?_
  rintro e w2 ⟨rfl,rfl⟩
  go_wp2_with fail
  refine HSw.out.mono ?_
  rintro e w1 ⟨rfl,hH1,hF1⟩
  have HH1:=zh hH1
  have HF1:=zh hF1
  have HDn:=zh (zFu hB (hF1.cell hB Hv.out) hH1 (i0:=i) (n:=m) (by rw [yC];omega) (by have:=Hmi.out;omega) (by rw [yC];exact hsm))
  clear hH1 hF1
  go_wp2_with fail
  refine HDn.out.mono ?_
  rintro e w3 ⟨rfl,hH2,hF2⟩
  have HH2:=zh hH2
  have HF2:=zh (HF1.out.trans hF2 (fun x hx=>.inl hx))
  have HL2:=zh ((zBv (zW hp i m).length (zW hp i m) i m (by rw [yC];omega)).length_eq.trans (yC _ _ _))
  have HM2:=zh ((zBv (zW hp i m).length (zW hp i m) i m (by rw [yC];omega)).trans (zBs hp i m hi hml))
  clear hH2 hF2
  rw [hb.out]
  have hrem:Hid (remF hp i=(fixF (zW hp i m) i m).take m):=by show remF hp i=_;unfold remF;rw [show hp.length - 1=m by omega,if_neg Hmi.out]
  cases b with
  | true =>
    have HP:=zh (HPop.out _ w3 HH2.out HF2.out HL2.out)
    go_wp2_with fail
    refine HP.out.mono ?_
    rintro e w4 ⟨rfl,hp1⟩
    have HP1:=zh hp1
    clear hp1
    go_wp2_with fail
    go_ret
    refine ⟨⟨_,rfl⟩,?_⟩
    have hlt:i < (zi (zW hp i m).length (zW hp i m) i m).2:=by simpa using hb.out
    rw [hrem.out]
    unfold fixF
    simp only [if_pos hlt]
    exact zAY.of_fr HF2.out HP1.out (fun a ha=>HM2.out.mem_iff.2 ha)
  | false =>
    have HUp:=zh (zDt hB (HF2.out.cell hB Hv.out) HH2.out (j:=i) (by rw [HL2.out];exact hi))
    go_wp2_with fail
    refine HUp.out.mono ?_
    rintro e w4 ⟨rfl,hU⟩
    have HU:=zh hU
    have HF4:=zh (HF2.out.trans hU.2 (fun x hx=>.inl hx))
    clear hU
    have HP:=zh (HPop.out _ w4 HU.out.1 HF4.out ((zCf _ _ _ (by rw [HL2.out];exact hi)).length_eq.trans HL2.out))
    go_wp2_with fail
    refine HP.out.mono ?_
    rintro e w5 ⟨rfl,hp1⟩
    have HP1:=zh hp1
    clear hp1
    go_wp2_with fail
    go_ret
    refine ⟨⟨_,rfl⟩,?_⟩
    have hlt:¬i < (zi (zW hp i m).length (zW hp i m) i m).2:=by simpa using hb.out
    rw [hrem.out]
    unfold fixF
    simp only [if_neg hlt]
    have h1:=HP1.out
    rw [HL2.out,←yC hp i m] at h1
    exact zAY.of_fr HF4.out h1 (fun a ha=>(zCf _ _ _ (by rw [HM2.out.length_eq];exact hi)).mem_iff.2 (HM2.out.mem_iff.2 ha))
end Go.Proofs.YtaejfobbogahmaaGreatDoor
