/-
  Law1 Mine LawC LawD: texts of their own, joined.
-/
import Derived.Test.YtaejfobbogahmaaGreatDoorMkMNew
set_option maxRecDepth 100000
set_option maxHeartbeats 16000000
set_option linter.all false
namespace Go.Proofs.YtaejfobbogahmaaGreatDoor
open Go Go.RowKit
def xu (c:Int) (n:Nat):Nat:=(if c < 0 then (-(c+1)).toNat else c.toNat) % n
theorem zLv (c:Int) {n:Nat} (hn:0 < n):xu c n < n:=Nat.mod_lt _ hn
theorem zGM {w:World} (c:Int) (n:Nat) (hc:-9223372036854775808≤c∧c≤9223372036854775807) (hn:0 < n) :
 Calls Tryz.prog 84 #[vi c,vi n] w fun e w'=>e=.returned (vi (xu c n))∧w=w':=by
 have hn0:(n:Int)≠0:=by omega
 by_cases h:c < 0
 ·have h1:decide (c < 0)=true:=decide_eq_true h
  have e1:IntKind.i64.wrap (c+1)=c+1:=IntWalk.i64_in _ (by omega)
  have e2:IntKind.i64.wrap (-(c+1)) = -(c+1):=IntWalk.i64_in _ (by omega)
  obtain ⟨a,ha⟩:∃a:Nat,-(c+1)=a:=⟨(-(c+1)).toNat,by omega⟩
  have e3:(a:Int).tmod n=((a % n:Nat):Int):=(Int.ofNat_tmod a n).symm ▸ rfl
  have HP:Hid (xu c n=a % n):=show _=_ by unfold xu;rw [if_pos h,ha];rfl
  rw [ha] at e2
  clear h
  go_enter Tryz.func84,Tryz.ntmps84
  go_wp2_with fail
  go_ret
  exact ⟨by rw [HP.out,Int.natCast_emod];rfl,rfl⟩
 ·have h1:decide (c < 0)=false:=decide_eq_false h
  obtain ⟨a,ha⟩:∃a:Nat,c=a:=⟨c.toNat,by omega⟩
  have HP:Hid (xu c n=a % n):=show _=_ by unfold xu;rw [if_neg h,ha];rfl
  subst ha
  have e3:(a:Int).tmod n=((a % n:Nat):Int):=(Int.ofNat_tmod a n).symm ▸ rfl
  clear h
  go_enter Tryz.func84,Tryz.ntmps84
  go_wp2_with fail
  go_ret
  exact ⟨by rw [HP.out,Int.natCast_emod];rfl,rfl⟩
def outC (p:Int×zA):List Value:=[vi p.1,vs (bs p.2)]
theorem zII (l:List (Int×zA)):yG l=l.flatMap outC:=rfl
theorem zGN (p:Int×zA):(outC p).length=2:=rfl
theorem zGO {w:World} {own:Nat→Prop} {b off n cap:Nat} {l:List (Int×zA)} (h:SlAt w 59 2 own (.slice (some ⟨b,off,none⟩) n cap) n (yG l)) {k:Nat} {p:Int×zA} (hk:l[k]?=some p) (hn:0 < n) :
 w.cell? ⟨b,off+k*2,none⟩=some (vi p.1)∧w.cell? ⟨b,off+k*2+1,none⟩=some (vs (bs p.2)):=by
 obtain ⟨b',off',cap',hv,_,_,_,_,hcc,_⟩:=h.form hn
 injection hv with e1 e2 e3
 injection e1 with e1
 injection e1 with e4 e5
 subst e4;subst e5
 refine ⟨hcc (k*2) _ ?_,?_⟩
 ·rw [zII];have:=zBU zGN l k 0 p hk (by decide);rw [Nat.add_zero] at this;rw [this];rfl
 ·rw [Nat.add_assoc];exact hcc (k*2+1) _ (by rw [zII,zBU zGN l k 1 p hk (by decide)];rfl)
theorem zGP {w:World} {oa ob:Nat→Prop} {va vb:Value} (l:List (Int×zA)) (hl:l.length≤1000000000000) (ha:SlAt w 59 2 oa va l.length (yG l)) (hb:SlAt w 59 2 ob vb l.length (yG l)) :
 Calls Tryz.prog 89 #[va,vb] w fun e w'=>e=.returned (.bool true)∧Below w.heap.size w w':=by
 obtain ⟨aa,ac,rfl,ha2,ha3⟩:=ha.form'
 obtain ⟨ba,bc,rfl,hb2,hb3⟩:=hb.form'
 obtain ⟨n,hn⟩:∃n,l.length=n:=⟨_,rfl⟩
 rw [hn] at ha hb hl ⊢
 have HN:=zh hn
 have HA:=zh ha
 have HB:=zh hb
 have hne:((n:Int) != (n:Int))=false:=by simp
 clear ha hb ha2 ha3 hb2 hb3 hn
 go_enter Tryz.func89,Tryz.ntmps89
 go_wp2_with fail
 go_loopw [13] (fun s13 wr=>∃k:Nat,s13=.int .i64 k∧k≤n∧Hid (Below w.heap.size w wr)) (fun s13 _=>n - (intOf s13).toNat)
 case atStart=>exact ⟨0,by go_num,Nat.zero_le _,Below.refl _ _⟩
 case round =>
  obtain ⟨k,rfl,hk,HI⟩:=hrel
  by_cases hkl:k < n
  ·have hlt:decide ((k:Int) < (n:Int))=true:=decide_eq_true (by omega)
   obtain ⟨p,hp⟩:∃p,l[k]?=some p:=⟨_,List.getElem?_eq_getElem (by rw [HN.out];exact hkl)⟩
   have hA:=HA.out.of_blk (w':=wr) (own':=oa) (fun b _ hl=>HI.out.block b hl) (fun _ h _=>h)
   have hB:=HB.out.of_blk (w':=wr) (own':=ob) (fun b _ hl=>HI.out.block b hl) (fun _ h _=>h)
   obtain ⟨ab,ao,ac',hv,_⟩:=hA.form (by omega)
   obtain ⟨rfl,rfl⟩:aa=some ⟨ab,ao,none⟩∧ac=ac':=by injection hv with e1 e2 e3;exact ⟨e1,e3⟩
   obtain ⟨bb,bo,bc',hv2,_⟩:=hB.form (by omega)
   obtain ⟨rfl,rfl⟩:ba=some ⟨bb,bo,none⟩∧bc=bc':=by injection hv2 with e1 e2 e3;exact ⟨e1,e3⟩
   obtain ⟨a0,a1⟩:=zGO hA hp (by omega)
   obtain ⟨b0,b1⟩:=zGO hB hp (by omega)
   obtain ⟨pc,pl⟩:=p
   simp only [] at a0 a1 b0 b1
   have hk0:(0:Int)≤(k:Int):=by omega
   have hk1:(k:Int) < (n:Int):=by omega
   have hq:(pc==pc)=true:=by simp
   have ht:(bs pl).toList=pl:=by rw [ByteArray.toList_eq];rfl
   clear hA hB hv hv2 hp
   go_wp2_with fail
   go_quiet (fail)
   go_wp2_with fail
   go_roundw
   case rel=>exact ⟨k+1,by go_num,by omega,xo HI.out _⟩
   case measure=>simp [intOf];omega
  ·obtain rfl:k=n:=by omega
   have hlt:decide ((k:Int) < (k:Int))=false:=by simp
   go_wp2_with fail
   go_ret
   exact ⟨rfl,HI.out⟩
theorem zSx:(Tryz.prog.info? 41).map (fun i=>(i.zero,i.size,i.bytes))=some (some (.slice none 0 0),1,24):=by kernel_rfl
theorem zSy:yF Tryz.prog 101 41 1 24:=yF.of_parts Tryz.underlying101 zSx rfl (by decide)
theorem zSz {P:Program} (w:World) {t e T:TypeId} {sz m:Nat} (hk:P.underlying t=some (.slice e)) (cs:List Value) (hl:cs.length=m*sz) (h1:∀u∈cs,u.oneCell'=true) (B:Nat) (hB:B=w.heap.size) :
 Src P sz t (.slice (some ⟨B,0,none⟩) m m) m cs (w.alloc (.cells cs.toArray T)):=by
 subst hB
 exact Src.ofSlice _ hk _ m m cs hl (fun j u hj=>by
  rw [Addr.add_lit]
  exact zB (zL w) (by simpa using hj)) h1
def xw:zA:=[109,105,110,101]
def zAY (k:Nat):Int×zA:=(-1 - (k:Int),xw)
def zIJ (w:World) (V:Nat) (dsv:Value) (lk:Bool) (o3 o4:Nat→Prop) (lss:List Value) (n:Nat) (w':World):Prop:=
 ∃lsv' v' g3 g4,w'.heap[V]?=some (.cells #[dsv,lsv',.bool lk] 103 (0,0))∧SlAt w' 41 1 (fun b=>b=g3) lsv' (lss.length+1) (lss++[v']) ∧
  SlAt w' 59 2 (fun b=>b=g4) v' (n+2) (yG (List.replicate (n+2) (zAY lss.length)))∧(o3 g3∨w.heap.size≤g3)∧(o4 g4∨w.heap.size≤g4)∧g3≠g4∧g3 < w'.heap.size∧g4 < w'.heap.size ∧
  Fr (fun b=>b=V∨o3 b∨o4 b) w w'
theorem zTA {α:Type} (x:α) (l:List α) {k:Nat} {y:α} (h:l[k]?=some y):(List.replicate k x++l.drop k).set k x=List.replicate (k+1) x++l.drop (k+1):=by
 have hk:=List.getElem?_eq_some_iff.1 h
 rw [List.drop_eq_getElem_cons hk.1,List.set_append_right _ _ (by simp),List.length_replicate,Nat.sub_self,List.set_cons_zero,List.replicate_succ',List.append_assoc]
 rfl
theorem zTB {w:World} {own:Nat→Prop} {b off n cap:Nat} {l:List (Int×zA)} (h:SlAt w 59 2 own (.slice (some ⟨b,off,none⟩) n cap) n (yG l)) {k:Nat} {p q:Int×zA} (hk:l[k]?=some p) (hkn:k < n) :
 SlAt ((w.setCell ⟨b,off+k*2,none⟩ (vi q.1)).setCell ⟨b,off+k*2+1,none⟩ (vs (bs q.2))) 59 2 own (.slice (some ⟨b,off,none⟩) n cap) n (yG (l.set k q)):=by
 have h1:=zCK h (i:=k*2) (by omega) (vi q.1)
 have e1:=zBg zGN l k 0 p (q.1,p.2) (vi q.1) hk (by decide) rfl
 rw [Nat.add_zero] at e1
 rw [zII,e1] at h1
 have h2:=zCK h1 (i:=k*2+1) (by omega) (vs (bs q.2))
 have e2:=zBg zGN (l.set k (q.1,p.2)) k 1 (q.1,p.2) q (vs (bs q.2)) (by rw [List.getElem?_set_self (List.getElem?_eq_some_iff.1 hk).1]) (by decide) rfl
 rw [e2,List.set_set] at h2
 rw [Nat.add_assoc]
 exact h2
theorem zTC {w W w5:World} {V g q:Nat} {X:Obj} {lsv:Value} {o3 o4:Nat→Prop} {lss:List Value} (hV:w.heap[V]?=some X) (hls:SlAt w 41 1 o3 lsv q lss) (hF:Fr o4 w W) (hg:o4 g∨g=W.heap.size) (hf:Fr (fun b=>b=g) W w5)
 (h4:¬o4 V) (h34:∀b,o3 b→¬o4 b):w5.heap[V]?=some X∧SlAt w5 41 1 o3 lsv q lss∧V≠g:=by
 have hne:∀b,b < w.heap.size→¬o4 b→b≠g:=fun b hb h e=>by
  subst e
  rcases hg with h1 | h1
  ·exact h h1
  ·have:=hF.size;omega
 have hb:∀b,b < w.heap.size→¬o4 b→w5.heap[b]?=w.heap[b]?:=fun b hl h=>(hf.block b (Nat.lt_of_lt_of_le hl hF.size) (hne b hl h)).trans (hF.block b hl h)
 exact ⟨(hb V (zF _ hV) h4).trans hV,hls.of_blk (fun b ho hl=>hb b hl (h34 b ho)) (fun _ h _=>h),hne V (zF _ hV) h4⟩
theorem zTD {w5 w6:World} {V g:Nat} {X o:Obj} {o3:Nat→Prop} (hV:w5.heap[V]?=some X) (hg:o3 g∨g=(w5.alloc o).heap.size) (hf:Fr (fun b=>b=g) (w5.alloc o) w6) (h3:¬o3 V):w6.heap[V]?=some X∧V≠g:=by
 have hlt:=zF _ hV
 have hne:V≠g:=fun e=>by
  subst e
  rcases hg with h1 | h1
  ·exact h3 h1
  ·rw [World.size_alloc] at h1;omega
 exact ⟨(hf.block V (by rw [World.size_alloc];omega) hne).trans ((zP w5 hlt).trans hV),hne⟩
theorem zTE {w W w5 w6:World} {V g4 goff gcap g3 hoff hcap n:Nat} {dsv lsv:Value} {lk:Bool} {o3 o4:Nat→Prop} {lss:List Value} {T:TypeId}
 (hF:Fr o4 w W) (hg4:o4 g4∨g4=W.heap.size) (hf5:Fr (fun b=>b=g4) W w5) (hl5:g4 < w5.heap.size) (hs5:SlAt w5 59 2 (fun b=>b=g4) (.slice (some ⟨g4,goff,none⟩) (n+2) gcap) (n+2) (yG (List.replicate (n+2) (zAY lss.length))))
 (hV6:w6.heap[V]?=some (.cells #[dsv,lsv,.bool lk] 103 (0,0))) (hg3:o3 g3∨g3=(w5.alloc (.cells #[.slice (some ⟨g4,goff,none⟩) (n+2) gcap] T)).heap.size) (hf6:Fr (fun b=>b=g3) (w5.alloc (.cells #[.slice (some ⟨g4,goff,none⟩) (n+2) gcap] T)) w6) (hl6:g3 < w6.heap.size)
 (hs6:SlAt w6 41 1 (fun b=>b=g3) (.slice (some ⟨g3,hoff,none⟩) (lss.length+1) hcap) (lss.length+1) (lss++[.slice (some ⟨g4,goff,none⟩) (n+2) gcap]))
 (h34:∀b,o3 b→¬o4 b) (hd3:∀b,o3 b→b < w.heap.size) (hV3:V≠g3) (hV4:V≠g4) :
 zIJ w V dsv lk o3 o4 lss n (w6.setCell ⟨V,1,none⟩ (.slice (some ⟨g3,hoff,none⟩) (lss.length+1) hcap)):=by
 have hsz:=hF.size
 have hne:g3≠g4:=fun e=>by
  subst e
  rcases hg3 with h1 | h1
  ·rcases hg4 with h2 | h2
   ·exact h34 _ h1 h2
   ·have:=hd3 _ h1;omega
  ·rw [World.size_alloc] at h1;omega
 refine ⟨_,_,g3,g4,zM w6 (off:=1) hV6,hs6.of_blk (fun b hb _=>zJ w6 (by rw [show b=g3 from hb];exact Ne.symm hV3)) (fun _ h _=>h),?_,hg3.imp id (fun e=>by rw [e,World.size_alloc];have:=hf5.size;omega),hg4.imp id (fun e=>by omega),hne,by simpa using hl6,?_,?_⟩
 ·refine hs5.of_blk (fun b hb hl=>?_) (fun _ h _=>h)
  have hb:b=g4:=hb
  subst hb
  rw [zJ w6 (a:=⟨V,1,none⟩) (Ne.symm hV4),hf6.block b (by rw [World.size_alloc];omega) (Ne.symm hne),zP w5 hl]
 ·have:=hf6.size
  rw [World.size_alloc] at this
  simp;omega
 ·have e1:Fr (fun b=>b=V∨o3 b∨o4 b) w w5:=Fr.trans (hF.mono (fun x hx=>.inl (.inr (.inr hx)))) hf5 (fun x hx=>by rw [show x=g4 from hx];rcases hg4 with h | h;exact .inl (.inr (.inr h));exact .inr (by omega))
  have e2:Fr (fun b=>b=V∨o3 b∨o4 b) w w6:=Fr.trans (e1.alloc _) hf6 (fun x hx=>by
   rw [show x=g3 from hx]
   rcases hg3 with h | h
   ·exact .inl (.inr (.inl h))
   ·exact .inr (by rw [h,World.size_alloc];have:=hf5.size;omega))
  exact e2.setCell _ _ (.inl (.inl rfl))
theorem zGQ {w:World} {V:Nat} {dsv lsv v:Value} {lk:Bool} {o3 o4:Nat→Prop} {lss:List Value} (l:List (Int×zA)) (hV:w.heap[V]?=some (.cells #[dsv,lsv,.bool lk] 103 (0,0)))
 (hls:SlAt w 41 1 o3 lsv lss.length lss) (hv:SlAt w 59 2 o4 v l.length (yG l)) (hl:l.length≤1000000000000) (hk:lss.length≤100000000000) (h3:¬o3 V) (h4:¬o4 V) (h34:∀b,o3 b→¬o4 b) (hd3:∀b,o3 b→b < w.heap.size) (hd4:∀b,o4 b→b < w.heap.size) :
 Calls Tryz.prog 90 #[vp V,v] w fun e w'=>e=.returned (.tuple #[])∧zIJ w V dsv lk o3 o4 lss l.length w':=by
 obtain ⟨la,lc,rfl,hl2,hl3⟩:=hls.form'
 obtain ⟨va,vc,rfl,hv2,hv3⟩:=hv.form'
 have HV:=zh hV
 have HLS:=zh hls
 have HVV:=zh hv
 have H34:=zh h34
 have H3:=zh h3
 have H4:=zh h4
 have hv1:w.cell? ⟨V,1,none⟩=some (.slice la lss.length lc):=zB hV rfl
 obtain ⟨n,hn⟩:∃n,l.length=n:=⟨_,rfl⟩
 obtain ⟨q,hq⟩:∃q,lss.length=q:=⟨_,rfl⟩
 rw [hq] at hv1 hk
 rw [hn] at hl ⊢
 have HN:=zh hn
 have HQ:=zh hq
 have hwq:IntKind.i64.wrap (-1 - (q:Int)) = -1 - (q:Int):=by rw [IntKind.wrap_i64];omega
 have HMK:Hid (zAY q=(-1 - (q:Int),xw)):=rfl
 obtain ⟨c,hc⟩:∃c:Int,-1 - (q:Int)=c:=⟨_,rfl⟩
 rw [hc] at HMK hwq
 have hbm:(⟨#[109,105,110,101]⟩:ByteArray)=bs xw:=rfl
 have HD3:=zh hd3
 have HD4:=zh hd4
 clear hd3 hd4 hV hls hv h34 h3 h4 hn hq hl2 hl3 hv2 hv3
 go_enter Tryz.func90,Tryz.ntmps90
 go_wp2_with fail
 obtain ⟨W1,hW1⟩:∃W1,w.alloc (.cells #[vi c,vs (bs xw)] 59)=W1:=⟨_,rfl⟩
 have HW1:=zh hW1
 have hs1:Hid (W1.heap.size=w.heap.size+1):=show _=_ by rw [←hW1];simp
 have HM1:Hid (W1.heap[w.heap.size]?=some (.cells #[vi c,vs (bs xw)] 59 (0,0))):=show _=_ by rw [←hW1];exact zL w
 have HOLD:Hid (∀b,b < w.heap.size→W1.heap[b]?=w.heap[b]?):=fun b hb=>by rw [←hW1];exact zP w hb
 have HF1:Hid (Fr (fun _=>False) w W1):=show Fr _ _ _ by rw [←hW1];exact (Fr.refl _ w).alloc _
 rw [show w.alloc (.cells #[Value.int .i64 c,Value.string (bs xw)] 59)=W1 from hW1]
 clear hW1
 go_loopw [16] (fun s16 wr=>∃k:Nat,s16=.int .i64 k∧k≤n∧Hid (SlAt wr 59 2 o4 (.slice va n vc) n (yG (List.replicate k (zAY q)++l.drop k)))∧Hid (Fr o4 W1 wr)) (fun s16 _=>n - (intOf s16).toNat)
 case atStart =>
  refine ⟨0,by go_num,Nat.zero_le _,?_,Fr.refl _ _⟩
  have:=HVV.out.of_blk (w':=W1) (own':=o4) (fun b _ hl=>HOLD.out b hl) (fun _ h _=>h)
  rw [HN.out] at this
  exact this
 case round =>
  obtain ⟨k,rfl,hkn,HS,HF⟩:=hrel
  have hmb:wr.heap[w.heap.size]?=some (.cells #[vi c,vs (bs xw)] 59 (0,0)):=(HF.out.block _ (by rw [hs1.out];omega) (fun h=>by have:=HD4.out _ h;omega)).trans HM1.out
  have m0:=zB (off:=0) hmb rfl
  have m1:=zB (off:=1) hmb rfl
  by_cases hkl:k < n
  ·have hlt:decide ((k:Int) < (n:Int))=true:=decide_eq_true (by omega)
   obtain ⟨p,hp⟩:∃p,l[k]?=some p:=⟨_,List.getElem?_eq_getElem (by rw [HN.out];exact hkl)⟩
   have hpk:(List.replicate k (zAY q)++l.drop k)[k]?=some p:=by
    rw [List.getElem?_append_right (by simp),List.length_replicate,Nat.sub_self,List.getElem?_drop];exact hp
   obtain ⟨b,off,cap,hv,hob,_,_,_,_,hff⟩:=HS.out.form (by omega)
   obtain ⟨rfl,rfl⟩:va=some ⟨b,off,none⟩∧vc=cap:=by injection hv with e1 e2 e3;exact ⟨e1,e3⟩
   obtain ⟨a0,a1⟩:=zGO HS.out hpk (by omega)
   have f0:=hff (off+k*2)
   have f1:=hff (off+k*2+1)
   have HSN:Hid (SlAt ((wr.setCell ⟨b,off+k*2,none⟩ (vi c)).setCell ⟨b,off+k*2+1,none⟩ (vs (bs xw))) 59 2 o4 (.slice (some ⟨b,off,none⟩) n vc) n (yG (List.replicate (k+1) (zAY q)++l.drop (k+1)))):=show SlAt _ _ _ _ _ _ _ by
    rw [←zTA (zAY q) l hp]
    have:=zTB (q:=zAY q) HS.out hpk hkl
    rw [HMK.out] at this ⊢
    exact this
   have HFN:Hid (Fr o4 W1 ((wr.setCell ⟨b,off+k*2,none⟩ (vi c)).setCell ⟨b,off+k*2+1,none⟩ (vs (bs xw)))):=(HF.out.setCell _ _ (.inl hob)).setCell _ _ (.inl hob)
   have hk0:(0:Int)≤(k:Int):=by omega
   have hk1:(k:Int) < (n:Int):=by omega
   clear hmb hp hpk hv hob hff
   go_wp2_with fail
   go_roundw
   case rel=>exact ⟨k+1,by go_num,by omega,HSN.out,HFN.out⟩
   case measure=>simp [intOf];omega
  ·obtain rfl:k=n:=by omega
   have hlt:decide ((k:Int) < (k:Int))=false:=by simp
   have hdr:l.drop k=[]:=List.drop_eq_nil_of_le (by rw [HN.out];exact Nat.le_refl _)
   rw [hdr,List.append_nil] at HS
   have HSA:=zh (HS.out.of_blk (w':=wr.alloc (.cells #[vi c,vs (bs xw),vi c,vs (bs xw)] 59)) (own':=o4) (fun b _ hl=>zP wr hl) (fun _ h _=>h))
   have HBD:=zh (show k+2≤maxLen∧(k+2)*24≤140737488355328 by unfold maxLen;omega)
   have HF2:Hid (Fr o4 w (wr.alloc (.cells #[vi c,vs (bs xw),vi c,vs (bs xw)] 59))):=Fr.alloc (Fr.trans (HF1.out.mono (fun x f=>f.elim)) HF.out (fun x hx=>.inl hx)) _
   have HBD2:=zh (show q+1≤maxLen∧(q+1)*24≤140737488355328 by unfold maxLen;omega)
   clear hmb hdr
   have HLS2:Hid (SlAt w 41 1 o3 (.slice la q lc) q lss):=by have:=HLS.out;rw [HQ.out] at this;exact this
   have HV2:Hid (w.heap[V]?=some (.cells #[dsv,.slice la q lc,.bool lk] 103 (0,0))):=by have:=HV.out;rw [HQ.out] at this;exact this
   go_wp2_with (at_builtin;first
    | (refine xy _ rfl _ _ _ _ rfl zHR rfl HSA.out rfl (zSz wr (m:=2) Tryz.underlying41 [vi c,vs (bs xw),vi c,vs (bs xw)] (by rfl) (by simp [Value.oneCell']) wr.heap.size (by simp)) (by omega) HBD.out.1 HBD.out.2 ?_;intro g4 goff gcap w5 hg5 hs5 hf5 hlt5 _ _;
       obtain ⟨k1,k2,k3⟩:=zTC HV2.out HLS2.out HF2.out hg5 hf5 H4.out H34.out;have HV5:=zh k1;have HL5:=zh k2;have HN5:=zh k3;have c5:w5.cell? ⟨V,1,none⟩=some (.slice la q lc):=zB k1 rfl;
       have HLA:=zh (k2.of_blk (w':=w5.alloc (.cells #[.slice (some ⟨g4,goff,none⟩) (k+2) gcap] 41)) (own':=o3) (fun b _ hl=>zP w5 hl) (fun _ h _=>h));
       have HS5:=zh hs5;have HG5:=zh hg5;have HF5:=zh hf5;have HLT5:=zh hlt5;clear hs5 hf5 hg5 hlt5 k1 k2 k3)
    | (refine xy _ rfl _ _ _ _ rfl zSy rfl HLA.out rfl (xV w5 Tryz.underlying101 [.slice (some ⟨g4,goff,none⟩) (k+2) gcap] (by rfl) (by simp [Value.oneCell']) w5.heap.size (by simp)) (by omega) HBD2.out.1 HBD2.out.2 ?_;intro g3 hoff hcap w6 hg6 hs6 hf6 hlt6 _ _;
       obtain ⟨k1,k2⟩:=zTD HV5.out hg6 hf6 H3.out;have c6:w6.cell? ⟨V,1,none⟩=some (.slice la q lc):=zB k1 rfl;have f6:w6.frozen? ⟨V,1,none⟩=false:=zI k1;have HV6:=zh k1;have HN6:=zh k2;
       have HS6:=zh hs6;have HG6:=zh hg6;have HF6:=zh hf6;have HLT6:=zh hlt6;clear hs6 hf6 hg6 hlt6 k1 k2))
   go_end0
   refine ⟨rfl,?_⟩
   have hs5:=HS5.out
   have e5:yG (List.replicate k (zAY q))++[vi c,vs (bs xw),vi c,vs (bs xw)]=yG (List.replicate (k+2) (zAY q)):=by
    rw [show k+2=k+1+1 from rfl,List.replicate_succ',List.replicate_succ',HMK.out]
    simp [yG]
   rw [e5] at hs5
   have hq:=HQ.out
   rw [←hq] at hs5 ⊢
   have hs6:=HS6.out
   rw [←hq] at hs6
   exact zTE HF2.out HG5.out HF5.out HLT5.out hs5 HV6.out HG6.out HF6.out HLT6.out hs6 H34.out HD3.out HN6.out HN5.out
structure DP where
 D:Nat
 M:Nat
 r:Raw
 m:RefM
def zEe (p:DP):List Value:=[vp p.D,vp p.M]
theorem zLw (p:DP):(zEe p).length=2:=rfl
structure LawC (G:Nat) (w0 w:World) (tg:Nat→Nat×Nat) (V:Nat) (dsv lsv:Value) (lss:List Value) (ps:List DP):Prop where
 vb:tg V=(1,0)∧w.heap[V]?=some (.cells #[dsv,lsv,.bool false] 103 (0,0))
 ds:SlAt w 158 2 (fun b=>tg b=(2,0)) dsv ps.length (ps.flatMap zEe)
 ls:SlAt w 41 1 (fun b=>tg b=(3,0)) lsv lss.length lss
 lists:∀(k:Nat) v,lss[k]?=some v→∃n,SlAt w 59 2 (fun b=>tg b=(4,k)) v n (yG (List.replicate n (zAY k)))
 real:∀(i:Nat) p,ps[i]?=some p→∃ρ L,RRep w ρ G p.D L p.r∧∀b,Of ρ b→tg b=(5,i)
 ref:∀(i:Nat) p,ps[i]?=some p→∃σ L,MRep w σ G p.M L p.m∧∀b,Of σ b→tg b=(6,i)
 dom:∀b,tg b≠(0,0)→w0.heap.size≤b∧b < w.heap.size
 below:Below w0.heap.size w0 w
 env:Env G w
 hG:G≤w0.heap.size
theorem zIK {α:Type} (f:α→List Value):∀(l:List α) (k:Nat) (a a':α),l[k]?=some a→f a'=f a→(l.set k a').flatMap f=l.flatMap f
 | [],_,_,_,h,_=>by simp at h
 | x::l,0,a,a',h,hf=>by
   simp at h;subst h
   simp [hf]
 | x::l,k+1,a,a',h,hf=>by
   rw [List.set_cons_succ,List.flatMap_cons,List.flatMap_cons,zIK f l k a a' (by simpa using h) hf]
section
variable {G V i:Nat} {w0 w w':World} {tg tg':Nat→Nat×Nat} {dsv lsv:Value} {lss:List Value} {ps:List DP} {S:Nat→Prop} {C:Nat×Nat→Prop}
theorem zBF (hf:Fr S w w') (hS:∀b,b < w.heap.size→S b→C (tg b)) (ht:∀b,b < w.heap.size→¬C (tg b)→tg' b=tg b) {T:TypeId} {sz:Nat} {R:Nat×Nat} {v:Value} {n:Nat} {xs:List Value} (hR:¬C R) (h:SlAt w T sz (fun b=>tg b=R) v n xs):SlAt w' T sz (fun b=>tg' b=R) v n xs:=
 h.of_blk (fun b hb hl=>hf.block b hl (fun hs=>hR (by have:=hS b hl hs;rw [show tg b=R from hb] at this;exact this))) (fun b hb hl=>(ht b hl (by rw [show tg b=R from hb];exact hR)).trans hb)
theorem zDj (hf:Fr S w w') (hS:∀b,b < w.heap.size→S b→C (tg b)) (ht:∀b,b < w.heap.size→¬C (tg b)→tg' b=tg b) {R:Nat×Nat} {ρ:Nat→Role} {D:Nat} {L:Lay} {r:Raw} (hR:¬C R) (h:RRep w ρ G D L r) (ho:∀b,Of ρ b→tg b=R):RRep w' ρ G D L r∧∀b,Of ρ b→tg' b=R:=
 ⟨h.of_fr hf (fun b hs hb=>hR (by have:=hS b (h.dom b hb).2 hs;rw [ho b hb] at this;exact this)),fun b hb=>(ht b (h.dom b hb).2 (by rw [ho b hb];exact hR)).trans (ho b hb)⟩
theorem zDk (hf:Fr S w w') (hS:∀b,b < w.heap.size→S b→C (tg b)) (ht:∀b,b < w.heap.size→¬C (tg b)→tg' b=tg b) {R:Nat×Nat} {ρ:Nat→Role} {D:Nat} {L:MLay} {m:RefM} (hR:¬C R) (h:MRep w ρ G D L m) (ho:∀b,Of ρ b→tg b=R):MRep w' ρ G D L m∧∀b,Of ρ b→tg' b=R:=
 ⟨h.of_fr hf (fun b hs hb=>hR (by have:=hS b (h.dom b hb).2 hs;rw [ho b hb] at this;exact this)),fun b hb=>(ht b (h.dom b hb).2 (by rw [ho b hb];exact hR)).trans (ho b hb)⟩
theorem LawC.grow (h:LawC G w0 w tg V dsv lsv lss ps) (hb:Below w.heap.size w w'):LawC G w0 w' tg V dsv lsv lss ps:=by
 have hf:Fr (fun _=>False) w w':=Fr.of_below hb
 have h1:∀b,b < w.heap.size→False→(fun _:Nat×Nat=>False) (tg b):=fun _ _ f=>f
 have h2:∀b,b < w.heap.size→¬False→tg b=tg b:=fun _ _ _=>rfl
 exact ⟨⟨h.vb.1,(hb.block V (zF _ h.vb.2)).trans h.vb.2⟩,zBF (C:=fun _=>False) hf h1 h2 (fun f=>f) h.ds,zBF (C:=fun _=>False) hf h1 h2 (fun f=>f) h.ls,fun k v hk=>by
  obtain ⟨n,hn⟩:=h.lists k v hk
  exact ⟨n,zBF (C:=fun _=>False) hf h1 h2 (fun f=>f) hn⟩,fun i p hp=>by
  obtain ⟨ρ,L,k1,k2⟩:=h.real i p hp
  exact ⟨ρ,L,zDj (C:=fun _=>False) hf h1 h2 (fun f=>f) k1 k2⟩,fun i p hp=>by
  obtain ⟨ρ,L,k1,k2⟩:=h.ref i p hp
  exact ⟨ρ,L,zDk (C:=fun _=>False) hf h1 h2 (fun f=>f) k1 k2⟩,fun b hb'=>⟨(h.dom b hb').1,Nat.lt_of_lt_of_le (h.dom b hb').2 hb.size⟩,h.below.trans (hb.mono h.below.size),h.env.grow hb,h.hG⟩
theorem LawC.dcall (h:LawC G w0 w tg V dsv lsv lss ps) {p:DP} (hp:ps[i]?=some p) {ρ:Nat→Role} (ho:∀b,Of ρ b→tg b=(5,i)) {r':Raw} {e:Ending} (hk:zDm w ρ G p.D r' e w') :
 ∃v tg',e=.returned v∧LawC G w0 w' tg' V dsv lsv lss (ps.set i {p with r:=ym r'})∧SlAt w' 59 2 (fun b=>tg' b=(4,lss.length)) v r'.out.length (yG r'.out)∧(∀b,tg' b=(4,lss.length)→w0.heap.size≤b∧b < w'.heap.size)∧(∀b,b < w.heap.size→tg b=(0,0)→w'.heap[b]?=w.heap[b]?∧tg' b=(0,0)):=by
 obtain ⟨v,ρ',L',rfl,k1,k2,k3⟩:=hk
 have hown:∀b,b < w.heap.size→Of ρ' b→tg b=(5,i):=fun b hb hb'=>(k2.own b hb').elim (ho b) (fun h=>by omega)
 obtain ⟨tg',htg⟩:∃tg':Nat→Nat×Nat,tg'=fun b=>if (ρ' b).tag≠0 then (5,i) else if tg b=(5,i)∨(w.heap.size≤b∧b < w'.heap.size) then (4,lss.length) else tg b:=⟨_,rfl⟩
 have t1:∀b,Of ρ' b→tg' b=(5,i):=fun b hb=>by rw [htg];show (if (ρ' b).tag≠0 then _ else _)=_;rw [if_pos (show (ρ' b).tag≠0 from hb)]
 have t2:∀b,¬Of ρ' b→(tg b=(5,i)∨(w.heap.size≤b∧b < w'.heap.size))→tg' b=(4,lss.length):=fun b hb h2=>by rw [htg];show (if (ρ' b).tag≠0 then _ else _)=_;rw [if_neg (show ¬(ρ' b).tag≠0 from hb),if_pos h2]
 have t3:∀b,¬Of ρ' b→¬(tg b=(5,i)∨(w.heap.size≤b∧b < w'.heap.size))→tg' b=tg b:=fun b hb h2=>by rw [htg];show (if (ρ' b).tag≠0 then _ else _)=_;rw [if_neg (show ¬(ρ' b).tag≠0 from hb),if_neg h2]
 clear htg
 have hS:∀b,b < w.heap.size→Of ρ b→(fun t=>t=(5,i)) (tg b):=fun b _ hb=>ho b hb
 have ht:∀b,b < w.heap.size→¬(tg b=(5,i))→tg' b=tg b:=fun b hb h2=>t3 b (fun h3=>h2 (hown b hb h3)) (fun h3=>h3.elim h2 (fun h4=>by omega))
 have hd0:∀b,Of ρ b→w0.heap.size≤b:=fun b hb=>(h.dom b (by rw [ho b hb];simp)).1
 have hil:=(List.getElem?_eq_some_iff.1 hp).1
 have hset:∀(j:Nat) q,(ps.set i {p with r:=ym r'})[j]?=some q→(j=i∧q={p with r:=ym r'})∨(j≠i∧ps[j]?=some q):=fun j q hq=>by
  rw [List.getElem?_set] at hq
  by_cases e:i=j
  ·rw [if_pos e,if_pos hil] at hq;exact .inl ⟨e.symm,(Option.some.inj hq).symm⟩
  ·rw [if_neg e] at hq;exact .inr ⟨Ne.symm e,hq⟩
 have hne:∀{a b c d:Nat},a≠c→¬((a,b)=(c,d)):=fun h e=>h (congrArg Prod.fst e)
 have hdom:∀b,tg' b≠(0,0)→w0.heap.size≤b∧b < w'.heap.size:=fun b hb=>by
  have hws:=h.below.size
  have hss:=k2.fr.size
  by_cases h1:Of ρ' b
  ·have:=(k1.dom b h1).2
   rcases k2.own b h1 with h2 | h2
   ·exact ⟨hd0 b h2,this⟩
   ·exact ⟨by omega,this⟩
  ·by_cases h2:tg b=(5,i)∨(w.heap.size≤b∧b < w'.heap.size)
   ·rcases h2 with h2 | h2
    ·have:=h.dom b (by rw [h2];simp);exact ⟨this.1,by omega⟩
    ·exact ⟨by omega,h2.2⟩
   ·rw [t3 b h1 h2] at hb
    have:=h.dom b hb
    exact ⟨this.1,by omega⟩
 refine ⟨v,tg',rfl,⟨⟨(ht V (zF _ h.vb.2) (by rw [h.vb.1];simp)).trans h.vb.1,(k2.fr.block V (zF _ h.vb.2) (fun hb=>by have:=ho V hb;rw [h.vb.1] at this;exact hne (by decide) this)).trans h.vb.2⟩,?_,zBF (C:=fun t=>t=(5,i)) k2.fr hS ht (hne (by decide)) h.ls,fun k v hk=>?_,fun j q hq=>?_,fun j q hq=>?_,hdom,Below.trans h.below (k2.fr.below h.below.size hd0),h.env.fr k2.fr (fun b hb=>Nat.le_trans h.hG (hd0 b hb)),h.hG⟩,?_,fun b hb=>hdom b (by rw [hb];simp),fun b hb h0=>⟨k2.fr.block b hb (fun h2=>by have:=ho b h2;rw [h0] at this;exact hne (by decide) this),(ht b hb (by rw [h0];exact hne (by decide))).trans h0⟩⟩
 ·have:=zBF (C:=fun t=>t=(5,i)) k2.fr hS ht (hne (by decide)) h.ds
  rw [List.length_set]
  rw [zIK zEe ps i p {p with r:=ym r'} hp rfl]
  exact this
 ·obtain ⟨n,hn⟩:=h.lists k v hk
  exact ⟨n,zBF (C:=fun t=>t=(5,i)) k2.fr hS ht (hne (by decide)) hn⟩
 ·rcases hset j q hq with ⟨rfl,rfl⟩ | ⟨hj,hq'⟩
  ·exact ⟨ρ',L',k1,t1⟩
  ·obtain ⟨ρj,Lj,j1,j2⟩:=h.real j q hq'
   exact ⟨ρj,Lj,zDj (C:=fun t=>t=(5,i)) k2.fr hS ht (fun e=>hj (congrArg Prod.snd e)) j1 j2⟩
 ·rcases hset j q hq with ⟨rfl,rfl⟩ | ⟨hj,hq'⟩
  ·obtain ⟨ρj,Lj,j1,j2⟩:=h.ref j p hp
   exact ⟨ρj,Lj,zDk (C:=fun t=>t=(5,j)) k2.fr hS ht (hne (by decide)) j1 j2⟩
  ·obtain ⟨ρj,Lj,j1,j2⟩:=h.ref j q hq'
   exact ⟨ρj,Lj,zDk (C:=fun t=>t=(5,i)) k2.fr hS ht (hne (by decide)) j1 j2⟩
 ·refine k3.of_blk (fun _ _ _=>rfl) (fun b hb hl=>t2 b hb.2 ?_)
  rcases hb.1 with h1 | h1
  ·exact .inl (ho b h1)
  ·exact .inr ⟨h1,hl⟩
theorem LawC.mcall (h:LawC G w0 w tg V dsv lsv lss ps) {p:DP} (hp:ps[i]?=some p) {ρ:Nat→Role} (ho:∀b,Of ρ b→tg b=(6,i)) {m':RefM} {e:Ending} (hk:zBW w ρ G p.M m' e w') :
 ∃v tg',e=.returned v∧LawC G w0 w' tg' V dsv lsv lss (ps.set i {p with m:={m' with out:=[]}})∧SlAt w' 59 2 (fun b=>tg' b=(7,0)) v m'.out.length (yG m'.out)∧(∀b,tg b=(4,lss.length)→w'.heap[b]?=w.heap[b]?∧tg' b=(4,lss.length))∧(∀b,b < w.heap.size→tg b=(0,0)→w'.heap[b]?=w.heap[b]?∧tg' b=(0,0)):=by
 obtain ⟨v,ρ',L',rfl,k1,k2,k3⟩:=hk
 have hown:∀b,b < w.heap.size→Of ρ' b→tg b=(6,i):=fun b hb hb'=>(k2.own b hb').elim (ho b) (fun h=>by omega)
 obtain ⟨tg',htg⟩:∃tg':Nat→Nat×Nat,tg'=fun b=>if (ρ' b).tag≠0 then (6,i) else if tg b=(6,i)∨(w.heap.size≤b∧b < w'.heap.size) then (7,0) else tg b:=⟨_,rfl⟩
 have t1:∀b,Of ρ' b→tg' b=(6,i):=fun b hb=>by rw [htg];show (if (ρ' b).tag≠0 then _ else _)=_;rw [if_pos (show (ρ' b).tag≠0 from hb)]
 have t2:∀b,¬Of ρ' b→(tg b=(6,i)∨(w.heap.size≤b∧b < w'.heap.size))→tg' b=(7,0):=fun b hb h2=>by rw [htg];show (if (ρ' b).tag≠0 then _ else _)=_;rw [if_neg (show ¬(ρ' b).tag≠0 from hb),if_pos h2]
 have t3:∀b,¬Of ρ' b→¬(tg b=(6,i)∨(w.heap.size≤b∧b < w'.heap.size))→tg' b=tg b:=fun b hb h2=>by rw [htg];show (if (ρ' b).tag≠0 then _ else _)=_;rw [if_neg (show ¬(ρ' b).tag≠0 from hb),if_neg h2]
 clear htg
 have hS:∀b,b < w.heap.size→Of ρ b→(fun t=>t=(6,i)) (tg b):=fun b _ hb=>ho b hb
 have ht:∀b,b < w.heap.size→¬(tg b=(6,i))→tg' b=tg b:=fun b hb h2=>t3 b (fun h3=>h2 (hown b hb h3)) (fun h3=>h3.elim h2 (fun h4=>by omega))
 have hd0:∀b,Of ρ b→w0.heap.size≤b:=fun b hb=>(h.dom b (by rw [ho b hb];simp)).1
 have hil:=(List.getElem?_eq_some_iff.1 hp).1
 have hset:∀(j:Nat) q,(ps.set i {p with m:={m' with out:=[]}})[j]?=some q→(j=i∧q={p with m:={m' with out:=[]}})∨(j≠i∧ps[j]?=some q):=fun j q hq=>by
  rw [List.getElem?_set] at hq
  by_cases e:i=j
  ·rw [if_pos e,if_pos hil] at hq;exact .inl ⟨e.symm,(Option.some.inj hq).symm⟩
  ·rw [if_neg e] at hq;exact .inr ⟨Ne.symm e,hq⟩
 have hne:∀{a b c d:Nat},a≠c→¬((a,b)=(c,d)):=fun h e=>h (congrArg Prod.fst e)
 have hdom:∀b,tg' b≠(0,0)→w0.heap.size≤b∧b < w'.heap.size:=fun b hb=>by
  have hws:=h.below.size
  have hss:=k2.fr.size
  by_cases h1:Of ρ' b
  ·have:=(k1.dom b h1).2
   rcases k2.own b h1 with h2 | h2
   ·exact ⟨hd0 b h2,this⟩
   ·exact ⟨by omega,this⟩
  ·by_cases h2:tg b=(6,i)∨(w.heap.size≤b∧b < w'.heap.size)
   ·rcases h2 with h2 | h2
    ·have:=h.dom b (by rw [h2];simp);exact ⟨this.1,by omega⟩
    ·exact ⟨by omega,h2.2⟩
   ·rw [t3 b h1 h2] at hb
    have:=h.dom b hb
    exact ⟨this.1,by omega⟩
 refine ⟨v,tg',rfl,⟨⟨(ht V (zF _ h.vb.2) (by rw [h.vb.1];simp)).trans h.vb.1,(k2.fr.block V (zF _ h.vb.2) (fun hb=>by have:=ho V hb;rw [h.vb.1] at this;exact hne (by decide) this)).trans h.vb.2⟩,?_,zBF (C:=fun t=>t=(6,i)) k2.fr hS ht (hne (by decide)) h.ls,fun k v hk=>?_,fun j q hq=>?_,fun j q hq=>?_,hdom,Below.trans h.below (k2.fr.below h.below.size hd0),h.env.fr k2.fr (fun b hb=>Nat.le_trans h.hG (hd0 b hb)),h.hG⟩,?_,fun b hb=>⟨k2.fr.block b (h.dom b (by rw [hb];simp)).2 (fun h2=>by have:=ho b h2;rw [hb] at this;exact hne (by decide) this),(ht b (h.dom b (by rw [hb];simp)).2 (by rw [hb];exact hne (by decide))).trans hb⟩,fun b hb h0=>⟨k2.fr.block b hb (fun h2=>by have:=ho b h2;rw [h0] at this;exact hne (by decide) this),(ht b hb (by rw [h0];exact hne (by decide))).trans h0⟩⟩
 ·have:=zBF (C:=fun t=>t=(6,i)) k2.fr hS ht (hne (by decide)) h.ds
  rw [List.length_set]
  rw [zIK zEe ps i p {p with m:={m' with out:=[]}} hp rfl]
  exact this
 ·obtain ⟨n,hn⟩:=h.lists k v hk
  exact ⟨n,zBF (C:=fun t=>t=(6,i)) k2.fr hS ht (hne (by decide)) hn⟩
 ·rcases hset j q hq with ⟨rfl,rfl⟩ | ⟨hj,hq'⟩
  ·obtain ⟨ρj,Lj,j1,j2⟩:=h.real j p hp
   exact ⟨ρj,Lj,zDj (C:=fun t=>t=(6,j)) k2.fr hS ht (hne (by decide)) j1 j2⟩
  ·obtain ⟨ρj,Lj,j1,j2⟩:=h.real j q hq'
   exact ⟨ρj,Lj,zDj (C:=fun t=>t=(6,i)) k2.fr hS ht (hne (by decide)) j1 j2⟩
 ·rcases hset j q hq with ⟨rfl,rfl⟩ | ⟨hj,hq'⟩
  ·exact ⟨ρ',L',k1,t1⟩
  ·obtain ⟨ρj,Lj,j1,j2⟩:=h.ref j q hq'
   exact ⟨ρj,Lj,zDk (C:=fun t=>t=(6,i)) k2.fr hS ht (fun e=>hj (congrArg Prod.snd e)) j1 j2⟩
 ·refine k3.of_blk (fun _ _ _=>rfl) (fun b hb hl=>t2 b hb.2 ?_)
  rcases hb.1 with h1 | h1
  ·exact .inl (ho b h1)
  ·exact .inr ⟨h1,hl⟩
end
section
variable {G V i:Nat} {w0 w w':World} {tg tg':Nat→Nat×Nat} {dsv lsv:Value} {lss:List Value} {ps:List DP} {S:Nat→Prop} {C:Nat×Nat→Prop}
theorem xB {a b c d:Nat} (h:a≠c):¬((a,b)=(c,d)):=fun e=>h (congrArg Prod.fst e)
theorem LawC.mine (h:LawC G w0 w tg V dsv lsv lss ps) {n:Nat} (hk:zIJ w V dsv false (fun b=>tg b=(3,0)) (fun b=>tg b=(4,lss.length)) lss n w') :
 ∃tg' lsv' v',LawC G w0 w' tg' V dsv lsv' (lss++[v']) ps:=by
 obtain ⟨lsv',v',g3,g4,k1,k2,k3,k4,k5,k6,k7,k8,k9⟩:=hk
 obtain ⟨tg',htg⟩:∃tg':Nat→Nat×Nat,tg'=fun b=>if b=g3 then (3,0) else if b=g4 then (4,lss.length) else tg b:=⟨_,rfl⟩
 have t1:tg' g3=(3,0):=by rw [htg];simp
 have t2:tg' g4=(4,lss.length):=by rw [htg];show (if g4=g3 then _ else _)=_;rw [if_neg (Ne.symm k6),if_pos rfl]
 have t3:∀b,b≠g3→b≠g4→tg' b=tg b:=fun b h1 h2=>by rw [htg];show (if b=g3 then _ else _)=_;rw [if_neg h1,if_neg h2]
 clear htg
 have hS:∀b,b < w.heap.size→(b=V∨tg b=(3,0)∨tg b=(4,lss.length))→(fun t=>t=(1,0)∨t=(3,0)∨t=(4,lss.length)) (tg b):=fun b _ hb=>by
  rcases hb with rfl | hb | hb
  ·exact .inl h.vb.1
  ·exact .inr (.inl hb)
  ·exact .inr (.inr hb)
 have ht:∀b,b < w.heap.size→¬(tg b=(1,0)∨tg b=(3,0)∨tg b=(4,lss.length))→tg' b=tg b:=fun b hb h2=>by
  refine t3 b ?_ ?_
  ·rintro rfl
   rcases k4 with h3 | h3
   ·exact h2 (.inr (.inl h3))
   ·omega
  ·rintro rfl
   rcases k5 with h3 | h3
   ·exact h2 (.inr (.inr h3))
   ·omega
 have hws:=h.below.size
 have hss:=k9.size
 have hdom:∀b,tg' b≠(0,0)→w0.heap.size≤b∧b < w'.heap.size:=fun b hb=>by
  by_cases h1:b=g3
  ·subst h1
   rcases k4 with h3 | h3
   ·exact ⟨(h.dom b (by rw [h3];simp)).1,k7⟩
   ·exact ⟨by omega,k7⟩
  ·by_cases h2:b=g4
   ·subst h2
    rcases k5 with h3 | h3
    ·exact ⟨(h.dom b (by rw [h3];simp)).1,k8⟩
    ·exact ⟨by omega,k8⟩
   ·rw [t3 b h1 h2] at hb
    have:=h.dom b hb
    exact ⟨this.1,by omega⟩
 have hV:V≠g3∧V≠g4:=by
  have hvl:=zF _ h.vb.2
  constructor
  ·rintro rfl
   rcases k4 with h3 | h3
   ·rw [h.vb.1] at h3;exact xB (by decide) h3
   ·omega
  ·rintro rfl
   rcases k5 with h3 | h3
   ·rw [h.vb.1] at h3;exact xB (by decide) h3
   ·omega
 have hd0:∀b,(b=V∨tg b=(3,0)∨tg b=(4,lss.length))→w0.heap.size≤b:=fun b hb=>by
  rcases hb with rfl | hb | hb
  ·exact (h.dom b (by rw [h.vb.1];simp)).1
  ·exact (h.dom b (by rw [hb];simp)).1
  ·exact (h.dom b (by rw [hb];simp)).1
 have hn1:∀{a b:Nat},a≠1→a≠3→a≠4→¬((a,b)=(1,0)∨(a,b)=(3,0)∨(a,b)=(4,lss.length)):=fun h1 h2 h3 e=>by
  rcases e with e | e | e
  ·exact xB h1 e
  ·exact xB h2 e
  ·exact xB h3 e
 refine ⟨tg',lsv',v',⟨⟨(t3 V hV.1 hV.2).trans h.vb.1,k1⟩,zBF (C:=fun t=>t=(1,0)∨t=(3,0)∨t=(4,lss.length)) k9 hS ht (hn1 (by decide) (by decide) (by decide)) h.ds,?_,fun k v hk=>?_,fun j q hq=>?_,fun j q hq=>?_,hdom,Below.trans h.below (k9.below h.below.size hd0),h.env.fr k9 (fun b hb=>Nat.le_trans h.hG (hd0 b hb)),h.hG⟩⟩
 ·rw [List.length_append,List.length_singleton]
  exact k2.of_blk (fun _ _ _=>rfl) (fun b hb _=>by rw [show b=g3 from hb];exact t1)
 ·by_cases hkl:k < lss.length
  ·rw [List.getElem?_append_left hkl] at hk
   obtain ⟨n',hn'⟩:=h.lists k v hk
   refine ⟨n',zBF (C:=fun t=>t=(1,0)∨t=(3,0)∨t=(4,lss.length)) k9 hS ht (fun e=>?_) hn'⟩
   rcases e with e | e | e
   ·exact xB (by decide) e
   ·exact xB (by decide) e
   ·have:=congrArg Prod.snd e;simp only at this;omega
  ·have hkk:k=lss.length:=by
    have:=(List.getElem?_eq_some_iff.1 hk).1
    simp at this;omega
   subst hkk
   rw [List.getElem?_append_right (Nat.le_refl _),Nat.sub_self] at hk
   simp at hk;subst hk
   exact ⟨n+2,k3.of_blk (fun _ _ _=>rfl) (fun b hb _=>by rw [show b=g4 from hb];exact t2)⟩
 ·obtain ⟨ρj,Lj,j1,j2⟩:=h.real j q hq
  exact ⟨ρj,Lj,zDj (C:=fun t=>t=(1,0)∨t=(3,0)∨t=(4,lss.length)) k9 hS ht (hn1 (by decide) (by decide) (by decide)) j1 j2⟩
 ·obtain ⟨ρj,Lj,j1,j2⟩:=h.ref j q hq
  exact ⟨ρj,Lj,zDk (C:=fun t=>t=(1,0)∨t=(3,0)∨t=(4,lss.length)) k9 hS ht (hn1 (by decide) (by decide) (by decide)) j1 j2⟩
theorem LawC.add_mid (h:LawC G w0 w tg V dsv lsv lss ps) {o:Obj} {w3:World} {g:Nat} (hg:tg g=(2,0)∨g=(w.alloc o).heap.size) (hf:Fr (fun b=>b=g) (w.alloc o) w3):w3.heap[V]?=some (.cells #[dsv,lsv,.bool false] 103 (0,0))∧V≠g:=by
 have hvl:=zF _ h.vb.2
 have hne:V≠g:=by
  rintro rfl
  rcases hg with h3 | h3
  ·rw [h.vb.1] at h3;exact xB (by decide) h3
  ·rw [World.size_alloc] at h3;omega
 exact ⟨(hf.block V (by rw [World.size_alloc];omega) hne).trans ((zP w hvl).trans h.vb.2),hne⟩
theorem LawC.add (h:LawC G w0 w tg V dsv lsv lss ps) {D M:Nat} {ρ σ:Nat→Role} {L:Lay} {ML:MLay} {r:Raw} {m:RefM} (hR:RRep w ρ G D L r) (hM:MRep w σ G M ML m) (ho:∀b,Of ρ b→tg b=(0,0)∧w0.heap.size≤b∧¬Of σ b) (hs:∀b,Of σ b→tg b=(0,0)∧w0.heap.size≤b)
 {o:Obj} {w3:World} {g off cap:Nat} (hg:tg g=(2,0)∨g=(w.alloc o).heap.size) (hf:Fr (fun b=>b=g) (w.alloc o) w3) (hgl:g < w3.heap.size) (hs3:SlAt w3 158 2 (fun b=>b=g) (.slice (some ⟨g,off,none⟩) (ps.length+1) cap) (ps.length+1) (ps.flatMap zEe++[vp D,vp M])) :
 ∃tg',LawC G w0 (w3.setCell ⟨V,0,none⟩ (.slice (some ⟨g,off,none⟩) (ps.length+1) cap)) tg' V (.slice (some ⟨g,off,none⟩) (ps.length+1) cap) lsv lss (ps++[⟨D,M,r,m⟩]):=by
 obtain ⟨hV3,hVg⟩:=h.add_mid hg hf
 have hws:=h.below.size
 have hfs:=hf.size
 rw [World.size_alloc] at hfs
 obtain ⟨tg',htg⟩:∃tg':Nat→Nat×Nat,tg'=fun b=>if (ρ b).tag≠0 then (5,ps.length) else if (σ b).tag≠0 then (6,ps.length) else if b=g then (2,0) else tg b:=⟨_,rfl⟩
 have t1:∀b,Of ρ b→tg' b=(5,ps.length):=fun b hb=>by rw [htg];show (if (ρ b).tag≠0 then _ else _)=_;rw [if_pos (show (ρ b).tag≠0 from hb)]
 have t2:∀b,¬Of ρ b→Of σ b→tg' b=(6,ps.length):=fun b h1 hb=>by rw [htg];show (if (ρ b).tag≠0 then _ else _)=_;rw [if_neg (show ¬(ρ b).tag≠0 from h1),if_pos (show (σ b).tag≠0 from hb)]
 have t3:∀b,¬Of ρ b→¬Of σ b→b=g→tg' b=(2,0):=fun b h1 h2 hb=>by rw [htg];show (if (ρ b).tag≠0 then _ else _)=_;rw [if_neg (show ¬(ρ b).tag≠0 from h1),if_neg (show ¬(σ b).tag≠0 from h2),if_pos hb]
 have t4:∀b,¬Of ρ b→¬Of σ b→b≠g→tg' b=tg b:=fun b h1 h2 hb=>by rw [htg];show (if (ρ b).tag≠0 then _ else _)=_;rw [if_neg (show ¬(ρ b).tag≠0 from h1),if_neg (show ¬(σ b).tag≠0 from h2),if_neg hb]
 clear htg
 have hgo:¬Of ρ g∧¬Of σ g:=by
  constructor
  ·intro h1
   rcases hg with h3 | h3
   ·rw [(ho g h1).1] at h3;exact xB (by decide) h3
   ·have:=(hR.dom g h1).2;rw [World.size_alloc] at h3;omega
  ·intro h1
   rcases hg with h3 | h3
   ·rw [(hs g h1).1] at h3;exact xB (by decide) h3
   ·have:=(hM.dom g h1).2;rw [World.size_alloc] at h3;omega
 have hVo:¬Of ρ V∧¬Of σ V:=⟨fun h1=>by have:=(ho V h1).1;rw [h.vb.1] at this;exact xB (by decide) this,fun h1=>by have:=(hs V h1).1;rw [h.vb.1] at this;exact xB (by decide) this⟩
 have hfw:Fr (fun b=>b=V∨b=g) w (w3.setCell ⟨V,0,none⟩ (.slice (some ⟨g,off,none⟩) (ps.length+1) cap)):=
  Fr.setCell (Fr.trans ((Fr.refl _ w).alloc o) hf (fun x hx=>.inl (.inr hx))) _ _ (.inl (.inl rfl))
 have hS:∀b,b < w.heap.size→(b=V∨b=g)→(fun t=>t=(1,0)∨t=(2,0)∨t=(0,0)) (tg b):=fun b hb hb'=>by
  rcases hb' with rfl | rfl
  ·exact .inl h.vb.1
  ·rcases hg with h3 | h3
   ·exact .inr (.inl h3)
   ·rw [World.size_alloc] at h3;omega
 have ht:∀b,b < w.heap.size→¬(tg b=(1,0)∨tg b=(2,0)∨tg b=(0,0))→tg' b=tg b:=fun b hb h2=>by
  refine t4 b (fun h3=>h2 (.inr (.inr (ho b h3).1))) (fun h3=>h2 (.inr (.inr (hs b h3).1))) ?_
  rintro rfl
  rcases hg with h3 | h3
  ·exact h2 (.inr (.inl h3))
  ·rw [World.size_alloc] at h3;omega
 have hsz':(w3.setCell ⟨V,0,none⟩ (.slice (some ⟨g,off,none⟩) (ps.length+1) cap)).heap.size=w3.heap.size:=by simp
 have hdom:∀b,tg' b≠(0,0)→w0.heap.size≤b∧b < (w3.setCell ⟨V,0,none⟩ (.slice (some ⟨g,off,none⟩) (ps.length+1) cap)).heap.size:=fun b hb=>by
  rw [hsz']
  by_cases h1:Of ρ b
  ·exact ⟨(ho b h1).2.1,by have:=(hR.dom b h1).2;omega⟩
  ·by_cases h2:Of σ b
   ·exact ⟨(hs b h2).2,by have:=(hM.dom b h2).2;omega⟩
   ·by_cases h3:b=g
    ·subst h3
     refine ⟨?_,hgl⟩
     rcases hg with h4 | h4
     ·exact (h.dom b (by rw [h4];simp)).1
     ·rw [World.size_alloc] at h4;omega
    ·rw [t4 b h1 h2 h3] at hb
     have:=h.dom b hb
     exact ⟨this.1,by omega⟩
 have hd0:∀b,(b=V∨b=g)→w0.heap.size≤b:=fun b hb=>by
  rcases hb with rfl | rfl
  ·exact (h.dom b (by rw [h.vb.1];simp)).1
  ·rcases hg with h3 | h3
   ·exact (h.dom b (by rw [h3];simp)).1
   ·rw [World.size_alloc] at h3;omega
 have hn1:∀{a b:Nat},a≠1→a≠2→a≠0→¬((a,b)=(1,0)∨(a,b)=(2,0)∨(a,b)=(0,0)):=fun h1 h2 h3 e=>by
  rcases e with e | e | e
  ·exact xB h1 e
  ·exact xB h2 e
  ·exact xB h3 e
 have hadd:∀(j:Nat) q,(ps++[⟨D,M,r,m⟩])[j]?=some q→(j=ps.length∧q=⟨D,M,r,m⟩)∨ps[j]?=some q:=fun j q hq=>by
  by_cases hj:j < ps.length
  ·rw [List.getElem?_append_left hj] at hq;exact .inr hq
  ·have hjj:j=ps.length:=by
    have:=(List.getElem?_eq_some_iff.1 hq).1
    simp at this;omega
   subst hjj
   rw [List.getElem?_append_right (Nat.le_refl _),Nat.sub_self] at hq
   simp at hq
   exact .inl ⟨rfl,hq.symm⟩
 refine ⟨tg',⟨⟨(t4 V hVo.1 hVo.2 hVg).trans h.vb.1,zM w3 hV3⟩,?_,zBF (C:=fun t=>t=(1,0)∨t=(2,0)∨t=(0,0)) hfw hS ht (hn1 (by decide) (by decide) (by decide)) h.ls,fun k v hk=>?_,fun j q hq=>?_,fun j q hq=>?_,hdom,Below.trans h.below (hfw.below h.below.size hd0),h.env.fr hfw (fun b hb=>Nat.le_trans h.hG (hd0 b hb)),h.hG⟩⟩
 ·rw [List.length_append,List.length_singleton,List.flatMap_append]
  exact hs3.of_blk (fun b hb _=>zJ w3 (by rw [show b=g from hb];exact Ne.symm hVg)) (fun b hb _=>by rw [show b=g from hb];exact t3 g hgo.1 hgo.2 rfl)
 ·obtain ⟨n',hn'⟩:=h.lists k v hk
  exact ⟨n',zBF (C:=fun t=>t=(1,0)∨t=(2,0)∨t=(0,0)) hfw hS ht (hn1 (by decide) (by decide) (by decide)) hn'⟩
 ·rcases hadd j q hq with ⟨rfl,rfl⟩ | hq'
  ·exact ⟨ρ,L,hR.of_fr hfw (fun b hb h1=>by rcases hb with rfl | rfl;exact hVo.1 h1;exact hgo.1 h1),t1⟩
  ·obtain ⟨ρj,Lj,j1,j2⟩:=h.real j q hq'
   exact ⟨ρj,Lj,zDj (C:=fun t=>t=(1,0)∨t=(2,0)∨t=(0,0)) hfw hS ht (hn1 (by decide) (by decide) (by decide)) j1 j2⟩
 ·rcases hadd j q hq with ⟨rfl,rfl⟩ | hq'
  ·exact ⟨σ,ML,hM.of_fr hfw (fun b hb h1=>by rcases hb with rfl | rfl;exact hVo.2 h1;exact hgo.2 h1),fun b hb=>t2 b (fun h1=>(ho b h1).2.2 hb) hb⟩
  ·obtain ⟨ρj,Lj,j1,j2⟩:=h.ref j q hq'
   exact ⟨ρj,Lj,zDk (C:=fun t=>t=(1,0)∨t=(2,0)∨t=(0,0)) hfw hS ht (hn1 (by decide) (by decide) (by decide)) j1 j2⟩
end
end Go.Proofs.YtaejfobbogahmaaGreatDoor
