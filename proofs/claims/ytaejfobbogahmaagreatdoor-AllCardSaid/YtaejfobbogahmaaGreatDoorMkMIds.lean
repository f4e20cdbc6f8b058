/-
  MFig MIds MRing MWait: texts of their own, joined.
-/
import Derived.IntWalk
import Derived.Test.YtaejfobbogahmaaGreatDoorMkMSayA
set_option maxRecDepth 100000
set_option maxHeartbeats 16000000
set_option linter.all false
namespace Go.Proofs.YtaejfobbogahmaaGreatDoor
open Go Go.RowKit
theorem zUQ (w:World) (b:UInt8):(convert 50 9 (.slice (some ⟨w.heap.size,0,none⟩) 1 1)).run Tryz.prog (w.alloc (.cells #[.int .u8 b.toNat] 5))=.ok (vs (bs [b])) (w.alloc (.cells #[.int .u8 b.toNat] 5)):=
 run_convert_bytes_back (w.alloc _) _ _ 5 ⟨w.heap.size,0,none⟩ 1 [b] Tryz.underlying50 Tryz.underlying5 Tryz.underlying9 (fun j hj=>by
  have:j=0:=by simp at hj;omega
  subst this
  rw [Addr.add_lit]
  exact zB (zL w) rfl)
theorem zUR (a b:zA):bs a++bs b=bs (a++b):=ByteArray.ext (by simp [bs])
theorem zUS {n:Nat} (h:n < 10):dec n=[UInt8.ofNat (48+n)]:=by
 unfold dec decF;rw [if_pos h]
theorem zUT {n:Nat} (h:¬n < 10) (h2:n < 1000000000000):dec n=dec (n / 10)++[UInt8.ofNat (48+n % 10)]:=by
 have key:∀(f n:Nat),n < 10 ^ (f+1)→decF f n=decF (f+1) n:=by
  intro f
  induction f with
  | zero=>intro n hn;simp at hn;simp [decF,hn,Nat.mod_eq_of_lt hn]
  | succ f ih =>
    intro n hn
    show decF (f+1) n=decF (f+2) n
    conv=>lhs;rw [decF]
    conv=>rhs;rw [decF]
    split
    ·rfl
    ·rw [ih (n / 10) (by rw [Nat.pow_succ] at hn;omega)]
 unfold dec
 conv=>lhs;rw [decF]
 rw [if_neg h,key 19 (n / 10) (by simp only [show (10:Nat) ^ (19+1)=100000000000000000000 from rfl];omega)]
theorem zUU {w:World} (n:Nat) (hn:n < 10) :
 Calls Tryz.prog 119 #[vi n] w fun e w'=>e=.returned (vs (bs (dec n)))∧Below w.heap.size w w':=by
 have h1:decide ((n:Int) < 10)=true:=decide_eq_true (by omega)
 have hn2:(n:Int) < 10:=by omega
 have hcv:=zUQ w (UInt8.ofNat (48+n))
 have hb:((UInt8.ofNat (48+n)).toNat:Int)=48+n:=by simp;omega
 rw [hb,←zUS hn] at hcv
 clear hb
 go_enter Tryz.func119,Tryz.ntmps119
 go_wp2_with fail
 go_ret
 exact ⟨rfl,(Fr.refl (fun _=>False) w).alloc _ |>.below (Nat.le_refl _) (fun _ f=>f.elim)⟩
theorem zUV {w:World} (x m d:Int) (s t:ByteArray) (h1:decide (x < 10)=false) (hq:x.tdiv 10=m) (hr:x.tmod 10=d) (hq0:0≤m) (hq1:m≤1000000000000) (hd0:0≤d) (hd1:d < 10)
 (hx0:0≤x) (hx1:x≤1000000000000) (hst:¬9223372036854775807 < s.size+t.size)
 (ih:∀w1,Calls Tryz.prog 119 #[vi m] w1 fun e w'=>e=.returned (vs s)∧Below w1.heap.size w1 w')
 (hcv:∀(w':World) (B:Nat),w'.heap[B]?=some (.cells #[.int .u8 (48+d)] 5 (0,0))→(convert 50 9 (.slice (some ⟨B,0,none⟩) 1 1)).run Tryz.prog w'=.ok (vs t) w') :
 Calls Tryz.prog 119 #[vi x] w fun e w'=>e=.returned (vs (s++t))∧Below w.heap.size w w':=by
 have hw1d:(convert 50 9 (.slice (some ⟨w.heap.size,0,none⟩) 1 1)).run Tryz.prog (w.alloc (.cells #[.int .u8 (48+d)] 5)).drew=.ok (vs t) (w.alloc (.cells #[.int .u8 (48+d)] 5)).drew:=hcv _ _ (zL w)
 have hw1:(convert 50 9 (.slice (some ⟨w.heap.size,0,none⟩) 1 1)).run Tryz.prog (w.alloc (.cells #[.int .u8 (48+d)] 5))=.ok (vs t) (w.alloc (.cells #[.int .u8 (48+d)] 5)):=hcv _ _ (zL w)
 have hcv0:∀w1:World,(convert 50 9 (.slice (some ⟨w1.heap.size,0,none⟩) 1 1)).run Tryz.prog (w1.alloc (.cells #[.int .u8 (48+d)] 5))=.ok (vs t) (w1.alloc (.cells #[.int .u8 (48+d)] 5)):=fun w1=>hcv _ _ (zL w1)
 have hcv1:∀w1:World,Below (w.alloc (.cells #[.int .u8 (48+d)] 5)).drew.heap.size (w.alloc (.cells #[.int .u8 (48+d)] 5)).drew w1→(convert 50 9 (.slice (some ⟨w.heap.size,0,none⟩) 1 1)).run Tryz.prog w1=.ok (vs t) w1:=fun w1 hb=>hcv _ _ ((hb.block _ (by show w.heap.size < (w.alloc _).heap.size;simp)).trans (zL w))
 have IH:=zh ih
 have hs48:IntKind.i64.wrap (48+d)=48+d:=IntWalk.i64_in _ (by omega)
 have e8:∀n:Int,IntKind.u8.wrap n=n % 256:=fun n=>rfl
 have hs8:IntKind.u8.wrap (48+d)=48+d:=by rw [e8];omega
 clear e8
 clear hcv ih
 go_enter Tryz.func119,Tryz.ntmps119
 go_wp2_with fail
 have hwm:IntKind.i64.wrap m=m:=IntWalk.i64_in _ (by omega)
 have hwd:IntKind.i64.wrap d=d:=IntWalk.i64_in _ (by omega)
 go_region_law (first
  | (go_simp;go_at_call 119;refine (IH.out _).mono ?_;rintro e w1 ⟨rfl,hb⟩;have hcw2:=hcv1 w1 hb;have HB:Hid (Below w.heap.size w w1):=⟨hb.os,hb.tape,hb.output,Nat.le_trans (by show w.heap.size≤(w.alloc _).heap.size;simp) hb.size,fun i hi=>(hb.block i (by show i < (w.alloc _).heap.size;simp;omega)).trans (zP w hi)⟩;clear hb)
  | (go_simp;go_at_call 119;refine (IH.out _).mono ?_;rintro e w1 ⟨rfl,hb⟩;have hcw:=hcv0 w1;have HB:Hid (Below w.heap.size w w1):=⟨hb.os,hb.tape,hb.output,hb.size,hb.block⟩;clear hb))
 all_goals
  go_wp2_with fail
  go_ret
  first
   | exact ⟨rfl,HB.out⟩
   | exact ⟨rfl,Below.trans HB.out (((Fr.refl (fun _=>False) w1).alloc _).below HB.out.size (fun _ f=>f.elim))⟩
theorem zMj:∀(f n:Nat),(decF f n).length≤f+1
 | 0,n=>by simp [decF]
 | f+1,n=>by
   unfold decF
   split
   ·simp
   ·rw [List.length_append];have:=zMj f (n / 10);simp;omega
theorem zUW:∀(n:Nat),n < 1000000000000→∀(w:World),Calls Tryz.prog 119 #[vi n] w fun e w'=>e=.returned (vs (bs (dec n)))∧Below w.heap.size w w':=by
 intro n
 induction n using Nat.strongRecOn with
 | _ n ih =>
   intro hn w
   by_cases h:n < 10
   ·exact zUU n h
   ·have hq:(n:Int).tdiv 10=((n / 10:Nat):Int):=by rw [Int.tdiv_eq_ediv_of_nonneg (by omega)];omega
    have hr:(n:Int).tmod 10=((n % 10:Nat):Int):=by rw [Int.tmod_eq_emod_of_nonneg (by omega)];omega
    have h20:=zMj 20 (n / 10)
    rw [zUT h hn,←zUR]
    refine zUV (n:Int) ((n / 10:Nat):Int) ((n % 10:Nat):Int) (bs (dec (n / 10))) (bs [UInt8.ofNat (48+n % 10)]) (decide_eq_false (by omega)) hq hr (by omega) (by omega) (by omega) (by omega) (by omega) (by omega) ?_ (fun w1=>ih (n / 10) (by omega) (by omega) w1) (fun w' B hB=>?_)
    ·have e1:(bs (dec (n / 10))).size=(dec (n / 10)).length:=by simp [bs,ByteArray.size]
     have e2:(bs [UInt8.ofNat (48+n % 10)]).size=1:=by simp [bs,ByteArray.size]
     rw [e1,e2]
     unfold dec
     omega
    ·refine run_convert_bytes_back w' _ _ 5 ⟨B,0,none⟩ 1 [UInt8.ofNat (48+n % 10)] Tryz.underlying50 Tryz.underlying5 Tryz.underlying9 (fun j hj=>?_)
     have:j=0:=by simp at hj;omega
     subst this
     rw [Addr.add_lit]
     have hb:((UInt8.ofNat (48+n % 10)).toNat:Int)=48+((n % 10:Nat):Int):=by simp;omega
     exact zB hB (by show some _=some (Value.int _ _);rw [←hb];rfl)
theorem zBn {P:Program} {c:Code} {K:Act→World→Prop} {Q:Exit→Act→World→Prop} {a A:Act} {w:World} {S:World→Prop} (h:∀R:Act→World→Prop,Hid (∀W,S W→R A W)→c.wp P (Exit.then R Q) a w) (k:∀W,S W→K A W):c.wp P (Exit.then K Q) a w:=h K k
theorem zGY {w:World} {T:TypeId} {sz:Nat} {own:Nat→Prop} {v:Value} {n:Nat} {xs:List Value} (h:SlAt w T sz own v n xs) (hn:0 < n):∃g,own g∧g < w.heap.size∧SlAt w T sz (fun b=>b=g) v n xs:=by
 rcases h with ⟨_,h,_⟩ | ⟨b,off,cap,cs,q1,q2,q3,q4⟩
 ·omega
 ·exact ⟨b,q2,zF _ q3,.inr ⟨b,off,cap,cs,q1,rfl,q3,q4⟩⟩
def zIW (p:Value×Value):List Value:=[p.1,p.2]
theorem zIX (ids:ByteArray→Value) (l:List (ByteArray×List Int)):yg ids l=(l.map fun p=>(vs p.1,ids p.1)).flatMap zIW:=by
 unfold yg
 rw [List.flatMap_map]
 rfl
theorem zEm {l:List (ByteArray×List Int)} (hn:(l.map Prod.fst).Nodup) {k:Nat} {t:ByteArray} {x:List Int} (hk:l[k]?=some (t,x)):∀(j:Nat) (p:ByteArray×List Int),l[j]?=some p→p.1=t→j=k:=fun j p hj hp=>by
 have h1:(l.map Prod.fst)[k]?=some t:=by rw [List.getElem?_map,hk];rfl
 have h2:(l.map Prod.fst)[j]?=some t:=by rw [List.getElem?_map,hj];exact congrArg some hp
 exact (List.getElem?_inj (List.getElem?_eq_some_iff.1 h2).1 hn).1 (h2.trans h1.symm)
theorem zUX {ids:ByteArray→Value} {l:List (ByteArray×List Int)} (hn:(l.map Prod.fst).Nodup) {k:Nat} {t:ByteArray} {x:List Int} (hk:l[k]?=some (t,x)) (v:Value) (x':List Int) :
 (yg ids l).set (k*2+1) v=yg (fun s=>if s=t then v else ids s) (l.set k (t,x')):=by
 rw [zIX,zIX,zBg (f:=zIW) (sz:=2) (fun _=>rfl) _ k 1 (vs t,ids t) (vs t,v) v (by rw [List.getElem?_map,hk];rfl) (by decide) rfl]
 congr 1
 apply List.ext_getElem?
 intro j
 rw [List.getElem?_map,List.getElem?_set,List.getElem?_set,List.length_map,List.getElem?_map]
 by_cases e:k=j
 ·subst e
  rw [if_pos rfl,if_pos rfl,if_pos (List.getElem?_eq_some_iff.1 hk).1]
  simp
  exact (List.getElem?_eq_some_iff.1 hk).1
 ·rw [if_neg e,if_neg e]
  cases hj:l[j]? with
  | none=>rfl
  | some p =>
    have:p.1≠t:=fun h=>e (zEm hn hk j p hj h).symm
    simp [this]
section
variable {w w' w1 w2 w3:World} {ρ:Nat→Role} {G M:Nat} {L:MLay} {m:RefM}
theorem zUY (h:MRep w ρ G M L m) {a:Option Addr} {n cap:Nat} (e:L.ring=.slice a n cap):zAW w a 2 (m.ring.map (zAn L.ids)):=by
 obtain ⟨a',cap',h1,h2⟩:=h.ringIn
 rw [e] at h1
 injection h1 with e1 e2 e3
 rw [e1];exact h2
theorem zUZ (h:MRep w ρ G M L m) {rb roff n cap k:Nat} {t:ByteArray} {x l':List Int} (hv:L.ring=.slice (some ⟨rb,roff,none⟩) n cap) (hk:m.ring[k]?=some (t,x)) {E S:Nat→Prop} {v:Value} {c:Nat} (hc:c=l'.length) (hpos:0 < c)
 (hE:∀b,E b→ρ b=zR t∨w.heap.size≤b) (hs:SlAt w2 3 1 E v c (l'.map encI)) (hf:Fr S w w2) (hS:∀b,S b→ρ b=zR t∨w.heap.size≤b) :
 w2.heap[M]?=some (.cells (yS L m.cfg m.now) 179 (0,0))∧w2.cell? ⟨rb,roff+k*2+1,none⟩=some (L.ids t)∧w2.frozen? ⟨rb,roff+k*2+1,none⟩=false ∧
 MStA w ρ G M L {m with ring:=m.ring.set k (t,l')} (w2.setCell ⟨rb,roff+k*2+1,none⟩ v):=by
 subst hc
 have hkl:=(List.getElem?_eq_some_iff.1 hk).1
 obtain ⟨a',cap',h1,hrows⟩:=h.ringIn
 have hn:n=m.ring.length:=by rw [hv] at h1;injection h1
 have hcap:cap'=cap:=by rw [hv] at h1;injection h1 with _ _ e;exact e.symm
 subst hn;subst hcap
 have hSn:∀(R:Role),R.tag≠0→R.tag≠25→∀b,S b→ρ b=R→False:=fun R h0 h25 b hb e=>by
  rcases hS b hb with h2 | h2
  ·rw [h2] at e;rw [←e] at h25;exact h25 rfl
  ·have:=xq h h2;rw [e] at this;exact h0 this
 have hM:w2.heap[M]?=some (.cells (yS L m.cfg m.now) 179 (0,0)):=(hf.block M h.size.2 (fun hb=>hSn rMod (by decide) (by decide) M hb h.mod.1)).trans h.mod.2
 have hring2:SlAt w2 191 2 (fun b=>ρ b=ze) L.ring m.ring.length (yg L.ids m.ring):=h.hold hf (by decide) (fun b hb e=>hSn ze (by decide) (by decide) b hb e) (fun b e=>e) h.ring
 rw [hv] at hring2
 obtain ⟨hrb,hrlt,hring3⟩:=zBf hring2
 have hrb:ρ rb=ze:=hrb
 have hcell:w2.cell? ⟨rb,roff+k*2+1,none⟩=some (L.ids t):=by
  obtain ⟨b',off',cap',hv',_,_,_,_,hc,_⟩:=hring2.form (by omega)
  injection hv' with e1 e2 e3
  injection e1 with e1
  injection e1 with e4 e5
  subst e4;subst e5
  have:=hc (k*2+1) (L.ids t) (by rw [zIX,zBU (f:=zIW) (sz:=2) (fun _=>rfl) _ k 1 (vs t,L.ids t) (by rw [List.getElem?_map,hk];rfl) (by decide)];rfl)
  rw [←Nat.add_assoc] at this
  exact this
 have hfz:w2.frozen? ⟨rb,roff+k*2+1,none⟩=false:=by
  obtain ⟨b',off',cap',hv',_,_,_,_,_,hfz⟩:=hring2.form (by omega)
  injection hv' with e1 e2 e3
  injection e1 with e1
  injection e1 with e4 e5
  subst e4
  exact hfz _
 refine ⟨hM,hcell,hfz,?_⟩
 obtain ⟨g,hg,hglt,hs1⟩:=zGY hs hpos
 have hgE:=hE g hg
 have hgr:rb≠g:=by
  rintro rfl
  rcases hgE with h2 | h2
  ·rw [hrb] at h2;exact absurd (congrArg Role.tag h2) (by simp [ze,zR])
  ·have:=xq h h2;rw [hrb] at this;exact absurd this (by decide)
 have hMr:M≠rb:=by rintro rfl;rw [h.mod.1] at hrb;exact absurd (congrArg Role.tag hrb) (by decide)
 have hother:∀(R:Role) (b:Nat),ρ b=R→R≠zR t→R.tag≠0→zk ρ g (zR t) b=R:=fun R b hb hne h0=>by
  by_cases e:b=g
  ·subst e
   rcases hgE with h2 | h2
   ·exact absurd (hb.symm.trans h2) hne
   ·have:=xq h h2;rw [hb] at this;exact absurd this h0
  ·rw [zc e];exact hb
 have hsz2:w.heap.size≤w2.heap.size:=hf.size
 have key:=h.put_ring (ρ':=zk ρ g (zR t)) (S:=fun b=>b=rb∨S b) (v:=L.ring) (ids:=fun s=>if s=t then v else L.ids s) (l:=m.ring.set k (t,l')) (w':=w2.setCell ⟨rb,roff+k*2+1,none⟩ v)
  (fun b hb=>by
   by_cases e:b=g
   ·subst e
    refine ⟨?_,by simpa using hglt⟩
    rcases hgE with h2 | h2
    ·exact (h.dom b (by rw [h2];simp [zR])).1
    ·have:=h.size;omega
   ·rw [zc e] at hb
    exact ⟨(h.dom b hb).1,by have:=(h.dom b hb).2;simp;omega⟩)
  (fun b=>by
   by_cases e:b=g
   ·subst e
    right
    rcases hgE with h2 | h2
    ·exact .inr (.inl (by rw [h2];rfl))
    ·exact .inr (.inr h2)
   ·exact .inl (zc e))
  ((zJ w2 hMr).trans hM) ?_ ?_ ?_ ((hf.mono (fun x hx=>.inl (.inr hx))).setCell _ _ (.inl (.inl rfl))) (fun b hb=>?_)
 ·obtain ⟨k1,k2⟩:=key
  exact ⟨_,_,k1,k2,rfl,rfl⟩
 ·have h2:=zCK hring3 (i:=k*2+1) (by omega) v
  rw [zUX h.rnd hk v l',←Nat.add_assoc] at h2
  rw [hv,List.length_set]
  exact h2.of_blk (fun _ _ _=>rfl) (fun b hb _=>by
   have hb:b=rb:=hb
   rw [hb]
   exact hother ze rb hrb (yH (by simp [ze,zR])) (by decide))
 ·intro s y hsy
  obtain ⟨j,hj,e⟩:=List.getElem_of_mem hsy
  have hj':(m.ring.set k (t,l'))[j]?=some (s,y):=by rw [List.getElem?_eq_getElem hj,e]
  rw [List.getElem?_set] at hj'
  by_cases ejk:k=j
  ·subst ejk
   rw [if_pos rfl,if_pos hkl] at hj'
   cases hj'
   show SlAt _ _ _ _ (if t=t then v else L.ids t) _ _
   rw [if_pos rfl]
   exact hs1.of_blk (fun b hb _=>zJ w2 (by have hb:b=g:=hb;rw [hb];exact Ne.symm hgr)) (fun b hb _=>by rw [show b=g from hb];exact yo _ _ _)
  ·rw [if_neg ejk] at hj'
   have hst:s≠t:=fun e2=>ejk (zEm h.rnd hk j (s,y) hj' e2).symm
   show SlAt _ _ _ _ (if s=t then v else L.ids s) _ _
   rw [if_neg hst]
   have h2:SlAt w2 3 1 (fun b=>ρ b=zR s) (L.ids s) y.length (y.map encI):=h.hold hf (by simp [zR]) (fun b hb e=>by
    rcases hS b hb with h3 | h3
    ·rw [h3] at e;exact hst (congrArg Role.nm e).symm
    ·have:=xq h h3;rw [e] at this;simp [zR] at this) (fun b e=>e) (h.ids s y (List.mem_of_getElem? hj'))
   exact h2.of_blk (fun b hb _=>zJ w2 (by have hb:ρ b=_:=hb;rintro rfl;rw [hrb] at hb;exact absurd (congrArg Role.tag hb) (by simp [ze,zR])))
    (fun b hb _=>hother (zR s) b hb (fun e2=>hst (congrArg Role.nm e2)) (by simp [zR]))
 ·have:(m.ring.set k (t,l')).map Prod.fst=m.ring.map Prod.fst:=by
   apply List.ext_getElem?
   intro j
   rw [List.getElem?_map,List.getElem?_set,List.getElem?_map]
   by_cases e:k=j
   ·subst e;rw [if_pos rfl,if_pos hkl,hk];rfl
   ·rw [if_neg e]
  rw [this];exact h.rnd
 ·rcases hb with rfl | hb
  ·exact .inr (.inl (by rw [hrb];rfl))
  ·rcases hS b hb with h2 | h2
   ·exact .inr (.inr (.inl (by rw [h2];rfl)))
   ·exact .inr (.inr (.inr h2))
end
section
variable {w w' w1 w2 w3:World} {ρ:Nat→Role} {G M:Nat} {L:MLay} {m:RefM}
theorem zIY {ids:ByteArray→Value} {l:List (ByteArray×List Int)} {t:ByteArray} (ht:∀p∈l,p.1≠t) (v:Value) (x:List Int):yg ids l++[vs t,v]=yg (fun s=>if s=t then v else ids s) (l++[(t,x)]):=by
 unfold yg
 rw [List.flatMap_append]
 congr 1
 ·induction l with
  | nil=>rfl
  | cons p l ih =>
    rw [List.flatMap_cons,List.flatMap_cons,ih (fun q hq=>ht q (List.mem_cons_of_mem _ hq))]
    simp [ht p List.mem_cons_self]
 ·simp
theorem zUa (h:MRep w ρ G M L m) {t:ByteArray} {id:Int} {B n:Nat} (hn:n=m.ring.length+1) (ht:∀p∈m.ring,p.1≠t) (hf1:Fr (fun _=>False) w w1) (hB:w.heap.size≤B) (hblk:w1.heap[B]?=some (.cells #[vi id] 3 (0,0))) {E:Nat→Prop} {v:Value}
 (hE:∀b,E b→ρ b=ze∨b=w1.heap.size) (hf2:Fr E w1 w2) (hs:SlAt w2 191 2 E v n (yg L.ids m.ring++[vs t,.slice (some ⟨B,0,none⟩) 1 1])) :
 w2.heap[M]?=some (.cells (yS L m.cfg m.now) 179 (0,0))∧MStA w ρ G M L {m with ring:=m.ring++[(t,[id])]} (w2.setCell ⟨M,8,none⟩ v):=by
 subst hn
 have h1:=h.of_fr hf1 (fun _ f=>f.elim)
 have hsz:=hf1.size
 have hBlt:=zF _ hblk
 have hEM:¬E M:=fun hb=>by
  rcases hE M hb with e | e
  ·rw [h.mod.1] at e;exact absurd (congrArg Role.tag e) (by decide)
  ·have:=h.size;omega
 have hM:w2.heap[M]?=some (.cells (yS L m.cfg m.now) 179 (0,0)):=(hf2.block M h1.size.2 hEM).trans h1.mod.2
 refine ⟨hM,?_⟩
 obtain ⟨g,hg,hglt,hs1⟩:=zGY hs (Nat.succ_pos _)
 have hgE:=hE g hg
 have hgE2:ρ g=ze∨w.heap.size≤g:=hgE.imp (fun e=>e) (fun e=>by omega)
 have hEB:¬E B:=fun hb=>by
  rcases hE B hb with e | e
  ·have:=xq h hB;rw [e] at this;exact absurd this (by decide)
  ·omega
 have hBg:B≠g:=fun e=>hEB (by rw [e];exact hg)
 have hBM:B≠M:=by have:=h.size;omega
 have hgM:g≠M:=by rintro rfl;exact hEM hg
 have hother:∀(R:Role) (b:Nat),ρ b=R→R.tag≠0→zk (zk ρ g ze) B (zR t) b=R:=fun R b hb h0=>by
  have hbB:b≠B:=by rintro rfl;have:=xq h hB;rw [hb] at this;exact h0 this
  rw [zc hbB]
  by_cases e:b=g
  ·subst e
   rcases hgE2 with h2 | h2
   ·rw [yo,←h2];exact hb
   ·have:=xq h h2;rw [hb] at this;exact absurd this h0
  ·rw [zc e];exact hb
 have hsz2:=hf2.size
 have hB2:w2.heap[B]?=some (.cells #[vi id] 3 (0,0)):=(hf2.block B hBlt hEB).trans hblk
 have key:=h.put_ring (ρ':=zk (zk ρ g ze) B (zR t)) (S:=fun b=>b=M∨E b) (v:=v) (ids:=fun s=>if s=t then .slice (some ⟨B,0,none⟩) 1 1 else L.ids s) (l:=m.ring++[(t,[id])]) (w':=w2.setCell ⟨M,8,none⟩ v)
  (fun b hb=>by
   by_cases e:b=B
   ·subst e;exact ⟨by have:=h.size;omega,by simp;omega⟩
   ·rw [zc e] at hb
    by_cases e:b=g
    ·subst e
     refine ⟨?_,by simpa using hglt⟩
     rcases hgE2 with h2 | h2
     ·exact (h.dom b (by rw [h2];decide)).1
     ·have:=h.size;omega
    ·rw [zc e] at hb
     exact ⟨(h.dom b hb).1,by have:=(h.dom b hb).2;simp;omega⟩)
  (fun b=>by
   by_cases e:b=B
   ·subst e;exact .inr (.inr (.inr hB))
   ·rw [zc e]
    by_cases e:b=g
    ·subst e
     right
     rcases hgE2 with h2 | h2
     ·exact .inl (by rw [h2];rfl)
     ·exact .inr (.inr h2)
    ·exact .inl (zc e))
  (zM w2 hM) ?_ ?_ ?_ ((Fr.trans (S':=E) (Fr.mono hf1 (fun _ f=>f.elim)) (hf2) (fun x hx=>.inl (.inr hx))).setCell _ _ (.inl (.inl rfl))) (fun b hb=>?_)
 ·obtain ⟨k1,k2⟩:=key
  exact ⟨_,_,k1,k2,rfl,rfl⟩
 ·rw [←zIY ht,List.length_append,List.length_singleton]
  exact hs1.of_blk (fun b hb _=>zJ w2 (by have hb:b=g:=hb;rw [hb];exact hgM)) (fun b hb _=>by
   have hb:b=g:=hb
   rw [hb,zc (Ne.symm hBg),yo])
 ·intro s y hsy
  rcases List.mem_append.1 hsy with hsy | hsy
  ·have hst:s≠t:=ht _ hsy
   show SlAt _ _ _ _ (if s=t then _ else L.ids s) _ _
   rw [if_neg hst]
   have h2:=h1.ids s y hsy
   exact h2.of_blk (fun b hb hl=>(zJ w2 (by
    have hb:ρ b=_:=hb
    rintro rfl;rw [h.mod.1] at hb;exact absurd (congrArg Role.tag hb) (by simp [rMod,zR]))).trans (hf2.block b hl (fun he=>by
     have hb:ρ b=_:=hb
     rcases hE b he with e | e
     ·rw [hb] at e;exact absurd (congrArg Role.tag e) (by simp [zR,ze])
     ·omega))) (fun b hb _=>hother (zR s) b hb (by simp [zR]))
  ·rw [List.mem_singleton] at hsy
   cases hsy
   show SlAt _ _ _ _ (if t=t then _ else L.ids t) _ _
   rw [if_pos rfl]
   refine .inr ⟨B,0,1,#[vi id],rfl,yo _ _ _,(zJ w2 hBM).trans hB2,Nat.le_refl _,by simp [maxLen],by simp,rfl,fun j u hj=>?_⟩
   rw [Nat.zero_add]
   have:([id].map encI)[j]?=(#[vi id]:Array Value)[j]?:=by cases j<;>rfl
   rw [←this];exact hj
 ·rw [List.map_append,List.nodup_append]
  refine ⟨h.rnd,by simp,fun a ha b hb e=>?_⟩
  obtain ⟨p,hp,rfl⟩:=List.mem_map.1 ha
  simp at hb
  exact ht p hp (e.trans hb)
 ·rcases hb with rfl | hb
  ·exact .inl rfl
  ·rcases hE b hb with e | e
   ·exact .inr (.inl (by rw [e];rfl))
   ·exact .inr (.inr (.inr (by omega)))
end
section
variable {w w' w1 w2 w3:World} {ρ:Nat→Role} {G M:Nat} {L:MLay} {m:RefM}
theorem zUb {m:RefM} {t:ByteArray} {k:Nat} {x:List Int} (hn:(m.ring.map Prod.fst).Nodup) (hk:m.ring[k]?=some (t,x)) (id:Int) (first:Bool):zBD m t id first={m with ring:=m.ring.set k (t,if first then id::x else x++[id])}:=by
 have ht:mTen m t=true:=zHy.2 (List.mem_map.2 ⟨_,List.mem_of_getElem? hk,rfl⟩)
 unfold zBD
 rw [if_pos ht]
 have:=zDX (key:=Prod.fst) (fun p=>(p.1,if first then id::p.2 else p.2++[id])) m.ring k (t,x) hn hk
 rw [←this]
theorem zUc {m:RefM} {t:ByteArray} (h:∀p∈m.ring,p.1≠t) (id:Int) (first:Bool):zBD m t id first={m with ring:=m.ring++[(t,[id])]}:=by
 have ht:¬mTen m t=true:=fun h1=>by
  obtain ⟨p,hp,e⟩:=List.mem_map.1 (zHy.1 h1)
  exact h p hp e
 unfold zBD
 rw [if_neg ht]
theorem MStA.of_fr {m':RefM} (h:MStA w1 ρ G M L m' w') (hf:Fr (fun _=>False) w w1):MStA w ρ G M L m' w':=by
 obtain ⟨ρ',L',h1,h2,h3⟩:=h
 exact ⟨ρ',L',h1,⟨Fr.trans (Fr.mono hf (fun _ f=>f.elim)) h2.fr (fun x hx=>.inl hx),fun b hb=>(h2.own b hb).imp (fun h=>h) (fun h=>Nat.le_trans hf.size h)⟩,h3⟩
theorem zMk (h:MRep w ρ G M L m) {rb roff n cap k:Nat} {t:ByteArray} {x:List Int} (hv:L.ring=.slice (some ⟨rb,roff,none⟩) n cap) (hk:m.ring[k]?=some (t,x)) :
 w.cell? ⟨M,8,none⟩=some (.slice (some ⟨rb,roff,none⟩) n cap)∧w.cell? ⟨rb,roff+k*2,none⟩=some (vs t)∧w.cell? ⟨rb,roff+k*2+1,none⟩=some (L.ids t)∧SlAt w 3 1 (fun b=>ρ b=zR t) (L.ids t) x.length (x.map encI):=by
 have c:=h.cell (k:=8) (v:=L.ring) rfl
 rw [hv] at c
 obtain ⟨b,off,hae,c0,c1⟩:=zDb (zUY h hv) hk
 injection hae with e
 injection e with e1 e2
 subst e1;subst e2
 exact ⟨c,c0,c1,h.ids t x (List.mem_of_getElem? hk)⟩
theorem zDo (h:MRep w ρ G M L m) {k:Nat} {q:MReq} (hkn:(m.reqs.map MReq.id).Nodup) (hk:m.reqs[k]?=some q) (hn:m.reqs.length≤1000000000000):Calls Tryz.prog 122 #[vp M,vi q.id] w fun e w'=>e=.returned (vi k)∧Below w.heap.size w w':=by
 refine (zCO h q.id hn).mono ?_
 rintro e w' ⟨v,rfl,hf,hb⟩
 refine ⟨?_,hb⟩
 rcases hf with ⟨j,a,rfl,hj,ha,_⟩ | ⟨_,hno⟩
 ·have h1:(m.reqs.map MReq.id)[k]?=some q.id:=by rw [List.getElem?_map,hk];rfl
  have h2:(m.reqs.map MReq.id)[j]?=some q.id:=by rw [List.getElem?_map,hj];exact congrArg some ha
  rw [(List.getElem?_inj (List.getElem?_eq_some_iff.1 h2).1 hkn).1 (h2.trans h1.symm)]
 ·exact absurd rfl (hno q (List.mem_of_getElem? hk))
theorem zMl (h:MRep w1 ρ G M L m) {rb roff n cap k:Nat} {t:ByteArray} {x l':List Int} (hv:L.ring=.slice (some ⟨rb,roff,none⟩) n cap) (hk:m.ring[k]?=some (t,x)) {E:Nat→Prop} {o:Obj}
 (he:∀b,E b→(ρ b=zR t∨b=w1.heap.size)∨b=(w1.alloc o).drew.heap.size) (hf:Fr E (w1.alloc o).drew w3) {v:Value} {c:Nat} (hc:c=l'.length) (hpos:0 < c) (hs:SlAt w3 3 1 E v c (l'.map encI)) :
 w3.cell? ⟨M,8,none⟩=some (.slice (some ⟨rb,roff,none⟩) n cap)∧w3.cell? ⟨rb,roff+k*2+1,none⟩=some (L.ids t)∧w3.frozen? ⟨rb,roff+k*2+1,none⟩=false ∧
 MStA w1 ρ G M L {m with ring:=m.ring.set k (t,l')} (w3.setCell ⟨rb,roff+k*2+1,none⟩ v):=by
 have hE:∀b,E b→ρ b=zR t∨w1.heap.size≤b:=fun b hb=>by
  rcases he b hb with (e | e) | e
  ·exact .inl e
  ·exact .inr (by omega)
  ·have:(w1.alloc o).drew.heap.size=w1.heap.size+1:=World.size_alloc _ _
   exact .inr (by omega)
 obtain ⟨k1,k2,k3,k4⟩:=zUZ h hv hk hc hpos hE hs (Fr.trans (S:=E) (S':=E) (((Fr.refl _ w1).alloc o).drew) hf (fun x hx=>.inl hx)) hE
 have c:w3.cell? ⟨M,8,none⟩=some L.ring:=zB k1 rfl
 rw [hv] at c
 exact ⟨c,k2,k3,k4⟩
theorem zIZ (w:World) (id:Int):SlAt (w.alloc (.cells #[vi id] 3)).drew 3 1 (fun b=>b=w.heap.size) (.slice (some ⟨w.heap.size,0,none⟩) 1 1) 1 [vi id]:=
 (SlAt.mk_new (T:=3) (sz:=1) (n:=1) w [vi id] rfl (by simp [maxLen]) (own:=fun b=>b=w.heap.size) rfl).of_blk (fun _ _ _=>rfl) (fun _ h _=>h)
theorem zIa {s t:ByteArray} (h:s≠t):(s.toList==t.toList)=false:=beq_eq_false_iff_ne.2 (fun e=>h (by
 rw [ByteArray.toList_eq,ByteArray.toList_eq] at e
 exact ByteArray.ext (Array.toList_inj.1 e)))
theorem yh {a:Addr} {v:Value} (hb:Below w.drew.heap.size w.drew w1) (h:w.cell? a=some v):w1.cell? a=some v:=(hb.cell (show a.block < w.drew.heap.size from zW h)).trans h
theorem zAh (hb:Below w.drew.heap.size w.drew w1):Below w.heap.size w w1:=⟨hb.os,hb.tape,hb.output,hb.size,hb.block⟩
theorem zGZ (h:MRep w ρ G M L m) (first:Bool) {kq:Nat} {q:MReq} (hkn:(m.reqs.map MReq.id).Nodup) (hkq:m.reqs[kq]?=some q) (hn:m.reqs.length≤1000000000000) (hrn:m.ring.length≤1000000000000) (hin:∀p∈m.ring,p.2.length≤1000000000000) :
 Calls Tryz.prog 125 #[vp M,vi q.id,.bool first] w fun e w'=>e=.returned (.tuple #[])∧MStA w ρ G M L (zBD m q.tenant q.id first) w':=by
 obtain ⟨qa,qc,hvq,hrq⟩:=h.reqsIn
 have c6:w.cell? ⟨M,6,none⟩=some L.reqs:=h.cell (k:=6) rfl
 rw [hvq] at c6
 obtain ⟨qb,qoff,rfl,e0,e1,e2,e3,e4,e5,e6⟩:=zAX hrq hkq
 have hkl:=(List.getElem?_eq_some_iff.1 hkq).1
 have hk0:(0:Int)≤(kq:Int):=by omega
 have hk1:(kq:Int) < (m.reqs.length:Int):=by omega
 have HH:=zh h
 have HRQ:=zh (zDo h.drew hkn hkq hn)
 obtain ⟨t,ht⟩:∃t,q.tenant=t:=⟨_,rfl⟩
 obtain ⟨id,hid⟩:∃id,q.id=id:=⟨_,rfl⟩
 have HT:=zh ht
 rw [ht] at e2 ⊢
 rw [hid] at HRQ e0 ⊢
 have HRN:=zh hrn
 have HIN:=zh hin
 clear h hvq hrq hkq hkl hkn ht hid hn hrn hin
 go_enter Tryz.func125,Tryz.ntmps125
 go_wp2_with fail
 apply zBn (S:=fun W=>Below w.heap.size w W)
 ·intro R hR
  go_region_law (first
   | (go_simp;go_at_call 122;refine HRQ.out.mono ?_;rintro e w1 ⟨rfl,hb⟩;have e2b:=yh hb e2;have c6b:=yh hb c6;have HB:=zh (zAh hb);clear hb))
  all_goals exact hR.out _ HB.out
 intro w1 hb1
 have h1:=HH.out.grow hb1
 have HF1:Hid (Fr (fun _=>False) w w1):=Fr.of_below hb1
 obtain ⟨ra,rc,hvr,hrr⟩:=h1.ringIn
 have c8:w1.cell? ⟨M,8,none⟩=some L.ring:=h1.cell (k:=8) rfl
 obtain ⟨n,hnn⟩:∃n,m.ring.length=n:=⟨_,rfl⟩
 rw [hnn] at hvr HRN
 have HVR:=zh hvr
 rw [hvr] at c8
 have HN:=zh hnn
 have H1:=zh h1
 have hnm:n≤1000000000000:=HRN.out
 clear hrr hnn hvr h1 hb1 c6 e0 e1 e2 e3 e4 e5 e6 hk0 hk1 HRQ HH
 go_wp2_with fail
 go_loop [23] (fun s23=>∃k:Nat,s23=.int .i64 k∧k≤n∧Hid (∀(j:Nat) p,j < k→m.ring[j]?=some p→p.1≠t)) (fun s23=>n - (intOf s23).toNat)
 case atStart=>exact ⟨0,by go_num,Nat.zero_le _,fun j p hj=>by omega⟩
 case round =>
  obtain ⟨k,rfl,hk,HNO⟩:=hrel
  by_cases hkl:k < n
  ·have hlt:decide ((k:Int) < (n:Int))=true:=decide_eq_true (by omega)
   obtain ⟨⟨s,x⟩,hkx⟩:∃p,m.ring[k]?=some p:=⟨_,List.getElem?_eq_getElem (by rw [HN.out];exact hkl)⟩
   obtain ⟨rb,roff,rcap,hvv,_,_,_,_,_,_⟩:=H1.out.ring.form (by rw [HN.out];omega)
   obtain ⟨rfl,rfl⟩:ra=some ⟨rb,roff,none⟩∧rc=rcap:=by rw [HVR.out] at hvv;injection hvv with e1 e2 e3;exact ⟨e1,e3⟩
   obtain ⟨_,r0,r1,hids⟩:=zMk H1.out HVR.out hkx
   have hk0:(0:Int)≤(k:Int):=by omega
   have hk1:(k:Int) < (n:Int):=by omega
   have HKX:=zh hkx
   by_cases hst:s=t
   ·subst hst
    have hq:(s.toList==s.toList)=true:=by simp
    have HW:∀fs,Hid (zBD m s id fs={m with ring:=m.ring.set k (s,if fs then id::x else x++[id])}):=fun fs=>zUb H1.out.rnd HKX.out id fs
    have HXL:Hid (x.length≤1000000000000):=HIN.out _ (List.mem_of_getElem? hkx)
    obtain ⟨ia,ic,hiv,_,_⟩:=hids.form'
    rw [hiv] at r1 hids
    have HIV:=zh hiv
    have HSI:Hid (SlAt (w1.alloc (.cells #[vi id] 3)).drew 3 1 (fun b=>ρ b=zR s) (.slice ia x.length ic) x.length (x.map encI)):=hids.of_blk (fun b _ hl=>zP w1 hl) (fun _ h _=>h)
    have HNW:=zh (zIZ w1 id)
    have c8b:(w1.alloc (.cells #[vi id] 3)).cell? ⟨M,8,none⟩=some (.slice (some ⟨rb,roff,none⟩) n rc):=by rw [←c8];exact World.cell?_alloc_lt _ _ _ (zW c8)
    have r1b:(w1.alloc (.cells #[vi id] 3)).cell? ⟨rb,roff+k*2+1,none⟩=some (.slice ia x.length ic):=by rw [←r1];exact World.cell?_alloc_lt _ _ _ (zW r1)
    clear hkx hiv hids
    cases first with
    | false =>
      go_wp2_with fail
      go_region_law (first
       | (refine zHz (by rfl) _ _ _ (by rfl) zBC (by rfl) HSI.out (by rfl) HNW.out (by simp [Value.oneCell']) (by have:=HXL.out;unfold maxLen;omega) (by have:=HXL.out;omega) ?_;intro va2 vc2 w3 E he hf hl hs;obtain ⟨c8c,r1c,f1c,hst⟩:=zMl H1.out HVR.out HKX.out (c:=x.length+1) (l':=x++[id]) (fun b hb=>(he b hb).imp .inl (fun e=>e)) hf (by simp) (by omega) (by rw [List.map_append];exact hs);have HST:=zh hst;clear he hf hl hs hst))
      all_goals
       go_wp2_with fail
       refine bodyPost_ret (results_none rfl _ _ _) rfl ?_
       refine ⟨rfl,?_⟩
       rw [(HW false).out]
       exact HST.out.of_fr HF1.out
    | true =>
      go_wp2_with fail
      go_region_law (first
       | (refine zHz (by rfl) _ _ _ (by rfl) zBC (by rfl) HNW.out (by rfl) HSI.out zSM (by have:=HXL.out;unfold maxLen;omega) (by have:=HXL.out;omega) ?_;intro va2 vc2 w3 E he hf hl hs;obtain ⟨c8c,r1c,f1c,hst⟩:=zMl H1.out HVR.out HKX.out (c:=1+x.length) (l':=id::x) (fun b hb=>(he b hb).imp .inr (fun e=>e)) hf (by simp [Nat.add_comm]) (by omega) (by rw [List.map_cons];exact hs);have HST:=zh hst;clear he hf hl hs hst))
      all_goals
       go_wp2_with fail
       refine bodyPost_ret (results_none rfl _ _ _) rfl ?_
       refine ⟨rfl,?_⟩
       rw [(HW true).out]
       exact HST.out.of_fr HF1.out
   ·have hq:(s.toList==t.toList)=false:=zIa hst
    have HNN:Hid (∀(j:Nat) p,j < k+1→m.ring[j]?=some p→p.1≠t):=zCG HNO.out HKX.out hst
    clear hkx hids hst
    go_wp2_with fail
    go_round
    case rel=>exact ⟨k+1,by go_num,by omega,HNN.out⟩
    case measure=>simp [intOf];omega
  ·obtain rfl:k=n:=by omega
   have hlt:decide ((k:Int) < (k:Int))=false:=by simp
   have hno:∀p∈m.ring,p.1≠t:=fun p hp=>by
    obtain ⟨j,hj,rfl⟩:=List.getElem_of_mem hp
    exact HNO.out j _ (by rw [←HN.out];exact hj) (List.getElem?_eq_getElem hj)
   have HF:=zh hno
   have HSR:Hid (SlAt ((w1.alloc (.cells #[vi id] 3)).alloc (.cells #[vs t,.slice (some ⟨w1.heap.size,0,none⟩) 1 1] 191)) 191 2 (fun b=>ρ b=ze) (.slice ra k rc) k (yg L.ids m.ring)):=by
    have:=((H1.out.alloc (.cells #[vi id] 3)).alloc (.cells #[vs t,.slice (some ⟨w1.heap.size,0,none⟩) 1 1] 191)).ring
    rw [HVR.out,HN.out] at this
    exact this
   have HNL:Hid (SlAt ((w1.alloc (.cells #[vi id] 3)).alloc (.cells #[vs t,.slice (some ⟨w1.heap.size,0,none⟩) 1 1] 191)) 191 2 (fun b=>b=w1.heap.size+1) (.slice (some ⟨w1.heap.size+1,0,none⟩) 1 1) 1 [vs t,.slice (some ⟨w1.heap.size,0,none⟩) 1 1]):=by
    have:=SlAt.mk_new (T:=191) (sz:=2) (n:=1) (w1.alloc (.cells #[vi id] 3)) [vs t,.slice (some ⟨w1.heap.size,0,none⟩) 1 1] rfl (by simp [maxLen]) (own:=fun b=>b=w1.heap.size+1) (World.size_alloc _ _)
    rw [World.size_alloc] at this
    exact this
   have HFA:Hid (Fr (fun _=>False) w1 ((w1.alloc (.cells #[vi id] 3)).alloc (.cells #[vs t,.slice (some ⟨w1.heap.size,0,none⟩) 1 1] 191))):=((Fr.refl _ w1).alloc _).alloc _
   have HBK:Hid (((w1.alloc (.cells #[vi id] 3)).alloc (.cells #[vs t,.slice (some ⟨w1.heap.size,0,none⟩) 1 1] 191)).heap[w1.heap.size]?=some (.cells #[vi id] 3 (0,0))):=(zP _ (by simp)).trans (zL w1)
   have HW:Hid (zBD m t id first={m with ring:=m.ring++[(t,[id])]}):=zUc HF.out id first
   clear HNO hno
   go_wp2_with (at_builtin;refine zAK rfl _ _ _ rfl zDd rfl HSR.out rfl HNL.out (by simp [Value.oneCell']) (by have:=HRN.out;unfold maxLen;omega) (by have:=HRN.out;omega) ?_;intro va2 vc2 w3 E he hf hl hs;obtain ⟨k1,k2⟩:=zUa H1.out (n:=k+1) (by rw [HN.out]) HF.out HFA.out (Nat.le_refl _) HBK.out he hf hs;have c3:w3.cell? ⟨M,8,none⟩=some L.ring:=zB k1 rfl;have f3:w3.frozen? ⟨M,8,none⟩=false:=zI k1;have HP:=zh k2;rw [HVR.out] at c3;clear he hf hl hs k1 k2)
   go_end0
   refine ⟨rfl,?_⟩
   rw [HW.out]
   exact HP.out.of_fr HF1.out
end
end Go.Proofs.YtaejfobbogahmaaGreatDoor
