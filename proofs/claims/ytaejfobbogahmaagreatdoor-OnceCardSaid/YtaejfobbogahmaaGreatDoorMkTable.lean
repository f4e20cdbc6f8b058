/-
  Table All Of: texts of their own, joined.
-/
import Derived.Test.YtaejfobbogahmaaGreatDoorMkLease1
set_option maxRecDepth 100000
set_option maxHeartbeats 16000000
set_option linter.all false
namespace Go.Proofs.YtaejfobbogahmaaGreatDoor
open Go Go.RowKit
abbrev tI (D:Nat):Value:=.pointer (some ⟨D,12,none⟩)
theorem Keep.trans {T:Role→Prop} {ρ ρ' ρ'':Nat→Role} {a b c:World} (h:Keep T ρ ρ' a b) (k:Keep T ρ' ρ'' b c) (hs:a.heap.size≤b.heap.size):Keep T ρ ρ'' a c:=fun x hx ht=>by
 obtain ⟨h1,h2⟩:=h x hx ht
 obtain ⟨k1,k2⟩:=k x (Nat.lt_of_lt_of_le hx hs) (by rw [h2];exact ht)
 exact ⟨k1.trans h1,k2.trans h2⟩
def zFv (w:World) (ρ:Nat→Role) (G D:Nat) (L:Lay) (r:Raw) (A:Nat) (w':World):Prop:=
 ∃ρ' L',RRep w' ρ' G D L' r∧Fr (fun b=>b=A∨Of ρ b) w w'∧(∀b,Of ρ' b→Of ρ b∨b=A∨w.heap.size≤b)∧L'.req=L.req∧L'.cn=L.cn
theorem zJf {w w1:World} {ρ:Nat→Role} {G D:Nat} {L:Lay} {r:Raw} (h:RRep w ρ G D L r) {A x:Nat} {a:Att} (_hA:w.heap[A]?=some (.cells (yV a x) 109 (0,0))) (hAr:(ρ A).tag=0) (hAG:G≤A)
 (hsq:∀b∈r.atts,b.seq≤r.seq) {hp:List Att} (hperm:hp.Perm r.atts) (hheap:xo hp)
 (hP:zCk ((w.setCell ⟨D,13,none⟩ (vi (r.seq+1))).setCell ⟨A,5,none⟩ (vi (r.seq+1))) ρ D A ((yR L r.cfg r.now r.seq).setIfInBounds 13 (vi (r.seq+1))) 81 L.att hp {a with seq:=r.seq+1} (fun l=>upF l.length l hp.length) w1) :
 zFv w ρ G D L {r with seq:=r.seq+1,atts:=r.atts++[{a with seq:=r.seq+1}]} A w1:=by
 obtain ⟨g,v',ρ',att',hH,hD,hF,hg,hgl,rfl,rfl⟩:=hP
 have hDr:=h.disp.1
 have hAl:=zD w _hA
 have hDl:=h.size
 have hgA:g≠A:=by rintro rfl;rcases hg with h1 | h1;· rw [h1] at hAr;simp [ze] at hAr
                  ·simp only [World.size_setCell] at h1;omega
 have hgD:g≠D:=by rintro rfl;rcases hg with h1 | h1;· rw [hDr] at h1;simp [ze,zC] at h1
                  ·simp only [World.size_setCell] at h1;omega
 have hDA:D≠A:=fun e=>by rw [←e,hDr] at hAr;simp [zC] at hAr
 have hgs:ρ g=ze∨w.heap.size≤g:=by simpa using hg
 have hgof:Of ρ g∨w.heap.size≤g:=hgs.imp (fun e=>by unfold Of;rw [e];simp [ze]) id
 have hDof:Of ρ D:=by unfold Of;rw [hDr];simp [zC]
 have hF0:Fr (fun b=>b=A∨b=D∨b=g∨HpB ρ b) w w1:=
  (((Fr.refl _ w).setCell ⟨D,13,none⟩ _ (.inl (.inr (.inl rfl)))).setCell ⟨A,5,none⟩ _ (.inl (.inl rfl))).trans hF (fun y hy=>.inl hy)
 have hHof:∀b,HpB ρ b→Of ρ b:=fun b hb=>by unfold HpB at hb;unfold Of;omega
 have hFo:Fr (fun b=>b=A∨Of ρ b) w w1:=hF0.mono (fun b hb=>by
  rcases hb with e | e | e | e
  ·exact .inl (.inl e)
  ·subst e;exact .inl (.inr hDof)
  ·subst e;rcases hgof with h1 | h1
   ·exact .inl (.inr h1)
   ·exact .inr h1
  ·exact .inl (.inr (hHof _ e)))
 have k:∀T:Role→Prop,¬T zC→(∀s,¬T (zn s))→¬T ze→(∀y,T y→y.tag≠0∧y.tag≠8∧y.tag≠11)→Keep T ρ (zf (zf ρ A (zn (r.seq+1))) g ze) w w1:=by
  intro T h1 h2 h3 h4 b hb ht
  have hbg:b≠g:=by
   rintro rfl
   rcases hgs with h5 | h5
   ·rw [h5] at ht;exact h3 ht
   ·omega
  have hbA:b≠A:=by rintro rfl;exact (h4 _ ht).1 hAr
  refine ⟨hF0.block b hb ?_,by rw [zo hbg,zo hbA]⟩
  rintro (e | e | e | e)
  ·exact hbA e
  ·subst e;rw [hDr] at ht;exact h1 ht
  ·exact hbg e
  ·have:=h4 _ ht;unfold HpB at e;omega
 refine ⟨_,{L with heap:=v',att:=fun s=>if s=r.seq+1 then A else L.att s},⟨?_,⟨?_,hD⟩,h.opn.keep (k _ (by simp [zC]) (by simp [zn]) (by simp [ze]) (by omega)),h.cns.keep (k _ (by simp [zC]) (by simp [zn]) (by simp [ze]) (by omega)),
  h.qus.keep (k _ (by simp [zC]) (by simp [zn]) (by simp [ze]) (by omega)),h.run.keep (k _ (by simp [zC]) (by simp [zn]) (by simp [ze]) (by omega)),h.rng.keep (k _ (by simp [zC]) (by simp [zn]) (by simp [ze]) (by omega)),
  h.wai.keep (k _ (by simp [zC]) (by simp [zn]) (by simp [ze]) (by omega)),⟨?_,_,?_,(zFq hheap).1,hH⟩,h.out.keep (k _ (by simp [zC]) (by simp [zn]) (by simp [ze]) (by omega))⟩,hFo,?_,rfl,rfl⟩
 ·intro b hb
  by_cases e1:b=g
  ·subst e1
   refine ⟨?_,hgl⟩
   rcases hgof with h1 | h1
   ·exact (h.dom b h1).1
   ·omega
  ·rw [zo e1] at hb
   by_cases e2:b=A
   ·subst e2;exact ⟨hAG,Nat.lt_of_lt_of_le hAl hF0.size⟩
   ·rw [zo e2] at hb
    exact ⟨(h.dom b hb).1,Nat.lt_of_lt_of_le (h.dom b hb).2 hF0.size⟩
 ·rw [zo hgD.symm,zo hDA];exact hDr
 ·rw [List.pairwise_append]
  refine ⟨h.lea.1,by simp,fun y hy z hz=>?_⟩
  simp only [List.mem_singleton] at hz
  subst hz
  have:=hsq y hy
  show y.seq < r.seq+1
  omega
 ·exact (zFq (a:={a with seq:=r.seq+1}) hheap).2.trans (hperm.append (List.Perm.refl _))
 ·intro b hb
  unfold Of at hb
  by_cases e1:b=g
  ·subst e1
   rcases hgof with h1 | h1
   ·exact .inl h1
   ·exact .inr (.inr h1)
  ·rw [zo e1] at hb
   by_cases e2:b=A
   ·exact .inr (.inl e2)
   ·rw [zo e2] at hb
    exact .inl hb
theorem zJg {w:World} {ρ:Nat→Role} {G D:Nat} {L:Lay} {r:Raw} (h:RRep w ρ G D L r) {A x:Nat} {a:Att} (hA:w.heap[A]?=some (.cells (yV a x) 109 (0,0))) (hAr:(ρ A).tag=0) (hAG:G≤A)
 (hsq:∀b∈r.atts,b.seq≤r.seq) (hs0:0≤r.seq) (hs1:r.seq≤1099511627776) (hsm:r.atts.length≤1099511627776) :
 Calls Tryz.prog 77 #[tI D,vp A] w fun e w'=>e=.returned (.tuple #[])∧zFv w ρ G D L {r with seq:=r.seq+1,atts:=r.atts++[{a with seq:=r.seq+1}]} A w':=by
 obtain ⟨hpw,hp,hperm,hheap,hH⟩:=h.lea
 have hDr:=h.disp.1
 have c13:=h.disp.c13
 have f13:=h.disp.frozen 13
 have c5:w.cell? ⟨A,5,none⟩=some (vi a.seq):=zB hA rfl
 have f5:=zK (off:=5) hA
 have hAD:A≠D:=fun e=>by rw [e,hDr] at hAr;simp [zC] at hAr
 have hDA:=hAD.symm
 have hlen:=hperm.length_eq
 have hnew:r.seq+1∉hp.map (·.seq):=fun hx=>by
  obtain ⟨b,hb,e⟩:=List.mem_map.1 hx
  have:=hsq b (hperm.mem_iff.1 hb)
  omega
 have HC:=zh (zJZ (w:=(w.setCell ⟨D,13,none⟩ (vi (r.seq+1))).setCell ⟨A,5,none⟩ (vi (r.seq+1))) (ρ:=ρ) (D:=D) (A:=A) (cs:=(yR L r.cfg r.now r.seq).setIfInBounds 13 (vi (r.seq+1))) (TD:=81) (att:=L.att) (hp:=hp) (a:={a with seq:=r.seq+1}) (x:=x) (v:=L.heap)
  (by rw [zG _ hDA];exact zO _ h.disp.2) rfl hDr
  (by exact zO _ ((zG _ hAD).trans hA)) hAr
  (hH.keep (Keep.of_fr (S:=fun b=>b=D∨b=A) ((((Fr.refl _ w).setCell _ _ (.inl (.inl rfl)))).setCell _ _ (.inl (.inr rfl))) (fun b _ hb ht=>by
   rcases hb with e | e
   ·subst e;rw [hDr] at ht;simp [zC] at ht
   ·subst e;omega))) hnew (by omega))
 have HR:=zh (fun w1=>zJf (w1:=w1) h hA hAr hAG hsq hperm hheap)
 have hs2:r.seq≤9223372036854775806:=by omega
 clear h hA hsq hpw hperm hheap hH hnew hlen hsm
 go_enter Tryz.func77,Tryz.ntmps77
 go_wp2_with fail
 refine HC.out.mono ?_
 rintro e w1 ⟨rfl,hP⟩
 have HP:=zh (HR.out w1 hP)
 clear hP
 go_wp2_with fail
 go_end0
 exact ⟨rfl,HP.out⟩
def zFw (w:World) (ρ:Nat→Role) (G D:Nat) (L:Lay) (r:Raw) (a:Att) (w':World):Prop:=
 ∃ρ' L' k,RRep w' ρ' G D L' r∧Step ρ ρ' w w'∧L'.req=L.req∧L'.cn=L.cn∧L'.att=L.att∧¬Of ρ' (L.att a.seq)∧w'.heap[L.att a.seq]?=some (.cells (yV a k) 109 (0,0))
theorem zJh {w w1:World} {ρ:Nat→Role} {G D:Nat} {L:Lay} {r:Raw} (h:RRep w ρ G D L r) {a:Att} (ha:a∈r.atts) {hp:List Att} (hperm:hp.Perm r.atts) (hheap:xo hp) {i:Nat} (hi:i < hp.length) (hai:hg hp i=a)
 (hP:zAY w ρ D (yR L r.cfg r.now r.seq) 81 L.att hp (remF hp i) w1) :
 zFw w ρ G D L {r with atts:=r.atts.filter fun b=>!decide (b.seq=a.seq)} a w1:=by
 obtain ⟨v',hH,hD,hF,hfull⟩:=hP
 obtain ⟨hpw,hp0,hperm0,_,hH0⟩:=h.lea
 have hDr:=h.disp.1
 have hDof:Of ρ D:=by unfold Of;rw [hDr];simp [zC]
 have hHof:∀b,HpB ρ b→Of ρ b:=fun b hb=>by unfold HpB at hb;unfold Of;omega
 obtain ⟨kk,hkk⟩:=hfull a (hperm.mem_iff.2 ha)
 have hAr:ρ (L.att a.seq)=zn a.seq:=by
  obtain ⟨j,hj⟩:=List.getElem?_of_mem (hperm0.mem_iff.2 ha)
  exact (hH0.2.2 j a hj).1
 have hF0:Fr (Of ρ) w w1:=hF.mono (fun b hb=>.inl (by
  rcases hb with e | e
  ·subst e;exact hDof
  ·exact hHof _ e))
 have hnd:(hp.map (·.seq)).Nodup:=((hperm.map _).nodup_iff).2 (zDp hpw)
 obtain ⟨hs1,hs2⟩:=zJK hi hheap hnd
 rw [hai] at hs2
 have k:∀T:Role→Prop,¬T zC→(∀y,T y→y.tag≠0∧y.tag≠8∧y.tag≠11)→Keep T ρ (zf ρ (L.att a.seq) Role.none) w w1:=by
  intro T h1 h4 b hb ht
  have hbA:b≠L.att a.seq:=by rintro rfl;rw [hAr] at ht;exact (h4 _ ht).2.1 rfl
  refine ⟨hF.block b hb ?_,zo hbA⟩
  rintro (e | e)
  ·subst e;rw [hDr] at ht;exact h1 ht
  ·have:=h4 _ ht;unfold HpB at e;omega
 have hDA:D≠L.att a.seq:=fun e=>by rw [←e,hDr] at hAr;simp [zC,zn] at hAr
 refine ⟨zf ρ (L.att a.seq) Role.none,{L with heap:=v'},kk,⟨?_,⟨by rw [zo hDA];exact hDr,hD⟩,h.opn.keep (k _ (by simp [zC]) (by omega)),h.cns.keep (k _ (by simp [zC]) (by omega)),
  h.qus.keep (k _ (by simp [zC]) (by omega)),h.run.keep (k _ (by simp [zC]) (by omega)),h.rng.keep (k _ (by simp [zC]) (by omega)),h.wai.keep (k _ (by simp [zC]) (by omega)),
  ⟨?_,remF hp i,?_,hs1,?_⟩,h.out.keep (k _ (by simp [zC]) (by omega))⟩,⟨hF0,?_⟩,rfl,rfl,rfl,?_,hkk⟩
 ·intro b hb
  by_cases e:b=L.att a.seq
  ·subst e;rw [ym] at hb;exact absurd rfl hb
  ·rw [zo e] at hb
   exact ⟨(h.dom b hb).1,Nat.lt_of_lt_of_le (h.dom b hb).2 hF.size⟩
 ·exact hpw.sublist List.filter_sublist
 ·exact hs2.trans (hperm.filter _)
 ·obtain ⟨g1,g2,g3⟩:=hH
  have hne:∀(j:Nat) (b:Att),(remF hp i)[j]?=some b→b.seq≠a.seq:=fun j b hb=>by
   have:=hs2.mem_iff.1 (List.mem_of_getElem? hb)
   have:=(List.mem_filter.1 this).2
   simpa using this
  refine ⟨g1.of_blk (fun b _ _=>rfl) (fun b hb _=>?_),g2,fun j b hb=>?_⟩
  ·have:b≠L.att a.seq:=fun e=>by rw [e,hAr] at hb;simp [zn,ze] at hb
   rw [zo this];exact hb
  ·obtain ⟨g5,g6⟩:=g3 j b hb
   have:L.att b.seq≠L.att a.seq:=fun e=>by
    rw [e,hAr] at g5
    simp only [zn,Role.mk.injEq,true_and,and_true] at g5
    exact hne j b hb g5.symm
   exact ⟨by rw [zo this];exact g5,g6⟩
 ·intro b hb
  unfold Of at hb ⊢
  by_cases e:b=L.att a.seq
  ·subst e;rw [ym] at hb;exact absurd rfl hb
  ·rw [zo e] at hb;exact .inl hb
 ·unfold Of;rw [ym];exact fun hx=>hx rfl
theorem zJi {w:World} {ρ:Nat→Role} {G D:Nat} {L:Lay} {r:Raw} (h:RRep w ρ G D L r) {a:Att} (ha:a∈r.atts) (hsm:r.atts.length≤1099511627776) :
 Calls Tryz.prog 91 #[tI D,vp (L.att a.seq)] w fun e w'=>e=.returned (.tuple #[])∧zFw w ρ G D L {r with atts:=r.atts.filter fun b=>!decide (b.seq=a.seq)} a w':=by
 obtain ⟨hpw,hp,hperm,hheap,hH⟩:=h.lea
 obtain ⟨i,hi⟩:=List.getElem?_of_mem (hperm.mem_iff.2 ha)
 have hil:i < hp.length:=(List.getElem?_eq_some_iff.1 hi).1
 have hai:=zAJ hi
 have hlen:=hperm.length_eq
 have c6:w.cell? ⟨L.att a.seq,6,none⟩=some (vi i):=zB (hH.2.2 i a hi).2 rfl
 have HC:=zh (zJe (w:=w.drew) (ρ:=ρ) (cs:=yR L r.cfg r.now r.seq) (TD:=81) (att:=L.att) (hp:=hp) (v:=L.heap) h.disp.2 rfl h.disp.1 hH hil (by omega))
 have HR:=zh (fun w1=>zJh (w1:=w1) h.drew ha hperm hheap hil hai)
 clear h ha hpw hperm hheap hH hi hlen hai
 go_enter Tryz.func91,Tryz.ntmps91
 refine xF 8 xG (by kernel_rfl) ?_
 simp only [List.take_succ_cons,List.take_zero,List.drop_succ_cons,List.drop_zero]
 repeat still_step
 refine wpStill_nil ?_
 go_wp2_with fail
 refine HC.out.mono ?_
 rintro e w1 ⟨⟨p,rfl⟩,hP⟩
 have HP:=zh (HR.out w1 hP)
 clear hP
 go_wp2_with fail
 go_end0
 obtain ⟨ρ',L',k,h1,h2,h3⟩:=HP.out
 exact ⟨rfl,ρ',L',k,h1,h2.ofDrew,h3⟩
theorem zJj {w:World} {ρ:Nat→Role} {v:Value} {att:Int→Nat} {hp:List Att} (h:zU w ρ v att hp) {i:Nat} (hi:i < hp.length) (t:Int) :
 zU (w.setCell ⟨att (hg hp i).seq,4,none⟩ (vi t)) ρ v att (hp.set i {hg hp i with till:=t}):=by
 have ri:=h.role hi
 have bi:=h.at_ hi
 obtain ⟨h1,h2,h3⟩:=h
 have hm:(hp.set i {hg hp i with till:=t}).map (fun a=>vp (att a.seq))=hp.map (fun a=>vp (att a.seq)):=by
  apply List.ext_getElem?
  intro k
  rw [List.getElem?_map,List.getElem?_map,List.getElem?_set]
  by_cases e:i=k
  ·subst e;rw [if_pos rfl,if_pos hi,zZ hi];rfl
  ·rw [if_neg e]
 refine ⟨?_,?_,?_⟩
 ·rw [hm,List.length_set]
  exact h1.of_blk (fun b hb _=>zG _ (fun e=>by rw [e,ri] at hb;simp [zn,ze] at hb)) (fun b hb _=>hb)
 ·have:(hp.set i {hg hp i with till:=t}).map (·.seq)=hp.map (·.seq):=by
   apply List.ext_getElem?
   intro k
   rw [List.getElem?_map,List.getElem?_map,List.getElem?_set]
   by_cases e:i=k
   ·subst e;rw [if_pos rfl,if_pos hi,zZ hi];rfl
   ·rw [if_neg e]
  rw [this];exact h2
 ·intro k a ha
  rw [List.getElem?_set] at ha
  by_cases e:i=k
  ·subst e
   rw [if_pos rfl,if_pos hi] at ha
   cases ha
   exact ⟨ri,zO _ bi⟩
  ·rw [if_neg e] at ha
   obtain ⟨h5,h6⟩:=h3 k a ha
   have hkl:=(List.getElem?_eq_some_iff.1 ha).1
   have hh:zU w ρ v att hp:=⟨h1,h2,h3⟩
   have:=hh.att_ne hkl hi (fun e2=>e e2.symm)
   rw [zAJ ha] at this
   exact ⟨h5,(zG _ this).trans h6⟩
theorem zJk {w w1:World} {ρ:Nat→Role} {G D:Nat} {L:Lay} {r:Raw} (h:RRep w ρ G D L r) {a:Att} (ha:a∈r.atts) {hp:List Att} (hperm:hp.Perm r.atts) (hheap:xo hp) {i:Nat} (hi:i < hp.length) (hai:hg hp i=a) (t:Int)
 (hP:zCj (w.setCell ⟨L.att a.seq,4,none⟩ (vi t)) ρ L.heap L.att (fixF (hp.set i {a with till:=t}) i hp.length) w1) :
 RRep w1 ρ G D L {r with atts:=r.atts.map (zAC a.seq t)}∧Step ρ ρ w w1:=by
 obtain ⟨hH,hF⟩:=hP
 obtain ⟨hpw,hp0,hperm0,_,hH0⟩:=h.lea
 have hnd:(hp.map (·.seq)).Nodup:=((hperm.map _).nodup_iff).2 (zDp hpw)
 have hAr:ρ (L.att a.seq)=zn a.seq:=by
  obtain ⟨j,hj⟩:=List.getElem?_of_mem (hperm0.mem_iff.2 ha)
  exact (hH0.2.2 j a hj).1
 have hF0:Fr (HpB ρ) w w1:=((Fr.refl _ w).setCell ⟨L.att a.seq,4,none⟩ _ (.inl (by unfold HpB;rw [hAr];exact .inl rfl))).trans hF (fun x hx=>.inl hx)
 have k:∀T:Role→Prop,(∀y,T y→y.tag≠8∧y.tag≠11)→Keep T ρ ρ w w1:=fun T hT=>Keep.of_fr hF0 (fun b _ hb ht=>by have:=hT _ ht;unfold HpB at hb;omega)
 obtain ⟨hs1,hs2⟩:=zJM hi hheap {a with till:=t}
 refine ⟨⟨fun b hb=>⟨(h.dom b hb).1,Nat.lt_of_lt_of_le (h.dom b hb).2 hF0.size⟩,h.disp.keep (k _ (fun y e=>by subst e;simp [zC])),h.opn.keep (k _ (by omega)),h.cns.keep (k _ (by omega)),h.qus.keep (k _ (by omega)),h.run.keep (k _ (by omega)),h.rng.keep (k _ (by omega)),h.wai.keep (k _ (by omega)),
  ⟨?_,_,?_,hs1,hH⟩,h.out.keep (k _ (by omega))⟩,⟨hF0.mono (fun x hx=>.inl (by unfold HpB at hx;unfold Of;omega)),fun b hb=>.inl hb⟩⟩
 ·rw [List.pairwise_map]
  exact hpw.imp (fun h=>by rw [zDo,zDo];exact h)
 ·refine hs2.trans ?_
  have:=zJL hi hnd t
  rw [hai] at this
  rw [←this]
  exact hperm.map _
theorem zJl {w:World} {ρ:Nat→Role} {G D:Nat} {L:Lay} {r:Raw} (h:RRep w ρ G D L r) {a:Att} (ha:a∈r.atts) (t:Int) (hsm:r.atts.length≤1099511627776) :
 Calls Tryz.prog 70 #[tI D,vp (L.att a.seq),vi t] w fun e w'=>e=.returned (.tuple #[])∧RRep w' ρ G D L {r with atts:=r.atts.map (zAC a.seq t)}∧Step ρ ρ w w':=by
 obtain ⟨hpw,hp,hperm,hheap,hH⟩:=h.lea
 obtain ⟨i,hi⟩:=List.getElem?_of_mem (hperm.mem_iff.2 ha)
 have hil:i < hp.length:=(List.getElem?_eq_some_iff.1 hi).1
 have hai:=zAJ hi
 have hlen:=hperm.length_eq
 have hab:=(hH.2.2 i a hi)
 have c4:w.cell? ⟨L.att a.seq,4,none⟩=some (vi a.till):=zB hab.2 rfl
 have f4:=zK (off:=4) hab.2
 have c6:w.cell? ⟨L.att a.seq,6,none⟩=some (vi i):=zB hab.2 rfl
 have c6s:(w.setCell ⟨L.att a.seq,4,none⟩ (vi t)).cell? ⟨L.att a.seq,6,none⟩=some (vi i):=zB (zO _ hab.2) rfl
 have hrc:=zJj hH hil t
 rw [hai] at hrc
 have hDr:=h.disp.1
 have hD12:((w.setCell ⟨L.att a.seq,4,none⟩ (vi t)).drew).cell? ⟨D,12,none⟩=some L.heap:=by
  show (w.setCell ⟨L.att a.seq,4,none⟩ (vi t)).cell? ⟨D,12,none⟩=some L.heap
  exact zB ((zG _ (fun e=>by have e:D=L.att a.seq:=e;rw [←e,hDr] at hab;simp [zC,zn] at hab)).trans h.disp.2) rfl
 have hlen2:(hp.set i {a with till:=t}).length=hp.length:=by simp
 have HC:=zJa (w:=(w.setCell ⟨L.att a.seq,4,none⟩ (vi t)).drew) (ρ:=ρ) (v:=L.heap) (att:=L.att) (hp:=hp.set i {a with till:=t}) (zCl hDr) hD12 hrc (i:=i) (by rw [hlen2];exact hil) (by omega)
 rw [hlen2] at HC
 have HC:=zh HC
 have HR:=zh (fun w1 (hP:zCj (w.setCell ⟨L.att a.seq,4,none⟩ (vi t)).drew ρ L.heap L.att (fixF (hp.set i {a with till:=t}) i hp.length) w1)=>zJk (w1:=w1) h ha hperm hheap hil hai t ⟨hP.1,hP.2.ofDrew⟩)
 clear h ha hpw hperm hheap hH hi hlen hai hab hrc hD12 hlen2
 go_enter Tryz.func70,Tryz.ntmps70
 go_wp2_with fail
 refine xF 8 xG (by kernel_rfl) ?_
 simp only [List.take_succ_cons,List.take_zero,List.drop_succ_cons,List.drop_zero]
 repeat still_step
 refine wpStill_nil ?_
 go_wp2_with fail
 refine HC.out.mono ?_
 rintro e w1 ⟨rfl,hP⟩
 have HP:=zh (HR.out w1 hP)
 clear hP
 go_wp2_with fail
 go_end0
 exact ⟨rfl,HP.out⟩
def dueV (L:Lay) (r:Raw) (now:Int):Value:=match yB r.atts with
 | none=>.pointer none
 | some a=>if a.till≤now then vp (L.att a.seq) else .pointer none
theorem zJm {w:World} {ρ:Nat→Role} {G D:Nat} {L:Lay} {r:Raw} (h:RRep w ρ G D L r) (now:Int) :
 Calls Tryz.prog 46 #[tI D,vi now] w fun e w'=>e=.returned (dueV L r now)∧w=w':=by
 obtain ⟨hpw,hp,hperm,hheap,hH⟩:=h.lea
 have c12:=h.disp.c12
 by_cases h0:hp.length=0
 ·obtain ⟨va,vc,hvv,hv1,hv2⟩:=hH.1.form'
  rw [hvv,h0] at c12
  have hnil:r.atts=[]:=List.eq_nil_of_length_eq_zero (by rw [←hperm.length_eq];exact h0)
  have HV:Hid (dueV L r now=.pointer none):=by show dueV L r now=.pointer none;unfold dueV;rw [hnil];rfl
  clear h hpw hperm hheap hH hvv hnil h0 hv1 hv2
  go_enter Tryz.func46,Tryz.ntmps46
  go_wp2_with fail
  go_ret
  exact ⟨by rw [HV.out];rfl,rfl⟩
 ·have hil:0 < hp.length:=by omega
  have hle:=zJO hperm hheap (zDp hpw) hil
  obtain ⟨b,off,cap,hvv,_,_,hc1,hc2,hc,_⟩:=hH.1.form hil
  rw [hvv] at c12
  have c0:w.cell? ⟨b,off,none⟩=some (vp (L.att (hg hp 0).seq)):=hc 0 _ (by simp [zZ hil])
  have ct:w.cell? ⟨L.att (hg hp 0).seq,4,none⟩=some (vi (hg hp 0).till):=zB (hH.at_ hil) rfl
  have hne:((hp.length:Int)==0)=false:=by rw [beq_eq_false_iff_ne];omega
  have hlt:(0:Int) < (hp.length:Int):=by omega
  by_cases ht:(hg hp 0).till≤now
  ·have hd:decide (now < (hg hp 0).till)=false:=by simp;omega
   have HV:Hid (dueV L r now=vp (L.att (hg hp 0).seq)):=by show dueV L r now=_;unfold dueV;rw [hle];simp only;rw [if_pos ht]
   clear h hpw hperm hheap hH hvv hle hc hc2 hc1 h0
   go_enter Tryz.func46,Tryz.ntmps46
   go_wp2_with fail
   go_ret
   exact ⟨by rw [HV.out];rfl,rfl⟩
  ·have hd:decide (now < (hg hp 0).till)=true:=by simp;omega
   have HV:Hid (dueV L r now=.pointer none):=by show dueV L r now=_;unfold dueV;rw [hle];simp only;rw [if_neg ht]
   clear h hpw hperm hheap hH hvv hle hc hc2 hc1 h0
   go_enter Tryz.func46,Tryz.ntmps46
   go_wp2_with fail
   go_ret
   exact ⟨by rw [HV.out];rfl,rfl⟩
theorem zFx:∀{l m:List Att},l.Pairwise (fun a b=>a.seq < b.seq)→m.Pairwise (fun a b=>a.seq < b.seq)→l.Perm m→l=m
 | [],m,_,_,h=>by have:=h.length_eq;exact (List.eq_nil_of_length_eq_zero this.symm).symm
 | x::l,[],_,_,h=>by have:=h.length_eq;simp at this
 | x::l,y::m,hl,hm,h=>by
   obtain ⟨hl1,hl2⟩:=List.pairwise_cons.1 hl
   obtain ⟨hm1,hm2⟩:=List.pairwise_cons.1 hm
   have e:x=y:=by
    have h1:=h.mem_iff.1 (List.mem_cons_self (a:=x) (l:=l))
    have h2:=h.mem_iff.2 (List.mem_cons_self (a:=y) (l:=m))
    rcases List.mem_cons.1 h1 with e | e
    ·exact e
    ·rcases List.mem_cons.1 h2 with e2 | e2
     ·exact e2.symm
     ·have a1:=hm1 x e
      have a2:=hl1 y e2
      omega
   subst e
   rw [zFx hl2 hm2 ((List.perm_cons x).1 h)]
theorem SlAt.set {w:World} {T:TypeId} {own:Nat→Prop} {b off n cap:Nat} {xs:List Value} (h:SlAt w T 1 own (.slice (some ⟨b,off,none⟩) n cap) n xs) {i:Nat} (hi:i < n) (v:Value) :
 SlAt (w.setCell ⟨b,off+i,none⟩ v) T 1 own (.slice (some ⟨b,off,none⟩) n cap) n (xs.set i v):=by
 rcases h with ⟨h,_⟩ | ⟨b',off',cap',cs,e,hb,hblk,hc1,hc2,hsz,hlen,hcell⟩
 ·cases h
 injection e with e1 e2 e3
 injection e1 with e1
 injection e1 with e4 e5
 subst e4;subst e5;subst e3
 refine .inr ⟨b,off,cap,_,rfl,hb,zO _ hblk,hc1,hc2,by simpa using hsz,by simpa using hlen,?_⟩
 intro j u hj
 rw [List.getElem?_set] at hj
 rw [Array.getElem?_setIfInBounds]
 by_cases e:i=j
 ·subst e
  rw [if_pos rfl,if_pos (by omega)] at hj
  rw [if_pos rfl,if_pos (by omega)]
  exact hj
 ·rw [if_neg e] at hj
  rw [if_neg (by omega)]
  exact hcell j u hj
theorem zJn {l:List Att} (hl:l.Pairwise fun a b=>a.seq < b.seq) {A:Att} {i:Nat} (hi:i≤l.length) (h1:∀j,i≤j→j < l.length→A.seq < (hg l j).seq) (h2:i=0∨(hg l (i - 1)).seq < A.seq) :
 (l.take i++A::l.drop i).Pairwise fun a b=>a.seq < b.seq:=by
 have hget:∀j,j < l.length→l[j]?=some (hg l j):=fun j hj=>zZ hj
 have hlt:∀a∈l.take i,a.seq < A.seq:=by
  intro a ha
  obtain ⟨j,hj⟩:=List.getElem?_of_mem ha
  rw [List.getElem?_take] at hj
  split at hj
  ·rename_i hji
   rcases h2 with h2 | h2
   ·omega
   ·by_cases e:j=i - 1
    ·subst e;rw [hget _ (by omega)] at hj;cases hj;exact h2
    ·have h3:=List.pairwise_iff_getElem.1 hl j (i - 1) (by omega) (by omega) (by omega)
     have e1:l[j]=a:=by rw [List.getElem?_eq_getElem (by omega)] at hj;exact Option.some.inj hj
     have e2:l[i - 1]=hg l (i - 1):=(zAJ (List.getElem?_eq_getElem (by omega))).symm
     rw [e1,e2] at h3
     omega
  ·cases hj
 have hgt:∀a∈l.drop i,A.seq < a.seq:=by
  intro a ha
  obtain ⟨j,hj⟩:=List.getElem?_of_mem ha
  rw [List.getElem?_drop] at hj
  have hjl:=(List.getElem?_eq_some_iff.1 hj).1
  have:=h1 (i+j) (by omega) hjl
  rwa [zAJ hj] at this
 rw [List.pairwise_append,List.pairwise_cons]
 refine ⟨hl.sublist (List.take_sublist i l),⟨hgt,hl.sublist (List.drop_sublist i l)⟩,fun a ha b hb=>?_⟩
 rcases List.mem_cons.1 hb with e | e
 ·subst e;exact hlt a ha
 ·have:=hlt a ha;have:=hgt b e;omega
theorem zJo {α:Type} (l m:List α) (y v:α):(l++y::m).set l.length v=l++v::m:=by simp
def zAZ (w:World) (L:Lay) (l:List Att) (e:Ending) (w':World):Prop:=
 ∃v,e=.returned v∧SlAt w' 106 1 (fun b=>w.heap.size≤b) v l.length (l.map fun a=>vp (L.att a.seq))∧Below w.heap.size w w'
theorem zAK {B:Nat} {a w:World} (h:Below B a w) (n:Nat):Below B a (w.drewN n):=⟨h.os,h.tape,h.output,h.size,h.block⟩
theorem zDw {w:World} {ρ:Nat→Role} {G D:Nat} {L:Lay} {r:Raw} (h:RRep w ρ G D L r) (p:Att→Bool) (fc:FuncId) (caps:Array Value) (hent:∀(args:Array Value) (w:World),(callFunc fc args).run Tryz.prog w=.ok (.enter fc args) w) (hsm:r.atts.length≤1099511627776)
 (hso:∀a∈r.atts,∀w',Below w.heap.size w w'→Calls Tryz.prog fc (#[vp (L.att a.seq)]++caps) w' (fun e w''=>∃k,e=.returned (.bool (p a))∧w''=w'.drewN k)) :
 Calls Tryz.prog 49 #[tI D,.func (.func fc) #[] caps] w (zAZ w L (r.atts.filter p)):=by
 obtain ⟨hpw,hp,hperm,hheap,hH⟩:=h.lea
 have c12:=h.disp.c12
 have Hpw:=zh hpw
 have Hperm:=zh hperm
 have HH:=zh hH
 have Hso:=zh hso
 obtain ⟨va,vc,hvv,hv1,hv2⟩:=hH.1.form'
 rw [hvv] at c12
 have Hvv:=zh hvv
 have hlen:hp.length≤1099511627776:=by rw [hperm.length_eq];exact hsm
 clear h hpw hperm hheap hH hso hvv hsm
 unfold maxLen at hv2
 go_enter Tryz.func49,Tryz.ntmps49
 go_wp2_with fail
 go_loopw [5,7,8,14] (fun s5 _ _ s14 wr=>∃(k:Nat) (l:List Att),s14=.int .i64 k∧k≤hp.length∧Hid (l.Pairwise fun a b=>a.seq < b.seq)∧Hid (l.Perm ((hp.take k).filter p)) ∧
  Hid (SlAt wr 106 1 (fun b=>w.heap.size≤b) s5 l.length (l.map fun a=>vp (L.att a.seq)))∧Hid (Below w.heap.size w wr)) (fun _ _ _ s14 _=>hp.length - (intOf s14).toNat)
 case atStart=>exact ⟨0,[],rfl,Nat.zero_le _,List.Pairwise.nil,List.Perm.refl _,SlAt.nil,Below.refl _ _⟩
 case round =>
  obtain ⟨k,l,rfl,hk,Hl1,Hl2,Hsl,Hbel⟩:=hrel
  by_cases hkl:k < hp.length
  ·have hlt:decide ((k:Int) < (hp.length:Int))=true:=by simp;exact hkl
   obtain ⟨b,off,cap,hvv2,_,hbl,_,_,hc,_⟩:=HH.out.1.form (by omega)
   rw [Hvv.out] at hvv2
   obtain ⟨rfl,rfl⟩:va=some ⟨b,off,none⟩∧vc=cap:=by injection hvv2 with e1 e2 e3;exact ⟨e1,e3⟩
   have ck:wr.cell? ⟨b,off+k,none⟩=some (vp (L.att (hg hp k).seq)):=by
    rw [Hbel.out.cell (p:=⟨b,off+k,none⟩) hbl]
    exact hc k _ (by simp [zZ hkl])
   have hk0:(0:Int)≤(k:Int):=by omega
   have hk1:(k:Int) < (hp.length:Int):=by omega
   have hmem:Hid (hg hp k∈r.atts):=Hperm.out.mem_iff.1 (List.mem_of_getElem? (zZ hkl))
   have HC:=zh (Hso.out (hg hp k) hmem.out wr Hbel.out)
   obtain ⟨c,hcc⟩:∃c:Bool,Hid (p (hg hp k)=c):=⟨_,rfl⟩
   have htk:Hid ((hp.take (k+1)).filter p=(hp.take k).filter p++if c then [hg hp k] else []):=by
    show (hp.take (k+1)).filter p=_
    rw [List.take_add_one,zZ hkl,List.filter_append]
    simp only [Option.toList_some,List.filter_cons,List.filter_nil,hcc.out]
   clear hc hvv2
   go_wp2_with fail
   refine HC.out.mono ?_
   rintro e w2 ⟨q,rfl,hw2⟩
   rw [hcc.out]
   have Hsl2:Hid (SlAt w2 106 1 (fun b=>w.heap.size≤b) u5 l.length (l.map fun a=>vp (L.att a.seq))):=by rw [hw2];exact Hsl.out
   have Hbel2:Hid (Below w.heap.size w w2):=by rw [hw2];exact zAK Hbel.out q
   clear hw2 ck Hsl Hbel HC
   cases c with
   | false =>
     go_wp2_with fail
     go_roundw
     case rel=>exact ⟨k+1,l,by go_num,by omega,Hl1,by show l.Perm _;rw [htk.out];simpa using Hl2.out,Hsl2,Hbel2⟩
     case measure=>simp [intOf];omega
   | true =>
     have hll:l.length≤1099511627776:=by
      have h1:=Hl2.out.length_eq
      have h2:=List.length_filter_le p (hp.take k)
      have h3:=List.length_take_le k hp
      omega
     obtain ⟨a5,c5,hu5,hu6,hu7⟩:=Hsl2.out.form'
     subst hu5
     unfold maxLen at hu7
     have HB:=zh (show l.length+1≤maxLen∧(l.length+1)*8≤140737488355328 by unfold maxLen;omega)
     have HSA:=zh (Hsl2.out.of_blk (w':=w2.alloc (.cells #[vp (L.att (hg hp k).seq)] 106)) (fun b _ hl=>zM w2 hl) (fun b hb _=>hb))
     have HBL:=zh (Hbel2.out.alloc Hbel2.out.size (.cells #[vp (L.att (hg hp k).seq)] 106))
     go_wp2_with (at_builtin;refine xU _ rfl _ _ _ _ rfl zIu rfl HSA.out rfl (yn w2 Tryz.underlying76 [vp (L.att (hg hp k).seq)] (by rfl) (by simp [Value.oneCell']) w2.heap.size (by simp)) (by omega) HB.out.1 HB.out.2 ?_;intro g goff gcap w3 hg3 hs3 hf3 hlt3 _ _;have HS3:=zh hs3;have HG3:=zh (show w.heap.size≤g by rcases hg3 with h1 | h1;exact h1;rw [h1];exact HBL.out.size);have HB3:=zh (HBL.out.trans (hf3.below HBL.out.size (fun x hx=>by rw [hx];exact HG3.out)));clear hs3 hf3 hg3)
     have HA:=zh (show ∀a∈hp,∀wi:World,Below w.heap.size w wi→wi.cell? ⟨L.att a.seq,5,none⟩=some (vi a.seq) from fun a ha wi hb=>by
      obtain ⟨j,hj⟩:=List.getElem?_of_mem ha
      have h6:=(HH.out.2.2 j a hj).2
      rw [hb.cell (p:=⟨L.att a.seq,5,none⟩) (zD w h6)]
      exact zB h6 rfl)
     have HM:=zh (show ∀a∈l,a∈hp from fun a ha=>List.mem_of_mem_take (List.mem_filter.1 (Hl2.out.mem_iff.1 ha)).1)
     have HN:=zh (show ∀a∈l,a.seq≠(hg hp k).seq from fun a ha e=>by
      obtain ⟨j,hj⟩:=List.getElem?_of_mem (List.mem_filter.1 (Hl2.out.mem_iff.1 ha)).1
      rw [List.getElem?_take] at hj
      split at hj
      ·rename_i hjk
       have h1:(hp.map (·.seq))[j]?=some a.seq:=by simp [hj]
       have h2:(hp.map (·.seq))[k]?=some (hg hp k).seq:=by simp [zZ hkl]
       have:=(List.getElem?_inj (by simp;omega) HH.out.2.1).1 (show (hp.map (·.seq))[j]?=(hp.map (·.seq))[k]? by rw [h1,h2,e])
       omega
      ·cases hj)
     have hkm:Hid (hg hp k∈hp):=List.mem_of_getElem? (zZ hkl)
     clear hlt3
     go_loopw [8] (fun s8 wi=>∃(i:Nat) (y:Value),s8=.int .i64 i∧i≤l.length∧Hid (∀j,i≤j→j < l.length→(hg hp k).seq < (hg l j).seq) ∧
      Hid (SlAt wi 106 1 (fun b=>b=g) (.slice (some ⟨g,goff,none⟩) (l.length+1) gcap) (l.length+1) ((l.map fun a=>vp (L.att a.seq)).take i++y::(l.map fun a=>vp (L.att a.seq)).drop i))∧Hid (Below w.heap.size w wi)) (fun s8 _=>(intOf s8).toNat)
     case atStart =>
      refine ⟨l.length,vp (L.att (hg hp k).seq),rfl,Nat.le_refl _,fun j h1 h2=>by omega,?_,HB3.out⟩
      have:(l.map fun a=>vp (L.att a.seq)).length=l.length:=by simp
      show SlAt _ _ _ _ _ _ _
      rw [←this,List.take_length,List.drop_length,this]
      exact HS3.out
     case round =>
      obtain ⟨i,y,rfl,hil,Hgt,Hsi,Hbi⟩:=hrel
      have HX:=zh (show ∀W:World,SlAt W 106 1 (fun b=>b=g) (.slice (some ⟨g,goff,none⟩) (l.length+1) gcap) (l.length+1) ((l.map fun a=>vp (L.att a.seq)).take i++vp (L.att (hg hp k).seq)::(l.map fun a=>vp (L.att a.seq)).drop i)→(i=0∨(hg l (i - 1)).seq < (hg hp k).seq) →
       (l.take i++hg hp k::l.drop i).Pairwise (fun a b=>a.seq < b.seq)∧(l.take i++hg hp k::l.drop i).Perm ((hp.take (k+1)).filter p) ∧
       SlAt W 106 1 (fun b=>w.heap.size≤b) (.slice (some ⟨g,goff,none⟩) (l.length+1) gcap) (l.take i++hg hp k::l.drop i).length ((l.take i++hg hp k::l.drop i).map fun a=>vp (L.att a.seq)) from fun W hW h2=>by
       refine ⟨zJn Hl1.out hil Hgt.out h2,?_,?_⟩
       ·rw [htk.out,if_pos trivial]
        refine List.perm_middle.trans ?_
        rw [List.take_append_drop]
        exact (List.Perm.cons _ Hl2.out).trans (List.perm_append_singleton _ _).symm
       ·have e1:(l.take i++hg hp k::l.drop i).length=l.length+1:=by simp;omega
        rw [e1,List.map_append,List.map_cons,List.map_take,List.map_drop]
        exact hW.of_blk (fun b _ _=>rfl) (fun b hb _=>by rw [hb];exact HG3.out))
      have hmi:(l.map fun a=>vp (L.att a.seq)).length=l.length:=by simp
      have htl:((l.map fun a=>vp (L.att a.seq)).take i).length=i:=by simp;omega
      have Hset:=zh (fun v=>by
       have:=Hsi.out.set (i:=i) (by omega) v
       rw [show ((l.map fun a=>vp (L.att a.seq)).take i++y::(l.map fun a=>vp (L.att a.seq)).drop i).set i v=(l.map fun a=>vp (L.att a.seq)).take i++v::(l.map fun a=>vp (L.att a.seq)).drop i from by
        have:=zJo ((l.map fun a=>vp (L.att a.seq)).take i) ((l.map fun a=>vp (L.att a.seq)).drop i) y v
        rwa [htl] at this] at this
       exact this)
      obtain ⟨b',off',cap',e',hb1,hbl',_,hcap',hcc',hff⟩:=Hsi.out.form (by omega)
      injection e' with e1 e2 e3
      injection e1 with e1
      injection e1 with e4 e5
      subst e4;subst e5;subst e3
      have ci:wr.cell? ⟨g,goff+i,none⟩=some y:=hcc' i y (by rw [List.getElem?_append_right (by omega),htl];simp)
      have fi:=hff (goff+i)
      have cA:=HA.out _ hkm.out wr Hbi.out
      unfold maxLen at hcap'
      have hi0:(0:Int)≤(i:Int):=by omega
      have hi1:(i:Int) < (l.length:Int)+1:=by omega
      by_cases h0:i=0
      ·have hd:decide (0 < i)=false:=by simp;omega
       have H0:=zh h0
       clear hcc' hff hmi htl h0
       go_wp2_with fail
       go_quiet (fail)
       go_wp2_with fail
       go_roundw
       case rel =>
        obtain ⟨g1,g2,g3⟩:=HX.out _ (Hset.out _) (.inl H0.out)
        exact ⟨k+1,_,by go_num,by omega,g1,g2,g3,((zAK Hbi.out _)).setCell (by exact HG3.out) _⟩
       case measure=>simp [intOf];omega
      ·obtain ⟨im,him⟩:∃im,Hid (im=i - 1):=⟨_,rfl⟩
       have hil2:im < l.length:=by have:=him.out;omega
       have hd:decide (0 < i)=true:=by simp;omega
       have he:(i:Int) - 1=(im:Int):=by have:=him.out;omega
       have hm0:(0:Int)≤(im:Int):=by omega
       have hm1:(im:Int) < (l.length:Int)+1:=by omega
       have hi2:(1:Int)≤(i:Int):=by omega
       have hgm:(l.map fun a=>vp (L.att a.seq))[im]?=some (vp (L.att (hg l im).seq)):=by simp [zZ hil2]
       have cm:wr.cell? ⟨g,goff+im,none⟩=some (vp (L.att (hg l im).seq)):=hcc' im _ (by
        rw [List.getElem?_append_left (by rw [htl];have:=him.out;omega),List.getElem?_take,if_pos (by have:=him.out;omega)]
        exact hgm)
       have cs:wr.cell? ⟨L.att (hg l im).seq,5,none⟩=some (vi (hg l im).seq):=HA.out _ (HM.out _ (List.mem_of_getElem? (zZ hil2))) _ Hbi.out
       have hne:=HN.out _ (List.mem_of_getElem? (zZ hil2))
       have Hnn:=zh (And.intro hmi (And.intro htl hgm))
       by_cases hgt:(hg hp k).seq < (hg l im).seq
       ·have hdg:decide ((hg hp k).seq < (hg l im).seq)=true:=by simpa using hgt
        have Hgt2:=zh hgt
        clear hcc' hff hmi htl h0 hgm hne hgt
        go_wp2_with fail
        go_quiet (fail)
        go_wp2_with fail
        go_roundw
        case rel =>
         refine ⟨im,vp (L.att (hg l im).seq),rfl,by omega,?_,?_,(zAK Hbi.out _).setCell (by exact HG3.out) _⟩
         ·intro j h1 h2
          by_cases e:j=im
          ·subst e;exact Hgt2.out
          ·exact Hgt.out j (by have:=him.out;omega) h2
         ·have h1:=Hset.out (vp (L.att (hg l im).seq))
          obtain ⟨q1,q2,q3⟩:=Hnn.out
          have e1:i=im+1:=by have:=him.out;omega
          rw [e1,List.take_add_one,q3] at h1
          have e2:(l.map fun a=>vp (L.att a.seq)).drop im=vp (L.att (hg l im).seq)::(l.map fun a=>vp (L.att a.seq)).drop (im+1):=by
           have hx:im < (l.map fun a=>vp (L.att a.seq)).length:=by rw [q1];exact hil2
           rw [List.drop_eq_getElem_cons hx]
           congr 1
           have:=List.getElem?_eq_getElem hx
           rw [this] at q3
           exact Option.some.inj q3
          show SlAt _ _ _ _ _ _ _
          rw [e2]
          simp only [Option.toList_some,List.append_assoc,List.cons_append,List.nil_append] at h1
          rw [←e1] at h1 ⊢
          exact h1
        case measure=>simp [intOf];have:=him.out;omega
       ·have hdg:decide ((hg hp k).seq < (hg l im).seq)=false:=by simp;omega
        have Hlt:=zh (show (hg l (i - 1)).seq < (hg hp k).seq by rw [←him.out];omega)
        clear hcc' hff hmi htl h0 hgm hne hgt
        go_wp2_with fail
        go_quiet (fail)
        go_wp2_with fail
        go_roundw
        case rel =>
         obtain ⟨g1,g2,g3⟩:=HX.out _ (Hset.out _) (.inr Hlt.out)
         exact ⟨k+1,_,by go_num,by omega,g1,g2,g3,((zAK Hbi.out _)).setCell (by exact HG3.out) _⟩
        case measure=>simp [intOf];omega
  ·obtain rfl:k=hp.length:=by omega
   have hlt:decide ((hp.length:Int) < (hp.length:Int))=false:=by simp
   go_wp2_with fail
   go_ret
   have e:l=r.atts.filter p:=zFx Hl1.out (Hpw.out.sublist List.filter_sublist) (by
    have:=Hl2.out
    rw [List.take_length] at this
    exact this.trans (Hperm.out.filter _))
   rw [←e]
   exact ⟨_,rfl,Hsl.out,Hbel.out⟩
theorem zJp (args:Array Value) (w:World):(callFunc 92 args).run Tryz.prog w=.ok (.enter 92 args) w:=by kernel_rfl
theorem zJq (args:Array Value) (w:World):(callFunc 98 args).run Tryz.prog w=.ok (.enter 98 args) w:=by kernel_rfl
theorem zJr {A B:Nat} {x id:Int} {w:World} (h1:w.cell? ⟨A,0,none⟩=some (vi x)) (h2:w.cell? ⟨B,0,none⟩=some (vi id)) :
 Calls Tryz.prog 92 #[vp A,vp B] w fun e w'=>∃k,e=.returned (.bool (decide (x=id)))∧w'=w.drewN k:=by
 have hb:=zh (show (x==id)=decide (x=id) by by_cases e:x=id<;>simp [e])
 go_enter Tryz.func92,Tryz.ntmps92
 go_wp2_with fail
 go_quiet (fail)
 go_wp2_with fail
 go_ret
 exact ⟨_,congrArg (fun b=>Ending.returned (.bool b)) hb.out,rfl⟩
theorem zJs {A B:Nat} {x c:Int} {w:World} (h1:w.cell? ⟨A,2,none⟩=some (vi x)) (h2:w.cell? ⟨B,0,none⟩=some (vi c)) :
 Calls Tryz.prog 98 #[vp A,vp B] w fun e w'=>∃k,e=.returned (.bool (decide (x=c)))∧w'=w.drewN k:=by
 have hb:=zh (show (x==c)=decide (x=c) by by_cases e:x=c<;>simp [e])
 go_enter Tryz.func98,Tryz.ntmps98
 go_wp2_with fail
 go_quiet (fail)
 go_wp2_with fail
 go_ret
 exact ⟨_,congrArg (fun b=>Ending.returned (.bool b)) hb.out,rfl⟩
theorem RRep.att_blk {w:World} {ρ:Nat→Role} {G D:Nat} {L:Lay} {r:Raw} (h:RRep w ρ G D L r) {a:Att} (ha:a∈r.atts):∃k:Nat,w.heap[L.att a.seq]?=some (.cells (yV a k) 109 (0,0))∧ρ (L.att a.seq)=zn a.seq:=by
 obtain ⟨hpw,hp,hperm,hheap,hH⟩:=h.lea
 obtain ⟨i,hi⟩:=List.getElem?_of_mem (hperm.mem_iff.2 ha)
 obtain ⟨h1,h2⟩:=hH.2.2 i a hi
 exact ⟨i,h2,h1⟩
theorem zAZ.of_alloc {w:World} {o:Obj} {L:Lay} {l:List Att} {e:Ending} {w':World} (h:zAZ (w.alloc o) L l e w'):zAZ w L l e w':=by
 obtain ⟨v,h1,h2,h3⟩:=h
 refine ⟨v,h1,h2.of_blk (fun _ _ _=>rfl) (fun b hb _=>?_),((Below.refl _ _).alloc (Nat.le_refl _) o).trans (h3.mono (by simp))⟩
 have hb:(w.alloc o).heap.size≤b:=hb
 simp at hb;omega
theorem zBy {w:World} {ρ:Nat→Role} {G D:Nat} {L:Lay} {r:Raw} (h:RRep w ρ G D L r) (id:Int) (hsm:r.atts.length≤1099511627776) :
 Calls Tryz.prog 51 #[vp D,vi id] w (zAZ w L (rOf r id)):=by
 have HC:=zh (zDw (h.alloc (.cells #[vi id] 3)) (fun a=>decide (a.id=id)) 92 #[vp w.heap.size] zJp hsm (fun a ha w' hb=>by
  obtain ⟨k,h1,_⟩:=(h.alloc (.cells #[vi id] 3)).att_blk ha
  refine zJr (A:=L.att a.seq) (B:=w.heap.size) ?_ ?_
  ·exact zB ((hb.block _ (zD _ h1)).trans h1) rfl
  ·exact zB ((hb.block _ (by simp)).trans (zP w)) rfl))
 clear h hsm
 go_enter Tryz.func51,Tryz.ntmps51
 go_wp2_with fail
 refine HC.out.mono ?_
 rintro e w1 ⟨v,rfl,h2,h3⟩
 have HH:=zh (And.intro h2 h3)
 clear h2 h3
 go_wp2_with fail
 go_ret
 exact zAZ.of_alloc ⟨v,rfl,HH.out.1,HH.out.2⟩
theorem zDx {w:World} {ρ:Nat→Role} {G D:Nat} {L:Lay} {r:Raw} (h:RRep w ρ G D L r) (c:Int) (hsm:r.atts.length≤1099511627776) :
 Calls Tryz.prog 56 #[vp D,vi c] w (zAZ w L (yT r c)):=by
 have HC:=zh (zDw (h.alloc (.cells #[vi c] 3)) (fun a=>decide (a.conn=c)) 98 #[vp w.heap.size] zJq hsm (fun a ha w' hb=>by
  obtain ⟨k,h1,_⟩:=(h.alloc (.cells #[vi c] 3)).att_blk ha
  refine zJs (A:=L.att a.seq) (B:=w.heap.size) ?_ ?_
  ·exact zB ((hb.block _ (zD _ h1)).trans h1) rfl
  ·exact zB ((hb.block _ (by simp)).trans (zP w)) rfl))
 clear h hsm
 go_enter Tryz.func56,Tryz.ntmps56
 go_wp2_with fail
 refine HC.out.mono ?_
 rintro e w1 ⟨v,rfl,h2,h3⟩
 have HH:=zh (And.intro h2 h3)
 clear h2 h3
 go_wp2_with fail
 go_ret
 exact zAZ.of_alloc ⟨v,rfl,HH.out.1,HH.out.2⟩
theorem zFy {α:Type} (p:α→Bool):∀(l:List α) (k:Nat) (a:α),l[k]?=some a→p a=true→(∀j b,j < k→l[j]?=some b→p b=false)→l.find? p=some a
 | [],_,_,h,_,_=>by simp at h
 | x::l,0,a,h,hp,_=>by
   simp only [List.getElem?_cons_zero,Option.some.injEq] at h
   subst h
   simp [List.find?,hp]
 | x::l,k+1,a,h,hp,hn=>by
   have hx:p x=false:=hn 0 x (by omega) rfl
   simp only [List.find?,hx]
   exact zFy p l k a (by simpa using h) hp (fun j b hj hb=>hn (j+1) b (by omega) (by simpa using hb))
theorem zFz {α:Type} (p:α→Bool):∀(l:List α),(∀(j:Nat) b,l[j]?=some b→p b=false)→l.find? p=none
 | [],_=>rfl
 | x::l,hn=>by
   have hx:p x=false:=hn 0 x rfl
   simp only [List.find?,hx]
   exact zFz p l (fun j b hb=>hn (j+1) b (by simpa using hb))
def attV (L:Lay) (o:Option Att):Value:=match o with | none=>.pointer none | some a=>vp (L.att a.seq)
theorem zJt {w:World} {ρ:Nat→Role} {G D:Nat} {L:Lay} {r:Raw} (h:RRep w ρ G D L r) (id att c:Int) (hsm:r.atts.length≤1099511627776) :
 Calls Tryz.prog 71 #[vp D,vi id,vi att,vi c] w fun e w'=>e=.returned (attV L (rAtt r id att c))∧Below w.heap.size w w':=by
 have HC:=zh (zBy h id hsm)
 have HA:=zh (fun (a:Att) (ha:a∈rOf r id) (w1:World) (hb:Below w.heap.size w w1)=>show w1.cell? ⟨L.att a.seq,1,none⟩=some (vi a.att)∧w1.cell? ⟨L.att a.seq,2,none⟩=some (vi a.conn) by
  obtain ⟨k,h1,_⟩:=h.att_blk (List.mem_filter.1 ha).1
  have h2:=(hb.block _ (zD _ h1)).trans h1
  exact ⟨zB h2 rfl,zB h2 rfl⟩)
 have hll:(rOf r id).length≤1099511627776:=Nat.le_trans (List.length_filter_le _ _) hsm
 have HR:Hid (rAtt r id att c=(rOf r id).find? fun a=>decide (a.att=att)&&decide (a.conn=c)):=rfl
 generalize rOf r id=l at *
 clear h hsm
 go_enter Tryz.func71,Tryz.ntmps71
 go_wp2_with fail
 refine HC.out.mono ?_
 rintro e w1 ⟨v,rfl,h2,h3⟩
 have HH:=zh (And.intro h2 h3)
 obtain ⟨va,vc,hv1,hv2,hv3⟩:=h2.form'
 subst hv1
 unfold maxLen at hv3
 clear h2 h3
 go_wp2_with fail
 go_loop [10,15] (fun _ s15=>∃k:Nat,s15=.int .i64 k∧k≤l.length∧Hid (∀(j:Nat) b,j < k→l[j]?=some b→(decide (b.att=att)&&decide (b.conn=c))=false)) (fun _ s15=>l.length - (intOf s15).toNat)
 case atStart=>exact ⟨0,rfl,Nat.zero_le _,fun j b hj=>by omega⟩
 case round =>
  obtain ⟨k,rfl,hk,Hn⟩:=hrel
  by_cases hkl:k < l.length
  ·have hlt:decide ((k:Int) < (l.length:Int))=true:=by simp;exact hkl
   have hkg:=zZ hkl
   obtain ⟨b,off,cap,hv,_,_,_,_,hc,_⟩:=HH.out.1.form (by omega)
   obtain ⟨rfl,rfl⟩:va=some ⟨b,off,none⟩∧vc=cap:=by injection hv with e1 e2 e3;exact ⟨e1,e3⟩
   have ck:w1.cell? ⟨b,off+k,none⟩=some (vp (L.att (hg l k).seq)):=hc k _ (by simp [hkg])
   obtain ⟨c1,c2⟩:=HA.out _ (List.mem_of_getElem? hkg) w1 HH.out.2
   have hk0:(0:Int)≤(k:Int):=by omega
   have hk1:(k:Int) < (l.length:Int):=by omega
   have Hkg:=zh hkg
   have Hnext:=zh (fun (hp:(decide ((hg l k).att=att)&&decide ((hg l k).conn=c))=false)=>show ∀(j:Nat) b,j < k+1→l[j]?=some b→(decide (b.att=att)&&decide (b.conn=c))=false from fun j b hj hb=>by
    by_cases e:j=k
    ·subst e;rw [Hkg.out] at hb;cases hb;exact hp
    ·exact Hn.out j b (by omega) hb)
   clear hc hv hkg
   by_cases ha:(hg l k).att=att
   ·by_cases hcn:(hg l k).conn=c
    ·have e1:((hg l k).att==att)=true:=by simp [ha]
     have e2:((hg l k).conn==c)=true:=by simp [hcn]
     have HX:Hid (rAtt r id att c=some (hg l k)):=HR.out.trans (zFy _ l k _ Hkg.out (by simp [ha,hcn]) (fun j b hj hb=>Hn.out j b hj hb))
     clear ha hcn
     go_wp2_with fail
     go_ret
     exact ⟨by rw [HX.out];rfl,HH.out.2⟩
    ·have e1:((hg l k).att==att)=true:=by simp [ha]
     have e2:((hg l k).conn==c)=false:=by simp [hcn]
     have HX:=zh (Hnext.out (by simp [hcn]))
     clear ha hcn
     go_wp2_with fail
     go_round
     case rel=>exact ⟨k+1,by go_num,by omega,HX.out⟩
     case measure=>simp [intOf];omega
   ·have e1:((hg l k).att==att)=false:=by simp [ha]
    have HX:=zh (Hnext.out (by simp [ha]))
    clear ha
    go_wp2_with fail
    go_round
    case rel=>exact ⟨k+1,by go_num,by omega,HX.out⟩
    case measure=>simp [intOf];omega
  ·obtain rfl:k=l.length:=by omega
   have HX:Hid (rAtt r id att c=none):=HR.out.trans (zFz _ l (fun j b hb=>Hn.out j b (List.getElem?_eq_some_iff.1 hb).1 hb))
   have hlt:decide ((l.length:Int) < (l.length:Int))=false:=by simp
   go_wp2_with fail
   go_ret
   exact ⟨by rw [HX.out];rfl,HH.out.2⟩
end Go.Proofs.YtaejfobbogahmaaGreatDoor
