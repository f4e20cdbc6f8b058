/-
  OnceE: texts of their own, joined.
-/
import Derived.Test.YtaejfobbogahmaaGreatDoorMkOnceQ
set_option maxRecDepth 100000
set_option maxHeartbeats 16000000
set_option linter.all false
namespace Go.Proofs.YtaejfobbogahmaaGreatDoor
open Go
theorem zEj:∀(f n:Nat),n < 10 ^ (f+1)→yH (decF f n) 0=some n
 | 0,n,h=>by
   have h:n < 10:=by simpa using h
   have e:(UInt8.ofNat (48+n)).toNat=48+n:=by rw [UInt8.toNat_ofNat'];omega
   have e1:(48:UInt8)≤UInt8.ofNat (48+n)∧UInt8.ofNat (48+n)≤57:=⟨UInt8.le_iff_toNat_le.2 (by rw [e];simp),UInt8.le_iff_toNat_le.2 (by rw [e];simp;omega)⟩
   simp only [decF,yH,Nat.mod_eq_of_lt h]
   rw [if_pos e1,e]
   congr 1;omega
 | f+1,n,h=>by
   simp only [decF]
   split
   ·next h1 =>
    have e:(UInt8.ofNat (48+n)).toNat=48+n:=by rw [UInt8.toNat_ofNat'];omega
    have e1:(48:UInt8)≤UInt8.ofNat (48+n)∧UInt8.ofNat (48+n)≤57:=⟨UInt8.le_iff_toNat_le.2 (by rw [e];simp),UInt8.le_iff_toNat_le.2 (by rw [e];simp;omega)⟩
    simp only [yH]
    rw [if_pos e1,e]
    congr 1;omega
   ·next h1 =>
    have hd:n % 10 < 10:=Nat.mod_lt _ (by omega)
    have e:(UInt8.ofNat (48+n % 10)).toNat=48+n % 10:=by rw [UInt8.toNat_ofNat'];omega
    have e1:(48:UInt8)≤UInt8.ofNat (48+n % 10)∧UInt8.ofNat (48+n % 10)≤57:=⟨UInt8.le_iff_toNat_le.2 (by rw [e];simp),UInt8.le_iff_toNat_le.2 (by rw [e];simp;omega)⟩
    rw [zEf,zEj f (n / 10) (by rw [Nat.pow_succ] at h;omega)]
    simp only []
    rw [if_pos e1,e]
    congr 1;omega
theorem zCI {a b:Int} (ha:0≤a∧a≤999999) (hb:0≤b∧b≤999999) (h:decI a=decI b):a=b:=by
 unfold decI dec at h
 rw [if_neg (by omega),if_neg (by omega)] at h
 have h1:=zEj 20 a.toNat (by have h8:a.toNat≤999999:=(by omega);have h9:(999999:Nat) < 10 ^ 21:=(by decide);omega)
 have h2:=zEj 20 b.toNat (by have h8:b.toNat≤999999:=(by omega);have h9:(999999:Nat) < 10 ^ 21:=(by decide);omega)
 rw [h,h2] at h1
 have:=Option.some.inj h1
 omega
theorem zEk (a:Int):decI a≠[]:=by
 unfold decI dec
 split
 ·simp
 ·unfold decF
  split<;>simp
def AtIs (E:List (zA×Int)) (s:zA) (k:Nat) (a:Int):Prop:=
 (a = -1∧∀(j:Nat) e,j < k→E[j]?=some e→e.1≠s)∨∃i:Nat,i < k∧a=i∧(∃e,E[i]?=some e∧e.1=s)∧∀(j:Nat) e,i < j→j < k→E[j]?=some e→e.1≠s
theorem AtIs.start (E:List (zA×Int)) (s:zA):AtIs E s 0 (-1):=.inl ⟨rfl,fun j e h=>absurd h (Nat.not_lt_zero _)⟩
theorem AtIs.hit {E:List (zA×Int)} {s:zA} {k:Nat} {e:zA×Int} (he:E[k]?=some e) (hs:e.1=s):AtIs E s (k+1) k:=
 .inr ⟨k,Nat.lt_succ_self k,rfl,⟨e,he,hs⟩,fun j _ h1 h2=>by omega⟩
theorem AtIs.miss {E:List (zA×Int)} {s:zA} {k:Nat} {a:Int} {e:zA×Int} (h:AtIs E s k a) (he:E[k]?=some e) (hs:e.1≠s):AtIs E s (k+1) a:=by
 rcases h with ⟨h1,h2⟩ | ⟨i,h1,h2,h3,h4⟩
 ·refine .inl ⟨h1,fun j x hj hx=>?_⟩
  by_cases e1:j=k
  ·subst e1;rw [he] at hx;injection hx with hx;subst hx;exact hs
  ·exact h2 j x (by omega) hx
 ·refine .inr ⟨i,by omega,h2,h3,fun j x hj hj2 hx=>?_⟩
  by_cases e1:j=k
  ·subst e1;rw [he] at hx;injection hx with hx;subst hx;exact hs
  ·exact h4 j x hj (by omega) hx
def zv (e:zA×Int):Bool:=decide (0≤e.2)
def yP (p:Int×Int):zA×Int:=(decI p.1,p.2)
structure RepE (E:List (zA×Int)) (S:List (Int×Int)) (clean:Prop):Prop where
 live:E.filter zv=S.map yP
 dead:∀e∈E,e.2 < 0→∀p∈S,e.1≠decI p.1
 emp:clean→∀e∈E,e.2 < 0→e.1=[]
 nod:(S.map Prod.fst).Nodup
 ids:∀p∈S,(0≤p.1∧p.1≤999999)∧0≤p.2
theorem RepE.find {E:List (zA×Int)} {S:List (Int×Int)} {cl:Prop} (h:RepE E S cl) {id c a:Int} (hs:aget S id=some c) (ha:AtIs E (decI id) E.length a):∃i:Nat,a=i∧E[i]?=some (decI id,c):=by
 have hm:=yQ hs
 have hl:(decI id,c)∈E.filter zv:=by rw [h.live];exact List.mem_map.2 ⟨(id,c),hm,rfl⟩
 rcases ha with ⟨_,h2⟩ | ⟨i,h1,h2,⟨e,he,hes⟩,h4⟩
 ·obtain ⟨j,hj,e⟩:=List.getElem_of_mem (List.mem_filter.1 hl).1
  exact absurd rfl (h2 j (decI id,c) hj (by rw [List.getElem?_eq_getElem hj,e]))
 ·refine ⟨i,h2,?_⟩
  have hem:e∈E:=List.mem_of_getElem? he
  rcases Int.lt_or_le e.2 0 with hn | hn
  ·exact absurd hes (h.dead e hem hn _ hm)
  ·have:e∈S.map yP:=by rw [←h.live];exact List.mem_filter.2 ⟨hem,decide_eq_true hn⟩
   obtain ⟨p,hp,rfl⟩:=List.mem_map.1 this
   have hid:p.1=id:=zCI (h.ids p hp).1 (h.ids _ hm).1 hes
   have h5:=xA h.nod (k:=p.1) (v:=p.2) hp
   rw [hid,hs] at h5
   rw [he]
   unfold yP
   rw [hid,←Option.some.inj h5]
theorem RepE.miss {E:List (zA×Int)} {S:List (Int×Int)} {cl:Prop} (h:RepE E S cl) (hcl:cl) {id a:Int} (hid:0≤id∧id≤999999) (hs:aget S id=none) (ha:AtIs E (decI id) E.length a):a = -1:=by
 rcases ha with ⟨h1,_⟩ | ⟨i,h1,h2,⟨e,he,hes⟩,h4⟩
 ·exact h1
 ·exfalso
  have hem:e∈E:=List.mem_of_getElem? he
  rcases Int.lt_or_le e.2 0 with hn | hn
  ·rw [h.emp hcl e hem hn] at hes
   exact zEk id hes.symm
  ·have:e∈S.map yP:=by rw [←h.live];exact List.mem_filter.2 ⟨hem,decide_eq_true hn⟩
   obtain ⟨p,hp,rfl⟩:=List.mem_map.1 this
   have hid:p.1=id:=zCI (h.ids p hp).1 hid hes
   have h5:=xA h.nod (k:=p.1) (v:=p.2) hp
   rw [hid,hs] at h5
   cases h5
theorem zHc {α:Type} {p q:α→Bool} {x:α} (hx:p x=false):∀(l:List α) (i:Nat) (y:α),l[i]?=some y→q y=false→(∀(j:Nat) z,j≠i→l[j]?=some z→p z=q z)→(l.set i x).filter p=l.filter q
 | [],i,y,h,_,_=>by simp at h
 | a::l,0,y,h,hy,hj=>by
   simp only [List.getElem?_cons_zero,Option.some.injEq] at h
   subst h
   rw [List.set_cons_zero,List.filter_cons_of_neg (by simp [hx]),List.filter_cons_of_neg (by simp [hy])]
   exact List.filter_congr (fun z hz=>by
    obtain ⟨j,hjl,e⟩:=List.getElem_of_mem hz
    exact hj (j+1) z (by omega) (by rw [List.getElem?_cons_succ,List.getElem?_eq_getElem hjl,e]))
 | a::l,i+1,y,h,hy,hj=>by
   have ha:p a=q a:=hj 0 a (by omega) rfl
   have ih:=zHc (q:=q) hx l i y (by simpa using h) hy (fun j z hne hz=>hj (j+1) z (by omega) (by simpa using hz))
   rw [List.set_cons_succ]
   by_cases hp:p a=true
   ·rw [List.filter_cons_of_pos hp,List.filter_cons_of_pos (by rw [←ha];exact hp),ih]
   ·rw [List.filter_cons_of_neg hp,List.filter_cons_of_neg (by rw [←ha];exact hp),ih]
theorem RepE.fin {E:List (zA×Int)} {S:List (Int×Int)} {cl:Prop} (h:RepE E S cl) {id c:Int} (hs:aget S id=some c) {i:Nat} (hi:E[i]?=some (decI id,c)):RepE (E.set i ([],-1)) (adel S id) cl:=by
 have hm:=yQ hs
 have hnd:(E.filter zv).Pairwise fun a b=>a.1≠b.1:=by
  rw [h.live,List.pairwise_map]
  have:=h.nod
  rw [List.Nodup,List.pairwise_map] at this
  exact this.imp_of_mem (fun {a b} ha hb hne e=>hne (zCI (h.ids a ha).1 (h.ids b hb).1 e))
 rw [List.pairwise_filter] at hnd
 have hlive:zv (decI id,c)=true:=decide_eq_true (h.ids _ hm).2
 rw [zEe h.nod]
 refine ⟨?_,fun e he hn p hp=>?_,fun hc e he hn=>?_,h.nod.sublist (List.filter_sublist.map _),fun p hp=>h.ids p (List.mem_filter.1 hp).1⟩
 ·rw [zHc (q:=fun e=>zv e&&!decide (e.1=decI id)) (by rfl) E i _ hi (by simp) (fun j z hne hz=>?_)]
  ·rw [←List.filter_filter,show (E.filter fun a=>!decide (a.1=decI id)).filter zv=(E.filter zv).filter fun a=>!decide (a.1=decI id) by rw [List.filter_filter,List.filter_filter];exact List.filter_congr (fun x _=>Bool.and_comm _ _)]<;>try skip
   rw [h.live,List.filter_map]
   congr 1
   refine List.filter_congr (fun p hp=>?_)
   show (!decide (decI p.1=decI id))=!decide (p.1=id)
   by_cases e:p.1=id
   ·rw [e];simp
   ·have:decI p.1≠decI id:=fun e2=>e (zCI (h.ids p hp).1 (h.ids _ hm).1 e2)
    simp [e,this]
  ·cases hz2:zv z with
   | false=>rfl
   | true =>
     have hne2:z.1≠decI id:=by
      intro e
      rw [List.pairwise_iff_getElem] at hnd
      obtain ⟨hj1,hj2⟩:=List.getElem?_eq_some_iff.1 hz
      obtain ⟨hi1,hi2⟩:=List.getElem?_eq_some_iff.1 hi
      rcases Nat.lt_or_gt_of_ne hne with hlt | hgt
      ·exact hnd j i hj1 hi1 hlt (by rw [hj2];exact hz2) (by rw [hi2];exact hlive) (by rw [hj2,hi2];exact e)
      ·exact hnd i j hi1 hj1 hgt (by rw [hi2];exact hlive) (by rw [hj2];exact hz2) (by rw [hj2,hi2];exact e.symm)
     simp [hne2]
 ·have hp:=(List.mem_filter.1 hp).1
  rcases List.mem_or_eq_of_mem_set he with he | rfl
  ·exact h.dead e he hn p hp
  ·exact fun e=>zEk _ e.symm
 ·rcases List.mem_or_eq_of_mem_set he with he | rfl
  ·exact h.emp hc e he hn
  ·rfl
theorem RepE.acc {E:List (zA×Int)} {S:List (Int×Int)} {cl:Prop} (h:RepE E S cl) (hcl:cl) {id c:Int} (hid:0≤id∧id≤999999) (hc:0≤c) (hs:aget S id=none):RepE (E++[(decI id,c)]) (S++[(id,c)]) cl:=by
 refine ⟨?_,fun e he hn p hp=>?_,fun hc e he hn=>?_,?_,fun p hp=>?_⟩
 ·rw [List.filter_append,h.live,List.map_append,List.filter_cons_of_pos (show zv (decI id,c)=true from decide_eq_true hc)];rfl
 ·rcases List.mem_append.1 he with he | he
  ·rcases List.mem_append.1 hp with hp | hp
   ·exact h.dead e he hn p hp
   ·rw [h.emp hcl e he hn];exact fun e=>zEk _ e.symm
  ·rw [List.mem_singleton] at he;subst he;exact absurd hn (by show ¬c < 0;omega)
 ·rcases List.mem_append.1 he with he | he
  ·exact h.emp hcl e he hn
  ·rw [List.mem_singleton] at he;subst he;exact absurd hn (by show ¬c < 0;omega)
 ·rw [List.map_append,List.nodup_append]
  refine ⟨h.nod,by simp,fun a ha b hb=>?_⟩
  simp only [List.map_cons,List.map_nil,List.mem_singleton] at hb
  subst hb
  rintro rfl
  have:=(zBG (l:=S)).2 ha
  rw [hs] at this;cases this
 ·rcases List.mem_append.1 hp with hp | hp
  ·exact h.ids p hp
  ·rw [List.mem_singleton] at hp;subst hp;exact ⟨hid,hc⟩
theorem RepE.start {S:List (Int×Int)} (hn:(S.map Prod.fst).Nodup) (hi:∀p∈S,(0≤p.1∧p.1≤999999)∧0≤p.2) (cl:Prop):RepE (S.map yP) S cl:=by
 have hl:∀e∈S.map yP,0≤e.2:=fun e he=>by
  obtain ⟨p,hp,rfl⟩:=List.mem_map.1 he
  exact (hi p hp).2
 exact ⟨List.filter_eq_self.2 (fun e he=>decide_eq_true (hl e he)),fun e he h=>absurd h (by have:=hl e he;omega),fun _ e he h=>absurd h (by have:=hl e he;omega),hn,hi⟩
def ya (c:Int) (e:zA×Int):zA×Int:=if e.2=c then (e.1,-1) else e
theorem RepE.close {S:List (Int×Int)} (hn:(S.map Prod.fst).Nodup) (hi:∀p∈S,(0≤p.1∧p.1≤999999)∧0≤p.2) (c:Int):RepE ((S.map yP).map (ya c)) (S.filter fun p=>!decide (p.2=c)) False:=by
 refine ⟨?_,fun e he h p hp=>?_,fun h=>h.elim,hn.sublist (List.filter_sublist.map _),fun p hp=>hi p (List.mem_filter.1 hp).1⟩
 ·induction S with
  | nil=>rfl
  | cons p S ih =>
    rw [List.map_cons,List.nodup_cons] at hn
    have ih:=ih hn.2 (fun q hq=>hi q (List.mem_cons_of_mem _ hq))
    have hp:=(hi p List.mem_cons_self).2
    simp only [List.map_cons]
    by_cases e:p.2=c
    ·rw [List.filter_cons_of_neg (by simp [zv,ya,yP,e]),List.filter_cons_of_neg (by simp [e]),ih]
    ·rw [List.filter_cons_of_pos (by simp [zv,ya,yP,e];exact hp),List.filter_cons_of_pos (by simp [e]),ih,List.map_cons]
     congr 1
     simp [ya,yP,e]
 ·obtain ⟨hp1,hp2⟩:=List.mem_filter.1 hp
  rw [List.map_map] at he
  obtain ⟨q,hq,rfl⟩:=List.mem_map.1 he
  intro e1
  have hq2:q.2=c:=by
   by_cases e:q.2=c
   ·exact e
   ·exfalso
    have:(ya c (yP q)).2=q.2:=by simp [ya,yP,e]
    have h2:=(hi q hq).2
    change (ya c (yP q)).2 < 0 at h
    omega
  have e2:(ya c (yP q)).1=decI q.1:=by unfold ya yP;split<;>rfl
  have e3:q.1=p.1:=zCI (hi q hq).1 (hi p hp1).1 (e2.symm.trans e1)
  have a1:=xA hn (k:=q.1) (v:=q.2) hq
  have a2:=xA hn (k:=p.1) (v:=p.2) hp1
  rw [e3,a2] at a1
  have:p.2=c:=by rw [Option.some.inj a1];exact hq2
  simp [this] at hp2
end Go.Proofs.YtaejfobbogahmaaGreatDoor
