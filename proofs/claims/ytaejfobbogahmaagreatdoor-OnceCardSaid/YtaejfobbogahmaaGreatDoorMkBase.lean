/-
  Base Maps Slices: texts of their own, joined.
-/
import Derived.Test.YtaejfobbogahmaaGreatDoorProg
import Derived.WalkKit
import Derived.WalkSpells
import Derived.WalkLawsBesides
import Derived.Lib.Hide
import Derived.MapKept
import Derived.Deep.AppendSrc
import Derived.Deep.RegionHeld3
import Derived.Deep.AppendLies
import Derived.Deep.MidRow
set_option maxRecDepth 100000
set_option maxHeartbeats 16000000
set_option linter.all false
namespace Go.Proofs.YtaejfobbogahmaaGreatDoor
open Go Go.RowKit
theorem zh {p:Prop} (h:p):Go.RowKit.Hid p:=h
section
variable (w:World)
theorem zO {b off:Nat} {v:Value} {cs:Array Value} {T:TypeId} {fr:Nat×Nat} (h:w.heap[b]?=some (.cells cs T fr)) :
 (w.setCell ⟨b,off,none⟩ v).heap[b]?=some (.cells (cs.setIfInBounds off v) T fr):=by
 simp only [World.setCell,Array.getElem?_modify,if_true,h,Option.map_some]
 rfl
theorem zG {b:Nat} {a:Addr} {v:Value} (h:b≠a.block):(w.setCell a v).heap[b]?=w.heap[b]?:=
 Below.heap_setCell w a v b h
theorem zM {b:Nat} {o:Obj} (h:b < w.heap.size):(w.alloc o).heap[b]?=w.heap[b]?:=
 Below.heap_alloc w o b h
theorem zP {o:Obj}:(w.alloc o).heap[w.heap.size]?=some o:=by
 simp only [World.alloc,Array.getElem?_push,if_true]
theorem zD {b:Nat} {o:Obj} (h:w.heap[b]?=some o):b < w.heap.size:=
 (Array.getElem?_eq_some_iff.1 h).1
theorem zB {w:World} {b off:Nat} {v:Value} {cs:Array Value} {T:TypeId} {fr:Nat×Nat} (h:w.heap[b]?=some (.cells cs T fr)) (hv:cs[off]?=some v) :
 w.cell? ⟨b,off,none⟩=some v:=by
 simp [World.cell?,h,hv]
theorem zCM {w:World} {b off:Nat} {cs:Array Value} {T:TypeId} {fr:Nat×Nat} (h:w.heap[b]?=some (.cells cs T fr)) :
 w.cell? ⟨b,off,none⟩=cs[off]?:=by
 simp [World.cell?,h]
theorem zK {w:World} {b off:Nat} {cs:Array Value} {T:TypeId} (h:w.heap[b]?=some (.cells cs T (0,0))) :
 w.frozen? ⟨b,off,none⟩=false:=by
 simp [World.frozen?,h]
end
structure Fr (S:Nat→Prop) (w w':World):Prop where
 os:w'.os=w.os
 tape:w'.tape=w.tape
 output:w'.output=w.output
 size:w.heap.size≤w'.heap.size
 block:∀k,k < w.heap.size→¬S k→w'.heap[k]?=w.heap[k]?
theorem Fr.refl (S:Nat→Prop) (w:World):Fr S w w:=⟨rfl,rfl,rfl,Nat.le_refl _,fun _ _ _=>rfl⟩
theorem Fr.trans {S S':Nat→Prop} {a b c:World} (h:Fr S a b) (k:Fr S' b c) (hS:∀x,S' x→S x∨a.heap.size≤x):Fr S a c:=
 ⟨k.os.trans h.os,k.tape.trans h.tape,k.output.trans h.output,Nat.le_trans h.size k.size,fun i hi hn =>
  (k.block i (Nat.lt_of_lt_of_le hi h.size) (fun hx=>by rcases hS i hx with h1 | h1;exact hn h1;omega)).trans (h.block i hi hn)⟩
theorem Fr.mono {S S':Nat→Prop} {a b:World} (h:Fr S a b) (hS:∀x,S x→S' x∨a.heap.size≤x):Fr S' a b:=
 ⟨h.os,h.tape,h.output,h.size,fun i hi hn=>h.block i hi (fun hx=>by rcases hS i hx with h1 | h1;exact hn h1;omega)⟩
theorem Fr.drew {S:Nat→Prop} {a b:World} (h:Fr S a b):Fr S a b.drew:=⟨h.os,h.tape,h.output,h.size,h.block⟩
theorem Fr.ofDrew {S:Nat→Prop} {a b:World} (h:Fr S a.drew b):Fr S a b:=⟨h.os,h.tape,h.output,h.size,h.block⟩
theorem Fr.alloc {S:Nat→Prop} {a b:World} (h:Fr S a b) (o:Obj):Fr S a (b.alloc o):=
 ⟨h.os,h.tape,h.output,by simp;have:=h.size;omega,fun i hi hn=>(Below.heap_alloc b o i (Nat.lt_of_lt_of_le hi h.size)).trans (h.block i hi hn)⟩
theorem Fr.setCell {S:Nat→Prop} {a b:World} (h:Fr S a b) (p:Addr) (v:Value) (hp:S p.block∨a.heap.size≤p.block):Fr S a (b.setCell p v):=
 ⟨h.os,h.tape,h.output,by simp;exact h.size,fun i hi hn=>(Below.heap_setCell b p v i (fun e=>by subst e;rcases hp with h1 | h1;exact hn h1;omega)).trans (h.block i hi hn)⟩
theorem Fr.of_below {S:Nat→Prop} {a b:World} (h:Below a.heap.size a b):Fr S a b:=
 ⟨h.os,h.tape,h.output,h.size,fun i hi _=>h.block i hi⟩
theorem Fr.below {a b:World} {S:Nat→Prop} {B:Nat} (h:Fr S a b) (hB:B≤a.heap.size) (hS:∀x,S x→B≤x):Below B a b:=
 ⟨h.os,h.tape,h.output,h.size,fun i hi=>h.block i (Nat.lt_of_lt_of_le hi hB) (fun hx=>by have:=hS i hx;omega)⟩
section
variable {K V W:Type} [DecidableEq K]
def aget:List (K×V)→K→Option V
 | [],_=>none
 | (a,v)::r,k=>if a=k then some v else aget r k
def aset:List (K×V)→K→V→List (K×V)
 | [],k,v=>[(k,v)]
 | (a,x)::r,k,v=>if a=k then (k,v)::r else (a,x)::aset r k v
def adel:List (K×V)→K→List (K×V)
 | [],_=>[]
 | (a,x)::r,k=>if a=k then r else (a,x)::adel r k
theorem zV (l:List (K×V)) (k j:K) (v:V):aget (aset l k v) j=if k=j then some v else aget l j:=by
 induction l with
 | nil=>simp [aset,aget]
 | cons p r ih =>
   obtain ⟨a,x⟩:=p
   unfold aset
   by_cases h:a=k
   ·subst h
    simp only [if_true,aget]
    split<;>rfl
   ·rw [if_neg h]
    simp only [aget,ih]
    by_cases h2:a=j
    ·subst h2;simp [Ne.symm h]
    ·simp [h2]
theorem zHv (l:List (K×V)) (k:K) (h:k∉l.map Prod.fst):aget l k=none:=by
 induction l with
 | nil=>rfl
 | cons p r ih =>
   obtain ⟨a,x⟩:=p
   simp only [List.map_cons,List.mem_cons,not_or] at h
   simp [aget,Ne.symm h.1,ih h.2]
theorem yQ {l:List (K×V)} {k:K} {v:V} (h:aget l k=some v):(k,v)∈l:=by
 induction l with
 | nil=>cases h
 | cons p r ih =>
   obtain ⟨a,x⟩:=p
   unfold aget at h
   split at h
   ·rename_i e;subst e;cases h;exact List.mem_cons_self
   ·exact List.mem_cons_of_mem _ (ih h)
theorem xA {l:List (K×V)} {k:K} {v:V} (hn:(l.map Prod.fst).Nodup) (h:(k,v)∈l):aget l k=some v:=by
 induction l with
 | nil=>cases h
 | cons p r ih =>
   obtain ⟨a,x⟩:=p
   simp only [List.map_cons,List.nodup_cons] at hn
   rcases List.mem_cons.1 h with e | e
   ·cases e;simp [aget]
   ·have:a≠k:=fun e2=>hn.1 (by subst e2;exact List.mem_map.2 ⟨_,e,rfl⟩)
    simp [aget,this,ih hn.2 e]
theorem zBG {l:List (K×V)} {k:K}:(aget l k).isSome=true↔k∈l.map Prod.fst:=by
 induction l with
 | nil=>simp [aget]
 | cons p r ih =>
   obtain ⟨a,x⟩:=p
   unfold aget
   by_cases h:a=k
   ·simp [h]
   ·simp only [h,if_false,ih,List.map_cons,List.mem_cons]
    constructor
    ·exact Or.inr
    ·rintro (e | e)
     ·exact absurd e.symm h
     ·exact e
theorem zBH (l:List (K×V)) (k j:K) (hn:(l.map Prod.fst).Nodup):aget (adel l k) j=if k=j then none else aget l j:=by
 induction l with
 | nil=>simp [adel,aget]
 | cons p r ih =>
   obtain ⟨a,x⟩:=p
   simp only [List.map_cons,List.nodup_cons] at hn
   unfold adel
   by_cases h:a=k
   ·subst h
    simp only [if_true]
    by_cases h2:a=j
    ·subst h2;simp [zHv _ _ hn.1]
    ·simp [aget,h2]
   ·rw [if_neg h]
    simp only [aget,ih hn.2]
    by_cases h2:a=j
    ·subst h2;simp [Ne.symm h]
    ·simp [h2]
theorem zDM (l:List (K×V)) (k:K) (v:V):(aset l k v).map Prod.fst=if k∈l.map Prod.fst then l.map Prod.fst else l.map Prod.fst++[k]:=by
 induction l with
 | nil=>simp [aset]
 | cons p r ih =>
   obtain ⟨a,x⟩:=p
   unfold aset
   by_cases h:a=k
   ·subst h;simp
   ·rw [if_neg h]
    simp only [List.map_cons,ih,List.mem_cons]
    by_cases h2:k∈r.map Prod.fst
    ·simp [h2]
    ·simp [h2,Ne.symm h]
theorem zw {l:List (K×V)} (hn:(l.map Prod.fst).Nodup) (k:K) (v:V):((aset l k v).map Prod.fst).Nodup:=by
 rw [zDM]
 split
 ·exact hn
 ·rename_i h
  rw [List.nodup_append]
  exact ⟨hn,by simp,fun a ha b hb=>by simp at hb;subst hb;exact fun e=>h (e ▸ ha)⟩
theorem zBc (l:List (K×V)) (k:K):(adel l k).Sublist l:=by
 induction l with
 | nil=>exact List.Sublist.refl _
 | cons p r ih =>
   obtain ⟨a,x⟩:=p
   unfold adel
   split
   ·exact List.sublist_cons_self _ _
   ·exact ih.cons_cons _
theorem zAQ {l:List (K×V)} (hn:(l.map Prod.fst).Nodup) (k:K):((adel l k).map Prod.fst).Nodup:=
 hn.sublist ((zBc l k).map _)
theorem zHw (l:List (K×V)) (k:K) (v:V):(aset l k v).length≤l.length+1:=by
 have:=congrArg List.length (zDM l k v)
 rw [List.length_map] at this
 rw [this];split<;>simp
theorem zHx {l:List (K×V)} {k:K} {x:V} (h:aget l k=some x) (v:V):(aset l k v).length=l.length:=by
 have:=congrArg List.length (zDM l k v)
 rw [List.length_map] at this
 rw [this,if_pos (zBG.1 (by rw [h];rfl))];simp
theorem zAR {l:List (K×V)} {k j:K} {v x:V} (h:(j,x)∈aset l k v):(j,x)∈l∨(j=k∧x=v):=by
 induction l with
 | nil=>simp [aset] at h;exact .inr h
 | cons p r ih =>
   obtain ⟨a,y⟩:=p
   unfold aset at h
   split at h
   ·rcases List.mem_cons.1 h with e | e
    ·cases e;exact .inr ⟨rfl,rfl⟩
    ·exact .inl (List.mem_cons_of_mem _ e)
   ·rcases List.mem_cons.1 h with e | e
    ·cases e;exact .inl List.mem_cons_self
    ·rcases ih e with h1 | h1
     ·exact .inl (List.mem_cons_of_mem _ h1)
     ·exact .inr h1
def amap (f:K→V→W) (l:List (K×V)):List (K×W):=l.map fun p=>(p.1,f p.1 p.2)
theorem zy (f:K→V→W) (l:List (K×V)) (k:K):aget (amap f l) k=(aget l k).map (f k):=by
 induction l with
 | nil=>rfl
 | cons p r ih =>
   obtain ⟨a,x⟩:=p
   simp only [amap,List.map_cons,aget] at *
   split
   ·rename_i h;subst h;rfl
   ·exact ih
theorem zBI (f:K→V→W) (l:List (K×V)) (k:K) (v:V):aset (amap f l) k (f k v)=amap f (aset l k v):=by
 induction l with
 | nil=>rfl
 | cons p r ih =>
   obtain ⟨a,x⟩:=p
   simp only [amap,List.map_cons,aset] at *
   split
   ·simp
   ·simp [ih]
theorem zAq (f:K→V→W) (l:List (K×V)) (k:K):adel (amap f l) k=amap f (adel l k):=by
 induction l with
 | nil=>rfl
 | cons p r ih =>
   obtain ⟨a,x⟩:=p
   simp only [amap,List.map_cons,adel] at *
   split
   ·rfl
   ·simp [ih]
end
theorem zEt {K V W:Type} (f g:K→V→W) (l:List (K×V)) (h:∀k v,(k,v)∈l→f k v=g k v):amap f l=amap g l:=by
 unfold amap
 exact List.map_congr_left fun p hp=>by rw [h p.1 p.2 hp]
theorem zEu {K V W:Type} (f:K→V→W) (l:List (K×V)):(amap f l).map Prod.fst=l.map Prod.fst:=by
 simp [amap,Function.comp_def]
open Go Go.RowKit Go.MapKept
structure xZ (P:Program) (k:TypeId) (K:Type) where
 enc:K→Value
 kd:TypeDesc
 hk:P.underlying k=some kd
 isKey:∀a,IsKey kd (enc a)
 inj:∀a b,enc a=enc b→a=b
def zHy {P:Program} {k:TypeId} (hk:P.underlying k=some (.int .i64)):xZ P k Int where
 enc:=fun n=>.int .i64 n
 kd:=.int .i64
 hk:=hk
 isKey:=fun a=>rfl
 inj:=fun a b h=>by injection h
def zHz {P:Program} {k:TypeId} (hk:P.underlying k=some .string):xZ P k ByteArray where
 enc:=fun s=>.string s
 kd:=.string
 hk:=hk
 isKey:=fun a=>trivial
 inj:=fun a b h=>by injection h
def yG {K:Type} (enc:K→Value) (es:List MapEntry) (l:List (K×Value)):Prop:=
 es.map (fun e=>(e.key,e.val))=l.map (fun p=>(enc p.1,p.2))
def zN {K:Type} (enc:K→Value) (w:World) (b:Nat) (l:List (K×Value)):Prop:=
 ∃es clock,w.heap[b]?=some (.map es clock)∧yG enc es.toList l∧Stamped es clock
section
variable {K:Type} {enc:K→Value}
theorem zN.of_blk {w w':World} {b:Nat} {l:List (K×Value)} (h:zN enc w b l) (hb:w'.heap[b]?=w.heap[b]?):zN enc w' b l:=by
 obtain ⟨es,clock,h1,h2⟩:=h
 exact ⟨es,clock,hb.trans h1,h2⟩
theorem zN.lt {w:World} {b:Nat} {l:List (K×Value)} (h:zN enc w b l):b < w.heap.size:=by
 obtain ⟨es,clock,h1,h2⟩:=h
 exact zD w h1
theorem zN.made {w:World}:zN enc (w.alloc (.map #[] 0)) w.heap.size []:=
 ⟨#[],0,zP w,rfl,stamped_empty 0⟩
theorem yG.cons_inv {e:MapEntry} {es:List MapEntry} {l:List (K×Value)} (h:yG enc (e::es) l):∃a v l',l=(a,v)::l'∧e.key=enc a∧e.val=v∧yG enc es l':=by
 cases l with
 | nil=>simp [yG] at h
 | cons p l' =>
   obtain ⟨a,v⟩:=p
   simp only [yG,List.map_cons,List.cons.injEq,Prod.mk.injEq] at h
   exact ⟨a,v,l',rfl,h.1.1,h.1.2,h.2⟩
theorem yG.nil_inv {l:List (K×Value)} (h:yG enc [] l):l=[]:=by
 cases l with
 | nil=>rfl
 | cons p l'=>simp [yG] at h
theorem yG.length {es:List MapEntry} {l:List (K×Value)} (h:yG enc es l):es.length=l.length:=by
 have:=congrArg List.length h
 simpa using this
end
section
variable {P:Program} {k:TypeId} {K:Type} [DecidableEq K] (E:xZ P k K)
theorem xZ.same (a b:K):Instr.sameNow E.kd (E.enc a) (E.enc b)=some (decide (a=b)):=by
 obtain ⟨r,hr,hiff⟩:=sameNow_of_keys (E.isKey a) (E.isKey b)
 rw [hr]
 congr 1
 rw [Bool.eq_iff_iff,hiff,decide_eq_true_eq]
 exact ⟨E.inj a b,fun e=>by rw [e]⟩
theorem zCN (x:K):∀(es:List MapEntry) (l:List (K×Value)) (i:Nat),yG E.enc es l →
 (aget l x=none∧Instr.findNow E.kd (E.enc x) es i=some none∧(∀e∈es,e.key≠E.enc x)) ∨
 ∃j v,aget l x=some v∧Instr.findNow E.kd (E.enc x) es i=some (some (i+j,v))∧(∃e,es[j]?=some e∧e.key=E.enc x∧e.val=v) ∧
  (∀f:MapEntry→MapEntry,(∀e,(f e).key=e.key)→∀u,(∀e,(f e).val=u)→yG E.enc (es.modify j f) (aset l x u))∧yG E.enc (es.eraseIdx j) (adel l x)
 | [],l,i,h=>by
   have:=h.nil_inv;subst this
   exact .inl ⟨rfl,rfl,by simp⟩
 | e::es,l,i,h=>by
   obtain ⟨a,v,l',rfl,hk,hv,h'⟩:=h.cons_inv
   by_cases hax:a=x
   ·subst hax
    refine .inr ⟨0,v,by simp [aget],by simp [Instr.findNow,hk,hv,xZ.same],⟨e,rfl,hk,hv⟩,?_,?_⟩
    ·intro f hf u hu
     simp only [List.modify_zero_cons,aset,if_true]
     simp only [yG,List.map_cons,List.cons.injEq,Prod.mk.injEq]
     exact ⟨⟨by rw [hf,hk],hu e⟩,h'⟩
    ·simpa [adel] using h'
   ·have hne:decide (x=a)=false:=by simp [Ne.symm hax]
    rcases zCN x es l' (i+1) h' with ⟨h1,h2,h3⟩ | ⟨j,u,h1,h2,h3,h4,h5⟩
    ·refine .inl ⟨by simp [aget,hax,h1],by simp [Instr.findNow,hk,xZ.same,hne,h2],?_⟩
     intro y hy
     rcases List.mem_cons.1 hy with e2 | e2
     ·subst e2;rw [hk];exact fun q=>hax (E.inj _ _ q)
     ·exact h3 y e2
    ·refine .inr ⟨j+1,u,by simp [aget,hax,h1],by simp [Instr.findNow,hk,xZ.same,hne,h2];omega,by simpa using h3,?_,?_⟩
     ·intro f hf u' hu
      have:=h4 f hf u' hu
      simp only [List.modify_succ_cons,aset,if_neg hax]
      simp only [yG,List.map_cons,List.cons.injEq,Prod.mk.injEq] at this ⊢
      exact ⟨⟨hk,hv⟩,this⟩
     ·simp only [List.eraseIdx_cons_succ,adel,if_neg hax]
      simp only [yG,List.map_cons,List.cons.injEq,Prod.mk.injEq] at h5 ⊢
      exact ⟨⟨hk,hv⟩,h5⟩
theorem zCO {w:World} {b:Nat} {l:List (K×Value)} (h:zN E.enc w b l) {t e:TypeId} (ht:P.underlying t=some (.map k e)) {z:Value} (hz:(zeroValue e).run P w=.ok z w) (x:K) :
 (Instr.lookup t (.map (some b)) (E.enc x) false).run P w=.ok ((aget l x).getD z) w:=by
 obtain ⟨es,clock,hb,hes,hst⟩:=h
 have hck:=MapKept.run_checkKey (w:=w) E.hk (E.isKey x) es.isEmpty 9999
 rcases zCN E x es.toList l 0 hes with ⟨h1,h2,h3⟩ | ⟨j,v,h1,h2,h3,h4,h5⟩
 ·have hf:=MapKept.run_findKey (w:=w) E.hk h2
  simp [Instr.lookup,run_underlying ht,MapKept.run_getObj_map hb,hck,hf,hz,h1,Result.andThen]
 ·have hf:=MapKept.run_findKey (w:=w) E.hk h2
  simp [Instr.lookup,run_underlying ht,MapKept.run_getObj_map hb,hck,hf,h1,Result.andThen]
theorem zEv {w:World} {b:Nat} {l:List (K×Value)} (h:zN E.enc w b l) {t e:TypeId} (ht:P.underlying t=some (.map k e)) (x:K) (v:Value) :
 ∃w',(Instr.mapUpdate t (.map (some b)) (E.enc x) v).run P w=.ok () w'∧zN E.enc w' b (aset l x v)∧w'.heap.size=w.heap.size∧Fr (fun i=>i=b) w w':=by
 obtain ⟨es,clock,hb,hes,hst⟩:=h
 have hlt:=zD w hb
 have hck:=MapKept.run_checkKey (w:=w) E.hk (E.isKey x) false 9999
 have hfr:∀o,Fr (fun i=>i=b) w {w with heap:=w.heap.setIfInBounds b o}:=fun o=>⟨rfl,rfl,rfl,by simp,fun i hi hn=>by simp [Ne.symm hn]⟩
 rcases zCN E x es.toList l 0 hes with ⟨h1,h2,h3⟩ | ⟨j,u,h1,h2,⟨e0,h3,h3k,h3v⟩,h4,h5⟩
 ·have hf:=MapKept.run_findKey (w:=w) E.hk h2
  refine ⟨{w with heap:=w.heap.setIfInBounds b (.map (es.push {key:=E.enc x,val:=v,born:=clock}) (clock+1))},?_,⟨es.push {key:=E.enc x,val:=v,born:=clock},clock+1,by simp [hlt],?_,stamped_push hst (fun e he=>h3 e he)⟩,by simp,hfr _⟩
  ·simp [Instr.mapUpdate,run_underlying ht,MapKept.run_getObj_map hb,hck,hf,MapKept.run_setObj_map _ hb,Result.andThen]
  ·simp only [yG,Array.toList_push,List.map_append,List.map_cons,List.map_nil]
   rw [hes]
   clear hes h2 h3 hf
   induction l with
   | nil=>rfl
   | cons p r ih =>
     obtain ⟨a,y⟩:=p
     simp only [aget] at h1
     split at h1
     ·cases h1
     ·rename_i hne
      simp only [aset,if_neg hne,List.map_cons,List.cons_append,ih h1]
 ·have hf:=MapKept.run_findKey (w:=w) E.hk h2
  have h3a:es[j]?=some e0:=by simpa using h3
  have hks:=MapKept.run_keyThatStays (P:=P) (w:=w) (E.isKey x)
  refine ⟨{w with heap:=w.heap.setIfInBounds b (.map (es.modify j fun e=>{e with key:=E.enc x,val:=v}) clock)},?_,⟨es.modify j fun e=>{e with key:=E.enc x,val:=v},clock,by simp [hlt],?_,?_⟩,by simp,hfr _⟩
  ·simp [Instr.mapUpdate,run_underlying ht,MapKept.run_getObj_map hb,hck,hf,h3a,h3k,hks,MapKept.run_setObj_map _ hb,Result.andThen]
  ·have:=h4 (fun e=>{e with val:=v}) (fun _=>rfl) v (fun _=>rfl)
   rw [Array.toList_modify]
   unfold yG at this ⊢
   rw [←this]
   apply List.ext_getElem?
   intro i
   simp only [List.getElem?_map,List.getElem?_modify]
   by_cases hij:j=i
   ·subst hij
    simp [h3,h3k]
   ·simp [hij]
  ·exact stamped_modify hst j _ (fun _ _=>rfl) (fun e _ he=>by rw [h3a] at he;cases he;exact h3k.symm)
theorem zIA {w:World} {b:Nat} {l:List (K×Value)} (h:zN E.enc w b l) {t e:TypeId} (ht:P.underlying t=some (.map k e)) (x:K) (ty:TypeId) (tk:TypeId) :
 ∃w',(Builtin.delete_ #[t,tk] ty #[.map (some b),E.enc x]).run P w=.ok (.tuple #[]) w'∧zN E.enc w' b (adel l x)∧w'.heap.size=w.heap.size∧Fr (fun i=>i=b) w w':=by
 obtain ⟨es,clock,hb,hes,hst⟩:=h
 have hlt:=zD w hb
 have hck:=MapKept.run_checkKey (w:=w) E.hk (E.isKey x) es.isEmpty 9999
 have hfr:∀o,Fr (fun i=>i=b) w {w with heap:=w.heap.setIfInBounds b o}:=fun o=>⟨rfl,rfl,rfl,by simp,fun i hi hn=>by simp [Ne.symm hn]⟩
 rcases zCN E x es.toList l 0 hes with ⟨h1,h2,h3⟩ | ⟨j,u,h1,h2,⟨e0,h3,h3k,h3v⟩,h4,h5⟩
 ·have hf:=MapKept.run_findKey (w:=w) E.hk h2
  refine ⟨{w with heap:=w.heap.setIfInBounds b (.map es clock)},?_,⟨es,clock,by simp [hlt],?_,hst⟩,by simp,hfr _⟩
  ·simp [Builtin.delete_,run_underlying ht,MapKept.run_getObj_map hb,hck,hf,MapKept.run_setObj_map _ hb,Result.andThen]
  ·have:adel l x=l:=by
    clear hes h2 h3 hf
    induction l with
    | nil=>rfl
    | cons p r ih =>
      obtain ⟨a,y⟩:=p
      simp only [aget] at h1
      split at h1
      ·cases h1
      ·rename_i hne
       simp only [adel,if_neg hne,ih h1]
   rw [this];exact hes
 ·have hf:=MapKept.run_findKey (w:=w) E.hk h2
  have hjs:j < es.size:=by
   have:=(List.getElem?_eq_some_iff.1 h3).1
   simpa using this
  refine ⟨{w with heap:=w.heap.setIfInBounds b (.map (es.eraseIdxIfInBounds j) clock)},?_,⟨es.eraseIdxIfInBounds j,clock,by simp [hlt],?_,stamped_erase hst j⟩,by simp,hfr _⟩
  ·simp [Builtin.delete_,run_underlying ht,MapKept.run_getObj_map hb,hck,hf,MapKept.run_setObj_map _ hb,Result.andThen]
  ·have:(es.eraseIdxIfInBounds j).toList=es.toList.eraseIdx j:=by
    unfold Array.eraseIdxIfInBounds
    rw [dif_pos hjs,Array.toList_eraseIdx]
   rw [this];exact h5
end
theorem zAS {b:Nat} {T:TypeId} {fr:Nat×Nat}:∀(vs:List Value) (o:Nat) (w:World) (cs:Array Value),w.heap[b]?=some (.cells cs T fr)→o+vs.length≤cs.size →
 ∃cs',(w.setCells b o vs).heap[b]?=some (.cells cs' T fr)∧cs'.size=cs.size∧(∀j u,vs[j]?=some u→cs'[o+j]?=some u)∧(∀i,i < o∨o+vs.length≤i→cs'[i]?=cs[i]?)
 | [],o,w,cs,h,_=>⟨cs,h,rfl,by simp,fun _ _=>rfl⟩
 | v::vs,o,w,cs,h,hl=>by
   simp only [List.length_cons] at hl
   obtain ⟨cs',h1,h2,h3,h4⟩:=zAS vs (o+1) (w.setCell ⟨b,o,none⟩ v) (cs.setIfInBounds o v) (zO w h) (by simp;omega)
   refine ⟨cs',h1,by simpa using h2,?_,?_⟩
   ·intro j u hj
    cases j with
    | zero =>
      simp only [List.getElem?_cons_zero,Option.some.injEq] at hj
      subst hj
      rw [h4 (o+0) (by omega)]
      simp [show o < cs.size by omega]
    | succ j =>
      simp only [List.getElem?_cons_succ] at hj
      have:=h3 j u hj
      rwa [show o+1+j=o+(j+1) by omega] at this
   ·intro i hi
    simp only [List.length_cons] at hi
    rw [h4 i (by omega),Array.getElem?_setIfInBounds_ne (by omega)]
theorem zAG {S:Nat→Prop} {b:Nat}:∀(vs:List Value) (o:Nat) (a w:World),Fr S a w→(S b∨a.heap.size≤b)→Fr S a (w.setCells b o vs)
 | [],_,_,_,h,_=>h
 | v::vs,o,a,_,h,hb=>zAG vs (o+1) a _ (h.setCell ⟨b,o,none⟩ v hb) hb
def SlAt (w:World) (T:TypeId) (sz:Nat) (own:Nat→Prop) (v:Value) (n:Nat) (xs:List Value):Prop:=
 (v=.slice none 0 0∧n=0∧xs=[]) ∨
 ∃b off cap cs,v=.slice (some ⟨b,off,none⟩) n cap∧own b∧w.heap[b]?=some (.cells cs T (0,0))∧n≤cap∧cap≤maxLen∧off+cap*sz≤cs.size∧xs.length=n*sz ∧
  ∀j u,xs[j]?=some u→cs[off+j]?=some u
section
variable {w w':World} {T:TypeId} {sz:Nat} {own own':Nat→Prop} {v:Value} {n:Nat} {xs:List Value}
theorem SlAt.nil:SlAt w T sz own (.slice none 0 0) 0 []:=.inl ⟨rfl,rfl,rfl⟩
theorem SlAt.of_blk (h:SlAt w T sz own v n xs) (hb:∀b,own b→b < w.heap.size→w'.heap[b]?=w.heap[b]?) (ho:∀b,own b→b < w.heap.size→own' b):SlAt w' T sz own' v n xs:=by
 rcases h with h | ⟨b,off,cap,cs,h1,h2,h3,h4⟩
 ·exact .inl h
 ·exact .inr ⟨b,off,cap,cs,h1,ho b h2 (zD w h3),(hb b h2 (zD w h3)).trans h3,h4⟩
theorem SlAt.length (h:SlAt w T sz own v n xs):xs.length=n*sz:=by
 rcases h with ⟨_,rfl,rfl⟩ | ⟨b,off,cap,cs,h1,h2,h3,h4,h5,h6,h7,h8⟩
 ·simp
 ·exact h7
theorem SlAt.form (h:SlAt w T sz own v n xs) (hn:0 < n):∃b off cap,v=.slice (some ⟨b,off,none⟩) n cap∧own b∧b < w.heap.size∧n≤cap∧cap≤maxLen ∧
 (∀j u,xs[j]?=some u→w.cell? ⟨b,off+j,none⟩=some u)∧(∀j,w.frozen? ⟨b,j,none⟩=false):=by
 rcases h with ⟨_,rfl,_⟩ | ⟨b,off,cap,cs,h1,h2,h3,h4,h5,h6,h7,h8⟩
 ·omega
 ·exact ⟨b,off,cap,h1,h2,zD w h3,h4,h5,fun j u hj=>zB h3 (h8 j u hj),fun j=>zK h3⟩
theorem SlAt.form' (h:SlAt w T sz own v n xs):∃a cap,v=.slice a n cap∧n≤cap∧cap≤maxLen:=by
 rcases h with ⟨rfl,rfl,_⟩ | ⟨b,off,cap,cs,h1,h2,h3,h4,h5,h6,h7,h8⟩
 ·exact ⟨none,0,rfl,Nat.le_refl _,by simp [maxLen]⟩
 ·exact ⟨_,cap,h1,h4,h5⟩
theorem SlAt.mk_new (w:World) (cs:List Value) (hcs:cs.length=n*sz) (hn:n≤maxLen) (ho:own w.heap.size):SlAt (w.alloc (.cells cs.toArray T)) T sz own (.slice (some ⟨w.heap.size,0,none⟩) n n) n cs:=
 .inr ⟨w.heap.size,0,n,cs.toArray,rfl,ho,zP w,Nat.le_refl _,hn,by simp [hcs],hcs,fun j u hj=>by simpa using hj⟩
end
structure yj (P:Program) (t e:TypeId) (sz bytes:Nat):Prop where
 ex:∃i z,P.underlying t=some (.slice e)∧P.info? e=some i∧i.zero=some z∧i.size=sz∧i.bytes=bytes∧z.cells.size=sz
 pos:0 < sz
section
variable {P:Program} (w:World)
theorem zIB {t e:TypeId} {sz bytes:Nat} (E:yj P t e sz bytes) {own:Nat→Prop} {v:Value} {n:Nat} {xs:List Value} (h:SlAt w e sz own v n xs)
 {tx ty:TypeId} {x:Value} {m:Nat} {news:List Value} (hs:Src P sz tx x m news w) (hm:0 < m) (h63:n+m≤maxLen) (hbytes:(n+m)*bytes≤140737488355328) :
 ∃g off cap w',(Builtin.append_ #[t,tx] ty #[v,x]).run P w=.ok (.slice (some ⟨g,off,none⟩) (n+m) cap) w'∧(own g∨g=w.heap.size) ∧
  SlAt w' e sz (fun b=>b=g) (.slice (some ⟨g,off,none⟩) (n+m) cap) (n+m) (xs++news)∧Fr (fun b=>b=g) w w'∧g < w'.heap.size∧w'.heap.size≤w.heap.size+1∧(g < w.heap.size→w'.heap.size=w.heap.size):=by
 obtain ⟨⟨i,z,ht,hi,hz,hsz,hby,hzs⟩,hpos⟩:=E
 subst hsz;subst hby
 have hml:m≤maxLen:=by omega
 have grow:∀(base:Option Addr) (cap:Nat) (olds:List Value),(Builtin.firstCells i.size n (.slice base n cap)).run P w.drew=.ok olds.toArray w.drew→olds.length=n*i.size→olds=xs→cap < n+m →
  ∃g off cap' w',(Builtin.append_ #[t,tx] ty #[.slice base n cap,x]).run P w=.ok (.slice (some ⟨g,off,none⟩) (n+m) cap') w'∧(own g∨g=w.heap.size) ∧
  SlAt w' e i.size (fun b=>b=g) (.slice (some ⟨g,off,none⟩) (n+m) cap') (n+m) (xs++news)∧Fr (fun b=>b=g) w w'∧g < w'.heap.size∧w'.heap.size≤w.heap.size+1∧(g < w.heap.size→w'.heap.size=w.heap.size):=by
  intro base cap olds hold hlo he hg
  subst he
  have hr:=run_append_grow_src (P:=P) w t tx ty e i z ht hi hz base n cap olds hold x m news hs hg (by simp only [maxLen] at h63;omega) (growslice_fits hg hbytes)
  have hge:=grownCap_ge w (n+m) cap e
  have hcm:grownCap w (n+m) cap e≤maxLen:=grownCap_le_maxLen w (n+m) cap e h63
  have hlen:(olds++news).length=(n+m)*i.size:=by rw [List.length_append,hlo,hs.newsLen,Nat.add_mul]
  refine ⟨w.heap.size,0,grownCap w (n+m) cap e,_,hr,.inr rfl,.inr ⟨w.heap.size,0,grownCap w (n+m) cap e,_,rfl,rfl,zP w.drew,hge,hcm,?_,hlen,?_⟩,?_,by simp,by simp,by omega⟩
  ·rw [Array.size_append,List.size_toArray,hlen,size_zeroCells,hzs,←Nat.add_mul]
   simp only [Nat.zero_add]
   refine Nat.mul_le_mul_right _ ?_
   omega
  ·intro j u hj
   simp only [Nat.zero_add]
   rw [Array.getElem?_append_left (by rw [List.size_toArray];exact (List.getElem?_eq_some_iff.1 hj).1)]
   simpa using hj
  ·exact ((Fr.refl _ w).drew).alloc _
 rcases h with ⟨rfl,rfl,rfl⟩ | ⟨b,off,cap,cs,rfl,h2,h3,h4,h5,h6,h7,h8⟩
 ·exact grow none 0 [] (run_firstCells_none w.drew i.size 0 0 0) (by simp) rfl (by omega)
 ·by_cases hroom:n+m≤cap
  ·have hroom':n*i.size+m*i.size≤cap*i.size:=by rw [←Nat.add_mul];exact Nat.mul_le_mul_right _ hroom
   have hcell:∀j,j < news.length→(w.cell? ⟨b,off+n*i.size+j,none⟩).isSome=true:=fun j hj=>by
    rw [hs.newsLen] at hj
    rw [zCM h3]
    simp;omega
   have hr:=run_append_room_src (P:=P) w t tx ty e i ht hi b off n cap x m news hs hroom hcell (fun j _=>zK h3)
   obtain ⟨cs',k1,k2,k3,k4⟩:=zAS news (off+n*i.size) w cs h3 (by rw [hs.newsLen];omega)
   have hsize:(w.setCells b (off+n*i.size) news).heap.size=w.heap.size:=by
    have hf:=zAG (S:=fun _=>True) (b:=b) news (off+n*i.size) w w (Fr.refl _ w) (.inl trivial)
    have:∀(vs:List Value) (o:Nat) (w0:World),(w0.setCells b o vs).heap.size=w0.heap.size:=by
     intro vs
     induction vs with
     | nil=>intro o w0;rfl
     | cons u vs ih=>intro o w0;rw [World.setCells,ih];simp
    exact this _ _ _
   refine ⟨b,off,cap,_,hr,.inl h2,.inr ⟨b,off,cap,cs',rfl,rfl,k1,hroom,h5,by omega,by rw [List.length_append,h7,hs.newsLen,Nat.add_mul],?_⟩,
    zAG news _ w w (Fr.refl _ w) (.inl rfl),by rw [hsize];exact zD w h3,by omega,fun _=>hsize⟩
   intro j u hj
   by_cases hjx:j < xs.length
   ·rw [List.getElem?_append_left hjx] at hj
    rw [k4 _ (by omega)]
    exact h8 j u hj
   ·rw [List.getElem?_append_right (by omega)] at hj
    have:=k3 _ u hj
    rwa [show off+n*i.size+(j - xs.length)=off+j by omega] at this
  ·exact grow (some ⟨b,off,none⟩) cap xs (run_firstCells_some w.drew i.size n ⟨b,off,none⟩ n cap xs h7 (fun j u hj=>by
    rw [Addr.add_lit];exact zB (w:=w.drew) h3 (h8 j u hj))) h7 rfl (by omega)
end
end Go.Proofs.YtaejfobbogahmaaGreatDoor
