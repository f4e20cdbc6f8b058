/-
  MLeft MLeft2 RefB RefS RefD: texts of their own, joined.
-/
import Derived.Test.YtaejfobbogahmaaGreatDoorMkMIds
set_option maxRecDepth 100000
set_option maxHeartbeats 16000000
set_option linter.all false
namespace Go.Proofs.YtaejfobbogahmaaGreatDoor
open Go Go.RowKit
section
variable {w w' w1 w2 w3 wr:World} {ρ σ:Nat→Role} {G M:Nat} {L:MLay} {m:RefM}
structure xx (w wr:World) (σ:Nat→Role) (v:Value) (ids:ByteArray→Value) (r:List (ByteArray×List Int)):Prop where
 dom:∀b,(σ b).tag≠0→w.heap.size≤b∧b < wr.heap.size∧((σ b).tag=24∨(σ b).tag=25)
 ring:SlAt wr 191 2 (fun b=>σ b=ze) v r.length (yg ids r)
 ids:∀t x,(t,x)∈r→SlAt wr 3 1 (fun b=>σ b=zR t) (ids t) x.length (x.map encI)
 fr:Fr (fun _=>False) w wr
theorem xx.start (w:World) (ids:ByteArray→Value):xx w w (fun _=>Role.none) (.slice none 0 0) ids []:=
 ⟨fun b h=>absurd rfl h,SlAt.nil,fun t x h=>absurd h (by simp),Fr.refl _ _⟩
theorem xx.go {v:Value} {ids:ByteArray→Value} {r:List (ByteArray×List Int)} (h:xx w wr σ v ids r) {E:Nat→Prop} (hE:∀b,E b→(σ b).tag=0∧w.heap.size≤b) (hf:Fr E wr w'):xx w w' σ v ids r:=
 ⟨fun b hb=>⟨(h.dom b hb).1,Nat.lt_of_lt_of_le (h.dom b hb).2.1 hf.size,(h.dom b hb).2.2⟩,
  h.ring.of_blk (fun b hb hl=>hf.block b hl (fun he=>by have:=(hE b he).1;have hb:σ b=ze:=hb;rw [hb] at this;exact absurd this (by decide))) (fun _ h _=>h),
  fun t x hx=>(h.ids t x hx).of_blk (fun b hb hl=>hf.block b hl (fun he=>by have:=(hE b he).1;have hb:σ b=zR t:=hb;rw [hb] at this;simp [zR] at this)) (fun _ h _=>h),
  Fr.trans (S':=E) h.fr hf (fun b hb=>.inr (hE b hb).2)⟩
def zGa (w:World) (σ:Nat→Role):Nat→Prop:=fun b=>(σ b).tag=0∧w.heap.size≤b
theorem xx.fresh {v:Value} {ids:ByteArray→Value} {r:List (ByteArray×List Int)} (h:xx w wr σ v ids r) {b:Nat} (hb:wr.heap.size≤b):zGa w σ b:=by
 refine ⟨?_,Nat.le_trans h.fr.size hb⟩
 by_cases e:(σ b).tag=0
 ·exact e
 ·have:=(h.dom b e).2.1;omega
theorem xx.add {v:Value} {ids:ByteArray→Value} {r:List (ByteArray×List Int)} (h:xx w wr σ v ids r) {t:ByteArray} {x:List Int} {vi':Value} (ht:∀p∈r,p.1≠t) (hx:SlAt wr 3 1 (zGa w σ) vi' x.length (x.map encI)) (hpos:0 < x.length)
 (hf1:Fr (fun _=>False) wr w1) {E:Nat→Prop} (hE:∀b,E b→σ b=ze∨b=w1.heap.size) (hf2:Fr E w1 w2) {v2:Value} {n:Nat} (hn:n=r.length+1) (hs:SlAt w2 191 2 E v2 n (yg ids r++[vs t,vi'])) :
 ∃σ' ids',xx w w2 σ' v2 ids' (r++[(t,x)]):=by
 subst hn
 have hsz1:=hf1.size
 have hsz2:=hf2.size
 obtain ⟨g,hg,hglt,hs1⟩:=zGY hs (Nat.succ_pos _)
 obtain ⟨q,hq,hqlt,hx1⟩:=zGY hx hpos
 have hwr:=h.fr.size
 have hqg:q≠g:=by
  rintro rfl
  rcases hE q hg with e | e
  ·have:=hq.1;rw [e] at this;exact absurd this (by decide)
  ·omega
 have hqE:¬E q:=fun he=>by
  rcases hE q he with e | e
  ·have:=hq.1;rw [e] at this;exact absurd this (by decide)
  ·omega
 have hgσ:σ g=ze∨(σ g).tag=0:=by
  rcases hE g hg with e | e
  ·exact .inl e
  ·exact .inr (h.fresh (by omega)).1
 have hgw:w.heap.size≤g:=by
  rcases hE g hg with e | e
  ·exact (h.dom g (by rw [e];decide)).1
  ·omega
 refine ⟨zk (zk σ g ze) q (zR t),fun s=>if s=t then vi' else ids s,⟨fun b hb=>?_,?_,?_,?_⟩⟩
 ·by_cases e:b=q
  ·subst e;exact ⟨hq.2,by omega,.inr (by rw [yo];rfl)⟩
  ·rw [zc e] at hb ⊢
   by_cases e:b=g
   ·subst e;exact ⟨hgw,hglt,.inl (by rw [yo];rfl)⟩
   ·rw [zc e] at hb ⊢
    exact ⟨(h.dom b hb).1,by have:=(h.dom b hb).2.1;omega,(h.dom b hb).2.2⟩
 ·rw [←zIY ht,List.length_append,List.length_singleton]
  exact hs1.of_blk (fun _ _ _=>rfl) (fun b hb _=>by have hb:b=g:=hb;rw [hb,zc (Ne.symm hqg),yo])
 ·intro s y hsy
  rcases List.mem_append.1 hsy with hsy | hsy
  ·have hst:s≠t:=ht _ hsy
   show SlAt _ _ _ _ (if s=t then _ else ids s) _ _
   rw [if_neg hst]
   refine (h.ids s y hsy).of_blk (fun b hb hl=>((hf2.block b (by omega) (fun he=>?_)).trans (hf1.block b hl (fun f=>f)))) (fun b hb hl=>?_)
   ·have hb:σ b=zR s:=hb
    rcases hE b he with e | e
    ·rw [hb] at e;exact absurd (congrArg Role.tag e) (by simp [zR,ze])
    ·omega
   ·have hb:σ b=zR s:=hb
    have h1:b≠q:=by rintro rfl;have:=hq.1;rw [hb] at this;simp [zR] at this
    have h2:b≠g:=by
     rintro rfl
     rcases hgσ with e | e
     ·rw [hb] at e;exact absurd (congrArg Role.tag e) (by simp [zR,ze])
     ·rw [hb] at e;simp [zR] at e
    rw [zc h1,zc h2];exact hb
  ·rw [List.mem_singleton] at hsy
   cases hsy
   show SlAt _ _ _ _ (if t=t then _ else ids t) _ _
   rw [if_pos rfl]
   exact hx1.of_blk (fun b hb hl=>by
    have hb:b=q:=hb
    subst hb
    exact (hf2.block b (by omega) hqE).trans (hf1.block b hl (fun f=>f))) (fun b hb _=>by rw [show b=q from hb,yo])
 ·exact Fr.trans (S':=E) (Fr.trans h.fr hf1 (fun _ f=>f.elim)) hf2 (fun b hb=>by
   rcases hE b hb with e | e
   ·exact .inr (h.dom b (by rw [e];decide)).1
   ·exact .inr (by omega))
theorem xx.done {v:Value} {ids:ByteArray→Value} {r:List (ByteArray×List Int)} (hm:MRep w ρ G M L m) (h:xx w wr σ v ids r) (hn:(r.map Prod.fst).Nodup) :
 wr.heap[M]?=some (.cells (yS L m.cfg m.now) 179 (0,0))∧MStA w ρ G M L {m with ring:=r} (wr.setCell ⟨M,8,none⟩ v):=by
 have h1:=hm.of_fr h.fr (fun _ f=>f.elim)
 have hM:=h1.mod.2
 refine ⟨hM,?_⟩
 have hσM:∀b,(σ b).tag≠0→b≠M:=fun b hb e=>by have:=(h.dom b hb).1;have:=hm.size;omega
 have key:=hm.put_ring (ρ':=fun b=>if (σ b).tag=0 then ρ b else σ b) (S:=fun b=>b=M) (v:=v) (ids:=ids) (l:=r) (w':=wr.setCell ⟨M,8,none⟩ v)
  (fun b hb=>by
   by_cases e:(σ b).tag=0
   ·have hb:(if (σ b).tag=0 then ρ b else σ b).tag≠0:=hb
    rw [if_pos e] at hb
    exact ⟨(hm.dom b hb).1,by have:=(hm.dom b hb).2;have:=h.fr.size;simp;omega⟩
   ·exact ⟨by have:=(h.dom b e).1;have:=hm.size;omega,by simpa using (h.dom b e).2.1⟩)
  (fun b=>by
   by_cases e:(σ b).tag=0
   ·exact .inl (if_pos e)
   ·exact .inr (.inr (.inr (h.dom b e).1)))
  (zM wr hM)
  (h.ring.of_blk (fun b hb _=>zJ wr (hσM b (by rw [show σ b=_ from hb];decide))) (fun b hb _=>by show (if (σ b).tag=0 then ρ b else σ b)=_;rw [if_neg (by rw [show σ b=_ from hb];decide)];exact hb))
  (fun t x hx=>(h.ids t x hx).of_blk (fun b hb _=>zJ wr (hσM b (by rw [show σ b=_ from hb];simp [zR]))) (fun b hb _=>by show (if (σ b).tag=0 then ρ b else σ b)=_;rw [if_neg (by rw [show σ b=_ from hb];simp [zR])];exact hb))
  hn ((Fr.mono h.fr (fun _ f=>f.elim)).setCell _ _ (.inl rfl)) (fun b hb=>.inl hb)
 obtain ⟨k1,k2⟩:=key
 exact ⟨_,_,k1,k2,rfl,rfl⟩
end
def xf (id:Int) (p:ByteArray×List Int):Option (ByteArray×List Int):=if zD p.2 id=[] then none else some (p.1,zD p.2 id)
theorem zMm {l:List (ByteArray×List Int)} {id:Int} {k:Nat} {p:ByteArray×List Int} (hk:l[k]?=some p):(l.take (k+1)).filterMap (xf id)=(l.take k).filterMap (xf id)++(if zD p.2 id=[] then [] else [(p.1,zD p.2 id)]):=by
 rw [List.take_add_one,List.filterMap_append,hk]
 congr 1
 show List.filterMap (xf id) [p]=_
 rw [List.filterMap_cons]
 unfold xf
 by_cases e:zD p.2 id=[]
 ·rw [if_pos e,if_pos e];rfl
 ·rw [if_neg e,if_neg e];rfl
theorem zIb (id:Int):∀l:List (ByteArray×List Int),((l.filterMap (xf id)).map Prod.fst).Sublist (l.map Prod.fst)
 | []=>by simp
 | p::l=>by
   rw [List.filterMap_cons]
   have ih:=zIb id l
   unfold xf at ih ⊢
   by_cases e:zD p.2 id=[]
   ·rw [if_pos e];exact ih.cons _
   ·rw [if_neg e];exact ih.cons_cons _
theorem zGb {l:List Int} {id:Int} {k:Nat} {y:Int} (hk:l[k]?=some y):zD (l.take (k+1)) id=zD (l.take k) id++(if y=id then [] else [y]):=by
 unfold zD
 rw [List.take_add_one,List.filter_append,hk]
 congr 1
 by_cases e:y=id
 ·simp [e]
 ·simp [e]
section
variable {w w' w1 w2 w3 wr wj:World} {ρ σ:Nat→Role} {G M:Nat} {L:MLay} {m:RefM}
def zDG (w:World) (m:RefM) (id:Int) (k:Nat) (va:Option Addr) (rn vc:Nat) (wr:World):Prop:=
 ∃σ ids,rn=((m.ring.take k).filterMap (xf id)).length∧xx w wr σ (.slice va rn vc) ids ((m.ring.take k).filterMap (xf id))
def InAt (w wr:World) (σ:Nat→Role) (v:Value) (ids:ByteArray→Value) (r:List (ByteArray×List Int)) (o:Obj) (id:Int) (x:List Int) (j:Nat) (ya:Option Addr) (yn yc:Nat) (wj:World):Prop:=
 yn=(zD (x.take j) id).length∧SlAt wj 3 1 (fun b=>wr.heap.size < b) (.slice ya yn yc) yn ((zD (x.take j) id).map encI)∧Fr (fun b=>wr.heap.size < b) (wr.alloc o) wj
theorem InAt.rn {v:Value} {ids:ByteArray→Value} {r:List (ByteArray×List Int)} {o:Obj} {id:Int} {x:List Int} {j:Nat} {ya:Option Addr} {yn yc:Nat} (h:InAt w wr σ v ids r o id x j ya yn yc wj) (hr:xx w wr σ v ids r) :
 xx w wj σ v ids r∧wj.heap[wr.heap.size]?=some o∧Fr (fun _=>False) w wj:=by
 have h1:=xx.go (E:=fun b=>wr.heap.size≤b) (w':=wj) hr (fun b hb=>hr.fresh hb) (Fr.trans (S':=fun b=>wr.heap.size < b) ((Fr.refl _ wr).alloc o) h.2.2 (fun b hb=>.inr (Nat.le_of_lt hb)))
 exact ⟨h1,(h.2.2.block _ (by simp) (fun hb=>Nat.lt_irrefl _ hb)).trans (zL wr),h1.fr⟩
theorem InAt.skip {v:Value} {ids:ByteArray→Value} {r:List (ByteArray×List Int)} {o:Obj} {id:Int} {x:List Int} {j:Nat} {ya:Option Addr} {yn yc:Nat} (h:InAt w wr σ v ids r o id x j ya yn yc wj) (hk:x[j]?=some id):InAt w wr σ v ids r o id x (j+1) ya yn yc wj:=by
 have e:zD (x.take (j+1)) id=zD (x.take j) id:=by rw [zGb hk,if_pos rfl,List.append_nil]
 exact ⟨by rw [e];exact h.1,by rw [e];exact h.2.1,h.2.2⟩
theorem InAt.put {v:Value} {ids:ByteArray→Value} {r:List (ByteArray×List Int)} {o o2:Obj} {id y:Int} {x:List Int} {j:Nat} {ya ya2:Option Addr} {yn yc yc2:Nat} (h:InAt w wr σ v ids r o id x j ya yn yc wj) (hk:x[j]?=some y) (hy:y≠id)
 {E:Nat→Prop} (hE:∀b,E b→wr.heap.size < b∨b=(wj.alloc o2).heap.size) (hf:Fr E (wj.alloc o2) w3) (hs:SlAt w3 3 1 E (.slice ya2 (yn+1) yc2) (yn+1) ((zD (x.take j) id).map encI++[vi y])):InAt w wr σ v ids r o id x (j+1) ya2 (yn+1) yc2 w3:=by
 have e:zD (x.take (j+1)) id=zD (x.take j) id++[y]:=by rw [zGb hk,if_neg hy]
 have hsz:wr.heap.size < (wj.alloc o2).heap.size:=by
  have:=h.2.2.size
  simp at this ⊢
  omega
 have hE2:∀b,E b→wr.heap.size < b:=fun b hb=>by
  rcases hE b hb with h1 | h1
  ·exact h1
  ·omega
 refine ⟨by rw [e,List.length_append,←h.1];rfl,by rw [e,List.map_append];exact hs.of_blk (fun _ _ _=>rfl) (fun b hb _=>hE2 b hb),?_⟩
 exact Fr.trans (S':=E) (h.2.2.alloc o2) hf (fun b hb=>.inl (hE2 b hb))
theorem zDG.skip {id:Int} {k rn vc:Nat} {va:Option Addr} {ids:ByteArray→Value} {p:ByteArray×List Int} (hk:m.ring[k]?=some p) (hw:zD p.2 id=[]) (hrn:rn=((m.ring.take k).filterMap (xf id)).length) (hr:xx w wj σ (.slice va rn vc) ids ((m.ring.take k).filterMap (xf id))):zDG w m id (k+1) va rn vc wj:=by
 have e:(m.ring.take (k+1)).filterMap (xf id)=(m.ring.take k).filterMap (xf id):=by rw [zMm hk,if_pos hw,List.append_nil]
 exact ⟨σ,ids,by rw [e];exact hrn,by rw [e];exact hr⟩
theorem zDG.put {id:Int} {k rn vc vc2 yn yc:Nat} {va va2 ya:Option Addr} {ids:ByteArray→Value} {p:ByteArray×List Int} (hnd:(m.ring.map Prod.fst).Nodup) (hk:m.ring[k]?=some p) (hw:zD p.2 id≠[]) (hrn:rn=((m.ring.take k).filterMap (xf id)).length) (hr:xx w wj σ (.slice va rn vc) ids ((m.ring.take k).filterMap (xf id)))
 (hyn:yn=(zD p.2 id).length) (hx:SlAt wj 3 1 (zGa w σ) (.slice ya yn yc) yn ((zD p.2 id).map encI)) {o:Obj} {E:Nat→Prop} (hE:∀b,E b→σ b=ze∨b=(wj.alloc o).heap.size) (hf2:Fr E (wj.alloc o) w2)
 (hs:SlAt w2 191 2 E (.slice va2 (rn+1) vc2) (rn+1) (yg ids ((m.ring.take k).filterMap (xf id))++[vs p.1,.slice ya yn yc])):zDG w m id (k+1) va2 (rn+1) vc2 w2:=by
 have e:(m.ring.take (k+1)).filterMap (xf id)=(m.ring.take k).filterMap (xf id)++[(p.1,zD p.2 id)]:=by rw [zMm hk,if_neg hw]
 subst hyn
 have ht:∀q∈(m.ring.take k).filterMap (xf id),q.1≠p.1:=fun q hq e2=>by
  have h1:q.1∈((m.ring.take k).map Prod.fst):=(zIb id _).subset (List.mem_map_of_mem hq)
  rw [e2] at h1
  obtain ⟨z,hz,ez⟩:=List.mem_map.1 h1
  obtain ⟨j,hj,e3⟩:=List.getElem_of_mem hz
  rw [List.length_take] at hj
  have h2:m.ring[j]?=some z:=by rw [List.getElem_take] at e3;rw [List.getElem?_eq_getElem (by omega),e3]
  have:=zEm hnd (t:=p.1) (x:=p.2) hk j z h2 ez
  omega
 obtain ⟨σ',ids',h2⟩:=hr.add ht hx (by cases h:zD p.2 id with | nil=>exact absurd h hw | cons a b=>simp) ((Fr.refl _ wj).alloc o) hE hf2 (by rw [hrn]) hs
 exact ⟨σ',ids',by rw [e,List.length_append,←hrn];rfl,by rw [e];exact h2⟩
theorem zUd (h:MRep w ρ G M L m) (id:Int) (hrn:m.ring.length≤1000000000000) (hin:∀p∈m.ring,p.2.length≤1000000000000) :
 Calls Tryz.prog 158 #[vp M,vi id] w fun e w'=>e=.returned (.tuple #[])∧MStA w ρ G M L (zEW m id) w':=by
 obtain ⟨a,cap,hv,hr⟩:=h.ringIn
 have cL:w.cell? ⟨M,8,none⟩=some L.ring:=h.cell (k:=8) rfl
 rw [hv] at cL
 have HR:=zh hr
 obtain ⟨n,hnn⟩:∃n,m.ring.length=n:=⟨_,rfl⟩
 have HN:=zh hnn
 rw [hnn] at cL hrn
 have HH:=zh h
 have HIN:=zh hin
 have HRN:=zh hrn
 clear h hv hr hnn hin
 go_enter Tryz.func158,Tryz.ntmps158
 go_wp2_with fail
 go_loopw [4,15] (fun s4 s15 wr=>∃(k rn vc:Nat) (va:Option Addr),s15=.int .i64 k∧s4=.slice va rn vc∧k≤n∧rn≤k∧Hid (zDG w m id k va rn vc wr)) (fun _ s15 _=>n - (intOf s15).toNat)
 case atStart=>exact ⟨0,0,0,none,by go_num,rfl,Nat.zero_le _,Nat.le_refl _,⟨_,L.ids,rfl,xx.start w L.ids⟩⟩
 case round =>
  obtain ⟨k,rn,vc,va,rfl,rfl,hk,hrk,HI⟩:=hrel
  obtain ⟨wo,rfl⟩:∃wo,wo=wr:=⟨_,rfl⟩
  by_cases hkl:k < n
  ·have hlt:decide ((k:Int) < (n:Int))=true:=decide_eq_true (by omega)
   obtain ⟨⟨t,x⟩,hkx⟩:∃p,m.ring[k]?=some p:=⟨_,List.getElem?_eq_getElem (by rw [HN.out];exact hkl)⟩
   obtain ⟨σ,ids,hq1,hq2⟩:=HI.out
   have hbw:Below w.heap.size w wo:=hq2.fr.below (Nat.le_refl _) (fun _ f=>f.elim)
   obtain ⟨b,off,hae,c0,c1⟩:=zDb (HR.out.below hbw) hkx
   subst hae
   have hk0:(0:Int)≤(k:Int):=by omega
   have hk1:(k:Int) < (n:Int):=by omega
   have HKX:=zh hkx
   have HQ1:=zh hq1
   have HQ2:=zh hq2
   have HBW:=zh hbw
   obtain ⟨ia,ic,hiv,hic⟩:=zDa (HH.out.ids t x (List.mem_of_getElem? hkx))
   rw [hiv] at c1
   have HIC:=zh hic
   obtain ⟨xn,hxn⟩:∃xn,x.length=xn:=⟨_,rfl⟩
   rw [hxn] at c1
   have hxb:xn≤1000000000000:=by rw [←hxn];exact HIN.out _ (List.mem_of_getElem? hkx)
   have HXN:=zh hxn
   obtain ⟨o,ho⟩:∃o,Obj.cells #[vs t,.slice ia xn ic] 191=o:=⟨_,rfl⟩
   have HOB:=zh ho
   clear hkx hq1 hq2 hbw hiv hic hxn HI ho
   go_wp2_with fail
   go_loopw [7,22] (fun s7 s22 wr=>∃(j yn yc:Nat) (ya:Option Addr),s22=.int .i64 j∧s7=.slice ya yn yc∧j≤xn∧yn≤j∧Hid (InAt w wo σ (.slice va rn vc) ids ((m.ring.take k).filterMap (xf id)) o id x j ya yn yc wr)) (fun _ s22 _=>xn - (intOf s22).toNat)
   case atStart=>exact ⟨0,0,0,none,by go_num,rfl,Nat.zero_le _,Nat.le_refl _,rfl,SlAt.nil,by rw [←HOB.out];exact Fr.refl _ _⟩
   case round =>
    obtain ⟨j,yn,yc,ya,rfl,rfl,hj,hyj,HJ⟩:=hrel
    obtain ⟨g1,g2,g3⟩:=HJ.out.rn HQ2.out
    by_cases hjl:j < xn
    ·have hlt2:decide ((j:Int) < (xn:Int))=true:=decide_eq_true (by omega)
     obtain ⟨y,hjy⟩:∃y,x[j]?=some y:=⟨_,List.getElem?_eq_getElem (by rw [HXN.out];exact hjl)⟩
     obtain ⟨ib,ioff,hie,ci⟩:=HIC.out j y hjy
     subst hie
     have ci2:wr.cell? ⟨ib,ioff+j,none⟩=some (vi y):=((g3.below (Nat.le_refl _) (fun _ f=>f.elim)).cell (zW ci)).trans ci
     have hj0:(0:Int)≤(j:Int):=by omega
     have hj1:(j:Int) < (xn:Int):=by omega
     have HJY:=zh hjy
     clear ci g1 g2 g3 hjy
     by_cases hyi:y=id
     ·subst hyi
      have hq:(y != y)=false:=by simp
      have hq2:(y==y)=true:=by simp
      go_wp2_with fail
      go_roundw
      case rel=>exact ⟨j+1,yn,yc,ya,by go_num,rfl,by omega,by omega,HJ.out.skip HJY.out⟩
      case measure=>simp [intOf];omega
     ·have hq:(y != id)=true:=by rw [bne_iff_ne];exact hyi
      have hq2:(y==id)=false:=beq_eq_false_iff_ne.2 hyi
      have hq3:decide (y=id)=false:=decide_eq_false hyi
      have HYI:=zh hyi
      have HSY:Hid (SlAt (wr.alloc (.cells #[vi y] 3)) 3 1 (fun b=>wo.heap.size < b) (.slice ya yn yc) yn ((zD (x.take j) id).map encI)):=HJ.out.2.1.of_blk (fun b _ hl=>zP wr hl) (fun _ h _=>h)
      have HNEW:Hid (SlAt (wr.alloc (.cells #[vi y] 3)) 3 1 (fun b=>b=wr.heap.size) (.slice (some ⟨wr.heap.size,0,none⟩) 1 1) 1 [vi y]):=SlAt.mk_new (T:=3) (sz:=1) (n:=1) wr [vi y] rfl (by simp [maxLen]) (own:=fun b=>b=wr.heap.size) rfl
      clear hyi
      go_wp2_with (at_builtin;refine zAK rfl _ _ _ rfl zBC rfl HSY.out rfl HNEW.out (by simp [Value.oneCell']) (by unfold maxLen;omega) (by omega) ?_;intro va2 vc2 w3 E he hf hl hs;have HJ2:=zh (HJ.out.put HJY.out HYI.out he hf hs);clear he hf hl hs)
      go_roundw
      case rel=>exact ⟨j+1,yn+1,_,_,by go_num,rfl,by omega,by omega,HJ2.out⟩
      case measure=>simp [intOf];omega
    ·obtain rfl:j=xn:=by omega
     have hlt2:decide ((j:Int) < (j:Int))=false:=by simp
     have hyf:zD (x.take j) id=zD x id:=by rw [←HXN.out,List.take_length]
     have hj2:=HJ.out
     unfold InAt at hj2
     rw [hyf] at hj2
     have HJ2:=zh hj2
     have G1:=zh g1
     have ct:wr.cell? ⟨wo.heap.size,0,none⟩=some (vs t):=by rw [←HOB.out] at g2;exact zB g2 rfl
     have ct1:wr.cell? ⟨wo.heap.size,1,none⟩=some (.slice ia j ic):=by rw [←HOB.out] at g2;exact zB g2 rfl
     clear g1 g2 g3 hj2 hyf c0 c1
     by_cases hy0:yn=0
     ·have HWN:Hid (zD x id=[]):=List.length_eq_zero_iff.1 (by rw [←HJ2.out.1];exact hy0)
      subst hy0
      go_wp2_with fail
      go_roundw
      case rel=>exact ⟨k+1,rn,vc,va,by go_num,rfl,by omega,by omega,zDG.skip HKX.out HWN.out HQ1.out G1.out⟩
      case measure=>simp [intOf];omega
     ·have hgt:decide (0 < (yn:Int))=true:=decide_eq_true (by omega)
      have hgt2:0 < yn:=by omega
      have HWN:Hid (zD x id≠[]):=fun e=>hy0 (by rw [HJ2.out.1,e];rfl)
      have HSR:Hid (SlAt (wr.alloc (.cells #[vs t,.slice ya yn yc] 191)) 191 2 (fun b=>σ b=ze) (.slice va rn vc) rn (yg ids ((m.ring.take k).filterMap (xf id)))):=by
       have:=G1.out.ring
       rw [←HQ1.out] at this
       exact this.of_blk (fun b _ hl=>zP wr hl) (fun _ h _=>h)
      have HNL:Hid (SlAt (wr.alloc (.cells #[vs t,.slice ya yn yc] 191)) 191 2 (fun b=>b=wr.heap.size) (.slice (some ⟨wr.heap.size,0,none⟩) 1 1) 1 [vs t,.slice ya yn yc]):=SlAt.mk_new (T:=191) (sz:=2) (n:=1) wr [vs t,.slice ya yn yc] rfl (by simp [maxLen]) (own:=fun b=>b=wr.heap.size) rfl
      have HXB:Hid (SlAt wr 3 1 (zGa w σ) (.slice ya yn yc) yn ((zD x id).map encI)):=HJ2.out.2.1.of_blk (fun _ _ _=>rfl) (fun b hb _=>HQ2.out.fresh (Nat.le_of_lt hb))
      clear hy0
      go_wp2_with (at_builtin;refine zAK rfl _ _ _ rfl zDd rfl HSR.out rfl HNL.out (by simp [Value.oneCell']) (by unfold maxLen;omega) (by omega) ?_;intro va2 vc2 w3 E he hf hl hs;have HL2:=zh (zDG.put HH.out.rnd HKX.out HWN.out HQ1.out G1.out HJ2.out.1 HXB.out he hf hs);clear he hf hl hs)
      go_roundw
      case rel=>exact ⟨k+1,rn+1,_,_,by go_num,rfl,by omega,by omega,HL2.out⟩
      case measure=>simp [intOf];omega
  ·obtain rfl:k=n:=by omega
   have hlt:decide ((k:Int) < (k:Int))=false:=by simp
   obtain ⟨σ,ids,hq1,hq2⟩:=HI.out
   rw [←HN.out,List.take_length] at hq2
   obtain ⟨k1,k2⟩:=hq2.done HH.out ((zIb id _).nodup HH.out.rnd)
   have c3:wo.cell? ⟨M,8,none⟩=some L.ring:=zB k1 rfl
   have f3:wo.frozen? ⟨M,8,none⟩=false:=zI k1
   have HP:=zh k2
   clear hq1 hq2 k1 k2 HI
   go_wp2_with fail
   go_end0
   exact ⟨rfl,HP.out⟩
end
open Go
theorem zMn (r:Raw):(zC r).conns.map MCn.n=r.conns.map Prod.fst:=by
 show (r.conns.map yt).map MCn.n=_
 rw [List.map_map];rfl
theorem zMo {r:Raw} (hn:(r.conns.map Prod.fst).Nodup) {c:Int} {x:Cn} {k:Nat} (h:r.conns[k]?=some (c,x)) (x':Cn):(aset r.conns c x').map yt=(r.conns.map yt).set k (yt (c,x')):=by
 rw [zFt x' hn (zCI hn h)]
 have:=zDX (key:=Prod.fst) (fun _=>(c,x')) r.conns k (c,x) hn h
 rw [this,List.map_set]
theorem zMp {r:Raw} (hn:(r.conns.map Prod.fst).Nodup) (c:Int):mBye (zC r) c=zC (rBye r c):=by
 unfold rBye
 cases hc:aget r.conns c with
 | none =>
   refine zLb (fun x hx e=>?_)
   obtain ⟨p,hp,rfl⟩:=List.mem_map.1 (show x∈r.conns.map yt from hx)
   have:=zCm.2 (List.mem_map_of_mem (f:=Prod.fst) hp)
   have e:p.1=c:=e
   rw [e,hc] at this
   cases this
 | some x =>
   obtain ⟨k,hk⟩:=zCH hc
   have hk':(zC r).conns[k]?=some (yt (c,x)):=by show (r.conns.map yt)[k]?=_;rw [List.getElem?_map,hk];rfl
   rw [zLc (c:=c) (by rw [zMn];exact hn) hk' rfl]
   have e1:decide ((zC r).atts.countP (fun q=>decide (q.conn=c))=0)=(yd r c).isEmpty:=by
    show decide ((r.atts.map zV).countP _=0)=(r.atts.filter _).isEmpty
    rw [List.countP_map,List.countP_eq_length_filter]
    rw [show ((fun (q:MAtt)=>decide (q.conn=c))∘zV)=(fun a:Att=>decide (a.conn=c)) from rfl]
    cases (r.atts.filter fun a=>decide (a.conn=c))<;>simp
   rw [e1]
   by_cases hb:(x.drains&&!x.gone&&(yd r c).isEmpty)=true
   ·simp only []
    rw [if_pos hb,if_pos (show ((yt (c,x)).drains&&!(yt (c,x)).gone&&(yd r c).isEmpty)=true from hb)]
    have:=zMo hn hk {x with gone:=true}
    show _=mSay (zC {r with conns:=aset r.conns c {x with gone:=true}}) c zCh
    congr 1
    unfold zC
    simp only [RefM.mk.injEq,true_and,and_true]
    exact ⟨rfl,this.symm⟩
   ·simp only []
    rw [if_neg hb,if_neg (show ¬((yt (c,x)).drains&&!(yt (c,x)).gone&&(yd r c).isEmpty)=true from hb)]
theorem zGc {l:List Att} (h:l.Pairwise fun a b=>a.seq < b.seq):(l.map Att.seq).Nodup:=by
 rw [List.nodup_iff_pairwise_ne,List.pairwise_map]
 exact h.imp (fun h e=>by omega)
theorem zDp {r:Raw} {k:Nat} {x:MAtt} (h:(zC r).atts[k]?=some x):∃a,r.atts[k]?=some a∧x=zV a:=by
 have h:(r.atts.map zV)[k]?=some x:=h
 rw [List.getElem?_map] at h
 obtain ⟨a,ha,rfl⟩:=Option.map_eq_some_iff.1 h
 exact ⟨a,ha,rfl⟩
theorem zCT {r:Raw} {k:Nat} {a:Att} (h:r.atts[k]?=some a):(zC r).atts[k]?=some (zV a):=by
 show (r.atts.map zV)[k]?=_
 rw [List.getElem?_map,h];rfl
theorem zDq {N P:Nat} {r:Raw} (hI:Inv N P r) {i:Nat} {a:Att} (ha:r.atts[i]?=some a):mEnd (zC r) i a.conn=zC (rEnd r a):=by
 obtain ⟨q,hq,_⟩:=hI.a.areq a (List.mem_of_getElem? ha)
 rw [zDM hq,←zMp (by
  have:(xb r a q.tenant).conns=r.conns:=by
   by_cases h:zT r q.tenant - 1=0
   ·rw [zDN h]
   ·rw [zDO h]
  rw [this];exact hI.q.kcn)]
 unfold mEnd
 congr 1
 have e1:=zDB (key:=Att.seq) r.atts i a (zGc hI.a.apw) ha
 have e2:(xb r a q.tenant).atts=r.atts.take i++r.atts.drop (i+1):=by rw [zJO,e1]
 have e3:zC (xb r a q.tenant)={zC r with atts:=(xb r a q.tenant).atts.map zV}:=by
  by_cases h:zT r q.tenant - 1=0
  ·rw [zDN h];rfl
  ·rw [zDO h];rfl
 rw [e3,e2,List.map_append,List.map_take,List.map_drop]
 rfl
theorem Inv.mok {N P:Nat} {r:Raw} (hI:Inv N P r):((zC r).reqs.map MReq.id).Nodup∧((zC r).conns.map MCn.n).Nodup∧(zC r).reqs.length≤N∧(zC r).ring.length≤N∧(∀p∈(zC r).ring,p.2.length≤N)∧(zC r).atts.length≤P∧(zC r).out.length≤P∧(zC r).waiting.length≤P:=by
 have hp:=hI.n.pot
 refine ⟨by rw [zRq];exact hI.q.kreq,by rw [zMn];exact hI.q.kcn,?_,?_,fun p hp=>?_,?_,?_,?_⟩
 ·show (r.reqs.map zS).length≤N;rw [List.length_map];exact hI.n.reqs
 ·show (r.ring.map _).length≤N;rw [List.length_map];exact Nat.le_trans hI.q.ring_le hI.n.reqs
 ·obtain ⟨_,e⟩:=zHx hp
  rw [e];exact Nat.le_trans (hI.q.qu_le _) hI.n.reqs
 ·show (r.atts.map _).length≤P;rw [List.length_map];omega
 ·show r.out.length≤P;omega
 ·show r.waiting.length≤P;omega
theorem zUe {N P:Nat} {r:Raw} (hI:Inv N P r) {id:Int} {i:Nat} {a:Att} (ha:r.atts[i]?=some a) (hid:a.id=id) (hno:∀(j:Nat) b,j < i→r.atts[j]?=some b→b.id≠id):(rOf r id).foldl zU r=(rOf (zU r a) id).foldl zU (zU r a):=by
 obtain ⟨q,hq,_⟩:=hI.a.areq a (List.mem_of_getElem? ha)
 have e1:=zDB (key:=Att.seq) r.atts i a (zGc hI.a.apw) ha
 have hil:=(List.getElem?_eq_some_iff.1 ha)
 have hsplit:r.atts=r.atts.take i++a::r.atts.drop (i+1):=by
  conv=>lhs;rw [←List.take_append_drop i r.atts,List.drop_eq_getElem_cons hil.1,hil.2]
 have hpre:(r.atts.take i).filter (fun b=>decide (b.id=id))=[]:=by
  rw [List.filter_eq_nil_iff]
  intro b hb
  obtain ⟨j,hj,e⟩:=List.getElem_of_mem hb
  rw [List.length_take] at hj
  have h2:r.atts[j]?=some b:=by rw [List.getElem_take] at e;rw [List.getElem?_eq_getElem (by omega),e]
  simp
  exact hno j b (by omega) h2
 have e2:rOf r id=a::(r.atts.drop (i+1)).filter (fun b=>decide (b.id=id)):=by
  unfold rOf
  conv=>lhs;rw [hsplit]
  rw [List.filter_append,hpre,List.nil_append,List.filter_cons_of_pos (by simp [hid])]
 have e3:rOf (zU r a) id=(r.atts.drop (i+1)).filter (fun b=>decide (b.id=id)):=by
  unfold rOf
  rw [zFE hq,e1,List.filter_append,hpre,List.nil_append]
 rw [e2,List.foldl_cons,e3]
theorem zMq {l:List (Int×Req)} (hn:(l.map Prod.fst).Nodup) {k:Nat} {id:Int} {q:Req} (h:l[k]?=some (id,q)) (q':Req):aset l id q'=l.set k (id,q'):=by
 rw [zFt q' hn (zCI hn h)]
 exact zDX (key:=Prod.fst) (fun _=>(id,q')) l k (id,q) hn h
theorem zUf {l:List (Int×Req)} {k:Nat} {id:Int} {q:Req} (h:l[k]?=some (id,q)) (q':Req):(l.set k (id,q')).map Prod.fst=l.map Prod.fst:=by
 apply List.ext_getElem?
 intro j
 rw [List.getElem?_map,List.getElem?_set,List.getElem?_map]
 by_cases e:k=j
 ·subst e;rw [if_pos rfl,if_pos (List.getElem?_eq_some_iff.1 h).1,h];rfl
 ·rw [if_neg e]
theorem zMr {l:List (Int×Req)} (hn:(l.map Prod.fst).Nodup) {k:Nat} {id:Int} {q:Req} (h:l[k]?=some (id,q)) (a b:Req):(aset (aset l id a) id b).map zS=(l.map zS).set k (zS (id,b)):=by
 have h1:=zMq hn h a
 have hl:=(List.getElem?_eq_some_iff.1 h).1
 have h2:(l.set k (id,a))[k]?=some (id,a):=by rw [List.getElem?_set,if_pos rfl,if_pos hl]
 have hn2:((l.set k (id,a)).map Prod.fst).Nodup:=by rw [zUf h];exact hn
 rw [h1,zMq hn2 h2 b,List.set_set,List.map_set]
theorem zIc {r:Raw} {k:Nat} {t:ByteArray} {l:List Int} (h:(zC r).ring[k]?=some (t,l)):r.ring[k]?=some t∧l=qOf r t:=by
 have h:(r.ring.map fun t=>(t,qOf r t))[k]?=some (t,l):=h
 rw [List.getElem?_map] at h
 obtain ⟨s,hs,e⟩:=Option.map_eq_some_iff.1 h
 injection e with e1 e2
 subst e1
 exact ⟨hs,e2.symm⟩
def zId (m:RefM) (c:Int) (ws:List Int) (k:Nat) (t:ByteArray) (rest:List Int) (kq:Nat) (q:MReq):RefM:=
 mSay {m with waiting:=ws,ring:=m.ring.take k++m.ring.drop (k+1)++(if rest=[] then [] else [(t,rest)]),reqs:=m.reqs.set kq {q with n:=q.n+1},atts:=m.atts++[⟨q.id,q.n+1,c,m.now,m.now+m.cfg.lease⟩]} c (zN [wRun,decI q.id,decI (q.n+1),q.tenant.data.toList,q.text.data.toList])
theorem zUg {N P:Nat} {r:Raw} (hI:Inv N P r) {c:Int} {ws:List Int} (hw:r.waiting=c::ws) {k:Nat} {t:ByteArray} {id:Int} {rest:List Int} (hk:(zC r).ring[k]?=some (t,id::rest)) (ht:xQ r=some t) {kq:Nat} {q:Req} (hq:r.reqs[kq]?=some (id,q)) :
 zC (xN r)=zId (zC r) c ws k t rest kq (zS (id,q)):=by
 obtain ⟨hkr,hqt⟩:=zIc hk
 have hag:=zCI hI.q.kreq hq
 obtain ⟨q',hq',hten,hqd⟩:=hI.q.qreq t id (by rw [←hqt];simp)
 rw [hag] at hq';cases hq'
 subst hten
 have hnd:=hI.q.qnd q.tenant
 rw [←hqt,List.nodup_cons] at hnd
 have hwo:zD (qOf r q.tenant) id=rest:=by
  rw [←hqt]
  unfold zD
  rw [List.filter_cons_of_neg (by simp),List.filter_eq_self]
  intro y hy
  simp
  rintro rfl
  exact hnd.1 hy
 have hdel:zD r.ring q.tenant=r.ring.take k++r.ring.drop (k+1):=zDB (key:=fun x=>x) r.ring k q.tenant (by rw [List.map_id'];exact hI.q.rnd) hkr
 rw [zFF hw ht hqt.symm hag]
 have hring:∀(f:ByteArray→List Int),(∀s,s≠q.tenant→f s=qOf r s)→(zD r.ring q.tenant).map (fun s=>(s,f s))=(zC r).ring.take k++(zC r).ring.drop (k+1):=fun f hf=>by
  have:(zD r.ring q.tenant).map (fun s=>(s,f s))=(zD r.ring q.tenant).map (fun s=>(s,qOf r s)):=by
   apply List.map_congr_left
   intro s hs
   rw [hf s (zDL.1 hs).2]
  rw [this,hdel,List.map_append,List.map_take,List.map_drop]
  rfl
 have hag0:aget ({r with waiting:=ws}:Raw).reqs id=some q:=hag
 by_cases hr:rest=[]
 ·subst hr
  have hu:=zEA (r:={r with waiting:=ws}) (id:=id) (q:=q) hag0 hqd hwo
  have hQ:=fun s=>zGv {r with waiting:=ws,reqs:=aset r.reqs id {q with queued:=false},ring:=zD r.ring q.tenant} q.tenant s hI.q.kqu
  have hrot:rRot (zO {r with waiting:=ws} id) q.tenant=zO {r with waiting:=ws} id:=by
   unfold rRot
   rw [if_pos]
   rw [hu]
   have:=hQ q.tenant
   rw [if_pos rfl] at this
   exact this
  rw [hrot,hu]
  unfold zId mSay rSay zBA zAz zAR zC
  simp only [RefM.mk.injEq,true_and,and_true]
  refine ⟨zMr hI.q.kreq hq _ _,by rw [List.map_append];rfl,?_,rfl⟩
  exact (hring _ (fun s hs=>by have:=hQ s;rw [if_neg (fun e=>hs e.symm)] at this;exact this)).trans (by simp [zC])
 ·have hu:=zEB (r:={r with waiting:=ws}) (id:=id) (q:=q) hag0 hqd (by show zD (qOf r q.tenant) id≠[];rw [hwo];exact hr)
  have hQ:=fun s=>zDz {r with waiting:=ws,reqs:=aset r.reqs id {q with queued:=false}} q.tenant s (zD (qOf r q.tenant) id)
  have hrot:rRot (zO {r with waiting:=ws} id) q.tenant={zO {r with waiting:=ws} id with ring:=zD r.ring q.tenant++[q.tenant]}:=by
   unfold rRot
   rw [if_neg]
   ·rw [hu]
   ·rw [hu]
    have:=hQ q.tenant
    rw [if_pos rfl] at this
    intro e
    exact hr (by rw [←hwo];exact this.symm.trans e)
  rw [hrot,hu]
  unfold zId mSay rSay zBA zAz zAR zC
  simp only [RefM.mk.injEq,true_and,and_true]
  refine ⟨zMr hI.q.kreq hq _ _,by rw [List.map_append];rfl,?_,rfl⟩
  rw [if_neg hr,List.map_append]
  congr 1
  ·exact hring _ (fun s hs=>by have:=hQ s;rw [if_neg (fun e=>hs e.symm)] at this;exact this)
  ·have:=hQ q.tenant
   rw [if_pos rfl] at this
   show [(q.tenant,_)]=_
   congr 2
   exact this.trans hwo
theorem zMs {N P:Nat} {r:Raw} (hI:Inv N P r) {id att c:Int} {i:Nat} {a:Att} (hai:r.atts[i]?=some a) (h1:a.id=id) (h2:a.att=att):rAtt r id att c=if a.conn=c then some a else none:=by
 have ham:=List.mem_of_getElem? hai
 have hun:∀b∈rOf r id,b.att=att→b=a:=fun b hb hba=>by
  obtain ⟨hbm,hbi⟩:=List.mem_filter.1 hb
  exact hI.a.aatt b hbm a ham ((of_decide_eq_true hbi).trans h1.symm) (hba.trans h2.symm)
 unfold rAtt
 cases hf:(rOf r id).find? fun b=>decide (b.att=att)&&decide (b.conn=c) with
 | none =>
   rw [if_neg]
   intro hc
   have h3:=List.find?_eq_none.1 hf a (List.mem_filter.2 ⟨ham,by simp [h1]⟩)
   simp [h2,hc] at h3
 | some b =>
   have hp:=List.find?_some hf
   simp only [Bool.and_eq_true,decide_eq_true_eq] at hp
   have hb:=hun b (List.mem_of_find?_eq_some hf) hp.1
   subst hb
   rw [if_pos hp.2]
theorem zMt {r:Raw} {id att c:Int} (h:∀b∈(zC r).atts,¬(b.id=id∧b.n=att)):rAtt r id att c=none:=by
 unfold rAtt
 rw [List.find?_eq_none]
 intro b hb
 obtain ⟨hbm,hbi⟩:=List.mem_filter.1 hb
 have:=h (zV b) (List.mem_map_of_mem hbm)
 simp
 intro hba
 exact absurd ⟨of_decide_eq_true hbi,hba⟩ this
end Go.Proofs.YtaejfobbogahmaaGreatDoor
