/-
  MRep MSay MConn: texts of their own, joined.
-/
import Derived.Test.YtaejfobbogahmaaGreatDoorMkSay
import Derived.Test.YtaejfobbogahmaaGreatDoorMkRefP
import Derived.Test.YtaejfobbogahmaaGreatDoorMkRSeal
set_option maxRecDepth 100000
set_option maxHeartbeats 16000000
set_option linter.all false
namespace Go.Proofs.YtaejfobbogahmaaGreatDoor
open Go Go.RowKit
def rMod:Role:=⟨21,0,xS⟩
def yB:Role:=⟨22,0,xS⟩
def yE:Role:=⟨23,0,xS⟩
def ze:Role:=⟨24,0,xS⟩
def zR (t:ByteArray):Role:=⟨25,0,t⟩
def yQ:Role:=⟨26,0,xS⟩
def zn:Role:=⟨27,0,xS⟩
def yL:Role:=⟨28,0,xS⟩
structure MLay where
 reqs:Value
 atts:Value
 ring:Value
 waiting:Value
 conns:Value
 out:Value
 ids:ByteArray→Value
def yS (L:MLay) (c:Cfg) (now:Int):Array Value:=#[vi c.lease,vi c.retries,vi c.cap,vi c.bound,vi c.hedge,vi now,L.reqs,L.atts,L.ring,L.waiting,L.conns,L.out]
def zEX (l:List MReq):List Value:=l.flatMap fun q=>[vi q.id,vi q.conn,vs q.tenant,vs q.text,vi q.n,vi q.left,.bool q.hedged]
def zFy (l:List MAtt):List Value:=l.flatMap fun a=>[vi a.id,vi a.n,vi a.conn,vi a.since,vi a.till]
def yg (ids:ByteArray→Value) (l:List (ByteArray×List Int)):List Value:=l.flatMap fun p=>[vs p.1,ids p.1]
def zCJ (l:List MCn):List Value:=l.flatMap fun x=>[vi x.n,vs (bs x.rest),.bool x.drains,.bool x.gone]
structure MRep (w:World) (ρ:Nat→Role) (G M:Nat) (L:MLay) (m:RefM):Prop where
 dom:∀b,(ρ b).tag≠0→G≤b∧b < w.heap.size
 mod:ρ M=rMod∧w.heap[M]?=some (.cells (yS L m.cfg m.now) 179 (0,0))
 reqs:SlAt w 189 7 (fun b=>ρ b=yB) L.reqs m.reqs.length (zEX m.reqs)
 atts:SlAt w 186 5 (fun b=>ρ b=yE) L.atts m.atts.length (zFy m.atts)
 ring:SlAt w 191 2 (fun b=>ρ b=ze) L.ring m.ring.length (yg L.ids m.ring)
 ids:∀t l,(t,l)∈m.ring→SlAt w 3 1 (fun b=>ρ b=zR t) (L.ids t) l.length (l.map encI)
 rnd:(m.ring.map Prod.fst).Nodup
 waiting:SlAt w 3 1 (fun b=>ρ b=yQ) L.waiting m.waiting.length (m.waiting.map encI)
 conns:SlAt w 183 4 (fun b=>ρ b=zn) L.conns m.conns.length (zCJ m.conns)
 out:SlAt w 59 2 (fun b=>ρ b=yL) L.out m.out.length (yG m.out)
section
variable {w w':World} {ρ ρ':Nat→Role} {G M:Nat} {L:MLay} {m:RefM}
theorem MRep.of_fr (h:MRep w ρ G M L m) {S:Nat→Prop} (hf:Fr S w w') (hS:∀b,S b→¬Of ρ b):MRep w' ρ G M L m:=by
 have hb:∀b,(ρ b).tag≠0→w'.heap[b]?=w.heap[b]?:=fun b hr=>hf.block b (h.dom b hr).2 (fun hs=>hS b hs hr)
 have k:∀{T:TypeId} {sz:Nat} {R:Role} {v:Value} {n:Nat} {xs:List Value},R.tag≠0→SlAt w T sz (fun b=>ρ b=R) v n xs→SlAt w' T sz (fun b=>ρ b=R) v n xs:=fun hR hs =>
  hs.of_blk (fun b hr _=>hb b (by rw [show ρ b=_ from hr];exact hR)) (fun b hr _=>hr)
 exact ⟨fun b hr=>⟨(h.dom b hr).1,Nat.lt_of_lt_of_le (h.dom b hr).2 hf.size⟩,⟨h.mod.1,(hb M (by rw [h.mod.1];simp [rMod])).trans h.mod.2⟩,k (by simp [yB]) h.reqs,k (by simp [yE]) h.atts,k (by simp [ze]) h.ring,
  fun t l hl=>k (by simp [zR]) (h.ids t l hl),h.rnd,k (by simp [yQ]) h.waiting,k (by simp [zn]) h.conns,k (by simp [yL]) h.out⟩
theorem MRep.drew (h:MRep w ρ G M L m):MRep w.drew ρ G M L m:=h.of_fr (S:=fun _=>False) ((Fr.refl _ w).drew) (fun _ h=>h.elim)
theorem MRep.alloc (h:MRep w ρ G M L m) (o:Obj):MRep (w.alloc o) ρ G M L m:=h.of_fr (S:=fun _=>False) ((Fr.refl _ w).alloc o) (fun _ h=>h.elim)
theorem MRep.grow (h:MRep w ρ G M L m) (hb:Below w.heap.size w w'):MRep w' ρ G M L m:=h.of_fr (S:=fun _=>False) (Fr.of_below hb) (fun _ h=>h.elim)
theorem MRep.size (h:MRep w ρ G M L m):G≤M∧M < w.heap.size:=h.dom M (by rw [h.mod.1];simp [rMod])
theorem MRep.dom_set (h:MRep w ρ G M L m) {g:Nat} {R:Role} (hs:w.heap.size≤w'.heap.size) (hg:(ρ g).tag≠0∨w.heap.size≤g) (hlt:g < w'.heap.size):∀b,(zk ρ g R b).tag≠0→G≤b∧b < w'.heap.size:=by
 intro b hb
 have:=h.size
 by_cases e:b=g
 ·subst e
  rcases hg with h1 | h1
  ·exact ⟨(h.dom b h1).1,hlt⟩
  ·exact ⟨by omega,hlt⟩
 ·rw [zc e] at hb
  exact ⟨(h.dom b hb).1,Nat.lt_of_lt_of_le (h.dom b hb).2 hs⟩
theorem MRep.keeps (h:MRep w ρ G M L m) {g:Nat} {R:Role} (hg:ρ g=R∨w.heap.size≤g) (hR:R.tag≠0∧R.tag≠21) (hf:Fr (fun b=>b=M∨b=g) w w') :
 M≠g∧∀{T:TypeId} {sz:Nat} {R':Role} {v:Value} {n:Nat} {xs:List Value},R'.tag≠21→R'≠R→SlAt w T sz (fun b=>ρ b=R') v n xs→SlAt w' T sz (fun b=>zk ρ g R b=R') v n xs:=by
 have hMg:M≠g:=by
  rintro rfl
  rcases hg with h1 | h1
  ·rw [h.mod.1] at h1;rw [←h1] at hR;exact hR.2 rfl
  ·have:=h.size;omega
 refine ⟨hMg,fun hR' hne hs=>hs.of_blk (fun b hr hl=>hf.block b hl ?_) (fun b hr hl=>?_)⟩
 ·rintro (rfl | rfl)
  ·rw [h.mod.1] at hr;rw [←hr] at hR';exact hR' rfl
  ·rcases hg with h1 | h1
   ·exact hne (hr.symm.trans h1)
   ·omega
 ·have hbg:b≠g:=by
   rintro rfl
   rcases hg with h1 | h1
   ·exact hne (hr.symm.trans h1)
   ·omega
  rw [zc hbg]
  exact hr
theorem MRep.step_set (h:MRep w ρ G M L m) {g:Nat} {R:Role} (hg:ρ g=R∨w.heap.size≤g) (hR:R.tag≠0) (hf:Fr (fun b=>b=M∨b=g) w w'):Step ρ (zk ρ g R) w w':=by
 have hg':Of ρ g∨w.heap.size≤g:=hg.imp (fun h=>by unfold Of;rw [h];exact hR) id
 refine Step.set (hf.mono fun x hx=>?_) hg'
 rcases hx with rfl | rfl
 ·exact .inl (by unfold Of;rw [h.mod.1];simp [rMod])
 ·exact hg'
def MSt (w:World) (ρ:Nat→Role) (G M:Nat) (m':RefM) (w':World):Prop:=∃ρ' L',MRep w' ρ' G M L' m'∧Step ρ ρ' w w'
theorem MRep.st (h:MRep w ρ G M L m):MSt w ρ G M m w:=⟨ρ,L,h,Step.refl _ _⟩
theorem MSt.trans {w'':World} {m' m'':RefM} (h:MSt w ρ G M m' w') (k:∀ρ' L',MRep w' ρ' G M L' m'→MSt w' ρ' G M m'' w''):MSt w ρ G M m'' w'':=by
 obtain ⟨ρ',L',h1,h2⟩:=h
 obtain ⟨ρ'',L'',h3,h4⟩:=k ρ' L' h1
 exact ⟨ρ'',L'',h3,h2.trans h4⟩
theorem yH {R R':Role} (h:R.tag≠R'.tag):R≠R':=fun e=>h (by rw [e])
theorem MRep.put_conns (h:MRep w ρ G M L m) {g:Nat} {v:Value} {l:List MCn} (hg:ρ g=zn∨w.heap.size≤g) (hlt:g < w'.heap.size)
 (hM:w'.heap[M]?=some (.cells (yS {L with conns:=v} m.cfg m.now) 179 (0,0))) (hs:SlAt w' 183 4 (fun b=>b=g) v l.length (zCJ l)) (hf:Fr (fun b=>b=M∨b=g) w w'):MSt w ρ G M {m with conns:=l} w':=by
 obtain ⟨hMg,k⟩:=h.keeps hg (by simp [zn]) hf
 refine ⟨zk ρ g zn,{L with conns:=v},⟨h.dom_set hf.size (hg.imp (fun h=>by rw [h];simp [zn]) id) hlt,⟨by rw [zc hMg];exact h.mod.1,hM⟩,k (by simp [yB]) (yH (by simp [yB,zn])) h.reqs,k (by simp [yE]) (yH (by simp [yE,zn])) h.atts,k (by simp [ze]) (yH (by simp [ze,zn])) h.ring,
  fun t l hl=>k (by simp [zR]) (yH (by simp [zR,zn])) (h.ids t l hl),h.rnd,k (by simp [yQ]) (yH (by simp [yQ,zn])) h.waiting,?_,k (by simp [yL]) (yH (by simp [yL,zn])) h.out⟩,h.step_set hg (by simp [zn]) hf⟩
 exact hs.of_blk (fun _ _ _=>rfl) (fun b hb _=>by rw [hb];exact yo _ _ _)
theorem zCK {T:TypeId} {sz:Nat} {own:Nat→Prop} {b off n cap:Nat} {xs:List Value} (h:SlAt w T sz own (.slice (some ⟨b,off,none⟩) n cap) n xs) {i:Nat} (hi:i < n*sz) (v:Value) :
 SlAt (w.setCell ⟨b,off+i,none⟩ v) T sz own (.slice (some ⟨b,off,none⟩) n cap) n (xs.set i v):=by
 rcases h with ⟨h,_⟩ | ⟨b',off',cap',cs,e,hb,hblk,hc1,hc2,hsz,hlen,hcell⟩
 ·cases h
 injection e with e1 e2 e3
 injection e1 with e1
 injection e1 with e4 e5
 subst e4;subst e5;subst e3
 refine .inr ⟨b,off,cap,_,rfl,hb,zM _ hblk,hc1,hc2,by simpa using hsz,by simpa using hlen,?_⟩
 intro j u hj
 rw [List.getElem?_set] at hj
 rw [Array.getElem?_setIfInBounds]
 have hcap:n*sz≤cap*sz:=Nat.mul_le_mul_right _ hc1
 by_cases e:i=j
 ·subst e
  have hi':i < xs.length:=by rw [hlen];exact hi
  simp [hi'] at hj
  subst hj
  simp;omega
 ·rw [if_neg e] at hj
  rw [if_neg (by omega)]
  exact hcell j u hj
theorem zBf {T:TypeId} {sz:Nat} {own:Nat→Prop} {b off n cap:Nat} {xs:List Value} (h:SlAt w T sz own (.slice (some ⟨b,off,none⟩) n cap) n xs):own b∧b < w.heap.size∧SlAt w T sz (fun x=>x=b) (.slice (some ⟨b,off,none⟩) n cap) n xs:=by
 rcases h with ⟨h,_⟩ | ⟨b',off',cap',cs,e,hb,hblk,hc1,hc2,hsz,hlen,hcell⟩
 ·cases h
 injection e with e1 e2 e3
 injection e1 with e1
 injection e1 with e4 e5
 subst e4;subst e5;subst e3
 exact ⟨hb,zF _ hblk,.inr ⟨b,off,cap,cs,rfl,rfl,hblk,hc1,hc2,hsz,hlen,hcell⟩⟩
end
section
variable {w w' w1 w2 w3:World} {ρ:Nat→Role} {G M:Nat} {L:MLay} {m:RefM}
theorem MRep.cell (h:MRep w ρ G M L m) {k:Nat} {v:Value} (hv:(yS L m.cfg m.now)[k]?=some v):w.cell? ⟨M,k,none⟩=some v:=zB h.mod.2 hv
theorem MRep.frozen (h:MRep w ρ G M L m) (k:Nat):w.frozen? ⟨M,k,none⟩=false:=zI h.mod.2
def zBE (ρ:Nat→Role):Nat→Role:=fun b=>if (ρ b).tag=28 then Role.none else ρ b
def zRu (w:World) (ρ:Nat→Role) (G M:Nat) (L:MLay) (m:RefM) (e:Ending) (w':World):Prop:=
 e=.returned L.out∧MRep w' (zBE ρ) G M {L with out:=.slice none 0 0} {m with out:=[]}∧Step ρ (zBE ρ) w w' ∧
  SlAt w' 59 2 (fun b=>Of ρ b∧¬Of (zBE ρ) b) L.out m.out.length (yG m.out)
theorem zRv (h:MRep w ρ G M L m) :
 MRep (w.setCell ⟨M,11,none⟩ (.slice none 0 0)) (zBE ρ) G M {L with out:=.slice none 0 0} {m with out:=[]}∧Step ρ (zBE ρ) w (w.setCell ⟨M,11,none⟩ (.slice none 0 0)) ∧
 SlAt (w.setCell ⟨M,11,none⟩ (.slice none 0 0)) 59 2 (fun b=>Of ρ b∧¬Of (zBE ρ) b) L.out m.out.length (yG m.out):=by
 have hMr:=h.mod.1
 have hf:Fr (fun b=>b=M) w (w.setCell ⟨M,11,none⟩ (.slice none 0 0)):=(Fr.refl _ w).setCell _ _ (.inl rfl)
 have hdo:∀b,(zBE ρ b).tag≠0→(ρ b).tag≠0:=fun b hb=>by
  unfold zBE at hb
  split at hb
  ·exact absurd rfl hb
  ·exact hb
 have k:∀{T:TypeId} {sz:Nat} {R':Role} {v:Value} {n:Nat} {xs:List Value},R'.tag≠21∧R'.tag≠28→SlAt w T sz (fun b=>ρ b=R') v n xs→SlAt (w.setCell ⟨M,11,none⟩ (.slice none 0 0)) T sz (fun b=>zBE ρ b=R') v n xs:=fun hR hs =>
  hs.of_blk (fun b hr hl=>hf.block b hl (fun e=>by have hr:ρ b=_:=hr;rw [e,hMr] at hr;rw [←hr] at hR;exact hR.1 rfl)) (fun b hr hl=>by
   have hr:ρ b=_:=hr
   show zBE ρ b=_
   unfold zBE
   rw [if_neg (by rw [hr];exact hR.2)]
   exact hr)
 refine ⟨⟨fun b hb=>⟨(h.dom b (hdo b hb)).1,Nat.lt_of_lt_of_le (h.dom b (hdo b hb)).2 hf.size⟩,⟨by unfold zBE;rw [hMr];rfl,zM w h.mod.2⟩,k (by simp [yB]) h.reqs,k (by simp [yE]) h.atts,k (by simp [ze]) h.ring,
  fun t l hl=>k (by simp [zR]) (h.ids t l hl),h.rnd,k (by simp [yQ]) h.waiting,k (by simp [zn]) h.conns,SlAt.nil⟩,
  ⟨hf.mono (fun x hx=>.inl (by rw [hx];unfold Of;rw [hMr];simp [rMod])),fun b hb=>.inl (hdo b hb)⟩,?_⟩
 refine SlAt.of_blk h.out (fun b hb _=>zJ w (by rintro rfl;rw [hMr] at hb;simp [rMod,yL] at hb)) (fun b hb _=>?_)
 have hb:ρ b=yL:=hb
 exact ⟨by unfold Of;rw [hb];simp [yL],by unfold Of zBE;rw [hb];simp [yL,Role.none]⟩
theorem zRw (h:MRep w ρ G M L m):Calls Tryz.prog 116 #[vp M] w (zRu w ρ G M L m):=by
 have c11:=h.cell (k:=11) rfl
 have f11:=h.frozen 11
 have HP:=zh (zRv h)
 clear h
 go_enter Tryz.func116,Tryz.ntmps116
 go_wp2_with fail
 go_ret
 exact ⟨rfl,HP.out⟩
def mSay (m:RefM) (c:Int) (s:zA):RefM:={m with out:=m.out++[(c,zi s)]}
theorem zRx (h:MRep w ρ G M L m) (hb:Below w.heap.size w w2) (o:Obj) :
 Fr (fun _=>False) w (w2.alloc o)∧SlAt (w2.alloc o) 59 2 (fun b=>ρ b=yL) L.out m.out.length (yG m.out)∧w2.cell? ⟨M,11,none⟩=some L.out∧w2.frozen? ⟨M,11,none⟩=false∧(w2.alloc o).frozen? ⟨M,11,none⟩=false∧(w2.alloc o).cell? ⟨M,11,none⟩=some L.out:=by
 have h2:Fr (fun _=>False) w w2:=Fr.of_below hb
 have h3:=h2.alloc o
 have r2:=h.of_fr h2 (fun b f=>f.elim)
 have r3:=h.of_fr h3 (fun b f=>f.elim)
 exact ⟨h3,r3.out,r2.cell (k:=11) rfl,r2.frozen 11,r3.frozen 11,r3.cell (k:=11) rfl⟩
end
theorem zBU {α:Type} {f:α→List Value} {sz:Nat} (hf:∀a,(f a).length=sz):∀(l:List α) (k j:Nat) (a:α),l[k]?=some a→j < sz→(l.flatMap f)[k*sz+j]?=(f a)[j]?
 | [],_,_,_,h,_=>by simp at h
 | x::l,0,j,a,h,hj=>by
   simp at h;subst h
   rw [List.flatMap_cons,Nat.zero_mul,Nat.zero_add,List.getElem?_append_left (by rw [hf];exact hj)]
 | x::l,k+1,j,a,h,hj=>by
   have ih:=zBU hf l k j a (by simpa using h) hj
   have e:(k+1)*sz=k*sz+sz:=by rw [Nat.add_mul];omega
   rw [List.flatMap_cons,List.getElem?_append_right (by rw [hf,e];omega),hf,←ih]
   congr 1
   omega
theorem zBg {α:Type} {f:α→List Value} {sz:Nat} (hf:∀a,(f a).length=sz):∀(l:List α) (k j:Nat) (a a':α) (v:Value),l[k]?=some a→j < sz→(f a).set j v=f a'→(l.flatMap f).set (k*sz+j) v=(l.set k a').flatMap f
 | [],_,_,_,_,_,h,_,_=>by simp at h
 | x::l,0,j,a,a',v,h,hj,hv=>by
   simp at h;subst h
   rw [List.flatMap_cons,Nat.zero_mul,Nat.zero_add,List.set_append_left _ _ (by rw [hf];exact hj),hv]
   rfl
 | x::l,k+1,j,a,a',v,h,hj,hv=>by
   have ih:=zBg hf l k j a a' v (by simpa using h) hj hv
   have e:(k+1)*sz=k*sz+sz:=by rw [Nat.add_mul];omega
   rw [List.flatMap_cons,List.set_append_right _ _ (by rw [hf,e];omega),hf,List.set_cons_succ,List.flatMap_cons,←ih]
   congr 2
   omega
def mcnC (x:MCn):List Value:=[vi x.n,vs (bs x.rest),.bool x.drains,.bool x.gone]
theorem zCf (l:List MCn):zCJ l=l.flatMap mcnC:=rfl
theorem zDZ (x:MCn):(mcnC x).length=4:=rfl
theorem zRy:(Tryz.prog.info? 183).map (fun i=>(i.zero,i.size,i.bytes))=some (some (.agg #[.int .i64 0,.string ⟨#[]⟩,.bool false,.bool false]),4,32):=by kernel_rfl
theorem zLU:yF Tryz.prog 177 183 4 32:=yF.of_parts Tryz.underlying177 zRy rfl (by decide)
def mHas (m:RefM) (c:Int):Bool:=m.conns.any fun x=>decide (x.n=c)
def zp (m:RefM) (c:Int):RefM:=if mHas m c then m else {m with conns:=m.conns++[⟨c,[],false,false⟩]}
theorem zRz {m:RefM} {c:Int} {k:Nat} {x:MCn} (h:m.conns[k]?=some x) (hx:x.n=c):mHas m c=true:=by
 unfold mHas
 rw [List.any_eq_true]
 exact ⟨x,List.mem_of_getElem? h,by simp [hx]⟩
theorem zSA {m:RefM} {c:Int} (h:∀(j:Nat) x,m.conns[j]?=some x→x.n≠c):mHas m c=false:=by
 unfold mHas
 rw [List.any_eq_false]
 intro x hx
 obtain ⟨j,hj,rfl⟩:=List.getElem_of_mem hx
 simp
 exact h j _ (List.getElem?_eq_getElem hj)
section
variable {w w' w1 w2 w3:World} {ρ:Nat→Role} {G M:Nat} {L:MLay} {m:RefM}
def zCL (w:World) (ρ:Nat→Role) (G M:Nat) (m:RefM) (c:Int) (e:Ending) (w':World):Prop:=
 ∃ρ' L' b off cap k,e=.returned (.pointer (some ⟨b,off+k*4,none⟩))∧MRep w' ρ' G M L' (zp m c)∧Step ρ ρ' w w'∧L'.conns=.slice (some ⟨b,off,none⟩) (zp m c).conns.length cap ∧
  k < (zp m c).conns.length∧(∃x,(zp m c).conns[k]?=some x∧x.n=c)∧∀(j:Nat) x,j < k→(zp m c).conns[j]?=some x→x.n≠c
theorem MRep.drewN (h:MRep w ρ G M L m) (n:Nat):MRep (w.drewN n) ρ G M L m:=h.of_fr (S:=fun _=>False) ⟨rfl,rfl,rfl,Nat.le_refl _,fun _ _ _=>rfl⟩ (fun _ h=>h.elim)
theorem Step.drewN {ρ ρ':Nat→Role} {a b:World} (h:Step ρ ρ' a b) (n:Nat):Step ρ ρ' a (b.drewN n):=⟨⟨h.fr.os,h.fr.tape,h.fr.output,h.fr.size,h.fr.block⟩,h.own⟩
theorem zCL.drewN {c:Int} {e:Ending} (h:zCL w ρ G M m c e w') (n:Nat):zCL w ρ G M m c e (w'.drewN n):=by
 obtain ⟨ρ',L',b,off,cap,k,h1,h2,h3,h4⟩:=h
 exact ⟨ρ',L',b,off,cap,k,h1,h2.drewN n,h3.drewN n,h4⟩
theorem zSB (h:MRep w ρ G M L m) {c:Int} {g off cap:Nat} (hg:ρ g=zn∨g=(w.alloc (.cells #[vi c,vs (bs []),.bool false,.bool false] 183)).heap.size)
 (hs:SlAt w3 183 4 (fun b=>b=g) (.slice (some ⟨g,off,none⟩) (m.conns.length+1) cap) (m.conns.length+1) (zCJ m.conns++[vi c,vs (bs []),.bool false,.bool false])) (hf:Fr (fun b=>b=g) (w.alloc (.cells #[vi c,vs (bs []),.bool false,.bool false] 183)) w3) (hlt:g < w3.heap.size)
 (hn:∀(j:Nat) x,m.conns[j]?=some x→x.n≠c) :
 w3.heap[M]?=some (.cells (yS L m.cfg m.now) 179 (0,0)) ∧
 zCL w ρ G M m c (.returned (.pointer (some ⟨g,off+m.conns.length*4,none⟩))) (w3.setCell ⟨M,10,none⟩ (.slice (some ⟨g,off,none⟩) (m.conns.length+1) cap)):=by
 have hg2:ρ g=zn∨w.heap.size≤g:=hg.imp id (fun e=>by rw [e];simp)
 have hb:Fr (fun _=>False) w (w.alloc (.cells #[vi c,vs (bs []),.bool false,.bool false] 183)):=(Fr.refl _ w).alloc _
 have h1:=h.of_fr hb (fun b f=>f.elim)
 have hgM:M≠g:=by
  rintro rfl
  rcases hg2 with h2 | h2
  ·rw [h1.mod.1] at h2;simp [rMod,zn] at h2
  ·have:=h.size;omega
 have hM:w3.heap[M]?=some (.cells (yS L m.cfg m.now) 179 (0,0)):=(hf.block M h1.size.2 hgM).trans h1.mod.2
 refine ⟨hM,?_⟩
 have hc:zp m c={m with conns:=m.conns++[⟨c,[],false,false⟩]}:=by unfold zp;rw [zSA hn];rfl
 have key:=h.put_conns (w':=w3.setCell ⟨M,10,none⟩ (.slice (some ⟨g,off,none⟩) (m.conns.length+1) cap)) (g:=g) (v:=.slice (some ⟨g,off,none⟩) (m.conns.length+1) cap) (l:=m.conns++[⟨c,[],false,false⟩]) hg2 (by simpa using hlt) (zM w3 hM) ?_ ?_
 ·obtain ⟨ρ',L',k1,k2⟩:=key
  rw [←hc] at k1
  have hcn:=k1.mod.2
  have hcl:L'.conns=.slice (some ⟨g,off,none⟩) (m.conns.length+1) cap:=by
   have e1:=zB (off:=10) hcn rfl
   have e2:=zB (off:=10) (zM w3 (off:=10) (v:=.slice (some ⟨g,off,none⟩) (m.conns.length+1) cap) hM) rfl
   exact Option.some.inj (e1.symm.trans e2)
  refine ⟨ρ',L',g,off,cap,m.conns.length,rfl,k1,k2,by rw [hcl,hc];simp,by rw [hc];simp,⟨⟨c,[],false,false⟩,by rw [hc];simp,rfl⟩,fun j x hj hx=>?_⟩
  rw [hc] at hx
  simp only [] at hx
  rw [List.getElem?_append_left hj] at hx
  exact hn j x hx
 ·rw [List.length_append,List.length_singleton,zCf,List.flatMap_append]
  exact hs.of_blk (fun b hb _=>zJ w3 (by have hb:b=g:=hb;rw [hb];exact Ne.symm hgM)) (fun b hb _=>hb)
 ·exact Fr.trans (Fr.mono hb (fun x f=>f.elim)) ((hf.mono (fun x hx=>.inl (.inr hx))).setCell _ _ (.inl (.inl rfl))) (fun x hx=>.inl hx)
theorem zFz (h:MRep w ρ G M L m) (c:Int) (hn:m.conns.length≤1000000000000):Calls Tryz.prog 114 #[vp M,vi c] w (zCL w ρ G M m c):=by
 have c10:w.cell? ⟨M,10,none⟩=some L.conns:=h.cell (k:=10) rfl
 have f10:=h.frozen 10
 have HH:=zh h
 have HB:=zh (show m.conns.length+1≤maxLen∧(m.conns.length+1)*32≤140737488355328 by unfold maxLen;omega)
 obtain ⟨va,vc,hv1,hv2,hv3⟩:=h.conns.form'
 have HV:=zh hv1
 rw [hv1] at c10
 obtain ⟨n,hnn⟩:∃n,m.conns.length=n:=⟨_,rfl⟩
 have HN:=zh hnn
 rw [hnn] at c10 hn
 clear h hv1 hv2 hv3 hnn
 go_enter Tryz.func114,Tryz.ntmps114
 go_wp2_with fail
 go_loop [11] (fun s11=>∃k:Nat,s11=.int .i64 k∧k≤n∧Hid (∀(j:Nat) x,j < k→m.conns[j]?=some x→x.n≠c)) (fun s11=>n - (intOf s11).toNat)
 case atStart=>exact ⟨0,by go_num,Nat.zero_le _,fun j y hj=>by omega⟩
 case round =>
  obtain ⟨k,rfl,hk,Hn⟩:=hrel
  by_cases hkl:k < n
  ·have hlt:decide ((k:Int) < (n:Int))=true:=decide_eq_true (by omega)
   obtain ⟨x,hx⟩:∃x,m.conns[k]?=some x:=⟨_,List.getElem?_eq_getElem (by rw [HN.out];exact hkl)⟩
   obtain ⟨b,off,cap,hv,_,_,_,_,hcc,_⟩:=HH.out.conns.form (by rw [HN.out];omega)
   obtain ⟨rfl,rfl⟩:va=some ⟨b,off,none⟩∧vc=cap:=by rw [HV.out] at hv;injection hv with e1 e2 e3;exact ⟨e1,e3⟩
   have ck:w.cell? ⟨b,off+k*4,none⟩=some (vi x.n):=hcc (k*4) _ (by rw [zCf];have:=zBU zDZ m.conns k 0 x hx (by decide);rw [Nat.add_zero] at this;rw [this];rfl)
   have hk0:(0:Int)≤(k:Int):=by omega
   have hk1:(k:Int) < (n:Int):=by omega
   have HX:=zh hx
   obtain ⟨y,hy⟩:∃y,x.n=y:=⟨_,rfl⟩
   rw [hy] at ck
   have HY:=zh hy
   clear hcc hv hx hy
   by_cases hyc:y=c
   ·subst hyc
    have HP:Hid (zCL w ρ G M m y (.returned (.pointer (some ⟨b,off+k*4,none⟩))) w):=by
     have hc:zp m y=m:=by unfold zp;rw [zRz HX.out HY.out];rfl
     exact ⟨ρ,L,b,off,vc,k,rfl,by rw [hc];exact HH.out,Step.refl _ _,by rw [hc];exact HV.out,by rw [hc,HN.out];exact hkl,⟨x,by rw [hc];exact HX.out,HY.out⟩,fun j z hj hz=>by rw [hc] at hz;exact Hn.out j z hj hz⟩
    have hq:(y==y)=true:=by simp
    go_wp2_with fail
    go_ret
    exact HP.out
   ·have hq:(y==c)=false:=beq_eq_false_iff_ne.2 hyc
    have hq2:decide (y=c)=false:=decide_eq_false hyc
    have HNN:Hid (∀(j:Nat) x,j < k+1→m.conns[j]?=some x→x.n≠c):=fun j z hj hz=>by
     by_cases e:j=k
     ·subst e;rw [HX.out] at hz;cases hz;rw [HY.out];exact hyc
     ·exact Hn.out j z (by omega) hz
    clear hyc
    go_wp2_with fail
    go_round
    case rel=>exact ⟨k+1,by go_num,by omega,HNN.out⟩
    case measure=>simp [intOf];omega
  ·obtain rfl:k=n:=by omega
   have hlt:decide ((k:Int) < (k:Int))=false:=by simp
   have HA:Hid (∀(j:Nat) x,m.conns[j]?=some x→x.n≠c):=fun j x hx=>Hn.out j x (by rw [←HN.out];exact (List.getElem?_eq_some_iff.1 hx).1) hx
   have HSA:=zh (HH.out.alloc (.cells #[vi c,vs (bs []),.bool false,.bool false] 183)).conns
   have HMR:=zh (HH.out.alloc (.cells #[vi c,vs (bs []),.bool false,.bool false] 183))
   have c10b:(w.alloc (.cells #[vi c,vs (bs []),.bool false,.bool false] 183)).cell? ⟨M,10,none⟩=some (.slice va k vc):=by have h1:_=some L.conns:=HMR.out.cell (k:=10) rfl;rw [HV.out,HN.out] at h1;exact h1
   rw [HV.out,HN.out] at HSA
   rw [HN.out] at HB
   go_wp2_with (at_builtin;refine xy _ rfl _ _ _ _ rfl zLU rfl HSA.out rfl (xV w Tryz.underlying177 [vi c,vs (bs []),.bool false,.bool false] (by rfl) (by simp [Value.oneCell']) w.heap.size (by simp)) (by omega) HB.out.1 HB.out.2 ?_;intro g goff gcap w3 hg3 hs3 hf3 hlt3 _ _;obtain ⟨k1,k2⟩:=zSB HH.out hg3 (by rw [HN.out];exact hs3) hf3 hlt3 HA.out;rw [HN.out] at k2;have HP:=zh k2;have c3:w3.cell? ⟨M,10,none⟩=some L.conns:=zB k1 rfl;have f3:w3.frozen? ⟨M,10,none⟩=false:=zI k1;rw [HV.out,HN.out] at c3;clear hs3 hf3 hg3 hlt3 k1 k2)
   have hwk:IntKind.i64.wrap (k:Int)=(k:Int):=by rw [IntKind.wrap_i64];omega
   have hk0:(0:Int)≤(k:Int):=by omega
   have hk1:(k:Int) < (k:Int)+1:=by omega
   go_quiet (fail)
   go_wp2_with fail
   go_ret
   exact zCL.drewN HP.out _
end
end Go.Proofs.YtaejfobbogahmaaGreatDoor
