/-
  OnceS: texts of their own, joined.
-/
import Derived.Test.YtaejfobbogahmaaGreatDoorMkEnded
set_option maxRecDepth 100000
set_option maxHeartbeats 16000000
set_option linter.all false
namespace Go.Proofs.YtaejfobbogahmaaGreatDoor
open Go Go.RowKit
theorem zBF {w w':World} {o:Obj} (h:Below w.heap.size w w'):Below w.heap.size w (w'.alloc o):=Below.trans h (((Fr.refl (fun _=>False) w').alloc o).below h.size (fun _ f=>f.elim))
theorem AtIs.total (E:List (zA×Int)) (s:zA):∀k,k≤E.length→∃a,AtIs E s k a
 | 0,_=>⟨-1,AtIs.start E s⟩
 | k+1,h=>by
   obtain ⟨a,ha⟩:=AtIs.total E s k (by omega)
   obtain ⟨e,he⟩:∃e,E[k]?=some e:=⟨_,List.getElem?_eq_getElem (by omega)⟩
   by_cases hs:e.1=s
   ·exact ⟨k,AtIs.hit he hs⟩
   ·exact ⟨a,ha.miss he hs⟩
theorem AtIs.uniq {E:List (zA×Int)} {s:zA} {k:Nat} {a b:Int} (ha:AtIs E s k a) (hb:AtIs E s k b):a=b:=by
 rcases ha with ⟨a1,a2⟩ | ⟨i,a1,a2,⟨e,he,hes⟩,a4⟩
 ·rcases hb with ⟨b1,_⟩ | ⟨j,b1,b2,⟨f,hf,hfs⟩,b4⟩
  ·rw [a1,b1]
  ·exact absurd hfs (a2 j f b1 hf)
 ·rcases hb with ⟨b1,b2⟩ | ⟨j,b1,b2,⟨f,hf,hfs⟩,b4⟩
  ·exact absurd hes (b2 i e a1 he)
  ·rcases Nat.lt_trichotomy i j with h | h | h
   ·exact absurd hfs (a4 j f h b1 hf)
   ·rw [a2,b2,h]
   ·exact absurd hes (b4 i e h a1 he)
theorem RepE.place {E:List (zA×Int)} {S:List (Int×Int)} {cl:Prop} (h:RepE E S cl) {id c:Int} (hs:aget S id=some c):∃i:Nat,(∀a,AtIs E (decI id) E.length a→a=i)∧E[i]?=some (decI id,c):=by
 obtain ⟨a,ha⟩:=AtIs.total E (decI id) E.length (Nat.le_refl _)
 obtain ⟨i,e,hi⟩:=h.find hs ha
 exact ⟨i,fun b hb=>(hb.uniq ha).trans e,hi⟩
theorem RepE.imp {E:List (zA×Int)} {S:List (Int×Int)} {cl cl':Prop} (h:RepE E S cl) (hc:cl'→cl):RepE E S cl':=⟨h.live,h.dead,fun k=>h.emp (hc k),h.nod,h.ids⟩
theorem zNz {t:Option zA} {t0:zA} (ht:∀x,t=some x→x=t0) (hl:t0.length≤140737488355328) {E:List (zA×Int)} {S S':List (Int×Int)} {c:Int} {x:List zA} {l:List (Int×List zA)} (h:RepE E S (t.isSome=true)) (k:Trk t S ((c,x)::l) S') :
 ∃E1 S1,zAf t0 c E x E1∧RepE E1 S1 (t.isSome=true)∧Trk t S1 l S'∧E1.length≤E.length+1:=by
 cases k with
 | acc h1 h2 h3=>exact ⟨_,_,.acc (fun a ha=>h.miss h1.1.1 h1.1.2 h2 ha),h.acc h1.1.1 h1.1.2 h1.2 h2,h3,by simp⟩
 | fin h1 h2 h3 =>
   obtain ⟨i,hi,he⟩:=h.place h2
   exact ⟨_,_,.fin h1 hi he,h.fin h2 he,h3,by simp⟩
 | val h1 h2 h3 h4 =>
   obtain ⟨i,hi,he⟩:=h.place h1
   obtain rfl:=ht _ h2
   exact ⟨_,_,.val hi he h3 hl,h.fin h1 he,h4,by simp⟩
 | run h1 h2 =>
   obtain ⟨c',hc'⟩:=Option.isSome_iff_exists.1 h1
   obtain ⟨i,hi,he⟩:=h.place hc'
   exact ⟨_,_,.run hi he (h.ids _ (yQ hc')).2,h,h2,by simp⟩
 | oth h1 h2=>exact ⟨_,_,.oth h1,h,h2,by simp⟩
def Ids (S:List (Int×Int)):Prop:=(S.map Prod.fst).Nodup∧∀p∈S,(0≤p.1∧p.1≤999999)∧0≤p.2
theorem RepE.marks {S:List (Int×Int)} (h:Ids S) {cl:Int} {t:Option zA} (hc:cl = -1∨t=none):RepE ((S.map yP).map (ya cl)) (S.filter fun p=>!decide (p.2=cl)) (t.isSome=true):=by
 rcases hc with rfl | rfl
 ·have e1:(S.map yP).map (ya (-1))=S.map yP:=by
   refine List.map_congr_left (f:=ya (-1)) (g:=id) (fun e he=>?_) |>.trans (List.map_id _)
   unfold ya
   split
   ·next h1=>rw [←h1];rfl
   ·rfl
  have e2:(S.filter fun p=>!decide (p.2 = -1))=S:=List.filter_eq_self.2 (fun p hp=>by
   have:=(h.2 p hp).2
   simp;omega)
  rw [e1,e2]
  exact RepE.start h.1 h.2 _
 ·exact (RepE.close h.1 h.2 cl).imp (fun k=>by cases k)
structure OAt (G:Nat) (w0:World) (D V bo bw:Nat) (r:Raw) (E:List (zA×Int)) (A B:Nat→Prop) (w:World):Prop where
 kp:KP G w0 D V (PrE bo bw A B) r w
 lies:∃(oa:Option Addr) (oc:Nat) (wa:Option Addr) (wc:Nat),EAt w bo bw A B oa oc wa wc E.length E
 own:EOwn bo bw A B w
 new:∀b,PrE bo bw A B b→w0.heap.size≤b
 box:¬PrE bo bw A B V
section
variable {G D V bo bw:Nat} {A B:Nat→Prop} {w0 w w':World} {r:Raw} {E:List (zA×Int)}
theorem OAt.grow (h:OAt G w0 D V bo bw r E A B w) (hb:Below w.heap.size w w'):OAt G w0 D V bo bw r E A B w':=by
 obtain ⟨oa,oc,wa,wc,hl⟩:=h.lies
 exact ⟨h.kp.grow hb,⟨oa,oc,wa,wc,hl.below hb⟩,h.own.le hb.size,h.new,h.box⟩
theorem OAt.told (h:OAt G w0 D V bo bw r E A B w) {r':Raw} (hk:KP G w0 D V (PrE bo bw A B) r' w') (hs:∀b,PrE bo bw A B b→w'.heap[b]?=w.heap[b]?):OAt G w0 D V bo bw r' E A B w':=by
 obtain ⟨oa,oc,wa,wc,hl⟩:=h.lies
 refine ⟨hk,⟨oa,oc,wa,wc,hl.len,(hs bo (.inl rfl)).trans hl.bo,(hs bw (.inr (.inl rfl))).trans hl.bw,hl.so.of_blk (fun b hb _=>hs b (.inr (.inr (.inl hb)))) (fun _ h _=>h),hl.sw.of_blk (fun b hb _=>hs b (.inr (.inr (.inr hb)))) (fun _ h _=>h)⟩,⟨h.own.dis,h.own.oA,h.own.oB,h.own.wA,h.own.wB,h.own.ne,fun b hb=>hk.prot b ?_⟩,h.new,h.box⟩
 rcases hb with hb | hb
 ·exact .inr (.inr (.inl hb))
 ·exact .inr (.inr (.inr hb))
theorem OAt.turned (hG:G≤w0.heap.size) (h:OAt G w0 D V bo bw r E A B w) {A' B':Nat→Prop} {E':List (zA×Int)} (hl:∃(oa:Option Addr) (oc:Nat) (wa:Option Addr) (wc:Nat),EAt w' bo bw A' B' oa oc wa wc E'.length E') (ho:EOwn bo bw A' B' w')
 (hA:∀b,A' b→A b∨w.heap.size≤b) (hB:∀b,B' b→B b∨w.heap.size≤b) (hf:Fr (PrE bo bw A B) w w'):OAt G w0 D V bo bw r E' A' B' w':=by
 have hq:∀b,PrE bo bw A' B' b→PrE bo bw A B b∨w.heap.size≤b:=fun b hb=>by
  rcases hb with rfl | rfl | hb | hb
  ·exact .inl (.inl rfl)
  ·exact .inl (.inr (.inl rfl))
  ·exact (hA b hb).imp (fun h=>.inr (.inr (.inl h))) id
  ·exact (hB b hb).imp (fun h=>.inr (.inr (.inr h))) id
 have hwz:=h.kp.below.size
 obtain ⟨_,_,_,_,hl1⟩:=h.lies
 have hfs:=hf.size
 have hob:=zD _ hl1.bo
 have hwb:=zD _ hl1.bw
 refine ⟨h.kp.turn h.box h.new hG hf hq (fun b hb=>?_),hl,ho,fun b hb=>(hq b hb).elim (h.new b) (fun h=>by omega),fun hb=>(hq V hb).elim h.box (fun hv=>by have:=zD _ h.kp.box;omega)⟩
 rcases hb with rfl | rfl | hb | hb
 ·omega
 ·omega
 ·exact ho.lt b (.inl hb)
 ·exact ho.lt b (.inr hb)
theorem OAt.step (hG:G≤w0.heap.size) (h:OAt G w0 D V bo bw r E A B w) {E':List (zA×Int)} {e:Ending} (p:xx w bo bw A B E' e w'):e=.returned (.bool true)∧∃A' B',OAt G w0 D V bo bw r E' A' B' w'∧(∀b,PrE bo bw A' B' b→PrE bo bw A B b∨w.heap.size≤b)∧Fr (PrE bo bw A B) w w':=by
 obtain ⟨rfl,A',B',oa,oc,wa,wc,n,h1,h2,h3,h4,h5⟩:=p
 obtain rfl:=h1.len
 refine ⟨rfl,A',B',h.turned hG ⟨oa,oc,wa,wc,h1⟩ h2 h3 h4 h5,fun b hb=>?_,h5⟩
 rcases hb with rfl | rfl | hb | hb
 ·exact .inl (.inl rfl)
 ·exact .inl (.inr (.inl rfl))
 ·exact (h3 b hb).imp (fun h=>.inr (.inr (.inl h))) id
 ·exact (h4 b hb).imp (fun h=>.inr (.inr (.inr h))) id
theorem yz.turned {v:Value} {x:List (Int×zA)} {Pr Q:Nat→Prop} (h:yz w0 Pr w v x) (hf:Fr Pr w w') (hq:∀b,Q b→Pr b∨w.heap.size≤b):yz w0 Q w' v x:=
 SlAt.of_blk h (fun b hb hl=>hf.block b hl hb.2) (fun b hb hl=>⟨hb.1,fun hQ=>(hq b hQ).elim hb.2 (fun h=>by omega)⟩)
theorem yz.grow {v:Value} {x:List (Int×zA)} {Pr:Nat→Prop} (h:yz w0 Pr w v x) (hb:Below w.heap.size w w'):yz w0 Pr w' v x:=
 SlAt.of_blk h (fun b _ hl=>hb.block b hl) (fun _ h _=>h)
end
def zDK (G:Nat) (w0:World) (D V bo bw:Nat) (A B:Nat→Prop) (N P:Nat) (S:List (Int×Int)) (E:List (zA×Int)) (t:zA) (v:Value) (cl:Int) (w':World):Prop:=
 ∃(r':Raw) (l:List (Int×List zA)) (tt:Option zA),yS (N+1) (P+4) r'∧OAt G w0 D V bo bw r' E A B w'∧yz w0 (PrE bo bw A B) w' v (xw l)∧Trk tt (S.filter fun p=>!decide (p.2=cl)) l (opn r')∧zAO l∧l.length≤P+4∧(∀x,tt=some x→x=t)∧(cl = -1∨tt=none)
theorem zHn {S:List (Int×Int)} (h:Ids S):(S.filter fun p=>!decide (p.2 = -1))=S:=List.filter_eq_self.2 (fun p hp=>by
 have:=(h.2 p hp).2
 simp;omega)
theorem yS.mono {N P N' P':Nat} {r:Raw} (h:yS N P r) (h1:N≤N') (h2:P≤P'):yS N' P' r:=⟨h.inv.mono h1 h2,h.few,h.sol,h.norest,h.out⟩
section
variable {G D V bo bw:Nat} {A B:Nat→Prop} {w0 w:World} {r:Raw} {E:List (zA×Int)}
theorem zOA (hG:G≤w0.heap.size) (h:OAt G w0 D V bo bw r E A B w) {N P:Nat} (hI:yS N P r) (hS:Ids (opn r)) {c:Int} (hc:0≤c) {s:zA} (h10:(10:UInt8)∉s) (hs:s.length≤140737488351232) (hN:N+1≤NB) (hP:P+4+5 < NB) :
 Calls Tryz.prog 22 #[vp V,vi c,vs (bs s)] w fun e w'=>∃v,e=.returned v∧zDK G w0 D V bo bw A B N P (opn r) E s v (-1) w':=by
 obtain ⟨h1,l,h2,h3,h4,h5⟩:=hI.fed hc h10
 refine (zHm hG h.kp hI c h10 hs hN hP (x:=xw l) (by rw [zDI];exact h2)).mono ?_
 rintro e w' ⟨v,rfl,k1,k2,k3⟩
 exact ⟨v,rfl,_,l,some s,h1,h.told k1 k3,k2,by rw [zHn hS];exact h3,h4,h5,fun x hx=>(Option.some.inj hx).symm,.inl rfl⟩
theorem zOB (hG:G≤w0.heap.size) (h:OAt G w0 D V bo bw r E A B w) {N P:Nat} (hI:yS N P r) (hS:Ids (opn r)) (s:zA) (hN:N+1≤NB) (hP:P+4+5 < NB) :
 Calls Tryz.prog 27 #[vp D] w fun e w'=>∃v,e=.returned v∧zDK G w0 D V bo bw A B N P (opn r) E s v (-1) w':=by
 obtain ⟨h1,l,h2,h3,h4,h5⟩:=hI.ticked
 refine (zNq hG h.kp hI hN (by omega) (x:=xw l) (by rw [zDI];exact h2)).mono ?_
 rintro e w' ⟨v,rfl,k1,k2,k3⟩
 exact ⟨v,rfl,_,l,none,h1.mono (Nat.le_refl _) (by omega),h.told k1 k3,k2,by rw [zHn hS];exact h3,h4,by omega,fun x hx=>(by cases hx),.inl rfl⟩
theorem zOC (hG:G≤w0.heap.size) (h:OAt G w0 D V bo bw r E A B w) {N P:Nat} (hI:yS N P r) (c:Int) (s:zA) (hN:N+1≤NB) (hP:P+4+5 < NB) :
 Calls Tryz.prog 28 #[vp D,vi c] w fun e w'=>∃v,e=.returned v∧zDK G w0 D V bo bw A B N P (opn r) E s v c w':=by
 obtain ⟨h1,l,h2,h3,h4,h5⟩:=hI.closed c
 refine (zNr hG h.kp hI c hN (by omega) (x:=xw l) (by rw [zDI];exact h2)).mono ?_
 rintro e w' ⟨v,rfl,k1,k2,k3⟩
 exact ⟨v,rfl,_,l,none,h1.mono (by omega) (by omega),h.told k1 k3,k2,h3,h4,by omega,fun x hx=>(by cases hx),.inr rfl⟩
end
theorem zHo:∀(ws:List zA),(∀w∈ws,NoBl w)→(zX ws).length≤81*ws.length
 | [],_=>by simp [zX]
 | [a],h=>by
   have:=(h a List.mem_cons_self).2
   simp [zX];omega
 | a::b::r,h=>by
   have h1:=(h a List.mem_cons_self).2
   have ih:=zHo (b::r) (fun w hw=>h w (List.mem_cons_of_mem _ hw))
   show (a++32::zX (b::r)).length≤_
   rw [List.length_append,List.length_cons]
   simp only [List.length_cons] at ih ⊢
   omega
theorem zHp:∀(a l:zA),(32:UInt8)∉a→cut 32 (a++32::l)=a::cut 32 l
 | [],l,_=>by simp [cut]
 | x::a,l,h=>by
   simp only [List.mem_cons,not_or] at h
   rw [List.cons_append,cut,if_neg (fun e=>h.1 e.symm),zHp a l h.2]
theorem zHq:∀(a:zA),(32:UInt8)∉a→cut 32 a=[a]
 | [],_=>by simp [cut]
 | x::a,h=>by
   simp only [List.mem_cons,not_or] at h
   rw [cut,if_neg (fun e=>h.1 e.symm),zHq a h.2]
theorem zHr:∀(ws:List zA),ws≠[]→(∀w∈ws,NoBl w)→cut 32 (zX ws)=ws
 | [],h,_=>absurd rfl h
 | [a],_,h=>zHq a (h a List.mem_cons_self).1
 | a::b::r,_,h=>by
   have ih:=zHr (b::r) (by simp) (fun w hw=>h w (List.mem_cons_of_mem _ hw))
   show cut 32 (a++32::zX (b::r))=_
   rw [zHp a _ (h a List.mem_cons_self).1,ih]
theorem zAf.cons {t:zA} {c:Int} {E E1:List (zA×Int)} {x:List zA} (h:zAf t c E x E1):∃a b,x=a::b:=by
 cases h with
 | oth=>exact ⟨_,_,rfl⟩
 | run=>exact ⟨_,_,rfl⟩
 | acc=>exact ⟨_,_,rfl⟩
 | fin=>exact ⟨_,_,rfl⟩
 | val=>exact ⟨_,_,rfl⟩
section
variable {G D V:Nat} {w0 w w':World} {r:Raw}
theorem KP.ofK (h:KAt G w0 D V r w):KP G w0 D V (fun _=>False) r w:=by
 obtain ⟨⟨ρ,L,h1,h2,h3⟩,h4,h5,h6,h7⟩:=h
 exact ⟨⟨ρ,L,h1,h2,h3,fun _ f=>f.elim⟩,h4,h5,h6,h7,fun _ f=>f.elim⟩
theorem OAt.start (hG:G≤w0.heap.size) (h:KP G w0 D V (fun _=>False) r w) (s:zA) (c:Int) :
 OAt G w0 D V (w.heap.size+1) (w.heap.size+3) r [(s,c)] (fun b=>b=w.heap.size) (fun b=>b=w.heap.size+2)
  ((((w.alloc (.cells #[vs (bs s)] 9)).alloc (.cells #[.slice (some ⟨w.heap.size,0,none⟩) 1 1] 47)).alloc (.cells #[vi c] 3)).alloc (.cells #[.slice (some ⟨w.heap.size+2,0,none⟩) 1 1] 46)):=by
 have z1:(w.alloc (.cells #[vs (bs s)] 9)).heap.size=w.heap.size+1:=by simp
 have z2:((w.alloc (.cells #[vs (bs s)] 9)).alloc (.cells #[.slice (some ⟨w.heap.size,0,none⟩) 1 1] 47)).heap.size=w.heap.size+2:=by simp
 have z3:(((w.alloc (.cells #[vs (bs s)] 9)).alloc (.cells #[.slice (some ⟨w.heap.size,0,none⟩) 1 1] 47)).alloc (.cells #[vi c] 3)).heap.size=w.heap.size+3:=by simp
 have b1:=zP w (o:=.cells #[vs (bs s)] 9)
 have b2:=zP (w.alloc (.cells #[vs (bs s)] 9)) (o:=.cells #[.slice (some ⟨w.heap.size,0,none⟩) 1 1] 47)
 have b3:=zP ((w.alloc (.cells #[vs (bs s)] 9)).alloc (.cells #[.slice (some ⟨w.heap.size,0,none⟩) 1 1] 47)) (o:=.cells #[vi c] 3)
 have b4:=zP (((w.alloc (.cells #[vs (bs s)] 9)).alloc (.cells #[.slice (some ⟨w.heap.size,0,none⟩) 1 1] 47)).alloc (.cells #[vi c] 3)) (o:=.cells #[.slice (some ⟨w.heap.size+2,0,none⟩) 1 1] 46)
 rw [z1] at b2
 rw [z2] at b3
 rw [z3] at b4
 have hb:Below w.heap.size w ((((w.alloc (.cells #[vs (bs s)] 9)).alloc (.cells #[.slice (some ⟨w.heap.size,0,none⟩) 1 1] 47)).alloc (.cells #[vi c] 3)).alloc (.cells #[.slice (some ⟨w.heap.size+2,0,none⟩) 1 1] 46)):=zBF (zBF (zBF (zBF (Below.refl _ _))))
 have s1:=(SlAt.of_blk (w':=((((w.alloc (.cells #[vs (bs s)] 9)).alloc (.cells #[.slice (some ⟨w.heap.size,0,none⟩) 1 1] 47)).alloc (.cells #[vi c] 3)).alloc (.cells #[.slice (some ⟨w.heap.size+2,0,none⟩) 1 1] 46))) (SlAt.mk_new w (own:=fun b=>b=w.heap.size) (T:=9) (sz:=1) (n:=1) [vs (bs s)] rfl (by decide) rfl) (fun b hb hl=>by
  rw [show b=w.heap.size from hb]
  exact ((zM _ (by rw [z3];omega)).trans (zM _ (by rw [z2];omega))).trans (zM _ (by rw [z1];omega))) (fun _ h _=>h))
 have s2:=(SlAt.of_blk (w':=((((w.alloc (.cells #[vs (bs s)] 9)).alloc (.cells #[.slice (some ⟨w.heap.size,0,none⟩) 1 1] 47)).alloc (.cells #[vi c] 3)).alloc (.cells #[.slice (some ⟨w.heap.size+2,0,none⟩) 1 1] 46))) (SlAt.mk_new ((w.alloc (.cells #[vs (bs s)] 9)).alloc (.cells #[.slice (some ⟨w.heap.size,0,none⟩) 1 1] 47)) (own:=fun b=>b=w.heap.size+2) (T:=3) (sz:=1) (n:=1) [vi c] rfl (by decide) (by rw [z2])) (fun b hb hl=>by
  rw [show b=w.heap.size+2 from hb]
  exact zM _ (by rw [z3];omega)) (fun _ h _=>h))
 rw [z2] at s2
 have hv:=zD _ h.box
 have hz:=h.below.size
 refine ⟨h.turn (fun f=>f) (fun _ f=>f.elim) hG (Fr.of_below hb) (fun b hb=>.inr ?_) (fun b hb=>?_),⟨some ⟨w.heap.size,0,none⟩,1,some ⟨w.heap.size+2,0,none⟩,1,rfl,(zM _ (by rw [z3];omega)).trans ((zM _ (by rw [z2];omega)).trans b2),b4,s1,s2⟩,
  ⟨fun b h1 h2=>by (try dsimp only at h1 h2);omega,by simp,by simp,by simp,by simp,by simp,fun b hb=>?_⟩,fun b hb=>?_,fun hb=>?_⟩
 ·rcases hb with hb | hb | hb | hb<;>(try dsimp only at hb)<;>omega
 ·simp only [World.size_alloc]
  rcases hb with hb | hb | hb | hb<;>(try dsimp only at hb)<;>omega
 ·simp only [World.size_alloc]
  rcases hb with hb | hb<;>(try dsimp only at hb)<;>omega
 ·rcases hb with hb | hb | hb | hb<;>(try dsimp only at hb)<;>omega
 ·rcases hb with hb | hb | hb | hb<;>(try dsimp only at hb)<;>omega
end
def xX (cl:Int) (E:List (zA×Int)) (i:Nat):List (zA×Int):=(E.take i).map (ya cl)++E.drop i
theorem zOD (cl:Int) (E:List (zA×Int)) (i:Nat):(xX cl E i).length=E.length:=by
 unfold xX
 rw [List.length_append,List.length_map,List.length_take,List.length_drop];omega
theorem zHs {cl:Int} {E:List (zA×Int)} {i:Nat} {e:zA×Int} (h:E[i]?=some e):(xX cl E i)[i]?=some e:=by
 have hi:=(List.getElem?_eq_some_iff.1 h).1
 unfold xX
 rw [List.getElem?_append_right (by simp;omega),List.getElem?_drop]
 simp only [List.length_map,List.length_take]
 rw [show i+(i - min i E.length)=i by omega]
 exact h
theorem zHt {cl:Int} {E:List (zA×Int)} {i:Nat} {e:zA×Int} (h:E[i]?=some e):xX cl E (i+1)=(xX cl E i).set i (ya cl e):=by
 have hi:=(List.getElem?_eq_some_iff.1 h).1
 have hd:E.drop i=e::E.drop (i+1):=by
  rw [List.drop_eq_getElem_cons hi,(List.getElem?_eq_some_iff.1 h).2]
 unfold xX
 rw [List.take_add_one,h,hd,List.set_append_right _ _ (by simp;omega)]
 simp only [List.length_map,List.length_take]
 rw [show i - min i E.length=0 by omega,List.set_cons_zero]
 simp
theorem zOE {cl:Int} {E:List (zA×Int)} {i:Nat} {e:zA×Int} (h:E[i]?=some e) (hc:e.2≠cl):xX cl E (i+1)=xX cl E i:=by
 have e1:ya cl e=e:=by unfold ya;rw [if_neg hc]
 rw [zHt h,e1]
 have hg:=zHs (cl:=cl) h
 obtain ⟨h1,h2⟩:=List.getElem?_eq_some_iff.1 hg
 rw [←h2,List.set_getElem_self]
theorem zOF (cl:Int) (E:List (zA×Int)):xX cl E E.length=E.map (ya cl):=by
 unfold xX
 rw [List.take_length,List.drop_length,List.append_nil]
section
variable {G D V bo bw:Nat} {A B:Nat→Prop} {w0 w:World} {r:Raw}
theorem OAt.mark (hG:G≤w0.heap.size) {L L':List (zA×Int)} (h:OAt G w0 D V bo bw r L A B w) {wb woff n wc:Nat} (cw:w.cell? ⟨bw,0,none⟩=some (.slice (some ⟨wb,woff,none⟩) n wc)) {i:Nat} {e:zA×Int} (hi:L[i]?=some e) (hL:L'=L.set i (e.1,-1)) :
 OAt G w0 D V bo bw r L' A B (w.setCell ⟨wb,woff+i,none⟩ (vi (-1)))∧Fr (PrE bo bw A B) w (w.setCell ⟨wb,woff+i,none⟩ (vi (-1))):=by
 subst hL
 obtain ⟨oa,oc,wa,wc',hl⟩:=h.lies
 have cw2:w.cell? ⟨bw,0,none⟩=some (.slice wa L.length wc'):=zB hl.bw rfl
 rw [cw] at cw2
 injection cw2 with cw2
 injection cw2 with e1 e2 e3
 subst e1;subst e2;subst e3
 have hin:=(List.getElem?_eq_some_iff.1 hi).1
 have hgi:=(List.getElem?_eq_some_iff.1 hi).2
 obtain ⟨wb',woff',wc',hwe,hwB,hwl,_⟩:=hl.sw.form (by omega)
 injection hwe with hwe _ _
 injection hwe with hwe
 injection hwe with e4 e5
 subst e4;subst e5
 have d4:wb≠bo:=fun e=>h.own.oB (by rw [←e];exact hwB)
 have d5:wb≠bw:=fun e=>h.own.wB (by rw [←e];exact hwB)
 have hf:Fr (PrE bo bw A B) w (w.setCell ⟨wb,woff+i,none⟩ (vi (-1))):=(Fr.refl _ w).setCell _ _ (.inl (.inr (.inr (.inr hwB))))
 have e6:(L.set i (e.1,-1)).map (fun e=>vs (bs e.1))=L.map fun e=>vs (bs e.1):=by
  rw [List.map_set]
  have:(L.map fun e=>vs (bs e.1))[i]?=some (vs (bs e.1)):=by rw [List.getElem?_map,hi];rfl
  obtain ⟨q1,q2⟩:=List.getElem?_eq_some_iff.1 this
  show (L.map fun e=>vs (bs e.1)).set i (vs (bs e.1))=_
  rw [←q2,List.set_getElem_self]
 refine ⟨h.turned hG ⟨oa,oc,some ⟨wb,woff,none⟩,wc,rfl,?_,?_,?_,?_⟩ (h.own.le (by simp)) (fun _ h=>.inl h) (fun _ h=>.inl h) hf,hf⟩
 ·rw [List.length_set];exact (zG _ (Ne.symm d4)).trans hl.bo
 ·rw [List.length_set];exact (zG _ (Ne.symm d5)).trans hl.bw
 ·rw [List.length_set,e6]
  exact hl.so.of_blk (fun b hb _=>zG _ (fun e=>h.own.dis b hb (by rw [e];exact hwB))) (fun _ h _=>h)
 ·rw [List.length_set,List.map_set]
  exact SlAt.set hl.sw hin _
end
structure xY (w4:World) (E:List (zA×Int)) (i:Nat) (v1 v2:Value) (j:Nat) (O1 O2:Nat→Prop) (w:World):Prop where
 len:((E.take i).filter zv).length=j
 s1:SlAt w 9 1 O1 v1 j (((E.take i).filter zv).map fun e=>vs (bs e.1))
 s2:SlAt w 3 1 O2 v2 j (((E.take i).filter zv).map fun e=>vi e.2)
 n1:∀b,O1 b→w4.heap.size≤b∧b < w.heap.size
 n2:∀b,O2 b→w4.heap.size≤b∧b < w.heap.size
 dis:∀b,O1 b→¬O2 b
 below:Below w4.heap.size w4 w
theorem xY.start (w4:World) (E:List (zA×Int)):xY w4 E 0 (.slice none 0 0) (.slice none 0 0) 0 (fun _=>False) (fun _=>False) w4:=
 ⟨rfl,SlAt.nil,SlAt.nil,fun _ f=>f.elim,fun _ f=>f.elim,fun _ f=>f.elim,Below.refl _ _⟩
theorem zOG {E:List (zA×Int)} {i:Nat} {e:zA×Int} (h:E[i]?=some e) (hd:zv e=false):(E.take (i+1)).filter zv=(E.take i).filter zv:=by
 rw [List.take_add_one,h,List.filter_append]
 simp [hd]
theorem zOH {E:List (zA×Int)} {i:Nat} {e:zA×Int} (h:E[i]?=some e) (hd:zv e=true):(E.take (i+1)).filter zv=(E.take i).filter zv++[e]:=by
 rw [List.take_add_one,h,List.filter_append]
 simp [hd]
section
variable {w4 w w5 w6:World} {E:List (zA×Int)} {i j:Nat} {v1 v2:Value} {O1 O2:Nat→Prop}
theorem xY.skip (h:xY w4 E i v1 v2 j O1 O2 w) {e:zA×Int} (he:E[i]?=some e) (hd:zv e=false):xY w4 E (i+1) v1 v2 j O1 O2 w:=by
 have e1:=zOG he hd
 exact ⟨by rw [e1];exact h.len,by rw [e1];exact h.s1,by rw [e1];exact h.s2,h.n1,h.n2,h.dis,h.below⟩
theorem xY.app1 (h:xY w4 E i v1 v2 j O1 O2 w) {o:Obj} {g:Nat} (hg:O1 g∨g=(w.alloc o).heap.size) (hf:Fr (fun b=>b=g) (w.alloc o) w5) :
 ¬O2 g∧w4.heap.size≤g∧SlAt w5 3 1 O2 v2 j (((E.take i).filter zv).map fun e=>vi e.2)∧Below w4.heap.size w4 w5∧w.heap.size≤w5.heap.size:=by
 have hz:(w.alloc o).heap.size=w.heap.size+1:=by rw [World.size_alloc]
 have hs:=h.below.size
 have hfs:=hf.size
 have n2:¬O2 g:=fun k=>by
  rcases hg with hg | hg
  ·exact h.dis g hg k
  ·have:=(h.n2 g k).2;omega
 have ng:w4.heap.size≤g:=by
  rcases hg with hg | hg
  ·exact (h.n1 g hg).1
  ·omega
 refine ⟨n2,ng,h.s2.of_blk (fun b hb hl=>(hf.block b (by omega) (fun e=>n2 (by rw [←e];exact hb))).trans (zM _ hl)) (fun _ h _=>h),?_,by omega⟩
 exact Below.trans (h.below.alloc hs _) (hf.below (by omega) (fun b hb=>by rw [show b=g from hb];exact ng))
theorem xY.app2 (h:xY w4 E i v1 v2 j O1 O2 w) {e:zA×Int} (he:E[i]?=some e) (hd:zv e=true) {o p:Obj} {g goff gcap:Nat} (hg:O1 g∨g=(w.alloc o).heap.size) (hf:Fr (fun b=>b=g) (w.alloc o) w5)
 (hl5:g < w5.heap.size) (hs5:SlAt w5 9 1 (fun b=>b=g) (.slice (some ⟨g,goff,none⟩) (j+1) gcap) (j+1) (((E.take i).filter zv).map (fun e=>vs (bs e.1))++[vs (bs e.1)]))
 {g2 goff2 gcap2:Nat} (hg2:O2 g2∨g2=(w5.alloc p).heap.size) (hf2:Fr (fun b=>b=g2) (w5.alloc p) w6) (hl6:g2 < w6.heap.size) (hs6:SlAt w6 3 1 (fun b=>b=g2) (.slice (some ⟨g2,goff2,none⟩) (j+1) gcap2) (j+1) (((E.take i).filter zv).map (fun e=>vi e.2)++[vi e.2])) :
 xY w4 E (i+1) (.slice (some ⟨g,goff,none⟩) (j+1) gcap) (.slice (some ⟨g2,goff2,none⟩) (j+1) gcap2) (j+1) (fun b=>b=g) (fun b=>b=g2) w6:=by
 obtain ⟨k1,k2,k3,k4,k5⟩:=h.app1 hg hf
 have e1:=zOH he hd
 have hz:(w5.alloc p).heap.size=w5.heap.size+1:=by rw [World.size_alloc]
 have hs:=k4.size
 have hs2:=hf2.size
 have hne:g≠g2:=fun e=>by
  rcases hg2 with hg2 | hg2
  ·exact k1 (by rw [e];exact hg2)
  ·omega
 have hs0:=h.below.size
 have ng2:w4.heap.size≤g2:=by
  rcases hg2 with hg2 | hg2
  ·exact (h.n2 g2 hg2).1
  ·omega
 refine ⟨by rw [e1,List.length_append,h.len];rfl,?_,?_,fun b hb=>?_,fun b hb=>?_,fun b h1 h2=>hne (h1.symm.trans h2),Below.trans (k4.alloc hs _) (hf2.below (by omega) (fun b hb=>by rw [show b=g2 from hb];exact ng2))⟩
 ·rw [e1,List.map_append]
  exact hs5.of_blk (fun b hb hl=>(hf2.block b (by omega) (fun e=>hne ((show b=g from hb).symm.trans e))).trans (zM _ hl)) (fun _ h _=>h)
 ·rw [e1,List.map_append]
  exact hs6
 ·rw [show b=g from hb];exact ⟨k2,by omega⟩
 ·rw [show b=g2 from hb];exact ⟨ng2,hl6⟩
end
section
variable {G D V bo bw:Nat} {A B:Nat→Prop} {w0 w w9:World} {r:Raw} {E:List (zA×Int)}
theorem OAt.kept (hG:G≤w0.heap.size) (h:OAt G w0 D V bo bw r E A B w) {va vb:Option Addr} {ca cb j:Nat} {O1 O2:Nat→Prop} (k:xY w E E.length (.slice va j ca) (.slice vb j cb) j O1 O2 w9) :
 OAt G w0 D V bo bw r (E.filter zv) O1 O2 ((w9.setCell ⟨bo,0,none⟩ (.slice va j ca)).setCell ⟨bw,0,none⟩ (.slice vb j cb)):=by
 obtain ⟨oa,oc,wa,wc,hl⟩:=h.lies
 obtain ⟨k1,k2,k3,k4,k5,k6,k7⟩:=k
 rw [List.take_length] at k1 k2 k3
 have lo:=zD _ hl.bo
 have lw:=zD _ hl.bw
 have hs:=k7.size
 have a1:∀b,O1 b∨O2 b→b≠bo∧b≠bw:=fun b hb=>by
  rcases hb with hb | hb
  ·have:=(k4 b hb).1;exact ⟨by omega,by omega⟩
  ·have:=(k5 b hb).1;exact ⟨by omega,by omega⟩
 have hbo:=(k7.block _ lo).trans hl.bo
 have hbw:=(k7.block _ lw).trans hl.bw
 refine h.turned hG ⟨va,ca,vb,cb,rfl,?_,?_,?_,?_⟩ ⟨k6,fun hb=>(a1 _ (.inl hb)).1 rfl,fun hb=>(a1 _ (.inr hb)).1 rfl,fun hb=>(a1 _ (.inl hb)).2 rfl,fun hb=>(a1 _ (.inr hb)).2 rfl,h.own.ne,fun b hb=>?_⟩ (fun b hb=>.inr (k4 b hb).1) (fun b hb=>.inr (k5 b hb).1) ?_
 ·rw [k1];exact (zG _ h.own.ne).trans (zO _ (off:=0) (v:=.slice va j ca) hbo)
 ·rw [k1];exact zO _ (off:=0) (v:=.slice vb j cb) ((zG _ (Ne.symm h.own.ne)).trans hbw)
 ·rw [k1];exact k2.of_blk (fun b hb _=>(zG _ (a1 b (.inl hb)).2).trans (zG _ (a1 b (.inl hb)).1)) (fun _ h _=>h)
 ·rw [k1];exact k3.of_blk (fun b hb _=>(zG _ (a1 b (.inr hb)).2).trans (zG _ (a1 b (.inr hb)).1)) (fun _ h _=>h)
 ·simp only [World.size_setCell]
  rcases hb with hb | hb
  ·exact (k4 b hb).2
  ·exact (k5 b hb).2
 ·exact ((Fr.of_below k7).setCell _ _ (.inl (.inl rfl))).setCell _ _ (.inl (.inr (.inl rfl)))
end
end Go.Proofs.YtaejfobbogahmaaGreatDoor
