/-
  Handle1 Handle2 Handle3 Feed: texts of their own, joined.
-/
import Derived.Test.YtaejfobbogahmaaGreatDoorMkServe
set_option maxRecDepth 100000
set_option maxHeartbeats 16000000
set_option linter.all false
namespace Go.Proofs.YtaejfobbogahmaaGreatDoor
open Go Go.RowKit
def At (w0:World) (ρ:Nat→Role) (G D:Nat) (r:Raw) (W:World):Prop:=∃ρk Lk,RRep W ρk G D Lk r∧Step ρ ρk w0 W
section
variable {w0 W:World} {ρ:Nat→Role} {G D:Nat} {r:Raw}
theorem At.start {L:Lay} (h:RRep W ρ G D L r):At W ρ G D r W:=⟨ρ,L,h,Step.refl _ _⟩
theorem At.alloc (h:At w0 ρ G D r W) (o:Obj):At w0 ρ G D r (W.alloc o):=by
 obtain ⟨ρk,Lk,h1,h2⟩:=h
 exact ⟨ρk,Lk,h1.alloc o,h2.alloc o⟩
theorem At.drewN (h:At w0 ρ G D r W) (n:Nat):At w0 ρ G D r (W.drewN n):=by
 obtain ⟨ρk,Lk,h1,h2⟩:=h
 exact ⟨ρk,Lk,h1.drewN n,h2.drewN n⟩
theorem At.box (h:At w0 ρ G D r W) {B:Nat} {o:Obj} (hB:w0.heap[B]?=some o) (ho:¬Of ρ B):W.heap[B]?=some o:=by
 obtain ⟨ρk,Lk,h1,h2⟩:=h
 exact (h2.fr.block _ (zD _ hB) ho).trans hB
theorem At.env (h:At w0 ρ G D r W) (hE:Env G w0) (hd:∀b,Of ρ b→G≤b):Env G W:=by
 obtain ⟨ρk,Lk,h1,h2⟩:=h
 exact hE.fr h2.fr hd
theorem At.st {L:Lay} {ρ1:Nat→Role} {r2:Raw} {W2:World} {ka kr kc:Bool} (h2:Step ρ ρ1 w0 W) (hs:St ka kr kc W ρ1 G D L r2 W2):At w0 ρ G D r2 W2:=by
 obtain ⟨ρ2,L2,g1,g2,_⟩:=hs
 exact ⟨ρ2,L2,g1,h2.trans g2⟩
theorem At.from {w:World} (h:At w0 ρ G D r W) (hs:Step ρ ρ w w0):At w ρ G D r W:=by
 obtain ⟨ρk,Lk,h1,h2⟩:=h
 exact ⟨ρk,Lk,h1,hs.trans h2⟩
theorem At.say (h:At w0 ρ G D r W) (hE:Env G w0) (hd:∀b,Of ρ b→G≤b) (c:Int) (wds:List Wd) (hok:∀x∈wds,x.ok) (hn:wds.length≤16) (hout:r.out.length≤1099511627776)
 {B cap:Nat} (hB:B < W.heap.size) (hcells:∀(j:Nat) x,wds[j]?=some x→W.cell? ⟨B,j,none⟩=some x.val) :
 Calls Tryz.prog 40 #[vp D,vi c,.slice (some ⟨B,0,none⟩) wds.length cap] W fun e w'=>e=.returned (.tuple #[])∧At w0 ρ G D (rSay r c (wds.map Wd.bytes)) w':=by
 have hEr:=h.env hE hd
 obtain ⟨ρk,Lk,h1,h2⟩:=h
 refine (zAc h1 hEr c wds hok hn hout hB hcells).mono ?_
 rintro e w' ⟨rfl,hst⟩
 exact ⟨rfl,At.st h2 hst⟩
theorem At.shut (h:At w0 ρ G D r W) (hE:Env G w0) (hd:∀b,Of ρ b→G≤b) {N P:Nat} (hI:Inv N P r) (hN:N≤NB) (hP:P < NB) (id:Int) {q:Req} (hq:aget r.reqs id=some q) :
 Calls Tryz.prog 55 #[vp D,vi id] W fun e w'=>e=.returned (.tuple #[])∧At w0 ρ G D (yA r id) w':=by
 have hEr:=h.env hE hd
 obtain ⟨ρk,Lk,h1,h2⟩:=h
 refine (zEN h1 hEr hI hN hP id hq).mono ?_
 rintro e w' ⟨rfl,hst⟩
 exact ⟨rfl,At.st h2 hst⟩
theorem At.again (h:At w0 ρ G D r W) (hE:Env G w0) (hd:∀b,Of ρ b→G≤b) {N P:Nat} (hI:Inv N P r) (hN:N≤NB) (hP:P+1 < NB) (id:Int) {q:Req} (hq:aget r.reqs id=some q) (b:Bool) :
 Calls Tryz.prog 48 #[vp D,vi id,.bool b] W fun e w'=>e=.returned (.tuple #[])∧At w0 ρ G D (za r id b) w':=by
 have hEr:=h.env hE hd
 obtain ⟨ρk,Lk,h1,h2⟩:=h
 refine (zGw h1 hEr hI hN hP id hq b).mono ?_
 rintro e w' ⟨rfl,hst⟩
 exact ⟨rfl,At.st h2 hst⟩
theorem At.req (h:At w0 ρ G D r W) (id:Int) :
 ∃mo,W.cell? ⟨D,6,none⟩=some (.map (some mo))∧(aget r.reqs id=none→∀n,(Instr.lookup 72 (.map (some mo)) (vi id) false).run Tryz.prog (W.drewN n)=.ok (.pointer none) (W.drewN n)) ∧
  ∀q,aget r.reqs id=some q→∃A,(∀n,(Instr.lookup 72 (.map (some mo)) (vi id) false).run Tryz.prog (W.drewN n)=.ok (vp A) (W.drewN n))∧W.heap[A]?=some (.cells (zAI q) 116 (0,0)):=by
 obtain ⟨ρk,Lk,h1,h2⟩:=h
 refine ⟨Lk.mo,h1.disp.c6,fun hq n=>?_,fun q hq=>⟨Lk.req id,fun n=>?_,h1.req_blk hq⟩⟩
 ·have hl:=yw (h1.drewN n).opn.2.1 id
  rw [zy,hq] at hl;exact hl
 ·have hl:=yw (h1.drewN n).opn.2.1 id
  rw [zy,hq] at hl;exact hl
end
def zAo (w:World) (ρ:Nat→Role) (G D:Nat) (r':Raw) (e:Ending) (w':World):Prop:=e=.returned (.tuple #[])∧At w ρ G D r' w'
theorem zLx {r:Raw} {c:Int} {m:Msg} (hk:m.kind=kSub):zY r c m=yI r c m:=by unfold zY;rw [hk];rfl
theorem zLy {w:World} {ρ:Nat→Role} {G D:Nat} {L:Lay} {r:Raw} (h:RRep w ρ G D L r) (hE:Env G w) {N P:Nat} (hI:Inv N P r) (hN:N+1≤NB) (hP:P+1 < NB) (c:Int) {m:Msg} (hm:xD m) (hk:m.kind=kSub) :
 Calls Tryz.prog 38 #[vp D,vi c,.agg (zF m)] w (zAo w ρ G D (zY r c m)):=by
 have HR:=zh (zLx (r:=r) (c:=c) hk)
 have ht:(bs m.kind).toList=[115,117,98]:=by rw [hk];exact yJ _
 have HS0:=zLm (h.alloc (.cells (zF m) 91)) (hE.alloc _) hI hN hP c hm
 have HT:Hid (Step ρ ρ w (w.alloc (.cells (zF m) 91))):=(Step.refl ρ w).alloc _
 unfold zF at HS0 HT ⊢
 have HS:=zh HS0
 clear HS0 h hE hI hN hP hm hk
 go_enter Tryz.func38,Tryz.ntmps38
 go_wp2_with fail
 refine HS.out.mono ?_
 rintro e w2 ⟨rfl,hst⟩
 have HA:=zh (At.st HT.out hst)
 clear hst
 go_wp2_with fail
 go_end0
 exact ⟨rfl,by rw [HR.out];exact HA.out⟩
theorem zLz {r:Raw} {c:Int} {m:Msg} (hk:m.kind=kCan):zY r c m=match aget r.reqs m.id with
 | some q=>if q.conn=c then yA (rSay r c [zAU,decI m.id]) m.id else rSay r c [zAA,decI m.id]
 | none=>rSay r c [zAA,decI m.id]:=by unfold zY;rw [hk];rfl
theorem zMA {w:World} {ρ:Nat→Role} {G D:Nat} {L:Lay} {r:Raw} (h:RRep w ρ G D L r) (hE:Env G w) {N P:Nat} (hI:Inv N P r) (hN:N≤NB) (hP:P+1 < NB) (c:Int) {m:Msg} (hm:xD m) (hk:m.kind=kCan) :
 Calls Tryz.prog 38 #[vp D,vi c,.agg (zF m)] w (zAo w ρ G D (zY r c m)):=by
 have HR:=zh (zLz (r:=r) (c:=c) hk)
 have ht:(bs m.kind).toList=[99,97,110]:=by rw [hk];exact yJ _
 have HA0:=zh (At.start (h.alloc (.cells (zF m) 91)))
 have HE:=zh (hE.alloc (.cells (zF m) 91))
 have HD:=zh (fun b (hb:Of ρ b)=>(h.dom b hb).1)
 have HM:=zh (show (w.alloc (.cells (zF m) 91)).heap[w.heap.size]?=some (.cells (zF m) 91 (0,0))∧¬Of ρ w.heap.size from ⟨zP w,fun ho=>by have:=(h.dom _ ho).2;omega⟩)
 have HT:Hid (Step ρ ρ w (w.alloc (.cells (zF m) 91))):=(Step.refl ρ w).alloc _
 have hDw:=h.size.2
 have c6:=h.disp.c6
 have Hid1:=zh hm.id
 have HI:=zh hI
 have HN:=zh hN
 have HP:=zh hP
 have hout:Hid (r.out.length≤1099511627776):=show _≤_ by have:=hI.n.pot;unfold NB at hP;omega
 have hwd:Hid (∀(s:zA),s.length≤1000000000→∀x∈[Wd.str s,Wd.num m.id],x.ok):=fun s hs x hx=>by
  have:=Hid1.out
  simp only [List.mem_cons,List.not_mem_nil,or_false] at hx
  rcases hx with rfl | rfl
  ·exact hs
  ·show _∧_;omega
 have hl:∀n,(Instr.lookup 72 (.map (some L.mo)) (vi m.id) false).run Tryz.prog ((w.alloc (.cells (zF m) 91)).drewN n)=.ok ((aget (amap (fun id _=>vp (L.req id)) r.reqs) m.id).getD (.pointer none)) ((w.alloc (.cells (zF m) 91)).drewN n):=fun n =>
  yw ((h.alloc (.cells (zF m) 91)).drewN n).opn.2.1 m.id
 rw [zy] at hl
 have HSAY:Hid (∀(s:zA) (n:Nat),s.length≤1000000000→Calls Tryz.prog 40 #[vp D,vi c,.slice (some ⟨w.heap.size+1,0,none⟩) 2 2] (((w.alloc (.cells (zF m) 91)).alloc (.cells #[.iface 9 (vs (bs s)),.iface 3 (vi m.id)] 20)).drewN n) fun e w'=>e=.returned (.tuple #[])∧At (w.alloc (.cells (zF m) 91)) ρ G D (rSay r c [s,decI m.id]) w'):=fun s n hs=>by
  refine ((HA0.out.alloc _).drewN n).say HE.out HD.out c [Wd.str s,Wd.num m.id] (hwd.out s hs) (by simp) hout.out (B:=w.heap.size+1) (cap:=2) (by show w.heap.size+1 < ((w.alloc _).alloc _).heap.size;simp) ?_
  intro j x hx
  have hb:(((w.alloc (.cells (zF m) 91)).alloc (.cells #[.iface 9 (vs (bs s)),.iface 3 (vi m.id)] 20)).drewN n).heap[w.heap.size+1]?=some (.cells #[.iface 9 (vs (bs s)),.iface 3 (vi m.id)] 20 (0,0)):=by
   have:=zP (w.alloc (.cells (zF m) 91)) (o:=.cells #[.iface 9 (vs (bs s)),.iface 3 (vi m.id)] 20)
   simpa using this
  refine zB hb ?_
  match j with
  | 0=>simp at hx;subst hx;rfl
  | 1=>simp at hx;subst hx;rfl
  | j+2=>simp at hx
 have HMC:=zh (show zF m=#[vs (bs m.kind),vi m.id,vi m.att,vs (bs m.tenant),vs (bs m.text)] from rfl)
 rw [HMC.out] at hl HSAY HA0 HE HM HT ⊢
 have hreq:=zh (fun q (hq:aget r.reqs m.id=some q)=>h.req_blk hq)
 clear hI hN hP hm hE hk
 cases hq:aget r.reqs m.id with
 | none =>
   rw [hq] at hl HR
   simp only [Option.map_none,Option.getD_none] at hl
   clear h hq
   go_enter Tryz.func38,Tryz.ntmps38
   go_wp2_with fail
   go_quiet (fail)
   go_wp2_with fail
   refine (HSAY.out zAA _ (by decide)).mono ?_
   rintro e w2 ⟨rfl,hst⟩
   have HA:=zh (hst.from HT.out)
   clear hst
   go_wp2_with fail
   go_end0
   exact ⟨rfl,by rw [HR.out];exact HA.out⟩
 | some q =>
   rw [hq] at hl HR
   simp only [Option.map_some,Option.getD_some] at hl
   have hb:=hreq.out q hq
   have e0:w.cell? ⟨L.req m.id,0,none⟩=some (vi q.conn):=zB hb rfl
   have hRw:=zD _ hb
   have Hq:=zh hq
   clear h hq hb hreq
   by_cases hc:q.conn=c
   ·have hb1:(q.conn==c)=true:=beq_iff_eq.2 hc
    have hb2:(q.conn != c)=false:=by rw [hc];simp
    have HR2:Hid (zY r c m=yA (rSay r c [zAU,decI m.id]) m.id):=show _=_ by rw [HR.out];exact if_pos hc
    clear hc
    go_enter Tryz.func38,Tryz.ntmps38
    go_wp2_with fail
    go_quiet (fail)
    go_wp2_with fail
    refine (HSAY.out zAU _ (by decide)).mono ?_
    rintro e w2 ⟨rfl,hst⟩
    have HA:=zh hst
    have m1:w2.cell? ⟨w.heap.size,1,none⟩=some (vi m.id):=zB (hst.box HM.out.1 HM.out.2) rfl
    have HSH:=zh (hst.shut HE.out HD.out (HI.out.say c [zAU,decI m.id]) HN.out (show P+1 < NB from HP.out) m.id (q:=q) Hq.out)
    clear hst
    go_wp2_with fail
    refine HSH.out.mono ?_
    rintro e w3 ⟨rfl,hst⟩
    have HA3:=zh (hst.from HT.out)
    clear hst
    go_wp2_with fail
    go_end0
    exact ⟨rfl,by rw [HR2.out];exact HA3.out⟩
   ·have hb1:(q.conn==c)=false:=beq_eq_false_iff_ne.2 hc
    have hb2:(q.conn != c)=true:=by rw [bne_iff_ne];exact hc
    have HR2:Hid (zY r c m=rSay r c [zAA,decI m.id]):=show _=_ by rw [HR.out];exact if_neg hc
    clear hc
    go_enter Tryz.func38,Tryz.ntmps38
    go_wp2_with fail
    go_quiet (fail)
    go_wp2_with fail
    refine (HSAY.out zAA _ (by decide)).mono ?_
    rintro e w2 ⟨rfl,hst⟩
    have HA:=zh (hst.from HT.out)
    clear hst
    go_wp2_with fail
    go_end0
    exact ⟨rfl,by rw [HR2.out];exact HA.out⟩
def AtL (w0:World) (ρ:Nat→Role) (G D:Nat) (L:Lay) (r:Raw) (W:World):Prop:=∃ρk Lk,RRep W ρk G D Lk r∧Step ρ ρk w0 W∧Lk.att=L.att
section
variable {w0 W:World} {ρ:Nat→Role} {G D:Nat} {L:Lay} {r:Raw}
theorem AtL.at (h:AtL w0 ρ G D L r W):At w0 ρ G D r W:=by
 obtain ⟨ρk,Lk,h1,h2,_⟩:=h
 exact ⟨ρk,Lk,h1,h2⟩
theorem AtL.alloc (h:AtL w0 ρ G D L r W) (o:Obj):AtL w0 ρ G D L r (W.alloc o):=by
 obtain ⟨ρk,Lk,h1,h2,h3⟩:=h
 exact ⟨ρk,Lk,h1.alloc o,h2.alloc o,h3⟩
theorem AtL.drewN (h:AtL w0 ρ G D L r W) (n:Nat):AtL w0 ρ G D L r (W.drewN n):=by
 obtain ⟨ρk,Lk,h1,h2,h3⟩:=h
 exact ⟨ρk,Lk,h1.drewN n,h2.drewN n,h3⟩
theorem AtL.say (h:AtL w0 ρ G D L r W) (hE:Env G w0) (hd:∀b,Of ρ b→G≤b) (c:Int) (wds:List Wd) (hok:∀x∈wds,x.ok) (hn:wds.length≤16) (hout:r.out.length≤1099511627776)
 {B cap:Nat} (hB:B < W.heap.size) (hcells:∀(j:Nat) x,wds[j]?=some x→W.cell? ⟨B,j,none⟩=some x.val) :
 Calls Tryz.prog 40 #[vp D,vi c,.slice (some ⟨B,0,none⟩) wds.length cap] W fun e w'=>e=.returned (.tuple #[])∧AtL w0 ρ G D L (rSay r c (wds.map Wd.bytes)) w':=by
 have hEr:=h.at.env hE hd
 obtain ⟨ρk,Lk,h1,h2,h3⟩:=h
 refine (zAc h1 hEr c wds hok hn hout hB hcells).mono ?_
 rintro e w' ⟨rfl,ρ2,L2,g1,g2,g3,g4,g5⟩
 exact ⟨rfl,ρ2,L2,g1,h2.trans g2,(g3 rfl).trans h3⟩
theorem AtL.sayM (h:AtL w0 ρ G D L r W) (hE:Env G w0) (hd:∀b,Of ρ b→G≤b) (c:Int) (wds:List Wd) (hok:∀x∈wds,x.ok) (hn:wds.length≤16) (hout:r.out.length≤1099511627776)
 {B cap:Nat} (hB:B < W.heap.size) (hcells:∀(j:Nat) x,wds[j]?=some x→W.cell? ⟨B,j,none⟩=some x.val) {mo A:Nat} {id:Int} {q:Req} (hq:aget r.reqs id=some q)
 (hmo:W.cell? ⟨D,6,none⟩=some (.map (some mo))) (hA:∀ρk Lk,RRep W ρk G D Lk r→Lk.req id=A) :
 Calls Tryz.prog 40 #[vp D,vi c,.slice (some ⟨B,0,none⟩) wds.length cap] W fun e w'=>e=.returned (.tuple #[])∧AtL w0 ρ G D L (rSay r c (wds.map Wd.bytes)) w'∧w'.cell? ⟨D,6,none⟩=some (.map (some mo))∧w'.cell? ⟨A,0,none⟩=some (vi q.conn)∧(Instr.lookup 72 (.map (some mo)) (vi id) false).run Tryz.prog w'=.ok (vp A) w':=by
 have hEr:=h.at.env hE hd
 obtain ⟨ρk,Lk,h1,h2,h3⟩:=h
 refine (zGt h1 hEr c wds hok hn hout hB hcells).mono ?_
 rintro e w' ⟨rfl,ρ2,L2,g1,g2,g3,g4,g5,g6⟩
 have e1:Lk.mo=mo:=by
  have:=h1.disp.c6
  rw [hmo] at this
  injection this with this;injection this with this;injection this with this;exact this.symm
 have hb:=g1.req_blk (id:=id) (x:=q) hq
 rw [g4,hA ρk Lk h1] at hb
 exact ⟨rfl,⟨ρ2,L2,g1,h2.trans g2,g3.trans h3⟩,by rw [←e1,←g6];exact g1.disp.c6,zB hb rfl,by
  have h7:=yw g1.opn.2.1 id
  rw [show (rSay r c (wds.map Wd.bytes)).reqs=r.reqs from rfl,zy,hq,g6,e1,g4,hA ρk Lk h1] at h7
  exact h7⟩
theorem AtL.end (h:AtL w0 ρ G D L r W) (hE:Env G w0) (hd:∀b,Of ρ b→G≤b) {N P:Nat} (hI:Inv N P r) (hP:P≤NB) {a:Att} (ha:a∈r.atts) :
 Calls Tryz.prog 47 #[vp D,vp (L.att a.seq)] W fun e w'=>e=.returned (.tuple #[])∧AtL w0 ρ G D L (rEnd r a) w'∧∃k,w'.heap[L.att a.seq]?=some (.cells (yV a k) 109 (0,0)):=by
 have hEr:=h.at.env hE hd
 obtain ⟨ρk,Lk,h1,h2,h3⟩:=h
 rw [←h3]
 refine (zCx h1 hEr hI hP ha).mono ?_
 rintro e w' ⟨rfl,⟨ρ2,L2,g1,g2,g3,g4,g5⟩,k,hk⟩
 exact ⟨rfl,⟨ρ2,L2,g1,h2.trans g2,(g3 rfl).trans h3⟩,k,hk⟩
theorem AtL.attempt (h:AtL w0 ρ G D L r W) (id att c:Int) (hsm:r.atts.length≤1099511627776) :
 Calls Tryz.prog 71 #[vp D,vi id,vi att,vi c] W fun e w'=>e=.returned (attV L (rAtt r id att c))∧AtL w0 ρ G D L r w'∧Below W.heap.size W w':=by
 obtain ⟨ρk,Lk,h1,h2,h3⟩:=h
 refine (zJt h1 id att c hsm).mono ?_
 rintro e w' ⟨rfl,hb⟩
 refine ⟨by unfold attV;rw [h3],⟨ρk,Lk,h1.of_fr (Fr.of_below (S:=fun _=>False) hb) (fun _ f=>f.elim),⟨h2.fr.trans (Fr.of_below (S:=fun _=>False) hb) (fun _ f=>f.elim),h2.own⟩,h3⟩,hb⟩
end
theorem zMB {r:Raw} {c:Int} {m:Msg} (hk:m.kind=yE):zY r c m=match rAtt r m.id m.att c,aget r.reqs m.id with
 | some a,some q=>yA (rEnd (rSay r q.conn [wVal,decI m.id,m.text]) a) m.id
 | _,_=>r:=by unfold zY;rw [hk];rfl
theorem zMC {r:Raw} {c:Int} {m:Msg} (hk:m.kind=xB):zY r c m=match rAtt r m.id m.att c with
 | some a=>za (rEnd r a) m.id true
 | none=>r:=by unfold zY;rw [hk];rfl
theorem zGz {N P:Nat} {r:Raw} (hI:Inv N P r) {id att c:Int} {a:Att} (h:rAtt r id att c=some a):a∈r.atts∧a.id=id∧∃q,aget r.reqs id=some q:=by
 have h1:=List.mem_of_find?_eq_some h
 obtain ⟨h2,h3⟩:=List.mem_filter.1 h1
 have h3:a.id=id:=by simpa using h3
 obtain ⟨q,hq,_⟩:=hI.a.areq a h2
 exact ⟨h2,h3,q,by rw [←h3];exact hq⟩
theorem zMD {w:World} {ρ:Nat→Role} {G D:Nat} {L:Lay} {r:Raw} (h:RRep w ρ G D L r) (hE:Env G w) {N P:Nat} (hI:Inv N P r) (hN:N≤NB) (hP:P+1 < NB) (c:Int) {m:Msg} (hm:xD m) (hk:m.kind=xB) :
 Calls Tryz.prog 38 #[vp D,vi c,.agg (zF m)] w (zAo w ρ G D (zY r c m)):=by
 have HR:=zh (zMC (r:=r) (c:=c) hk)
 have ht:(bs m.kind).toList=[102,97,105,108]:=by rw [hk];exact yJ _
 have HA0:Hid (AtL (w.alloc (.cells (zF m) 91)) ρ G D L r (w.alloc (.cells (zF m) 91))):=⟨ρ,L,h.alloc _,Step.refl _ _,rfl⟩
 have HE:=zh (hE.alloc (.cells (zF m) 91))
 have HD:=zh (fun b (hb:Of ρ b)=>(h.dom b hb).1)
 have HM:=zh (show (w.alloc (.cells (zF m) 91)).heap[w.heap.size]?=some (.cells (zF m) 91 (0,0))∧¬Of ρ w.heap.size from ⟨zP w,fun ho=>by have:=(h.dom _ ho).2;omega⟩)
 have HT:Hid (Step ρ ρ w (w.alloc (.cells (zF m) 91))):=(Step.refl ρ w).alloc _
 have HI:=zh hI
 have HN:=zh hN
 have HP:=zh hP
 have HAT:=zh (HA0.out.attempt m.id m.att c (hI.atts_le (by omega)))
 have HMC:=zh (show zF m=#[vs (bs m.kind),vi m.id,vi m.att,vs (bs m.tenant),vs (bs m.text)] from rfl)
 rw [HMC.out] at HAT HA0 HE HM HT ⊢
 clear hI hN hP hm hE hk h
 cases hq:rAtt r m.id m.att c with
 | none =>
   rw [hq] at HAT HR
   clear hq
   go_enter Tryz.func38,Tryz.ntmps38
   go_wp2_with fail
   refine HAT.out.mono ?_
   rintro e w2 ⟨rfl,hst,_⟩
   have HA:=zh (hst.at.from HT.out)
   clear hst
   unfold attV
   go_wp2_with fail
   go_end0
   exact ⟨rfl,by rw [HR.out];exact HA.out⟩
 | some a =>
   rw [hq] at HAT HR
   obtain ⟨ha,hai,q,hrq⟩:=zGz HI.out hq
   have Hs:=zh (And.intro ha (And.intro hai hrq))
   clear hq ha hai hrq
   go_enter Tryz.func38,Tryz.ntmps38
   go_wp2_with fail
   refine HAT.out.mono ?_
   rintro e w2 ⟨rfl,hst,_⟩
   have HA:=zh hst
   have HEN:=zh (hst.end HE.out HD.out HI.out (by have:=HP.out;omega) Hs.out.1)
   clear hst
   unfold attV
   go_wp2_with fail
   refine HEN.out.mono ?_
   rintro e w3 ⟨rfl,hst,_⟩
   have m1:w3.cell? ⟨w.heap.size,1,none⟩=some (vi m.id):=zB (hst.at.box HM.out.1 HM.out.2) rfl
   have HAG:=zh (hst.at.again HE.out HD.out (HI.out.end Hs.out.1) HN.out (show P - 2+1 < NB by have:=HP.out;omega) m.id (q:=q) (by rw [zAg];exact Hs.out.2.2) true)
   clear hst
   go_wp2_with fail
   refine HAG.out.mono ?_
   rintro e w4 ⟨rfl,hst⟩
   have HA4:=zh (hst.from HT.out)
   clear hst
   go_wp2_with fail
   go_end0
   exact ⟨rfl,by rw [HR.out];exact HA4.out⟩
theorem zME {w:World} {ρ:Nat→Role} {G D:Nat} {L:Lay} {r:Raw} (h:RRep w ρ G D L r) (hE:Env G w) {N P:Nat} (hI:Inv N P r) (hN:N≤NB) (hP:P+1 < NB) (c:Int) {m:Msg} (hm:xD m) (hk:m.kind=yE) :
 Calls Tryz.prog 38 #[vp D,vi c,.agg (zF m)] w (zAo w ρ G D (zY r c m)):=by
 have HR:=zh (zMB (r:=r) (c:=c) hk)
 have ht:(bs m.kind).toList=[100,111,110,101]:=by rw [hk];exact yJ _
 have HA0:Hid (AtL (w.alloc (.cells (zF m) 91)) ρ G D L r (w.alloc (.cells (zF m) 91))):=⟨ρ,L,h.alloc _,Step.refl _ _,rfl⟩
 have HE:=zh (hE.alloc (.cells (zF m) 91))
 have HD:=zh (fun b (hb:Of ρ b)=>(h.dom b hb).1)
 have HM:=zh (show (w.alloc (.cells (zF m) 91)).heap[w.heap.size]?=some (.cells (zF m) 91 (0,0))∧¬Of ρ w.heap.size from ⟨zP w,fun ho=>by have:=(h.dom _ ho).2;omega⟩)
 have HT:Hid (Step ρ ρ w (w.alloc (.cells (zF m) 91))):=(Step.refl ρ w).alloc _
 have HI:=zh hI
 have HN:=zh hN
 have HP:=zh hP
 have Hm:=zh hm
 have HAT:=zh (HA0.out.attempt m.id m.att c (hI.atts_le (by omega)))
 have HMC:=zh (show zF m=#[vs (bs m.kind),vi m.id,vi m.att,vs (bs m.tenant),vs (bs m.text)] from rfl)
 rw [HMC.out] at HAT HA0 HE HM HT ⊢
 clear hI hN hP hm hE hk h
 cases hq:rAtt r m.id m.att c with
 | none =>
   rw [hq] at HAT HR
   clear hq
   go_enter Tryz.func38,Tryz.ntmps38
   go_wp2_with fail
   refine HAT.out.mono ?_
   rintro e w2 ⟨rfl,hst,_⟩
   have HA:=zh (hst.at.from HT.out)
   clear hst
   unfold attV
   go_wp2_with fail
   go_end0
   exact ⟨rfl,by rw [HR.out];exact HA.out⟩
 | some a =>
   rw [hq] at HAT HR
   obtain ⟨ha,hai,q,hrq⟩:=zGz HI.out hq
   rw [hrq] at HR
   have Hs:=zh (And.intro ha (And.intro hai hrq))
   clear hq ha hai hrq
   go_enter Tryz.func38,Tryz.ntmps38
   go_wp2_with fail
   refine HAT.out.mono ?_
   rintro e w2 ⟨rfl,hst,_⟩
   have HA:=zh hst
   have m1:w2.cell? ⟨w.heap.size,1,none⟩=some (vi m.id):=zB (hst.at.box HM.out.1 HM.out.2) rfl
   have m4:w2.cell? ⟨w.heap.size,4,none⟩=some (vs (bs m.text)):=zB (hst.at.box HM.out.1 HM.out.2) rfl
   obtain ⟨mo,c6,_,hreq⟩:=hst.at.req m.id
   obtain ⟨A,hl,hA⟩:=hreq q Hs.out.2.2
   have a0:w2.cell? ⟨A,0,none⟩=some (vi q.conn):=zB hA rfl
   have hl1:(Instr.lookup 72 (.map (some mo)) (vi m.id) false).run Tryz.prog w2.drew=.ok (vp A) w2.drew:=hl 1
   obtain ⟨mo2,c62,_,hreq2⟩:=(hst.alloc (.cells #[.iface 9 (vs (bs wVal)),.iface 3 (vi m.id),.iface 9 (vs (bs m.text))] 20)).at.req m.id
   have n1:=World.new_ne w2 ⟨w.heap.size,1,none⟩ m1
   have n2:=World.new_ne w2 ⟨w.heap.size,4,none⟩ m4
   have n3:=World.new_ne w2 ⟨D,6,none⟩ c6
   have n4:=World.new_ne w2 ⟨A,0,none⟩ a0
   have hl2:(Instr.lookup 72 (.map (some mo)) (vi m.id) false).run Tryz.prog (w2.alloc (.cells #[.iface 9 (vs ⟨#[118,97,108]⟩),.iface 3 (vi m.id),.iface 9 (vs (bs m.text))] 20)).drew=.ok (vp A) (w2.alloc (.cells #[.iface 9 (vs ⟨#[118,97,108]⟩),.iface 3 (vi m.id),.iface 9 (vs (bs m.text))] 20)).drew:=by
    obtain ⟨ρk,Lk,g1,_⟩:=hst
    have e1:Lk.mo=mo:=by
     have:=g1.disp.c6
     rw [c6] at this
     injection this with this;injection this with this;injection this with this;exact this.symm
    have e2:Lk.req m.id=A:=by
     have:=yw (g1.drewN 1).opn.2.1 m.id
     rw [zy,Hs.out.2.2,e1] at this
     have h2:=hl 1
     rw [h2] at this
     injection this with this _;injection this with this;injection this with this;injection this with this
     exact this.symm
    have:=yw ((g1.alloc (.cells #[.iface 9 (vs (bs wVal)),.iface 3 (vi m.id),.iface 9 (vs (bs m.text))] 20)).drew).opn.2.1 m.id
    rw [zy,Hs.out.2.2,e1] at this
    rw [←e2];exact this
   have HLA:Hid (∀ρk Lk,RRep ((w2.alloc (.cells #[.iface 9 (vs (bs wVal)),.iface 3 (vi m.id),.iface 9 (vs (bs m.text))] 20)).drewN 1) ρk G D Lk r→Lk.req m.id=A):=fun ρk Lk g1=>by
    have e1:Lk.mo=mo:=by
     have h5:=g1.disp.c6
     have h6:((w2.alloc (.cells #[.iface 9 (vs (bs wVal)),.iface 3 (vi m.id),.iface 9 (vs (bs m.text))] 20)).drewN 1).cell? ⟨D,6,none⟩=some (.map (some mo)):=by
      rw [←c6]
      obtain ⟨ρk,Lk,g1,_⟩:=hst
      exact World.cell?_of_block (a:=⟨D,6,none⟩) (zM w2 g1.size.2)
     rw [h6] at h5
     injection h5 with h5;injection h5 with h5;injection h5 with h5;exact h5.symm
    have h7:=yw g1.opn.2.1 m.id
    rw [zy,Hs.out.2.2,e1] at h7
    have h8:(Instr.lookup 72 (.map (some mo)) (vi m.id) false).run Tryz.prog ((w2.alloc (.cells #[.iface 9 (vs (bs wVal)),.iface 3 (vi m.id),.iface 9 (vs (bs m.text))] 20)).drewN 1)=_:=hl2
    rw [h8] at h7
    injection h7 with h7 _;injection h7 with h7;injection h7 with h7;injection h7 with h7
    exact h7.symm
   have HSY:Hid (Calls Tryz.prog 40 #[vp D,vi q.conn,.slice (some ⟨w2.heap.size,0,none⟩) 3 3] ((w2.alloc (.cells #[.iface 9 (vs (bs wVal)),.iface 3 (vi m.id),.iface 9 (vs (bs m.text))] 20)).drew) fun e w'=>e=.returned (.tuple #[])∧AtL (w.alloc (.cells #[vs (bs m.kind),vi m.id,vi m.att,vs (bs m.tenant),vs (bs m.text)] 91)) ρ G D L (rSay r q.conn [wVal,decI m.id,m.text]) w'∧w'.cell? ⟨D,6,none⟩=some (.map (some mo))∧w'.cell? ⟨A,0,none⟩=some (vi q.conn)∧(Instr.lookup 72 (.map (some mo)) (vi m.id) false).run Tryz.prog w'=.ok (vp A) w'):=
    ((hst.alloc _).drewN 1).sayM HE.out HD.out q.conn [Wd.str wVal,Wd.num m.id,Wd.str m.text] (by
      have:=Hm.out.id
      have h2:=Hm.out.text
      intro x hx
      simp only [List.mem_cons,List.not_mem_nil,or_false] at hx
      rcases hx with rfl | rfl | rfl
      ·show _≤_;decide
      ·show _∧_;omega
      ·show m.text.length≤_;omega) (by simp) (by have:=HI.out.n.pot;have:=HP.out;unfold NB at this;omega) (B:=w2.heap.size) (cap:=3) (by show w2.heap.size < (w2.alloc _).heap.size;simp) (by
       intro j x hx
       refine zB (w:=(w2.alloc _).drewN 1) (zP w2) ?_
       match j with
       | 0=>simp at hx;subst hx;rfl
       | 1=>simp at hx;subst hx;rfl
       | 2=>simp at hx;subst hx;rfl
       | j+3=>simp at hx) Hs.out.2.2 (by
       rw [←c6]
       obtain ⟨ρk,Lk,g1,_⟩:=hst
       exact World.cell?_of_block (a:=⟨D,6,none⟩) (zM w2 g1.size.2)) HLA.out
   have a0b:(w2.alloc (.cells #[.iface 9 (vs (bs wVal)),.iface 3 (vi m.id),.iface 9 (vs (bs m.text))] 20)).cell? ⟨A,0,none⟩=some (vi q.conn):=zB ((zM w2 (zD _ hA)).trans hA) rfl
   have c6b:(w2.alloc (.cells #[.iface 9 (vs (bs wVal)),.iface 3 (vi m.id),.iface 9 (vs (bs m.text))] 20)).cell? ⟨D,6,none⟩=some (.map (some mo)):=by
    rw [←c6]
    obtain ⟨ρk,Lk,g1,_⟩:=hst
    exact World.cell?_of_block (a:=⟨D,6,none⟩) (zM w2 g1.size.2)
   clear hst hreq hl hA hreq2 c62
   unfold attV
   go_wp2_with fail
   go_region_held3 (fun w'=>w'.cell? ⟨w.heap.size,1,none⟩=some (vi m.id)∧w'.cell? ⟨w.heap.size,4,none⟩=some (vs (bs m.text))∧w'.cell? ⟨D,6,none⟩=some (.map (some mo))∧w'.cell? ⟨A,0,none⟩=some (vi q.conn)∧(Instr.lookup 72 (.map (some mo)) (vi m.id) false).run Tryz.prog w'=.ok (vp A) w') (go_keep) ((go_at_call 40;refine HSY.out.mono ?_;rintro e w3 ⟨rfl,hst,d6,a03,hlk3⟩;have HA3:=zh hst;have m13:w3.cell? ⟨w.heap.size,1,none⟩=some (vi m.id):=zB (hst.at.box HM.out.1 HM.out.2) rfl;have m43:w3.cell? ⟨w.heap.size,4,none⟩=some (vs (bs m.text)):=zB (hst.at.box HM.out.1 HM.out.2) rfl;clear hst))
   all_goals
    clear m1 m4 c6 a0 hl1 hl2 n1 n2 n3 n4 a0b c6b
    have HEN:=zh (HA3.out.end HE.out HD.out (HI.out.say q.conn [wVal,decI m.id,m.text]) (show P+1≤NB by have:=HP.out;omega) (show a∈r.atts from Hs.out.1))
    go_wp2_with fail
    refine HEN.out.mono ?_
    rintro e w4 ⟨rfl,hst,_⟩
    have m14:w4.cell? ⟨w.heap.size,1,none⟩=some (vi m.id):=zB (hst.at.box HM.out.1 HM.out.2) rfl
    have HSH:=zh (hst.at.shut HE.out HD.out ((HI.out.say q.conn [wVal,decI m.id,m.text]).end (show a∈r.atts from Hs.out.1)) HN.out (show P+1 - 2 < NB by have:=HP.out;omega) m.id (q:=q) (by rw [zAg];exact Hs.out.2.2))
    clear hst m13 m43
    go_wp2_with fail
    refine HSH.out.mono ?_
    rintro e w5 ⟨rfl,hst⟩
    have HA5:=zh (hst.from HT.out)
    clear hst
    go_wp2_with fail
    go_end0
    exact ⟨rfl,by rw [HR.out];exact HA5.out⟩
theorem zMF {w:World} {own:Nat→Prop} {v:Value} {l:List Int} (hs:SlAt w 3 1 own v l.length (l.map encI)) (x:Int) :
 Calls Tryz.prog 103 #[v,vi x] w fun e w'=>e=.returned (vi (yL x l))∧w=w':=by
 obtain ⟨va,vc,hv1,hv2,hv3⟩:=hs.form'
 subst hv1
 have HS:=zh hs
 unfold maxLen at hv3
 clear hs
 go_enter Tryz.func103,Tryz.ntmps103
 go_wp2_with fail
 go_loop [5,8] (fun _ s8=>∃k:Nat,s8=.int .i64 k∧k≤l.length∧Hid (∀(j:Nat) y,j < k→l[j]?=some y→y≠x)) (fun _ s8=>l.length - (intOf s8).toNat)
 case atStart=>exact ⟨0,by go_num,Nat.zero_le _,fun j y hj=>by omega⟩
 case round =>
  obtain ⟨k,rfl,hk,Hn⟩:=hrel
  by_cases hkl:k < l.length
  ·have hlt:decide ((k:Int) < (l.length:Int))=true:=decide_eq_true (by omega)
   obtain ⟨y,hy⟩:∃y,l[k]?=some y:=⟨_,List.getElem?_eq_getElem hkl⟩
   obtain ⟨b,off,cap,hv,_,_,_,_,hc,_⟩:=HS.out.form (by omega)
   obtain ⟨rfl,rfl⟩:va=some ⟨b,off,none⟩∧vc=cap:=by injection hv with e1 e2 e3;exact ⟨e1,e3⟩
   have ck:w.cell? ⟨b,off+k,none⟩=some (vi y):=hc k _ (by simp [hy])
   have hk0:(0:Int)≤(k:Int):=by omega
   have hk1:(k:Int) < (l.length:Int):=by omega
   have Hy:=zh hy
   clear hc hv hy
   by_cases hyx:y=x
   ·have hd:(x==y)=true:=by simp [hyx]
    have HP:Hid (yL x l=k):=zEA l k (by rw [Hy.out,hyx]) Hn.out
    clear hyx
    go_wp2_with fail
    go_ret
    exact ⟨by rw [HP.out];rfl,rfl⟩
   ·have hd:(x==y)=false:=beq_eq_false_iff_ne.2 (Ne.symm hyx)
    have HN:Hid (∀(j:Nat) z,j < k+1→l[j]?=some z→z≠x):=fun j z hj hz=>by
     by_cases e:j=k
     ·subst e;rw [Hy.out] at hz;cases hz;exact hyx
     ·exact Hn.out j z (by omega) hz
    clear hyx
    go_wp2_with fail
    go_round
    case rel=>exact ⟨k+1,by go_num,by omega,HN.out⟩
    case measure=>simp [intOf];omega
  ·obtain rfl:k=l.length:=by omega
   have hlt:decide ((l.length:Int) < (l.length:Int))=false:=by simp
   have HP:Hid (yL x l = -1):=zEB l (fun j y hy=>Hn.out j y (List.getElem?_eq_some_iff.1 hy).1 hy)
   go_wp2_with fail
   go_ret
   exact ⟨by rw [HP.out];rfl,rfl⟩
theorem zHA (x:Int):∀(l:List Int),(decide (0≤yL x l))=l.contains x∧-1≤yL x l
 | []=>by simp [yL]
 | y::l=>by
   obtain ⟨h1,h2⟩:=zHA x l
   unfold yL
   by_cases e:y=x
   ·subst e;simp
   ·rw [if_neg e]
    have e2:(x==y)=false:=beq_eq_false_iff_ne.2 (Ne.symm e)
    rw [List.contains_cons,e2,Bool.false_or,←h1]
    split
    ·rename_i hp
     simp [hp]
    ·rename_i hp
     have:0≤yL x l:=by omega
     simp [this];omega
theorem zMG {w:World} {own:Nat→Prop} {v:Value} {l:List Int} (hs:SlAt w 3 1 own v l.length (l.map encI)) (x:Int) :
 Calls Tryz.prog 69 #[v,vi x] w fun e w'=>e=.returned (.bool (l.contains x))∧w=w':=by
 have HC:=zh (zMF hs x)
 have HP:=zh (zHA x l).1
 generalize yL x l=p at *
 generalize l.contains x=b at *
 have hp:decide (0≤p)=b:=HP.out
 clear hs
 go_enter Tryz.func69,Tryz.ntmps69
 go_wp2_with fail
 refine HC.out.mono ?_
 rintro e w1 ⟨rfl,rfl⟩
 go_wp2_with fail
 go_ret
 exact ⟨rfl,rfl⟩
theorem zEQ {w:World} {ρ:Nat→Role} {G D:Nat} {L:Lay} {r:Raw} (h:RRep w ρ G D L r) (c:Int) :
 Calls Tryz.prog 34 #[vp D,vi c] w fun e w'=>∃ρ' L',e=.returned (vp (L'.cn c))∧RRep w' ρ' G D L' (zH r c)∧Step ρ ρ' w w':=by
 by_cases hc:(aget r.conns c).isSome=true
 ·refine (zIz h c hc).mono ?_
  rintro e w' ⟨rfl,rfl⟩
  have e1:zH r c=r:=if_pos hc
  rw [e1]
  exact ⟨ρ,L,rfl,h,Step.refl _ _⟩
 ·have hn:aget r.conns c=none:=by
   cases hx:aget r.conns c with
   | none=>rfl
   | some x=>rw [hx] at hc;exact absurd rfl hc
  refine (zJC h c hn).mono ?_
  rintro e w' ⟨rfl,hh⟩
  obtain ⟨ρ',L',h1,h2,h3,h4,h5⟩:=zJB h c hn hh.out.1 hh.out.2
  exact ⟨ρ',L',by rw [h5],h1,h2⟩
theorem zMH {r:Raw} {c:Int} {m:Msg} (hk:m.kind=xM):zY r c m=xR r c:=by unfold zY;rw [hk];rfl
theorem zMI {r:Raw} {c:Int} {m:Msg} (hk:m.kind=xN):zY r c m=xk r c:=by unfold zY;rw [hk];rfl
theorem zMJ {r:Raw} {c:Int} {m:Msg} (hk:m.kind=xO):zY r c m=xS r c:=by unfold zY;rw [hk];rfl
theorem zER (r:Raw) (c:Int):∃x,aget (zH r c).conns c=some x:=by
 unfold zH
 split
 ·rename_i h;exact Option.isSome_iff_exists.1 h
 ·exact ⟨_,by simp [zV];rfl⟩
theorem zMK {r:Raw} {c:Int} {x:Cn} (hx:aget (zH r c).conns c=some x):xR r c=if !x.drains&&!(zH r c).waiting.contains c then {zH r c with waiting:=(zH r c).waiting++[c]} else zH r c:=by
 unfold xR;simp only [hx]
theorem zML {r:Raw} {c:Int} {x:Cn} (hx:aget (zH r c).conns c=some x):xS r c=rBye {zH r c with conns:=aset (zH r c).conns c {x with drains:=true},waiting:=zE (zH r c).waiting c} c:=by
 unfold xS;simp only [hx]
theorem zMM {w w3:World} {ρ:Nat→Role} {G D:Nat} {L:Lay} {r:Raw} (h:RRep w ρ G D L r) {g off cap n:Nat} (hg:ρ g=zd∨g=w.heap.size) {l:List Int} (hn:l.length=n) (hs:SlAt w3 3 1 (fun b=>b=g) (.slice (some ⟨g,off,none⟩) n cap) n (l.map encI)) (hlt:g < w3.heap.size) (hf:Fr (fun b=>b=g) w w3) :
 w3.frozen? ⟨D,11,none⟩=false∧w3.cell? ⟨D,11,none⟩=some L.waiting∧∃ρ' L',RRep (w3.setCell ⟨D,11,none⟩ (.slice (some ⟨g,off,none⟩) n cap)) ρ' G D L' {r with waiting:=l}∧Step ρ ρ' w (w3.setCell ⟨D,11,none⟩ (.slice (some ⟨g,off,none⟩) n cap)):=by
 subst hn
 have hDr:=h.disp.1
 have hgD:D≠g:=by
  rintro rfl
  rcases hg with h1 | h1
  ·rw [hDr] at h1;simp [zC,zd] at h1
  ·have:=h.size;omega
 have hD:w3.heap[D]?=some (.cells (yR L r.cfg r.now r.seq) 81 (0,0)):=(hf.block D h.size.2 hgD).trans h.disp.2
 refine ⟨zK hD,zB hD rfl,zf ρ g zd,_,h.put_wait (Ext.set (hg.imp (fun e=>e) (fun e=>by omega)) (by simpa using hlt)) (zO w3 hD) (hs.of_blk (fun b hb _=>zG _ (by show b≠D;rw [hb];exact Ne.symm hgD)) (fun b hb _=>by rw [hb];exact ym _ _ _)) ?_⟩
 exact (hf.mono (fun x hx=>.inl (.inr (by rw [hx];exact ym _ _ _)))).setCell _ _ (.inl (.inl rfl))
theorem zMN {w:World} {ρ:Nat→Role} {G D:Nat} {L:Lay} {r:Raw} (h:RRep w ρ G D L r) {N P:Nat} (hI:Inv N P r) (hP:P+1 < NB) (c:Int) {m:Msg} (hk:m.kind=xM) :
 Calls Tryz.prog 38 #[vp D,vi c,.agg (zF m)] w (zAo w ρ G D (zY r c m)):=by
 have HR:=zh (zMH (r:=r) (c:=c) hk)
 have ht:(bs m.kind).toList=[112,117,108,108]:=by rw [hk];exact yJ _
 have HT:Hid (Step ρ ρ w (w.alloc (.cells (zF m) 91))):=(Step.refl ρ w).alloc _
 have HC:=zh (zEQ (h.alloc (.cells (zF m) 91)) c)
 obtain ⟨x,hx⟩:=zER r c
 have Hx:=zh hx
 have HQ:=zh (zMK hx)
 have hwl:(zH r c).waiting.length≤1099511627776:=by have:=(hI.conn c).n.pot;unfold NB at hP;omega
 have HMC:=zh (show zF m=#[vs (bs m.kind),vi m.id,vi m.att,vs (bs m.tenant),vs (bs m.text)] from rfl)
 rw [HMC.out] at HT HC ⊢
 generalize zH r c=r1 at *
 obtain ⟨xr,xd,xg⟩:=x
 clear hI hP hk h hx
 go_enter Tryz.func38,Tryz.ntmps38
 go_wp2_with fail
 refine HC.out.mono ?_
 rintro e w1 ⟨ρ1,L1,rfl,k1,k2⟩
 have HK:=zh k1
 have HS:=zh (HT.out.trans k2)
 have d1:w1.cell? ⟨L1.cn c,1,none⟩=some (.bool xd):=zB (k1.cns.2.2.2 c _ (yQ Hx.out)).2.1 rfl
 obtain ⟨va,vc,hw1,hw2,hw3⟩:=SlAt.form' k1.wai
 have c11:w1.cell? ⟨D,11,none⟩=some (.slice va r1.waiting.length vc):=by rw [←hw1];exact k1.disp.c11
 have hwai:SlAt w1 3 1 (fun b=>ρ1 b=zd) (.slice va r1.waiting.length vc) r1.waiting.length (r1.waiting.map encI):=by rw [←hw1];exact k1.wai
 have HWA:=zh hwai
 have HCT:=zh (zMG hwai c)
 have hD1:=k1.size.2
 have f11:w1.frozen? ⟨D,11,none⟩=false:=k1.disp.frozen 11
 unfold maxLen at hw3
 clear k1 k2 hwai hw1
 cases xd with
 | true =>
   go_wp2_with fail
   go_end0
   exact ⟨rfl,by rw [HR.out,HQ.out];exact ⟨_,_,HK.out,HS.out⟩⟩
 | false =>
   go_wp2_with fail
   refine HCT.out.mono ?_
   rintro e w2 ⟨rfl,rfl⟩
   obtain ⟨b,hb⟩:∃b,r1.waiting.contains c=b:=⟨_,rfl⟩
   rw [hb] at HQ ⊢
   clear hb
   cases b with
   | true =>
     go_wp2_with fail
     go_end0
     exact ⟨rfl,by rw [HR.out,HQ.out];exact ⟨_,_,HK.out,HS.out⟩⟩
   | false =>
     have HML:Hid (r1.waiting.length+1≤maxLen):=show _≤_ by unfold maxLen;omega
     go_wp2_with (
      at_builtin;refine xU _ rfl _ _ _ _ rfl zBR rfl (HWA.out.of_blk (w':=w1.alloc (.cells #[vi c] 3)) (fun b hb hl=>zM w1 hl) (fun _ h _=>h)) rfl (yn w1 Tryz.underlying46 [vi c] (by rfl) (by simp [Value.oneCell']) w1.heap.size (by simp)) (by omega) HML.out (by omega) ?_
      intro g goff gcap w3 hg3 hs3 hf3 hlt3 _ _
      obtain ⟨f3,c3,ρ3,L3,k3,s3⟩:=zMM (HK.out.alloc (.cells #[vi c] 3)) (l:=r1.waiting++[c]) hg3 (n:=r1.waiting.length+1) (by simp) (by rw [List.map_append];exact hs3) hlt3 hf3
      have HK3:=zh (And.intro k3 (((Step.refl ρ1 w1).alloc _).trans s3))
      clear hs3 hf3 hg3 hlt3 k3 s3)
     go_end0
     exact ⟨rfl,by rw [HR.out,HQ.out];exact ⟨ρ3,L3,HK3.out.1,HS.out.trans HK3.out.2⟩⟩
def zAM (t:Int) (r:Raw) (a:Att):Raw:={r with atts:=r.atts.map (zAC a.seq t)}
theorem Live.renew {a:Att} {l:List Att} {r:Raw} {t:Int} (h:Live (a::l) r):Live l (zAM t r a):=by
 obtain ⟨h1,h2⟩:=h
 rw [List.pairwise_cons] at h1
 refine ⟨h1.2,fun b hb=>?_⟩
 refine List.mem_map.2 ⟨b,h2 b (by simp [hb]),?_⟩
 unfold zAC
 have:=h1.1 b hb
 rw [if_neg (by omega)]
theorem zHB (t:Int):∀(l:List Att) (r:Raw),l.foldl (zAM t) r={r with atts:=r.atts.map fun b=>if (l.any fun a=>decide (b.seq=a.seq))=true then {b with till:=t} else b}
 | [],r=>by simp
 | a::l,r=>by
   show l.foldl (zAM t) (zAM t r a)=_
   rw [zHB t l]
   unfold zAM
   simp only [List.map_map]
   congr 1
   refine List.map_congr_left (fun b _=>?_)
   show (if (l.any fun a'=>decide ((zAC a.seq t b).seq=a'.seq))=true then _ else _)=_
   rw [zDo]
   unfold zAC
   by_cases e:b.seq=a.seq
   ·rw [if_pos e,List.any_cons,decide_eq_true e,Bool.true_or,if_pos rfl]
    split<;>rfl
   ·rw [if_neg e,List.any_cons,decide_eq_false e,Bool.false_or]
theorem zMO {N P:Nat} {r:Raw} (hI:Inv N P r) (c:Int):(yT r c).foldl (zAM (r.now+r.cfg.lease)) r=xk r c:=by
 rw [zHB]
 unfold xk
 congr 1
 refine List.map_congr_left (fun b hb=>?_)
 by_cases e:b.conn=c
 ·rw [if_pos e,if_pos]
  exact List.any_eq_true.2 ⟨b,List.mem_filter.2 ⟨hb,by simp [e]⟩,by simp⟩
 ·rw [if_neg e,if_neg]
  intro h
  obtain ⟨a,ha,hs⟩:=List.any_eq_true.1 h
  obtain ⟨ha1,ha2⟩:=List.mem_filter.1 ha
  have hs:b.seq=a.seq:=by simpa using hs
  have:a=b:=by
   have hp:=hI.a.apw
   obtain ⟨i,hi,e1⟩:=List.getElem_of_mem ha1
   obtain ⟨j,hj,e2⟩:=List.getElem_of_mem hb
   rcases Nat.lt_trichotomy i j with h5 | h5 | h5
   ·have:=List.pairwise_iff_getElem.1 hp i j hi hj h5;rw [e1,e2] at this;omega
   ·subst h5;rw [←e1,←e2]
   ·have:=List.pairwise_iff_getElem.1 hp j i hj hi h5;rw [e1,e2] at this;omega
  subst this
  exact e (by simpa using ha2)
theorem zMP {w:World} {ρ:Nat→Role} {G D:Nat} {L:Lay} {r:Raw} (h:RRep w ρ G D L r) {N P:Nat} (hI:Inv N P r) (hN:N≤NB) (hP:P+1 < NB) (c:Int) {m:Msg} (hk:m.kind=xN) :
 Calls Tryz.prog 38 #[vp D,vi c,.agg (zF m)] w (zAo w ρ G D (zY r c m)):=by
 have HR:=zh (zMI (r:=r) (c:=c) hk)
 have ht:(bs m.kind).toList=[98,101,97,116]:=by rw [hk];exact yJ _
 have HT:Hid (Step ρ ρ w (w.alloc (.cells (zF m) 91))):=(Step.refl ρ w).alloc _
 have HC:=zh (zDx (h.alloc (.cells (zF m) 91)) c (hI.atts_le (by omega)))
 have HH:=zh (h.alloc (.cells (zF m) 91))
 have HLV:Hid (Live (yT r c) r):=Live.of_filter hI _
 have hlen:(yT r c).length≤1099511627776:=Nat.le_trans (List.length_filter_le _ _) (hI.atts_le (by omega))
 have HB:=zh (zMO hI c)
 have HI:=zh hI
 have hnow:=hI.n.now
 have hcf:=zBj hI.n.cfg
 have ht0:-1000000000000≤r.now+r.cfg.lease:=by omega
 have ht1:r.now+r.cfg.lease≤1000000000000:=by unfold NB at hN;omega
 have hla:r.atts.length≤1099511627776:=hI.atts_le (by omega)
 have HMC:=zh (show zF m=#[vs (bs m.kind),vi m.id,vi m.att,vs (bs m.tenant),vs (bs m.text)] from rfl)
 rw [HMC.out] at HT HC HH ⊢
 obtain ⟨now,hnw⟩:∃now,r.now=now:=⟨_,rfl⟩
 obtain ⟨ls,hls⟩:∃ls,r.cfg.lease=ls:=⟨_,rfl⟩
 have HNW:=zh (And.intro hnw hls)
 rw [hnw,hls] at HB ht0 ht1
 generalize yT r c=l at *
 clear hI hN hP hk h hnow hcf hnw hls
 go_enter Tryz.func38,Tryz.ntmps38
 go_wp2_with fail
 refine HC.out.mono ?_
 rintro e w1 ⟨v,rfl,h2,h3⟩
 have HSL:=zh h2
 obtain ⟨va,vc,hv1,hv2,hv3⟩:=h2.form'
 subst hv1
 unfold maxLen at hv3
 have HR1:=zh (HH.out.of_fr (Fr.of_below (S:=fun _=>False) h3) (fun _ f=>f.elim))
 have HT1:Hid (Step ρ ρ w w1):=HT.out.trans ⟨Fr.of_below h3,fun b hb=>.inl hb⟩
 have HOWN:Hid (∀b,w.heap.size+1≤b→¬Of ρ b):=fun b hb ho=>by have:=(HH.out.dom b ho).2;simp at this;omega
 clear h2 h3 HC
 go_wp2_with fail
 go_loopw [8,93] (fun _ s10 wr=>∃k:Nat,s10=.int .i64 k∧k≤l.length∧Hid (xW (zAM (now+ls)) l r (fun rk=>rk.now=now∧rk.cfg.lease=ls∧rk.atts.length≤1099511627776) w1 ρ G D L k wr)) (fun _ s10 _=>l.length - (intOf s10).toNat)
 case atStart=>exact ⟨0,by go_num,Nat.zero_le _,xW.start HR1.out ⟨HNW.out.1,HNW.out.2,hla⟩ HLV.out⟩
 case round =>
  obtain ⟨k,rfl,hk,HL⟩:=hrel
  by_cases hkl:k < l.length
  ·have hlt:decide ((k:Int) < (l.length:Int))=true:=decide_eq_true (by omega)
   have hsl:=HL.out.list HSL.out (fun b hb=>HOWN.out b (by simpa using hb))
   obtain ⟨b,off,cap,hv,hbo,hbl,_,_,hc,_⟩:=hsl.form (by omega)
   obtain ⟨rfl,rfl⟩:va=some ⟨b,off,none⟩∧vc=cap:=by injection hv with e1 e2 e3;exact ⟨e1,e3⟩
   have ck:wr.cell? ⟨b,off+k,none⟩=some (vp (L.att (hg l k).seq)):=hc k _ (by simp [zZ hkl])
   obtain ⟨rk,ρk,Lk,k1,k2,k3,k4,k5,⟨k6,k6b,k6c⟩,k7,k8⟩:=HL.out
   rw [zCC hkl] at k7 k8
   have hk0:(0:Int)≤(k:Int):=by omega
   have hk1:(k:Int) < (l.length:Int):=by omega
   have c5:wr.cell? ⟨D,5,none⟩=some (vi now):=by have:=k1.disp.c5;rw [k6] at this;exact this
   have c0:wr.cell? ⟨D,0,none⟩=some (vi ls):=by have:=k1.disp.c0;rw [k6b] at this;exact this
   have hDr:=k1.size.2
   have HRN:Hid (∀n,Calls Tryz.prog 70 #[tI D,vp (L.att (hg l k).seq),vi (now+ls)] (wr.drewN n) fun e w'=>e=.returned (.tuple #[])∧xW (zAM (now+ls)) l r (fun rk=>rk.now=now∧rk.cfg.lease=ls∧rk.atts.length≤1099511627776) w1 ρ G D L (k+1) w'):=fun n=>by
    have:=zJl (k1.drewN n) (k7.2 (hg l k) (by simp)) (now+ls) k6c
    rw [k3] at this
    refine this.mono ?_
    rintro e w' ⟨rfl,m1,m2⟩
    exact ⟨rfl,zAM (now+ls) rk (hg l k),ρk,Lk,m1,(k2.drewN n).trans m2,k3,k4,k5,⟨k6,k6b,by show (rk.atts.map _).length≤_;rw [List.length_map];exact k6c⟩,k7.renew,k8⟩
   generalize L.att (hg l k).seq=A at *
   have hsum:IntKind.i64.wrap (now+ls)=now+ls:=IntWalk.i64_in _ (by omega)
   clear hsl hv hbo hbl hc k1 k2 k3 k4 k5 k6 k6b k6c k7 k8
   go_wp2_with fail
   refine xF 14 xG (by kernel_rfl) ?_
   simp only [List.take_succ_cons,List.take_zero,List.drop_succ_cons,List.drop_zero]
   repeat still_step
   refine wpStill_nil ?_
   go_wp2_with fail
   refine (HRN.out _).mono ?_
   rintro e w2 ⟨rfl,hst⟩
   have HST:=zh hst
   clear hst
   go_wp2_with fail
   go_roundw
   case rel=>exact ⟨k+1,by go_num,by omega,HST.out⟩
   case measure=>simp [intOf];omega
  ·obtain rfl:k=l.length:=by omega
   have hlt:decide ((l.length:Int) < (l.length:Int))=false:=by simp
   have HP:Hid (At w ρ G D (xk r c) wr):=by
    obtain ⟨rk,ρk,Lk,k1,k2,k3,k4,k5,k6,k7,k8⟩:=HL.out
    rw [List.drop_length] at k8
    have k8:rk=l.foldl (zAM (now+ls)) r:=k8
    rw [←HB.out,←k8]
    exact ⟨ρk,Lk,k1,HT1.out.trans k2⟩
   go_wp2_with fail
   go_end0
   exact ⟨rfl,by rw [HR.out];exact HP.out⟩
theorem zMQ {w:World} {ρ:Nat→Role} {G D:Nat} {L:Lay} {r:Raw} (h:RRep w ρ G D L r) (hE:Env G w) {N P:Nat} (hI:Inv N P r) (hP:P+1 < NB) (c:Int) {m:Msg} (hk:m.kind=xO) :
 Calls Tryz.prog 38 #[vp D,vi c,.agg (zF m)] w (zAo w ρ G D (zY r c m)):=by
 have HR:=zh (zMJ (r:=r) (c:=c) hk)
 have ht:(bs m.kind).toList=[100,114,97,105,110]:=by rw [hk];exact yJ _
 have HT:Hid (Step ρ ρ w (w.alloc (.cells (zF m) 91))):=(Step.refl ρ w).alloc _
 have HE:=zh hE
 have HD:=zh (fun b (hb:Of ρ b)=>(h.dom b hb).1)
 have HC:=zh (zEQ (h.alloc (.cells (zF m) 91)) c)
 obtain ⟨x,hx⟩:=zER r c
 have Hx:=zh hx
 have HQ:=zh (zML hx)
 have hwl:(zH r c).waiting.length≤1000000000000:=by have:=(hI.conn c).n.pot;unfold NB at hP;omega
 have HLM:=zh ((hI.conn c).lim (by omega))
 have HMC:=zh (show zF m=#[vs (bs m.kind),vi m.id,vi m.att,vs (bs m.tenant),vs (bs m.text)] from rfl)
 rw [HMC.out] at HT HC ⊢
 generalize zH r c=r1 at *
 obtain ⟨xr,xd,xg⟩:=x
 clear hI hP hk h hx hE
 go_enter Tryz.func38,Tryz.ntmps38
 go_wp2_with fail
 refine HC.out.mono ?_
 rintro e w1 ⟨ρ1,L1,rfl,k1,k2⟩
 have hblk1:=(k1.cns.2.2.2 c _ (yQ Hx.out)).2.1
 have hblkr:=(k1.cns.2.2.2 c _ (yQ Hx.out)).1
 have d1:w1.cell? ⟨L1.cn c,1,none⟩=some (.bool xd):=zB hblk1 rfl
 have fd1:w1.frozen? ⟨L1.cn c,1,none⟩=false:=zK hblk1
 obtain ⟨p1,p2⟩:=k1.put_cn (w':=w1.setCell ⟨L1.cn c,1,none⟩ (.bool true)) (y:={rest:=xr,drains:=true,gone:=xg}) Hx.out rfl (zO w1 hblk1) ((Fr.refl _ w1).setCell _ _ (.inl rfl))
 have HK:=zh p1
 have HS:=zh ((HT.out.trans k2).trans p2)
 obtain ⟨va,vc,hw1,hw2,hw3⟩:=SlAt.form' p1.wai
 have c11:(w1.setCell ⟨L1.cn c,1,none⟩ (.bool true)).cell? ⟨D,11,none⟩=some (.slice va r1.waiting.length vc):=by rw [←hw1];exact p1.disp.c11
 have hwai:SlAt (w1.setCell ⟨L1.cn c,1,none⟩ (.bool true)) 3 1 (fun b=>ρ1 b=zd) (.slice va r1.waiting.length vc) r1.waiting.length (r1.waiting.map encI):=by rw [←hw1];exact p1.wai
 have HWO:=zh (zEC hwai c (fun b (hb:ρ1 b=zd)=>(p1.dom b (by rw [hb];simp [zd])).2) hwl)
 have hDC:D≠L1.cn c:=fun e=>by have:=k1.disp.1;rw [e,hblkr] at this;simp [rCn,zC] at this
 have hD1:=k1.size.2
 unfold maxLen at hw3
 have e11:w1.cell? ⟨D,11,none⟩=some (.slice va r1.waiting.length vc):=by
  have h5:=k1.disp.c11
  have h6:=p1.disp.c11
  rw [h5,←h6];exact c11
 clear k1 k2 p1 p2 hwai hw1 hblk1 hblkr
 go_wp2_with fail
 refine HWO.out.mono ?_
 rintro e w2 ⟨v2,rfl,hs2,hf2⟩
 obtain ⟨va2,vc2,hv1,hv2,hv3⟩:=hs2.form'
 have hD2:w2.heap[D]?=some (.cells (yR L1 r1.cfg r1.now r1.seq) 81 (0,0)):=(hf2.block D HK.out.size.2 (fun (e:ρ1 D=zd)=>by have:=HK.out.disp.1;rw [e] at this;simp [zd,zC] at this)).trans HK.out.disp.2
 have f11:w2.frozen? ⟨D,11,none⟩=false:=zK hD2
 have c11b:w2.cell? ⟨D,11,none⟩=some L1.waiting:=zB hD2 rfl
 obtain ⟨q1,q2⟩:=HK.out.put_wait (ρ':=ρ1) (w':=w2.setCell ⟨D,11,none⟩ v2) (v:=v2) (l:=zE r1.waiting c) Ext.refl (zO w2 hD2)
  (hs2.of_blk (fun b (hb:ρ1 b=zd) _=>zG _ (by rintro rfl;have:=HK.out.disp.1;rw [hb] at this;simp [zd,zC] at this)) (fun _ h _=>h))
  ((hf2.mono (fun x hx=>.inl (.inr hx))).setCell _ _ (.inl (.inl rfl)))
 have HA:Hid (At w ρ G D {r1 with conns:=aset r1.conns c {rest:=xr,drains:=true,gone:=xg},waiting:=zE r1.waiting c} (w2.setCell ⟨D,11,none⟩ v2)):=⟨_,_,q1,HS.out.trans q2⟩
 have HBY:=zh (zGu q1 (HA.out.env HE.out HD.out) ⟨HLM.out.atts,HLM.out.out⟩ c)
 have HQ2:=zh q2
 subst hv1
 clear q1 q2 hs2 hf2 hD2
 go_wp2_with fail
 refine HBY.out.mono ?_
 rintro e w3 ⟨rfl,hst⟩
 have HA3:=zh (At.st (HS.out.trans HQ2.out) hst)
 clear hst
 go_wp2_with fail
 go_end0
 exact ⟨rfl,by rw [HR.out,HQ.out];exact HA3.out⟩
theorem zMR {w:World} {ρ:Nat→Role} {G D:Nat} {L:Lay} {r:Raw} (h:RRep w ρ G D L r) (hE:Env G w) {N P:Nat} (hI:Inv N P r) (hN:N+1≤NB) (hP:P+1 < NB) (c:Int) {m:Msg} (hm:xD m)
 (hk:m.kind=kSub∨m.kind=kCan∨m.kind=xM∨m.kind=xN∨m.kind=yE∨m.kind=xB∨m.kind=xO) :
 Calls Tryz.prog 38 #[vp D,vi c,.agg (zF m)] w (zAo w ρ G D (zY r c m)):=by
 rcases hk with hk | hk | hk | hk | hk | hk | hk
 ·exact zLy h hE hI hN hP c hm hk
 ·exact zMA h hE hI (by omega) hP c hm hk
 ·exact zMN h hI hP c hk
 ·exact zMP h hI (by omega) hP c hk
 ·exact zME h hE hI (by omega) hP c hm hk
 ·exact zMD h hE hI (by omega) hP c hm hk
 ·exact zMQ h hE hI hP c hk
def zBW (w:World) (ρ:Nat→Role) (G D:Nat) (r:Raw) (e:Ending) (w':World):Prop:=
 ∃v ρ' L',e=.returned v∧RRep w' ρ' G D L' (xe r)∧Step ρ ρ' w w'∧SlAt w' 59 2 (fun b=>(Of ρ b∨w.heap.size≤b)∧¬Of ρ' b) v r.out.length (yv r.out)
theorem At.told {w W:World} {ρ:Nat→Role} {G D:Nat} {r:Raw} (h:At w ρ G D r W):Calls Tryz.prog 41 #[vp D] W (zBW w ρ G D r):=by
 obtain ⟨ρk,Lk,h1,h2⟩:=h
 refine (zLd h1).mono ?_
 rintro e w' ⟨rfl,k1,k2,k3⟩
 exact ⟨_,_,_,rfl,k1,h2.trans k2,k3.of_blk (fun _ _ _=>rfl) (fun b hb _=>⟨h2.own b hb.1,hb.2⟩)⟩
theorem RRep.put_rest {w w':World} {ρ ρ':Nat→Role} {G D:Nat} {L:Lay} {r:Raw} (h:RRep w ρ G D L r) {c:Int} {x:Cn} {b:zA} {v:Value} (hx:aget r.conns c=some x) (hE:Ext (zq c) ρ ρ' w w')
 (hC:w'.heap[L.cn c]?=some (zBT v x.drains x.gone)) (hs:SlAt w' 5 1 (fun b=>ρ' b=zq c) v b.length (b.map zr)) (hf:Fr (fun b=>b=L.cn c∨ρ' b=zq c) w w') :
 RRep w' ρ' G D {L with rest:=fun k=>if k=c then v else L.rest k} {r with conns:=aset r.conns c {x with rest:=b}}∧Step ρ ρ' w w':=by
 obtain ⟨h1,h2,h3,h4⟩:=h.cns
 obtain ⟨hrc,hblk,hsl⟩:=h4 c x (yQ hx)
 have hS:∀(T:Role→Prop),¬T (rCn c)→¬T (zq c)→∀b,b < w.heap.size→(b=L.cn c∨ρ' b=zq c)→¬T (ρ b):=fun T t1 t2 b hb hs ht=>by
  rcases hs with rfl | hs
  ·rw [hrc] at ht;exact t1 ht
  ·rcases hE b with e | e
   ·rw [←e,hs] at ht;exact t2 ht
   ·omega
 have k:∀T:Role→Prop,¬T (rCn c)→¬T (zq c)→Keep T ρ ρ' w w':=fun T t1 t2=>hE.keep hf (hS T t1 t2)
 have hcn:ρ' (L.cn c)=rCn c:=by
  rcases hE (L.cn c) with e | e
  ·rw [e,hrc]
  ·have:=zD w hblk;omega
 refine ⟨⟨hE.dom h hf.size,h.disp.keep (k _ (by simp [zC,rCn]) (by simp [zC,zq])),h.opn.keep (k _ (by simp [rCn]) (by simp [zq])),?_,h.qus.keep (k _ (by simp [rCn]) (by simp [zq])),h.run.keep (k _ (by simp [rCn]) (by simp [zq])),
  h.rng.keep (k _ (by simp [rCn]) (by simp [zq])),h.wai.keep (k _ (by simp [rCn]) (by simp [zq])),h.lea.keep (k _ (by simp [rCn]) (by simp [zq])),h.out.keep (k _ (by simp [rCn]) (by simp [zq]))⟩,hE.step hf (fun b hb hs=>?_)⟩
 ·refine ⟨?_,?_,zw h3 _ _,?_⟩
  ·rcases hE L.mc with e | e
   ·rw [e,h1]
   ·have:=h2.lt;omega
  ·rw [zDy (fun c=>vp (L.cn c)) r.conns hx]
   exact h2.of_blk (hf.block _ h2.lt (fun e=>hS (fun R=>R=rMc) (by simp [rCn,rMc]) (by simp [zq,rMc]) L.mc h2.lt e h1))
  ·intro c' z hz
   by_cases e:c'=c
   ·subst e
    have hz':z={x with rest:=b}:=by
     have h5:=xA (zw h3 c' _) hz
     rw [zV,if_pos rfl] at h5
     exact (Option.some.inj h5).symm
    subst hz'
    simp only [if_true]
    exact ⟨hcn,hC,hs⟩
   ·have hz':(c',z)∈r.conns:=by
     rcases zAR hz with h5 | h5
     ·exact h5
     ·exact absurd h5.1 e
    obtain ⟨q1,q2,q3⟩:=h4 c' z hz'
    simp only [e,if_false]
    obtain ⟨k1,k2⟩:=k (fun R=>R=rCn c') (by simp [rCn,Ne.symm e]) (by simp [rCn,zq]) _ (zD w q2) q1
    exact ⟨k2.trans q1,k1.trans q2,q3.keep (k _ (by simp [rCn,zq]) (by simp [zq,Ne.symm e]))⟩
 ·unfold Of
  rcases hs with rfl | hs
  ·rw [hrc];simp [rCn]
  ·rcases hE b with e | e
   ·rw [←e,hs];simp [zq]
   ·omega
open Classical in
noncomputable def zBX (ρ:Nat→Role) (R:Nat→Prop) (n m:Nat) (c:Int):Nat→Role:=fun b=>if R b∧n≤b∧b < m then zq c else ρ b
theorem zMS {w w':World} {ρ:Nat→Role} {G D:Nat} {L:Lay} {r:Raw} (h:RRep w ρ G D L r) {c:Int} {x:Cn} (hx:aget r.conns c=some x) {l:zA} {e:Ending}
 (hp:zEH (L.cn c) (fun b=>ρ b=zq c) x.drains x.gone x.rest l w e w') :
 ∃sl ρ',e=.returned sl∧At w ρ G D {r with conns:=aset r.conns c {x with rest:=(zL x.rest l).2}} w'∧(∃L',RRep w' ρ' G D L' {r with conns:=aset r.conns c {x with rest:=(zL x.rest l).2}}∧Step ρ ρ' w w') ∧
  SlAt w' 9 1 (fun b=>¬Of ρ' b) sl (zL x.rest l).1.length ((zL x.rest l).1.map fun x=>vs (bs x)):=by
 obtain ⟨sl,v,R,O,rfl,h1,h2,h3,h4,h5,h6,h7⟩:=hp
 have hfs:=h7.size
 have hE:Ext (zq c) ρ (zBX ρ R w.heap.size w'.heap.size c) w w':=fun b=>by
  unfold zBX
  by_cases hb:R b∧w.heap.size≤b∧b < w'.heap.size
  ·rw [if_pos hb];exact .inr ⟨rfl,hb.2⟩
  ·rw [if_neg hb];exact .inl rfl
 have hRR:∀b,R b→b < w'.heap.size→zBX ρ R w.heap.size w'.heap.size c b=zq c:=fun b hb hl=>by
  unfold zBX
  by_cases hn:w.heap.size≤b
  ·rw [if_pos ⟨hb,hn,hl⟩]
  ·rw [if_neg (fun h=>hn h.2.1)]
   rcases h2 b hb with h8 | h8
   ·exact h8
   ·exact absurd h8 hn
 obtain ⟨k1,k2⟩:=h.put_rest hx hE h1 (h5.of_blk (fun _ _ _=>rfl) hRR) (h7.mono (fun b hb=>.inl (hb.imp (fun e=>e) (fun e=>by
  have:=(h.dom b (by rw [e];simp [zq])).2
  unfold zBX
  rw [if_neg (fun h=>by have:=h.2.1;omega)];exact e))))
 refine ⟨sl,_,rfl,⟨_,_,k1,k2⟩,⟨_,k1,k2⟩,h6.of_blk (fun _ _ _=>rfl) (fun b hb hl=>?_)⟩
 have h8:=h3 b hb
 intro ho
 unfold Of zBX at ho
 rw [if_neg (fun h=>h4 b h.1 hb)] at ho
 have:=(h.dom b ho).2
 omega
theorem At.after {w w0 W:World} {ρ ρk:Nat→Role} {G D:Nat} {r:Raw} (hs:Step ρ ρk w w0) (h:At w0 ρk G D r W):At w ρ G D r W:=by
 obtain ⟨ρj,Lj,h1,h2⟩:=h
 exact ⟨ρj,Lj,h1,hs.trans h2⟩
theorem At.below {w W W':World} {ρ:Nat→Role} {G D:Nat} {r:Raw} (h:At w ρ G D r W) (hb:Below W.heap.size W W'):At w ρ G D r W':=by
 obtain ⟨ρj,Lj,h1,h2⟩:=h
 exact ⟨ρj,Lj,h1.of_fr (Fr.of_below (S:=fun _=>False) hb) (fun _ f=>f.elim),⟨h2.fr.trans (Fr.of_below (S:=fun _=>False) hb) (fun _ f=>f.elim),h2.own⟩⟩
theorem At.serve {w0 W:World} {ρ:Nat→Role} {G D:Nat} {r:Raw} (h:At w0 ρ G D r W) (hE:Env G w0) (hd:∀b,Of ρ b→G≤b) {N P:Nat} (hI:Inv N P r) (hN:N≤NB) (hP:P < NB) :
 Calls Tryz.prog 39 #[vp D] W fun e w'=>e=.returned (.tuple #[])∧At w0 ρ G D (yF r) w':=by
 have hEr:=h.env hE hd
 obtain ⟨ρk,Lk,h1,h2⟩:=h
 refine (zLw h1 hEr hI hN hP).mono ?_
 rintro e w' ⟨rfl,hst⟩
 exact ⟨rfl,At.st h2 hst⟩
theorem At.handle {w0 W:World} {ρ:Nat→Role} {G D:Nat} {r:Raw} (h:At w0 ρ G D r W) (hE:Env G w0) (hd:∀b,Of ρ b→G≤b) {N P:Nat} (hI:Inv N P r) (hN:N+1≤NB) (hP:P+1 < NB) (c:Int) {m:Msg} (hm:xD m)
 (hk:m.kind=kSub∨m.kind=kCan∨m.kind=xM∨m.kind=xN∨m.kind=yE∨m.kind=xB∨m.kind=xO) :
 Calls Tryz.prog 38 #[vp D,vi c,.agg (zF m)] W fun e w'=>e=.returned (.tuple #[])∧At w0 ρ G D (zY r c m) w':=by
 have hEr:=h.env hE hd
 obtain ⟨ρk,Lk,h1,h2⟩:=h
 refine (zMR h1 hEr hI hN hP c hm hk).mono ?_
 rintro e w' ⟨rfl,ha⟩
 exact ⟨rfl,At.after h2 ha⟩
def zBB (r:Raw) (c:Int) (ls:List zA) (k:Nat):Raw:=(ls.take k).foldl (fun r l=>zk r c l) r
theorem zMT {r:Raw} {c:Int} {ls:List zA} {k:Nat} {l:zA} (h:ls[k]?=some l):zBB r c ls (k+1)=zk (zBB r c ls k) c l:=by
 unfold zBB
 rw [List.take_add_one,h];simp
theorem zMU {N P:Nat} {r:Raw} (h:Inv N P r) (c:Int) (ls:List zA) (k:Nat):Inv (N+k) (P+4*k) (zBB r c ls k):=
 (Inv.lines c (ls.take k) h).mono (by simp;omega) (by simp;omega)
theorem zMV {r:Raw} {c:Int} {l:zA} (h:ye l=none):zk r c l=rSay r c [wBad]:=by unfold zk;rw [h]
theorem zMW {r:Raw} {c:Int} {l t:zA} (h:ye l=some t) (h2:xP t=none):zk r c l=rSay r c [wBad]:=by unfold zk;simp only [h,h2]
theorem zMX {r:Raw} {c:Int} {l t:zA} {m:Msg} (h:ye l=some t) (h2:xP t=some m):zk r c l=yF (zY r c m):=by unfold zk;simp only [h,h2]
theorem zMY {w:World} {ρ:Nat→Role} {G D:Nat} {L:Lay} {r:Raw} (h:RRep w ρ G D L r) (hE:Env G w) {N P:Nat} (hI:Inv N P r) (hF:Few r) (c:Int) (b:zA) (hbl:b.length≤140737488355328) (hN:N+(zL (yr (zH r c) c) b).1.length≤NB) (hP:P+4*(zL (yr (zH r c) c) b).1.length+5 < NB) :
 Calls Tryz.prog 20 #[vp D,vi c,vs (bs b)] w (zBW w ρ G D (yN r c b)):=by
 have HE:=zh hE
 have HD:=zh (fun b (hb:Of ρ b)=>(h.dom b hb).1)
 have HC:=zh (zEQ h c)
 obtain ⟨x,hx⟩:=zER r c
 have hI1:=hI.conn c
 have hF1:=hF.conn c
 have hxr:yr (zH r c) c=x.rest:=by unfold yr;rw [hx]
 have hrl:x.rest.length≤81:=by rw [←hxr];exact hF1.rest c
 have HR:Hid (yN r c b=(zL x.rest b).1.foldl (fun r l=>zk r c l) {zH r c with conns:=aset (zH r c).conns c {x with rest:=(zL x.rest b).2}}):=show _=_ by
  unfold yN xl
  simp only [hx,hxr]
 have HI2:Hid (Inv N P {zH r c with conns:=aset (zH r c).conns c {x with rest:=(zL x.rest b).2}}):=hI1.conns (zw hI1.q.kcn _ _)
 have HLL:=zh (zCY b x.rest hrl).1
 rw [hxr] at hN hP
 have hnl:(zL x.rest b).1.length≤1099511627776:=by unfold NB at hN;omega
 have Hx:=zh hx
 have HCU:Hid (∀w1 ρ1 L1,RRep w1 ρ1 G D L1 (zH r c)→Calls Tryz.prog 35 #[vp (L1.cn c),vs (bs b)] w1 (zEH (L1.cn c) (fun b=>ρ1 b=zq c) x.drains x.gone x.rest b w1)):=fun w1 ρ1 L1 k1=>by
  obtain ⟨q1,q2,q3⟩:=k1.cns.2.2.2 c x (yQ Hx.out)
  exact zKd q2 (by rw [q1];simp [rCn,zq]) q3 hrl hbl hnl
 generalize zH r c=r1 at *
 generalize hr2:({r1 with conns:=aset r1.conns c {x with rest:=(zL x.rest b).2}}:Raw)=r2 at *
 have Hr2:=zh hr2
 obtain ⟨ls,hls⟩:∃ls,(zL x.rest b).1=ls:=⟨_,rfl⟩
 rw [hls] at HR HLL hnl hN hP
 have Hls:=zh hls
 have hsz:ls.length≤1099511627776:=hnl
 have HB:=zh (And.intro hN hP)
 clear hI hF hI1 hF1 hxr hrl h hE hx hr2 hls hN hP
 go_enter Tryz.func20,Tryz.ntmps20
 go_wp2_with fail
 refine HC.out.mono ?_
 rintro e w1 ⟨ρ1,L1,rfl,k1,k2⟩
 have HK1:=zh (And.intro k1 k2)
 have HCU1:=zh (HCU.out w1 ρ1 L1 k1)
 clear k1 k2
 go_wp2_with fail
 refine HCU1.out.mono ?_
 intro e w2 hp
 obtain ⟨sl,ρ2,rfl,k1,⟨L2,k2,k3⟩,k4⟩:=zMS HK1.out.1 Hx.out hp
 rw [Hr2.out] at k2
 rw [Hls.out] at k4
 have HS2:=zh (HK1.out.2.trans k3)
 have HR2:=zh k2
 have HSL:=zh k4
 obtain ⟨va,vc,hv1,hv2,hv3⟩:=k4.form'
 subst hv1
 unfold maxLen at hv3
 have HE2:Hid (Env G w2):=At.env (ρ:=ρ) (D:=D) (r:=r2) ⟨ρ2,L2,k2,HS2.out⟩ HE.out HD.out
 have HD2:Hid (∀b,Of ρ2 b→G≤b):=fun b hb=>(k2.dom b hb).1
 clear hp k1 k2 k3 k4
 go_wp2_with fail
 go_loopw [8,9,10,11,12,21] (fun _ _ _ _ _ s21 wr=>∃k:Nat,s21=.int .i64 k∧k≤ls.length∧Hid (At w2 ρ2 G D (zBB r2 c ls k) wr)) (fun _ _ _ _ _ s21 _=>ls.length - (intOf s21).toNat)
 case atStart=>exact ⟨0,by go_num,Nat.zero_le _,At.start HR2.out⟩
 case round =>
  obtain ⟨k,rfl,hk,HA⟩:=hrel
  by_cases hkl:k < ls.length
  ·have hlt:decide ((k:Int) < (ls.length:Int))=true:=decide_eq_true (by omega)
   obtain ⟨l,hl⟩:∃l,ls[k]?=some l:=⟨_,List.getElem?_eq_getElem hkl⟩
   have HLN:=zh (zMT (r:=r2) (c:=c) hl)
   have hll:=HLL.out l (List.mem_of_getElem? hl)
   have HIk:=zh (zMU HI2.out c ls k)
   obtain ⟨b',off,cap,hv,_,_,_,_,hc,_⟩:=(HSL.out.of_blk (w':=wr) (own':=fun b=>¬Of ρ2 b) (fun b hb hl=>by obtain ⟨ρk,Lk,h1,h2⟩:=HA.out;exact h2.fr.block b hl hb) (fun _ h _=>h)).form (by omega)
   obtain ⟨rfl,rfl⟩:va=some ⟨b',off,none⟩∧vc=cap:=by injection hv with e1 e2 e3;exact ⟨e1,e3⟩
   have ck:wr.cell? ⟨b',off+k,none⟩=some (vs (bs l)):=hc k _ (by simp [hl])
   have hk0:(0:Int)≤(k:Int):=by omega
   have hk1:(k:Int) < (ls.length:Int):=by omega
   have HOP:=zh (zKa l (by omega) wr)
   generalize zBB r2 c ls k=rk at *
   clear hc hv hl
   go_wp2_with fail
   refine HOP.out.mono ?_
   rintro e w3 ⟨t,b3,rfl,o1,o2,o3,o4⟩
   have HO:=zh (And.intro o1 o2)
   have HA3:=zh (HA.out.below o4)
   have htl:t.length≤81:=by omega
   clear o1 o2 o3 o4
   have HRD:=zh (zLE (HA3.out.env HE2.out HD2.out) t (by omega))
   go_wp2_with fail
   refine HRD.out.mono ?_
   rintro e w4 ⟨rfl,o4⟩
   have HA4:=zh (HA3.out.below o4)
   have HRA:=zh (zKy t)
   have Htl:=zh htl
   obtain ⟨m,hm⟩:∃m,(yo t).1=m:=⟨_,rfl⟩
   obtain ⟨b4,hb4⟩:∃b4,(yo t).2=b4:=⟨_,rfl⟩
   rw [hm,hb4] at HRA ⊢
   have HMM:Hid (b4=true→xP t=some m):=fun hb=>by rw [HRA.out,if_pos hb]
   have HNN:Hid (b4=false→xP t=none):=fun hb=>by rw [HRA.out,if_neg (by rw [hb];simp)]
   have HMC:=zh (show zF m=#[vs (bs m.kind),vi m.id,vi m.att,vs (bs m.tenant),vs (bs m.text)] from rfl)
   rw [HMC.out]
   clear o4 hm hb4
   clear HR HCU HCU1 HOP HRD HC HRA
   have HA5:=zh (HA4.out.alloc (.cells #[vs (bs m.kind),vi m.id,vi m.att,vs (bs m.tenant),vs (bs m.text)] 91))
   have hpot:Hid (rk.out.length≤1099511627776):=show _≤_ by have:=HIk.out.n.pot;have:=HB.out.2;unfold NB at this;omega
   have HBAD:Hid (Calls Tryz.prog 40 #[vp D,vi c,.slice (some ⟨w4.heap.size+1,0,none⟩) 1 1] ((w4.alloc (.cells #[vs (bs m.kind),vi m.id,vi m.att,vs (bs m.tenant),vs (bs m.text)] 91)).alloc (.cells #[.iface 9 (vs (bs wBad))] 20)) fun e w'=>e=.returned (.tuple #[])∧At w2 ρ2 G D (rSay rk c [wBad]) w'):=
    (HA5.out.alloc _).say HE2.out HD2.out c [Wd.str wBad] (by intro x hx;simp at hx;subst hx;show _≤_;decide) (by decide) hpot.out (B:=w4.heap.size+1) (cap:=1) (by simp) (by
     intro j x hx
     refine zB (by have:=zP (w4.alloc (.cells #[vs (bs m.kind),vi m.id,vi m.att,vs (bs m.tenant),vs (bs m.text)] 91)) (o:=.cells #[.iface 9 (vs (bs wBad))] 20);simpa using this) ?_
     match j with
     | 0=>simp at hx;subst hx;rfl
     | j+1=>simp at hx)
   cases b3 with
   | false =>
     have HL:Hid (zk rk c l=rSay rk c [wBad]):=zMV (HO.out.2 rfl)
     clear HMM HNN HO
     go_wp2_with fail
     refine HBAD.out.mono ?_
     rintro e w5 ⟨rfl,hst⟩
     have HST:=zh hst
     clear hst HBAD
     go_wp2_with fail
     go_roundw
     case rel=>exact ⟨k+1,by go_num,by omega,by rw [HLN.out,HL.out];exact HST.out⟩
     case measure=>simp [intOf];omega
   | true =>
     cases b4 with
     | false =>
       have HL:Hid (zk rk c l=rSay rk c [wBad]):=zMW (HO.out.1 rfl) (HNN.out rfl)
       clear HMM HNN HO
       go_wp2_with fail
       refine HBAD.out.mono ?_
       rintro e w5 ⟨rfl,hst⟩
       have HST:=zh hst
       clear hst HBAD
       go_wp2_with fail
       go_roundw
       case rel=>exact ⟨k+1,by go_num,by omega,by rw [HLN.out,HL.out];exact HST.out⟩
       case measure=>simp [intOf];omega
     | true =>
       have HL:Hid (zk rk c l=yF (zY rk c m)):=zMX (HO.out.1 rfl) (HMM.out rfl)
       have hmok:xD m:=zBM (zBN (HO.out.1 rfl)) (HMM.out rfl)
       have hk:=zIl (HMM.out rfl)
       have HIH:=zh (HIk.out.handle c hmok)
       have HHA:=zh (HA5.out.handle HE2.out HD2.out HIk.out (by have:=HB.out.1;omega) (by have:=HB.out.2;omega) c hmok hk)
       rw [HMC.out] at HHA
       clear HMM HNN HO HBAD hmok hk
       go_wp2_with fail
       refine HHA.out.mono ?_
       rintro e w5 ⟨rfl,hst⟩
       have HSV:=zh (hst.serve HE2.out HD2.out HIH.out (by have:=HB.out.1;omega) (by have:=HB.out.2;omega))
       clear hst HHA
       go_wp2_with fail
       refine HSV.out.mono ?_
       rintro e w6 ⟨rfl,hst⟩
       have HST:=zh hst
       clear hst HSV
       go_wp2_with fail
       go_roundw
       case rel=>exact ⟨k+1,by go_num,by omega,by rw [HLN.out,HL.out];exact HST.out⟩
       case measure=>simp [intOf];omega
  ·obtain rfl:k=ls.length:=by omega
   have hlt:decide ((ls.length:Int) < (ls.length:Int))=false:=by simp
   have HA9:Hid (At w2 ρ2 G D (yN r c b) wr):=by
    have:=HA.out
    unfold zBB at this
    rw [List.take_length] at this
    rw [HR.out];exact this
   have HTO:=zh ((At.after HS2.out HA9.out).told)
   go_wp2_with fail
   refine HTO.out.mono ?_
   rintro e w9 ⟨v,ρ9,L9,rfl,q1,q2,q3⟩
   have HQ:=zh (And.intro q1 (And.intro q2 q3))
   clear q1 q2 q3
   go_wp2_with fail
   go_ret
   exact ⟨v,ρ9,L9,rfl,HQ.out.1,HQ.out.2.1,HQ.out.2.2⟩
end Go.Proofs.YtaejfobbogahmaaGreatDoor
