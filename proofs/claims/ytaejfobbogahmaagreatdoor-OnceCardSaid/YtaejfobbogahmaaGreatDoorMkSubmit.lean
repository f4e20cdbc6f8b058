/-
  Submit: texts of their own, joined.
-/
import Derived.Test.YtaejfobbogahmaaGreatDoorMkEnd
set_option maxRecDepth 100000
set_option maxHeartbeats 16000000
set_option linter.all false
namespace Go.Proofs.YtaejfobbogahmaaGreatDoor
open Go Go.RowKit
theorem zLj {w:World} {ρ:Nat→Role} {G D:Nat} {L:Lay} {r:Raw} (h:RRep w ρ G D L r) (hE:Env G w) {N P:Nat} (hI:Inv N P r) (hP:P+1 < NB) (c:Int) {m:Msg} (hm:xD m) {q:Req} (hq:aget r.reqs m.id=some q) :
 Calls Tryz.prog 68 #[vp D,vi c,.agg (zF m)] w (xp true false true w ρ G D L (yI r c m)):=by
 have HR:Hid (yI r c m=rSay r c [wRej,decI m.id,wDup]):=show _=_ by unfold yI;rw [hq];rfl
 have hA:=h.alloc (.cells (zF m) 91)
 have c6:(w.alloc (.cells (zF m) 91)).cell? ⟨D,6,none⟩=some (.map (some L.mo)):=hA.disp.c6
 have hl:∀n,(Instr.lookup 72 (.map (some L.mo)) (vi m.id) false).run Tryz.prog ((w.alloc (.cells (zF m) 91)).drewN n)=.ok (vp (L.req m.id)) ((w.alloc (.cells (zF m) 91)).drewN n):=fun n=>by
  have:=yw (hA.drewN n).opn.2.1 m.id
  rw [zy,hq] at this;exact this
 have c6w:=h.disp.c6
 have hD:=h.size.2
 have HSY:=zh (fun n=>zAc (w:=(((w.alloc (.cells (zF m) 91)).alloc (.cells #[.iface 9 (vs (bs wRej)),.iface 3 (vi m.id),.iface 9 (vs (bs wDup))] 20)).drewN n)) ((hA.alloc _).drewN n) (((hE.alloc _).alloc _).fr (yx (fun _=>False) _ n) (fun _ f=>f.elim)) c [Wd.str wRej,Wd.num m.id,Wd.str wDup] (by
  have:=hm.id
  intro x hx
  simp only [List.mem_cons,List.not_mem_nil,or_false] at hx
  rcases hx with rfl | rfl | rfl
  ·show _≤_;decide
  ·show _∧_;omega
  ·show _≤_;decide) (by simp) (by have:=hI.n.pot;unfold NB at hP;show r.out.length≤_;omega)
  (B:=w.heap.size+1) (cap:=3) (by show w.heap.size+1 < ((w.alloc _).alloc _).heap.size;simp) (by
   intro j x hx
   have hb:(((w.alloc (.cells (zF m) 91)).alloc (.cells #[.iface 9 (vs (bs wRej)),.iface 3 (vi m.id),.iface 9 (vs (bs wDup))] 20)).drewN n).heap[w.heap.size+1]?=some (.cells #[.iface 9 (vs (bs wRej)),.iface 3 (vi m.id),.iface 9 (vs (bs wDup))] 20 (0,0)):=by
    have:=zP (w.alloc (.cells (zF m) 91)) (o:=.cells #[.iface 9 (vs (bs wRej)),.iface 3 (vi m.id),.iface 9 (vs (bs wDup))] 20)
    simpa using this
   refine zB hb ?_
   match j with
   | 0=>simp at hx;subst hx;rfl
   | 1=>simp at hx;subst hx;rfl
   | 2=>simp at hx;subst hx;rfl
   | j+3=>simp at hx))
 have HT:Hid (Step ρ ρ w ((w.alloc (.cells (zF m) 91)).alloc (.cells #[.iface 9 (vs (bs wRej)),.iface 3 (vi m.id),.iface 9 (vs (bs wDup))] 20))):=((Step.refl ρ w).alloc _).alloc _
 clear h hE hI hP hm hq hA
 unfold zF at *
 go_enter Tryz.func68,Tryz.ntmps68
 go_wp2_with fail
 go_quiet (fail)
 go_wp2_with fail
 refine (HSY.out nq).mono ?_
 rintro e w2 ⟨rfl,ρ2,L2,m1,m2,m3,m4,m5⟩
 have HST:Hid (St true false true w ρ G D L (yI r c m) w2):=by
  rw [HR.out];exact ⟨ρ2,L2,m1,(HT.out.drewN nq).trans m2,m3,fun f=>(by cases f),m5⟩
 clear m1 m2 m3 m4 m5
 go_wp2_with fail
 go_end0
 exact ⟨rfl,HST.out⟩
structure zAn (w:World) (ρ:Nat→Role) (G D:Nat) (L:Lay) (r:Raw) (m:Msg) (W:World):Prop where
 rep:RRep W ρ G D L r
 env:Env G W
 step:Step ρ ρ w W
 msg:W.heap[w.heap.size]?=some (.cells (zF m) 91 (0,0))
 size:W.heap.size=w.heap.size+1
theorem zAn.start {w:World} {ρ:Nat→Role} {G D:Nat} {L:Lay} {r:Raw} (h:RRep w ρ G D L r) (hE:Env G w) (m:Msg) (n:Nat):zAn w ρ G D L r m ((w.alloc (.cells (zF m) 91)).drewN n):=
 ⟨(h.alloc _).drewN n,(hE.alloc _).fr (yx (fun _=>False) _ n) (fun _ f=>f.elim),((Step.refl ρ w).alloc _).drewN n,zP w,by show (w.alloc _).heap.size=_;simp⟩
theorem zAn.drewN {w:World} {ρ:Nat→Role} {G D:Nat} {L:Lay} {r:Raw} {m:Msg} {W:World} (h:zAn w ρ G D L r m W) (n:Nat):zAn w ρ G D L r m (W.drewN n):=
 ⟨h.rep.drewN n,h.env.fr (yx (fun _=>False) _ n) (fun _ f=>f.elim),h.step.drewN n,h.msg,h.size⟩
theorem zLk {w:World} {ρ:Nat→Role} {G D:Nat} {L:Lay} {r:Raw} (h:RRep w ρ G D L r) (hE:Env G w) {N P:Nat} (hI:Inv N P r) (hP:P+1 < NB) (c:Int) {m:Msg} (hm:xD m) (hq:aget r.reqs m.id=none) (hf:r.cfg.bound≤((qOf r (bs m.tenant)).length:Int)) :
 Calls Tryz.prog 68 #[vp D,vi c,.agg (zF m)] w (xp true false true w ρ G D L (yI r c m)):=by
 have HR:Hid (yI r c m=rSay r c [wRej,decI m.id,zAH]):=show _=_ by unfold yI;rw [hq,if_neg (by simp),if_pos hf]
 have HA:=zh (fun n=>zAn.start h hE m n)
 have c6w:=h.disp.c6
 have c8w:=h.disp.c8
 have c3w:=h.disp.c3
 have hD:=h.size.2
 have hl:∀n,(Instr.lookup 72 (.map (some L.mo)) (vi m.id) false).run Tryz.prog ((w.alloc (.cells (zF m) 91)).drewN n)=.ok (.pointer none) ((w.alloc (.cells (zF m) 91)).drewN n):=fun n=>by
  have:=yw ((HA.out n).rep.opn.2.1) m.id
  rw [zy,hq] at this;exact this
 obtain ⟨qa,qc,hqe,hqc,hqm,hqs⟩:=h.qu_at (bs m.tenant)
 have hlq:∀n,(Instr.lookup 74 (.map (some L.mq)) (vs (bs m.tenant)) false).run Tryz.prog ((w.alloc (.cells (zF m) 91)).drewN n)=.ok (.slice qa (qOf r (bs m.tenant)).length qc) ((w.alloc (.cells (zF m) 91)).drewN n):=fun n=>by
  have:=zBS ((HA.out n).rep.qus.2.1) (bs m.tenant)
  rw [hqe] at this;exact this
 unfold maxLen at hqm
 have hge:decide (r.cfg.bound≤((qOf r (bs m.tenant)).length:Int))=true:=decide_eq_true hf
 have HSY:=zh (fun n=>zAc (w:=(((w.alloc (.cells (zF m) 91)).alloc (.cells #[.iface 9 (vs (bs wRej)),.iface 3 (vi m.id),.iface 9 (vs (bs zAH))] 20)).drewN n)) (((h.alloc _).alloc _).drewN n) (((hE.alloc _).alloc _).fr (yx (fun _=>False) _ n) (fun _ f=>f.elim)) c [Wd.str wRej,Wd.num m.id,Wd.str zAH] (by
  have:=hm.id
  intro x hx
  simp only [List.mem_cons,List.not_mem_nil,or_false] at hx
  rcases hx with rfl | rfl | rfl
  ·show _≤_;decide
  ·show _∧_;omega
  ·show _≤_;decide) (by simp) (by have:=hI.n.pot;unfold NB at hP;show r.out.length≤_;omega)
  (B:=w.heap.size+1) (cap:=3) (by show w.heap.size+1 < ((w.alloc _).alloc _).heap.size;simp) (by
   intro j x hx
   have hb:(((w.alloc (.cells (zF m) 91)).alloc (.cells #[.iface 9 (vs (bs wRej)),.iface 3 (vi m.id),.iface 9 (vs (bs zAH))] 20)).drewN n).heap[w.heap.size+1]?=some (.cells #[.iface 9 (vs (bs wRej)),.iface 3 (vi m.id),.iface 9 (vs (bs zAH))] 20 (0,0)):=by
    have:=zP (w.alloc (.cells (zF m) 91)) (o:=.cells #[.iface 9 (vs (bs wRej)),.iface 3 (vi m.id),.iface 9 (vs (bs zAH))] 20)
    simpa using this
   refine zB hb ?_
   match j with
   | 0=>simp at hx;subst hx;rfl
   | 1=>simp at hx;subst hx;rfl
   | 2=>simp at hx;subst hx;rfl
   | j+3=>simp at hx))
 have HT:Hid (Step ρ ρ w ((w.alloc (.cells (zF m) 91)).alloc (.cells #[.iface 9 (vs (bs wRej)),.iface 3 (vi m.id),.iface 9 (vs (bs zAH))] 20))):=((Step.refl ρ w).alloc _).alloc _
 clear h hE hI hP hm hq hf hqe hqs
 unfold zF at *
 go_enter Tryz.func68,Tryz.ntmps68
 go_wp2_with fail
 go_quiet (fail)
 go_wp2_with fail
 go_quiet (fail)
 go_wp2_with fail
 refine (HSY.out _).mono ?_
 rintro e w2 ⟨rfl,ρ2,L2,m1,m2,m3,m4,m5⟩
 have HST:Hid (St true false true w ρ G D L (yI r c m) w2):=by
  rw [HR.out];exact ⟨ρ2,L2,m1,(HT.out.drewN _).trans m2,m3,fun f=>(by cases f),m5⟩
 clear m1 m2 m3 m4 m5
 go_wp2_with fail
 go_end0
 exact ⟨rfl,HST.out⟩
theorem zLl {w:World} {ρ:Nat→Role} {G D:Nat} {L:Lay} {r:Raw} (h:RRep w ρ G D L r) (hE:Env G w) {N P:Nat} (hI:Inv N P r) (hN:N+1≤NB) (hP:P+1 < NB) (c:Int) {m:Msg} (hm:xD m) (hq:aget r.reqs m.id=none) (hf:¬r.cfg.bound≤((qOf r (bs m.tenant)).length:Int)) :
 Calls Tryz.prog 68 #[vp D,vi c,.agg (zF m)] w (xp true false true w ρ G D L (yI r c m)):=by
 have HR:Hid (yI r c m=zj (rSay {r with reqs:=aset r.reqs m.id (zAh r c m)} c [wAcc,decI m.id]) m.id false):=show _=_ by unfold yI;rw [hq,if_neg (by simp),if_neg hf];rfl
 have HA:=zh (fun n=>zAn.start h hE m n)
 have HR0:Hid ((ρ w.heap.size).tag=0):=h.role_new (Nat.le_refl _)
 have c6w:=h.disp.c6
 have c8w:=h.disp.c8
 have c3w:=h.disp.c3
 have hD:=h.size.2
 have hl:∀n,(Instr.lookup 72 (.map (some L.mo)) (vi m.id) false).run Tryz.prog ((w.alloc (.cells (zF m) 91)).drewN n)=.ok (.pointer none) ((w.alloc (.cells (zF m) 91)).drewN n):=fun n=>by
  have:=yw ((HA.out n).rep.opn.2.1) m.id
  rw [zy,hq] at this;exact this
 obtain ⟨qa,qc,hqe,hqc,hqm,hqs⟩:=h.qu_at (bs m.tenant)
 have hlq:∀n,(Instr.lookup 74 (.map (some L.mq)) (vs (bs m.tenant)) false).run Tryz.prog ((w.alloc (.cells (zF m) 91)).drewN n)=.ok (.slice qa (qOf r (bs m.tenant)).length qc) ((w.alloc (.cells (zF m) 91)).drewN n):=fun n=>by
  have:=zBS ((HA.out n).rep.qus.2.1) (bs m.tenant)
  rw [hqe] at this;exact this
 unfold maxLen at hqm
 have hge:decide (r.cfg.bound≤((qOf r (bs m.tenant)).length:Int))=false:=decide_eq_false hf
 have HI:=zh (hI.accept (c:=c) hm hq)
 have Hm:=zh hm
 have Hq:=zh hq
 have HN:=zh hN
 have HP:=zh hP
 clear h hE hI hP hN hm hq hf hqe hqs
 have HM:=zh (show zF m=#[vs (bs m.kind),vi m.id,vi m.att,vs (bs m.tenant),vs (bs m.text)] from rfl)
 rw [HM.out] at hl hlq HA ⊢
 go_enter Tryz.func68,Tryz.ntmps68
 go_wp2_with fail
 go_quiet (fail)
 have HSa:=zh (HA.out nq)
 go_wp2_with fail
 go_quiet (fail)
 go_wp2_with fail
 obtain ⟨W1,HS1,hW1⟩:∃W1,Hid (zAn w ρ G D L r m W1)∧W1=_:=⟨_,zh (HSa.out.drewN nq),rfl⟩
 rw [←hW1]
 clear HA HSa hl hlq hqm hge c6w c8w c3w hW1
 have d6:W1.cell? ⟨D,6,none⟩=some (.map (some L.mo)):=HS1.out.rep.disp.c6
 have d1:W1.cell? ⟨D,1,none⟩=some (vi r.cfg.retries):=HS1.out.rep.disp.c1
 have hsz:=zh HS1.out.size
 have m1:W1.cell? ⟨w.heap.size,1,none⟩=some (vi m.id):=zB HS1.out.msg rfl
 have m3:W1.cell? ⟨w.heap.size,3,none⟩=some (vs (bs m.tenant)):=zB HS1.out.msg rfl
 have m4:W1.cell? ⟨w.heap.size,4,none⟩=some (vs (bs m.text)):=zB HS1.out.msg rfl
 have n6:=World.new_ne W1 ⟨D,6,none⟩ d6
 have n1:=World.new_ne W1 ⟨D,1,none⟩ d1
 have n2:=World.new_ne W1 ⟨w.heap.size,1,none⟩ m1
 have n3:=World.new_ne W1 ⟨w.heap.size,3,none⟩ m3
 have n4:=World.new_ne W1 ⟨w.heap.size,4,none⟩ m4
 have HX:=zh (HS1.out.rep.alloc (.cells (zAI (zAh r c m)) 116)).drew
 obtain ⟨w3,hrun0,hM3,hs3,hf3⟩:=zEv (P:=Tryz.prog) (w:=(W1.alloc (.cells (zAI (zAh r c m)) 116)).drew) KI HX.out.opn.2.1 Tryz.underlying72 m.id (vp W1.heap.size)
 have hrun:(Instr.mapUpdate 72 (.map (some L.mo)) (vi m.id) (vp W1.heap.size)).run Tryz.prog (W1.alloc (.cells #[vi c,vs (bs m.tenant),vs (bs m.text),vi 0,vi r.cfg.retries,.bool false,.bool false] 116)).drew=.ok () w3:=hrun0
 obtain ⟨k3,t3⟩:=(HS1.out.rep).new_req (x:=zAh r c m) (A:=W1.heap.size) (w':=w3) Hq.out (Nat.le_refl _) ((hf3.block _ (by simp) (fun e=>by have:=HS1.out.rep.opn.2.1.lt;omega)).trans (zP W1)) hM3 ((((Fr.refl _ W1).alloc _).drew).trans hf3 (fun x hx=>.inl (.inl hx)))
 have HK3:=zh k3
 have HT3:=zh t3
 have e6:w3.cell? ⟨D,6,none⟩=some (.map (some L.mo)):=k3.disp.c6
 have e1:w3.cell? ⟨D,1,none⟩=some (vi r.cfg.retries):=k3.disp.c1
 have HMno:Hid (ρ w.heap.size=ρ w.heap.size∧(ρ w.heap.size).tag=0):=⟨rfl,HR0.out⟩
 have hmb:w3.heap[w.heap.size]?=some (.cells (zF m) 91 (0,0)):=(hf3.block _ (by have:=hsz.out;simp;omega) (fun e=>by have h1:=HS1.out.rep.opn.1;have h2:=HR0.out;have e:w.heap.size=L.mo:=e;rw [e,h1] at h2;simp [rMo] at h2)).trans ((zM W1 (by have:=hsz.out;omega)).trans HS1.out.msg)
 have HMB:=zh hmb
 have g1:w3.cell? ⟨w.heap.size,1,none⟩=some (vi m.id):=zB hmb rfl
 have g3:w3.cell? ⟨w.heap.size,3,none⟩=some (vs (bs m.tenant)):=zB hmb rfl
 have g4:w3.cell? ⟨w.heap.size,4,none⟩=some (vs (bs m.text)):=zB hmb rfl
 clear hrun0 hM3 hs3 hf3 k3 t3 hmb
 go_region_held3 (fun w'=>w'.cell? ⟨D,6,none⟩=some (.map (some L.mo))∧w'.cell? ⟨D,1,none⟩=some (vi r.cfg.retries)∧w'.cell? ⟨w.heap.size,1,none⟩=some (vi m.id)∧w'.cell? ⟨w.heap.size,3,none⟩=some (vs (bs m.tenant))∧w'.cell? ⟨w.heap.size,4,none⟩=some (vs (bs m.text))) (go_keep) (fail)
 all_goals
  have HE3:=zh (Step.env HS1.out.rep HT3.out HS1.out.env)
  have HSY:=zh (zAc (w:=w3.alloc (.cells #[.iface 9 (vs (bs wAcc)),.iface 3 (vi m.id)] 20)) (HK3.out.alloc _) (HE3.out.alloc _) c [Wd.str wAcc,Wd.num m.id] (by
   have:=Hm.out.id
   intro x hx
   simp only [List.mem_cons,List.not_mem_nil,or_false] at hx
   rcases hx with rfl | rfl
   ·show _≤_;decide
   ·show _∧_;omega) (by simp) (by have:=HI.out.n.pot;have:=HP.out;unfold NB at this;show r.out.length≤_;have h2:r.out.length+3*r.atts.length+4*r.waiting.length≤P:=HI.out.n.pot;omega)
   (B:=w3.heap.size) (cap:=2) (by simp) (by
    intro j x hx
    refine zB (zP w3) ?_
    match j with
    | 0=>simp at hx;subst hx;rfl
    | 1=>simp at hx;subst hx;rfl
    | j+2=>simp at hx))
  go_wp2_with fail
  refine HSY.out.mono ?_
  rintro e w4 ⟨rfl,ρ4,L4,q1,q2,q3,q4,q5⟩
  have HK4:=zh q1
  have HT4:=zh (((HS1.out.step.trans HT3.out).alloc _).trans q2)
  have HL4:=zh (And.intro (q3 rfl) (q5 rfl))
  have hmb4:w4.heap[w.heap.size]?=some (.cells (zF m) 91 (0,0)):=(q2.fr.block _ (by have:=zD _ HMB.out;simp;omega) (fun ho=>by
   have:=HR0.out
   have hsz:=hsz.out
   unfold Of at ho
   rw [zo (by omega)] at ho
   exact ho this)).trans ((zM w3 (zD _ HMB.out)).trans HMB.out)
  have j1:w4.cell? ⟨w.heap.size,1,none⟩=some (vi m.id):=zB hmb4 rfl
  have hNB:Hid (N+1≤1000000000000):=show _≤_ by have:=HN.out;unfold NB at this;omega
  have HI4:=zh (HI.out.say c [wAcc,decI m.id])
  have HQU:=zh (zCp q1 m.id (q:=zAh r c m) (by show aget (aset r.reqs m.id _) m.id=_;simp [zV]) false (Nat.le_trans HI4.out.q.ring_le (Nat.le_trans HI4.out.n.reqs hNB.out)) (Nat.le_trans (HI4.out.q.qu_le _) (Nat.le_trans HI4.out.n.reqs hNB.out)))
  clear q1 q2 q3 q4 q5 hmb4
  go_wp2_with fail
  refine HQU.out.mono ?_
  rintro e w5 ⟨rfl,ρ5,L5,q1,q2,q3,q4,q5⟩
  have HST:Hid (St true false true w ρ G D L (yI r c m) w5):=by
   rw [HR.out];exact ⟨ρ5,L5,q1,HT4.out.trans q2,fun _=>(q3 rfl).trans HL4.out.1,fun f=>(by cases f),fun _=>(q5 rfl).trans HL4.out.2⟩
  clear q1 q2 q3 q4 q5
  go_wp2_with fail
  go_end0
  exact ⟨rfl,HST.out⟩
theorem zLm {w:World} {ρ:Nat→Role} {G D:Nat} {L:Lay} {r:Raw} (h:RRep w ρ G D L r) (hE:Env G w) {N P:Nat} (hI:Inv N P r) (hN:N+1≤NB) (hP:P+1 < NB) (c:Int) {m:Msg} (hm:xD m) :
 Calls Tryz.prog 68 #[vp D,vi c,.agg (zF m)] w (xp true false true w ρ G D L (yI r c m)):=by
 cases hq:aget r.reqs m.id with
 | some q=>exact zLj h hE hI hP c hm hq
 | none =>
   by_cases hf:r.cfg.bound≤((qOf r (bs m.tenant)).length:Int)
   ·exact zLk h hE hI hP c hm hq hf
   ·exact zLl h hE hI hN hP c hm hq hf
end Go.Proofs.YtaejfobbogahmaaGreatDoor
