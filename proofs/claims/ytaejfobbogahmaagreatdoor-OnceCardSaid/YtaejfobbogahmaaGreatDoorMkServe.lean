/-
  Serve: texts of their own, joined.
-/
import Derived.Test.YtaejfobbogahmaaGreatDoorMkServe1
import Derived.Deep.CutRange
set_option maxRecDepth 100000
set_option maxHeartbeats 16000000
set_option linter.all false
namespace Go.Proofs.YtaejfobbogahmaaGreatDoor
open Go Go.RowKit
theorem zGx (t:ByteArray):bs t.data.toList=t:=rfl
theorem zGy {n:Nat} {r:Raw} (h:r.waiting=[]∨xC r=none):yh n r=r:=by
 cases n with
 | zero=>rfl
 | succ n=>unfold yh;rw [if_pos h]
theorem zLv {N P:Nat} {r:Raw} (h:Inv N P r) (h1:r.waiting≠[]) (h2:xC r≠none):yh r.waiting.length r=yh (yM r).waiting.length (yM r):=by
 have:=zFG h h1 h2
 rw [←this]
 conv=>lhs;unfold yh
 rw [if_neg (by simp [h1,h2])]
theorem zLw {w:World} {ρ:Nat→Role} {G D:Nat} {L:Lay} {r:Raw} (h:RRep w ρ G D L r) (hE:Env G w) {N P:Nat} (hI:Inv N P r) (hN:N≤NB) (hP:P < NB) :
 Calls Tryz.prog 39 #[vp D] w (xp false true true w ρ G D L (yF r)):=by
 have HR1:=zh (h.alloc (.cells #[vp D] 29))
 have HE1:=zh (hE.alloc (.cells #[vp D] 29))
 have HD:=zh (fun b (hb:Of ρ b)=>(h.dom b hb).1)
 have HBx:=zh (show (w.alloc (.cells #[vp D] 29)).heap[w.heap.size]?=some (.cells #[vp D] 29 (0,0))∧¬Of ρ w.heap.size from ⟨zP w,fun ho=>by have:=(h.dom _ ho).2;omega⟩)
 have HT:Hid (Step ρ ρ w (w.alloc (.cells #[vp D] 29))):=(Step.refl ρ w).alloc _
 have HI:=zh hI
 have HN:=zh hN
 have HP:=zh hP
 have hw1:∃w1,w1=w.alloc (.cells #[vp D] 29):=⟨_,rfl⟩
 have hDw:=h.size.2
 obtain ⟨B,hB⟩:∃B,Hid (B=w.heap.size):=⟨_,rfl⟩
 clear h hE hI hN hP
 go_enter Tryz.func39,Tryz.ntmps39
 go_wp2_with fail
 obtain ⟨w1,hw1⟩:=hw1
 rw [←hw1] at HR1 HE1 HBx HT ⊢
 rw [←hB.out] at HBx ⊢
 clear hw1
 go_loopw [2] (fun _ wr=>Hid (∃rk,SvAt w1 ρ G D L rk wr∧Inv N P rk∧yh rk.waiting.length rk=yF r)) (fun _ wr=>waitLen wr D)
 case atStart=>exact ⟨r,⟨ρ,L,HR1.out,Step.refl _ _,rfl,rfl⟩,HI.out,rfl⟩
 case round =>
  obtain ⟨rk,hS,hIk,hF⟩:=hrel.out
  have HS:=zh hS
  have HIk:=zh hIk
  have HF:=zh hF
  have cB:wr.cell? ⟨B,0,none⟩=some (vp D):=zB (hS.box HBx.out.1 HBx.out.2) rfl
  have HWL:=zh hS.waitLen
  clear hrel hS hIk hF
  by_cases hw0:rk.waiting.length=0
  ·obtain ⟨⟨wa,wc,c11,hwm⟩,_⟩:=HS.out.waits
   rw [hw0] at c11
   have HFin:Hid (St false true true w ρ G D L (yF r) wr):=by
    rw [←HF.out,zGy (.inl (List.length_eq_zero_iff.1 hw0))]
    obtain ⟨ρk,Lk,g1,g2,g3,g4⟩:=HS.out
    exact ⟨ρk,Lk,g1,HT.out.trans g2,fun f=>(by cases f),fun _=>g3,fun _=>g4⟩
   unfold maxLen at hwm
   clear hw0
   go_wp2_with fail
   go_end0
   exact ⟨rfl,HFin.out⟩
  ·rcases zLq (zAd rk) rk.ring with ⟨hp,hf⟩ | ⟨k,t,hp,hk,hf⟩
   ·obtain ⟨⟨wa,wc,c11,hwm⟩,ra,rc,c10⟩:=HS.out.waits
    have hz1:decide (0 < rk.waiting.length)=true:=decide_eq_true (by omega)
    have hz2:decide ((0:Int) < (rk.waiting.length:Int))=true:=decide_eq_true (by omega)
    have HX:=zh (HS.out.index cB c10)
    rw [hp] at HX
    have HFin:Hid (∀n,St false true true w ρ G D L (yF r) (wr.drewN n)):=fun n=>by
     rw [←HF.out,zGy (.inr hf)]
     obtain ⟨ρk,Lk,g1,g2,g3,g4⟩:=HS.out.drewN n
     exact ⟨ρk,Lk,g1,HT.out.trans g2,fun f=>(by cases f),fun _=>g3,fun _=>g4⟩
    unfold maxLen at hwm
    clear hw0 hp hf
    go_wp2_with fail
    refine HX.out.mono ?_
    rintro e w2 ⟨n,rfl,rfl⟩
    go_wp2_with fail
    go_end0
    exact ⟨rfl,HFin.out n⟩
   ·obtain ⟨c,ws,hw⟩:∃c ws,rk.waiting=c::ws:=by
     cases hx:rk.waiting with
     | nil=>rw [hx] at hw0;exact absurd rfl hw0
     | cons c ws=>exact ⟨c,ws,rfl⟩
    have ht:xC rk=some t:=hf
    obtain ⟨id,rest,q,hq,hr,hqt,hqq⟩:=zBl HIk.out ht
    obtain ⟨⟨wa,wc,c11,hwm⟩,ra,rc,c10⟩:=HS.out.waits
    have hkr:k < rk.ring.length:=(List.getElem?_eq_some_iff.1 hk).1
    have HX:=zh (HS.out.index cB c10)
    rw [hp] at HX
    have hz1:decide (0 < rk.waiting.length)=true:=decide_eq_true (by omega)
    have hz2:decide ((0:Int) < (rk.waiting.length:Int))=true:=decide_eq_true (by omega)
    have hwp:0 < rk.waiting.length:=by omega
    have hk0:(0:Int)≤(k:Int):=by omega
    have hk1:(k:Int) < (rk.ring.length:Int):=by omega
    have hk2:decide ((k:Int) < 0)=false:=decide_eq_false (by omega)
    unfold maxLen at hwm
    have Hhead:=zh (And.intro hw (And.intro ht (And.intro hq (And.intro hr (And.intro hqt hqq)))))
    have Hk:=zh hk
    have HEQ:=zh (zBk hw ht hq hr)
    clear hw ht hq hr hqt hqq hp hf hk hw0
    go_wp2_with fail
    refine HX.out.mono ?_
    rintro e w2 ⟨n2,rfl,hw2⟩
    have HS2:Hid (SvAt w1 ρ G D L rk w2):=show SvAt _ _ _ _ _ _ _ by rw [hw2];exact HS.out.drewN n2
    clear hw2 HX HS c11 c10 cB hwm
    have cB:w2.cell? ⟨B,0,none⟩=some (vp D):=zB (HS2.out.box HBx.out.1 HBx.out.2) rfl
    obtain ⟨wb,wo,wc,rb,ro,rc,c11,c10,cw,cr,f11,hw1,hw2,hr1,hr2,hpop⟩:=HS2.out.head Hhead.out.1 Hk.out
    obtain ⟨sa,hsl,hsa⟩:=zLt (b:=wb) (off:=wo) (n:=rk.waiting.length) (cap:=wc) hwp hw1
    have HPOP:=zh (hpop sa hsa)
    unfold maxLen at hw2 hr2
    clear hpop hsa
    go_wp2_with fail
    refine xF 6 xG (by kernel_rfl) ?_
    simp only [List.take_succ_cons,List.take_zero,List.drop_succ_cons,List.drop_zero]
    repeat still_step
    refine wpStill_nil ?_
    go_upto_region 7 with (fail)
    obtain ⟨w3,hw3⟩:∃w3,w3=(w2.setCell ⟨D,11,none⟩ (.slice sa (rk.waiting.length - 1) (wc - 1))).drew:=⟨_,rfl⟩
    rw [←hw3]
    have HS3:Hid (SvAt w1 ρ G D L {rk with waiting:=ws} w3):=show SvAt _ _ _ _ _ _ _ by rw [hw3];exact HPOP.out
    clear hw3 HPOP cB c11 c10 cw cr f11 hw1 hw2 hr1 hr2 hsl HS2 hz1 hz2 hwp hk0 hk1 hk2 hkr
    have cB:w3.cell? ⟨B,0,none⟩=some (vp D):=zB (HS3.out.box HBx.out.1 HBx.out.2) rfl
    obtain ⟨mq,qb,qo,qc,c8,hlq,cq,hq1,hq2⟩:=HS3.out.queue1 (show qOf {rk with waiting:=ws} t=id::rest from Hhead.out.2.2.1)
    obtain ⟨mo,c6,hlr,hblk,_⟩:=HS3.out.req1 (show aget {rk with waiting:=ws}.reqs id=some q from Hhead.out.2.2.2.1)
    have hqpos:0 < (qOf {rk with waiting:=ws} t).length:=by rw [show qOf {rk with waiting:=ws} t=id::rest from Hhead.out.2.2.1];simp
    have hNB:Hid (N≤1000000000000):=show _≤_ by have:=HN.out;unfold NB at this;omega
    have HI0:Hid (Inv N (P - 4) {rk with waiting:=ws}):=show Inv _ _ _ by
     have h1:=HIk.out.n.seq
     have h2:=HIk.out.n.pot
     rw [Hhead.out.1] at h1 h2
     simp only [List.length_cons] at h1 h2
     exact HIk.out.waiting (Nat.le_refl _) (by omega) (by omega)
    have HUN:=zh (HS3.out.unqueue id (show aget {rk with waiting:=ws}.reqs id=some q from Hhead.out.2.2.2.1) (Nat.le_trans HI0.out.q.ring_le (Nat.le_trans HI0.out.n.reqs hNB.out)) (Nat.le_trans (HI0.out.q.qu_le _) (Nat.le_trans HI0.out.n.reqs hNB.out)))
    obtain ⟨ql,hql⟩:∃ql,Hid (ql=(qOf {rk with waiting:=ws} t).length):=⟨_,rfl⟩
    rw [←hql.out] at hlq hq1 hqpos
    unfold maxLen at hq2
    clear hblk
    go_wp2_with fail
    refine HUN.out.mono ?_
    rintro e w4 ⟨rfl,hs4⟩
    have HS4:=zh hs4
    have HI4:=zh (HI0.out.unqueue id)
    have HE4:Hid (zI {rk with waiting:=ws} id=zI {rk with waiting:=ws} id):=rfl
    have Hq4:Hid (aget (zI {rk with waiting:=ws} id).reqs id=some {q with queued:=false}):=zBi (r:={rk with waiting:=ws}) Hhead.out.2.2.2.1
    have Hw4:Hid ((zI {rk with waiting:=ws} id).waiting=ws):=zDX _ _
    clear cB c8 hlq cq hq1 hq2 hqpos c6 hlr hs4
    obtain ⟨r4,hr4⟩:∃r4,r4=zI {rk with waiting:=ws} id:=⟨_,rfl⟩
    rw [←hr4] at HS4 HI4 Hq4 Hw4 HEQ
    have Hr4:=zh hr4
    clear hr4 HE4 HUN
    have cB:w4.cell? ⟨B,0,none⟩=some (vp D):=zB (HS4.out.box HBx.out.1 HBx.out.2) rfl
    obtain ⟨mq,qa,qc,c8,hlq⟩:=HS4.out.qlen t
    by_cases hq0:(qOf r4 t).length=0
    focus
     have hq1:decide (0 < (qOf r4 t).length)=false:=decide_eq_false (by omega)
     have hq2:decide ((0:Int) < ((qOf r4 t).length:Int))=false:=decide_eq_false (by omega)
     have HS5:Hid (SvAt w1 ρ G D L (rRot r4 t) w4):=show SvAt _ _ _ _ _ _ _ by
      unfold rRot;rw [if_pos (List.length_eq_zero_iff.1 hq0)];exact HS4.out
     obtain ⟨w5,hw5⟩:∃w5,w5=w4:=⟨_,rfl⟩
     clear hq0
     go_upto_region 12 with (fail)
     rw [←hw5] at HS5 ⊢
     clear hw5
    rotate_left
    focus
     have hq1:decide (0 < (qOf r4 t).length)=true:=decide_eq_true (by omega)
     have hq2:decide ((0:Int) < ((qOf r4 t).length:Int))=true:=decide_eq_true (by omega)
     have HRR:Hid (rRot r4 t={r4 with ring:=zE r4.ring t++[t]}):=show _=_ by unfold rRot;rw [if_neg (fun e=>hq0 (by rw [e];rfl))]
     obtain ⟨own,ra,rc,c10,f10,hsr,hown,hrm,hrot⟩:=HS4.out.rot t HBx.out.1 HBx.out.2
     have hBD:=HS4.out.neD HBx.out.1 HBx.out.2
     have hDB:=Ne.symm hBD
     have HWX:=zh (fun (W:World) (hf:Fr (fun _=>False) w4 W)=>zGK (w:=W) (hsr.of_blk (fun b _ hl=>hf.block b hl (fun f=>f)) (fun _ h _=>h)) t (fun b hb=>Nat.lt_of_lt_of_le (hown b hb) hf.size) (Nat.le_trans HI4.out.q.ring_le (Nat.le_trans HI4.out.n.reqs hNB.out)))
     have HROT:=zh hrot
     have HOWN:=zh hown
     have hrl:Hid ((zE r4.ring t).length+1≤maxLen∧((zE r4.ring t).length+1)*16≤140737488355328):=show _∧_ by
      have h1:=zFB r4.ring t
      have h2:=Nat.le_trans HI4.out.q.ring_le (Nat.le_trans HI4.out.n.reqs hNB.out)
      unfold maxLen;omega
     have n4:=World.new_ne w4 ⟨B,0,none⟩ cB
     have f10b:(w4.alloc (.cells #[vs t] 9)).frozen? ⟨D,10,none⟩=false:=by
      obtain ⟨ρk,Lk,g1,_⟩:=HS4.out.alloc (.cells #[vs t] 9)
      exact g1.disp.frozen 10
     have c10b:(w4.alloc (.cells #[vs t] 9)).cell? ⟨D,10,none⟩=some (.slice ra r4.ring.length rc):=by
      obtain ⟨ρk,Lk,g1,_⟩:=HS4.out
      have e:=g1.disp.c10
      rw [c10] at e
      have:=(g1.alloc (.cells #[vs t] 9)).disp.c10
      rw [←Option.some.inj e] at this;exact this
     unfold maxLen at hrm
     clear hq0 hsr hown hrot
     go_upto_region 11 with (fail)
     have cB4a:(w4.alloc (.cells #[vs t] 9)).cell? ⟨B,0,none⟩=some (vp D):=(World.cell?_of_block (zM w4 (zD _ (HS4.out.box HBx.out.1 HBx.out.2)))).trans cB
     go_cut [] from 67 to 78 (fun wx=>Hid (SvAt w1 ρ G D L (rRot r4 t) wx))
     case first =>
      clear HD HBx HT HI HN HP HE1 HR1 HI0 HI4 Hq4 Hw4 HEQ Hr4 Hhead Hk HIk HF hNB hql hq1 hq2 c8 hlq HS3
      go_region_law (first
       | (
         go_simp
         go_at_call 76
         refine (HWX.out _ ((Fr.refl _ _).drew)).mono ?_
         rintro e x5 ⟨v5,rfl,hs5,hf5⟩
         obtain ⟨va5,vc5,rfl,hv5a,hv5b⟩:=hs5.form'
         have HF5:Hid (Fr own w4 x5):=hf5.ofDrew
         have HSL5:=zh hs5
         obtain ⟨f5,b5,_,_⟩:=HROT.out x5 _ hs5 HF5.out x5 (Fr.refl _ _)
         have cB5:x5.cell? ⟨B,0,none⟩=some (vp D):=zB b5 rfl
         have cB5a:(x5.alloc (.cells #[vs t] 9)).cell? ⟨B,0,none⟩=some (vp D):=(World.cell?_of_block (zM x5 (zD _ b5))).trans cB5
         obtain ⟨f5b,_,_,_⟩:=HROT.out x5 _ hs5 HF5.out (x5.alloc (.cells #[vs t] 9)) ((Fr.refl _ _).alloc _)
         clear hs5 hf5 b5 hv5a hv5b)
       | (
         go_simp
         go_at_call 76
         refine (HWX.out _ (((Fr.refl _ _).alloc _).drew)).mono ?_
         rintro e x5 ⟨v5,rfl,hs5,hf5⟩
         obtain ⟨va5,vc5,rfl,hv5a,hv5b⟩:=hs5.form'
         have HF5:Hid (Fr own w4 x5):=(((Fr.refl _ _).alloc _).drew).trans hf5 (fun x hx=>.inl hx)
         have HSL5:=zh hs5
         obtain ⟨f5,b5,_,_⟩:=HROT.out x5 _ hs5 HF5.out x5 (Fr.refl _ _)
         have cB5:x5.cell? ⟨B,0,none⟩=some (vp D):=zB b5 rfl
         have HEL:Hid (x5.heap[w4.heap.size]?=some (.cells #[vs t] 9 (0,0))):=(hf5.block _ (by simp) (fun ho=>by have:=HOWN.out _ ho;omega)).trans (zP w4)
         clear hs5 hf5 b5 hv5a hv5b)
       | (
         refine zBQ _ (by rfl) _ _ _ _ (by rfl) zAi (by rfl) (HROT.out x5 _ HSL5.out HF5.out x5 (Fr.refl _ _)).2.2.1 (by rfl) (zLu Tryz.underlying47 HEL.out rfl) (by omega) hrl.out.1 hrl.out.2 ?_
         intro g goff gcap x6 hg6 hs6 hf6 hlt6 _ _
         obtain ⟨f6,b6,⟨v6,c6⟩,k6⟩:=(HROT.out x5 _ HSL5.out HF5.out x5 (Fr.refl _ _)).2.2.2 g goff gcap _ x6 hg6 rfl hs6 hf6 hlt6
         have HK6:=zh k6
         have cB6:x6.cell? ⟨B,0,none⟩=some (vp D):=zB b6 rfl
         clear hs6 hf6 hg6 hlt6 b6 k6)
       | (
         refine zBQ _ (by rfl) _ _ _ _ (by rfl) zAi (by rfl) (HROT.out x5 _ HSL5.out HF5.out (x5.alloc (.cells #[vs t] 9)) ((Fr.refl _ _).alloc _)).2.2.1 (by rfl) (yn x5 Tryz.underlying47 [vs t] (by rfl) (by simp [Value.oneCell']) x5.heap.size (by simp)) (by omega) hrl.out.1 hrl.out.2 ?_
         intro g goff gcap x6 hg6 hs6 hf6 hlt6 _ _
         obtain ⟨f6,b6,⟨v6,c6⟩,k6⟩:=(HROT.out x5 _ HSL5.out HF5.out (x5.alloc (.cells #[vs t] 9)) ((Fr.refl _ _).alloc _)).2.2.2 g goff gcap _ x6 hg6 rfl hs6 hf6 hlt6
         have HK6:=zh k6
         have cB6:x6.cell? ⟨B,0,none⟩=some (vp D):=zB b6 rfl
         clear hs6 hf6 hg6 hlt6 b6 k6))
      all_goals
       go_wp2_with fail
       go_meet
       case rel =>
        show SvAt _ _ _ _ _ _ _
        rw [HRR.out]
        exact HK6.out
     case' rest =>
      have HS5:=hcut
      obtain ⟨w5,hw5⟩:∃w5,w5=wc:=⟨_,rfl⟩
      go_upto_region 12 with (fail)
      rw [←hw5] at HS5 ⊢
      clear hw5 hcut HROT HOWN HWX n4 f10 f10b c10 c10b cB4a hrl HRR
    all_goals
     have hq5:aget (rRot r4 t).reqs id=some {q with queued:=false}:=by rw [zDY];exact Hq4.out
     have HI5:=zh (HI4.out.rotate t)
     have Hw5:Hid ((rRot r4 t).waiting=ws):=(zDZ r4 t).trans Hw4.out
     clear cB c8 hlq hq1 hq2 HS4
     obtain ⟨mo5,c6,hlr,hblk,hs6⟩:=HS5.out.req1 hq5
     have r3:w5.cell? ⟨L.req id,3,none⟩=some (vi q.attempts):=zB hblk rfl
     have f3:w5.frozen? ⟨L.req id,3,none⟩=false:=zK hblk
     have HS6:=zh hs6
     have hab:0≤q.attempts∧q.attempts≤1099511627776:=by
      have h1:=HI5.out.n.req id _ hq5
      have h2:=HI5.out.n.seq
      have h3:=HN.out
      unfold NB at h3
      have h4:({q with queued:=false}:Req).attempts=q.attempts:=rfl
      rw [h4] at h1
      omega
     have ha0:=hab.1
     have ha1:=hab.2
     have Hq5:=zh hq5
     clear hq5 c6 hlr hblk hs6 hab
     go_upto_region 13 with (fail)
     obtain ⟨w6,hw6⟩:∃w6,w6=w5.setCell ⟨L.req id,3,none⟩ (vi (q.attempts+1)):=⟨_,rfl⟩
     replace HS6:Hid (SvAt w1 ρ G D L (xE (rRot r4 t) id {q with queued:=false}) w6):=show SvAt _ _ _ _ _ _ _ by rw [hw6];exact HS6.out
     rw [←hw6]
     clear hw6 r3 f3 HS5
     have cB:w6.cell? ⟨B,0,none⟩=some (vp D):=zB (HS6.out.box HBx.out.1 HBx.out.2) rfl
     obtain ⟨mr,c9,hlm,hM,hup⟩:=HS6.out.run1 t
     obtain ⟨m,hm⟩:∃m,Hid (zQ (xE (rRot r4 t) id {q with queued:=false}) t=m):=⟨_,rfl⟩
     have hm0:0≤m∧m≤1099511627776:=by
      have h1:=HI5.out.a.runs t
      have h2:=zGv (rRot r4 t) t
      have h3:=HI5.out.n.pot
      have h4:=HP.out
      have h5:zQ (xE (rRot r4 t) id {q with queued:=false}) t=zQ (rRot r4 t) t:=rfl
      have h6:=hm.out
      unfold NB at h4
      rw [h5] at h6
      omega
     have hm1:=hm0.1
     have hm2:=hm0.2
     rw [hm.out] at hlm
     have HM:=zh hM
     have HUP:=zh hup
     clear hM hup hm0
     go_upto_region 14 with (refine zAr _ rfl KS _ _ _ _ rfl HM.out Tryz.underlying75 t (vi (m+1)) rfl rfl rfl ?_;intro w7 hm7 hs7 hf7;have HS7:=zh (HUP.out w7 (by rw [hm.out];exact hm7) hf7);clear hm7 hs7 hf7)
     clear cB c9 hlm HM HUP HS6
     have cB:w7.cell? ⟨B,0,none⟩=some (vp D):=zB (HS7.out.box HBx.out.1 HBx.out.2) rfl
     obtain ⟨mo7,_,_,hblk7,_⟩:=HS7.out.req1 (q:={q with queued:=false,attempts:=q.attempts+1}) (show aget (aset (rRot r4 t).reqs id {q with queued:=false,attempts:=q.attempts+1}) id=_ by simp [zV])
     have r3:w7.cell? ⟨L.req id,3,none⟩=some (vi (q.attempts+1)):=zB hblk7 rfl
     have d0:w7.cell? ⟨D,0,none⟩=some (vi (rRot r4 t).cfg.lease):=HS7.out.cfg.1
     have d5:w7.cell? ⟨D,5,none⟩=some (vi (rRot r4 t).now):=HS7.out.cfg.2
     have n1:=World.new_ne w7 ⟨B,0,none⟩ cB
     have n2:=World.new_ne w7 ⟨L.req id,3,none⟩ r3
     have n3:=World.new_ne w7 ⟨D,0,none⟩ d0
     have n4:=World.new_ne w7 ⟨D,5,none⟩ d5
     have hnow:0≤(rRot r4 t).now∧(rRot r4 t).now≤1099511627776∧0≤(rRot r4 t).cfg.lease∧(rRot r4 t).cfg.lease≤20:=by
      have h1:=HI5.out.n.now
      have h2:=zBj HI5.out.n.cfg
      have h3:=HN.out
      unfold NB at h3
      omega
     have hn1:=hnow.1
     have hn2:=hnow.2.1
     have hn3:=hnow.2.2.1
     have hn4:=hnow.2.2.2
     obtain ⟨now,hnw⟩:∃now,now=(rRot r4 t).now:=⟨_,rfl⟩
     obtain ⟨lease,hls⟩:∃lease,lease=(rRot r4 t).cfg.lease:=⟨_,rfl⟩
     have HBG:=zh (HS7.out.begin (fun a ha=>HI5.out.a.aseq a ha) HI5.out.n.seq0 (show (rRot r4 t).seq≤_ by have h2:=HI5.out.n.seq;have h3:=HN.out;unfold NB at h3;omega) (HI5.out.atts_le (by have:=HP.out;omega)) id (q.attempts+1) c 1)
     rw [←hnw] at d5 hn1 hn2
     rw [←hls] at d0 hn3 hn4
     have HBG2:Hid (Calls Tryz.prog 77 #[tI D,vp w7.heap.size] ((w7.alloc (.cells #[vi id,vi (q.attempts+1),vi c,vi now,vi (now+lease),vi 0,vi 0] 109)).drew) fun e w'=>e=.returned (.tuple #[])∧SvAt w1 ρ G D L (xn (xm (xE (rRot r4 t) id {q with queued:=false}) t) id (q.attempts+1) c) w'):=show Calls _ _ _ _ _ by
      rw [hnw,hls];exact HBG.out
     have hwrap:IntKind.i64.wrap (now+lease)=now+lease:=by rw [IntKind.wrap_i64];omega
     have Hnw:=zh hnw
     have Hls:=zh hls
     have Hreq6:Hid (aget (xn (xm (xE (rRot r4 t) id {q with queued:=false}) t) id (q.attempts+1) c).reqs id=some {q with queued:=false,attempts:=q.attempts+1}):=show aget (aset (rRot r4 t).reqs id {q with queued:=false,attempts:=q.attempts+1}) id=_ by simp [zV]
     clear hnow hnw hls HBG hblk7
     go_region_held3 (fun w'=>w'.cell? ⟨B,0,none⟩=some (vp D)∧w'.cell? ⟨L.req id,3,none⟩=some (vi (q.attempts+1))∧w'.cell? ⟨D,0,none⟩=some (vi lease)∧w'.cell? ⟨D,5,none⟩=some (vi now)) (go_keep) ((go_at_call 77;refine HBG2.out.mono ?_;rintro e w8 ⟨rfl,hs8⟩;have HS8:=zh hs8;have cB8:w8.cell? ⟨B,0,none⟩=some (vp D):=zB (hs8.box HBx.out.1 HBx.out.2) rfl;obtain ⟨_,_,_,hblk8,_⟩:=hs8.req1 Hreq6.out;have r38:w8.cell? ⟨L.req id,3,none⟩=some (vi (q.attempts+1)):=zB hblk8 rfl;have r28:w8.cell? ⟨L.req id,2,none⟩=some (vs q.text):=zB hblk8 rfl;have d08:w8.cell? ⟨D,0,none⟩=some (vi lease):=(by rw [Hls.out];exact hs8.cfg.1);have d58:w8.cell? ⟨D,5,none⟩=some (vi now):=(by rw [Hnw.out];exact hs8.cfg.2);clear hs8 hblk8))
     all_goals
      clear cB r3 d0 d5 n1 n2 n3 n4 hwrap d08 d58 HBG2
      have n1:=World.new_ne w8 ⟨B,0,none⟩ cB8
      have n2:=World.new_ne w8 ⟨L.req id,3,none⟩ r38
      have n3:=World.new_ne w8 ⟨L.req id,2,none⟩ r28
      have hok:Hid (∀x∈[Wd.str wRun,Wd.num id,Wd.num (q.attempts+1),Wd.str t.data.toList,Wd.str q.text.data.toList],x.ok):=by
       have h1:=HI5.out.n.req id _ Hq5.out
       have ht:q.tenant=t:=Hhead.out.2.2.2.2.1
       have h6:q.tenant.data.toList.length=q.tenant.size:=rfl
       have h7:q.text.data.toList.length=q.text.size:=rfl
       have h8:({q with queued:=false}:Req).tenant=q.tenant:=rfl
       have h9:({q with queued:=false}:Req).text=q.text:=rfl
       rw [h8,h9] at h1
       rw [←ht]
       intro x hx
       simp only [List.mem_cons,List.not_mem_nil,or_false] at hx
       rcases hx with rfl | rfl | rfl | rfl | rfl
       ·show _≤_;decide
       ·show _∧_;omega
       ·show _∧_;omega
       ·show q.tenant.data.toList.length≤_;omega
       ·show q.text.data.toList.length≤_;omega
      have HSY0:=((HS8.out.alloc (.cells #[.iface 9 (vs (bs wRun)),.iface 3 (vi id),.iface 3 (vi (q.attempts+1)),.iface 9 (vs t),.iface 9 (vs q.text)] 20)).drewN 1).say HE1.out HD.out c [Wd.str wRun,Wd.num id,Wd.num (q.attempts+1),Wd.str t.data.toList,Wd.str q.text.data.toList] hok.out (by simp) (show (rRot r4 t).out.length≤_ by have:=HI5.out.n.pot;have:=HP.out;unfold NB at this;omega)
       (B:=w8.heap.size) (cap:=5) (by show w8.heap.size < (w8.alloc _).heap.size;simp) (by
        intro j x hx
        refine zB (w:=(w8.alloc _).drewN 1) (zP w8) ?_
        match j with
        | 0=>simp at hx;subst hx;rfl
        | 1=>simp at hx;subst hx;rfl
        | 2=>simp at hx;subst hx;rfl
        | 3=>simp at hx;subst hx;exact congrArg (fun z=>some (Value.iface 9 (vs z))) (zGx t).symm
        | 4=>simp at hx;subst hx;exact congrArg (fun z=>some (Value.iface 9 (vs z))) (zGx q.text).symm
        | j+5=>simp at hx)
      have HSY:Hid (Calls Tryz.prog 40 #[vp D,vi c,.slice (some ⟨w8.heap.size,0,none⟩) 5 5] ((w8.alloc (.cells #[.iface 9 (vs (bs wRun)),.iface 3 (vi id),.iface 3 (vi (q.attempts+1)),.iface 9 (vs t),.iface 9 (vs q.text)] 20)).drew) fun e w'=>e=.returned (.tuple #[])∧SvAt w1 ρ G D L (yM rk) w'):=show Calls _ _ _ _ _ by
       rw [HEQ.out];exact HSY0
      have Hreq9:Hid (aget (yM rk).reqs id=some {q with queued:=false,attempts:=q.attempts+1}):=show _=_ by
       rw [HEQ.out];exact Hreq6.out
      clear HSY0
      go_wp2_with fail
      go_region_held3 (fun w'=>w'.cell? ⟨B,0,none⟩=some (vp D)∧w'.cell? ⟨L.req id,3,none⟩=some (vi (q.attempts+1))∧w'.cell? ⟨L.req id,2,none⟩=some (vs q.text)) (go_keep) ((go_at_call 40;refine HSY.out.mono ?_;rintro e w9 ⟨rfl,hs9⟩;have HS9:=zh hs9;have cB9:w9.cell? ⟨B,0,none⟩=some (vp D):=zB (hs9.box HBx.out.1 HBx.out.2) rfl;obtain ⟨_,_,_,hblk9,_⟩:=hs9.req1 Hreq9.out;have r39:w9.cell? ⟨L.req id,3,none⟩=some (vi (q.attempts+1)):=zB hblk9 rfl;have r29:w9.cell? ⟨L.req id,2,none⟩=some (vs q.text):=zB hblk9 rfl;clear hs9 hblk9))
      all_goals
       go_wp2_with fail
       go_roundw
       case rel=>exact ⟨yM rk,HS9.out,HIk.out.serve1,(zLv HIk.out (by rw [Hhead.out.1];simp) (by rw [Hhead.out.2.1];simp)).symm.trans HF.out⟩
       case measure =>
        have h1:=zFG HIk.out (by rw [Hhead.out.1];simp) (by rw [Hhead.out.2.1];simp)
        rw [HS9.out.waitLen,HWL.out]
        omega
end Go.Proofs.YtaejfobbogahmaaGreatDoor
