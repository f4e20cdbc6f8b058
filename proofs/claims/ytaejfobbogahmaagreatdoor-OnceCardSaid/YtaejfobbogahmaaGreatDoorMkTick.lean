/-
  Tick Tick2: texts of their own, joined.
-/
import Derived.Test.YtaejfobbogahmaaGreatDoorMkHandle1
set_option maxRecDepth 100000
set_option maxHeartbeats 16000000
set_option linter.all false
namespace Go.Proofs.YtaejfobbogahmaaGreatDoor
open Go Go.RowKit
def dattLen (w:World) (D:Nat):Nat:=match w.cell? ⟨D,12,none⟩ with | some (.slice _ n _)=>n | _=>0
theorem RRep.dattLen {w:World} {ρ:Nat→Role} {G D:Nat} {L:Lay} {r:Raw} (h:RRep w ρ G D L r):dattLen w D=r.atts.length:=by
 obtain ⟨_,hp,hperm,_,hH⟩:=h.lea
 obtain ⟨va,vc,hv,_,_⟩:=hH.1.form'
 have c:=h.disp.c12
 rw [hv] at c
 unfold Go.Proofs.YtaejfobbogahmaaGreatDoor.dattLen
 rw [c]
 exact hperm.length_eq
theorem zEX {N P:Nat} {r:Raw} (h:Inv N P r) {a:Att} (ha:a∈r.atts):(za (zR r a) a.id true).atts.length+1≤r.atts.length:=by
 have h1:=zIP h ha
 have h2:=zIO (h.stop ha) a.id true
 omega
theorem zHK {N P:Nat}:∀(n m:Nat) {r:Raw},Inv N P r→r.atts.length≤n→r.atts.length≤m→zl n r=zl m r
 | 0,m,r,_,h0,_=>by
   have hn:r.atts=[]:=List.length_eq_zero_iff.1 (by omega)
   have hd:rDue r=none:=by unfold rDue;rw [hn];rfl
   cases m with
   | zero=>rfl
   | succ m=>unfold zl;rw [hd]
 | n+1,0,r,_,_,h0=>by
   have hn:r.atts=[]:=List.length_eq_zero_iff.1 (by omega)
   have hd:rDue r=none:=by unfold rDue;rw [hn];rfl
   unfold zl;rw [hd]
 | n+1,m+1,r,h,h1,h2=>by
   unfold zl
   cases hd:rDue r with
   | none=>rfl
   | some a =>
     simp only
     have hm:=zBm hd
     have hl:=zEX h hm
     exact zHK n m (h.due1 hm) (by omega) (by omega)
theorem zMs {N P:Nat} {r:Raw} (h:Inv N P r) {a:Att} (hd:rDue r=some a):zl r.atts.length r=zl (za (zR r a) a.id true).atts.length (za (zR r a) a.id true):=by
 have hm:=zBm hd
 have hl:=zEX h hm
 obtain ⟨n,hn⟩:∃n,r.atts.length=n+1:=⟨r.atts.length - 1,by omega⟩
 have:zl (n+1) r=zl n (za (zR r a) a.id true):=by rw [zl,hd]
 rw [hn,this]
 exact zHK n _ (h.due1 hm) (by omega) (Nat.le_refl _)
theorem zMt {r:Raw} (hd:rDue r=none):zl r.atts.length r=r:=by
 cases r.atts.length with
 | zero=>rfl
 | succ n=>unfold zl;rw [hd]
theorem zHL (L:Lay) (r:Raw):dueV L r r.now=attV L (rDue r):=by
 unfold dueV rDue attV
 cases yB r.atts with
 | none=>rfl
 | some a=>simp only;split<;>rfl
def zCz (w1:World) (ρ:Nat→Role) (G D B:Nat) (N P:Nat) (tgt:Raw) (v:Value) (wr:World):Prop:=
 ∃rk ρk Lk,RRep wr ρk G D Lk rk∧Step ρ ρk w1 wr∧wr.heap[B]?=some (.cells #[vp D] 29 (0,0))∧¬Of ρk B∧Inv N P rk∧zl rk.atts.length rk=tgt∧v=attV Lk (rDue rk)
theorem zMu (args:Array Value) (w:World):(callFunc 50 args).run Tryz.prog w=.ok (.enter 50 args) w:=by kernel_rfl
theorem zMv {A B D:Nat} {s now hd:Int} {w:World} (h1:w.cell? ⟨A,3,none⟩=some (vi s)) (h2:w.cell? ⟨B,0,none⟩=some (vp D)) (h3:w.cell? ⟨D,5,none⟩=some (vi now)) (h4:w.cell? ⟨D,4,none⟩=some (vi hd))
 (hb:0≤s∧s≤now∧now≤1000000000000) :
 Calls Tryz.prog 50 #[vp A,vp B] w fun e w'=>∃k,e=.returned (.bool (decide (hd≤now - s)))∧w'=w.drewN k:=by
 have hsub:IntKind.i64.wrap (now - s)=now - s:=IntWalk.i64_in _ (by omega)
 clear hb
 go_enter Tryz.func50,Tryz.ntmps50
 go_wp2_with fail
 go_quiet (fail)
 go_wp2_with fail
 go_ret
 exact ⟨_,rfl,rfl⟩
theorem zCz.cases {w1 wr:World} {ρ:Nat→Role} {G D B:Nat} {N P:Nat} {tgt:Raw} {v:Value} (h:zCz w1 ρ G D B N P tgt v wr) :
 (v=.pointer none∧At w1 ρ G D tgt wr∧Inv N P tgt∧wr.heap[B]?=some (.cells #[vp D] 29 (0,0))∧∃ρk Lk,RRep wr ρk G D Lk tgt∧Step ρ ρk w1 wr∧¬Of ρk B) ∨
 ∃rk ρk Lk a,v=vp (Lk.att a.seq)∧a∈rk.atts∧RRep wr ρk G D Lk rk∧Step ρ ρk w1 wr∧wr.heap[B]?=some (.cells #[vp D] 29 (0,0))∧¬Of ρk B∧Inv N P rk ∧
  zl (za (zR rk a) a.id true).atts.length (za (zR rk a) a.id true)=tgt∧(za (zR rk a) a.id true).atts.length+1≤rk.atts.length:=by
 obtain ⟨rk,ρk,Lk,h1,h2,h3,h4,h5,h6,h7⟩:=h
 cases hd:rDue rk with
 | none =>
   rw [zMt hd] at h6
   subst h6
   rw [hd] at h7
   exact .inl ⟨h7,⟨_,_,h1,h2⟩,h5,h3,ρk,Lk,h1,h2,h4⟩
 | some a =>
   rw [hd] at h7
   exact .inr ⟨rk,ρk,Lk,a,h7,zBm hd,h1,h2,h3,h4,h5,by rw [←zMs h5 hd];exact h6,zEX h5 (zBm hd)⟩
theorem Step.not_of {ρ ρ':Nat→Role} {w w':World} (h:Step ρ ρ' w w') {B:Nat} (hB:B < w.heap.size) (ho:¬Of ρ B):¬Of ρ' B:=fun hh=>by
 rcases h.own B hh with h1 | h1
 ·exact ho h1
 ·omega
theorem zHM {w1 wr W:World} {ρ ρk:Nat→Role} {G D B:Nat} {N P:Nat} {tgt r':Raw} (hs:Step ρ ρk w1 wr) (hb:wr.heap[B]?=some (.cells #[vp D] 29 (0,0))) (hB:¬Of ρk B) (h:At wr ρk G D r' W) (hI:Inv N P r')
 (ht:zl r'.atts.length r'=tgt) (hsm:P≤NB) :
 ∃now,W.cell? ⟨D,5,none⟩=some (vi now)∧W.cell? ⟨B,0,none⟩=some (vp D)∧(∀n,Calls Tryz.prog 46 #[tI D,vi now] (W.drewN n) fun e w'=>∃v,e=.returned v∧zCz w1 ρ G D B N P tgt v w'∧dattLen w' D=r'.atts.length∧(v=.pointer none∨∃A,v=vp A)):=by
 have hbx:=h.box hb hB
 obtain ⟨ρj,Lj,h1,h2⟩:=h
 refine ⟨r'.now,h1.disp.c5,zB hbx rfl,fun n=>?_⟩
 refine (zJm (h1.drewN n) r'.now).mono ?_
 rintro e w' ⟨rfl,rfl⟩
 refine ⟨_,rfl,⟨r',ρj,Lj,h1.drewN n,(hs.trans h2).drewN n,hbx,h2.not_of (zD _ hb) hB,hI,ht,zHL Lj r'⟩,(h1.drewN n).dattLen,?_⟩
 rw [zHL]
 unfold attV
 cases rDue r' with
 | none=>exact .inl rfl
 | some a=>exact .inr ⟨_,rfl⟩
theorem Fr.below0 {a b c:World} (h:Fr (fun _=>False) a b) (hb:Below b.heap.size b c):Fr (fun _=>False) a c:=h.trans (Fr.of_below (S:=fun _=>False) hb) (fun _ f=>f.elim)
theorem zMw {r:Raw} {a:Att} {q:Req} (hq:aget r.reqs a.id=some q):yU r a=if !q.hedged&&!q.queued&&(rOf r a.id).length==1 then zj {r with reqs:=aset r.reqs a.id {q with hedged:=true}} a.id false else r:=by unfold yU;rw [hq]
theorem zMx (r:Raw) (a:Att):(yU r a).atts=r.atts:=by
 unfold yU
 split
 ·rfl
 ·split
  ·unfold zj;split<;>rfl
  ·rfl
def HdAt (l:List Att) (r9:Raw) (N P:Nat) (w9:World) (ρ9:Nat→Role) (G D:Nat) (L9:Lay) (k:Nat) (wr:World):Prop:=
 ∃rk ρk Lk,RRep wr ρk G D Lk rk∧Step ρ9 ρk w9 wr∧Lk.att=L9.att∧Inv N P rk∧rk.atts=r9.atts∧(l.drop k).foldl yU rk=l.foldl yU r9
theorem zMy {r:Raw} (h:0 < r.cfg.hedge):yk r=(r.atts.filter fun a=>decide (r.cfg.hedge≤r.now - a.since)).foldl yU r:=by unfold yk;rw [if_pos h]
theorem zMz {r:Raw} (h:¬0 < r.cfg.hedge):yk r=r:=by unfold yk;rw [if_neg h]
theorem zNA {w:World} {ρ:Nat→Role} {G D:Nat} {L:Lay} {r:Raw} (h:RRep w ρ G D L r) (hE:Env G w) {N P:Nat} (hI:Inv N P r) (hN:N+1≤NB) (hP:P+1 < NB) :
 Calls Tryz.prog 27 #[vp D] w (zBW w ρ G D (yp r)):=by
 have hnow:=hI.n.now
 have hnow0:=hnow.1
 have hnow1:r.now≤1000000000000:=by unfold NB at hN;omega
 have HN:=zh hN
 have HP:=zh hP
 have hDw:=h.size.2
 have c5:=h.disp.c5
 have f5:=h.disp.frozen 5
 have HD:=zh (fun b (hb:Of ρ b)=>(h.dom b hb).1)
 have HNB:Hid (¬Of ρ w.heap.size):=fun ho=>by have:=(h.dom _ ho).2;omega
 obtain ⟨k1,k2⟩:=h.put_now (n:=r.now+1) (w':=w.setCell ⟨D,5,none⟩ (vi (r.now+1))) (zO _ h.disp.2) ((Fr.refl _ _).setCell _ _ (.inl rfl))
 have hsz:(w.setCell ⟨D,5,none⟩ (vi (r.now+1))).heap.size=w.heap.size:=by simp
 replace k1:=k1.alloc (.cells #[vp D] 29)
 replace k2:=k2.alloc (.cells #[vp D] 29)
 have hbx:((w.setCell ⟨D,5,none⟩ (vi (r.now+1))).alloc (.cells #[vp D] 29)).heap[w.heap.size]?=some (.cells #[vp D] 29 (0,0)):=by
  have:=zP (w.setCell ⟨D,5,none⟩ (vi (r.now+1))) (o:=.cells #[vp D] 29)
  rw [hsz] at this;exact this
 have HI1:=zh hI.later
 have HS1:=zh k2
 have HK1:=zh k1
 have HE1:=zh (At.env (ρ:=ρ) (D:=D) (w0:=w) ⟨_,_,k1,HS1.out⟩ hE HD.out)
 have HT:Hid (yp r=yF (yk (zl r.atts.length {r with now:=r.now+1}))):=rfl
 obtain ⟨nw,c5b,cB,HDU⟩:=zHM (B:=w.heap.size) (N:=N+1) (P:=P) (tgt:=zl r.atts.length {r with now:=r.now+1}) (Step.refl ρ _) hbx HNB.out (At.start k1) HI1.out rfl (by omega)
 have hnw:nw=r.now+1:=by
  have:=k1.disp.c5
  rw [c5b] at this
  injection this with this;injection this
 subst hnw
 have HDUE:=zh HDU
 have n5:=World.new_ne w ⟨D,5,none⟩ c5
 have HBOX:=zh hbx
 generalize hB:w.heap.size=B at *
 clear h hE hI hN hP k1 k2 HDU hbx
 go_enter Tryz.func27,Tryz.ntmps27
 go_wp2_with fail
 have c5c:((w.setCell ⟨D,5,none⟩ (.int .i64 (r.now+1))).alloc (.cells #[vp D] 29)).cell? ⟨D,5,none⟩=some (vi (r.now+1)):=c5b
 refine xF 7 xG (by kernel_rfl) ?_
 simp only [List.take_succ_cons,List.take_zero,List.drop_succ_cons,List.drop_zero]
 repeat still_step
 refine wpStill_nil ?_
 go_wp2_with fail
 refine (HDUE.out 1).mono ?_
 rintro e w2 ⟨v,rfl,hd1,hd2,hd3⟩
 have HDA:=zh hd1
 have HD3:=zh hd3
 clear hd1 hd2 hd3 HDUE c5b c5c cB
 go_wp2_with fail
 go_loopw [3] (fun s3 wr=>Hid (zCz ((w.setCell ⟨D,5,none⟩ (vi (r.now+1))).alloc (.cells #[vp D] 29)) ρ G D B (N+1) P (zl r.atts.length {r with now:=r.now+1}) s3 wr)) (fun _ wr=>dattLen wr D)
 case atStart=>exact HDA
 case round =>
  rcases hrel.out.cases with ⟨hv,h1,h2,h3,ρk,Lk,h4,h5,h6⟩ | ⟨rk,ρk,Lk,a,hv,h0,h1,h2,h3,h4,h5,h6,h7⟩
  ·subst hv
   generalize zl r.atts.length {r with now:=r.now+1}=rD at *
   have HA:=zh h1
   have HI:=zh h2
   have HBX:=zh (And.intro h3 h6)
   have HR:=zh h4
   have HS:=zh h5
   have HEw:=zh (h1.env HE1.out HD.out)
   have HDk:Hid (∀b,Of ρk b→G≤b):=fun b hb=>(h4.dom b hb).1
   have c4:wr.cell? ⟨D,4,none⟩=some (vi rD.cfg.hedge):=h4.disp.c4
   have cB:wr.cell? ⟨B,0,none⟩=some (vp D):=zB h3 rfl
   have hNI:Hid (N+1≤NB∧P+1 < NB):=⟨HN.out,HP.out⟩
   by_cases hh:0 < rD.cfg.hedge
   ·have hh1:decide (0 < rD.cfg.hedge)=true:=decide_eq_true hh
    have HHE:=zh (zMy hh)
    have HALL:=zh (zDw h4 (fun a=>decide (rD.cfg.hedge≤rD.now - a.since)) 50 #[vp B] zMu (h2.atts_le (by have:=hNI.out.2;omega)) (fun a ha w' hb=>by
     obtain ⟨k,g1,_⟩:=h4.att_blk ha
     have hat:=h2.n.att a ha
     have hnw:=h2.n.now
     have hD':w'.heap[D]?=some (.cells (yR Lk rD.cfg rD.now rD.seq) 81 (0,0)):=(hb.block _ h4.size.2).trans h4.disp.2
     exact zMv (A:=Lk.att a.seq) (B:=B) (D:=D) (zB ((hb.block _ (zD _ g1)).trans g1) rfl) (zB ((hb.block _ (zD _ h3)).trans h3) rfl) (zB hD' rfl) (zB hD' rfl) (by have:=HN.out;unfold NB at this;omega)))
    have HLV:Hid (∀a∈(rD.atts.filter fun a=>decide (rD.cfg.hedge≤rD.now - a.since)),a∈rD.atts):=fun a ha=>(List.mem_filter.1 ha).1
    have hlen:(rD.atts.filter fun a=>decide (rD.cfg.hedge≤rD.now - a.since)).length≤1099511627776:=Nat.le_trans (List.length_filter_le _ _) (h2.atts_le (by have:=hNI.out.2;omega))
    generalize (rD.atts.filter fun a=>decide (rD.cfg.hedge≤rD.now - a.since))=l at *
    clear h1 h2 h3 h4 h5 h6 hh hrel HDA
    go_wp2_with fail
    refine HALL.out.mono ?_
    rintro e w9 ⟨v,rfl,hs9,hb9⟩
    have HSL:=zh (hs9.of_blk (own':=fun b=>¬Of ρk b) (fun _ _ _=>rfl) (fun b hb _ ho=>by have:=(HR.out.dom b ho).2;omega))
    obtain ⟨va,vc,hv1,hv2,hv3⟩:=hs9.form'
    subst hv1
    unfold maxLen at hv3
    have HR9:=zh (HR.out.of_fr (Fr.of_below (S:=fun _=>False) hb9) (fun _ f=>f.elim))
    have HB9:=zh ((hb9.block _ (zD _ HBX.out.1)).trans HBX.out.1)
    have HS9:Hid (Step ρ ρk _ w9):=HS.out.trans ⟨Fr.of_below hb9,fun b hb=>.inl hb⟩
    have HE9:=zh (HEw.out.grow hb9)
    clear hs9 hb9 HALL c4 cB
    go_wp2_with fail
    go_loopw [5,6,71] (fun _ _ s71 wr=>∃k:Nat,s71=.int .i64 k∧k≤l.length∧Hid (HdAt l rD (N+1) P w9 ρk G D Lk k wr)) (fun _ _ s71 _=>l.length - (intOf s71).toNat)
    case atStart=>exact ⟨0,by go_num,Nat.zero_le _,⟨rD,ρk,Lk,HR9.out,Step.refl _ _,rfl,HI.out,rfl,rfl⟩⟩
    case round =>
     obtain ⟨k,rfl,hk,HL⟩:=hrel
     by_cases hkl:k < l.length
     ·have hlt:decide ((k:Int) < (l.length:Int))=true:=decide_eq_true (by omega)
      obtain ⟨rk,ρ2,L2,k1,k2,k3,k4,k5,k6⟩:=HL.out
      rw [zCC hkl] at k6
      have hsl:=HSL.out.of_blk (w':=wr) (own':=fun b=>¬Of ρk b) (fun b hb hl=>k2.fr.block b hl hb) (fun _ h _=>h)
      obtain ⟨b,off,cap,hv,hbo,hbl,_,_,hc,_⟩:=hsl.form (by omega)
      obtain ⟨rfl,rfl⟩:va=some ⟨b,off,none⟩∧vc=cap:=by injection hv with e1 e2 e3;exact ⟨e1,e3⟩
      have ck:wr.cell? ⟨b,off+k,none⟩=some (vp (Lk.att (hg l k).seq)):=hc k _ (by simp [zZ hkl])
      have hk0:(0:Int)≤(k:Int):=by omega
      have hk1:(k:Int) < (l.length:Int):=by omega
      have ham:hg l k∈rk.atts:=by rw [k5];exact HLV.out _ (List.mem_of_getElem? (zZ hkl))
      obtain ⟨kk,hblk,hrA⟩:=k1.att_blk ham
      rw [k3] at hblk hrA
      obtain ⟨q,hq,_⟩:=k4.a.areq _ ham
      have hrb:=k1.req_blk hq
      have hb2:wr.heap[B]?=some (.cells #[vp D] 29 (0,0)):=(k2.fr.block _ (zD _ HB9.out) HBX.out.2).trans HB9.out
      have HBk:Hid (¬Of ρ2 B):=k2.not_of (zD _ HB9.out) HBX.out.2
      obtain ⟨A,hA⟩:∃A,A=Lk.att (hg l k).seq:=⟨_,rfl⟩
      have HAA:=zh hA
      rw [←hA] at ck hblk hrA
      have HAR:Hid (A≠L2.req (hg l k).id):=zDz hrA (k1.opn.2.2.2 _ q (yQ hq)).1 (by simp [zn,rReq])
      have HBR:Hid (B≠L2.req (hg l k).id):=fun e=>HBk.out (by unfold Of;rw [e,(k1.opn.2.2.2 _ q (yQ hq)).1];simp [rReq])
      have HABK:=zh hblk
      have HBBK:=zh hb2
      have a0:wr.cell? ⟨A,0,none⟩=some (vi (hg l k).id):=zB hblk rfl
      have cB:wr.cell? ⟨B,0,none⟩=some (vp D):=zB hb2 rfl
      have c6:wr.cell? ⟨D,6,none⟩=some (.map (some L2.mo)):=k1.disp.c6
      have r5:wr.cell? ⟨L2.req (hg l k).id,5,none⟩=some (.bool q.hedged):=zB hrb rfl
      have r6:wr.cell? ⟨L2.req (hg l k).id,6,none⟩=some (.bool q.queued):=zB hrb rfl
      have hlo:∀n,(Instr.lookup 72 (.map (some L2.mo)) (vi (hg l k).id) false).run Tryz.prog (wr.drewN n)=.ok (vp (L2.req (hg l k).id)) (wr.drewN n):=fun n=>by
       have:=yw (k1.drewN n).opn.2.1 (hg l k).id
       rw [zy,hq] at this;exact this
      have HK1':=zh k1
      have HK2:=zh k2
      have HK3:=zh (And.intro k3 (And.intro k4 (And.intro k5 k6)))
      have Hq:=zh hq
      have Ham:=zh ham
      have HEQ:=zh (zMw hq)
      have hof:Hid (∀w',Fr (fun _=>False) wr w'→Calls Tryz.prog 51 #[vp D,vi (hg l k).id] w' (zAZ w' L2 (rOf rk (hg l k).id))):=fun w' hf=>zBy (k1.of_fr hf (fun _ f=>f.elim)) (hg l k).id (k4.atts_le (by have:=hNI.out.2;omega))
      obtain ⟨qc,qt,qx,qa,ql,qh,qq⟩:=q
      simp only at r5 r6 HEQ
      clear hsl hv hbo hbl hc k1 k2 k3 k4 k5 k6 hblk hrb hq ham hA hb2
      have HSAME:Hid (∀w',Fr (fun _=>False) wr w'→yU rk (hg l k)=rk→HdAt l rD (N+1) P w9 ρk G D Lk (k+1) w'):=fun w' hf he =>
       ⟨rk,ρ2,L2,HK1'.out.of_fr hf (fun _ f=>f.elim),⟨Fr.trans (S':=fun _=>False) HK2.out.fr hf (fun _ f=>f.elim),HK2.out.own⟩,HK3.out.1,HK3.out.2.1,HK3.out.2.2.1,by have:=HK3.out.2.2.2;rw [List.foldl_cons,he] at this;exact this⟩
      cases qh with
      | true =>
        go_wp2_with fail
        go_quiet (fail)
        go_wp2_with fail
        go_quiet (fail)
        go_wp2_with fail
        go_roundw
        case rel=>exact ⟨k+1,by go_num,by omega,HSAME.out _ (by first | exact yx _ _ _ | exact Fr.trans (S':=fun _=>False) (yx _ _ _) (yx _ _ _) (fun _ f=>f.elim)) (by rw [HEQ.out];rfl)⟩
        case measure=>simp [intOf];omega
      | false =>
        cases qq with
        | true =>
          go_wp2_with fail
          go_quiet (fail)
          go_wp2_with fail
          go_quiet (fail)
          go_wp2_with fail
          go_roundw
          case rel=>exact ⟨k+1,by go_num,by omega,HSAME.out _ (by first | exact yx _ _ _ | exact Fr.trans (S':=fun _=>False) (yx _ _ _) (yx _ _ _) (fun _ f=>f.elim)) (by rw [HEQ.out];rfl)⟩
          case measure=>simp [intOf];omega
        | false =>
          obtain ⟨n,hn⟩:∃n,Hid ((rOf rk (hg l k).id).length=n):=⟨_,rfl⟩
          go_wp2_with fail
          go_quiet (fail)
          go_wp2_with fail
          refine xF 18 xG (by kernel_rfl) ?_
          simp only [List.take_succ_cons,List.take_zero,List.drop_succ_cons,List.drop_zero]
          repeat still_step
          refine wpStill_nil ?_
          go_wp2_with fail
          have HF0:Hid (∀a b,Fr (fun _=>False) wr ((wr.drewN a).drewN b)):=fun a b=>Fr.trans (S':=fun _=>False) (yx _ _ _) (yx _ _ _) (fun _ f=>f.elim)
          refine (hof.out _ (HF0.out _ 1)).mono ?_
          rintro e w5 ⟨v5,rfl,hs5,hb5⟩
          obtain ⟨va5,vc5,hw1,hw2,hw3⟩:=hs5.form'
          subst hw1
          rw [hn.out] at hw2 ⊢
          have hnb:n≤1099511627776:=by
           have h1:(rOf rk (hg l k).id).length≤rk.atts.length:=List.length_filter_le _ _
           have:=hn.out
           have:=HK3.out.2.1.atts_le (by have:=hNI.out.2;omega)
           omega
          have HF5:=zh ((HF0.out _ 1).below0 hb5)
          have HR5:=zh (HK1'.out.of_fr HF5.out (fun _ f=>f.elim))
          have hA5:=(HF5.out.block _ (zD _ HABK.out) (fun f=>f)).trans HABK.out
          have hB5:=(HF5.out.block _ (zD _ HBBK.out) (fun f=>f)).trans HBBK.out
          have hR5:=HR5.out.req_blk Hq.out
          unfold maxLen at hw3
          clear hs5 hb5 hof a0 cB c6 r5 r6 hlo ck
          by_cases hn1:n=1
          ·have hn2:((n:Int)==1)=true:=by rw [hn1];rfl
           have HEQ2:Hid (yU rk (hg l k)=zj {rk with reqs:=aset rk.reqs (hg l k).id ⟨qc,qt,qx,qa,ql,true,false⟩} (hg l k).id false):=show _=_ by rw [HEQ.out,hn.out,hn1];rfl
           have e5:w5.cell? ⟨L2.req (hg l k).id,5,none⟩=some (.bool false):=zB hR5 rfl
           have f5':w5.frozen? ⟨L2.req (hg l k).id,5,none⟩=false:=zK hR5
           obtain ⟨p1,p2⟩:=HR5.out.put_req (w':=w5.setCell ⟨L2.req (hg l k).id,5,none⟩ (.bool true)) (y:=⟨qc,qt,qx,qa,ql,true,false⟩) Hq.out (zO w5 hR5) ((Fr.refl _ w5).setCell _ _ (.inl rfl))
           have eA:(w5.setCell ⟨L2.req (hg l k).id,5,none⟩ (.bool true)).cell? ⟨A,0,none⟩=some (vi (hg l k).id):=zB ((zG w5 (by show A≠_;exact HAR.out)).trans hA5) rfl
           have eB:(w5.setCell ⟨L2.req (hg l k).id,5,none⟩ (.bool true)).cell? ⟨B,0,none⟩=some (vp D):=zB ((zG w5 (by show B≠_;exact HBR.out)).trans hB5) rfl
           have HI5:Hid (Inv (N+1) P {rk with reqs:=aset rk.reqs (hg l k).id ⟨qc,qt,qx,qa,ql,true,false⟩}):=by
            have hr:=HK3.out.2.1.n.req _ _ Hq.out
            exact ⟨HK3.out.2.1.q.set_req Hq.out rfl rfl,HK3.out.2.1.a.set_req Hq.out rfl (Int.le_refl _),HK3.out.2.1.n.set_req Hq.out hr.2.2.1 hr.2.2.2.1 hr.2.2.2.2.1 hr.2.2.2.2.2.1 hr.2.2.2.2.2.2.1 hr.2.2.2.2.2.2.2⟩
           have hNN:N+1≤1000000000000:=by have:=hNI.out.1;unfold NB at this;omega
           have HQU:=zh (zCp (p1.drewN 1) (hg l k).id (q:=⟨qc,qt,qx,qa,ql,true,false⟩) (by simp [zV]) false (Nat.le_trans HI5.out.q.ring_le (Nat.le_trans HI5.out.n.reqs hNN)) (Nat.le_trans (HI5.out.q.qu_le _) (Nat.le_trans HI5.out.n.reqs hNN)))
           have HST5:=zh p2
           clear p1 p2 hn1 hA5 hB5 hR5 hNN
           go_wp2_with fail
           refine xF 5 xG (by kernel_rfl) ?_
           simp only [List.take_succ_cons,List.take_zero,List.drop_succ_cons,List.drop_zero]
           repeat still_step
           refine wpStill_nil ?_
           go_wp2_with fail
           refine HQU.out.mono ?_
           rintro e w6 ⟨rfl,hst⟩
           have HST:=zh hst
           clear hst HQU eA eB e5 f5'
           go_wp2_with fail
           go_roundw
           case rel =>
            refine ⟨k+1,by go_num,by omega,?_⟩
            obtain ⟨ρ6,L6,g1,g2,g3,_,_⟩:=HST.out
            have hst0:Step ρk ρ2 w9 w5:=⟨Fr.trans (S':=fun _=>False) HK2.out.fr HF5.out (fun _ f=>f.elim),HK2.out.own⟩
            refine ⟨_,ρ6,L6,g1,(hst0.trans HST5.out).trans (Step.trans ((Step.refl ρ2 _).drewN 1) g2),(g3 rfl).trans HK3.out.1,?_,?_,?_⟩
            ·rw [←HEQ2.out];exact HK3.out.2.1.hedge1 _
            ·rw [←HEQ2.out,zMx];exact HK3.out.2.2.1
            ·rw [←HEQ2.out];exact HK3.out.2.2.2
           case measure=>simp [intOf];omega
          ·have hn2:((n:Int)==1)=false:=beq_eq_false_iff_ne.2 (by omega)
           have HE1':Hid (yU rk (hg l k)=rk):=show _=_ by
            rw [HEQ.out,hn.out,if_neg]
            simp;omega
           clear hn1 hA5 hB5 hR5
           go_wp2_with fail
           go_roundw
           case rel=>exact ⟨k+1,by go_num,by omega,HSAME.out _ HF5.out HE1'.out⟩
           case measure=>simp [intOf];omega
     ·obtain rfl:k=l.length:=by omega
      have hlt:decide ((l.length:Int) < (l.length:Int))=false:=by simp
      obtain ⟨rk,ρ2,L2,k1,k2,k3,k4,k5,k6⟩:=HL.out
      rw [List.drop_length] at k6
      have k6:rk=l.foldl yU rD:=k6
      have hb2:wr.heap[B]?=_:=(k2.fr.block _ (zD _ HB9.out) HBX.out.2).trans HB9.out
      have cB:wr.cell? ⟨B,0,none⟩=some (vp D):=zB hb2 rfl
      have HA2:Hid (At ((w.setCell ⟨D,5,none⟩ (vi (r.now+1))).alloc (.cells #[vp D] 29)) ρ G D (yk rD) wr):=by rw [HHE.out,←k6];exact ⟨_,_,k1,HS9.out.trans k2⟩
      have HSV:=zh (HA2.out.serve HE1.out HD.out (HI.out.hedge) hNI.out.1 (by have:=hNI.out.2;omega))
      have HBX2:Hid (∀w',At ((w.setCell ⟨D,5,none⟩ (vi (r.now+1))).alloc (.cells #[vp D] 29)) ρ G D (yF (yk rD)) w'→w'.heap[B]?=some (.cells #[vp D] 29 (0,0))):=fun w' ha=>ha.box HBOX.out HNB.out
      clear k1 k2 k3 k4 k5 k6 hb2
      go_wp2_with fail
      refine HSV.out.mono ?_
      rintro e w3 ⟨rfl,hst⟩
      have HTO:=zh ((At.after HS1.out hst).told)
      have cB3:w3.cell? ⟨B,0,none⟩=some (vp D):=zB (HBX2.out w3 hst) rfl
      clear hst HSV cB
      go_wp2_with fail
      refine HTO.out.mono ?_
      rintro e w4 ⟨v,ρ9,L9,rfl,q1,q2,q3⟩
      have HQ:=zh (And.intro q1 (And.intro q2 q3))
      clear q1 q2 q3 HTO
      go_wp2_with fail
      go_ret
      exact ⟨v,ρ9,L9,rfl,by rw [HT.out];exact HQ.out.1,HQ.out.2.1,by rw [HT.out];exact HQ.out.2.2⟩
   ·have hh1:decide (0 < rD.cfg.hedge)=false:=decide_eq_false hh
    have HHE:=zh (zMz hh)
    have HSV:=zh (h1.serve HE1.out HD.out h2 hNI.out.1 (by have:=hNI.out.2;omega))
    have HBX2:Hid (∀w',At ((w.setCell ⟨D,5,none⟩ (vi (r.now+1))).alloc (.cells #[vp D] 29)) ρ G D (yF rD) w'→w'.heap[B]?=some (.cells #[vp D] 29 (0,0))):=fun w' ha=>ha.box HBOX.out HNB.out
    clear h1 h2 h3 h4 h5 h6 hh hrel HDA
    go_wp2_with fail
    refine HSV.out.mono ?_
    rintro e w3 ⟨rfl,hst⟩
    have HTO:=zh ((At.after HS1.out hst).told)
    have cB3:w3.cell? ⟨B,0,none⟩=some (vp D):=zB (HBX2.out w3 hst) rfl
    clear hst HSV cB
    go_wp2_with fail
    refine HTO.out.mono ?_
    rintro e w4 ⟨v,ρ9,L9,rfl,q1,q2,q3⟩
    have HQ:=zh (And.intro q1 (And.intro q2 q3))
    clear q1 q2 q3 HTO
    go_wp2_with fail
    go_ret
    exact ⟨v,ρ9,L9,rfl,by rw [HT.out,HHE.out];exact HQ.out.1,HQ.out.2.1,by rw [HT.out,HHE.out];exact HQ.out.2.2⟩
  ·subst hv
   obtain ⟨kk,hblk,hrole⟩:=h1.att_blk h0
   have HEw:=zh (At.env (ρ:=ρ) (D:=D) (w0:=(w.setCell ⟨D,5,none⟩ (vi (r.now+1))).alloc (.cells #[vp D] 29)) (W:=wr) ⟨_,_,h1,h2⟩ HE1.out HD.out)
   have HDk:Hid (∀b,Of ρk b→G≤b):=fun b hb=>(h1.dom b hb).1
   have Ha:=zh h0
   have HR:=zh h1
   have HS:=zh h2
   have HBX:=zh (And.intro h3 h4)
   have HI:=zh h5
   have HTG:=zh h6
   have HLN:Hid ((za (zR rk a) a.id true).atts.length < dattLen wr D):=show _ < _ by rw [h1.dattLen];omega
   have hnum:Hid (∀x∈[Wd.str yf,Wd.num a.id,Wd.num a.att],x.ok):=by
    obtain ⟨q1,hq1,hq2,hq3⟩:=h5.a.areq a h0
    have hq4:=h5.n.req _ _ hq1
    have hq5:=h5.n.seq
    have hq6:=HN.out
    unfold NB at hq6
    intro x hx
    simp only [List.mem_cons,List.not_mem_nil,or_false] at hx
    rcases hx with rfl | rfl | rfl
    ·show _≤_;decide
    ·show _∧_;omega
    ·show _∧_;omega
   have hout:Hid (rk.out.length≤1099511627776):=show _≤_ by have:=h5.n.pot;have:=HP.out;unfold NB at this;omega
   have HA0:Hid (AtL wr ρk G D Lk rk wr):=⟨ρk,Lk,h1,Step.refl _ _,rfl⟩
   obtain ⟨A,hA⟩:∃A,A=Lk.att a.seq:=⟨_,rfl⟩
   have HAA:=zh hA
   rw [←hA] at hblk ⊢
   have a0:wr.cell? ⟨A,0,none⟩=some (vi a.id):=zB hblk rfl
   have a1:wr.cell? ⟨A,1,none⟩=some (vi a.att):=zB hblk rfl
   have a2:wr.cell? ⟨A,2,none⟩=some (vi a.conn):=zB hblk rfl
   have cB:wr.cell? ⟨B,0,none⟩=some (vp D):=zB h3 rfl
   have n0:=World.new_ne wr ⟨A,0,none⟩ a0
   have n1:=World.new_ne wr ⟨A,1,none⟩ a1
   have n2:=World.new_ne wr ⟨A,2,none⟩ a2
   have nB:=World.new_ne wr ⟨B,0,none⟩ cB
   have HSY:Hid (Calls Tryz.prog 40 #[vp D,vi a.conn,.slice (some ⟨wr.heap.size,0,none⟩) 3 3] ((wr.alloc (.cells #[.iface 9 (vs (bs yf)),.iface 3 (vi a.id),.iface 3 (vi a.att)] 20)).drew) fun e w'=>e=.returned (.tuple #[])∧AtL wr ρk G D Lk (rSay rk a.conn [yf,decI a.id,decI a.att]) w'):=
    ((HA0.out.alloc _).drewN 1).say HEw.out HDk.out a.conn [Wd.str yf,Wd.num a.id,Wd.num a.att] hnum.out (by simp) hout.out (B:=wr.heap.size) (cap:=3) (by show wr.heap.size < (wr.alloc _).heap.size;simp) (by
      intro j x hx
      refine zB (w:=(wr.alloc _).drewN 1) (zP wr) ?_
      match j with
      | 0=>simp at hx;subst hx;rfl
      | 1=>simp at hx;subst hx;rfl
      | 2=>simp at hx;subst hx;rfl
      | j+3=>simp at hx)
   have HFS:Hid (∀w5,AtL wr ρk G D Lk (rSay rk a.conn [yf,decI a.id,decI a.att]) w5→w5.cell? ⟨B,0,none⟩=some (vp D)∧w5.cell? ⟨A,0,none⟩=some (vi a.id)∧w5.cell? ⟨A,1,none⟩=some (vi a.att)∧w5.cell? ⟨A,2,none⟩=some (vi a.conn)):=fun w5 hst=>by
    have e1:w5.cell? ⟨B,0,none⟩=some (vp D):=zB (hst.at.box HBX.out.1 HBX.out.2) rfl
    obtain ⟨ρ5,L5,g1,g2,g3⟩:=hst
    obtain ⟨k9,b9,_⟩:=g1.att_blk (a:=a) Ha.out
    rw [g3,←HAA.out] at b9
    exact ⟨e1,zB b9 rfl,zB b9 rfl,zB b9 rfl⟩
   clear h0 h1 h2 h3 h4 h5 h6 h7 hblk hrole hA hrel HA0 hnum hout
   go_wp2_with fail
   go_region_held3 (fun w'=>w'.cell? ⟨B,0,none⟩=some (vp D)∧w'.cell? ⟨A,0,none⟩=some (vi a.id)∧w'.cell? ⟨A,1,none⟩=some (vi a.att)∧w'.cell? ⟨A,2,none⟩=some (vi a.conn)) (go_keep) ((go_at_call 40;refine HSY.out.mono ?_;rintro e w5 ⟨rfl,hst⟩;obtain ⟨cB5,a05,a15,a25⟩:=HFS.out w5 hst;have HA5:=zh hst;clear hst))
   all_goals
    have HEN:=zh (HA5.out.end HEw.out HDk.out (HI.out.say a.conn [yf,decI a.id,decI a.att]) (show P+1≤NB by have:=HP.out;omega) (show a∈rk.atts from Ha.out))
    rw [←HAA.out] at HEN
    clear a0 a1 a2 cB n0 n1 n2 nB
    go_wp2_with fail
    refine HEN.out.mono ?_
    rintro e w6 ⟨rfl,hst,k6,hb6⟩
    have a06:w6.cell? ⟨A,0,none⟩=some (vi a.id):=zB hb6 rfl
    have cB6:w6.cell? ⟨B,0,none⟩=some (vp D):=zB (hst.at.box HBX.out.1 HBX.out.2) rfl
    obtain ⟨q,hq,_⟩:=HI.out.a.areq a Ha.out
    have HAG:=zh ((hst.at.drewN 1).again HEw.out HDk.out ((HI.out.say a.conn [yf,decI a.id,decI a.att]).end (show a∈rk.atts from Ha.out)) (show N+1≤NB from HN.out) (show P+1 - 2+1 < NB by have:=HP.out;omega) a.id (q:=q) (by rw [zAg];exact hq) true)
    clear hst hb6 hq a05 a15 a25 cB5 HEN HSY
    go_wp2_with fail
    refine xF 5 xG (by kernel_rfl) ?_
    simp only [List.take_succ_cons,List.take_zero,List.drop_succ_cons,List.drop_zero]
    repeat still_step
    refine wpStill_nil ?_
    go_wp2_with fail
    refine HAG.out.mono ?_
    rintro e w7 ⟨rfl,hst⟩
    obtain ⟨nw,c57,cB7,hdu⟩:=zHM (B:=B) (N:=N+1) (P:=P) (tgt:=zl r.atts.length {r with now:=r.now+1}) HS.out HBX.out.1 HBX.out.2 (show At wr ρk G D (za (zR rk a) a.id true) w7 from hst) (HI.out.due1 Ha.out) HTG.out (by have:=HP.out;omega)
    have HDU:=zh hdu
    have hD7:D < w7.heap.size:=by obtain ⟨ρ7,L7,g1,_⟩:=hst;exact g1.size.2
    clear hst hdu HAG a06 cB6
    go_wp2_with fail
    refine xF 7 xG (by kernel_rfl) ?_
    simp only [List.take_succ_cons,List.take_zero,List.drop_succ_cons,List.drop_zero]
    repeat still_step
    refine wpStill_nil ?_
    go_wp2_with fail
    refine (HDU.out 1).mono ?_
    rintro e w8 ⟨v8,rfl,hd1,hd2,hd3⟩
    have HD8:=zh (And.intro hd1 hd2)
    clear hd1 hd2 hd3 HDU c57 cB7
    go_wp2_with fail
    go_roundw
    case rel=>exact HD8.out.1
    case measure=>rw [HD8.out.2];exact HLN.out
end Go.Proofs.YtaejfobbogahmaaGreatDoor
