/-
  End Shut Again: texts of their own, joined.
-/
import Derived.Test.YtaejfobbogahmaaGreatDoorMkQueue
import Derived.Test.YtaejfobbogahmaaGreatDoorMkBye
set_option maxRecDepth 100000
set_option maxHeartbeats 16000000
set_option linter.all false
namespace Go.Proofs.YtaejfobbogahmaaGreatDoor
open Go Go.RowKit
abbrev NB:Nat:=100000000000
theorem Inv.lim {N P:Nat} {r:Raw} (h:Inv N P r) (hP:P≤NB):Lim r:=⟨by have:=h.n.pot;unfold NB at hP;omega,by have:=h.n.pot;unfold NB at hP;omega⟩
theorem Inv.atts_le {N P:Nat} {r:Raw} (h:Inv N P r) (hP:P≤NB):r.atts.length≤1099511627776:=by have:=h.n.pot;unfold NB at hP;omega
theorem zGv (r:Raw) (t:ByteArray):yi r t≤r.atts.length:=List.countP_le_length
def zEL (w:World) (ρ:Nat→Role) (G D:Nat) (L:Lay) (r':Raw) (a:Att) (e:Ending) (w':World):Prop:=
 e=.returned (.tuple #[])∧St true true true w ρ G D L r' w'∧∃k,w'.heap[L.att a.seq]?=some (.cells (yV a k) 109 (0,0))
theorem zEM {w:World} {ρ:Nat→Role} {G D:Nat} {L:Lay} {r:Raw} (h:RRep w ρ G D L r) (t:ByteArray) :
 (Instr.lookup 75 (.map (some L.mr)) (vs t) false).run Tryz.prog w=.ok (vi (zQ r t)) w:=by
 have:=zIy h.run.2.1 t
 rw [zy] at this
 unfold zQ
 cases hq:aget r.runs t with
 | none=>rw [hq] at this;exact this
 | some n=>rw [hq] at this;exact this
def zAE (w:World) (ρ:Nat→Role) (G D:Nat) (L:Lay) (a:Att) (r':Raw) (w':World):Prop:=
 ∃ρ' L' k,RRep w' ρ' G D L' r'∧Step ρ ρ' w w'∧L'.req=L.req∧L'.cn=L.cn∧L'.att=L.att∧¬Of ρ' (L.att a.seq)∧w'.heap[L.att a.seq]?=some (.cells (yV a k) 109 (0,0))
theorem zAE.facts {w w1:World} {ρ:Nat→Role} {G D:Nat} {L:Lay} {a:Att} {r1:Raw} (h:zAE w ρ G D L a r1 w1) {q:Req} (hq:aget r1.reqs a.id=some q) :
 ∃mo mr,w1.cell? ⟨D,6,none⟩=some (.map (some mo))∧w1.cell? ⟨D,9,none⟩=some (.map (some mr))∧w1.cell? ⟨L.att a.seq,0,none⟩=some (vi a.id)∧w1.cell? ⟨L.att a.seq,2,none⟩=some (vi a.conn)∧w1.cell? ⟨L.req a.id,1,none⟩=some (vs q.tenant) ∧
  (∀n,(Instr.lookup 72 (.map (some mo)) (vi a.id) false).run Tryz.prog (w1.drewN n)=.ok (vp (L.req a.id)) (w1.drewN n)) ∧
  (∀n t,(Instr.lookup 75 (.map (some mr)) (vs t) false).run Tryz.prog (w1.drewN n)=.ok (vi (zQ r1 t)) (w1.drewN n)) ∧
  zN encS w1 mr (amap (fun _ n=>vi n) r1.runs) ∧
  (∀l w2,zN encS w2 mr (amap (fun _ n=>vi n) l)→(l.map Prod.fst).Nodup→Fr (fun b=>b=mr) w1 w2→zAE w ρ G D L a {r1 with runs:=l} w2):=by
 obtain ⟨ρ1,L1,k,h1,h2,h3,h4,h5,h6,h7⟩:=h
 refine ⟨L1.mo,L1.mr,h1.disp.c6,h1.disp.c9,zB h7 rfl,zB h7 rfl,?_,fun n=>?_,fun n t=>zEM (h1.drewN n) t,h1.run.2.1,fun l w2 hM hn hf=>?_⟩
 ·rw [←h3];exact zB (h1.req_blk hq) rfl
 ·have:=yw (h1.drewN n).opn.2.1 a.id
  rw [zy,hq] at this
  rw [←h3];exact this
 ·obtain ⟨k1,k2⟩:=h1.put_runs hM hn hf
  refine ⟨ρ1,L1,k,k1,h2.trans k2,h3,h4,h5,h6,(hf.block _ (zD _ h7) (fun e=>h6 ?_)).trans h7⟩
  rw [e];unfold Of;rw [h1.run.1];simp [rMr]
theorem zAE.drewN {w w1:World} {ρ:Nat→Role} {G D:Nat} {L:Lay} {a:Att} {r1:Raw} (h:zAE w ρ G D L a r1 w1) (n:Nat):zAE w ρ G D L a r1 (w1.drewN n):=by
 obtain ⟨ρ1,L1,k,h1,h2,h3⟩:=h
 exact ⟨ρ1,L1,k,h1.drewN n,h2.drewN n,h3⟩
theorem zAE.bye {w w1:World} {ρ:Nat→Role} {G D:Nat} {L:Lay} {a:Att} {r1:Raw} (h:zAE w ρ G D L a r1 w1) (hRR:∃ρ0 L0 r0,RRep w ρ0 G D L0 r0∧ρ0=ρ) (hE:Env G w) (hL:Lim r1) (c:Int) :
 Calls Tryz.prog 72 #[vp D,vi c] w1 (zEL w ρ G D L (rBye r1 c) a):=by
 obtain ⟨ρ1,L1,k,h1,h2,h3,h4,h5,h6,h7⟩:=h
 obtain ⟨ρ0,L0,r0,hR,rfl⟩:=hRR
 refine (zGu h1 (Step.env hR h2 hE) hL c).mono ?_
 rintro e w2 ⟨rfl,hst⟩
 have hst2:=hst
 obtain ⟨ρ2,L2,k1,k2,_⟩:=hst2
 exact ⟨rfl,St.trans h2 (fun _=>h5) (fun _=>h3) (fun _=>h4) hst,k,(k2.fr.block _ (zD _ h7) h6).trans h7⟩
theorem zCx {w:World} {ρ:Nat→Role} {G D:Nat} {L:Lay} {r:Raw} (h:RRep w ρ G D L r) (hE:Env G w) {N P:Nat} (hI:Inv N P r) (hP:P≤NB) {a:Att} (ha:a∈r.atts) :
 Calls Tryz.prog 47 #[vp D,vp (L.att a.seq)] w (zEL w ρ G D L (rEnd r a) a):=by
 obtain ⟨q,hq,_⟩:=hI.a.areq a ha
 have HEND:=zh (zJi h ha (hI.atts_le hP))
 have HEQ:Hid (rEnd r a=rBye (yu r a q.tenant) a.conn):=zCQ hq
 have HI0:=zh ((hI.end0 ha hq).lim (show P - 3≤NB by omega))
 have HB:=zh (fun (w1:World) (hx:zAE w ρ G D L a (yu r a q.tenant) w1)=>hx.bye ⟨ρ,L,r,h,rfl⟩ hE HI0.out a.conn)
 have HQ:=zh hq
 have HN:=zh hI.q.krun
 have hm:zQ r q.tenant=yi r q.tenant:=hI.a.runs q.tenant
 have hc:=zGv r q.tenant
 have hat:=hI.atts_le hP
 obtain ⟨m,hm2⟩:∃m,Hid (zQ r q.tenant=m):=⟨_,rfl⟩
 have hm0:0≤m:=by have:=hm2.out;omega
 have hm1:m≤1099511627776:=by have:=hm2.out;omega
 clear hE hI hq hm hc hat h
 go_enter Tryz.func47,Tryz.ntmps47
 go_wp2_with fail
 refine HEND.out.mono ?_
 rintro e w1 ⟨rfl,hp1⟩
 have HA1:Hid (zAE w ρ G D L a {r with atts:=r.atts.filter fun b=>!decide (b.seq=a.seq)} w1):=by
  obtain ⟨ρ',L',k,h1,h2,h3,h4,h5,h6,h7⟩:=hp1
  exact ⟨ρ',L',k,h1,h2,h3,h4,h5,h6,h7⟩
 clear hp1 HEND
 obtain ⟨mo,mr,d6,d9,a0,a2,q1,hlo,hlr,hM,hup⟩:=HA1.out.facts HQ.out
 have HM:=zh hM
 have HUP:=zh hup
 have hlr1:∀n,(Instr.lookup 75 (.map (some mr)) (vs q.tenant) false).run Tryz.prog (w1.drewN n)=.ok (vi m) (w1.drewN n):=fun n=>by rw [←hm2.out];exact hlr n q.tenant
 clear hM hup hlr
 go_wp2_with fail
 have HMM:Hid (∀w2,zN encS w2 mr (aset (amap (fun _ n=>vi n) r.runs) q.tenant (vi (m - 1)))→Fr (fun b=>b=mr) w1 w2→zAE w ρ G D L a {r with atts:=r.atts.filter fun b=>!decide (b.seq=a.seq),runs:=aset r.runs q.tenant (m - 1)} w2):=fun w2 h1 h2 =>
  HUP.out (aset r.runs q.tenant (m - 1)) w2 (by rw [←zBI (fun _ (n:Int)=>vi n)];exact h1) (zw HN.out _ _) h2
 have HRM:Hid (zQ {r with atts:=r.atts.filter fun b=>!decide (b.seq=a.seq),runs:=aset r.runs q.tenant (m - 1)} q.tenant=m - 1):=show _=_ by unfold zQ;simp [zV]
 by_cases hz:m - 1=0
 ·have hz1:(m - 1==0)=true:=by rw [hz];rfl
  have HZ:Hid (yu r a q.tenant={r with atts:=r.atts.filter fun b=>!decide (b.seq=a.seq),runs:=adel (aset r.runs q.tenant (m - 1)) q.tenant}):=by
   have:=zDS (r:=r) (a:=a) (t:=q.tenant) (by rw [hm2.out];exact hz)
   rw [hm2.out] at this;exact this
  clear hz
  go_quiet (fail)
  go_wp2_with (first
   | (
     refine zAr _ rfl KS _ _ _ _ rfl (HM.out.of_blk (w':=w1.drewN nq) rfl) Tryz.underlying75 q.tenant (vi (m - 1)) rfl rfl rfl ?_
     intro w2 hmm hss hff
     have HA2:=zh (HMM.out w2 hmm ((yx _ w1 nq).trans hff (fun x hx=>.inl hx)))
     obtain ⟨mo2,mr2,d6b,d9b,a0b,a2b,q1b,hlob,hlrb,hMb,hupb⟩:=HA2.out.facts HQ.out
     have hlrb2:(Instr.lookup 75 (.map (some mr2)) (vs q.tenant) false).run Tryz.prog w2=.ok (vi (m - 1)) w2:=by
      have:=hlrb 0 q.tenant
      rw [HRM.out] at this;exact this
     have HM2:=zh hMb
     have HUP2:=zh hupb
     clear hmm hss hff hlob hlrb hMb hupb hlr1 hlo d6 d9 a0 a2 q1 HM HUP HMM)
   | (
     refine zCb _ rfl KS _ _ _ _ rfl HM2.out Tryz.underlying75 q.tenant rfl rfl ?_
     intro w3 hmm hss hff
     have HA3:=zh (HUP2.out (adel (aset r.runs q.tenant (m - 1)) q.tenant) w3 (by rw [←zAq (fun _ (n:Int)=>vi n)];exact hmm) (zAQ (zw HN.out _ _) _) hff)
     obtain ⟨mo3,mr3,_,_,_,a2c,_⟩:=HA3.out.facts HQ.out
     rw [←HZ.out] at HA3
     clear hmm hss hff d6b d9b a0b a2b q1b hlrb2))
  refine (HB.out w3 HA3.out).mono ?_
  rintro e w4 ⟨rfl,hst⟩
  have HST:=zh hst
  clear hst
  go_wp2_with fail
  go_end0
  exact ⟨rfl,by rw [HEQ.out];exact HST.out⟩
 ·have hz1:(m - 1==0)=false:=beq_eq_false_iff_ne.2 hz
  have HZ:Hid (yu r a q.tenant={r with atts:=r.atts.filter fun b=>!decide (b.seq=a.seq),runs:=aset r.runs q.tenant (m - 1)}):=by
   have:=zDT (r:=r) (a:=a) (t:=q.tenant) (by rw [hm2.out];exact hz)
   rw [hm2.out] at this;exact this
  clear hz
  go_quiet (fail)
  go_wp2_with (first
   | (
     refine zAr _ rfl KS _ _ _ _ rfl (HM.out.of_blk (w':=w1.drewN nq) rfl) Tryz.underlying75 q.tenant (vi (m - 1)) rfl rfl rfl ?_
     intro w2 hmm hss hff
     have HA2:=zh (HMM.out w2 hmm ((yx _ w1 nq).trans hff (fun x hx=>.inl hx)))
     obtain ⟨mo2,mr2,d6b,d9b,a0b,a2b,q1b,hlob,hlrb,hMb,hupb⟩:=HA2.out.facts HQ.out
     have hlrb2:(Instr.lookup 75 (.map (some mr2)) (vs q.tenant) false).run Tryz.prog w2=.ok (vi (m - 1)) w2:=by
      have:=hlrb 0 q.tenant
      rw [HRM.out] at this;exact this
     rw [←HZ.out] at HA2
     clear hmm hss hff hlob hlrb hMb hupb hlr1 hlo d6 d9 a0 a2 q1 HM HUP HMM))
  refine (HB.out w2 HA2.out).mono ?_
  rintro e w4 ⟨rfl,hst⟩
  have HST:=zh hst
  clear hst
  go_wp2_with fail
  go_end0
  exact ⟨rfl,by rw [HEQ.out];exact HST.out⟩
def xW (f:Raw→Att→Raw) (l:List Att) (r:Raw) (I:Raw→Prop) (w1:World) (ρ:Nat→Role) (G D:Nat) (L:Lay) (k:Nat) (wr:World):Prop:=
 ∃rk ρk Lk,RRep wr ρk G D Lk rk∧Step ρ ρk w1 wr∧Lk.att=L.att∧Lk.req=L.req∧Lk.cn=L.cn∧I rk∧Live (l.drop k) rk∧(l.drop k).foldl f rk=l.foldl f r
theorem xW.start {f:Raw→Att→Raw} {l:List Att} {r:Raw} {I:Raw→Prop} {w1:World} {ρ:Nat→Role} {G D:Nat} {L:Lay} (h:RRep w1 ρ G D L r) (hI:I r) (hl:Live l r):xW f l r I w1 ρ G D L 0 w1:=
 ⟨r,ρ,L,h,Step.refl _ _,rfl,rfl,rfl,hI,hl,rfl⟩
theorem zCC {l:List Att} {k:Nat} (h:k < l.length):l.drop k=hg l k::l.drop (k+1):=by
 rw [List.drop_eq_getElem_cons h]
 congr 1
 have:=zZ h
 rw [List.getElem?_eq_getElem h] at this
 exact Option.some.inj this
theorem xW.list {f:Raw→Att→Raw} {l:List Att} {r:Raw} {I:Raw→Prop} {w1:World} {ρ:Nat→Role} {G D:Nat} {L:Lay} {k:Nat} {wr:World} (h:xW f l r I w1 ρ G D L k wr) {T:TypeId} {sz n:Nat} {v:Value} {xs:List Value} {own:Nat→Prop} (hs:SlAt w1 T sz own v n xs) (ho:∀b,own b→¬Of ρ b):SlAt wr T sz own v n xs:=by
 obtain ⟨rk,ρk,Lk,h1,h2,_⟩:=h
 exact hs.of_blk (fun b hb hl=>h2.fr.block b hl (ho b hb)) (fun _ h _=>h)
theorem zEN {w:World} {ρ:Nat→Role} {G D:Nat} {L:Lay} {r:Raw} (h:RRep w ρ G D L r) (hE:Env G w) {N P:Nat} (hI:Inv N P r) (hN:N≤NB) (hP:P < NB) (id:Int) {q:Req} (hq:aget r.reqs id=some q) :
 Calls Tryz.prog 55 #[vp D,vi id] w (xp true true true w ρ G D L (yA r id)):=by
 have HC:=zh (zBy h id (hI.atts_le (by omega)))
 have HLV:=zh (Live.of_filter hI fun a=>decide (a.id=id))
 have HS:Hid (yA r id={zI ((rOf r id).foldl zR r) id with reqs:=adel (zI ((rOf r id).foldl zR r) id).reqs id}):=rfl
 have hlen:(rOf r id).length≤1099511627776:=Nat.le_trans (List.length_filter_le _ _) (hI.atts_le (by omega))
 have HID:Hid (∀a∈rOf r id,a.id=id):=fun a ha=>by have:=(List.mem_filter.1 ha).2;simpa using this
 have HH:=zh h
 have HE:=zh hE
 have HI:=zh hI
 have HP:=zh hP
 have HN:=zh hN
 have Hq:=zh hq
 have hidb:Hid (0≤id∧id≤999999):=by have:=hI.n.req id q hq;exact ⟨this.1,this.2.1⟩
 have HLV2:Hid (Live (rOf r id) r):=HLV.out
 generalize rOf r id=l at *
 clear HLV h hE hI hP hN hq
 go_enter Tryz.func55,Tryz.ntmps55
 go_wp2_with fail
 refine HC.out.mono ?_
 rintro e w1 ⟨v,rfl,h2,h3⟩
 have HB1:=zh h3
 have HSL:=zh h2
 obtain ⟨va,vc,hv1,hv2,hv3⟩:=h2.form'
 subst hv1
 unfold maxLen at hv3
 have HR1:=zh (HH.out.of_fr (Fr.of_below (S:=fun _=>False) h3) (fun _ f=>f.elim))
 have HE1:=zh (HE.out.grow h3)
 have HOWN:Hid (∀b,w.heap.size≤b→¬Of ρ b):=fun b hb ho=>by have:=(HH.out.dom b ho).2;omega
 clear h2 h3 HC
 go_wp2_with fail
 go_loopw [5,10] (fun _ s10 wr=>∃k:Nat,s10=.int .i64 k∧k≤l.length∧Hid (xW zR l r (fun rk=>Inv N P rk∧rk.reqs=r.reqs) w1 ρ G D L k wr)) (fun _ s10 _=>l.length - (intOf s10).toNat)
 case atStart=>exact ⟨0,by go_num,Nat.zero_le _,xW.start HR1.out ⟨HI.out,rfl⟩ HLV2.out⟩
 case round =>
  obtain ⟨k,rfl,hk,HL⟩:=hrel
  by_cases hkl:k < l.length
  ·have hlt:decide ((k:Int) < (l.length:Int))=true:=decide_eq_true (by omega)
   have hsl:=HL.out.list HSL.out HOWN.out
   obtain ⟨b,off,cap,hv,hbo,hbl,_,_,hc,_⟩:=hsl.form (by omega)
   obtain ⟨rfl,rfl⟩:va=some ⟨b,off,none⟩∧vc=cap:=by injection hv with e1 e2 e3;exact ⟨e1,e3⟩
   have ck:wr.cell? ⟨b,off+k,none⟩=some (vp (L.att (hg l k).seq)):=hc k _ (by simp [zZ hkl])
   obtain ⟨rk,ρk,Lk,k1,k2,k3,k4,k5,⟨k6,k6b⟩,k7,k8⟩:=HL.out
   rw [zCC hkl] at k7 k8
   obtain ⟨kk,kblk,krole⟩:=k1.att_blk (k7.2 (hg l k) (by simp))
   rw [k3] at kblk krole
   obtain ⟨A,hA⟩:∃A,A=L.att (hg l k).seq:=⟨_,rfl⟩
   rw [←hA] at ck kblk krole
   have a1:wr.cell? ⟨A,1,none⟩=some (vi (hg l k).att):=zB kblk rfl
   have a2:wr.cell? ⟨A,2,none⟩=some (vi (hg l k).conn):=zB kblk rfl
   have n1:=World.new_ne wr ⟨A,1,none⟩ a1
   have n2:=World.new_ne wr ⟨A,2,none⟩ a2
   have hk0:(0:Int)≤(k:Int):=by omega
   have hk1:(k:Int) < (l.length:Int):=by omega
   have HAid:Hid ((hg l k).id=id):=HID.out _ (List.mem_of_getElem? (zZ hkl))
   have hnum:Hid (∀x∈[Wd.str yf,Wd.num id,Wd.num (hg l k).att],x.ok):=by
    obtain ⟨q1,hq1,hq2,hq3⟩:=k6.a.areq _ (k7.2 (hg l k) (by simp))
    have hq4:=k6.n.req _ _ hq1
    have hq5:=k6.n.seq
    have hq6:=HN.out
    have hq7:=hidb.out
    unfold NB at hq6
    intro x hx
    simp only [List.mem_cons,List.not_mem_nil,or_false] at hx
    rcases hx with rfl | rfl | rfl
    ·show _≤_;decide
    ·show _∧_;omega
    ·show _∧_;omega
   have HRk:=zh k1
   have HTk:=zh k2
   have HEk:=zh (Step.env HR1.out k2 HE1.out)
   have HIk:=zh k6
   have HQk:=zh k6b
   have HLk:=zh k7
   have HFk:=zh k8
   have HAk:=zh (And.intro k3 (And.intro k4 k5))
   have HAA:=zh hA
   have HSY:=zh (zAc (w:=(wr.alloc (.cells #[.iface 9 (vs (bs yf)),.iface 3 (vi id),.iface 3 (vi (hg l k).att)] 20)).drew) ((k1.alloc _).drew) ((HEk.out.alloc _).drew) (hg l k).conn [Wd.str yf,Wd.num id,Wd.num (hg l k).att] hnum.out (by simp) (by have:=k6.n.pot;have:=HP.out;unfold NB at this;omega)
    (B:=wr.heap.size) (cap:=3) (by simp) (by
     intro j x hx
     refine zB (zP wr) ?_
     match j with
     | 0=>simp at hx;subst hx;rfl
     | 1=>simp at hx;subst hx;rfl
     | 2=>simp at hx;subst hx;rfl
     | j+3=>simp at hx))
   clear hsl hv hbo hbl hc k1 k2 k3 k4 k5 k6 k6b k7 k8 kblk krole hA
   go_wp2_with fail
   go_region_held3 (fun w'=>w'.cell? ⟨A,1,none⟩=some (vi (hg l k).att)∧w'.cell? ⟨A,2,none⟩=some (vi (hg l k).conn)) (go_keep) ((go_at_call 40;refine HSY.out.mono ?_;rintro e w5 ⟨rfl,hst⟩;obtain ⟨ρ5,L5,m1,m2,m3,m4,m5⟩:=hst;obtain ⟨k9,b9,_⟩:=m1.att_blk (a:=hg l k) (HLk.out.2 _ (by simp));rw [m3 rfl,HAk.out.1,←HAA.out] at b9;have HM5:=zh (And.intro m1 (And.intro m2 (And.intro (m3 rfl) (And.intro (m4 rfl) (m5 rfl)))));have a1b:w5.cell? ⟨A,1,none⟩=some (vi (hg l k).att):=zB b9 rfl;have a2b:w5.cell? ⟨A,2,none⟩=some (vi (hg l k).conn):=zB b9 rfl;clear m1 m2 m3 m4 m5 b9))
   all_goals
    have hA5:L5.att (hg l k).seq=A:=by rw [HM5.out.2.2.1,HAk.out.1,←HAA.out]
    have HEN:=zh (zCx HM5.out.1 (Step.env ((HRk.out.alloc _).drew) HM5.out.2.1 ((HEk.out.alloc _).drew)) (HIk.out.say _ _) (by have:=HP.out;omega) (HLk.out.2 (hg l k) (by simp)))
    rw [hA5] at HEN
    clear hA5
    go_wp2_with fail
    refine HEN.out.mono ?_
    rintro e w6 ⟨rfl,hst,_⟩
    have HST:=zh hst
    clear hst
    go_wp2_with fail
    go_roundw
    case rel =>
     refine ⟨k+1,by go_num,by omega,?_⟩
     obtain ⟨ρ6,L6,e1,e2,e3,e4,e5⟩:=HST.out
     have hstop:rEnd (rSay rk (hg l k).conn ([Wd.str yf,Wd.num id,Wd.num (hg l k).att].map Wd.bytes)) (hg l k)=zR rk (hg l k):=by
      unfold zR;rw [HAid.out];rfl
     rw [hstop] at e1
     obtain ⟨q1,hq1,_⟩:=HIk.out.a.areq (hg l k) (HLk.out.2 _ (by simp))
     exact ⟨zR rk (hg l k),ρ6,L6,e1,(((HTk.out.alloc _).drew).trans HM5.out.2.1).trans e2,((e3 rfl).trans HM5.out.2.2.1).trans HAk.out.1,((e4 rfl).trans HM5.out.2.2.2.1).trans HAk.out.2.1,((e5 rfl).trans HM5.out.2.2.2.2).trans HAk.out.2.2,
      ⟨(HIk.out.stop (HLk.out.2 _ (by simp))).mono (Nat.le_refl _) (by omega),(zFE rk _).trans HQk.out⟩,HLk.out.next (zDV hq1),HFk.out⟩
    case measure=>simp [intOf];omega
  ·obtain rfl:k=l.length:=by omega
   have hlt:decide ((l.length:Int) < (l.length:Int))=false:=by simp
   obtain ⟨rk,ρk,Lk,k1,k2,k3,k4,k5,⟨k6,k6b⟩,k7,k8⟩:=HL.out
   rw [List.drop_length] at k8
   have k8:rk=l.foldl zR r:=k8
   have hq2:aget rk.reqs id=some q:=by rw [k6b];exact Hq.out
   have hb:N≤1000000000000:=by have:=HN.out;unfold NB at this;omega
   have HU:=zh (zGO k1 id hq2 (Nat.le_trans k6.q.ring_le (Nat.le_trans k6.n.reqs hb)) (Nat.le_trans (k6.q.qu_le _) (Nat.le_trans k6.n.reqs hb)))
   have HT:=zh k2
   have HA:=zh (And.intro k3 (And.intro k4 k5))
   have HF:=zh k8
   clear k1 k2 k3 k4 k5 k6 k6b k7 k8 hq2 hb
   go_wp2_with fail
   refine HU.out.mono ?_
   rintro e w7 ⟨rfl,ρ7,L7,m1,m2,m3,m4,m5⟩
   have c6:w7.cell? ⟨D,6,none⟩=some (.map (some L7.mo)):=m1.disp.c6
   have HM7:=zh (And.intro m1 (And.intro m2 (And.intro (m3 rfl) (And.intro (m4 rfl) (m5 rfl)))))
   clear m1 m2 m3 m4 m5
   go_wp2_with (refine zCb _ rfl KI _ _ _ _ rfl HM7.out.1.opn.2.1 Tryz.underlying72 id rfl rfl ?_;intro w8 hm8 hs8 hf8;have HM8:=zh (HM7.out.1.del_req hm8 hf8);clear hm8 hs8 hf8)
   go_end0
   have hst0:Step ρ ρ w w1:=⟨Fr.of_below HB1.out,fun b hb=>.inl hb⟩
   exact ⟨rfl,by rw [HS.out,←HF.out];exact ⟨ρ7,L7,HM8.out.1,((hst0.trans HT.out).trans HM7.out.2.1).trans HM8.out.2,fun _=>HM7.out.2.2.1.trans HA.out.1,fun _=>HM7.out.2.2.2.1.trans HA.out.2.1,fun _=>HM7.out.2.2.2.2.trans HA.out.2.2⟩⟩
theorem zLi {r:Raw} {id:Int} {q:Req} (hq:aget r.reqs id=some q) (counts:Bool):za r id counts =
 if q.queued||!(rOf r id).isEmpty then r
 else if counts then (if q.left=0 then yA (rSay r q.conn [wErr,decI id]) id else zj {r with reqs:=aset r.reqs id {q with left:=q.left - 1}} id true)
 else zj r id true:=by
 unfold za xQ;rw [hq]
theorem zGw {w:World} {ρ:Nat→Role} {G D:Nat} {L:Lay} {r:Raw} (h:RRep w ρ G D L r) (hE:Env G w) {N P:Nat} (hI:Inv N P r) (hN:N≤NB) (hP:P+1 < NB) (id:Int) {q:Req} (hq:aget r.reqs id=some q) (counts:Bool) :
 Calls Tryz.prog 48 #[vp D,vi id,.bool counts] w (xp true true true w ρ G D L (za r id counts)):=by
 have HC:=zh (zBy h id (hI.atts_le (by omega)))
 have HR:=zh (zLi hq counts)
 have c6:=h.disp.c6
 have hl:=yw h.opn.2.1 id
 rw [zy,hq] at hl
 simp only [Option.map_some,Option.getD_some] at hl
 have hblk:=h.req_blk hq
 have d6:w.cell? ⟨L.req id,6,none⟩=some (.bool q.queued):=zB hblk rfl
 have HBLK:=zh hblk
 have HH:=zh h
 have HE:=zh hE
 have HI:=zh hI
 have HP:=zh hP
 have HN:=zh hN
 have Hq:=zh hq
 clear h hE hI hP hN hblk
 cases hqq:q.queued with
 | true =>
   rw [hqq] at d6
   have HP:Hid (St true true true w ρ G D L (za r id counts) w):=by
    rw [HR.out,if_pos (by simp [hqq])];exact St.same HH.out (Fr.refl _ w) _ _ _
   clear hqq hq
   go_enter Tryz.func48,Tryz.ntmps48
   go_wp2_with fail
   go_end0
   exact ⟨rfl,HP.out⟩
 | false =>
   rw [hqq] at d6
   have Hqq:=zh hqq
   clear hqq hq
   obtain ⟨n,hn⟩:∃n,Hid ((rOf r id).length=n):=⟨_,rfl⟩
   have hnb:n≤1099511627776:=by
    have:=hn.out
    have h1:(rOf r id).length≤r.atts.length:=List.length_filter_le _ _
    have:=HI.out.atts_le (by have:=HP.out;omega)
    omega
   by_cases hz:0 < n
   ·have hz1:decide (0 < n)=true:=decide_eq_true hz
    have hz2:decide ((0:Int) < (n:Int))=true:=decide_eq_true (by omega)
    have HP0:Hid (∀w1,Below w.heap.size w w1→St true true true w ρ G D L (za r id counts) w1):=fun w1 hb=>by
     have:(rOf r id).isEmpty=false:=by
      cases hq:rOf r id with
      | nil=>have:=hn.out;rw [hq] at this;simp at this;omega
      | cons a l=>rfl
     rw [HR.out,if_pos (by simp [this])]
     exact St.same HH.out (Fr.of_below hb) _ _ _
    clear hz
    go_enter Tryz.func48,Tryz.ntmps48
    go_wp2_with fail
    refine HC.out.mono ?_
    rintro e w1 ⟨v,rfl,h2,h3⟩
    obtain ⟨va,vc,hv1,hv2,hv3⟩:=h2.form'
    subst hv1
    rw [hn.out]
    have HS:=zh (HP0.out w1 h3)
    clear h2 h3 hv2 hv3
    go_wp2_with fail
    go_end0
    exact ⟨rfl,HS.out⟩
   ·have hz1:decide (0 < n)=false:=decide_eq_false hz
    have hz2:decide ((0:Int) < (n:Int))=false:=decide_eq_false (by omega)
    have HOF:Hid (rOf r id=[]):=List.length_eq_zero_iff.1 (by have:=hn.out;omega)
    have HR1:Hid (za r id counts=if counts then (if q.left=0 then yA (rSay r q.conn [wErr,decI id]) id else zj {r with reqs:=aset r.reqs id {q with left:=q.left - 1}} id true) else zj r id true):=show _=_ by
     rw [HR.out,HOF.out,if_neg (by simp [Hqq.out])]
    have hidb:Hid (0≤id∧id≤999999):=by have:=HI.out.n.req id q Hq.out;exact ⟨this.1,this.2.1⟩
    have hlb:0≤q.left∧q.left≤5:=by have:=HI.out.n.req id q Hq.out;exact ⟨this.2.2.2.2.1,this.2.2.2.2.2.1⟩
    have hleft0:=hlb.1
    have hleft1:=hlb.2
    have HNB:Hid (N≤1000000000000):=show _≤_ by have:=HN.out;unfold NB at this;omega
    clear hz HR hlb
    go_enter Tryz.func48,Tryz.ntmps48
    go_wp2_with fail
    refine HC.out.mono ?_
    rintro e w1 ⟨v,rfl,h2,h3⟩
    obtain ⟨va,vc,hv1,hv2,hv3⟩:=h2.form'
    subst hv1
    rw [hn.out]
    have HR1w:=zh (HH.out.of_fr (Fr.of_below (S:=fun _=>False) h3) (fun _ f=>f.elim))
    have HE1:=zh (HE.out.grow h3)
    have HT1:Hid (Step ρ ρ w w1):=⟨Fr.of_below h3,fun b hb=>.inl hb⟩
    have hb1:=HR1w.out.req_blk Hq.out
    have e0:w1.cell? ⟨L.req id,0,none⟩=some (vi q.conn):=zB hb1 rfl
    have e4:w1.cell? ⟨L.req id,4,none⟩=some (vi q.left):=zB hb1 rfl
    have f4:w1.frozen? ⟨L.req id,4,none⟩=false:=zK hb1
    have HBLK1:=zh hb1
    clear h2 h3 hv2 hv3 hb1 hl c6 d6 HBLK
    cases counts with
    | false =>
      have HQU:=zh (zCp HR1w.out id Hq.out true (Nat.le_trans HI.out.q.ring_le (Nat.le_trans HI.out.n.reqs HNB.out)) (Nat.le_trans (HI.out.q.qu_le _) (Nat.le_trans HI.out.n.reqs HNB.out)))
      go_wp2_with fail
      refine HQU.out.mono ?_
      rintro e w2 ⟨rfl,hst⟩
      have HST:=zh (St.trans HT1.out (fun _=>rfl) (fun _=>rfl) (fun _=>rfl) hst)
      clear hst
      go_wp2_with fail
      go_end0
      exact ⟨rfl,by rw [HR1.out];exact HST.out⟩
    | true =>
      by_cases hl0:q.left=0
      ·have hl1:(q.left==0)=true:=beq_iff_eq.2 hl0
       have HR2:Hid (za r id true=yA (rSay r q.conn [wErr,decI id]) id):=show _=_ by rw [HR1.out,if_pos rfl,if_pos hl0]
       have HSY:=zh (zAc (w:=w1.alloc (.cells #[.iface 9 (vs (bs wErr)),.iface 3 (vi id)] 20)) (HR1w.out.alloc _) (HE1.out.alloc _) q.conn [Wd.str wErr,Wd.num id] (by
        have:=hidb.out
        intro x hx
        simp only [List.mem_cons,List.not_mem_nil,or_false] at hx
        rcases hx with rfl | rfl
        ·show _≤_;decide
        ·show _∧_;omega) (by simp) (by have:=HI.out.n.pot;have:=HP.out;unfold NB at this;omega)
        (B:=w1.heap.size) (cap:=2) (by simp) (by
         intro j x hx
         refine zB (zP w1) ?_
         match j with
         | 0=>simp at hx;subst hx;rfl
         | 1=>simp at hx;subst hx;rfl
         | j+2=>simp at hx))
       clear hl0 hleft0 hleft1
       go_wp2_with fail
       refine HSY.out.mono ?_
       rintro e w2 ⟨rfl,hst⟩
       obtain ⟨ρ2,L2,m1,m2,m3,m4,m5⟩:=hst
       have HSH:=zh (zEN m1 (Step.env (HR1w.out.alloc _) m2 (HE1.out.alloc _)) (HI.out.say _ _) HN.out HP.out id (q:=q) Hq.out)
       have HM2:=zh (And.intro ((HT1.out.alloc _).trans m2) (And.intro (m3 rfl) (And.intro (m4 rfl) (m5 rfl))))
       clear m1 m2 m3 m4 m5 e0 e4 f4
       go_wp2_with fail
       refine HSH.out.mono ?_
       rintro e w3 ⟨rfl,hst⟩
       have HST:=zh (St.trans HM2.out.1 (fun _=>HM2.out.2.1) (fun _=>HM2.out.2.2.1) (fun _=>HM2.out.2.2.2) hst)
       clear hst
       go_wp2_with fail
       go_end0
       exact ⟨rfl,by rw [HR2.out];exact HST.out⟩
      ·have hl1:(q.left==0)=false:=beq_eq_false_iff_ne.2 hl0
       have HR2:Hid (za r id true=zj {r with reqs:=aset r.reqs id {q with left:=q.left - 1}} id true):=show _=_ by rw [HR1.out,if_pos rfl,if_neg hl0]
       obtain ⟨k1,k2⟩:=HR1w.out.put_req (w':=w1.setCell ⟨L.req id,4,none⟩ (vi (q.left - 1))) (y:={q with left:=q.left - 1}) Hq.out (zO w1 HBLK1.out) ((Fr.refl _ w1).setCell _ _ (.inl rfl))
       have HI2:=zh (HI.out.left Hq.out hl0)
       have HQU:=zh (zCp k1 id (q:={q with left:=q.left - 1}) (by simp [zV]) true (Nat.le_trans HI2.out.q.ring_le (Nat.le_trans HI2.out.n.reqs HNB.out)) (Nat.le_trans (HI2.out.q.qu_le _) (Nat.le_trans HI2.out.n.reqs HNB.out)))
       have HT2:=zh (HT1.out.trans k2)
       clear k1 k2 hl0
       go_wp2_with fail
       refine HQU.out.mono ?_
       rintro e w2 ⟨rfl,hst⟩
       have HST:=zh (St.trans HT2.out (fun _=>rfl) (fun _=>rfl) (fun _=>rfl) hst)
       clear hst
       go_wp2_with fail
       go_end0
       exact ⟨rfl,by rw [HR2.out];exact HST.out⟩
end Go.Proofs.YtaejfobbogahmaaGreatDoor
