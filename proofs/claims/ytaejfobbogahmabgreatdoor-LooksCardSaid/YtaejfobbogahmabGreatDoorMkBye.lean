/-
  The walk of Dispatcher's told.
  How the raw state's parts are written: a connection's block, the lists of who waits and whose turn it is.
  The walk of Dispatcher's bye.
-/
import Derived.Test.YtaejfobbogahmabGreatDoorMkSay
import Derived.Test.YtaejfobbogahmabGreatDoorMkPut2
set_option maxRecDepth 100000
set_option maxHeartbeats 16000000
set_option linter.unusedVariables false
set_option linter.unusedSimpArgs false
namespace Go.Proofs.YtaejfobbogahmabGreatDoor
open Go Go.RowKit
def dropOut (ρ:Nat→Role):Nat→Role:=fun b=>if (ρ b).tag=12 then Role.none else ρ b
def ToldPost (w:World) (ρ:Nat→Role) (G D:Nat) (L:Lay) (r:Raw) (e:Ending) (w':World):Prop:=
 e=.returned L.out∧RRep w' (dropOut ρ) G D {L with out:=.slice none 0 0} {r with out:=[]}∧Step ρ (dropOut ρ) w w' ∧
  SlAt w' 64 2 (fun b=>Of ρ b∧¬Of (dropOut ρ) b) L.out r.out.length (outCells r.out)
theorem told_rep {w:World} {ρ:Nat→Role} {G D:Nat} {L:Lay} {r:Raw} (h:RRep w ρ G D L r) :
 RRep (w.setCell ⟨D,14,none⟩ (.slice none 0 0)) (dropOut ρ) G D {L with out:=.slice none 0 0} {r with out:=[]}∧Step ρ (dropOut ρ) w (w.setCell ⟨D,14,none⟩ (.slice none 0 0)) ∧
 SlAt (w.setCell ⟨D,14,none⟩ (.slice none 0 0)) 64 2 (fun b=>Of ρ b∧¬Of (dropOut ρ) b) L.out r.out.length (outCells r.out):=by
 have hDr:=h.disp.1
 have hf:Fr (fun b=>b=D) w (w.setCell ⟨D,14,none⟩ (.slice none 0 0)):=(Fr.refl _ w).setCell _ _ (.inl rfl)
 have hdo:∀b,(dropOut ρ b).tag≠0→(ρ b).tag≠0:=fun b hb=>by
  unfold dropOut at hb
  split at hb
  ·exact absurd rfl hb
  ·exact hb
 have k:∀T:Role→Prop,¬T rDisp→(∀x,T x→x.tag≠12)→Keep T ρ (dropOut ρ) w (w.setCell ⟨D,14,none⟩ (.slice none 0 0)):=fun T h1 h2 b hb ht =>
  ⟨hf.block b hb (fun e=>by rw [e,hDr] at ht;exact h1 ht),by unfold dropOut;rw [if_neg (h2 _ ht)]⟩
 refine ⟨⟨fun b hb=>⟨(h.dom b (hdo b hb)).1,Nat.lt_of_lt_of_le (h.dom b (hdo b hb)).2 hf.size⟩,⟨by unfold dropOut;rw [hDr];rfl,blk_setCell w h.disp.2⟩,h.opn.keep (k _ (by simp [rDisp]) (fun x hx=>by omega)),h.cns.keep (k _ (by simp [rDisp]) (fun x hx=>by omega)),
  h.qus.keep (k _ (by simp [rDisp]) (fun x hx=>by omega)),h.run.keep (k _ (by simp [rDisp]) (fun x hx=>by omega)),h.rng.keep (k _ (by simp [rDisp]) (fun x hx=>by omega)),h.wai.keep (k _ (by simp [rDisp]) (fun x hx=>by omega)),h.lea.keep (k _ (by simp [rDisp]) (fun x hx=>by omega)),SlAt.nil⟩,
  ⟨hf.mono (fun x hx=>.inl (by rw [hx];unfold Of;rw [hDr];simp [rDisp])),fun b hb=>.inl (hdo b hb)⟩,?_⟩
 refine SlAt.of_blk h.out (fun b hb _=>blk_setCell_ne w (by rintro rfl;rw [hDr] at hb;simp [rDisp,rOut] at hb)) (fun b hb _=>?_)
 have hb:ρ b=rOut:=hb
 exact ⟨by unfold Of;rw [hb];simp [rOut],by unfold Of dropOut;rw [hb];simp [rOut,Role.none]⟩
theorem told_calls {w:World} {ρ:Nat→Role} {G D:Nat} {L:Lay} {r:Raw} (h:RRep w ρ G D L r):Calls Tryz.prog 44 #[vp D] w (ToldPost w ρ G D L r):=by
 have c14:=h.disp.c14
 have f14:=h.disp.frozen 14
 have HP:=Lib.hid (told_rep h)
 clear h
 go_enter Tryz.func44,Tryz.ntmps44
 go_wp2_with fail
 go_ret
 exact ⟨rfl,HP.out⟩
end Go.Proofs.YtaejfobbogahmabGreatDoor
namespace Go.Proofs.YtaejfobbogahmabGreatDoor
open Go Go.RowKit
theorem RRep.put_cn {w w':World} {ρ:Nat→Role} {G D:Nat} {L:Lay} {r:Raw} (h:RRep w ρ G D L r) {c:Int} {x y:Cn} (hx:aget r.conns c=some x) (hrest:y.rest=x.rest)
 (hC:w'.heap[L.cn c]?=some (.cells (cnCells (L.rest c) y) 94 (0,0))) (hf:Fr (fun b=>b=L.cn c) w w') :
 RRep w' ρ G D L {r with conns:=aset r.conns c y}∧Step ρ ρ w w':=by
 obtain ⟨h1,h2,h3,h4⟩:=h.cns
 obtain ⟨hrc,hblk,hsl⟩:=h4 c x (aget_mem hx)
 have k:∀T:Role→Prop,¬T (rCn c)→Keep T ρ ρ w w':=fun T hT=>Keep.of_fr hf (fun b _ hs ht=>by rw [hs,hrc] at ht;exact hT ht)
 refine ⟨⟨fun b hb=>⟨(h.dom b hb).1,Nat.lt_of_lt_of_le (h.dom b hb).2 hf.size⟩,h.disp.keep (k _ (by simp [rDisp,rCn])),h.opn.keep (k _ (by simp [rCn])),?_,h.qus.keep (k _ (by simp [rCn])),h.run.keep (k _ (by simp [rCn])),
  h.rng.keep (k _ (by simp [rCn])),h.wai.keep (k _ (by simp [rCn])),h.lea.keep (k _ (by simp [rCn])),h.out.keep (k _ (by simp [rCn]))⟩,
  ⟨hf.mono (fun b hb=>.inl (by rw [hb];unfold Of;rw [hrc];simp [rCn])),fun b hb=>.inl hb⟩⟩
 have hkeys:∀(l:List (Int×Cn)),aget l c=some x→amap (fun c _=>vp (L.cn c)) (aset l c y)=amap (fun c _=>vp (L.cn c)) l:=by
  intro l hl
  induction l with
  | nil=>cases hl
  | cons p l ih =>
    obtain ⟨a,z⟩:=p
    unfold aget at hl
    unfold aset
    by_cases e:a=c
    ·simp [e,amap]
    ·rw [if_neg e] at hl
     have:=ih hl
     simp only [if_neg e,amap,List.map_cons] at this ⊢
     rw [this]
 refine ⟨h1,?_,aset_nodup h3 _ _,?_⟩
 ·rw [hkeys r.conns hx]
  exact h2.of_blk (hf.block _ h2.lt (fun e=>by rw [e,hrc] at h1;simp [rCn,rMc] at h1))
 ·intro c' z hz
  by_cases e:c'=c
  ·subst e
   have hz':z=y:=by
    have h5:=aget_of_mem (aset_nodup h3 c' y) hz
    rw [aget_aset,if_pos rfl] at h5
    exact (Option.some.inj h5).symm
   subst hz'
   exact ⟨hrc,hC,by rw [hrest];exact hsl.keep (k _ (by simp [rCn,rRestB]))⟩
  ·have hz':(c',z)∈r.conns:=by
    rcases mem_aset hz with h5 | h5
    ·exact h5
    ·exact absurd h5.1 e
   obtain ⟨q1,q2,q3⟩:=h4 c' z hz'
   refine ⟨q1,(hf.block _ (blk_lt w q2) (fun e2=>?_)).trans q2,q3.keep (k _ (by simp [rCn,rRestB]))⟩
   rw [e2,hrc] at q1
   simp [rCn] at q1
   exact e q1.symm
end Go.Proofs.YtaejfobbogahmabGreatDoor
namespace Go.Proofs.YtaejfobbogahmabGreatDoor
open Go Go.RowKit
structure Lim (r:Raw):Prop where
 atts:r.atts.length≤1000000000000
 out:r.out.length≤1000000000000
theorem Step.env {ρ ρ':Nat→Role} {w w':World} {G D:Nat} {L:Lay} {r:Raw} (h:RRep w ρ G D L r) (hs:Step ρ ρ' w w') (hE:Env G w):Env G w':=
 hE.fr hs.fr (fun b hb=>(h.dom b hb).1)
theorem rBye_none {r:Raw} {c:Int} (h:aget r.conns c=none):rBye r c=r:=by unfold rBye;rw [h]
theorem rBye_not {r:Raw} {c:Int} {x:Cn} (h:aget r.conns c=some x) (hx:(x.drains&&!x.gone&&(rHeld r c).isEmpty)=false):rBye r c=r:=by unfold rBye;rw [h];simp only [hx];rfl
theorem rBye_yes {r:Raw} {c:Int} {x:Cn} (h:aget r.conns c=some x) (hx:(x.drains&&!x.gone&&(rHeld r c).isEmpty)=true):rBye r c=rSay {r with conns:=aset r.conns c {x with gone:=true}} c [[98,121,101]]:=by unfold rBye;rw [h];simp only [hx];rfl
theorem bye_none {w:World} {ρ:Nat→Role} {G D:Nat} {L:Lay} {r:Raw} (h:RRep w ρ G D L r) (c:Int) (hc:aget r.conns c=none):Calls Tryz.prog 89 #[vp D,vi c] w (OkPost true true true w ρ G D L (rBye r c)):=by
 have c7:=h.disp.c7
 have hl:=look_cn h.cns.2.1 c
 rw [aget_amap,hc] at hl
 simp only [Option.map_none,Option.getD_none] at hl
 have HP:Hid (St true true true w ρ G D L (rBye r c) w):=by rw [rBye_none hc];exact St.same h (Fr.refl _ w) _ _ _
 clear hc h
 go_enter Tryz.func89,Tryz.ntmps89
 go_wp2_with fail
 go_end0
 exact ⟨rfl,HP.out⟩
theorem bye_some {w:World} {ρ:Nat→Role} {G D:Nat} {L:Lay} {r:Raw} (h:RRep w ρ G D L r) (hE:Env G w) (hL:Lim r) (c:Int) {x:Cn} (hc:aget r.conns c=some x):Calls Tryz.prog 89 #[vp D,vi c] w (OkPost true true true w ρ G D L (rBye r c)):=by
 have c7:=h.disp.c7
 have hl:=look_cn h.cns.2.1 c
 rw [aget_amap,hc] at hl
 simp only [Option.map_some,Option.getD_some] at hl
 obtain ⟨hrc,hblk,hsl⟩:=h.cns.2.2.2 c x (aget_mem hc)
 have d1:w.cell? ⟨L.cn c,1,none⟩=some (.bool x.drains):=cell_of_blk hblk rfl
 have d2:w.cell? ⟨L.cn c,2,none⟩=some (.bool x.gone):=cell_of_blk hblk rfl
 have Hblk:=Lib.hid hblk
 have HH:=Lib.hid h
 have HE:=Lib.hid hE
 have Hc:=Lib.hid hc
 have HC:=Lib.hid (held_calls h c (by have:=hL.atts;omega))
 have HL:=Lib.hid hL
 obtain ⟨xr,xd,xg⟩:=x
 simp only at d1 d2
 clear hblk hrc hsl h hE hc hL
 cases xd with
 | false =>
   have HP:Hid (St true true true w ρ G D L (rBye r c) w):=by rw [rBye_not Hc.out rfl];exact St.same HH.out (Fr.refl _ w) _ _ _
   go_enter Tryz.func89,Tryz.ntmps89
   go_wp2_with fail
   go_end0
   exact ⟨rfl,HP.out⟩
 | true =>
   cases xg with
   | true =>
     have HP:Hid (St true true true w ρ G D L (rBye r c) w):=by rw [rBye_not Hc.out rfl];exact St.same HH.out (Fr.refl _ w) _ _ _
     go_enter Tryz.func89,Tryz.ntmps89
     go_wp2_with fail
     go_end0
     exact ⟨rfl,HP.out⟩
   | false =>
     go_enter Tryz.func89,Tryz.ntmps89
     go_wp2_with fail
     refine HC.out.mono ?_
     rintro e w1 ⟨v,rfl,h2,h3⟩
     obtain ⟨va,vc,hv1,hv2,hv3⟩:=h2.form'
     subst hv1
     have HB:=Lib.hid h3
     clear h2 h3
     unfold maxLen at hv3
     have HR1:=Lib.hid (HH.out.of_fr (Fr.of_below (S:=fun _=>False) HB.out) (fun _ f=>f.elim))
     have HS1:Hid (Step ρ ρ w w1):=⟨(Fr.of_below (S:=Of ρ) HB.out),fun b hb=>.inl hb⟩
     have HE1:=Lib.hid (HE.out.grow HB.out)
     obtain ⟨n,hn⟩:∃n,Hid ((rHeld r c).length=n):=⟨_,rfl⟩
     rw [hn.out] at hv2
     rw [hn.out]
     by_cases h0:n=0
     ·subst h0
      have hem:Hid ((rHeld r c).isEmpty=true):=show _=_ by rw [List.isEmpty_iff,List.length_eq_zero_iff.1 hn.out]
      have hblk1:w1.heap[L.cn c]?=some (.cells (cnCells (L.rest c) {rest:=xr,drains:=true,gone:=false}) 94 (0,0)):=(HB.out.block _ (blk_lt _ Hblk.out)).trans Hblk.out
      have e2:w1.cell? ⟨L.cn c,2,none⟩=some (.bool false):=cell_of_blk hblk1 rfl
      have f2:w1.frozen? ⟨L.cn c,2,none⟩=false:=frozen_of_blk hblk1
      obtain ⟨k1,k2⟩:=HR1.out.put_cn (w':=w1.setCell ⟨L.cn c,2,none⟩ (.bool true)) (y:={rest:=xr,drains:=true,gone:=true}) Hc.out rfl (blk_setCell w1 hblk1) ((Fr.refl _ w1).setCell _ _ (.inl rfl))
      have HE2:=Lib.hid (Step.env HR1.out k2 HE1.out)
      have HT2:=Lib.hid (HS1.out.trans k2)
      have HSY:=Lib.hid (say_calls (k1.alloc (.cells #[.iface 9 (vs (bs [98,121,101]))] 20)) (HE2.out.alloc _) c [Wd.str [98,121,101]] (by intro x hx;simp at hx;subst hx;show _≤_;decide) (by decide) (by have:=HL.out.out;show r.out.length≤_;omega)
       (B:=w1.heap.size) (cap:=1) (by simp) (by
        intro j x hx
        have hB:(w1.setCell ⟨L.cn c,2,none⟩ (.bool true)).heap.size=w1.heap.size:=by simp
        rw [←hB]
        refine cell_of_blk (blk_alloc_new _) ?_
        match j with
        | 0=>simp at hx;subst hx;rfl
        | j+1=>simp at hx))
      have HY:Hid (rBye r c=rSay {r with conns:=aset r.conns c {rest:=xr,drains:=true,gone:=true}} c [[98,121,101]]):=rBye_yes Hc.out (by rw [hem.out];rfl)
      have HT3:=Lib.hid (Step.trans HT2.out (show Step ρ ρ (w1.setCell ⟨L.cn c,2,none⟩ (.bool true)) ((w1.setCell ⟨L.cn c,2,none⟩ (.bool true)).alloc (.cells #[.iface 9 (vs (bs [98,121,101]))] 20)) from ⟨(Fr.refl _ _).alloc _,fun b hb=>.inl hb⟩))
      clear k1 k2 hblk1
      go_wp2_with fail
      refine HSY.out.mono ?_
      rintro e w2 ⟨rfl,hst⟩
      have HST:=Lib.hid (St.trans HT3.out (fun _=>rfl) (fun _=>rfl) (fun _=>rfl) hst)
      clear hst
      go_wp2_with fail
      go_end0
      exact ⟨rfl,by rw [HY.out];exact HST.out⟩
     ·have h1:((n:Int)==0)=false:=beq_eq_false_iff_ne.2 (by omega)
      have HP:Hid (St true true true w ρ G D L (rBye r c) w1):=by
       rw [rBye_not Hc.out (by
        have:(rHeld r c).isEmpty=false:=by
         cases hq:rHeld r c with
         | nil=>have:=hn.out;rw [hq] at this;simp at this;omega
         | cons a l=>rfl
        rw [this];rfl)]
       exact St.same HH.out (Fr.of_below HB.out) _ _ _
      clear h0
      go_wp2_with fail
      go_end0
      exact ⟨rfl,HP.out⟩
theorem bye_calls {w:World} {ρ:Nat→Role} {G D:Nat} {L:Lay} {r:Raw} (h:RRep w ρ G D L r) (hE:Env G w) (hL:Lim r) (c:Int):Calls Tryz.prog 89 #[vp D,vi c] w (OkPost true true true w ρ G D L (rBye r c)):=by
 cases hc:aget r.conns c with
 | none=>exact bye_none h c hc
 | some x=>exact bye_some h hE hL c hc
end Go.Proofs.YtaejfobbogahmabGreatDoor
