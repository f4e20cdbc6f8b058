/-
  Told Puts Bye: texts of their own, joined.
-/
import Derived.Test.YtaejfobbogahmaaGreatDoorMkSay
import Derived.Test.YtaejfobbogahmaaGreatDoorMkPut2
set_option maxRecDepth 100000
set_option maxHeartbeats 16000000
set_option linter.all false
namespace Go.Proofs.YtaejfobbogahmaaGreatDoor
open Go Go.RowKit
def xq (ρ:Nat→Role):Nat→Role:=fun b=>if (ρ b).tag=12 then Role.none else ρ b
def zLb (w:World) (ρ:Nat→Role) (G D:Nat) (L:Lay) (r:Raw) (e:Ending) (w':World):Prop:=
 e=.returned L.out∧RRep w' (xq ρ) G D {L with out:=.slice none 0 0} {r with out:=[]}∧Step ρ (xq ρ) w w' ∧
  SlAt w' 59 2 (fun b=>Of ρ b∧¬Of (xq ρ) b) L.out r.out.length (yv r.out)
theorem zLc {w:World} {ρ:Nat→Role} {G D:Nat} {L:Lay} {r:Raw} (h:RRep w ρ G D L r) :
 RRep (w.setCell ⟨D,14,none⟩ (.slice none 0 0)) (xq ρ) G D {L with out:=.slice none 0 0} {r with out:=[]}∧Step ρ (xq ρ) w (w.setCell ⟨D,14,none⟩ (.slice none 0 0)) ∧
 SlAt (w.setCell ⟨D,14,none⟩ (.slice none 0 0)) 59 2 (fun b=>Of ρ b∧¬Of (xq ρ) b) L.out r.out.length (yv r.out):=by
 have hDr:=h.disp.1
 have hf:Fr (fun b=>b=D) w (w.setCell ⟨D,14,none⟩ (.slice none 0 0)):=(Fr.refl _ w).setCell _ _ (.inl rfl)
 have hdo:∀b,(xq ρ b).tag≠0→(ρ b).tag≠0:=fun b hb=>by
  unfold xq at hb
  split at hb
  ·exact absurd rfl hb
  ·exact hb
 have k:∀T:Role→Prop,¬T zC→(∀x,T x→x.tag≠12)→Keep T ρ (xq ρ) w (w.setCell ⟨D,14,none⟩ (.slice none 0 0)):=fun T h1 h2 b hb ht =>
  ⟨hf.block b hb (fun e=>by rw [e,hDr] at ht;exact h1 ht),by unfold xq;rw [if_neg (h2 _ ht)]⟩
 refine ⟨⟨fun b hb=>⟨(h.dom b (hdo b hb)).1,Nat.lt_of_lt_of_le (h.dom b (hdo b hb)).2 hf.size⟩,⟨by unfold xq;rw [hDr];rfl,zO w h.disp.2⟩,h.opn.keep (k _ (by simp [zC]) (fun x hx=>by omega)),h.cns.keep (k _ (by simp [zC]) (fun x hx=>by omega)),
  h.qus.keep (k _ (by simp [zC]) (fun x hx=>by omega)),h.run.keep (k _ (by simp [zC]) (fun x hx=>by omega)),h.rng.keep (k _ (by simp [zC]) (fun x hx=>by omega)),h.wai.keep (k _ (by simp [zC]) (fun x hx=>by omega)),h.lea.keep (k _ (by simp [zC]) (fun x hx=>by omega)),SlAt.nil⟩,
  ⟨hf.mono (fun x hx=>.inl (by rw [hx];unfold Of;rw [hDr];simp [zC])),fun b hb=>.inl (hdo b hb)⟩,?_⟩
 refine SlAt.of_blk h.out (fun b hb _=>zG w (by rintro rfl;rw [hDr] at hb;simp [zC,rOut] at hb)) (fun b hb _=>?_)
 have hb:ρ b=rOut:=hb
 exact ⟨by unfold Of;rw [hb];simp [rOut],by unfold Of xq;rw [hb];simp [rOut,Role.none]⟩
theorem zLd {w:World} {ρ:Nat→Role} {G D:Nat} {L:Lay} {r:Raw} (h:RRep w ρ G D L r):Calls Tryz.prog 41 #[vp D] w (zLb w ρ G D L r):=by
 have c14:=h.disp.c14
 have f14:=h.disp.frozen 14
 have HP:=zh (zLc h)
 clear h
 go_enter Tryz.func41,Tryz.ntmps41
 go_wp2_with fail
 go_ret
 exact ⟨rfl,HP.out⟩
theorem RRep.put_cn {w w':World} {ρ:Nat→Role} {G D:Nat} {L:Lay} {r:Raw} (h:RRep w ρ G D L r) {c:Int} {x y:Cn} (hx:aget r.conns c=some x) (hrest:y.rest=x.rest)
 (hC:w'.heap[L.cn c]?=some (.cells (zDk (L.rest c) y) 87 (0,0))) (hf:Fr (fun b=>b=L.cn c) w w') :
 RRep w' ρ G D L {r with conns:=aset r.conns c y}∧Step ρ ρ w w':=by
 obtain ⟨h1,h2,h3,h4⟩:=h.cns
 obtain ⟨hrc,hblk,hsl⟩:=h4 c x (yQ hx)
 have k:∀T:Role→Prop,¬T (rCn c)→Keep T ρ ρ w w':=fun T hT=>Keep.of_fr hf (fun b _ hs ht=>by rw [hs,hrc] at ht;exact hT ht)
 refine ⟨⟨fun b hb=>⟨(h.dom b hb).1,Nat.lt_of_lt_of_le (h.dom b hb).2 hf.size⟩,h.disp.keep (k _ (by simp [zC,rCn])),h.opn.keep (k _ (by simp [rCn])),?_,h.qus.keep (k _ (by simp [rCn])),h.run.keep (k _ (by simp [rCn])),
  h.rng.keep (k _ (by simp [rCn])),h.wai.keep (k _ (by simp [rCn])),h.lea.keep (k _ (by simp [rCn])),h.out.keep (k _ (by simp [rCn]))⟩,
  ⟨hf.mono (fun b hb=>.inl (by rw [hb];unfold Of;rw [hrc];simp [rCn])),fun b hb=>.inl hb⟩⟩
 have hkeys:∀(l:List (Int×Cn)),aget l c=some x→amap (fun c _=>vp (L.cn c)) (aset l c y)=amap (fun c _=>vp (L.cn c)) l:=by
  intro l hl
  induction l with
  | nil=>cases hl
  | cons p l ih =>
    obtain ⟨a,z⟩:=p
    unfold aget at hl
    unfold aset
    by_cases e:a=c
    ·simp [e,amap]
    ·rw [if_neg e] at hl
     have:=ih hl
     simp only [if_neg e,amap,List.map_cons] at this ⊢
     rw [this]
 refine ⟨h1,?_,zw h3 _ _,?_⟩
 ·rw [hkeys r.conns hx]
  exact h2.of_blk (hf.block _ h2.lt (fun e=>by rw [e,hrc] at h1;simp [rCn,rMc] at h1))
 ·intro c' z hz
  by_cases e:c'=c
  ·subst e
   have hz':z=y:=by
    have h5:=xA (zw h3 c' y) hz
    rw [zV,if_pos rfl] at h5
    exact (Option.some.inj h5).symm
   subst hz'
   exact ⟨hrc,hC,by rw [hrest];exact hsl.keep (k _ (by simp [rCn,zq]))⟩
  ·have hz':(c',z)∈r.conns:=by
    rcases zAR hz with h5 | h5
    ·exact h5
    ·exact absurd h5.1 e
   obtain ⟨q1,q2,q3⟩:=h4 c' z hz'
   refine ⟨q1,(hf.block _ (zD w q2) (fun e2=>?_)).trans q2,q3.keep (k _ (by simp [rCn,zq]))⟩
   rw [e2,hrc] at q1
   simp [rCn] at q1
   exact e q1.symm
structure Lim (r:Raw):Prop where
 atts:r.atts.length≤1000000000000
 out:r.out.length≤1000000000000
theorem Step.env {ρ ρ':Nat→Role} {w w':World} {G D:Nat} {L:Lay} {r:Raw} (h:RRep w ρ G D L r) (hs:Step ρ ρ' w w') (hE:Env G w):Env G w':=
 hE.fr hs.fr (fun b hb=>(h.dom b hb).1)
theorem zLe {r:Raw} {c:Int} (h:aget r.conns c=none):rBye r c=r:=by unfold rBye;rw [h]
theorem zEK {r:Raw} {c:Int} {x:Cn} (h:aget r.conns c=some x) (hx:(x.drains&&!x.gone&&(yT r c).isEmpty)=false):rBye r c=r:=by unfold rBye;rw [h];simp only [hx];rfl
theorem zLf {r:Raw} {c:Int} {x:Cn} (h:aget r.conns c=some x) (hx:(x.drains&&!x.gone&&(yT r c).isEmpty)=true):rBye r c=rSay {r with conns:=aset r.conns c {x with gone:=true}} c [[98,121,101]]:=by unfold rBye;rw [h];simp only [hx];rfl
theorem zLg {w:World} {ρ:Nat→Role} {G D:Nat} {L:Lay} {r:Raw} (h:RRep w ρ G D L r) (c:Int) (hc:aget r.conns c=none):Calls Tryz.prog 72 #[vp D,vi c] w (xp true true true w ρ G D L (rBye r c)):=by
 have c7:=h.disp.c7
 have hl:=zCc h.cns.2.1 c
 rw [zy,hc] at hl
 simp only [Option.map_none,Option.getD_none] at hl
 have HP:Hid (St true true true w ρ G D L (rBye r c) w):=by rw [zLe hc];exact St.same h (Fr.refl _ w) _ _ _
 clear hc h
 go_enter Tryz.func72,Tryz.ntmps72
 go_wp2_with fail
 go_end0
 exact ⟨rfl,HP.out⟩
theorem zLh {w:World} {ρ:Nat→Role} {G D:Nat} {L:Lay} {r:Raw} (h:RRep w ρ G D L r) (hE:Env G w) (hL:Lim r) (c:Int) {x:Cn} (hc:aget r.conns c=some x):Calls Tryz.prog 72 #[vp D,vi c] w (xp true true true w ρ G D L (rBye r c)):=by
 have c7:=h.disp.c7
 have hl:=zCc h.cns.2.1 c
 rw [zy,hc] at hl
 simp only [Option.map_some,Option.getD_some] at hl
 obtain ⟨hrc,hblk,hsl⟩:=h.cns.2.2.2 c x (yQ hc)
 have d1:w.cell? ⟨L.cn c,1,none⟩=some (.bool x.drains):=zB hblk rfl
 have d2:w.cell? ⟨L.cn c,2,none⟩=some (.bool x.gone):=zB hblk rfl
 have Hblk:=zh hblk
 have HH:=zh h
 have HE:=zh hE
 have Hc:=zh hc
 have HC:=zh (zDx h c (by have:=hL.atts;omega))
 have HL:=zh hL
 obtain ⟨xr,xd,xg⟩:=x
 simp only at d1 d2
 clear hblk hrc hsl h hE hc hL
 cases xd with
 | false =>
   have HP:Hid (St true true true w ρ G D L (rBye r c) w):=by rw [zEK Hc.out rfl];exact St.same HH.out (Fr.refl _ w) _ _ _
   go_enter Tryz.func72,Tryz.ntmps72
   go_wp2_with fail
   go_end0
   exact ⟨rfl,HP.out⟩
 | true =>
   cases xg with
   | true =>
     have HP:Hid (St true true true w ρ G D L (rBye r c) w):=by rw [zEK Hc.out rfl];exact St.same HH.out (Fr.refl _ w) _ _ _
     go_enter Tryz.func72,Tryz.ntmps72
     go_wp2_with fail
     go_end0
     exact ⟨rfl,HP.out⟩
   | false =>
     go_enter Tryz.func72,Tryz.ntmps72
     go_wp2_with fail
     refine HC.out.mono ?_
     rintro e w1 ⟨v,rfl,h2,h3⟩
     obtain ⟨va,vc,hv1,hv2,hv3⟩:=h2.form'
     subst hv1
     have HB:=zh h3
     clear h2 h3
     unfold maxLen at hv3
     have HR1:=zh (HH.out.of_fr (Fr.of_below (S:=fun _=>False) HB.out) (fun _ f=>f.elim))
     have HS1:Hid (Step ρ ρ w w1):=⟨(Fr.of_below (S:=Of ρ) HB.out),fun b hb=>.inl hb⟩
     have HE1:=zh (HE.out.grow HB.out)
     obtain ⟨n,hn⟩:∃n,Hid ((yT r c).length=n):=⟨_,rfl⟩
     rw [hn.out] at hv2
     rw [hn.out]
     by_cases h0:n=0
     ·subst h0
      have hem:Hid ((yT r c).isEmpty=true):=show _=_ by rw [List.isEmpty_iff,List.length_eq_zero_iff.1 hn.out]
      have hblk1:w1.heap[L.cn c]?=some (.cells (zDk (L.rest c) {rest:=xr,drains:=true,gone:=false}) 87 (0,0)):=(HB.out.block _ (zD _ Hblk.out)).trans Hblk.out
      have e2:w1.cell? ⟨L.cn c,2,none⟩=some (.bool false):=zB hblk1 rfl
      have f2:w1.frozen? ⟨L.cn c,2,none⟩=false:=zK hblk1
      obtain ⟨k1,k2⟩:=HR1.out.put_cn (w':=w1.setCell ⟨L.cn c,2,none⟩ (.bool true)) (y:={rest:=xr,drains:=true,gone:=true}) Hc.out rfl (zO w1 hblk1) ((Fr.refl _ w1).setCell _ _ (.inl rfl))
      have HE2:=zh (Step.env HR1.out k2 HE1.out)
      have HT2:=zh (HS1.out.trans k2)
      have HSY:=zh (zAc (k1.alloc (.cells #[.iface 9 (vs (bs [98,121,101]))] 20)) (HE2.out.alloc _) c [Wd.str [98,121,101]] (by intro x hx;simp at hx;subst hx;show _≤_;decide) (by decide) (by have:=HL.out.out;show r.out.length≤_;omega)
       (B:=w1.heap.size) (cap:=1) (by simp) (by
        intro j x hx
        have hB:(w1.setCell ⟨L.cn c,2,none⟩ (.bool true)).heap.size=w1.heap.size:=by simp
        rw [←hB]
        refine zB (zP _) ?_
        match j with
        | 0=>simp at hx;subst hx;rfl
        | j+1=>simp at hx))
      have HY:Hid (rBye r c=rSay {r with conns:=aset r.conns c {rest:=xr,drains:=true,gone:=true}} c [[98,121,101]]):=zLf Hc.out (by rw [hem.out];rfl)
      have HT3:=zh (Step.trans HT2.out (show Step ρ ρ (w1.setCell ⟨L.cn c,2,none⟩ (.bool true)) ((w1.setCell ⟨L.cn c,2,none⟩ (.bool true)).alloc (.cells #[.iface 9 (vs (bs [98,121,101]))] 20)) from ⟨(Fr.refl _ _).alloc _,fun b hb=>.inl hb⟩))
      clear k1 k2 hblk1
      go_wp2_with fail
      refine HSY.out.mono ?_
      rintro e w2 ⟨rfl,hst⟩
      have HST:=zh (St.trans HT3.out (fun _=>rfl) (fun _=>rfl) (fun _=>rfl) hst)
      clear hst
      go_wp2_with fail
      go_end0
      exact ⟨rfl,by rw [HY.out];exact HST.out⟩
     ·have h1:((n:Int)==0)=false:=beq_eq_false_iff_ne.2 (by omega)
      have HP:Hid (St true true true w ρ G D L (rBye r c) w1):=by
       rw [zEK Hc.out (by
        have:(yT r c).isEmpty=false:=by
         cases hq:yT r c with
         | nil=>have:=hn.out;rw [hq] at this;simp at this;omega
         | cons a l=>rfl
        rw [this];rfl)]
       exact St.same HH.out (Fr.of_below HB.out) _ _ _
      clear h0
      go_wp2_with fail
      go_end0
      exact ⟨rfl,HP.out⟩
theorem zGu {w:World} {ρ:Nat→Role} {G D:Nat} {L:Lay} {r:Raw} (h:RRep w ρ G D L r) (hE:Env G w) (hL:Lim r) (c:Int):Calls Tryz.prog 72 #[vp D,vi c] w (xp true true true w ρ G D L (rBye r c)):=by
 cases hc:aget r.conns c with
 | none=>exact zLg h c hc
 | some x=>exact zLh h hE hL c hc
end Go.Proofs.YtaejfobbogahmaaGreatDoor
