/-
  Once: texts of their own, joined.
-/
import Derived.Test.YtaejfobbogahmaaGreatDoorMkOnceS
import Derived.Deep.CutBlock
set_option maxRecDepth 100000
set_option maxHeartbeats 16000000
set_option linter.all false
namespace Go.Proofs.YtaejfobbogahmaaGreatDoor
open Go Go.RowKit
def zCL (w:World) (ta:Option Addr) (tl:List zA):Prop:=∀j t,tl[j]?=some t→∃b o,ta=some ⟨b,o,none⟩∧w.cell? ⟨b,o+j,none⟩=some (vs (bs t))
theorem zCL.below {w w':World} {ta:Option Addr} {tl:List zA} (h:zCL w ta tl) (hb:Below w.heap.size w w'):zCL w' ta tl:=fun j t hj=>by
 obtain ⟨b,o,h1,h2⟩:=h j t hj
 exact ⟨b,o,h1,xu hb h2⟩
def zBa:Cfg:=⟨3,1,2,3,2⟩
def zDL:zA:=[115,117,98,32,57,57,57,57,57,57,32,97,32,97]
def oAcc:zA:=[97,99,99,32,57,57,57,57,57,57]
def oId:zA:=[57,57,57,57,57,57]
def zBb:Raw:=xe (yN (rNew zBa) 9 (yZ zDL))
theorem zOI:(yN (rNew zBa) 9 (yZ zDL)).out=yy [(9,oAcc)]:=by decide +kernel
theorem zOJ:opn zBb=[(999999,9)]:=by decide +kernel
theorem zOK:(opn zBb).map yP=[(oId,9)]:=by decide +kernel
theorem zHu:yS 0 0 (rNew zBa):=⟨Inv.init rfl,Few.init _,fun p hp=>(by cases hp),fun p hp=>(by cases hp),rfl⟩
theorem zOL:yS 1 4 zBb:=(zHu.fed (c:=9) (by decide) (s:=zDL) (by decide)).1
theorem zOM:Ids (opn zBb):=by rw [zOJ];unfold Ids;simp
theorem zON {w:World} {b n:Nat} {l:List Int} {cs:Array Value} (h:w.heap[b]?=some (.cells cs 3 (0,0))) (hc:cs=(l.map encI).toArray) (hn:l.length=n) (h0:0 < n) (h1:n≤1000):zCE w (.slice (some ⟨b,0,none⟩) n n) l:=by
 subst hc;subst hn
 exact .inr ⟨b,0,l.length,_,rfl,trivial,h,Nat.le_refl _,by unfold maxLen;omega,by simp,by simp,fun j v hj=>by simpa using hj⟩
theorem zOO {w:World} {b n:Nat} {l:List zA} {cs:Array Value} (h:w.heap[b]?=some (.cells cs 9 (0,0))) (hc:cs=(l.map fun s=>vs (bs s)).toArray) (hn:l.length=n) (h0:0 < n) (h1:n≤1000):zCF w (.slice (some ⟨b,0,none⟩) n n) l:=by
 subst hc;subst hn
 exact .inr ⟨b,0,l.length,_,rfl,trivial,h,Nat.le_refl _,by unfold maxLen;omega,by simp,by simp,fun j v hj=>by simpa using hj⟩
theorem zOP {w:World} {v:Value} {E:Nat→Prop} {c:Int} {s:zA} (h:SlAt w 59 2 E v 1 (yv (yy [(c,s)]))) (hl:s.length≤1000) :
 Calls Tryz.prog 21 #[v,.slice (some ⟨w.heap.size,0,none⟩) 1 1,.slice (some ⟨w.heap.size+1,0,none⟩) 1 1] ((w.alloc (.cells #[vi c] 3)).alloc (.cells #[vs (bs s)] 9))
  fun e w'=>e=.returned (.bool true)∧Below w.heap.size w w':=by
 have ho:zBD w v [(c,s)]:=h.of_blk (fun _ _ _=>rfl) (fun _ _ _=>trivial)
 have hb:Below w.heap.size w ((w.alloc (.cells #[vi c] 3)).alloc (.cells #[vs (bs s)] 9)):=zBF (zBF (Below.refl _ _))
 refine (zMg [(c,s)] (ho.below hb) (zON (l:=[c]) ((zM _ (zD _ (zP w))).trans (zP w)) rfl rfl (by simp) (by simp))
  (zOO (l:=[s]) (by have:=zP (w.alloc (.cells #[vi c] 3)) (o:=.cells #[vs (bs s)] 9);rw [World.size_alloc] at this;exact this) rfl rfl (by simp) (by simp)) (fun p hp=>by rw [List.mem_singleton] at hp;subst hp;show s.length≤1000000;omega)).mono ?_
 rintro e w1 ⟨rfl,b⟩
 exact ⟨rfl,Below.trans hb (b.mono hb.size)⟩
theorem zOQ {G:Nat} {w:World} (hE:Env G w) (hG:G≤w.heap.size) (ta:Option Addr) (tc:Nat) (tl:List zA) (cs:zA) (htl:zCL w ta tl) (h1:tl.length≤140737488351232) (h2:∀t∈tl,t.length≤140737488351232) (h3:cs.length≤140737488351232) :
 Calls Tryz.prog 13 #[.slice ta tl.length tc,vs (bs cs)] w fun e w'=>e=.returned (.bool true)∧Below w.heap.size w w':=by
 have HE:=zh hE
 have HG:=zh hG
 have HTL:=zh htl
 have H2:=zh h2
 have hcz:(bs cs).size=cs.length:=yX _
 obtain ⟨n,hn⟩:∃n,tl.length=n:=⟨_,rfl⟩
 have HN:=zh hn
 rw [hn] at h1 ⊢
 by_cases hbig:4096 < n
 ·have hd:decide ((n:Int) > 4096)=true:=decide_eq_true (by omega)
  clear hn h2 htl hE hG
  go_enter Tryz.func13,Tryz.ntmps13
  go_wp2_with fail
  go_ret
  exact ⟨rfl,Below.refl _ _⟩
 ·have hd:decide ((n:Int) > 4096)=false:=decide_eq_false (by omega)
  have hd2:¬(4096:Int) < (n:Int):=by omega
  clear hn h2 htl hE hG
  go_enter Tryz.func13,Tryz.ntmps13
  go_upto_block 0 with fail
  go_cut [] from 31 to 44 (fun wx=>Hid (∀t∈tl,(10:UInt8)∉t)∧wx=w)
  case first =>
   go_wp2_with fail
   go_loopw [30] (fun s30 wx=>∃k:Nat,s30=vi k∧k≤n∧Hid (∀t∈tl.take k,(10:UInt8)∉t)∧wx=w) (fun s30 _=>n - (intOf s30).toNat)
   case atStart=>exact ⟨0,by go_num,Nat.zero_le _,(fun t h=>by simp at h),rfl⟩
   case round =>
    obtain ⟨k,rfl,hk,HK,rfl⟩:=hrel
    by_cases hkl:k < n
    ·have hlt:decide ((k:Int) < (n:Int))=true:=decide_eq_true (by omega)
     obtain ⟨t,hkt⟩:∃t,tl[k]?=some t:=⟨_,List.getElem?_eq_getElem (by rw [HN.out];exact hkl)⟩
     obtain ⟨b,o,hta,hct⟩:=HTL.out k t hkt
     subst hta
     have htl2:=H2.out t (List.mem_of_getElem? hkt)
     have hzt:(bs t).size=t.length:=yX _
     have hk0:(0:Int)≤(k:Int):=by omega
     have hk1:(k:Int) < (n:Int):=by omega
     have HKT:=zh hkt
     clear hkt
     obtain ⟨wo,rfl⟩:∃wo,wo=wr:=⟨_,rfl⟩
     go_wp2_with fail
     go_loopw [7] (fun s7 wx=>∃j:Nat,s7=vi j∧j≤t.length∧Hid ((10:UInt8)∉t.take j)∧wx=wo) (fun s7 _=>t.length - (intOf s7).toNat)
     case atStart=>exact ⟨0,by go_num,Nat.zero_le _,(show _∉_ by simp),rfl⟩
     case round =>
      obtain ⟨j,rfl,hj,HJ,rfl⟩:=hrel
      by_cases hjl:j < t.length
      ·have hjlt:decide ((j:Int) < (t.length:Int))=true:=decide_eq_true (by omega)
       obtain ⟨c,hjc⟩:∃c,t[j]?=some c:=⟨_,List.getElem?_eq_getElem hjl⟩
       have hjz:j < (bs t).size:=by rw [hzt];exact hjl
       have hget:(bs t)[j]'hjz=c:=zEo hjc
       have hj0:(0:Int)≤(j:Int):=by omega
       have hj1:(j:Int) < (t.length:Int):=by omega
       have HJC:=zh hjc
       clear hjc
       by_cases hc:c=10
       ·subst hc
        go_wp2_with fail
        go_ret
        exact ⟨rfl,Below.refl _ _⟩
       ·have hcb:(c==10)=false:=by simp [hc]
        have hc1:c.toNat≠10:=fun h=>hc (UInt8.toNat_inj.1 (by simpa using h))
        have hc3:((c.toNat:Int)==10)=false:=beq_eq_false_iff_ne.2 (by omega)
        go_wp2_with fail
        go_roundw
        case rel=>exact ⟨j+1,by go_num,by omega,(show _∉_ by rw [zEq HJC.out,List.mem_append,not_or];exact ⟨HJ.out,by simp;exact fun h=>hc h.symm⟩),trivial⟩
        case measure=>simp [intOf];omega
      ·obtain rfl:j=t.length:=by omega
       have hjlt:decide ((t.length:Int) < (t.length:Int))=false:=by simp
       have HT10:Hid ((10:UInt8)∉t):=show _∉_ by have:=HJ.out;rwa [List.take_length] at this
       go_wp2_with fail
       go_roundw
       case rel=>exact ⟨k+1,by go_num,by omega,(fun x hx=>by
        rw [List.take_add_one,HKT.out] at hx
        rcases List.mem_append.1 hx with hx | hx
        ·exact HK.out x hx
        ·simp at hx;subst hx;exact HT10.out),trivial⟩
       case measure=>simp [intOf];omega
    ·obtain rfl:k=n:=by omega
     have hlt:decide ((k:Int) < (k:Int))=false:=by simp
     go_wp2_with fail
     go_meet
     case rel=>exact ⟨(show ∀t∈tl,_ by have:=HK.out;rwa [←HN.out,List.take_length] at this),rfl⟩
  case rest =>
  obtain ⟨H10,rfl⟩:=hcut
  have HC5:=zh (show zAN zBa=#[vi 3,vi 1,vi 2,vi 3,vi 2] from rfl)
  have hbg:=zMh HE.out HG.out zBa rfl (w0:=wc) (Below.refl _ _)
  rw [HC5.out] at hbg
  have HBG:=zh hbg
  clear hbg
  go_wp2_with fail
  refine HBG.out.mono ?_
  rintro e w1 ⟨D,V,rfl,hk1,_⟩
  have HK1:Hid (KP G wc D V (fun _=>False) (rNew zBa) w1):=KP.ofK hk1
  have HS1:=zh (zHm HG.out HK1.out zHu 9 (s:=zDL) (by decide) (by decide) (by unfold NB;omega) (by unfold NB;omega) (x:=[(9,oAcc)]) zOI)
  clear hk1 HBG
  go_wp2_with fail
  refine HS1.out.mono ?_
  rintro e w3 ⟨v3,rfl,hk3,ho3,_⟩
  have HK3:Hid (KP G wc D V (fun _=>False) zBb w3):=hk3
  have HO3:=zh ho3
  clear hk3 ho3 HS1 HK1
  go_wp2_with fail
  refine (zOP HO3.out (by decide)).mono ?_
  rintro e w4 ⟨rfl,hb4⟩
  have HA4:=zh (OAt.start HG.out (HK3.out.grow hb4) oId 9)
  rw [←zOK] at HA4
  clear hb4 HK3 HO3
  go_wp2_with fail
  obtain ⟨bw,hbw⟩:∃bw,w4.heap.size+1+1+1=bw:=⟨_,rfl⟩
  obtain ⟨bo,hbo⟩:∃bo,w4.heap.size+1=bo:=⟨_,rfl⟩
  have HBO:=zh (And.intro hbo hbw)
  rw [hbw,hbo]
  clear hbo hbw
  go_loopw [64] (fun s64 wx=>∃(k:Nat) (r:Raw) (A B:Nat→Prop),s64=vi k∧k≤n∧Hid (yS (1+k) (4+4*k) r)∧Hid (Ids (opn r))∧Hid (OAt G wc D V bo bw r ((opn r).map yP) A B wx)) (fun s64 _=>n - (intOf s64).toNat)
  case atStart =>
   obtain ⟨e1,e2⟩:=HBO.out
   subst e1;subst e2
   exact ⟨0,zBb,_,_,by go_num,Nat.zero_le _,zOL,zOM,HA4.out⟩
  case round =>
   obtain ⟨k,r,A,B,rfl,hk,HI,HIDS,HO⟩:=hrel
   clear HA4
   obtain ⟨w0,hw0⟩:∃w0,w0=wc:=⟨_,rfl⟩
   subst hw0
   obtain ⟨wo,rfl⟩:∃wo,wo=wr:=⟨_,rfl⟩
   by_cases hkl:k < n
   ·have hlt:decide ((k:Int) < (n:Int))=true:=decide_eq_true (by omega)
    obtain ⟨t,hkt⟩:∃t,tl[k]?=some t:=⟨_,List.getElem?_eq_getElem (by rw [HN.out];exact hkl)⟩
    obtain ⟨b,o,hta,hct⟩:=HTL.out.below HO.out.kp.below k t hkt
    subst hta
    have htl2:=zh (H2.out t (List.mem_of_getElem? hkt))
    have HT10:Hid ((10:UInt8)∉t):=H10.out t (List.mem_of_getElem? hkt)
    have hk0:(0:Int)≤(k:Int):=by omega
    have hk1:(k:Int) < (n:Int):=by omega
    clear hkt
    go_upto_if 73 with (fail)
    go_cut [14] from 74 to 77 (fun s14 wx=>(∃tv:Nat,s14=vi tv∧tv≤5000)∧wx=wo)
    case first =>
     by_cases hkc:k < cs.length
     ·have hb1:decide ((k:Int) < (cs.length:Int))=true:=decide_eq_true (by omega)
      have hb2:decide (k < cs.length)=true:=decide_eq_true hkc
      obtain ⟨c,hc⟩:∃c,cs[k]?=some c:=⟨_,List.getElem?_eq_getElem hkc⟩
      have hkz:k < (bs cs).size:=by rw [hcz];exact hkc
      have hget:(bs cs)[k]'hkz=c:=zEo hc
      have hkc1:(k:Int) < (cs.length:Int):=by omega
      have hct2:=c.toNat_lt
      have hwb:IntKind.i64.wrap (c.toNat:Int)=(c.toNat:Int):=IntWalk.i64_in _ (by omega)
      clear hc
      go_wp2_with fail
      go_meet
      case rel=>exact ⟨⟨c.toNat,rfl,by omega⟩,rfl⟩
     ·have hb1:decide ((k:Int) < (cs.length:Int))=false:=decide_eq_false (by omega)
      have hb2:decide (k < cs.length)=false:=decide_eq_false hkc
      go_wp2_with fail
      go_meet
      case rel=>exact ⟨⟨k,rfl,by omega⟩,rfl⟩
    case rest =>
    obtain ⟨⟨tv,rfl,htv⟩,rfl⟩:=hcut
    obtain ⟨wo,rfl⟩:∃wo,wo=wc:=⟨_,rfl⟩
    obtain ⟨c,hc⟩:∃c:Nat,tv % 4=c:=⟨_,rfl⟩
    have h4:(tv:Int).tmod 4=(c:Int):=by rw [←hc];exact (Int.ofNat_tmod tv 4).symm ▸ rfl
    have cV:wo.cell? ⟨V,0,none⟩=some (vp D):=zB HO.out.kp.box rfl
    have HSAY:=zh (zOA HG.out HO.out HI.out HIDS.out (c:=c) (by omega) HT10.out htl2.out (by unfold NB;omega) (by unfold NB;omega))
    have HTICK:=zh (zOB HG.out HO.out HI.out HIDS.out t (by unfold NB;omega) (by unfold NB;omega))
    have HCLOSE:=zh (zOC HG.out HO.out HI.out c t (by unfold NB;omega) (by unfold NB;omega))
    clear hc
    go_upto_block 6 with fail
    go_cut [16,17] from 84 to 103 (fun s16 s17 wx=>∃(v:Value) (cl:Int),s16=v∧s17=vi cl∧Hid (zDK G w0 D V bo bw A B (1+k) (4+4*k) (opn r) ((opn r).map yP) t v cl wx))
    case first =>
     by_cases e16:tv % 16=15
     ·have h16:(tv:Int).tmod 16=15:=by rw [show (15:Int)=((15:Nat):Int) from rfl,←e16];exact (Int.ofNat_tmod tv 16).symm ▸ rfl
      go_wp2_with fail
      refine HCLOSE.out.mono ?_
      rintro e w5 ⟨v,rfl,hst⟩
      have HST:=zh hst
      clear hst
      go_wp2_with fail
      go_meet
      case rel=>exact ⟨v,c,rfl,rfl,HST.out⟩
     ·obtain ⟨q,hq⟩:∃q:Nat,tv % 16=q:=⟨_,rfl⟩
      have h16:(tv:Int).tmod 16=(q:Int):=by rw [←hq];exact (Int.ofNat_tmod tv 16).symm ▸ rfl
      have hq15:((q:Int)==15)=false:=beq_eq_false_iff_ne.2 (by omega)
      clear hq e16
      by_cases e8:tv % 8=7
      ·have h8:(tv:Int).tmod 8=7:=by rw [show (7:Int)=((7:Nat):Int) from rfl,←e8];exact (Int.ofNat_tmod tv 8).symm ▸ rfl
       go_wp2_with fail
       refine HTICK.out.mono ?_
       rintro e w5 ⟨v,rfl,hst⟩
       have HST:=zh hst
       clear hst
       go_wp2_with fail
       go_meet
       case rel=>exact ⟨v,-1,rfl,rfl,HST.out⟩
      ·obtain ⟨p,hp⟩:∃p:Nat,tv % 8=p:=⟨_,rfl⟩
       have h8:(tv:Int).tmod 8=(p:Int):=by rw [←hp];exact (Int.ofNat_tmod tv 8).symm ▸ rfl
       have hp7:((p:Int)==7)=false:=beq_eq_false_iff_ne.2 (by omega)
       clear hp e8
       go_wp2_with fail
       refine HSAY.out.mono ?_
       rintro e w5 ⟨v,rfl,hst⟩
       have HST:=zh hst
       clear hst
       go_wp2_with fail
       go_meet
       case rel=>exact ⟨v,-1,rfl,rfl,HST.out⟩
    case rest =>
    obtain ⟨v,cl,rfl,rfl,HSD⟩:=hcut
    clear HSAY HTICK HCLOSE h4 htv cV hct
    obtain ⟨r',l,tt,hI',hO',hOut,hT,hSo,hL,hx,hcl⟩:=HSD.out
    have HI':=zh hI'
    have HO':=zh hO'
    have HOut:=zh hOut
    have HT:=zh hT
    have HSo:=zh hSo
    have HL:=zh hL
    have HX:=zh hx
    have HRE:=zh (RepE.marks HIDS.out hcl)
    have HEN:Hid (((opn r).map yP).length≤1+k):=show _≤_ by
     rw [List.length_map];unfold opn opq amap;rw [List.length_map,List.length_map];exact HI.out.inv.n.reqs
    clear HSD hI' hO' hOut hT hSo hL hx hcl HO HI HIDS
    generalize (opn r).map yP=E at *
    generalize hS1:(opn r).filter (fun p=>!decide (p.2=cl))=S1 at *
    clear hS1
    obtain ⟨en,hen⟩:∃en,E.length=en:=⟨_,rfl⟩
    have hen2:en≤1+k:=by rw [←hen];exact HEN.out
    obtain ⟨oa,oc,wa,wc1,hl1⟩:=HO'.out.lies
    have co:wc.cell? ⟨bo,0,none⟩=some (.slice oa en oc):=by rw [←hen];exact zB hl1.bo rfl
    have HEN2:=zh hen
    clear hl1 hen HEN
    go_upto_block 7 with fail
    clear co
    go_cut [] from 107 to 118 (fun wx=>Hid (OAt G w0 D V bo bw r' (E.map (ya cl)) A B wx∧yz w0 (PrE bo bw A B) wx u16 (xw l)))
    case first =>
     go_wp2_with fail
     go_loopw [106] (fun s106 wx=>∃i:Nat,s106=vi i∧i≤en∧Hid (OAt G w0 D V bo bw r' (xX cl E i) A B wx∧yz w0 (PrE bo bw A B) wx u16 (xw l))) (fun s106 _=>en - (intOf s106).toNat)
     case atStart=>exact ⟨0,by go_num,Nat.zero_le _,HO'.out,HOut.out⟩
     case round =>
      obtain ⟨i,rfl,hi,HR⟩:=hrel
      by_cases hil:i < en
      ·have hlt:decide ((i:Int) < (en:Int))=true:=decide_eq_true (by omega)
       obtain ⟨e,he⟩:∃e,E[i]?=some e:=⟨_,List.getElem?_eq_getElem (by rw [HEN2.out];exact hil)⟩
       have hg:=zHs (cl:=cl) he
       obtain ⟨oa2,oc2,wa2,wc2,hl2⟩:=HR.out.1.lies
       have hml:(xX cl E i).length=en:=(zOD cl E i).trans HEN2.out
       rw [hml] at hl2
       obtain ⟨wb,woff,wcap,hwe,_,_,_,_,hwc,hwf⟩:=hl2.sw.form (by omega)
       injection hwe with hwe _ hwe2
       subst hwe;subst hwe2
       have wk:wr.cell? ⟨wb,woff+i,none⟩=some (vi e.2):=hwc i _ (by rw [List.getElem?_map,hg];rfl)
       have fw:wr.frozen? ⟨wb,woff+i,none⟩=false:=hwf _
       have cw:wr.cell? ⟨bw,0,none⟩=some (.slice (some ⟨wb,woff,none⟩) en _):=zB hl2.bw rfl
       have hi0:(0:Int)≤(i:Int):=by omega
       have hi1:(i:Int) < (en:Int):=by omega
       have HEI:=zh (And.intro he hg)
       clear he hg hl2 hml hwc hwf
       by_cases hc:e.2=cl
       ·have hcb:(e.2==cl)=true:=by rw [hc];simp
        have HM:=zh (HR.out.1.mark HG.out cw HEI.out.2 (L':=xX cl E (i+1)) (by rw [zHt HEI.out.1];unfold ya;rw [if_pos hc]))
        clear hc
        go_wp2_with fail
        go_roundw
        case rel=>exact ⟨i+1,by go_num,by omega,HM.out.1,HR.out.2.turned HM.out.2 (fun _ h=>.inl h)⟩
        case measure=>simp [intOf];omega
       ·have hcb:(e.2==cl)=false:=beq_eq_false_iff_ne.2 hc
        have HM:=zh (zOE HEI.out.1 hc)
        clear hc
        go_wp2_with fail
        go_roundw
        case rel=>exact ⟨i+1,by go_num,by omega,by rw [HM.out];exact HR.out⟩
        case measure=>simp [intOf];omega
      ·obtain rfl:i=en:=by omega
       have hlt:decide ((i:Int) < (i:Int))=false:=by simp
       go_wp2_with fail
       go_meet
       case rel=>exact (show _∧_ by have:=HR.out;rw [←HEN2.out,zOF] at this;exact this)
    case rest =>
    have HMK:=hcut
    clear hcut HO' HOut
    have htx:(xw l).length=l.length:=by unfold xw;rw [List.length_map]
    obtain ⟨la,lc,hle,_,_⟩:=SlAt.form' HMK.out.2
    rw [htx] at hle
    subst hle
    obtain ⟨wo,rfl⟩:∃wo,wo=wc:=⟨_,rfl⟩
    have HTXL:=zh htx
    clear htx
    have hll:l.length≤1000000:=by have:=HL.out;omega
    go_upto_block 9 with fail
    go_cut [] from 122 to 142 (fun wx=>Hid (∃A' B' E',OAt G w0 D V bo bw r' E' A' B' wx∧RepE E' (opn r') (tt.isSome=true)∧E'.length≤1+k+l.length))
    case first =>
     go_wp2_with fail
     go_loopw [121] (fun s121 wx=>∃(j:Nat) (A' B':Nat→Prop) (Ej:List (zA×Int)) (Sj:List (Int×Int)),s121=vi j∧j≤l.length∧Hid (OAt G w0 D V bo bw r' Ej A' B' wx)∧Hid (yz w0 (PrE bo bw A' B') wx (.slice la l.length lc) (xw l))∧Hid (RepE Ej Sj (tt.isSome=true))∧Hid (Trk tt Sj (l.drop j) (opn r'))∧Hid (Ej.length≤1+k+j)) (fun s121 _=>l.length - (intOf s121).toNat)
     case atStart=>exact ⟨0,A,B,E.map (ya cl),S1,by go_num,Nat.zero_le _,HMK.out.1,HMK.out.2,HRE.out,HT.out,(show _≤_ by rw [List.length_map,HEN2.out];omega)⟩
     case round =>
      obtain ⟨j,A',B',Ej,Sj,rfl,hj,HA,HU,HR,HK,HEJ⟩:=hrel
      clear HMK HRE HT
      by_cases hjl:j < l.length
      ·have hlt:decide ((j:Int) < (l.length:Int))=true:=decide_eq_true (by omega)
       have hj0:(0:Int)≤(j:Int):=by omega
       have hj1:(j:Int) < (l.length:Int):=by omega
       obtain ⟨⟨cc,ws⟩,hp⟩:∃p,l[j]?=some p:=⟨_,List.getElem?_eq_getElem hjl⟩
       have hdr:l.drop j=(cc,ws)::l.drop (j+1):=by
        have hx:=List.getElem?_eq_some_iff.1 hp
        rw [List.drop_eq_getElem_cons hx.1,hx.2]
       have hk1:=HK.out
       rw [hdr] at hk1
       obtain ⟨E1,S2,hst,hre,htr,hel⟩:=zNz HX.out (t0:=t) (by have:=htl2.out;omega) HR.out hk1
       obtain ⟨x0,xs,rfl⟩:=hst.cons
       have hsol:=HSo.out _ (List.mem_of_getElem? hp)
       have hwl:=zHo (x0::xs) hsol.2
       have hcw:=zHr (x0::xs) (by simp) hsol.2
       have hxl:(x0::xs).length≤5:=hsol.1
       obtain ⟨s,hs⟩:∃s,zX (x0::xs)=s:=⟨_,rfl⟩
       have hq:(yy (xw l))[j]?=some (cc,zS s):=by
        rw [zDI];unfold sayL;rw [List.getElem?_map,hp,←hs];rfl
       rw [hs] at hwl hcw
       have hsl:s.length≤500:=by omega
       obtain ⟨q1,q2⟩:=zET _ j _ hq
       obtain ⟨b1,o1,cap1,hv1,_,_,_,_,c1,_⟩:=SlAt.form HU.out (by rw [HTXL.out];omega)
       obtain ⟨rfl,rfl⟩:la=some ⟨b1,o1,none⟩∧lc=cap1:=by injection hv1 with e1 e2 e3;exact ⟨e1,e3⟩
       have d1:wr.cell? ⟨b1,o1+j*2,none⟩=some (vi cc):=by rw [Nat.mul_comm];exact c1 _ _ q1
       have d2:wr.cell? ⟨b1,o1+j*2+1,none⟩=some (vs (bs (zS s))):=by rw [Nat.mul_comm,Nat.add_assoc];exact c1 _ _ q2
       have HTX:=zh (fun W:World=>zNo s (by omega) W)
       have HWD:=zh (fun W:World=>zHk s (by omega) (by rw [hcw];omega) W)
       have HSE:=zh (fun W:World=>zES (G:=0) (w:=W) s (by omega))
       have HCW:=zh hcw
       have HST:=zh hst
       have HNX:=zh (And.intro hre (And.intro htr hel))
       have hxl2:xs.length≤1000000:=by simp at hxl;omega
       obtain ⟨B0,hB0⟩:∃B0,wr.heap.size=B0:=⟨_,rfl⟩
       have HB0:=zh hB0
       clear hp hdr hk1 hre htr hel hst hsol hwl hcw hxl hs hq q1 q2 c1 hv1 HK HR hB0
       go_wp2_with fail
       refine (HTX.out _).mono ?_
       rintro e w5 ⟨rfl,rfl⟩
       go_wp2_with fail
       refine (HWD.out _).mono ?_
       rintro e w6 ⟨vx,rfl,hsx,hb6⟩
       rw [HCW.out] at hsx
       obtain ⟨xa,xc,hvx,_,_⟩:=hsx.form'
       subst hvx
       have hb5:Below wr.heap.size wr w6:=Below.trans (zBF (Below.refl _ _)) (hb6.mono (by simp))
       have f0:w6.cell? ⟨wr.heap.size,0,none⟩=some (vi cc):=zB ((hb6.block _ (by simp)).trans (zP wr)) rfl
       have f1:w6.cell? ⟨wr.heap.size,1,none⟩=some (vs (bs (zS s))):=zB ((hb6.block _ (by simp)).trans (zP wr)) rfl
       have HA6:=zh (HA.out.grow hb5)
       have HU6:=zh (HU.out.grow hb5)
       have HSX:=zh hsx
       clear hb6 hb5 hsx d1 d2 HA HU
       go_wp2_with fail
       go_region_held3 (fun w'=>w'.cell? ⟨wr.heap.size,1,none⟩=some (vs (bs (zS s)))) (go_keep) (first | (go_at_call 30;refine (HTX.out _).mono ?_;rintro e w7 ⟨rfl,rfl⟩) | (go_at_call 19;refine (HSE.out _).mono ?_;rintro e w7 ⟨rfl,hb7⟩;have g1:=xu hb7 f1;have g0:=xu hb7 f0;have HB7:=zh hb7;clear hb7))
       all_goals
        have HB67:Hid (Below w6.heap.size w6 w7):=Below.trans (zAK (Below.refl _ _) 1) (HB7.out.mono (by simp))
        have HA7:=zh (HA6.out.grow HB67.out)
        have HU7:=zh (HU6.out.grow HB67.out)
        have hsx7:=HSX.out.of_blk (w':=w7) (fun b _ hl=>HB67.out.block b hl) (fun _ h _=>h)
        obtain ⟨oa7,oc7,wa7,wc7,hl7⟩:=HA7.out.lies
        have HEC:=zh (zNv hl7 HA7.out.own (by have:=HEJ.out;have:=HL.out;omega) cc hsx7 hxl2 t HST.out)
        clear hsx7 hl7 HA6 HU6 HSX HB7 HB67
        go_wp2_with fail
        refine HEC.out.mono ?_
        intro e w8 hp8
        obtain ⟨rfl,A8,B8,hA8,hQ8,hF8⟩:=HA7.out.step HG.out hp8
        have HP8:=zh (And.intro hA8 (HU7.out.turned hF8 hQ8))
        clear hp8 hA8 hQ8 hF8
        go_wp2_with fail
        go_roundw
        case rel=>exact ⟨j+1,A8,B8,E1,S2,by go_num,by omega,HP8.out.1,HP8.out.2,HNX.out.1,HNX.out.2.1,(show _≤_ by have h8:=HNX.out.2.2;have h9:=HEJ.out;omega)⟩
        case measure=>simp [intOf];omega
      ·obtain rfl:j=l.length:=by omega
       have hlt:decide ((l.length:Int) < (l.length:Int))=false:=by simp
       have HS:Hid (Sj=opn r'):=show _=_ by have:=HK.out;rw [List.drop_length] at this;cases this;rfl
       go_wp2_with fail
       go_meet
       case rel=>exact (show ∃_ _ _,_ from ⟨A',B',Ej,HA.out,by rw [←HS.out];exact HR.out,HEJ.out⟩)
    case rest =>
    clear HMK HRE HT
    obtain ⟨A2,B2,E2,hO2,hR2,hE2⟩:=hcut.out
    have HO2:=zh hO2
    have HR2:=zh hR2
    obtain ⟨w9,rfl⟩:∃w9,w9=wc:=⟨_,rfl⟩
    obtain ⟨em,hem⟩:∃em,E2.length=em:=⟨_,rfl⟩
    have hem2:em≤1000000:=by have:=HL.out;omega
    obtain ⟨oa,oc,wa,wc2,hl2⟩:=hO2.lies
    have co:w9.cell? ⟨bo,0,none⟩=some (.slice oa em oc):=by rw [←hem];exact zB hl2.bo rfl
    have HEM:=zh hem
    clear hO2 hR2 hE2 hcut hem hl2
    go_upto_block 11 with fail
    clear co
    go_cut [22,23] from 146 to 167 (fun s22 s23 wx=>∃(va:Option Addr) (ca:Nat) (vb:Option Addr) (cb:Nat) (j:Nat),s22=.slice va j ca∧s23=.slice vb j cb∧Hid (∃O1 O2,xY w9 E2 em (.slice va j ca) (.slice vb j cb) j O1 O2 wx))
    case first =>
     go_wp2_with fail
     go_loopw [22,23,145] (fun s22 s23 s145 wx=>∃(i j:Nat) (va:Option Addr) (ca:Nat) (vb:Option Addr) (cb:Nat),s145=vi i∧s22=.slice va j ca∧s23=.slice vb j cb∧i≤em∧Hid (∃O1 O2,xY w9 E2 i (.slice va j ca) (.slice vb j cb) j O1 O2 wx)) (fun _ _ s145 _=>em - (intOf s145).toNat)
     case atStart=>exact ⟨0,0,none,0,none,0,by go_num,rfl,rfl,Nat.zero_le _,(show ∃_ _,_ from ⟨_,_,xY.start w9 E2⟩)⟩
     case round =>
      obtain ⟨i,j,va,ca,vb,cb,rfl,rfl,rfl,hi,HK⟩:=hrel
      obtain ⟨O1,O2,hk⟩:=HK.out
      have HKK:=zh hk
      by_cases hil:i < em
      ·have hlt:decide ((i:Int) < (em:Int))=true:=decide_eq_true (by omega)
       have hi0:(0:Int)≤(i:Int):=by omega
       have hi1:(i:Int) < (em:Int):=by omega
       obtain ⟨e,he⟩:∃e,E2[i]?=some e:=⟨_,List.getElem?_eq_getElem (by rw [HEM.out];exact hil)⟩
       have HEI:=zh he
       obtain ⟨oa,oc,wa,wc2,hl2⟩:=HO2.out.lies
       rw [HEM.out] at hl2
       obtain ⟨ob,ooff,ocap,hoe,_,_,_,_,_,_⟩:=hl2.so.form (by omega)
       injection hoe with hoe _ hoe2
       subst hoe;subst hoe2
       obtain ⟨wb,woff,wcap,hwe,_,_,_,_,_,_⟩:=hl2.sw.form (by omega)
       injection hwe with hwe _ hwe2
       subst hwe;subst hwe2
       have HL2:=zh (fun (W:World) (hb:Below w9.heap.size w9 W)=>show W.cell? ⟨bo,0,none⟩=some (.slice (some ⟨ob,ooff,none⟩) em oc)∧W.cell? ⟨bw,0,none⟩=some (.slice (some ⟨wb,woff,none⟩) em wc2)∧W.cell? ⟨ob,ooff+i,none⟩=some (vs (bs e.1))∧W.cell? ⟨wb,woff+i,none⟩=some (vi e.2) from by
        have q:=hl2.below hb
        obtain ⟨b1,o1,k1,h1,_,_,_,_,h2,_⟩:=q.so.form (by omega)
        obtain ⟨b2,o2,k2,h3,_,_,_,_,h4,_⟩:=q.sw.form (by omega)
        injection h1 with h1 _ _
        injection h1 with h1
        injection h1 with e1 e2
        subst e1;subst e2
        injection h3 with h3 _ _
        injection h3 with h3
        injection h3 with e1 e2
        subst e1;subst e2
        exact ⟨zB q.bo rfl,zB q.bw rfl,h2 i _ (by rw [List.getElem?_map,he];rfl),h4 i _ (by rw [List.getElem?_map,he];rfl)⟩)
       obtain ⟨r1,r2,r3,r4⟩:=HL2.out wr hk.below
       have hjl:j≤i:=by rw [←hk.len];exact Nat.le_trans (List.length_filter_le _ _) (by rw [List.length_take];omega)
       clear he hl2 hk
       by_cases hlv:0≤e.2
       ·have hge:decide (e.2≥0)=true:=decide_eq_true hlv
        have hd:zv e=true:=decide_eq_true hlv
        have HD:=zh hd
        have HBD:=zh (show j+1≤maxLen∧(j+1)*16≤140737488355328∧(j+1)*8≤140737488355328 by unfold maxLen;omega)
        have HS1:Hid (SlAt (wr.alloc (.cells #[vs (bs e.1)] 9)) 9 1 O1 (.slice va j ca) j (((E2.take i).filter zv).map fun e=>vs (bs e.1))):=HKK.out.s1.of_blk (fun b _ hl=>zM wr hl) (fun _ h _=>h)
        clear hd hlv
        go_upto_region 54 with (at_builtin;refine xU _ rfl _ _ _ _ rfl zAi rfl HS1.out rfl (yn wr Tryz.underlying47 [vs (bs e.1)] (by rfl) (by simp [Value.oneCell']) wr.heap.size (by simp)) (by omega) HBD.out.1 HBD.out.2.1 ?_;intro g goff gcap w5 hg5 hs5 hf5 hlt5 _ _;have HG5:=zh hg5;have HS5:=zh hs5;have HF5:=zh hf5;have HL5:=zh hlt5;clear hg5 hs5 hf5 hlt5)
        have HK5:=zh (HKK.out.app1 HG5.out HF5.out)
        obtain ⟨_,y2,_,y4⟩:=HL2.out w5 HK5.out.2.2.2.1
        have HS6:Hid (SlAt (w5.alloc (.cells #[vi e.2] 3)) 3 1 O2 (.slice vb j cb) j (((E2.take i).filter zv).map fun e=>vi e.2)):=HK5.out.2.2.1.of_blk (fun b _ hl=>zM w5 hl) (fun _ h _=>h)
        go_wp2_with (at_builtin;refine xU _ rfl _ _ _ _ rfl zBR rfl HS6.out rfl (yn w5 Tryz.underlying46 [vi e.2] (by rfl) (by simp [Value.oneCell']) w5.heap.size (by simp)) (by omega) HBD.out.1 HBD.out.2.2 ?_;intro g2 goff2 gcap2 w6 hg6 hs6 hf6 hlt6 _ _;have HKN:=zh (HKK.out.app2 HEI.out HD.out HG5.out HF5.out HL5.out HS5.out hg6 hf6 hlt6 hs6);clear hg6 hs6 hf6 hlt6)
        go_roundw
        case rel=>exact ⟨i+1,j+1,_,_,_,_,by go_num,rfl,rfl,by omega,(show ∃_ _,_ from ⟨_,_,HKN.out⟩)⟩
        case measure=>simp [intOf];omega
       ·have hge:decide (e.2≥0)=false:=decide_eq_false hlv
        have hd:zv e=false:=decide_eq_false hlv
        have HKN:=zh (HKK.out.skip HEI.out hd)
        clear hd hlv
        go_wp2_with fail
        go_roundw
        case rel=>exact ⟨i+1,j,_,_,_,_,by go_num,rfl,rfl,by omega,(show ∃_ _,_ from ⟨_,_,HKN.out⟩)⟩
        case measure=>simp [intOf];omega
      ·obtain rfl:i=em:=by omega
       have hlt:decide ((i:Int) < (i:Int))=false:=by simp
       go_wp2_with fail
       go_meet
       case rel=>exact ⟨_,_,_,_,_,rfl,rfl,HK.out⟩
    case rest =>
    obtain ⟨va,ca,vb,cb,j,rfl,rfl,HK⟩:=hcut
    obtain ⟨O1,O2,hk⟩:=HK.out
    have HKE:=zh (HO2.out.kept HG.out (by rw [HEM.out];exact hk))
    obtain ⟨_,_,_,_,hl2⟩:=HO2.out.lies
    have nbo:bo≠bw:=HO2.out.own.ne
    have nbw:bw≠bo:=Ne.symm nbo
    have co9:wc.cell? ⟨bo,0,none⟩=some _:=zB ((hk.below.block _ (zD _ hl2.bo)).trans hl2.bo) rfl
    have cw9:wc.cell? ⟨bw,0,none⟩=some _:=zB ((hk.below.block _ (zD _ hl2.bw)).trans hl2.bw) rfl
    have fo:wc.frozen? ⟨bo,0,none⟩=false:=zK ((hk.below.block _ (zD _ hl2.bo)).trans hl2.bo)
    have fw:wc.frozen? ⟨bw,0,none⟩=false:=zK ((hk.below.block _ (zD _ hl2.bw)).trans hl2.bw)
    clear hk hl2
    go_wp2_with fail
    go_roundw
    case rel=>exact ⟨k+1,r',O1,O2,by go_num,by omega,HI'.out.mono (by omega) (by omega),⟨HR2.out.nod,HR2.out.ids⟩,(show OAt _ _ _ _ _ _ _ _ _ _ _ by rw [←HR2.out.live];exact HKE.out)⟩
    case measure=>simp [intOf];omega
   ·obtain rfl:k=n:=by omega
    have hlt:decide ((k:Int) < (k:Int))=false:=by simp
    have HBF:=zh HO.out.kp.below
    go_wp2_with fail
    go_ret
    exact ⟨rfl,HBF.out⟩
end Go.Proofs.YtaejfobbogahmaaGreatDoor
