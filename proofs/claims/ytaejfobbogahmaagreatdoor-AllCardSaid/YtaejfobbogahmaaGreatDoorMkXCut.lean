/-
  XCut RCut ROpened: texts of their own, joined.
-/
import Derived.Test.YtaejfobbogahmaaGreatDoorMkRSeal
set_option maxRecDepth 100000
set_option maxHeartbeats 16000000
set_option linter.all false
namespace Go.Proofs.YtaejfobbogahmaaGreatDoor
open Go
theorem zLg (c:UInt8):∀l:zA,1≤(cut c l).length
 | []=>Nat.le_refl _
 | x::l=>by
   unfold cut
   split
   ·simp
   ·split<;>simp
theorem zDC (c x:UInt8) (l:zA):∃a r,cut c l=a::r∧cut c (x::l)=if x=c then []::cut c l else (x::a)::r:=by
 cases h:cut c l with
 | nil=>have:=zLg c l;rw [h] at this;simp at this
 | cons a r=>exact ⟨a,r,rfl,by rw [cut,h]⟩
theorem zIE (c x:UInt8):∀l:zA,cut c (l++[x])=if x=c then cut c l++[[]] else (cut c l).dropLast++[(cut c l).getLastD []++[x]]
 | []=>by
   by_cases h:x=c
   ·simp [cut,h]
   ·simp [cut,h]
 | y::l=>by
   obtain ⟨a,r,h1,h2⟩:=zDC c y l
   obtain ⟨a2,r2,h3,h4⟩:=zDC c y (l++[x])
   rw [List.cons_append,h4,h2]
   have ih:=zIE c x l
   rw [h1] at ih
   rw [h3] at ih
   by_cases hx:x=c
   ·rw [if_pos hx] at ih ⊢
    simp only [List.cons_append,List.cons.injEq] at ih
    obtain ⟨rfl,rfl⟩:=ih
    by_cases hy:y=c
    ·rw [if_pos hy,if_pos hy,h3,h1];rfl
    ·rw [if_neg hy,if_neg hy];rfl
   ·rw [if_neg hx] at ih ⊢
    by_cases hy:y=c
    ·rw [if_pos hy,if_pos hy,h3,h1,ih]
     simp [List.dropLast]
    ·rw [if_neg hy,if_neg hy]
     cases r with
     | nil =>
       simp at ih
       obtain ⟨rfl,rfl⟩:=ih
       simp
     | cons b r =>
       simp [List.dropLast] at ih
       obtain ⟨rfl,rfl⟩:=ih
       simp [List.dropLast]
theorem zSS {α:Type} {L:List (List α)} {m:Nat} {t:List α} {x:α} (hm:L.length=m+1) (ht:L[m]?=some t):L.set m (t++[x])=L.dropLast++[L.getLastD []++[x]]:=by
 have h1:L.getLastD []=t:=by
  rw [List.getLastD_eq_getLast?,List.getLast?_eq_getElem?,hm]
  simp [ht]
 have h2:L=L.dropLast++[t]:=by
  have hne:L≠[]:=fun e=>by rw [e] at hm;cases hm
  have:=(List.dropLast_concat_getLast hne).symm
  rw [List.getLast_eq_getElem hne] at this
  have h3:=(List.getElem?_eq_some_iff.1 ht).2
  simp only [hm,Nat.add_sub_cancel] at this
  rw [h3] at this
  exact this
 rw [h1]
 have h4:L.dropLast.length=m:=by simp [hm]
 conv=>lhs;rw [h2]
 rw [List.set_append_right _ _ (by omega),h4]
 simp
theorem zLh (c:UInt8):∀(l:zA),∀t∈cut c l,t.length≤l.length
 | [],t,h=>by simp [cut] at h;subst h;exact Nat.le_refl _
 | x::l,t,h=>by
   obtain ⟨a,r,h1,h2⟩:=zDC c x l
   have ih:=zLh c l
   rw [h1] at ih
   rw [h2] at h
   split at h
   ·rcases List.mem_cons.1 h with rfl | h3
    ·simp
    ·rw [h1] at h3;have:=ih t h3;simp;omega
   ·rcases List.mem_cons.1 h with rfl | h3
    ·have:=ih a List.mem_cons_self;simp;omega
    ·have:=ih t (List.mem_cons_of_mem _ h3);simp;omega
theorem zST {l:zA} {k:Nat} {x:UInt8} (h:l[k]?=some x):(bs l).extract k (k+1)=bs [x]:=by
 have:(bs l).extract k (k+1)=bs ((l.drop k).take 1):=ByteArray.ext (by simp [bs])
 rw [this]
 have hk:=List.getElem?_eq_some_iff.1 h
 rw [List.drop_eq_getElem_cons hk.1,hk.2]
 rfl
open Go Go.RowKit
abbrev encB (t:zA):Value:=vs (bs t)
theorem zLi (c:UInt8) (l:zA) (hl:l.length≤1099511627776) (w:World) :
 Calls Tryz.prog 109 #[vs (bs l),.int .u8 c.toNat] w fun e w'=>∃v,e=.returned v∧SlAt w' 9 1 (fun b=>w.heap.size≤b) v (cut c l).length ((cut c l).map encB)∧Below w.heap.size w w':=by
 have hsz:(bs l).size=l.length:=yP _
 have H0:Hid (SlAt (w.alloc (.cells #[vs (bs [])] 9)) 9 1 (fun b=>w.heap.size≤b) (.slice (some ⟨w.heap.size,0,none⟩) 1 1) 1 [vs (bs [])]):=SlAt.mk_new w [vs (bs [])] rfl (by unfold maxLen;omega) (Nat.le_refl _)
 go_enter Tryz.func109,Tryz.ntmps109
 go_wp2_with fail
 go_loopw [5,6] (fun s5 s6 wr=>∃(k:Nat) (L:List zA),s6=.int .i64 k∧k≤l.length∧Hid (L=cut c (l.take k))∧Hid (SlAt wr 9 1 (fun b=>w.heap.size≤b) s5 L.length (L.map encB))∧Hid (Below w.heap.size w wr)∧L.length≤k+1) (fun _ s6 _=>l.length - (intOf s6).toNat)
 case atStart=>exact ⟨0,[[]],by go_num,Nat.zero_le _,rfl,H0.out,(Below.refl _ w).alloc (Nat.le_refl _) _,Nat.le_refl _⟩
 case round =>
  obtain ⟨k,L,rfl,hk,HL,HS,HB,hLn⟩:=hrel
  have hLne:1≤L.length:=by rw [HL.out];exact zLg _ _
  obtain ⟨va,vc,hv1,hv2,hv3⟩:=HS.out.form'
  subst hv1
  by_cases hkl:k < l.length
  ·have hlt:decide ((k:Int) < (l.length:Int))=true:=decide_eq_true (by omega)
   obtain ⟨x,hx⟩:∃x,l[k]?=some x:=⟨_,List.getElem?_eq_getElem hkl⟩
   have hkb:k < (bs l).size:=by rw [hsz];exact hkl
   have hget:(bs l)[k]'hkb=x:=zAU hx
   have hk0:(0:Int)≤(k:Int):=by omega
   have hk1:(k:Int) < (l.length:Int):=by omega
   have htk:l.take (k+1)=l.take k++[x]:=by rw [List.take_add_one,hx];rfl
   have HX:=zh hx
   have HTK:=zh htk
   clear hx htk hv2 hv3
   by_cases hxc:x=c
   ·have hq:((x.toNat:Int)==(c.toNat:Int))=true:=by rw [hxc];exact beq_self_eq_true _
    have hq2:decide ((x.toNat:Int)=(c.toNat:Int))=true:=decide_eq_true (by rw [hxc])
    have HLN:Hid (L++[[]]=cut c (l.take (k+1))):=show _=_ by rw [HTK.out,zIE,if_pos hxc,HL.out]
    have HSA:=zh (HS.out.of_blk (w':=wr.alloc (.cells #[vs (bs [])] 9)) (fun b _ hl=>zP wr hl) (fun b hb _=>hb))
    have HBD:=zh (show L.length+1≤maxLen∧(L.length+1)*16≤140737488355328 by unfold maxLen;omega)
    clear hxc
    go_wp2_with (at_builtin;refine xy _ rfl _ _ _ _ rfl zEK rfl HSA.out rfl (xV wr Tryz.underlying47 [vs (bs [])] (by rfl) (by simp [Value.oneCell']) wr.heap.size (by simp)) (by omega) HBD.out.1 HBD.out.2 ?_;intro g goff gcap w5 hg5 hs5 hf5 hlt5 _ _;have HS5:=zh hs5;have HG5:=zh hg5;have HF5:=zh hf5;clear hs5 hf5 hg5)
    go_roundw
    case rel =>
     have hge:w.heap.size≤g:=HG5.out.elim id fun h=>by rw [h];simp;exact Nat.le_succ_of_le HB.out.size
     refine ⟨k+1,L++[[]],by go_num,by omega,HLN.out,?_,?_,by simp;omega⟩
     ·have:=HS5.out
      show SlAt _ _ _ _ _ _ _
      rw [List.length_append,List.length_singleton,List.map_append]
      exact this.of_blk (fun _ _ _=>rfl) (fun b hb _=>by have hb:b=g:=hb;rw [hb];exact hge)
     ·exact Below.trans (HB.out.alloc HB.out.size _) (HF5.out.below (by simp;exact Nat.le_succ_of_le HB.out.size) (fun b hb=>by have hb:b=g:=hb;rw [hb];exact hge))
    case measure=>simp [intOf];omega
   ·have hq:((x.toNat:Int)==(c.toNat:Int))=false:=beq_eq_false_iff_ne.2 (fun e=>hxc (UInt8.toNat_inj.1 (Int.ofNat.inj e)))
    have hq2:decide ((x.toNat:Int)=(c.toNat:Int))=false:=decide_eq_false (fun e=>hxc (UInt8.toNat_inj.1 (Int.ofNat.inj e)))
    obtain ⟨m,hm⟩:∃m,L.length=m+1:=⟨L.length - 1,by omega⟩
    obtain ⟨t,ht⟩:∃t,L[m]?=some t:=⟨_,List.getElem?_eq_getElem (by omega)⟩
    have HLN:Hid (L.set m (t++[x])=cut c (l.take (k+1))):=show _=_ by
     rw [HTK.out,zIE,if_neg hxc,←HL.out]
     exact zSS hm ht
    have htl:t.length≤k:=by
     have h1:=zLh c (l.take k) t (by rw [←HL.out];exact List.mem_of_getElem? ht)
     simp at h1;omega
    obtain ⟨g,off,cap,hv,hgo,hgs,hcap,hcap2,hcc,hff⟩:=HS.out.form (by omega)
    obtain ⟨rfl,rfl⟩:va=some ⟨g,off,none⟩∧vc=cap:=by injection hv with e1 e2 e3;exact ⟨e1,e3⟩
    have cm:wr.cell? ⟨g,off+m,none⟩=some (vs (bs t)):=hcc m _ (by simp [ht])
    have fm:=hff (off+m)
    have HSS:=zh (HS.out.set (i:=m) (by omega) (vs (bs (t++[x]))))
    rw [hm] at HSS hLn
    rw [hm]
    have hzt:(bs t).size=t.length:=yP _
    have hz1:(bs [x]).size=1:=rfl
    have hex:(bs l).extract k (k+1)=bs [x]:=zST HX.out
    have e1:bs t++bs [x]=bs (t++[x]):=zEY _ _
    have n1:¬9223372036854775807 < t.length+1:=by omega
    have hm0:(0:Int)≤(m:Int):=by omega
    have hm1:(m:Int) < (m:Int)+1:=by omega
    have hwk:IntKind.i64.wrap ((k:Int)+1)=(k:Int)+1:=by rw [IntKind.wrap_i64];omega
    have hk2:(0:Int)≤(k:Int)+1:=by omega
    have hk3:(k:Int)≤(k:Int)+1:=by omega
    have hk4:((k:Int)+1).toNat=k+1:=by omega
    have hwm:IntKind.i64.wrap (m:Int)=(m:Int):=by rw [IntKind.wrap_i64];omega
    have hkl1:(k:Int)+1≤(l.length:Int):=by omega
    have HM:=zh hm
    have HGO:=zh hgo
    clear hxc ht hv hcc hff hm hgo hgs hcap hcap2 hLne
    go_wp2_with fail
    refine xz 13 zAA (by kernel_rfl) ?_
    simp only [List.take_succ_cons,List.take_zero,List.drop_succ_cons,List.drop_zero]
    repeat still_step
    refine wpStill_nil ?_
    go_wp2_with fail
    refine ⟨⟨k+1,L.set m (t++[x]),by go_num,by omega,HLN.out,?_,?_,by rw [List.length_set,HM.out];omega⟩,by simp [intOf];omega⟩
    ·show SlAt _ _ _ _ _ _ _
     have:=HSS.out
     rw [List.length_set,HM.out,List.map_set]
     exact this
    ·exact (HB.out.setCell HGO.out _).drew
  ·obtain rfl:k=l.length:=by omega
   have hlt:decide ((l.length:Int) < (l.length:Int))=false:=by simp
   have HE:Hid (L=cut c l):=show _=_ by rw [HL.out,List.take_length]
   go_wp2_with fail
   go_ret
   exact ⟨_,rfl,by rw [←HE.out];exact HS.out,HB.out⟩
def zDg (l:zA) (w:World) (e:Ending) (w':World):Prop:=e=.returned (.tuple #[vs (bs ((zu l).getD [])),.bool (zu l).isSome])∧Below w.heap.size w w'
theorem zSU (l:zA) (h:l.length < 9) (w:World):Calls Tryz.prog 154 #[vs (bs l)] w (zDg l w):=by
 have hsz:(bs l).size=l.length:=yP _
 have HX:Hid (zu l=none):=show _=_ by unfold zu;rw [if_pos (.inl h)]
 have a1:decide ((l.length:Int) - 9 < 0)=true:=decide_eq_true (by omega)
 have a2:decide ((l.length:Int) < 9)=true:=decide_eq_true (by omega)
 go_enter Tryz.func154,Tryz.ntmps154
 go_wp2_with fail
 go_ret2
 exact ⟨by rw [HX.out];rfl,Below.refl _ _⟩
theorem zSV (l:zA) (h:80 < l.length) (hl:l.length≤1099511627776) (w:World):Calls Tryz.prog 154 #[vs (bs l)] w (zDg l w):=by
 have hsz:(bs l).size=l.length:=yP _
 have HX:Hid (zu l=none):=show _=_ by unfold zu;rw [if_pos (.inr h)]
 have a1:decide ((l.length:Int) - 9 < 0)=false:=decide_eq_false (by omega)
 have a2:decide ((l.length:Int) < 9)=false:=decide_eq_false (by omega)
 have a3:decide ((l.length:Int) > 80)=true:=decide_eq_true (by omega)
 clear h
 go_enter Tryz.func154,Tryz.ntmps154
 go_wp2_with fail
 go_ret2
 exact ⟨by rw [HX.out];rfl,Below.refl _ _⟩
theorem zSW (l:zA) (h:9≤l.length∧l.length≤80) (w:World):Calls Tryz.prog 154 #[vs (bs l)] w (zDg l w):=by
 have hsz:(bs l).size=l.length:=yP _
 obtain ⟨n,hn⟩:∃n,l.length=n+9:=⟨l.length - 9,by omega⟩
 have HX:Hid (zu l=if zi (l.take n)=l then some (l.take n) else none):=show _=_ by
  unfold zu;rw [if_neg (by omega),hn,Nat.add_sub_cancel]
 have HS:=zh (fun w=>zGA (l.take n) (by simp;omega) w)
 have hex:(bs l).extract 0 n=bs (l.take n):=ByteArray.ext (by simp [bs])
 rw [hn] at hsz
 have a1:decide ((n:Int)+9 - 9 < 0)=false:=decide_eq_false (by omega)
 have a2:decide ((n:Int) < 0)=false:=decide_eq_false (by omega)
 have a3:decide ((n:Int)+9 > 80)=false:=decide_eq_false (by omega)
 have hn0:(0:Int)≤(n:Int):=by omega
 have hn1:(n:Int)≤(n:Int)+9:=by omega
 have hn2:n≤71:=by omega
 have ht1:(bs (zi (l.take n))).toList=zi (l.take n):=by rw [ByteArray.toList_eq];rfl
 have ht2:(bs l).toList=l:=by rw [ByteArray.toList_eq];rfl
 obtain ⟨z,hz⟩:∃z,zi (l.take n)=z:=⟨_,rfl⟩
 rw [hz] at HX HS ht1
 have HN:=zh hn
 clear h hn hz
 by_cases he:z=l
 ·have hq:(z==l)=true:=by simp [he]
  have HX2:Hid (zu l=some (l.take n)):=show _=_ by rw [HX.out,if_pos he]
  clear he HX
  go_enter Tryz.func154,Tryz.ntmps154
  go_wp2_with fail
  refine (HS.out _).mono ?_
  rintro e w1 ⟨rfl,hb⟩
  have HB:=zh hb
  clear hb
  go_wp2_with fail
  go_ret2
  exact ⟨by rw [HX2.out];rfl,HB.out⟩
 ·have hq:(z==l)=false:=by simp [he]
  have HX2:Hid (zu l=none):=show _=_ by rw [HX.out,if_neg he]
  clear he HX
  go_enter Tryz.func154,Tryz.ntmps154
  go_wp2_with fail
  refine (HS.out _).mono ?_
  rintro e w1 ⟨rfl,hb⟩
  have HB:=zh hb
  clear hb
  go_wp2_with fail
  go_ret2
  exact ⟨by rw [HX2.out];rfl,HB.out⟩
theorem zLj (l:zA) (hl:l.length≤1099511627776) (w:World):Calls Tryz.prog 154 #[vs (bs l)] w (zDg l w):=by
 by_cases h1:l.length < 9
 ·exact zSU l h1 w
 ·by_cases h2:80 < l.length
  ·exact zSV l h2 hl w
  ·exact zSW l ⟨by omega,by omega⟩ w
end Go.Proofs.YtaejfobbogahmaaGreatDoor
