/-
  RNum RLet RText RRead: texts of their own, joined.
-/
import Derived.Test.YtaejfobbogahmaaGreatDoorMkXCut
set_option maxRecDepth 100000
set_option maxHeartbeats 16000000
set_option linter.all false
namespace Go.Proofs.YtaejfobbogahmaaGreatDoor
open Go Go.RowKit
theorem zSX (n a b:Int) (w:World):Calls Tryz.prog 113 #[vi n,vi a,vi b] w fun e w'=>e=.returned (.bool (decide (a≤n∧n≤b)))∧w=w':=by
 by_cases h1:a≤n
 ·have a1:decide (a≤n)=true:=decide_eq_true h1
  have HR:Hid (decide (a≤n∧n≤b)=decide (n≤b)):=show _=_ by simp [h1]
  clear h1
  go_enter Tryz.func113,Tryz.ntmps113
  go_wp2_with fail
  go_ret
  exact ⟨by rw [HR.out];rfl,rfl⟩
 ·have a1:decide (a≤n)=false:=decide_eq_false h1
  have HR:Hid (decide (a≤n∧n≤b)=false):=show _=_ by simp [h1]
  clear h1
  go_enter Tryz.func113,Tryz.ntmps113
  go_wp2_with fail
  go_ret
  exact ⟨by rw [HR.out];rfl,rfl⟩
def zEc (l:zA) (w:World) (e:Ending) (w':World):Prop:=e=.returned (.tuple #[vi (numV l),.bool (xA l)])∧w=w'
theorem zSY (w:World):Calls Tryz.prog 110 #[vs (bs [])] w (zEc [] w):=by
 have hsz:(bs []).size=0:=rfl
 go_enter Tryz.func110,Tryz.ntmps110
 go_wp2_with fail
 go_ret2
 exact ⟨rfl,rfl⟩
theorem zSZ (x:UInt8) (l:zA) (h:6 < l.length+1) (w:World):Calls Tryz.prog 110 #[vs (bs (x::l))] w (zEc (x::l) w):=by
 have hsz:(bs (x::l)).size=l.length+1:=yP _
 have HX:=zh (zCC (l:=x::l) (by unfold zY;rw [if_pos (.inr h)]))
 have a0:decide ((l.length:Int)+1 < 1)=false:=decide_eq_false (by omega)
 have a1:decide ((l.length:Int)+1 > 6)=true:=by simp;omega
 clear h
 go_enter Tryz.func110,Tryz.ntmps110
 go_wp2_with fail
 go_ret2
 exact ⟨by rw [HX.out.1,HX.out.2];rfl,rfl⟩
theorem zSa (l:zA) (h:l.length+1≤6) (h0:0 < l.length) (w:World):Calls Tryz.prog 110 #[vs (bs (48::l))] w (zEc (48::l) w):=by
 have hsz:(bs (48::l)).size=l.length+1:=yP _
 have HX:=zh (zCC (l:=48::l) (by unfold zY;rw [if_neg (by simp;omega),if_pos ⟨by simp;omega,rfl⟩]))
 have a0:decide ((l.length:Int)+1 < 1)=false:=decide_eq_false (by omega)
 have a1:decide ((l.length:Int)+1 > 6)=false:=by simp;omega
 have a3:decide ((l.length:Int)+1 > 1)=true:=by simp;omega
 have b0:(bs (48::l))[0]'(by rw [yP];exact Nat.succ_pos _)=48:=zAU rfl
 have hl0:(0:Int) < (l.length:Int)+1:=by omega
 clear h h0
 go_enter Tryz.func110,Tryz.ntmps110
 go_wp2_with fail
 go_ret2
 exact ⟨by rw [HX.out.1,HX.out.2];rfl,rfl⟩
theorem zLk (x:UInt8) (l:zA) (h:l.length+1≤6) (h0:(x.toNat=48∧l.length=0)∨x.toNat≠48) (w:World):Calls Tryz.prog 110 #[vs (bs (x::l))] w (zEc (x::l) w):=by
 have hsz:(bs (x::l)).size=l.length+1:=yP _
 have HX:Hid (zY (x::l)=xY (x::l) 0):=show _=_ by
  unfold zY;rw [if_neg (by simp;omega),if_neg (by
   rintro ⟨h1,h2⟩
   simp at h1 h2
   rcases h0 with h0 | h0
   ·omega
   ·subst h2;exact h0 rfl)]
 have a0:decide ((l.length:Int)+1 < 1)=false:=decide_eq_false (by omega)
 have a1:decide ((l.length:Int)+1 > 6)=false:=by simp;omega
 have hl0:(0:Int) < (l.length:Int)+1:=by omega
 have b0:(bs (x::l))[0]'(by rw [yP];exact Nat.succ_pos _)=x:=zAU rfl
 have Hb0:=zh b0
 have hpq:∃p q:Bool,((x.toNat:Int)==48)=p∧decide ((x.toNat:Int)=48)=p∧decide ((l.length:Int)+1 > 1)=q∧(p=false∨(p=true∧q=false)):=by
  refine ⟨_,_,rfl,rfl,rfl,?_⟩
  rcases h0 with ⟨h1,h2⟩ | h1
  ·exact .inr ⟨by rw [h1];rfl,by rw [h2];rfl⟩
  ·exact .inl (beq_eq_false_iff_ne.2 (fun e=>h1 (Int.ofNat.inj e)))
 obtain ⟨p,q,a7,a8,a3,hpq⟩:=hpq
 clear h0
 rcases hpq with rfl | ⟨rfl,rfl⟩
 all_goals
  go_enter Tryz.func110,Tryz.ntmps110
  go_wp2_with fail
  go_loop [4,5] (fun s4 s5=>∃k acc:Nat,s5=.int .i64 k∧s4=.int .i64 acc∧k≤l.length+1∧acc≤1000000∧Hid (acc < 10 ^ k)∧Hid (xY ((x::l).drop k) acc=xY (x::l) 0)) (fun _ s5=>l.length+1 - (intOf s5).toNat)
  case atStart=>exact ⟨0,0,by go_num,by go_num,by omega,by omega,Nat.one_pos,rfl⟩
  case round =>
   obtain ⟨k,acc,rfl,rfl,hk,hacc,Hacc,Hd⟩:=hrel
   clear a7 a8 a3 b0
   by_cases hkl:k < l.length+1
   ·obtain ⟨c,hc⟩:∃c,(x::l)[k]?=some c:=⟨_,List.getElem?_eq_getElem (by simpa using hkl)⟩
    have hkb:k < (bs (x::l)).size:=by rw [hsz];exact hkl
    have hget:(bs (x::l))[k]'hkb=c:=zAU hc
    have Hst:=zh (zKk hc acc)
    have hlt:decide ((k:Int) < (l.length:Int)+1)=true:=decide_eq_true (by omega)
    have hk0:(0:Int)≤(k:Int):=by omega
    have hk1:(k:Int) < (l.length:Int)+1:=by omega
    have hc256:=c.toNat_lt
    obtain ⟨m,hm⟩:∃m,c.toNat=m:=⟨_,rfl⟩
    rw [hm] at Hst
    rw [hm] at hc256
    clear hc
    by_cases g1:m < 48
    ·have t2:decide ((m:Int) < 48)=true:=by simp;omega
     have HY:=zh (zCC (l:=x::l) (by rw [HX.out,←Hd.out,Hst.out,if_neg (by omega)]))
     go_wp2_with fail
     go_ret2
     exact ⟨by rw [HY.out.1,HY.out.2];rfl,rfl⟩
    ·by_cases g2:57 < m
     ·have t2:decide ((m:Int) < 48)=false:=by simp;omega
      have t4:decide ((m:Int) > 57)=true:=by simp;omega
      have HY:=zh (zCC (l:=x::l) (by rw [HX.out,←Hd.out,Hst.out,if_neg (by omega)]))
      go_wp2_with fail
      go_ret2
      exact ⟨by rw [HY.out.1,HY.out.2];rfl,rfl⟩
     ·have t2:decide ((m:Int) < 48)=false:=by simp;omega
      have t4:decide ((m:Int) > 57)=false:=by simp;omega
      have hmz:(m:Int)≤57:=by omega
      have hmz0:(48:Int)≤(m:Int):=by omega
      have haz0:(0:Int)≤(acc:Int):=by omega
      have haz:(acc:Int)≤1000000:=by omega
      have hacc2:10*acc+(m - 48) < 10 ^ (k+1):=by have:=Hacc.out;rw [Nat.pow_succ];omega
      have hp6:10 ^ (k+1)≤10 ^ 6:=Nat.pow_le_pow_right (by omega) (by omega)
      have Ha2:=zh hacc2
      have hb6:10*acc+(m - 48)≤1000000:=by omega
      have HN:Hid (xY ((x::l).drop (k+1)) (10*acc+(m - 48))=xY (x::l) 0):=show _=_ by
       rw [←Hd.out,Hst.out,if_pos (by omega)]
      have hw1:IntKind.u8.wrap ((m:Int) - 48)=((m - 48:Nat):Int):=by
       rw [show IntKind.u8.wrap ((m:Int) - 48)=((m:Int) - 48) % 256 from rfl];omega
      have hw2:IntKind.i64.wrap ((10:Int)*(acc:Int))=10*acc:=by rw [IntKind.wrap_i64];omega
      have hw3:IntKind.i64.wrap ((10:Int)*(acc:Int)+((m - 48:Nat):Int))=((10*acc+(m - 48):Nat):Int):=by rw [IntKind.wrap_i64];omega
      clear hacc2 hp6
      go_wp2_with fail
      go_round
      case rel=>exact ⟨k+1,10*acc+(m - 48),by go_num,by go_num,by omega,by omega,Ha2.out,HN.out⟩
      case measure=>simp [intOf];omega
   ·obtain rfl:k=l.length+1:=by omega
    have hlt:decide ((l.length:Int)+1 < (l.length:Int)+1)=false:=by simp
    have HY:=zh (zHn (l:=x::l) (n:=acc) (by rw [HX.out,←Hd.out];simp [xY]))
    go_wp2_with fail
    go_ret2
    exact ⟨by rw [HY.out.1,HY.out.2];rfl,rfl⟩
theorem zDh (l:zA) (w:World):Calls Tryz.prog 110 #[vs (bs l)] w (zEc l w):=by
 match l with
 | []=>exact zSY w
 | x::l =>
   by_cases h6:6 < l.length+1
   ·exact zSZ x l h6 w
   ·by_cases h0:x.toNat=48
    ·obtain rfl:x=48:=UInt8.toNat_inj.1 h0
     by_cases h1:l.length=0
     ·exact zLk 48 l (by omega) (.inl ⟨rfl,h1⟩) w
     ·exact zSa l (by omega) (by omega) w
    ·exact zLk x l (by omega) (.inr h0) w
def xD:Nat→zA→Nat→Option Nat
 | x,_,0=>some x
 | x,d::t,m+1=>if 128≤d.toNat∧d.toNat≤191 then xD (64*x+d.toNat % 64) t m else none
 | _,[],_+1=>none
def surr (x:Nat):Prop:=x < 2048∨(55296≤x∧x < 57344)
instance (x:Nat):Decidable (surr x):=by unfold surr;exact inferInstance
theorem zSb {c:UInt8} {t:zA} (h:c.toNat < 128):let1 (c::t)=some (c.toNat,1):=by
 simp only [let1,if_pos h]
theorem zSc {c:UInt8} {t:zA} (h:194≤c.toNat∧c.toNat < 224):let1 (c::t)=(xD (c.toNat % 32) t 1).map fun x=>(x,2):=by
 simp only [let1,if_neg (show ¬c.toNat < 128 by omega),if_pos h]
 match t with
 | []=>rfl
 | d::t =>
   simp only [xD]
   split<;>rfl
theorem zSd {c:UInt8} {t:zA} (h:224≤c.toNat∧c.toNat < 240):let1 (c::t)=(xD (c.toNat % 16) t 2).bind fun x=>if surr x then none else some (x,3):=by
 simp only [let1,if_neg (show ¬c.toNat < 128 by omega),if_neg (show ¬(194≤c.toNat∧c.toNat < 224) by omega),if_pos h]
 match t with
 | []=>rfl
 | [d] =>
   simp only [xD]
   split<;>rfl
 | d::e::t =>
   simp only [xD]
   by_cases h1:128≤d.toNat∧d.toNat≤191
   ·by_cases h2:128≤e.toNat∧e.toNat≤191
    ·rw [if_pos ⟨h1,h2⟩,if_pos h1,if_pos h2];rfl
    ·rw [if_neg (fun h=>h2 h.2),if_pos h1,if_neg h2];rfl
   ·rw [if_neg (fun h=>h1 h.1),if_neg h1];rfl
theorem zSe {c:UInt8} {t:zA} (h:¬c.toNat < 128) (h1:¬(194≤c.toNat∧c.toNat < 224)) (h2:¬(224≤c.toNat∧c.toNat < 240)):let1 (c::t)=none:=by
 simp only [let1,if_neg h,if_neg h1,if_neg h2]
theorem zIF:∀(t:zA) (x m:Nat),t.length < m→xD x t m=none
 | [],_,0,h=>by omega
 | [],_,m+1,_=>rfl
 | d::t,x,0,h=>by simp at h
 | d::t,x,m+1,h=>by
   simp only [xD]
   split
   ·exact zIF t _ m (by simp at h;omega)
   ·rfl
theorem zLl:∀(f g:Nat) (l:zA),l.length≤f→l.length≤g→zt f l=zt g l
 | 0,0,_,_,_=>rfl
 | 0,g+1,l,hf,_=>by
   obtain rfl:l=[]:=List.length_eq_zero_iff.1 (by omega)
   simp [zt]
 | f+1,0,l,_,hg=>by
   obtain rfl:l=[]:=List.length_eq_zero_iff.1 (by omega)
   simp [zt]
 | f+1,g+1,l,hf,hg=>by
   simp only [zt]
   by_cases h:l=[]
   ·rw [if_pos h,if_pos h]
   ·rw [if_neg h,if_neg h]
    cases h1:let1 l with
    | none=>rfl
    | some x =>
      obtain ⟨_,h2,h3,_,_⟩:=zFp h1
      simp only []
      rw [zLl f g (l.drop x.2) (by simp;omega) (by simp;omega)]
theorem zSf {l:zA} {k:Nat} (hk:k < l.length):zt (l.drop k).length (l.drop k)=match let1 (l.drop k) with | none=>none | some x=>(zt (l.drop (k+x.2)).length (l.drop (k+x.2))).map (x.1::·):=by
 obtain ⟨f,hf⟩:∃f,(l.drop k).length=f+1:=⟨l.length - k - 1,by simp;omega⟩
 have hne:l.drop k≠[]:=fun e=>by rw [e] at hf;cases hf
 rw [hf,zt,if_neg hne]
 cases h1:let1 (l.drop k) with
 | none=>rfl
 | some x =>
   obtain ⟨_,h2,h3,_,_⟩:=zFp h1
   simp only [List.drop_drop]
   rw [zLl f _ (l.drop (k+x.2)) (by simp at hf ⊢;omega) (Nat.le_refl _)]
theorem zLm {l:zA} {j:Nat} {d:UInt8} (h:l[j]?=some d) (x m:Nat):xD x (l.drop j) (m+1)=if 128≤d.toNat∧d.toNat≤191 then xD (64*x+d.toNat % 64) (l.drop (j+1)) m else none:=by
 have hk:=(List.getElem?_eq_some_iff.1 h).1
 rw [List.drop_eq_getElem_cons hk,(List.getElem?_eq_some_iff.1 h).2]
 rfl
abbrev encN (n:Nat):Value:=vi n
def zAL (l:zA) (w:World) (e:Ending) (w':World):Prop:=
 Below w.heap.size w w'∧match zt l.length l with
  | none=>e=.returned (.tuple #[.slice none 0 0,.bool false])
  | some cs=>∃v,e=.returned (.tuple #[v,.bool true])∧SlAt w' 3 1 (fun b=>w.heap.size≤b) v cs.length (cs.map encN)
theorem zAL.no {l:zA} {w w':World} (hb:Below w.heap.size w w') (h:zt l.length l=none):zAL l w (.returned (.tuple #[.slice none 0 0,.bool false])) w':=⟨hb,by rw [h]⟩
theorem zAL.yes {l:zA} {w w':World} {cs:List Nat} {v:Value} (hb:Below w.heap.size w w') (h:zt l.length l=some cs) (hs:SlAt w' 3 1 (fun b=>w.heap.size≤b) v cs.length (cs.map encN)):zAL l w (.returned (.tuple #[v,.bool true])) w':=⟨hb,by rw [h];exact ⟨v,rfl,hs⟩⟩
theorem zLn (l:zA) (hl:l.length≤1099511627776) (w:World):Calls Tryz.prog 153 #[vs (bs l)] w (zAL l w):=by
 have hsz:(bs l).size=l.length:=yP _
 go_enter Tryz.func153,Tryz.ntmps153
 go_wp2_with fail
 go_loopw [4,5] (fun s4 s5 wr=>∃(k:Nat) (cs:List Nat),s5=.int .i64 k∧k≤l.length∧Hid (SlAt wr 3 1 (fun b=>w.heap.size≤b) s4 cs.length (cs.map encN))∧Hid (Below w.heap.size w wr)∧Hid (cs.length≤k)∧Hid (zt l.length l=(zt (l.drop k).length (l.drop k)).map (cs++·))) (fun _ s5 _=>l.length - (intOf s5).toNat)
 case atStart=>exact ⟨0,[],by go_num,Nat.zero_le _,SlAt.nil,Below.refl _ _,Nat.zero_le _,show _=_ by simp⟩
 case round =>
  obtain ⟨k,cs,rfl,hk,HS,HB,HLE,HR⟩:=hrel
  by_cases hkl:k < l.length
  ·have hlt:decide ((k:Int) < (l.length:Int))=true:=decide_eq_true (by omega)
   obtain ⟨c,hc⟩:∃c,l[k]?=some c:=⟨_,List.getElem?_eq_getElem hkl⟩
   have hkb:k < (bs l).size:=by rw [hsz];exact hkl
   have hget:(bs l)[k]'hkb=c:=zAU hc
   have hk0:(0:Int)≤(k:Int):=by omega
   have hk1:(k:Int) < (l.length:Int):=by omega
   have HST:=zh (zSf hkl)
   have hdr:l.drop k=c::l.drop (k+1):=by
    rw [List.drop_eq_getElem_cons hkl,(List.getElem?_eq_some_iff.1 hc).2]
   have HDR:=zh hdr
   have hc256:=c.toNat_lt
   obtain ⟨m,hm⟩:∃m,c.toNat=m:=⟨_,rfl⟩
   have HM:=zh hm
   have hwm:IntKind.i64.wrap (m:Int)=(m:Int):=by rw [IntKind.wrap_i64];omega
   rw [hm] at hc256
   have HSA:=zh (fun x:Nat=>HS.out.of_blk (w':=wr.alloc (.cells #[vi x] 3)) (fun b _ hl=>zP wr hl) (fun b hb _=>hb))
   have HBD:=zh (show cs.length+1≤maxLen∧(cs.length+1)*8≤140737488355328 by have:=HLE.out;unfold maxLen;omega)
   obtain ⟨va,vc,hv1,hv2,hv3⟩:=HS.out.form'
   subst hv1
   clear hc hdr hv2 hv3
   by_cases r1:m < 128
   ·have t1:decide ((m:Int) < 128)=true:=decide_eq_true (by omega)
    have HL1:Hid (let1 (l.drop k)=some (m,1)):=show _=_ by rw [HDR.out,zSb (by rw [HM.out];exact r1),HM.out]
    have HL1c:=HL1
    have hx128:m < 128:=r1
    by_cases hlong:l.length < k+1
    ·have t14:decide ((k:Int)+1 > (l.length:Int))=true:=decide_eq_true (by omega)
     omega
    ·have t14:decide ((k:Int)+1 > (l.length:Int))=false:=decide_eq_false (by omega)
     go_wp2_with fail
     go_loop [6,8] (fun s6 s8=>∃j x:Nat,s8=.int .i64 j∧s6=.int .i64 x∧1≤j∧j≤1∧(j=1→x < 128)∧(j≤2→x < 2048)∧x < 200000∧Hid (xD m (l.drop (k+1)) 0=xD x (l.drop (k+j)) (1 - j))) (fun _ s8=>1 - (intOf s8).toNat)
     case atStart=>exact ⟨1,m,by go_num,by go_num,by omega,by omega,by intro;omega,by intro;omega,by omega,rfl⟩
     case round =>
      obtain ⟨j,x,rfl,rfl,hj1,hjN,hxj1,hxj2,hx3,HC⟩:=hrel
      by_cases hjl:j < 1
      ·omega
      ·obtain rfl:j=1:=by omega
       have hlt2:decide ((1:Int) < 1)=false:=by decide
       have HX:Hid (xD m (l.drop (k+1)) 0=some x):=show _=_ by rw [HC.out];rfl
       have hl1:let1 (l.drop k)=some (x,1):=by rw [HL1.out];cases HX.out;rfl
       have HL2:=zh hl1
       clear hl1
       have HRN:Hid (zt l.length l=(zt (l.drop (k+1)).length (l.drop (k+1))).map ((cs++[x])++·)):=show _=_ by rw [HR.out,HST.out,HL2.out];simp only [];rw [Option.map_map];exact congrArg (fun f=>Option.map f _) (funext fun y=>by simp)
       go_wp2_with (at_builtin;refine xy _ rfl _ _ _ _ rfl zBC rfl (HSA.out x) rfl (xV wr Tryz.underlying46 [vi x] (by rfl) (by simp [Value.oneCell']) wr.heap.size (by simp)) (by omega) HBD.out.1 HBD.out.2 ?_;intro g goff gcap w5 hg5 hs5 hf5 hlt5 _ _;have HS5:=zh hs5;have HG5:=zh hg5;have HF5:=zh hf5;clear hs5 hf5 hg5)
       go_roundw
       case rel =>
        have hge:w.heap.size≤g:=HG5.out.elim id fun h=>by rw [h];simp;exact Nat.le_succ_of_le HB.out.size
        refine ⟨k+1,cs++[x],by go_num,by omega,?_,?_,?_,HRN.out⟩
        ·have:=HS5.out
         show SlAt _ _ _ _ _ _ _
         rw [List.length_append,List.length_singleton,List.map_append]
         exact this.of_blk (fun _ _ _=>rfl) (fun b hb _=>by have hb:b=g:=hb;rw [hb];exact hge)
        ·exact Below.trans (HB.out.alloc HB.out.size _) (HF5.out.below (by simp;exact Nat.le_succ_of_le HB.out.size) (fun b hb=>by have hb:b=g:=hb;rw [hb];exact hge))
        ·show (cs++[x]).length≤k+1
         have:=HLE.out;simp;omega
       case measure=>simp [intOf];omega
   by_cases r2:194≤m∧m < 224
   ·have t1:decide ((m:Int) < 128)=false:=decide_eq_false (by omega)
    have t2:decide ((m:Int)≥194)=true:=decide_eq_true (by omega)
    have t3:decide ((m:Int) < 224)=true:=decide_eq_true (by omega)
    have t4:(m:Int) % 32=((m % 32:Nat):Int):=by omega
    have HL1:Hid (let1 (l.drop k)=(xD (m % 32) (l.drop (k+1)) 1).map fun x=>(x,2)):=show _=_ by rw [HDR.out,zSc (by rw [HM.out];exact r2),HM.out]
    obtain ⟨x0,hx0⟩:∃x0,m % 32=x0:=⟨_,rfl⟩
    rw [hx0] at t4 HL1
    have hx32:x0 < 32:=by omega
    clear r1 r2 hx0
    by_cases hlong:l.length < k+2
    ·have t14:decide ((k:Int)+2 > (l.length:Int))=true:=decide_eq_true (by omega)
     have HN:Hid (zt l.length l=none):=show _=_ by rw [HR.out,HST.out,HL1.out,zIF _ _ _ (by simp;omega)];rfl
     clear hlong
     go_wp2_with fail
     go_ret2
     exact zAL.no HB.out HN.out
    ·have t14:decide ((k:Int)+2 > (l.length:Int))=false:=decide_eq_false (by omega)
     go_wp2_with fail
     go_loop [6,8] (fun s6 s8=>∃j x:Nat,s8=.int .i64 j∧s6=.int .i64 x∧1≤j∧j≤2∧(j=1→x < 32)∧(j≤2→x < 2048)∧x < 200000∧Hid (xD x0 (l.drop (k+1)) 1=xD x (l.drop (k+j)) (2 - j))) (fun _ s8=>2 - (intOf s8).toNat)
     case atStart=>exact ⟨1,x0,by go_num,by go_num,by omega,by omega,by intro;omega,by intro;omega,by omega,rfl⟩
     case round =>
      obtain ⟨j,x,rfl,rfl,hj1,hjN,hxj1,hxj2,hx3,HC⟩:=hrel
      by_cases hjl:j < 2
      ·have hlt2:decide ((j:Int) < 2)=true:=decide_eq_true (by omega)
       obtain ⟨d,hd⟩:∃d,l[k+j]?=some d:=⟨_,List.getElem?_eq_getElem (by omega)⟩
       have hdb:k+j < (bs l).size:=by rw [hsz];omega
       have hdg:(bs l)[k+j]'hdb=d:=zAU hd
       have hd256:=d.toNat_lt
       have HCS:=zh (zLm hd x (2 - (j+1)))
       have hkj0:(0:Int)≤(k:Int)+(j:Int):=by omega
       have hkj1:(k:Int)+(j:Int) < (l.length:Int):=by omega
       obtain ⟨y,hy⟩:∃y,d.toNat=y:=⟨_,rfl⟩
       have hwd:IntKind.i64.wrap (y:Int)=(y:Int):=by rw [IntKind.wrap_i64];omega
       rw [hy] at HCS
       rw [hy] at hd256
       clear hd
       by_cases g1:y < 128
       ·have u1:decide ((y:Int) < 128)=true:=decide_eq_true (by omega)
        have HN:Hid (zt l.length l=none):=show _=_ by rw [HR.out,HST.out,HL1.out,HC.out,show 2 - j=2 - (j+1)+1 by omega,HCS.out,if_neg (by omega)];rfl
        go_wp2_with fail
        go_ret2
        exact zAL.no HB.out HN.out
       ·by_cases g2:191 < y
        ·have u1:decide ((y:Int) < 128)=false:=decide_eq_false (by omega)
         have u2:decide ((y:Int) > 191)=true:=decide_eq_true (by omega)
         have HN:Hid (zt l.length l=none):=show _=_ by rw [HR.out,HST.out,HL1.out,HC.out,show 2 - j=2 - (j+1)+1 by omega,HCS.out,if_neg (by omega)];rfl
         go_wp2_with fail
         go_ret2
         exact zAL.no HB.out HN.out
        ·have u1:decide ((y:Int) < 128)=false:=decide_eq_false (by omega)
         have u2:decide ((y:Int) > 191)=false:=decide_eq_false (by omega)
         have hx2:x < 2048:=hxj2 (by omega)
         have hx1:j+1≤2→x < 32:=fun h=>by have:=hxj1 (by omega);omega
         have HCN:Hid (xD x0 (l.drop (k+1)) 1=xD (64*x+y % 64) (l.drop (k+(j+1))) (2 - (j+1))):=show _=_ by rw [HC.out,show 2 - j=2 - (j+1)+1 by omega,HCS.out,if_pos (by omega),Nat.add_assoc]
         have hvb:(j+1≤2→64*x+y % 64 < 2048)∧64*x+y % 64 < 200000:=⟨fun h=>by have:=hx1 h;omega,by omega⟩
         have Hvb:=zh hvb
         clear hxj1 hxj2 hx1 hvb
         go_wp2_with fail
         go_round
         case rel=>exact ⟨j+1,64*x+y % 64,by go_num,by go_num,by omega,by omega,by intro;omega,Hvb.out.1,Hvb.out.2,HCN.out⟩
         case measure=>simp [intOf];omega
      ·obtain rfl:j=2:=by omega
       have hlt2:decide ((2:Int) < 2)=false:=by decide
       have HX:Hid (xD x0 (l.drop (k+1)) 1=some x):=show _=_ by rw [HC.out];rfl
       have hl1:let1 (l.drop k)=some (x,2):=by rw [HL1.out,HX.out];rfl
       have HL2:=zh hl1
       clear hl1
       have HRN:Hid (zt l.length l=(zt (l.drop (k+2)).length (l.drop (k+2))).map ((cs++[x])++·)):=show _=_ by rw [HR.out,HST.out,HL2.out];simp only [];rw [Option.map_map];exact congrArg (fun f=>Option.map f _) (funext fun y=>by simp)
       go_wp2_with (at_builtin;refine xy _ rfl _ _ _ _ rfl zBC rfl (HSA.out x) rfl (xV wr Tryz.underlying46 [vi x] (by rfl) (by simp [Value.oneCell']) wr.heap.size (by simp)) (by omega) HBD.out.1 HBD.out.2 ?_;intro g goff gcap w5 hg5 hs5 hf5 hlt5 _ _;have HS5:=zh hs5;have HG5:=zh hg5;have HF5:=zh hf5;clear hs5 hf5 hg5)
       go_roundw
       case rel =>
        have hge:w.heap.size≤g:=HG5.out.elim id fun h=>by rw [h];simp;exact Nat.le_succ_of_le HB.out.size
        refine ⟨k+2,cs++[x],by go_num,by omega,?_,?_,?_,HRN.out⟩
        ·have:=HS5.out
         show SlAt _ _ _ _ _ _ _
         rw [List.length_append,List.length_singleton,List.map_append]
         exact this.of_blk (fun _ _ _=>rfl) (fun b hb _=>by have hb:b=g:=hb;rw [hb];exact hge)
        ·exact Below.trans (HB.out.alloc HB.out.size _) (HF5.out.below (by simp;exact Nat.le_succ_of_le HB.out.size) (fun b hb=>by have hb:b=g:=hb;rw [hb];exact hge))
        ·show (cs++[x]).length≤k+2
         have:=HLE.out;simp;omega
       case measure=>simp [intOf];omega
   by_cases r3:224≤m∧m < 240
   ·have t1:decide ((m:Int) < 128)=false:=decide_eq_false (by omega)
    have t4:(m:Int) % 16=((m % 16:Nat):Int):=by omega
    have t2:decide ((m:Int)≥194)=true:=decide_eq_true (by omega)
    have t3:decide ((m:Int) < 224)=false:=decide_eq_false (by omega)
    have t5:decide ((m:Int)≥224)=true:=decide_eq_true (by omega)
    have t6:decide ((m:Int) < 240)=true:=decide_eq_true (by omega)
    have HL1:Hid (let1 (l.drop k)=(xD (m % 16) (l.drop (k+1)) 2).bind fun x=>if surr x then none else some (x,3)):=show _=_ by rw [HDR.out,zSd (by rw [HM.out];exact r3),HM.out]
    obtain ⟨x0,hx0⟩:∃x0,m % 16=x0:=⟨_,rfl⟩
    rw [hx0] at t4 HL1
    have hx32:x0 < 32:=by omega
    clear r1 r2 r3 hx0
    by_cases hlong:l.length < k+3
    ·have t14:decide ((k:Int)+3 > (l.length:Int))=true:=decide_eq_true (by omega)
     have HN:Hid (zt l.length l=none):=show _=_ by rw [HR.out,HST.out,HL1.out,zIF _ _ _ (by simp;omega)];rfl
     clear hlong
     go_wp2_with fail
     go_ret2
     exact zAL.no HB.out HN.out
    ·have t14:decide ((k:Int)+3 > (l.length:Int))=false:=decide_eq_false (by omega)
     go_wp2_with fail
     go_loop [6,8] (fun s6 s8=>∃j x:Nat,s8=.int .i64 j∧s6=.int .i64 x∧1≤j∧j≤3∧(j=1→x < 32)∧(j≤2→x < 2048)∧x < 200000∧Hid (xD x0 (l.drop (k+1)) 2=xD x (l.drop (k+j)) (3 - j))) (fun _ s8=>3 - (intOf s8).toNat)
     case atStart=>exact ⟨1,x0,by go_num,by go_num,by omega,by omega,by intro;omega,by intro;omega,by omega,rfl⟩
     case round =>
      obtain ⟨j,x,rfl,rfl,hj1,hjN,hxj1,hxj2,hx3,HC⟩:=hrel
      by_cases hjl:j < 3
      ·have hlt2:decide ((j:Int) < 3)=true:=decide_eq_true (by omega)
       obtain ⟨d,hd⟩:∃d,l[k+j]?=some d:=⟨_,List.getElem?_eq_getElem (by omega)⟩
       have hdb:k+j < (bs l).size:=by rw [hsz];omega
       have hdg:(bs l)[k+j]'hdb=d:=zAU hd
       have hd256:=d.toNat_lt
       have HCS:=zh (zLm hd x (3 - (j+1)))
       have hkj0:(0:Int)≤(k:Int)+(j:Int):=by omega
       have hkj1:(k:Int)+(j:Int) < (l.length:Int):=by omega
       obtain ⟨y,hy⟩:∃y,d.toNat=y:=⟨_,rfl⟩
       have hwd:IntKind.i64.wrap (y:Int)=(y:Int):=by rw [IntKind.wrap_i64];omega
       rw [hy] at HCS
       rw [hy] at hd256
       clear hd
       by_cases g1:y < 128
       ·have u1:decide ((y:Int) < 128)=true:=decide_eq_true (by omega)
        have HN:Hid (zt l.length l=none):=show _=_ by rw [HR.out,HST.out,HL1.out,HC.out,show 3 - j=3 - (j+1)+1 by omega,HCS.out,if_neg (by omega)];rfl
        go_wp2_with fail
        go_ret2
        exact zAL.no HB.out HN.out
       ·by_cases g2:191 < y
        ·have u1:decide ((y:Int) < 128)=false:=decide_eq_false (by omega)
         have u2:decide ((y:Int) > 191)=true:=decide_eq_true (by omega)
         have HN:Hid (zt l.length l=none):=show _=_ by rw [HR.out,HST.out,HL1.out,HC.out,show 3 - j=3 - (j+1)+1 by omega,HCS.out,if_neg (by omega)];rfl
         go_wp2_with fail
         go_ret2
         exact zAL.no HB.out HN.out
        ·have u1:decide ((y:Int) < 128)=false:=decide_eq_false (by omega)
         have u2:decide ((y:Int) > 191)=false:=decide_eq_false (by omega)
         have hx2:x < 2048:=hxj2 (by omega)
         have hx1:j+1≤2→x < 32:=fun h=>by have:=hxj1 (by omega);omega
         have HCN:Hid (xD x0 (l.drop (k+1)) 2=xD (64*x+y % 64) (l.drop (k+(j+1))) (3 - (j+1))):=show _=_ by rw [HC.out,show 3 - j=3 - (j+1)+1 by omega,HCS.out,if_pos (by omega),Nat.add_assoc]
         have hvb:(j+1≤2→64*x+y % 64 < 2048)∧64*x+y % 64 < 200000:=⟨fun h=>by have:=hx1 h;omega,by omega⟩
         have Hvb:=zh hvb
         clear hxj1 hxj2 hx1 hvb
         go_wp2_with fail
         go_round
         case rel=>exact ⟨j+1,64*x+y % 64,by go_num,by go_num,by omega,by omega,by intro;omega,Hvb.out.1,Hvb.out.2,HCN.out⟩
         case measure=>simp [intOf];omega
      ·obtain rfl:j=3:=by omega
       have hlt2:decide ((3:Int) < 3)=false:=by decide
       have HX:Hid (xD x0 (l.drop (k+1)) 2=some x):=show _=_ by rw [HC.out];rfl
       by_cases s1:x < 2048
       ·have v1:decide ((x:Int) < 2048)=true:=decide_eq_true (by omega)
        have HN:Hid (zt l.length l=none):=show _=_ by rw [HR.out,HST.out,HL1.out,HX.out];simp only [Option.bind_some];rw [if_pos (show surr x from Or.inl s1)];rfl
        go_wp2_with fail
        go_ret2
        exact zAL.no HB.out HN.out
       by_cases s2:55296≤x∧x < 57344
       ·have v1:decide ((x:Int) < 2048)=false:=decide_eq_false (by omega)
        have v2:decide ((x:Int)≥55296)=true:=decide_eq_true (by omega)
        have v3:decide ((x:Int) < 57344)=true:=decide_eq_true (by omega)
        have HN:Hid (zt l.length l=none):=show _=_ by rw [HR.out,HST.out,HL1.out,HX.out];simp only [Option.bind_some];rw [if_pos (show surr x from Or.inr s2)];rfl
        clear s1 s2
        go_wp2_with fail
        go_ret2
        exact zAL.no HB.out HN.out
       have v1:decide ((x:Int) < 2048)=false:=decide_eq_false (by omega)
       have hs:¬surr x:=fun h=>h.elim s1 s2
       have hl1:let1 (l.drop k)=some (x,3):=by rw [HL1.out,HX.out];simp only [Option.bind_some];rw [if_neg hs]
       have HL2:=zh hl1
       clear hs hl1
       have v23:(decide ((x:Int)≥55296)=true∧decide ((x:Int) < 57344)=false)∨decide ((x:Int)≥55296)=false:=by
        rcases Nat.lt_or_ge x 55296 with h | h
        ·exact .inr (decide_eq_false (by omega))
        ·exact .inl ⟨decide_eq_true (by omega),decide_eq_false (by omega)⟩
       clear s1 s2
       rcases v23 with ⟨v2,v3⟩ | v2
       ·have HRN:Hid (zt l.length l=(zt (l.drop (k+3)).length (l.drop (k+3))).map ((cs++[x])++·)):=show _=_ by rw [HR.out,HST.out,HL2.out];simp only [];rw [Option.map_map];exact congrArg (fun f=>Option.map f _) (funext fun y=>by simp)
        go_wp2_with (at_builtin;refine xy _ rfl _ _ _ _ rfl zBC rfl (HSA.out x) rfl (xV wr Tryz.underlying46 [vi x] (by rfl) (by simp [Value.oneCell']) wr.heap.size (by simp)) (by omega) HBD.out.1 HBD.out.2 ?_;intro g goff gcap w5 hg5 hs5 hf5 hlt5 _ _;have HS5:=zh hs5;have HG5:=zh hg5;have HF5:=zh hf5;clear hs5 hf5 hg5)
        go_roundw
        case rel =>
         have hge:w.heap.size≤g:=HG5.out.elim id fun h=>by rw [h];simp;exact Nat.le_succ_of_le HB.out.size
         refine ⟨k+3,cs++[x],by go_num,by omega,?_,?_,?_,HRN.out⟩
         ·have:=HS5.out
          show SlAt _ _ _ _ _ _ _
          rw [List.length_append,List.length_singleton,List.map_append]
          exact this.of_blk (fun _ _ _=>rfl) (fun b hb _=>by have hb:b=g:=hb;rw [hb];exact hge)
         ·exact Below.trans (HB.out.alloc HB.out.size _) (HF5.out.below (by simp;exact Nat.le_succ_of_le HB.out.size) (fun b hb=>by have hb:b=g:=hb;rw [hb];exact hge))
         ·show (cs++[x]).length≤k+3
          have:=HLE.out;simp;omega
        case measure=>simp [intOf];omega
       ·have HRN:Hid (zt l.length l=(zt (l.drop (k+3)).length (l.drop (k+3))).map ((cs++[x])++·)):=show _=_ by rw [HR.out,HST.out,HL2.out];simp only [];rw [Option.map_map];exact congrArg (fun f=>Option.map f _) (funext fun y=>by simp)
        go_wp2_with (at_builtin;refine xy _ rfl _ _ _ _ rfl zBC rfl (HSA.out x) rfl (xV wr Tryz.underlying46 [vi x] (by rfl) (by simp [Value.oneCell']) wr.heap.size (by simp)) (by omega) HBD.out.1 HBD.out.2 ?_;intro g goff gcap w5 hg5 hs5 hf5 hlt5 _ _;have HS5:=zh hs5;have HG5:=zh hg5;have HF5:=zh hf5;clear hs5 hf5 hg5)
        go_roundw
        case rel =>
         have hge:w.heap.size≤g:=HG5.out.elim id fun h=>by rw [h];simp;exact Nat.le_succ_of_le HB.out.size
         refine ⟨k+3,cs++[x],by go_num,by omega,?_,?_,?_,HRN.out⟩
         ·have:=HS5.out
          show SlAt _ _ _ _ _ _ _
          rw [List.length_append,List.length_singleton,List.map_append]
          exact this.of_blk (fun _ _ _=>rfl) (fun b hb _=>by have hb:b=g:=hb;rw [hb];exact hge)
         ·exact Below.trans (HB.out.alloc HB.out.size _) (HF5.out.below (by simp;exact Nat.le_succ_of_le HB.out.size) (fun b hb=>by have hb:b=g:=hb;rw [hb];exact hge))
         ·show (cs++[x]).length≤k+3
          have:=HLE.out;simp;omega
        case measure=>simp [intOf];omega
   have t1:decide ((m:Int) < 128)=false:=decide_eq_false (by omega)
   have HN:Hid (zt l.length l=none):=show _=_ by rw [HR.out,HST.out,HDR.out,zSe (by rw [HM.out];exact r1) (by rw [HM.out];exact r2) (by rw [HM.out];exact r3)];rfl
   rcases (show (decide ((m:Int)≥194)=false∧decide ((m:Int)≥224)=false)∨(decide ((m:Int)≥194)=true∧decide ((m:Int) < 224)=false∧decide ((m:Int)≥224)=true∧decide ((m:Int) < 240)=false) by
    rcases Nat.lt_or_ge m 194 with h | h
    ·exact .inl ⟨decide_eq_false (by omega),decide_eq_false (by omega)⟩
    ·exact .inr ⟨decide_eq_true (by omega),decide_eq_false (by omega),decide_eq_true (by omega),decide_eq_false (by omega)⟩) with ⟨t2,t3⟩ | ⟨t2,t3,t4,t5⟩
   all_goals
    clear r1 r2 r3
    go_wp2_with fail
    go_ret2
    exact zAL.no HB.out HN.out
  ·obtain rfl:k=l.length:=by omega
   have hlt:decide ((l.length:Int) < (l.length:Int))=false:=by simp
   have HN:Hid (zt l.length l=some cs):=show _=_ by rw [HR.out,List.drop_length];simp [zt]
   obtain ⟨va,vc,hv1,hv2,hv3⟩:=HS.out.form'
   go_wp2_with fail
   go_ret2
   exact zAL.yes HB.out HN.out HS.out
theorem zAL.parts {l:zA} {w w':World} {e:Ending} (h:zAL l w e w'):∃v ok cs,e=.returned (.tuple #[v,.bool ok])∧SlAt w' 3 1 (fun b=>w.heap.size≤b) v cs.length (cs.map encN)∧Below w.heap.size w w'∧zt l.length l=(if ok then some cs else none)∧cs.length≤l.length:=by
 obtain ⟨h1,h2⟩:=h
 cases h3:zt l.length l with
 | none =>
   rw [h3] at h2
   exact ⟨_,false,[],h2,SlAt.nil,h1,rfl,Nat.zero_le _⟩
 | some cs =>
   rw [h3] at h2
   obtain ⟨v,h4,h5⟩:=h2
   refine ⟨v,true,cs,h4,h5,h1,rfl,?_⟩
   have h6:=(zHp _ l cs (Nat.le_refl _) h3).2
   have:∀(f:Nat) (l:zA),(zAV f l).length≤f:=by
    intro f
    induction f with
    | zero=>intro l;simp [zAV]
    | succ f ih =>
      intro l
      unfold zAV
      split
      ·simp
      ·simp;exact ih _
   rw [←h6]
   exact this _ _
theorem zSg (c:Nat):yN c=(decide (33≤c)&&decide (c≤126)||decide (161≤c)&&decide (c≤65535)):=by
 unfold yN
 rfl
theorem zLo (l:zA) (hl:l.length≤1099511627776) (w:World):Calls Tryz.prog 111 #[vs (bs l)] w fun e w'=>e=.returned (.bool (zAe l 12 yN))∧Below w.heap.size w w':=by
 have HL:=zh (zLn l hl w)
 have HRL:Hid (zAe l 12 yN=(match zt l.length l with | none=>false | some cs=>cs.all yN&&decide (1≤cs.length)&&decide (cs.length≤12))):=show _=_ from rfl
 obtain ⟨R,hR⟩:∃R,zAe l 12 yN=R:=⟨_,rfl⟩
 rw [hR] at HRL ⊢
 clear hR
 go_enter Tryz.func111,Tryz.ntmps111
 go_wp2_with fail
 refine HL.out.mono ?_
 intro e w1 hpost
 obtain ⟨v,ok,cs,rfl,hs,hb,hR,hn⟩:=hpost.parts
 have HS:=zh hs
 have HB:=zh hb
 have HR:Hid (R=(ok&&cs.all yN&&decide (1≤cs.length)&&decide (cs.length≤12))):=show _=_ by
  rw [HRL.out,hR]
  cases ok
  ·rfl
  ·simp
 obtain ⟨va,vc,hv1,hv2,hv3⟩:=hs.form'
 subst hv1
 obtain ⟨n,hnn⟩:∃n,cs.length=n:=⟨_,rfl⟩
 rw [hnn] at HS HR hv2 hn
 rw [hnn]
 have HN:=zh hnn
 clear hs hb hR hpost HL HRL hnn
 go_wp2_with fail
 go_loop [4,14] (fun s4 s14=>∃(k:Nat) (b:Bool),s14=.int .i64 k∧s4=.bool b∧k≤n∧Hid (b=(ok&&(cs.take k).all yN))) (fun _ s14=>n - (intOf s14).toNat)
 case atStart=>exact ⟨0,ok,by go_num,rfl,Nat.zero_le _,show _=_ by simp⟩
 case round =>
  obtain ⟨k,b,rfl,rfl,hk,Hb⟩:=hrel
  by_cases hkl:k < n
  ·have hlt:decide ((k:Int) < (n:Int))=true:=decide_eq_true (by omega)
   obtain ⟨c,hc⟩:∃c,cs[k]?=some c:=⟨_,List.getElem?_eq_getElem (by rw [HN.out];exact hkl)⟩
   obtain ⟨g,off,cap,hv,_,_,_,_,hcc,_⟩:=HS.out.form (by omega)
   obtain ⟨rfl,rfl⟩:va=some ⟨g,off,none⟩∧vc=cap:=by injection hv with e1 e2 e3;exact ⟨e1,e3⟩
   have ck:w1.cell? ⟨g,off+k,none⟩=some (vi c):=hcc k _ (by simp [hc])
   have hk0:(0:Int)≤(k:Int):=by omega
   have hk1:(k:Int) < (n:Int):=by omega
   have Hb2:Hid ((b&&yN c)=(ok&&(cs.take (k+1)).all yN)):=show _=_ by
    rw [Hb.out,List.take_add_one,hc];simp [Bool.and_assoc]
   have HLT:=zh (zSg c)
   clear hc hcc hv
   cases b with
   | false =>
     go_wp2_with fail
     go_round
     case rel=>exact ⟨k+1,false,by go_num,rfl,by omega,show _=_ by rw [←Hb2.out];rfl⟩
     case measure=>simp [intOf];omega
   | true =>
     by_cases g1:c < 33
     ·have q1:decide ((c:Int)≥33)=false:=decide_eq_false (by omega)
      have q3:decide ((c:Int)≥161)=false:=decide_eq_false (by omega)
      have hx:yN c=false:=by rw [HLT.out,decide_eq_false (show ¬33≤c by omega),decide_eq_false (show ¬161≤c by omega)];rfl
      rw [hx] at Hb2
      clear hx
      go_wp2_with fail
      go_round
      case rel=>exact ⟨k+1,false,by go_num,rfl,by omega,Hb2.out⟩
      case measure=>simp [intOf];omega
     by_cases g2:c≤126
     ·have q1:decide ((c:Int)≥33)=true:=decide_eq_true (by omega)
      have q2:decide ((c:Int)≤126)=true:=decide_eq_true (by omega)
      have hx:yN c=true:=by rw [HLT.out,decide_eq_true (show 33≤c by omega),decide_eq_true (show c≤126 by omega)];rfl
      rw [hx] at Hb2
      clear hx
      go_wp2_with fail
      go_round
      case rel=>exact ⟨k+1,true,by go_num,rfl,by omega,Hb2.out⟩
      case measure=>simp [intOf];omega
     have q1:decide ((c:Int)≥33)=true:=decide_eq_true (by omega)
     have q2:decide ((c:Int)≤126)=false:=decide_eq_false (by omega)
     by_cases g3:c < 161
     ·have q3:decide ((c:Int)≥161)=false:=decide_eq_false (by omega)
      have hx:yN c=false:=by rw [HLT.out,decide_eq_false (show ¬c≤126 by omega),decide_eq_false (show ¬161≤c by omega)];simp
      rw [hx] at Hb2
      clear hx
      go_wp2_with fail
      go_round
      case rel=>exact ⟨k+1,false,by go_num,rfl,by omega,Hb2.out⟩
      case measure=>simp [intOf];omega
     have q3:decide ((c:Int)≥161)=true:=decide_eq_true (by omega)
     by_cases g4:c≤65535
     ·have q4:decide ((c:Int)≤65535)=true:=decide_eq_true (by omega)
      have hx:yN c=true:=by rw [HLT.out,decide_eq_true (show 161≤c by omega),decide_eq_true (show c≤65535 by omega)];simp
      rw [hx] at Hb2
      clear hx
      go_wp2_with fail
      go_round
      case rel=>exact ⟨k+1,true,by go_num,rfl,by omega,Hb2.out⟩
      case measure=>simp [intOf];omega
     ·have q4:decide ((c:Int)≤65535)=false:=decide_eq_false (by omega)
      have hx:yN c=false:=by rw [HLT.out,decide_eq_false (show ¬c≤126 by omega),decide_eq_false (show ¬c≤65535 by omega)];simp
      rw [hx] at Hb2
      clear hx
      go_wp2_with fail
      go_round
      case rel=>exact ⟨k+1,false,by go_num,rfl,by omega,Hb2.out⟩
      case measure=>simp [intOf];omega
  ·obtain rfl:k=n:=by omega
   have hlt:decide ((k:Int) < (k:Int))=false:=by simp
   have HF:Hid (R=(b&&decide (1≤k)&&decide (k≤12))):=show _=_ by rw [HR.out,Hb.out,show cs.take k=cs from List.take_of_length_le (by rw [HN.out];exact Nat.le_refl _)]
   cases b with
   | false =>
     go_wp2_with fail
     go_ret
     exact ⟨by rw [HF.out];rfl,HB.out⟩
   | true =>
     have u1:decide ((k:Int)≥1)=decide (1≤k):=by rw [decide_eq_decide];omega
     have u2:decide ((k:Int)≤12)=decide (k≤12):=by rw [decide_eq_decide];omega
     by_cases g1:1≤k
     ·rw [decide_eq_true g1] at u1 HF
      clear g1
      go_wp2_with fail
      go_ret
      exact ⟨by rw [HF.out];rfl,HB.out⟩
     ·rw [decide_eq_false g1] at u1 HF
      clear g1
      go_wp2_with fail
      go_ret
      exact ⟨by rw [HF.out];rfl,HB.out⟩
theorem zSh (c:Nat):yW c=(decide (97≤c)&&decide (c≤122)||decide (945≤c)&&decide (c≤969)):=by
 unfold yW
 rfl
theorem zSi (l:zA) (hl:l.length≤1099511627776) (w:World):Calls Tryz.prog 112 #[vs (bs l)] w fun e w'=>e=.returned (.bool (zAe l 6 yW))∧Below w.heap.size w w':=by
 have HL:=zh (zLn l hl w)
 have HRL:Hid (zAe l 6 yW=(match zt l.length l with | none=>false | some cs=>cs.all yW&&decide (1≤cs.length)&&decide (cs.length≤6))):=show _=_ from rfl
 obtain ⟨R,hR⟩:∃R,zAe l 6 yW=R:=⟨_,rfl⟩
 rw [hR] at HRL ⊢
 clear hR
 go_enter Tryz.func112,Tryz.ntmps112
 go_wp2_with fail
 refine HL.out.mono ?_
 intro e w1 hpost
 obtain ⟨v,ok,cs,rfl,hs,hb,hR,hn⟩:=hpost.parts
 have HS:=zh hs
 have HB:=zh hb
 have HR:Hid (R=(ok&&cs.all yW&&decide (1≤cs.length)&&decide (cs.length≤6))):=show _=_ by
  rw [HRL.out,hR]
  cases ok
  ·rfl
  ·simp
 obtain ⟨va,vc,hv1,hv2,hv3⟩:=hs.form'
 subst hv1
 obtain ⟨n,hnn⟩:∃n,cs.length=n:=⟨_,rfl⟩
 rw [hnn] at HS HR hv2 hn
 rw [hnn]
 have HN:=zh hnn
 clear hs hb hR hpost HL HRL hnn
 go_wp2_with fail
 go_loop [4,14] (fun s4 s14=>∃(k:Nat) (b:Bool),s14=.int .i64 k∧s4=.bool b∧k≤n∧Hid (b=(ok&&(cs.take k).all yW))) (fun _ s14=>n - (intOf s14).toNat)
 case atStart=>exact ⟨0,ok,by go_num,rfl,Nat.zero_le _,show _=_ by simp⟩
 case round =>
  obtain ⟨k,b,rfl,rfl,hk,Hb⟩:=hrel
  by_cases hkl:k < n
  ·have hlt:decide ((k:Int) < (n:Int))=true:=decide_eq_true (by omega)
   obtain ⟨c,hc⟩:∃c,cs[k]?=some c:=⟨_,List.getElem?_eq_getElem (by rw [HN.out];exact hkl)⟩
   obtain ⟨g,off,cap,hv,_,_,_,_,hcc,_⟩:=HS.out.form (by omega)
   obtain ⟨rfl,rfl⟩:va=some ⟨g,off,none⟩∧vc=cap:=by injection hv with e1 e2 e3;exact ⟨e1,e3⟩
   have ck:w1.cell? ⟨g,off+k,none⟩=some (vi c):=hcc k _ (by simp [hc])
   have hk0:(0:Int)≤(k:Int):=by omega
   have hk1:(k:Int) < (n:Int):=by omega
   have Hb2:Hid ((b&&yW c)=(ok&&(cs.take (k+1)).all yW)):=show _=_ by
    rw [Hb.out,List.take_add_one,hc];simp [Bool.and_assoc]
   have HLT:=zh (zSh c)
   clear hc hcc hv
   cases b with
   | false =>
     go_wp2_with fail
     go_round
     case rel=>exact ⟨k+1,false,by go_num,rfl,by omega,show _=_ by rw [←Hb2.out];rfl⟩
     case measure=>simp [intOf];omega
   | true =>
     by_cases g1:c < 97
     ·have q1:decide ((c:Int)≥97)=false:=decide_eq_false (by omega)
      have q3:decide ((c:Int)≥945)=false:=decide_eq_false (by omega)
      have hx:yW c=false:=by rw [HLT.out,decide_eq_false (show ¬97≤c by omega),decide_eq_false (show ¬945≤c by omega)];rfl
      rw [hx] at Hb2
      clear hx
      go_wp2_with fail
      go_round
      case rel=>exact ⟨k+1,false,by go_num,rfl,by omega,Hb2.out⟩
      case measure=>simp [intOf];omega
     by_cases g2:c≤122
     ·have q1:decide ((c:Int)≥97)=true:=decide_eq_true (by omega)
      have q2:decide ((c:Int)≤122)=true:=decide_eq_true (by omega)
      have hx:yW c=true:=by rw [HLT.out,decide_eq_true (show 97≤c by omega),decide_eq_true (show c≤122 by omega)];rfl
      rw [hx] at Hb2
      clear hx
      go_wp2_with fail
      go_round
      case rel=>exact ⟨k+1,true,by go_num,rfl,by omega,Hb2.out⟩
      case measure=>simp [intOf];omega
     have q1:decide ((c:Int)≥97)=true:=decide_eq_true (by omega)
     have q2:decide ((c:Int)≤122)=false:=decide_eq_false (by omega)
     by_cases g3:c < 945
     ·have q3:decide ((c:Int)≥945)=false:=decide_eq_false (by omega)
      have hx:yW c=false:=by rw [HLT.out,decide_eq_false (show ¬c≤122 by omega),decide_eq_false (show ¬945≤c by omega)];simp
      rw [hx] at Hb2
      clear hx
      go_wp2_with fail
      go_round
      case rel=>exact ⟨k+1,false,by go_num,rfl,by omega,Hb2.out⟩
      case measure=>simp [intOf];omega
     have q3:decide ((c:Int)≥945)=true:=decide_eq_true (by omega)
     by_cases g4:c≤969
     ·have q4:decide ((c:Int)≤969)=true:=decide_eq_true (by omega)
      have hx:yW c=true:=by rw [HLT.out,decide_eq_true (show 945≤c by omega),decide_eq_true (show c≤969 by omega)];simp
      rw [hx] at Hb2
      clear hx
      go_wp2_with fail
      go_round
      case rel=>exact ⟨k+1,true,by go_num,rfl,by omega,Hb2.out⟩
      case measure=>simp [intOf];omega
     ·have q4:decide ((c:Int)≤969)=false:=decide_eq_false (by omega)
      have hx:yW c=false:=by rw [HLT.out,decide_eq_false (show ¬c≤122 by omega),decide_eq_false (show ¬c≤969 by omega)];simp
      rw [hx] at Hb2
      clear hx
      go_wp2_with fail
      go_round
      case rel=>exact ⟨k+1,false,by go_num,rfl,by omega,Hb2.out⟩
      case measure=>simp [intOf];omega
  ·obtain rfl:k=n:=by omega
   have hlt:decide ((k:Int) < (k:Int))=false:=by simp
   have HF:Hid (R=(b&&decide (1≤k)&&decide (k≤6))):=show _=_ by rw [HR.out,Hb.out,show cs.take k=cs from List.take_of_length_le (by rw [HN.out];exact Nat.le_refl _)]
   cases b with
   | false =>
     go_wp2_with fail
     go_ret
     exact ⟨by rw [HF.out];rfl,HB.out⟩
   | true =>
     have u1:decide ((k:Int)≥1)=decide (1≤k):=by rw [decide_eq_decide];omega
     have u2:decide ((k:Int)≤6)=decide (k≤6):=by rw [decide_eq_decide];omega
     by_cases g1:1≤k
     ·rw [decide_eq_true g1] at u1 HF
      clear g1
      go_wp2_with fail
      go_ret
      exact ⟨by rw [HF.out];rfl,HB.out⟩
     ·rw [decide_eq_false g1] at u1 HF
      clear g1
      go_wp2_with fail
      go_ret
      exact ⟨by rw [HF.out];rfl,HB.out⟩
def zSj (l:zA) (w:World) (e:Ending) (w':World):Prop:=∃m ok,e=.returned (.tuple #[.agg (zE m),.bool ok])∧zz l=(if ok=true then some m else none)∧Below w.heap.size w w'
abbrev zDi (w:World) (B:Nat) (m:Msg):Prop:=w.heap[B]?=some (.cells (zE m) 151 (0,0))
abbrev rmsg (k:zA):Obj:=.cells #[vs (bs k),.int .i64 0,.int .i64 0,.string ⟨#[]⟩,.string ⟨#[]⟩] 151
theorem zAM {w:World} {R:Nat} {m:Msg} {b:Bool} (t:Array Value) (ht:t[2]?=some (vp R)) (ht2:t[3]?=some (.bool b)) (h:zDi w R m):(results Tryz.f80 t).run Tryz.prog w=.ok (.tuple #[.agg (zE m),.bool b]) w:=by
 have e0:=zB h (off:=0) rfl
 have e1:=zB h (off:=1) rfl
 have e2:=zB h (off:=2) rfl
 have e3:=zB h (off:=3) rfl
 have e4:=zB h (off:=4) rfl
 simp [results,Tryz.results80,go_sem,ht,ht2,e0,e1,e2,e3,e4]
 rfl
theorem zSk {w:World} {R:Nat} {mr m:Msg} (hR:zDi w R mr) :
 zDi (((((w.setCell ⟨R,0,none⟩ (vs (bs m.kind))).setCell ⟨R,1,none⟩ (vi m.id)).setCell ⟨R,2,none⟩ (vi m.att)).setCell ⟨R,3,none⟩ (vs (bs m.tenant))).setCell ⟨R,4,none⟩ (vs (bs m.text))) R m:=
 zM _ (zM _ (zM _ (zM _ (zM _ hR))))
structure RMid (w:World) (W:World) (R M b off:Nat) (L:List zA) (m:Msg):Prop where
 r:zDi W R (msg0 [])
 m:zDi W M m
 ws:∀j t,L[j]?=some t→W.cell? ⟨b,off+j,none⟩=some (vs (bs t))
 bel:Below w.heap.size w W
 rw':w.heap.size≤R∧R < M∧w.heap.size≤M∧b < M∧R≠b∧M < W.heap.size
theorem RMid.step {w W W':World} {R M b off:Nat} {L:List zA} {m:Msg} (h:RMid w W R M b off L m) (hb:Below W.heap.size W W'):RMid w W' R M b off L m:=by
 obtain ⟨h1,h2,h3,h4,h5⟩:=h
 refine ⟨(hb.block _ (zF _ h1)).trans h1,(hb.block _ (zF _ h2)).trans h2,fun j t hj=>?_,h4.trans (hb.mono h4.size),h5.1,h5.2.1,h5.2.2.1,h5.2.2.2.1,h5.2.2.2.2.1,Nat.lt_of_lt_of_le h5.2.2.2.2.2 hb.size⟩
 have h6:=h3 j t hj
 unfold World.cell? at h6 ⊢
 rw [hb.block b (by omega)]
 exact h6
theorem RMid.put {w W:World} {R M b off:Nat} {L:List zA} {m m':Msg} (h:RMid w W R M b off L m) (i:Nat) (v:Value) (hm:(zE m).setIfInBounds i v=zE m'):RMid w (W.setCell ⟨M,i,none⟩ v) R M b off L m':=by
 obtain ⟨h1,h2,h3,h4,h5⟩:=h
 have hne:R≠M:=by omega
 refine ⟨(zJ W (a:=⟨M,i,none⟩) hne).trans h1,?_,fun j t hj=>?_,h4.setCell h5.2.2.1 _,h5.1,h5.2.1,h5.2.2.1,h5.2.2.2.1,h5.2.2.2.2.1,by simp;exact h5.2.2.2.2.2⟩
 ·have:=zM W (off:=i) (v:=v) h2
  rw [hm] at this
  exact this
 ·have h6:=h3 j t hj
  unfold World.cell? at h6 ⊢
  rw [zJ W (a:=⟨M,i,none⟩) (show b≠M by omega)]
  exact h6
theorem RMid.facts {w W:World} {R M b off:Nat} {L:List zA} {m:Msg} (h:RMid w W R M b off L m) :
 (W.cell? ⟨M,0,none⟩=some (vs (bs m.kind))∧W.cell? ⟨M,1,none⟩=some (vi m.id)∧W.cell? ⟨M,2,none⟩=some (vi m.att)∧W.cell? ⟨M,3,none⟩=some (vs (bs m.tenant))∧W.cell? ⟨M,4,none⟩=some (vs (bs m.text))) ∧
 (W.cell? ⟨R,0,none⟩=some (vs (bs []))∧W.cell? ⟨R,1,none⟩=some (vi 0)∧W.cell? ⟨R,2,none⟩=some (vi 0)∧W.cell? ⟨R,3,none⟩=some (vs (bs []))∧W.cell? ⟨R,4,none⟩=some (vs (bs []))∧W.frozen? ⟨R,0,none⟩=false∧W.frozen? ⟨R,1,none⟩=false∧W.frozen? ⟨R,2,none⟩=false∧W.frozen? ⟨R,3,none⟩=false∧W.frozen? ⟨R,4,none⟩=false) ∧
 (W.frozen? ⟨M,1,none⟩=false∧W.frozen? ⟨M,2,none⟩=false∧W.frozen? ⟨M,3,none⟩=false∧W.frozen? ⟨M,4,none⟩=false)∧(R=M)=False∧(M=R)=False∧(b=M)=False∧(M=b)=False:=
 ⟨⟨zB h.m rfl,zB h.m rfl,zB h.m rfl,zB h.m rfl,zB h.m rfl⟩,
   ⟨zB h.r rfl,zB h.r rfl,zB h.r rfl,zB h.r rfl,zB h.r rfl,zI h.r,zI h.r,zI h.r,zI h.r,zI h.r⟩,⟨zI h.m,zI h.m,zI h.m,zI h.m⟩,
   eq_false (by have:=h.rw';omega),eq_false (by have:=h.rw';omega),eq_false (by have:=h.rw';omega),eq_false (by have:=h.rw';omega)⟩
theorem RMid.done {w W:World} {R M b off:Nat} {L:List zA} {m mm:Msg} (h:RMid w W R M b off L m):zDi (((((W.setCell ⟨R,0,none⟩ (vs (bs mm.kind))).setCell ⟨R,1,none⟩ (vi mm.id)).setCell ⟨R,2,none⟩ (vi mm.att)).setCell ⟨R,3,none⟩ (vs (bs mm.tenant))).setCell ⟨R,4,none⟩ (vs (bs mm.text))) R mm∧Below w.heap.size w (((((W.setCell ⟨R,0,none⟩ (vs (bs mm.kind))).setCell ⟨R,1,none⟩ (vi mm.id)).setCell ⟨R,2,none⟩ (vi mm.att)).setCell ⟨R,3,none⟩ (vs (bs mm.tenant))).setCell ⟨R,4,none⟩ (vs (bs mm.text))):=
 ⟨zSk h.r,zCd h.bel h.rw'.1 _ _ _ _ _⟩
theorem RMid.start {w w1:World} {k:zA} {b off:Nat} {L:List zA} (hb:Below (w.alloc (rmsg [])).heap.size (w.alloc (rmsg [])) w1) (hbo:(w.alloc (rmsg [])).heap.size≤b) (hbl:b < w1.heap.size) (hc:∀j t,L[j]?=some t→w1.cell? ⟨b,off+j,none⟩=some (vs (bs t))) :
 RMid w (w1.alloc (rmsg k)) w.heap.size w1.heap.size b off L (msg0 k):=by
 have hR:w1.heap[w.heap.size]?=some (rmsg []):=(hb.block _ (by simp)).trans (zL w)
 have hlt:=zF _ hR
 refine ⟨(zP w1 hlt).trans hR,zL w1,fun j t hj=>?_,?_,Nat.le_refl _,hlt,by omega,hbl,by rw [World.size_alloc] at hbo;omega,by simp⟩
 ·have h6:=hc j t hj
  unfold World.cell? at h6 ⊢
  rw [zP w1 hbl]
  exact h6
 ·exact Below.alloc (((Below.refl _ w).alloc (Nat.le_refl _) _).trans (hb.mono (by simp))) (by omega) _
theorem zIG {l k:zA} {ws:List zA} (h:cut 32 l=k::ws):zz l=match k::ws with
 | [k]=>if k=xh∨k=xi∨k=xj then some ⟨k,0,0,[],[]⟩ else none
 | [k,a]=>if k=kCan then (zY a).map fun (i:Nat)=>(⟨k,(i:Int),0,[],[]⟩:Msg) else none
 | [k,a,b]=>if k=xP then (zY a).bind fun (i:Nat)=>(zY b).map fun (n:Nat)=>(⟨k,(i:Int),(n:Int),[],[]⟩:Msg) else none
 | [k,a,b,c] =>
   if k=xM then (zY a).bind fun (i:Nat)=>(zY b).bind fun (n:Nat)=>if zAx c then some (⟨k,(i:Int),(n:Int),[],c⟩:Msg) else none
   else if k=kSub then (zY a).bind fun (i:Nat)=>if zCp b&&zAx c then some (⟨k,(i:Int),0,b,c⟩:Msg) else none
   else none
 | _=>none:=by
 unfold zz
 rw [h]
 match ws with
 | []=>rfl
 | [a] =>
   simp only []
   by_cases h1:k=kCan
   ·rw [if_pos h1,if_pos h1];cases zY a<;>rfl
   ·rw [if_neg h1,if_neg h1]
 | [a,b] =>
   simp only []
   by_cases h1:k=xP
   ·rw [if_pos h1,if_pos h1];cases zY a<;>cases zY b<;>rfl
   ·rw [if_neg h1,if_neg h1]
 | [a,b,c]=>rfl
 | a::b::c::d::r=>rfl
theorem zLp (l:zA) (hl:l.length≤1099511627776) (w:World):Calls Tryz.prog 80 #[vs (bs l)] w (zSj l w):=by
 have HC:=zh (zLi 32 l hl (w.alloc (rmsg [])))
 have HWL:Hid (∀wd∈cut 32 l,wd.length≤1099511627776):=fun wd hw=>by
  have:=zDW (c:=32) l wd hw;omega
 obtain ⟨k,ws,hcut⟩:∃k ws,cut 32 l=k::ws:=by
  cases h:cut 32 l with
  | nil=>exact absurd h (zHo l)
  | cons k ws=>exact ⟨k,ws,rfl⟩
 have HRM:=zh (zIG hcut)
 rw [hcut] at HC HWL
 have hkt:(bs k).toList=k:=yp k
 clear hcut
 go_enter Tryz.func80,Tryz.ntmps80
 go_wp2_with fail
 refine HC.out.mono ?_
 rintro e w1 ⟨v,rfl,hs,hb⟩
 obtain ⟨b,off,cap,rfl,hbo,hbl,hcp,hcp2,hcc,_⟩:=hs.form (by simp)
 have HM0:Hid (RMid w (w1.alloc (rmsg k)) w.heap.size w1.heap.size b off (k::ws) (msg0 k)):=RMid.start hb hbo hbl (fun j t hj=>hcc j _ (by rw [List.getElem?_map,hj];rfl))
 have c00:w1.cell? ⟨b,off,none⟩=some (vs (bs k)):=hcc 0 _ rfl
 have c0:(w1.alloc (rmsg k)).cell? ⟨b,off,none⟩=some (vs (bs k)):=HM0.out.ws 0 k rfl
 obtain ⟨⟨m0,m1,m2,m3,m4⟩,⟨r0,r1,r2,r3,r4,f0,f1,f2,f3,f4⟩,⟨g1,g2,g3,g4⟩,n1,n2,n3,n4⟩:=HM0.out.facts
 simp only [rmsg,msg0] at m0 m1 m2 m3 m4 r0 r1 r2 r3 r4 f0 f1 f2 f3 f4 g1 g2 g3 g4 c0
 clear hs hb hbo hbl hcp hcp2 hcc HC
 match ws with
 | [] =>
   by_cases h_pull:k=xh
   ·have hRM:Hid (zz l=some (msg0 k)):=show _=_ by rw [HRM.out];simp only [];rw [if_pos (.inl h_pull)];rfl
    have q_pull:(k==[112,117,108,108])=true:=by rw [beq_iff_eq];exact h_pull
    clear h_pull
    go_wp2_with fail
    refine bodyPost_ret (v:=.tuple #[.agg (zE (msg0 k)),.bool true]) (zAM _ rfl rfl (HM0.out.done (mm:=(msg0 k))).1) rfl ⟨(msg0 k),true,rfl,?_,(HM0.out.done (mm:=(msg0 k))).2⟩
    rw [hRM.out];rfl
   by_cases h_beat:k=xi
   ·have hRM:Hid (zz l=some (msg0 k)):=show _=_ by rw [HRM.out];simp only [];rw [if_pos (.inr (.inl h_beat))];rfl
    have q_pull:(k==[112,117,108,108])=false:=by rw [beq_eq_false_iff_ne];exact h_pull
    have q_beat:(k==[98,101,97,116])=true:=by rw [beq_iff_eq];exact h_beat
    clear h_pull h_beat
    go_wp2_with fail
    refine bodyPost_ret (v:=.tuple #[.agg (zE (msg0 k)),.bool true]) (zAM _ rfl rfl (HM0.out.done (mm:=(msg0 k))).1) rfl ⟨(msg0 k),true,rfl,?_,(HM0.out.done (mm:=(msg0 k))).2⟩
    rw [hRM.out];rfl
   by_cases h_drain:k=xj
   ·have hRM:Hid (zz l=some (msg0 k)):=show _=_ by rw [HRM.out];simp only [];rw [if_pos (.inr (.inr h_drain))];rfl
    have q_pull:(k==[112,117,108,108])=false:=by rw [beq_eq_false_iff_ne];exact h_pull
    have q_beat:(k==[98,101,97,116])=false:=by rw [beq_eq_false_iff_ne];exact h_beat
    have q_drain:(k==[100,114,97,105,110])=true:=by rw [beq_iff_eq];exact h_drain
    clear h_pull h_beat h_drain
    go_wp2_with fail
    refine bodyPost_ret (v:=.tuple #[.agg (zE (msg0 k)),.bool true]) (zAM _ rfl rfl (HM0.out.done (mm:=(msg0 k))).1) rfl ⟨(msg0 k),true,rfl,?_,(HM0.out.done (mm:=(msg0 k))).2⟩
    rw [hRM.out];rfl
   have hRM:Hid (zz l=none):=show _=_ by rw [HRM.out];simp only [];rw [if_neg (fun h=>h.elim h_pull (fun h=>h.elim h_beat h_drain))]
   have q_pull:(k==[112,117,108,108])=false:=by rw [beq_eq_false_iff_ne];exact h_pull
   have q_beat:(k==[98,101,97,116])=false:=by rw [beq_eq_false_iff_ne];exact h_beat
   have q_drain:(k==[100,114,97,105,110])=false:=by rw [beq_eq_false_iff_ne];exact h_drain
   clear h_pull h_beat h_drain
   go_wp2_with fail
   refine bodyPost_ret (v:=.tuple #[.agg (zE (msg0 k)),.bool false]) (zAM _ rfl rfl (HM0.out.done (mm:=(msg0 k))).1) rfl ⟨(msg0 k),false,rfl,?_,(HM0.out.done (mm:=(msg0 k))).2⟩
   rw [hRM.out];rfl
 | [a] =>
   by_cases h_can:k=kCan
   ·have hRM:Hid (zz l=(zY a).map fun (i:Nat)=>(⟨k,(i:Int),0,[],[]⟩:Msg)):=show _=_ by rw [HRM.out];simp only [];rw [if_pos h_can]
    have q_can:(k==[99,97,110])=true:=by rw [beq_iff_eq];exact h_can
    have c1:(w1.alloc (rmsg k)).cell? ⟨b,off+1,none⟩=some (vs (bs a)):=HM0.out.ws 1 a rfl
    simp only [rmsg] at c1
    have HN1:=zh (fun w=>zDh a w)
    clear h_can
    go_wp2_with fail
    refine (HN1.out _).mono ?_
    rintro e w2 ⟨rfl,hw⟩
    replace HM0:Hid (RMid w w2 w.heap.size w1.heap.size b off (k::[a]) (msg0 k)):=show RMid _ _ _ _ _ _ _ _ by rw [←hw];exact HM0.out
    clear m0 m1 m2 m3 m4 r0 r1 r2 r3 r4 f0 f1 f2 f3 f4 g1 g2 g3 g4 c0 c00 hw c1
    obtain ⟨⟨m0,m1,m2,m3,m4⟩,⟨r0,r1,r2,r3,r4,f0,f1,f2,f3,f4⟩,⟨g1,g2,g3,g4⟩,_,_,_,_⟩:=HM0.out.facts
    simp only [msg0] at m0 m1 m2 m3 m4
    have c1:w2.cell? ⟨b,off+1,none⟩=some (vs (bs a)):=HM0.out.ws 1 a rfl
    have HM1:=zh (HM0.out.put 1 (vi (numV a)) (m':=⟨k,numV a,0,[],[]⟩) rfl)
    go_wp2_with fail
    refine bodyPost_ret (v:=.tuple #[.agg (zE ⟨k,numV a,0,[],[]⟩),.bool (xA a)]) (zAM _ rfl rfl (HM1.out.done (mm:=⟨k,numV a,0,[],[]⟩)).1) rfl ⟨⟨k,numV a,0,[],[]⟩,(xA a),rfl,?_,(HM1.out.done (mm:=⟨k,numV a,0,[],[]⟩)).2⟩
    rw [hRM.out];unfold numV xA;cases zY a<;>rfl
   have hRM:Hid (zz l=none):=show _=_ by rw [HRM.out];simp only [];rw [if_neg h_can]
   have q_can:(k==[99,97,110])=false:=by rw [beq_eq_false_iff_ne];exact h_can
   clear h_can
   go_wp2_with fail
   refine bodyPost_ret (v:=.tuple #[.agg (zE (msg0 k)),.bool false]) (zAM _ rfl rfl (HM0.out.done (mm:=(msg0 k))).1) rfl ⟨(msg0 k),false,rfl,?_,(HM0.out.done (mm:=(msg0 k))).2⟩
   rw [hRM.out];rfl
 | [a,b2] =>
   by_cases h_fail:k=xP
   ·have hRM:Hid (zz l=(zY a).bind fun (i:Nat)=>(zY b2).map fun (n:Nat)=>(⟨k,(i:Int),(n:Int),[],[]⟩:Msg)):=show _=_ by rw [HRM.out];simp only [];rw [if_pos h_fail]
    have q_fail:(k==[102,97,105,108])=true:=by rw [beq_iff_eq];exact h_fail
    have c1:(w1.alloc (rmsg k)).cell? ⟨b,off+1,none⟩=some (vs (bs a)):=HM0.out.ws 1 a rfl
    simp only [rmsg] at c1
    have c2:(w1.alloc (rmsg k)).cell? ⟨b,off+2,none⟩=some (vs (bs b2)):=HM0.out.ws 2 b2 rfl
    simp only [rmsg] at c2
    have HN1:=zh (fun w=>zDh a w)
    have HN2:=zh (fun w=>zDh b2 w)
    clear h_fail
    go_wp2_with fail
    refine (HN1.out _).mono ?_
    rintro e w2 ⟨rfl,hw⟩
    replace HM0:Hid (RMid w w2 w.heap.size w1.heap.size b off (k::[a,b2]) (msg0 k)):=show RMid _ _ _ _ _ _ _ _ by rw [←hw];exact HM0.out
    clear m0 m1 m2 m3 m4 r0 r1 r2 r3 r4 f0 f1 f2 f3 f4 g1 g2 g3 g4 c0 c00 hw c1 c2
    obtain ⟨⟨m0,m1,m2,m3,m4⟩,⟨r0,r1,r2,r3,r4,f0,f1,f2,f3,f4⟩,⟨g1,g2,g3,g4⟩,_,_,_,_⟩:=HM0.out.facts
    simp only [msg0] at m0 m1 m2 m3 m4
    have c1:w2.cell? ⟨b,off+1,none⟩=some (vs (bs a)):=HM0.out.ws 1 a rfl
    have c2:w2.cell? ⟨b,off+2,none⟩=some (vs (bs b2)):=HM0.out.ws 2 b2 rfl
    go_wp2_with fail
    refine (HN2.out _).mono ?_
    rintro e w2 ⟨rfl,rfl⟩
    have HM2:=zh ((HM0.out.put 1 (vi (numV a)) (m':=⟨k,numV a,0,[],[]⟩) rfl).put 2 (vi (numV b2)) (m':=⟨k,numV a,numV b2,[],[]⟩) rfl)
    obtain ⟨o1,ho1⟩:∃o,xA a=o:=⟨_,rfl⟩
    obtain ⟨o2,ho2⟩:∃o,xA b2=o:=⟨_,rfl⟩
    have HO:=zh (And.intro ho1 ho2)
    rw [ho1,ho2]
    clear ho1 ho2
    cases o1
    ·go_wp2_with fail
     refine bodyPost_ret (v:=.tuple #[.agg (zE ⟨k,numV a,numV b2,[],[]⟩),.bool false]) (zAM _ rfl rfl (HM2.out.done (mm:=⟨k,numV a,numV b2,[],[]⟩)).1) rfl ⟨⟨k,numV a,numV b2,[],[]⟩,false,rfl,?_,(HM2.out.done (mm:=⟨k,numV a,numV b2,[],[]⟩)).2⟩
     obtain ⟨z1,z2⟩:=HO.out
     rw [hRM.out];unfold numV xA at *;revert z1 z2;cases zY a<;>cases zY b2<;>cases o2<;>simp
    ·go_wp2_with fail
     refine bodyPost_ret (v:=.tuple #[.agg (zE ⟨k,numV a,numV b2,[],[]⟩),.bool o2]) (zAM _ rfl rfl (HM2.out.done (mm:=⟨k,numV a,numV b2,[],[]⟩)).1) rfl ⟨⟨k,numV a,numV b2,[],[]⟩,o2,rfl,?_,(HM2.out.done (mm:=⟨k,numV a,numV b2,[],[]⟩)).2⟩
     obtain ⟨z1,z2⟩:=HO.out
     rw [hRM.out];unfold numV xA at *;revert z1 z2;cases zY a<;>cases zY b2<;>cases o2<;>simp
   have hRM:Hid (zz l=none):=show _=_ by rw [HRM.out];simp only [];rw [if_neg h_fail]
   have q_fail:(k==[102,97,105,108])=false:=by rw [beq_eq_false_iff_ne];exact h_fail
   clear h_fail
   go_wp2_with fail
   refine bodyPost_ret (v:=.tuple #[.agg (zE (msg0 k)),.bool false]) (zAM _ rfl rfl (HM0.out.done (mm:=(msg0 k))).1) rfl ⟨(msg0 k),false,rfl,?_,(HM0.out.done (mm:=(msg0 k))).2⟩
   rw [hRM.out];rfl
 | [a,b2,c] =>
   have hlc:c.length≤1099511627776:=HWL.out c (by simp)
   have hlb:b2.length≤1099511627776:=HWL.out b2 (by simp)
   by_cases h_done:k=xM
   ·have hRM:Hid (zz l=(zY a).bind fun (i:Nat)=>(zY b2).bind fun (n:Nat)=>if zAx c then some (⟨k,(i:Int),(n:Int),[],c⟩:Msg) else none):=show _=_ by rw [HRM.out];simp only [];rw [if_pos h_done]
    have q_done:(k==[100,111,110,101])=true:=by rw [beq_iff_eq];exact h_done
    have c1:(w1.alloc (rmsg k)).cell? ⟨b,off+1,none⟩=some (vs (bs a)):=HM0.out.ws 1 a rfl
    simp only [rmsg] at c1
    have c2:(w1.alloc (rmsg k)).cell? ⟨b,off+2,none⟩=some (vs (bs b2)):=HM0.out.ws 2 b2 rfl
    simp only [rmsg] at c2
    have c3:(w1.alloc (rmsg k)).cell? ⟨b,off+3,none⟩=some (vs (bs c)):=HM0.out.ws 3 c rfl
    simp only [rmsg] at c3
    have HN1:=zh (fun w=>zDh a w)
    have HN2:=zh (fun w=>zDh b2 w)
    have HTX:=zh (fun w=>zLo c hlc w)
    clear h_done
    go_wp2_with fail
    refine (HN1.out _).mono ?_
    rintro e w2 ⟨rfl,hw⟩
    replace HM0:Hid (RMid w w2 w.heap.size w1.heap.size b off (k::[a,b2,c]) (msg0 k)):=show RMid _ _ _ _ _ _ _ _ by rw [←hw];exact HM0.out
    clear m0 m1 m2 m3 m4 r0 r1 r2 r3 r4 f0 f1 f2 f3 f4 g1 g2 g3 g4 c0 c00 hw c1 c2 c3
    obtain ⟨⟨m0,m1,m2,m3,m4⟩,⟨r0,r1,r2,r3,r4,f0,f1,f2,f3,f4⟩,⟨g1,g2,g3,g4⟩,_,_,_,_⟩:=HM0.out.facts
    simp only [msg0] at m0 m1 m2 m3 m4
    have c1:w2.cell? ⟨b,off+1,none⟩=some (vs (bs a)):=HM0.out.ws 1 a rfl
    have c2:w2.cell? ⟨b,off+2,none⟩=some (vs (bs b2)):=HM0.out.ws 2 b2 rfl
    have c3:w2.cell? ⟨b,off+3,none⟩=some (vs (bs c)):=HM0.out.ws 3 c rfl
    go_wp2_with fail
    refine (HN2.out _).mono ?_
    rintro e w2 ⟨rfl,rfl⟩
    have HM3:=zh (((HM0.out.put 1 (vi (numV a)) (m':=⟨k,numV a,0,[],[]⟩) rfl).put 2 (vi (numV b2)) (m':=⟨k,numV a,numV b2,[],[]⟩) rfl).put 4 (vs (bs c)) (m':=⟨k,numV a,numV b2,[],c⟩) rfl)
    obtain ⟨o1,ho1⟩:∃o,xA a=o:=⟨_,rfl⟩
    obtain ⟨o2,ho2⟩:∃o,xA b2=o:=⟨_,rfl⟩
    have HO:=zh (And.intro ho1 ho2)
    rw [ho1,ho2]
    clear ho1 ho2
    cases o1 with
    | false =>
      go_wp2_with fail
      refine bodyPost_ret (v:=.tuple #[.agg (zE ⟨k,numV a,numV b2,[],c⟩),.bool false]) (zAM _ rfl rfl (HM3.out.done (mm:=⟨k,numV a,numV b2,[],c⟩)).1) rfl ⟨⟨k,numV a,numV b2,[],c⟩,false,rfl,?_,(HM3.out.done (mm:=⟨k,numV a,numV b2,[],c⟩)).2⟩
      obtain ⟨z1,z2⟩:=HO.out
      rw [hRM.out];unfold numV xA at *;revert z1 z2;cases zY a<;>simp
    | true =>
      cases o2 with
      | false =>
        go_wp2_with fail
        refine bodyPost_ret (v:=.tuple #[.agg (zE ⟨k,numV a,numV b2,[],c⟩),.bool false]) (zAM _ rfl rfl (HM3.out.done (mm:=⟨k,numV a,numV b2,[],c⟩)).1) rfl ⟨⟨k,numV a,numV b2,[],c⟩,false,rfl,?_,(HM3.out.done (mm:=⟨k,numV a,numV b2,[],c⟩)).2⟩
        obtain ⟨z1,z2⟩:=HO.out
        rw [hRM.out];unfold numV xA at *;revert z1 z2;cases zY a<;>cases zY b2<;>simp
      | true =>
        go_wp2_with fail
        refine (HTX.out _).mono ?_
        rintro e w3 ⟨rfl,hb3⟩
        have HM4:=zh (HM3.out.step hb3)
        clear m0 m1 m2 m3 m4 r0 r1 r2 r3 r4 f0 f1 f2 f3 f4 g1 g2 g3 g4 hb3
        obtain ⟨⟨m0,m1,m2,m3,m4⟩,⟨r0,r1,r2,r3,r4,f0,f1,f2,f3,f4⟩,⟨g1,g2,g3,g4⟩,_,_,_,_⟩:=HM4.out.facts
        go_wp2_with fail
        refine bodyPost_ret (v:=.tuple #[.agg (zE ⟨k,numV a,numV b2,[],c⟩),.bool (zAe c 12 yN)]) (zAM _ rfl rfl (HM4.out.done (mm:=⟨k,numV a,numV b2,[],c⟩)).1) rfl ⟨⟨k,numV a,numV b2,[],c⟩,(zAe c 12 yN),rfl,?_,(HM4.out.done (mm:=⟨k,numV a,numV b2,[],c⟩)).2⟩
        obtain ⟨z1,z2⟩:=HO.out
        rw [hRM.out,zKz];unfold numV xA at *;revert z1 z2;cases zY a<;>cases zY b2<;>cases zAx c<;>simp
   by_cases h_sub:k=kSub
   ·have hRM:Hid (zz l=(zY a).bind fun (i:Nat)=>if zCp b2&&zAx c then some (⟨k,(i:Int),0,b2,c⟩:Msg) else none):=show _=_ by rw [HRM.out];simp only [];rw [if_neg h_done,if_pos h_sub]
    have q_done:(k==[100,111,110,101])=false:=by rw [beq_eq_false_iff_ne];exact h_done
    have q_sub:(k==[115,117,98])=true:=by rw [beq_iff_eq];exact h_sub
    have c1:(w1.alloc (rmsg k)).cell? ⟨b,off+1,none⟩=some (vs (bs a)):=HM0.out.ws 1 a rfl
    simp only [rmsg] at c1
    have c2:(w1.alloc (rmsg k)).cell? ⟨b,off+2,none⟩=some (vs (bs b2)):=HM0.out.ws 2 b2 rfl
    simp only [rmsg] at c2
    have c3:(w1.alloc (rmsg k)).cell? ⟨b,off+3,none⟩=some (vs (bs c)):=HM0.out.ws 3 c rfl
    simp only [rmsg] at c3
    have HN1:=zh (fun w=>zDh a w)
    have HTX:=zh (fun w=>zLo c hlc w)
    have HTN:=zh (fun w=>zSi b2 hlb w)
    clear h_done h_sub
    go_wp2_with fail
    refine (HN1.out _).mono ?_
    rintro e w2 ⟨rfl,hw⟩
    replace HM0:Hid (RMid w w2 w.heap.size w1.heap.size b off (k::[a,b2,c]) (msg0 k)):=show RMid _ _ _ _ _ _ _ _ by rw [←hw];exact HM0.out
    clear m0 m1 m2 m3 m4 r0 r1 r2 r3 r4 f0 f1 f2 f3 f4 g1 g2 g3 g4 c0 c00 hw c1 c2 c3
    obtain ⟨⟨m0,m1,m2,m3,m4⟩,⟨r0,r1,r2,r3,r4,f0,f1,f2,f3,f4⟩,⟨g1,g2,g3,g4⟩,_,_,_,_⟩:=HM0.out.facts
    simp only [msg0] at m0 m1 m2 m3 m4
    have c1:w2.cell? ⟨b,off+1,none⟩=some (vs (bs a)):=HM0.out.ws 1 a rfl
    have c2:w2.cell? ⟨b,off+2,none⟩=some (vs (bs b2)):=HM0.out.ws 2 b2 rfl
    have c3:w2.cell? ⟨b,off+3,none⟩=some (vs (bs c)):=HM0.out.ws 3 c rfl
    have HM3:=zh (((HM0.out.put 1 (vi (numV a)) (m':=⟨k,numV a,0,[],[]⟩) rfl).put 3 (vs (bs b2)) (m':=⟨k,numV a,0,b2,[]⟩) rfl).put 4 (vs (bs c)) (m':=⟨k,numV a,0,b2,c⟩) rfl)
    obtain ⟨o1,ho1⟩:∃o,xA a=o:=⟨_,rfl⟩
    have HO:=zh ho1
    rw [ho1]
    clear ho1
    cases o1 with
    | false =>
      go_wp2_with fail
      refine bodyPost_ret (v:=.tuple #[.agg (zE ⟨k,numV a,0,b2,c⟩),.bool false]) (zAM _ rfl rfl (HM3.out.done (mm:=⟨k,numV a,0,b2,c⟩)).1) rfl ⟨⟨k,numV a,0,b2,c⟩,false,rfl,?_,(HM3.out.done (mm:=⟨k,numV a,0,b2,c⟩)).2⟩
      have z1:=HO.out
      rw [hRM.out];unfold numV xA at *;revert z1;cases zY a<;>simp
    | true =>
      go_wp2_with fail
      refine (HTN.out _).mono ?_
      rintro e w3 ⟨rfl,hb3⟩
      have HM4:=zh (HM3.out.step hb3)
      clear m0 m1 m2 m3 m4 r0 r1 r2 r3 r4 f0 f1 f2 f3 f4 g1 g2 g3 g4 c1 c2 c3 hb3
      obtain ⟨⟨m0,m1,m2,m3,m4⟩,⟨r0,r1,r2,r3,r4,f0,f1,f2,f3,f4⟩,⟨g1,g2,g3,g4⟩,_,_,_,_⟩:=HM4.out.facts
      have c3:w3.cell? ⟨b,off+3,none⟩=some (vs (bs c)):=HM4.out.ws 3 c rfl
      obtain ⟨o2,ho2⟩:∃o,zAe b2 6 yW=o:=⟨_,rfl⟩
      have HO2:=zh ho2
      rw [ho2]
      clear ho2
      cases o2 with
      | false =>
        go_wp2_with fail
        refine bodyPost_ret (v:=.tuple #[.agg (zE ⟨k,numV a,0,b2,c⟩),.bool false]) (zAM _ rfl rfl (HM4.out.done (mm:=⟨k,numV a,0,b2,c⟩)).1) rfl ⟨⟨k,numV a,0,b2,c⟩,false,rfl,?_,(HM4.out.done (mm:=⟨k,numV a,0,b2,c⟩)).2⟩
        have z2:=HO2.out
        rw [zLA] at z2
        rw [hRM.out,z2];cases zY a<;>simp
      | true =>
        go_wp2_with fail
        refine (HTX.out _).mono ?_
        rintro e w4 ⟨rfl,hb4⟩
        have HM5:=zh (HM4.out.step hb4)
        clear m0 m1 m2 m3 m4 r0 r1 r2 r3 r4 f0 f1 f2 f3 f4 g1 g2 g3 g4 c3 hb4
        obtain ⟨⟨m0,m1,m2,m3,m4⟩,⟨r0,r1,r2,r3,r4,f0,f1,f2,f3,f4⟩,⟨g1,g2,g3,g4⟩,_,_,_,_⟩:=HM5.out.facts
        go_wp2_with fail
        refine bodyPost_ret (v:=.tuple #[.agg (zE ⟨k,numV a,0,b2,c⟩),.bool (zAe c 12 yN)]) (zAM _ rfl rfl (HM5.out.done (mm:=⟨k,numV a,0,b2,c⟩)).1) rfl ⟨⟨k,numV a,0,b2,c⟩,(zAe c 12 yN),rfl,?_,(HM5.out.done (mm:=⟨k,numV a,0,b2,c⟩)).2⟩
        have z1:=HO.out
        have z2:=HO2.out
        rw [zLA] at z2
        rw [hRM.out,zKz,z2];unfold numV xA at *;revert z1;cases zY a<;>cases zAx c<;>simp
   have hRM:Hid (zz l=none):=show _=_ by rw [HRM.out];simp only [];rw [if_neg h_done,if_neg h_sub]
   have q_done:(k==[100,111,110,101])=false:=by rw [beq_eq_false_iff_ne];exact h_done
   have q_sub:(k==[115,117,98])=false:=by rw [beq_eq_false_iff_ne];exact h_sub
   clear h_done h_sub
   go_wp2_with fail
   refine bodyPost_ret (v:=.tuple #[.agg (zE (msg0 k)),.bool false]) (zAM _ rfl rfl (HM0.out.done (mm:=(msg0 k))).1) rfl ⟨(msg0 k),false,rfl,?_,(HM0.out.done (mm:=(msg0 k))).2⟩
   rw [hRM.out];rfl
 | a::b2::c::d::r =>
   have hRM:Hid (zz l=none):=show _=_ by rw [HRM.out]
   go_wp2_with fail
   refine bodyPost_ret (v:=.tuple #[.agg (zE (msg0 k)),.bool false]) (zAM _ rfl rfl (HM0.out.done (mm:=(msg0 k))).1) rfl ⟨(msg0 k),false,rfl,?_,(HM0.out.done (mm:=(msg0 k))).2⟩
   rw [hRM.out];rfl
end Go.Proofs.YtaejfobbogahmaaGreatDoor
