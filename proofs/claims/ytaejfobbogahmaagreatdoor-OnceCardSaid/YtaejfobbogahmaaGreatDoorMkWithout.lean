/-
  Without Delete WithoutS DeleteS: texts of their own, joined.
-/
import Derived.Test.YtaejfobbogahmaaGreatDoorMkPut2
import Derived.Lib.SliceRun
set_option maxRecDepth 100000
set_option maxHeartbeats 16000000
set_option linter.all false
namespace Go.Proofs.YtaejfobbogahmaaGreatDoor
open Go Go.RowKit
theorem zGA (args:Array Value) (w:World):(callFunc 95 args).run Tryz.prog w=.ok (.enter 95 args) w:=by kernel_rfl
theorem zGB {B:Nat} {x y:Int} {w:World} (h1:w.cell? ⟨B,0,none⟩=some (vi x)) :
 Calls Tryz.prog 95 #[vi y,vp B] w fun e w'=>e=.returned (.bool (decide (y=x)))∧w=w':=by
 have hb:=zh (show (y==x)=decide (y=x) by by_cases e:y=x<;>simp [e])
 go_enter Tryz.func95,Tryz.ntmps95
 go_wp2_with fail
 go_ret
 exact ⟨congrArg (fun b=>Ending.returned (.bool b)) hb.out,rfl⟩
def yL (x:Int):List Int→Int
 | []=>-1
 | y::l=>if y=x then 0 else if yL x l = -1 then -1 else yL x l+1
theorem zEA {x:Int}:∀(l:List Int) (k:Nat),l[k]?=some x→(∀(j:Nat) y,j < k→l[j]?=some y→y≠x)→yL x l=k
 | [],k,h,_=>by simp at h
 | y::l,0,h,_=>by simp at h;simp [yL,h]
 | y::l,k+1,h,hn=>by
   have h0:y≠x:=hn 0 y (by omega) rfl
   have ih:=zEA l k (by simpa using h) (fun j z hj hz=>hn (j+1) z (by omega) (by simpa using hz))
   simp only [yL,if_neg h0,ih]
   rw [if_neg (by omega)]
   omega
theorem zEB {x:Int}:∀(l:List Int),(∀(j:Nat) y,l[j]?=some y→y≠x)→yL x l = -1
 | [],_=>rfl
 | y::l,hn=>by
   have h0:y≠x:=hn 0 y rfl
   have ih:=zEB l (fun j z hz=>hn (j+1) z (by simpa using hz))
   simp [yL,if_neg h0,ih]
theorem zJu {w:World} {own:Nat→Prop} {v:Value} {l:List Int} (hs:SlAt w 3 1 own v l.length (l.map encI)) {B:Nat} {x:Int} (hB:w.cell? ⟨B,0,none⟩=some (vi x)) :
 Calls Tryz.prog 133 #[v,.func (.func 95) #[] #[vp B]] w fun e w'=>e=.returned (vi (yL x l))∧w=w':=by
 have hent:=zGA
 have HC:=zh (fun y=>zGB (y:=y) hB)
 obtain ⟨va,vc,hv1,hv2,hv3⟩:=hs.form'
 subst hv1
 have HS:=zh hs
 unfold maxLen at hv3
 clear hs hB
 go_enter Tryz.func133,Tryz.ntmps133
 go_wp2_with fail
 go_loop [5,8] (fun _ s8=>∃k:Nat,s8=.int .i64 k∧k≤l.length∧Hid (∀(j:Nat) y,j < k→l[j]?=some y→y≠x)) (fun _ s8=>l.length - (intOf s8).toNat)
 case atStart=>exact ⟨0,by go_num,Nat.zero_le _,fun j y hj=>by omega⟩
 case round =>
  obtain ⟨k,rfl,hk,Hn⟩:=hrel
  by_cases hkl:k < l.length
  ·have hlt:decide ((k:Int) < (l.length:Int))=true:=decide_eq_true (by omega)
   obtain ⟨y,hy⟩:∃y,l[k]?=some y:=⟨_,List.getElem?_eq_getElem hkl⟩
   obtain ⟨b,off,cap,hv,_,_,_,_,hc,_⟩:=HS.out.form (by omega)
   obtain ⟨rfl,rfl⟩:va=some ⟨b,off,none⟩∧vc=cap:=by injection hv with e1 e2 e3;exact ⟨e1,e3⟩
   have ck:w.cell? ⟨b,off+k,none⟩=some (vi y):=hc k _ (by simp [hy])
   have hk0:(0:Int)≤(k:Int):=by omega
   have hk1:(k:Int) < (l.length:Int):=by omega
   have Hy:=zh hy
   have HCy:=zh (HC.out y)
   clear hc hv hy
   by_cases hyx:y=x
   ·have hd:decide (y=x)=true:=by simp [hyx]
    rw [hd] at HCy
    have HP:Hid (yL x l=k):=zEA l k (by rw [Hy.out,hyx]) Hn.out
    clear hd hyx
    go_wp2_with fail
    refine HCy.out.mono ?_
    rintro e w1 ⟨rfl,rfl⟩
    go_wp2_with fail
    go_ret
    exact ⟨by rw [HP.out];rfl,rfl⟩
   ·have hd:decide (y=x)=false:=by simp [hyx]
    rw [hd] at HCy
    have HN:Hid (∀(j:Nat) z,j < k+1→l[j]?=some z→z≠x):=fun j z hj hz=>by
     by_cases e:j=k
     ·subst e;rw [Hy.out] at hz;cases hz;exact hyx
     ·exact Hn.out j z (by omega) hz
    clear hd hyx
    go_wp2_with fail
    refine HCy.out.mono ?_
    rintro e w1 ⟨rfl,rfl⟩
    go_wp2_with fail
    go_round
    case rel=>exact ⟨k+1,by go_num,by omega,HN.out⟩
    case measure=>simp [intOf];omega
  ·obtain rfl:k=l.length:=by omega
   have hlt:decide ((l.length:Int) < (l.length:Int))=false:=by simp
   have HP:Hid (yL x l = -1):=zEB l (fun j y hy=>Hn.out j y (List.getElem?_eq_some_iff.1 hy).1 hy)
   go_wp2_with fail
   go_ret
   exact ⟨by rw [HP.out];rfl,rfl⟩
theorem zGC {x:Int}:∀(l:List Int),(yL x l = -1∧zE l x=l)∨∃k:Nat,yL x l=k∧k < l.length∧l[k]?=some x∧zE (l.take (k+1)) x=l.take k
 | []=>.inl ⟨rfl,rfl⟩
 | y::l=>by
   by_cases h:y=x
   ·subst h
    exact .inr ⟨0,by simp [yL],by simp,rfl,by simp [zE]⟩
   ·rcases zGC (x:=x) l with ⟨h1,h2⟩ | ⟨k,h1,h2,h3,h4⟩
    ·refine .inl ⟨by simp [yL,h,h1],?_⟩
     unfold zE at h2 ⊢
     rw [List.filter_cons,if_pos (by simp [h]),h2]
    ·refine .inr ⟨k+1,?_,by simp;omega,by simpa using h3,?_⟩
     ·simp only [yL,if_neg h,h1]
      rw [if_neg (by omega)];omega
     ·unfold zE at h4 ⊢
      rw [List.take_succ_cons,List.filter_cons,if_pos (by simp [h]),h4];rfl
def zBz (own:Nat→Prop) (x:Int) (l:List Int) (w:World) (e:Ending) (w':World):Prop:=
 ∃v,e=.returned v∧SlAt w' 3 1 own v (zE l x).length ((zE l x).map encI)∧Fr own w w'
def zAt (own:Nat→Prop) (x:Int) (l:List Int) (b off cap:Nat) (w wr:World) (i j:Nat):Prop:=
 ∃xs,SlAt wr 3 1 own (.slice (some ⟨b,off,none⟩) l.length cap) l.length xs∧xs.take i=(zE (l.take j) x).map encI∧xs.drop j=(l.map encI).drop j∧Fr own w wr
theorem zGD {l:List Int} {x y:Int} {j:Nat} (hy:l[j]?=some y):zE (l.take (j+1)) x=if y=x then zE (l.take j) x else zE (l.take j) x++[y]:=by
 rw [List.take_add_one,hy]
 unfold zE
 rw [List.filter_append]
 by_cases h:y=x<;>simp [h]
theorem zJv {own:Nat→Prop} {x y:Int} {l:List Int} {b off cap:Nat} {w wr:World} {i j:Nat} {xs:List Value}
 (h:SlAt wr 3 1 own (.slice (some ⟨b,off,none⟩) l.length cap) l.length xs∧xs.take i=(zE (l.take j) x).map encI∧xs.drop j=(l.map encI).drop j∧Fr own w wr) (hy:l[j]?=some y) (hyx:y=x):zAt own x l b off cap w wr i (j+1):=by
 obtain ⟨h1,h2,h3,h4⟩:=h
 refine ⟨xs,h1,by rw [zGD hy,if_pos hyx];exact h2,?_,h4⟩
 rw [←List.drop_drop,←List.drop_drop,h3]
theorem zJw {own:Nat→Prop} {x y:Int} {l:List Int} {b off cap:Nat} {w wr:World} {i j:Nat} {xs:List Value}
 (h:SlAt wr 3 1 own (.slice (some ⟨b,off,none⟩) l.length cap) l.length xs∧xs.take i=(zE (l.take j) x).map encI∧xs.drop j=(l.map encI).drop j∧Fr own w wr) (hy:l[j]?=some y) (hyx:¬y=x) (hij:i < j) (hi:i < l.length) (hob:own b) :
 zAt own x l b off cap w (wr.setCell ⟨b,off+i,none⟩ (vi y)) (i+1) (j+1):=by
 obtain ⟨h1,h2,h3,h4⟩:=h
 have hlen:xs.length=l.length:=by have:=h1.length;omega
 refine ⟨xs.set i (vi y),h1.set hi _,?_,?_,h4.setCell _ _ (.inl hob)⟩
 ·rw [zGD hy,if_neg hyx,List.take_add_one,List.take_set_of_le (Nat.le_refl i),h2,List.getElem?_set_self (by omega)]
  simp
 ·rw [List.drop_set_of_lt (by omega),←List.drop_drop,←List.drop_drop,h3]
theorem zJx {own:Nat→Prop} {x:Int} {l:List Int} {b off cap:Nat} {w wr:World} {i:Nat} (h:zAt own x l b off cap w wr i l.length) (hi:i < l.length) (hcap:l.length≤cap) :
 ∃w2,(∀c,(Builtin.clear_ #[46] 0 #[.slice (some ⟨b,off+i,none⟩) (l.length - i) c]).run Tryz.prog wr=.ok (.tuple #[]) w2)∧Hid (zBz own x l w (.returned (.slice (some ⟨b,off,none⟩) i cap)) w2):=by
 obtain ⟨xs,h1,h2,h3,h4⟩:=h
 rcases h1 with ⟨h,_⟩ | ⟨b',off',cap',cs,e,hb,hblk,hc1,hc2,hsz,hlen,hcell⟩
 ·cases h
 injection e with e1 e2 e3
 injection e1 with e1
 injection e1 with e4 e5
 subst e4;subst e5;subst e3
 have hlen':xs.length=l.length:=by omega
 refine ⟨_,fun c=>Lib.run_clear_slice wr 46 3 0 (vi 0) Tryz.underlying46 (fun w=>zFg w) rfl rfl b (off+i) (l.length - i) c (by omega) (fun j hj=>?_) (fun j _=>zK hblk),?_⟩
 ·rw [zCM hblk]
  simp;omega
 ·obtain ⟨cs',k1,k2,k3,k4⟩:=zAS (List.replicate (l.length - i) (vi 0)) (off+i) wr cs hblk (by simp;omega)
  have hw:(zE l x).length=i∧xs.take i=(zE l x).map encI:=by
   rw [List.take_of_length_le (Nat.le_refl _)] at h2
   have:=congrArg List.length h2
   simp at this
   exact ⟨by omega,h2⟩
  refine ⟨_,rfl,?_,zAG _ _ _ _ h4 (.inl hb)⟩
  rw [hw.1]
  refine .inr ⟨b,off,cap,cs',rfl,hb,k1,by omega,hc2,by omega,by rw [List.length_map,hw.1];omega,fun j u hj=>?_⟩
  rw [←hw.2] at hj
  rw [List.getElem?_take] at hj
  split at hj
  ·rw [k4 _ (by omega)]
   exact hcell j u hj
  ·cases hj
theorem zJy {w:World} {own:Nat→Prop} {v:Value} {l:List Int} (hs:SlAt w 3 1 own v l.length (l.map encI)) {B:Nat} {x:Int} (hB:w.cell? ⟨B,0,none⟩=some (vi x)) (hBl:B < w.heap.size) (hBo:¬own B) (hl:l.length≤1000000000000) :
 Calls Tryz.prog 94 #[v,.func (.func 95) #[] #[vp B]] w (zBz own x l w):=by
 have hent:=zGA
 have HI:=zh (zJu hs hB)
 have HC:=zh (fun (wr:World) (hf:Fr own w wr) y=>zGB (w:=wr) (y:=y) (x:=x) (B:=B) ((World.cell?_of_block (w:=w) (a:=⟨B,0,none⟩) (hf.block B hBl hBo)).trans hB))
 have HS:=zh hs
 obtain ⟨va,vc,hv1,hv2,hv3⟩:=hs.form'
 subst hv1
 unfold maxLen at hv3
 clear hs hB hBo
 rcases zGC (x:=x) l with ⟨h1,h2⟩ | ⟨k,h1,h2,h3,h4⟩
 ·rw [h1] at HI
  have HP:Hid (zBz own x l w (.returned (.slice va l.length vc)) w):=⟨_,rfl,by rw [h2];exact HS.out,Fr.refl _ _⟩
  clear h1 h2
  go_enter Tryz.func94,Tryz.ntmps94
  go_wp2_with fail
  refine HI.out.mono ?_
  rintro e w1 ⟨rfl,rfl⟩
  go_wp2_with fail
  go_ret
  exact HP.out
 ·rw [h1] at HI
  have hk1:((k:Int)==-1)=false:=beq_eq_false_iff_ne.2 (by omega)
  have H4:=zh h4
  have hkb:(k:Int)+1≤1000000000001:=by omega
  clear h1 h3 h4
  go_enter Tryz.func94,Tryz.ntmps94
  go_wp2_with fail
  refine HI.out.mono ?_
  rintro e w1 ⟨rfl,rfl⟩
  go_wp2_with fail
  obtain ⟨b,off,cap,hv,hob,hbl,hnc,hcm,hcell,hfz⟩:=HS.out.form (by omega)
  obtain ⟨rfl,rfl⟩:va=some ⟨b,off,none⟩∧vc=cap:=by injection hv with e1 e2 e3;exact ⟨e1,e3⟩
  have H0:Hid (zAt own x l b off vc w w k (k+1)):=⟨l.map encI,HS.out,by rw [H4.out,List.map_take],rfl,Fr.refl _ _⟩
  have Hob:=zh hob
  clear hv hcell hfz hbl
  go_loopw [5,6,7] (fun s5 s6 _ wr=>∃i j:Nat,s5=.int .i64 i∧s6=.int .i64 j∧i < j∧j≤l.length∧Hid (zAt own x l b off vc w wr i j)) (fun _ s6 _ _=>l.length - (intOf s6).toNat)
  case atStart=>exact ⟨k,k+1,by go_num,by go_num,by omega,by omega,H0.out⟩
  case round =>
   obtain ⟨i,j,rfl,rfl,hij,hj,HD⟩:=hrel
   by_cases hjl:j < l.length
   ·have hlt:decide ((j:Int) < (l.length:Int))=true:=decide_eq_true (by omega)
    obtain ⟨y,hy⟩:∃y,l[j]?=some y:=⟨_,List.getElem?_eq_getElem hjl⟩
    obtain ⟨xs,hx1,hx2,hx3,hx4⟩:=HD.out
    have hxj:xs[j]?=some (vi y):=by
     have:=congrArg (fun z=>z[0]?) hx3
     simp only [List.getElem?_drop,Nat.add_zero,List.getElem?_map,hy] at this
     exact this
    obtain ⟨b2,off2,cap2,hv,hob2,hbl,_,_,hcell,hfz⟩:=hx1.form (by omega)
    obtain ⟨⟨rfl,rfl⟩,rfl⟩:(b=b2∧off=off2)∧vc=cap2:=by injection hv with e1 e2 e3;injection e1 with e1;injection e1 with e4 e5;exact ⟨⟨e4,e5⟩,e3⟩
    have ck:wr.cell? ⟨b,off+j,none⟩=some (vi y):=hcell j _ hxj
    have hxi:∃u,xs[i]?=some u:=by
     have:xs.length=l.length*1:=hx1.length
     exact ⟨_,List.getElem?_eq_getElem (by omega)⟩
    obtain ⟨u,hu⟩:=hxi
    have ci:wr.cell? ⟨b,off+i,none⟩=some u:=hcell i _ hu
    have fi:wr.frozen? ⟨b,off+i,none⟩=false:=hfz _
    have HCy:=zh (HC.out wr hx4 y)
    have HXS:=zh (And.intro hx1 (And.intro hx2 (And.intro hx3 hx4)))
    have Hy:=zh hy
    have hj0:(0:Int)≤(j:Int):=by omega
    have hj1:(j:Int) < (l.length:Int):=by omega
    have hi0:(0:Int)≤(i:Int):=by omega
    have hi1:(i:Int) < (l.length:Int):=by omega
    clear hy hxj hv hcell hfz hx1 hx2 hx3 hx4 hu hob2 hbl
    by_cases hyx:y=x
    ·have hd:decide (y=x)=true:=by simp [hyx]
     rw [hd] at HCy
     have HN:Hid (zAt own x l b off vc w wr i (j+1)):=zJv HXS.out Hy.out hyx
     clear hd hyx
     go_wp2_with fail
     refine HCy.out.mono ?_
     rintro e w1 ⟨rfl,rfl⟩
     go_wp2_with fail
     go_roundw
     case rel=>exact ⟨i,j+1,by go_num,by go_num,by omega,by omega,HN.out⟩
     case measure=>simp [intOf];omega
    ·have hd:decide (y=x)=false:=by simp [hyx]
     rw [hd] at HCy
     have HN:Hid (zAt own x l b off vc w (wr.setCell ⟨b,off+i,none⟩ (vi y)) (i+1) (j+1)):=zJw HXS.out Hy.out hyx hij (by omega) Hob.out
     clear hd hyx
     go_wp2_with fail
     refine HCy.out.mono ?_
     rintro e w1 ⟨rfl,rfl⟩
     go_wp2_with fail
     go_roundw
     case rel=>exact ⟨i+1,j+1,by go_num,by go_num,by omega,by omega,HN.out⟩
     case measure=>simp [intOf];omega
   ·obtain rfl:j=l.length:=by omega
    have hlt:decide ((l.length:Int) < (l.length:Int))=false:=by simp
    have hi0:(0:Int)≤(i:Int):=by omega
    have hi1:(i:Int)≤(l.length:Int):=by omega
    have hi2:(i:Int)≤(vc:Int):=by omega
    have hne:¬i=vc:=by omega
    have HE:=zh (zJx HD.out (by omega) hv2)
    obtain ⟨w2,hclr,HW2⟩:=HE.out
    go_wp2_with fail
    go_ret
    exact HW2.out
theorem zEC {w:World} {own:Nat→Prop} {v:Value} {l:List Int} (hs:SlAt w 3 1 own v l.length (l.map encI)) (x:Int) (hown:∀b,own b→b < w.heap.size) (hl:l.length≤1000000000000) :
 Calls Tryz.prog 53 #[v,vi x] w (zBz own x l w):=by
 have HC:=zh (zJy (w:=w.alloc (.cells #[vi x] 3)) (B:=w.heap.size) (x:=x) (hs.of_blk (fun b _ hl=>zM w hl) (fun b hb _=>hb)) (zB (zP w) rfl) (by simp) (fun h=>by have:=hown _ h;omega) hl)
 clear hs
 go_enter Tryz.func53,Tryz.ntmps53
 go_wp2_with fail
 refine HC.out.mono ?_
 rintro e w1 ⟨v1,rfl,h2,h3⟩
 have HP:Hid (zBz own x l w (.returned v1) w1):=⟨v1,rfl,h2,((Fr.refl own w).alloc _).trans h3 (fun b hb=>.inl hb)⟩
 clear h2 h3
 go_wp2_with fail
 go_ret
 exact HP.out
theorem zJz (x y:ByteArray):(x.toList==y.toList)=decide (x=y):=by
 rw [Bool.eq_iff_iff,beq_iff_eq,decide_eq_true_eq]
 rw [ByteArray.toList_eq,ByteArray.toList_eq]
 exact ⟨fun h=>ByteArray.ext (Array.toList_inj.mp h),fun h=>by rw [h]⟩
theorem zKA (w:World):(zeroValue 9).run Tryz.prog w=.ok (.string ⟨#[]⟩) w:=by kernel_rfl
theorem zGE (args:Array Value) (w:World):(callFunc 106 args).run Tryz.prog w=.ok (.enter 106 args) w:=by kernel_rfl
theorem zGF {B:Nat} {x y:ByteArray} {w:World} (h1:w.cell? ⟨B,0,none⟩=some (vs x)) :
 Calls Tryz.prog 106 #[vs y,vp B] w fun e w'=>e=.returned (.bool (decide (y=x)))∧w=w':=by
 have hb:=zh (zJz y x)
 go_enter Tryz.func106,Tryz.ntmps106
 go_wp2_with fail
 go_ret
 exact ⟨congrArg (fun b=>Ending.returned (.bool b)) hb.out,rfl⟩
def xH (x:ByteArray):List ByteArray→Int
 | []=>-1
 | y::l=>if y=x then 0 else if xH x l = -1 then -1 else xH x l+1
theorem zGG {x:ByteArray}:∀(l:List ByteArray) (k:Nat),l[k]?=some x→(∀(j:Nat) y,j < k→l[j]?=some y→y≠x)→xH x l=k
 | [],k,h,_=>by simp at h
 | y::l,0,h,_=>by simp at h;simp [xH,h]
 | y::l,k+1,h,hn=>by
   have h0:y≠x:=hn 0 y (by omega) rfl
   have ih:=zGG l k (by simpa using h) (fun j z hj hz=>hn (j+1) z (by omega) (by simpa using hz))
   simp only [xH,if_neg h0,ih]
   rw [if_neg (by omega)]
   omega
theorem zGH {x:ByteArray}:∀(l:List ByteArray),(∀(j:Nat) y,l[j]?=some y→y≠x)→xH x l = -1
 | [],_=>rfl
 | y::l,hn=>by
   have h0:y≠x:=hn 0 y rfl
   have ih:=zGH l (fun j z hz=>hn (j+1) z (by simpa using hz))
   simp [xH,if_neg h0,ih]
theorem zKB {w:World} {own:Nat→Prop} {v:Value} {l:List ByteArray} (hs:SlAt w 9 1 own v l.length (l.map encS)) {B:Nat} {x:ByteArray} (hB:w.cell? ⟨B,0,none⟩=some (vs x)) :
 Calls Tryz.prog 73 #[v,.func (.func 106) #[] #[vp B]] w fun e w'=>e=.returned (vi (xH x l))∧w=w':=by
 have hent:=zGE
 have HC:=zh (fun y=>zGF (y:=y) hB)
 obtain ⟨va,vc,hv1,hv2,hv3⟩:=hs.form'
 subst hv1
 have HS:=zh hs
 unfold maxLen at hv3
 clear hs hB
 go_enter Tryz.func73,Tryz.ntmps73
 go_wp2_with fail
 go_loop [5,8] (fun _ s8=>∃k:Nat,s8=.int .i64 k∧k≤l.length∧Hid (∀(j:Nat) y,j < k→l[j]?=some y→y≠x)) (fun _ s8=>l.length - (intOf s8).toNat)
 case atStart=>exact ⟨0,by go_num,Nat.zero_le _,fun j y hj=>by omega⟩
 case round =>
  obtain ⟨k,rfl,hk,Hn⟩:=hrel
  by_cases hkl:k < l.length
  ·have hlt:decide ((k:Int) < (l.length:Int))=true:=decide_eq_true (by omega)
   obtain ⟨y,hy⟩:∃y,l[k]?=some y:=⟨_,List.getElem?_eq_getElem hkl⟩
   obtain ⟨b,off,cap,hv,_,_,_,_,hc,_⟩:=HS.out.form (by omega)
   obtain ⟨rfl,rfl⟩:va=some ⟨b,off,none⟩∧vc=cap:=by injection hv with e1 e2 e3;exact ⟨e1,e3⟩
   have ck:w.cell? ⟨b,off+k,none⟩=some (vs y):=hc k _ (by simp [hy])
   have hk0:(0:Int)≤(k:Int):=by omega
   have hk1:(k:Int) < (l.length:Int):=by omega
   have Hy:=zh hy
   have HCy:=zh (HC.out y)
   clear hc hv hy
   by_cases hyx:y=x
   ·have hd:decide (y=x)=true:=by simp [hyx]
    rw [hd] at HCy
    have HP:Hid (xH x l=k):=zGG l k (by rw [Hy.out,hyx]) Hn.out
    clear hd hyx
    go_wp2_with fail
    refine HCy.out.mono ?_
    rintro e w1 ⟨rfl,rfl⟩
    go_wp2_with fail
    go_ret
    exact ⟨by rw [HP.out];rfl,rfl⟩
   ·have hd:decide (y=x)=false:=by simp [hyx]
    rw [hd] at HCy
    have HN:Hid (∀(j:Nat) z,j < k+1→l[j]?=some z→z≠x):=fun j z hj hz=>by
     by_cases e:j=k
     ·subst e;rw [Hy.out] at hz;cases hz;exact hyx
     ·exact Hn.out j z (by omega) hz
    clear hd hyx
    go_wp2_with fail
    refine HCy.out.mono ?_
    rintro e w1 ⟨rfl,rfl⟩
    go_wp2_with fail
    go_round
    case rel=>exact ⟨k+1,by go_num,by omega,HN.out⟩
    case measure=>simp [intOf];omega
  ·obtain rfl:k=l.length:=by omega
   have hlt:decide ((l.length:Int) < (l.length:Int))=false:=by simp
   have HP:Hid (xH x l = -1):=zGH l (fun j y hy=>Hn.out j y (List.getElem?_eq_some_iff.1 hy).1 hy)
   go_wp2_with fail
   go_ret
   exact ⟨by rw [HP.out];rfl,rfl⟩
theorem zGI {x:ByteArray}:∀(l:List ByteArray),(xH x l = -1∧zE l x=l)∨∃k:Nat,xH x l=k∧k < l.length∧l[k]?=some x∧zE (l.take (k+1)) x=l.take k
 | []=>.inl ⟨rfl,rfl⟩
 | y::l=>by
   by_cases h:y=x
   ·subst h
    exact .inr ⟨0,by simp [xH],by simp,rfl,by simp [zE]⟩
   ·rcases zGI (x:=x) l with ⟨h1,h2⟩ | ⟨k,h1,h2,h3,h4⟩
    ·refine .inl ⟨by simp [xH,h,h1],?_⟩
     unfold zE at h2 ⊢
     rw [List.filter_cons,if_pos (by simp [h]),h2]
    ·refine .inr ⟨k+1,?_,by simp;omega,by simpa using h3,?_⟩
     ·simp only [xH,if_neg h,h1]
      rw [if_neg (by omega)];omega
     ·unfold zE at h4 ⊢
      rw [List.take_succ_cons,List.filter_cons,if_pos (by simp [h]),h4];rfl
def zCA (own:Nat→Prop) (x:ByteArray) (l:List ByteArray) (w:World) (e:Ending) (w':World):Prop:=
 ∃v,e=.returned v∧SlAt w' 9 1 own v (zE l x).length ((zE l x).map encS)∧Fr own w w'
def zAu (own:Nat→Prop) (x:ByteArray) (l:List ByteArray) (b off cap:Nat) (w wr:World) (i j:Nat):Prop:=
 ∃xs,SlAt wr 9 1 own (.slice (some ⟨b,off,none⟩) l.length cap) l.length xs∧xs.take i=(zE (l.take j) x).map encS∧xs.drop j=(l.map encS).drop j∧Fr own w wr
theorem zGJ {l:List ByteArray} {x y:ByteArray} {j:Nat} (hy:l[j]?=some y):zE (l.take (j+1)) x=if y=x then zE (l.take j) x else zE (l.take j) x++[y]:=by
 rw [List.take_add_one,hy]
 unfold zE
 rw [List.filter_append]
 by_cases h:y=x<;>simp [h]
theorem zKC {own:Nat→Prop} {x y:ByteArray} {l:List ByteArray} {b off cap:Nat} {w wr:World} {i j:Nat} {xs:List Value}
 (h:SlAt wr 9 1 own (.slice (some ⟨b,off,none⟩) l.length cap) l.length xs∧xs.take i=(zE (l.take j) x).map encS∧xs.drop j=(l.map encS).drop j∧Fr own w wr) (hy:l[j]?=some y) (hyx:y=x):zAu own x l b off cap w wr i (j+1):=by
 obtain ⟨h1,h2,h3,h4⟩:=h
 refine ⟨xs,h1,by rw [zGJ hy,if_pos hyx];exact h2,?_,h4⟩
 rw [←List.drop_drop,←List.drop_drop,h3]
theorem zKD {own:Nat→Prop} {x y:ByteArray} {l:List ByteArray} {b off cap:Nat} {w wr:World} {i j:Nat} {xs:List Value}
 (h:SlAt wr 9 1 own (.slice (some ⟨b,off,none⟩) l.length cap) l.length xs∧xs.take i=(zE (l.take j) x).map encS∧xs.drop j=(l.map encS).drop j∧Fr own w wr) (hy:l[j]?=some y) (hyx:¬y=x) (hij:i < j) (hi:i < l.length) (hob:own b) :
 zAu own x l b off cap w (wr.setCell ⟨b,off+i,none⟩ (vs y)) (i+1) (j+1):=by
 obtain ⟨h1,h2,h3,h4⟩:=h
 have hlen:xs.length=l.length:=by have:=h1.length;omega
 refine ⟨xs.set i (vs y),h1.set hi _,?_,?_,h4.setCell _ _ (.inl hob)⟩
 ·rw [zGJ hy,if_neg hyx,List.take_add_one,List.take_set_of_le (Nat.le_refl i),h2,List.getElem?_set_self (by omega)]
  simp
 ·rw [List.drop_set_of_lt (by omega),←List.drop_drop,←List.drop_drop,h3]
theorem zKE {own:Nat→Prop} {x:ByteArray} {l:List ByteArray} {b off cap:Nat} {w wr:World} {i:Nat} (h:zAu own x l b off cap w wr i l.length) (hi:i < l.length) (hcap:l.length≤cap) :
 ∃w2,(∀c,(Builtin.clear_ #[47] 0 #[.slice (some ⟨b,off+i,none⟩) (l.length - i) c]).run Tryz.prog wr=.ok (.tuple #[]) w2)∧Hid (zCA own x l w (.returned (.slice (some ⟨b,off,none⟩) i cap)) w2):=by
 obtain ⟨xs,h1,h2,h3,h4⟩:=h
 rcases h1 with ⟨h,_⟩ | ⟨b',off',cap',cs,e,hb,hblk,hc1,hc2,hsz,hlen,hcell⟩
 ·cases h
 injection e with e1 e2 e3
 injection e1 with e1
 injection e1 with e4 e5
 subst e4;subst e5;subst e3
 have hlen':xs.length=l.length:=by omega
 refine ⟨_,fun c=>Lib.run_clear_slice wr 47 9 0 (vs ⟨#[]⟩) Tryz.underlying47 (fun w=>zKA w) rfl rfl b (off+i) (l.length - i) c (by omega) (fun j hj=>?_) (fun j _=>zK hblk),?_⟩
 ·rw [zCM hblk]
  simp;omega
 ·obtain ⟨cs',k1,k2,k3,k4⟩:=zAS (List.replicate (l.length - i) (vs ⟨#[]⟩)) (off+i) wr cs hblk (by simp;omega)
  have hw:(zE l x).length=i∧xs.take i=(zE l x).map encS:=by
   rw [List.take_of_length_le (Nat.le_refl _)] at h2
   have:=congrArg List.length h2
   simp at this
   exact ⟨by omega,h2⟩
  refine ⟨_,rfl,?_,zAG _ _ _ _ h4 (.inl hb)⟩
  rw [hw.1]
  refine .inr ⟨b,off,cap,cs',rfl,hb,k1,by omega,hc2,by omega,by rw [List.length_map,hw.1];omega,fun j u hj=>?_⟩
  rw [←hw.2] at hj
  rw [List.getElem?_take] at hj
  split at hj
  ·rw [k4 _ (by omega)]
   exact hcell j u hj
  ·cases hj
theorem zKF {w:World} {own:Nat→Prop} {v:Value} {l:List ByteArray} (hs:SlAt w 9 1 own v l.length (l.map encS)) {B:Nat} {x:ByteArray} (hB:w.cell? ⟨B,0,none⟩=some (vs x)) (hBl:B < w.heap.size) (hBo:¬own B) (hl:l.length≤1000000000000) :
 Calls Tryz.prog 105 #[v,.func (.func 106) #[] #[vp B]] w (zCA own x l w):=by
 have hent:=zGE
 have HI:=zh (zKB hs hB)
 have HC:=zh (fun (wr:World) (hf:Fr own w wr) y=>zGF (w:=wr) (y:=y) (x:=x) (B:=B) ((World.cell?_of_block (w:=w) (a:=⟨B,0,none⟩) (hf.block B hBl hBo)).trans hB))
 have HS:=zh hs
 obtain ⟨va,vc,hv1,hv2,hv3⟩:=hs.form'
 subst hv1
 unfold maxLen at hv3
 clear hs hB hBo
 rcases zGI (x:=x) l with ⟨h1,h2⟩ | ⟨k,h1,h2,h3,h4⟩
 ·rw [h1] at HI
  have HP:Hid (zCA own x l w (.returned (.slice va l.length vc)) w):=⟨_,rfl,by rw [h2];exact HS.out,Fr.refl _ _⟩
  clear h1 h2
  go_enter Tryz.func105,Tryz.ntmps105
  go_wp2_with fail
  refine HI.out.mono ?_
  rintro e w1 ⟨rfl,rfl⟩
  go_wp2_with fail
  go_ret
  exact HP.out
 ·rw [h1] at HI
  have hk1:((k:Int)==-1)=false:=beq_eq_false_iff_ne.2 (by omega)
  have H4:=zh h4
  have hkb:(k:Int)+1≤1000000000001:=by omega
  clear h1 h3 h4
  go_enter Tryz.func105,Tryz.ntmps105
  go_wp2_with fail
  refine HI.out.mono ?_
  rintro e w1 ⟨rfl,rfl⟩
  go_wp2_with fail
  obtain ⟨b,off,cap,hv,hob,hbl,hnc,hcm,hcell,hfz⟩:=HS.out.form (by omega)
  obtain ⟨rfl,rfl⟩:va=some ⟨b,off,none⟩∧vc=cap:=by injection hv with e1 e2 e3;exact ⟨e1,e3⟩
  have H0:Hid (zAu own x l b off vc w w k (k+1)):=⟨l.map encS,HS.out,by rw [H4.out,List.map_take],rfl,Fr.refl _ _⟩
  have Hob:=zh hob
  clear hv hcell hfz hbl
  go_loopw [5,6,7] (fun s5 s6 _ wr=>∃i j:Nat,s5=.int .i64 i∧s6=.int .i64 j∧i < j∧j≤l.length∧Hid (zAu own x l b off vc w wr i j)) (fun _ s6 _ _=>l.length - (intOf s6).toNat)
  case atStart=>exact ⟨k,k+1,by go_num,by go_num,by omega,by omega,H0.out⟩
  case round =>
   obtain ⟨i,j,rfl,rfl,hij,hj,HD⟩:=hrel
   by_cases hjl:j < l.length
   ·have hlt:decide ((j:Int) < (l.length:Int))=true:=decide_eq_true (by omega)
    obtain ⟨y,hy⟩:∃y,l[j]?=some y:=⟨_,List.getElem?_eq_getElem hjl⟩
    obtain ⟨xs,hx1,hx2,hx3,hx4⟩:=HD.out
    have hxj:xs[j]?=some (vs y):=by
     have:=congrArg (fun z=>z[0]?) hx3
     simp only [List.getElem?_drop,Nat.add_zero,List.getElem?_map,hy] at this
     exact this
    obtain ⟨b2,off2,cap2,hv,hob2,hbl,_,_,hcell,hfz⟩:=hx1.form (by omega)
    obtain ⟨⟨rfl,rfl⟩,rfl⟩:(b=b2∧off=off2)∧vc=cap2:=by injection hv with e1 e2 e3;injection e1 with e1;injection e1 with e4 e5;exact ⟨⟨e4,e5⟩,e3⟩
    have ck:wr.cell? ⟨b,off+j,none⟩=some (vs y):=hcell j _ hxj
    have hxi:∃u,xs[i]?=some u:=by
     have:xs.length=l.length*1:=hx1.length
     exact ⟨_,List.getElem?_eq_getElem (by omega)⟩
    obtain ⟨u,hu⟩:=hxi
    have ci:wr.cell? ⟨b,off+i,none⟩=some u:=hcell i _ hu
    have fi:wr.frozen? ⟨b,off+i,none⟩=false:=hfz _
    have HCy:=zh (HC.out wr hx4 y)
    have HXS:=zh (And.intro hx1 (And.intro hx2 (And.intro hx3 hx4)))
    have Hy:=zh hy
    have hj0:(0:Int)≤(j:Int):=by omega
    have hj1:(j:Int) < (l.length:Int):=by omega
    have hi0:(0:Int)≤(i:Int):=by omega
    have hi1:(i:Int) < (l.length:Int):=by omega
    clear hy hxj hv hcell hfz hx1 hx2 hx3 hx4 hu hob2 hbl
    by_cases hyx:y=x
    ·have hd:decide (y=x)=true:=by simp [hyx]
     rw [hd] at HCy
     have HN:Hid (zAu own x l b off vc w wr i (j+1)):=zKC HXS.out Hy.out hyx
     clear hd hyx
     go_wp2_with fail
     refine HCy.out.mono ?_
     rintro e w1 ⟨rfl,rfl⟩
     go_wp2_with fail
     go_roundw
     case rel=>exact ⟨i,j+1,by go_num,by go_num,by omega,by omega,HN.out⟩
     case measure=>simp [intOf];omega
    ·have hd:decide (y=x)=false:=by simp [hyx]
     rw [hd] at HCy
     have HN:Hid (zAu own x l b off vc w (wr.setCell ⟨b,off+i,none⟩ (vs y)) (i+1) (j+1)):=zKD HXS.out Hy.out hyx hij (by omega) Hob.out
     clear hd hyx
     go_wp2_with fail
     refine HCy.out.mono ?_
     rintro e w1 ⟨rfl,rfl⟩
     go_wp2_with fail
     go_roundw
     case rel=>exact ⟨i+1,j+1,by go_num,by go_num,by omega,by omega,HN.out⟩
     case measure=>simp [intOf];omega
   ·obtain rfl:j=l.length:=by omega
    have hlt:decide ((l.length:Int) < (l.length:Int))=false:=by simp
    have hi0:(0:Int)≤(i:Int):=by omega
    have hi1:(i:Int)≤(l.length:Int):=by omega
    have hi2:(i:Int)≤(vc:Int):=by omega
    have hne:¬i=vc:=by omega
    have HE:=zh (zKE HD.out (by omega) hv2)
    obtain ⟨w2,hclr,HW2⟩:=HE.out
    go_wp2_with fail
    go_ret
    exact HW2.out
theorem zGK {w:World} {own:Nat→Prop} {v:Value} {l:List ByteArray} (hs:SlAt w 9 1 own v l.length (l.map encS)) (x:ByteArray) (hown:∀b,own b→b < w.heap.size) (hl:l.length≤1000000000000) :
 Calls Tryz.prog 76 #[v,vs x] w (zCA own x l w):=by
 have HC:=zh (zKF (w:=w.alloc (.cells #[vs x] 9)) (B:=w.heap.size) (x:=x) (hs.of_blk (fun b _ hl=>zM w hl) (fun b hb _=>hb)) (zB (zP w) rfl) (by simp) (fun h=>by have:=hown _ h;omega) hl)
 clear hs
 go_enter Tryz.func76,Tryz.ntmps76
 go_wp2_with fail
 refine HC.out.mono ?_
 rintro e w1 ⟨v1,rfl,h2,h3⟩
 have HP:Hid (zCA own x l w (.returned v1) w1):=⟨v1,rfl,h2,((Fr.refl own w).alloc _).trans h3 (fun b hb=>.inl hb)⟩
 clear h2 h3
 go_wp2_with fail
 go_ret
 exact HP.out
end Go.Proofs.YtaejfobbogahmaaGreatDoor
