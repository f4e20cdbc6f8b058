/-
  The walks of slices.IndexFunc, DeleteFunc at []int and of without[int].
  The walks of slices.DeleteFunc at []int and of without[int].
  The walks of slices.IndexFunc, DeleteFunc at []int and of without[string].
  The walks of slices.DeleteFunc at []int and of without[string].
-/
import Derived.Test.YtaejfobbogahmabGreatDoorMkPut2
import Derived.Lib.SliceRun
set_option maxRecDepth 100000
set_option maxHeartbeats 16000000
set_option linter.unusedVariables false
set_option linter.unusedSimpArgs false
namespace Go.Proofs.YtaejfobbogahmabGreatDoor
open Go Go.RowKit
theorem enter_wi (args:Array Value) (w:World):(callFunc 104 args).run Tryz.prog w=.ok (.enter 104 args) w:=by kernel_rfl
theorem wi1_calls {B:Nat} {x y:Int} {w:World} (h1:w.cell? ⟨B,0,none⟩=some (vi x)) :
 Calls Tryz.prog 104 #[vi y,vp B] w fun e w'=>e=.returned (.bool (decide (y=x)))∧w=w':=by
 have hb:=Lib.hid (show (y==x)=decide (y=x) by by_cases e:y=x<;>simp [e])
 go_enter Tryz.func104,Tryz.ntmps104
 go_wp2_with fail
 go_ret
 exact ⟨congrArg (fun b=>Ending.returned (.bool b)) hb.out,rfl⟩
def placeOf (x:Int):List Int→Int
 | []=>-1
 | y::l=>if y=x then 0 else if placeOf x l = -1 then -1 else placeOf x l+1
theorem placeOf_at {x:Int}:∀(l:List Int) (k:Nat),l[k]?=some x→(∀(j:Nat) y,j < k→l[j]?=some y→y≠x)→placeOf x l=k
 | [],k,h,_=>by simp at h
 | y::l,0,h,_=>by simp at h;simp [placeOf,h]
 | y::l,k+1,h,hn=>by
   have h0:y≠x:=hn 0 y (by omega) rfl
   have ih:=placeOf_at l k (by simpa using h) (fun j z hj hz=>hn (j+1) z (by omega) (by simpa using hz))
   simp only [placeOf,if_neg h0,ih]
   rw [if_neg (by omega)]
   omega
theorem placeOf_no {x:Int}:∀(l:List Int),(∀(j:Nat) y,l[j]?=some y→y≠x)→placeOf x l = -1
 | [],_=>rfl
 | y::l,hn=>by
   have h0:y≠x:=hn 0 y rfl
   have ih:=placeOf_no l (fun j z hz=>hn (j+1) z (by simpa using hz))
   simp [placeOf,if_neg h0,ih]
theorem IndexFunc_calls {w:World} {own:Nat→Prop} {v:Value} {l:List Int} (hs:SlAt w 3 1 own v l.length (l.map encI)) {B:Nat} {x:Int} (hB:w.cell? ⟨B,0,none⟩=some (vi x)) :
 Calls Tryz.prog 125 #[v,.func (.func 104) #[] #[vp B]] w fun e w'=>e=.returned (vi (placeOf x l))∧w=w':=by
 have hent:=enter_wi
 have HC:=Lib.hid (fun y=>wi1_calls (y:=y) hB)
 obtain ⟨va,vc,hv1,hv2,hv3⟩:=hs.form'
 subst hv1
 have HS:=Lib.hid hs
 unfold maxLen at hv3
 clear hs hB
 go_enter Tryz.func125,Tryz.ntmps125
 go_wp2_with fail
 go_loop [5,8] (fun _ s8=>∃k:Nat,s8=.int .i64 k∧k≤l.length∧Hid (∀(j:Nat) y,j < k→l[j]?=some y→y≠x)) (fun _ s8=>l.length - (intOf s8).toNat)
 case atStart=>exact ⟨0,by go_num,Nat.zero_le _,fun j y hj=>by omega⟩
 case round =>
  obtain ⟨k,rfl,hk,Hn⟩:=hrel
  by_cases hkl:k < l.length
  ·have hlt:decide ((k:Int) < (l.length:Int))=true:=decide_eq_true (by omega)
   obtain ⟨y,hy⟩:∃y,l[k]?=some y:=⟨_,List.getElem?_eq_getElem hkl⟩
   obtain ⟨b,off,cap,hv,_,_,_,_,hc,_⟩:=HS.out.form (by omega)
   obtain ⟨rfl,rfl⟩:va=some ⟨b,off,none⟩∧vc=cap:=by injection hv with e1 e2 e3;exact ⟨e1,e3⟩
   have ck:w.cell? ⟨b,off+k,none⟩=some (vi y):=hc k _ (by simp [hy])
   have hk0:(0:Int)≤(k:Int):=by omega
   have hk1:(k:Int) < (l.length:Int):=by omega
   have Hy:=Lib.hid hy
   have HCy:=Lib.hid (HC.out y)
   clear hc hv hy
   by_cases hyx:y=x
   ·have hd:decide (y=x)=true:=by simp [hyx]
    rw [hd] at HCy
    have HP:Hid (placeOf x l=k):=placeOf_at l k (by rw [Hy.out,hyx]) Hn.out
    clear hd hyx
    go_wp2_with fail
    refine HCy.out.mono ?_
    rintro e w1 ⟨rfl,rfl⟩
    go_wp2_with fail
    go_ret
    exact ⟨by rw [HP.out];rfl,rfl⟩
   ·have hd:decide (y=x)=false:=by simp [hyx]
    rw [hd] at HCy
    have HN:Hid (∀(j:Nat) z,j < k+1→l[j]?=some z→z≠x):=fun j z hj hz=>by
     by_cases e:j=k
     ·subst e;rw [Hy.out] at hz;cases hz;exact hyx
     ·exact Hn.out j z (by omega) hz
    clear hd hyx
    go_wp2_with fail
    refine HCy.out.mono ?_
    rintro e w1 ⟨rfl,rfl⟩
    go_wp2_with fail
    go_round
    case rel=>exact ⟨k+1,by go_num,by omega,HN.out⟩
    case measure=>simp [intOf];omega
  ·obtain rfl:k=l.length:=by omega
   have hlt:decide ((l.length:Int) < (l.length:Int))=false:=by simp
   have HP:Hid (placeOf x l = -1):=placeOf_no l (fun j y hy=>Hn.out j y (List.getElem?_eq_some_iff.1 hy).1 hy)
   go_wp2_with fail
   go_ret
   exact ⟨by rw [HP.out];rfl,rfl⟩
end Go.Proofs.YtaejfobbogahmabGreatDoor
namespace Go.Proofs.YtaejfobbogahmabGreatDoor
open Go Go.RowKit
theorem placeOf_spec {x:Int}:∀(l:List Int),(placeOf x l = -1∧without l x=l)∨∃k:Nat,placeOf x l=k∧k < l.length∧l[k]?=some x∧without (l.take (k+1)) x=l.take k
 | []=>.inl ⟨rfl,rfl⟩
 | y::l=>by
   by_cases h:y=x
   ·subst h
    exact .inr ⟨0,by simp [placeOf],by simp,rfl,by simp [without]⟩
   ·rcases placeOf_spec (x:=x) l with ⟨h1,h2⟩ | ⟨k,h1,h2,h3,h4⟩
    ·refine .inl ⟨by simp [placeOf,h,h1],?_⟩
     unfold without at h2 ⊢
     rw [List.filter_cons,if_pos (by simp [h]),h2]
    ·refine .inr ⟨k+1,?_,by simp;omega,by simpa using h3,?_⟩
     ·simp only [placeOf,if_neg h,h1]
      rw [if_neg (by omega)];omega
     ·unfold without at h4 ⊢
      rw [List.take_succ_cons,List.filter_cons,if_pos (by simp [h]),h4];rfl
def DelPost (own:Nat→Prop) (x:Int) (l:List Int) (w:World) (e:Ending) (w':World):Prop:=
 ∃v,e=.returned v∧SlAt w' 3 1 own v (without l x).length ((without l x).map encI)∧Fr own w w'
def DelAt (own:Nat→Prop) (x:Int) (l:List Int) (b off cap:Nat) (w wr:World) (i j:Nat):Prop:=
 ∃xs,SlAt wr 3 1 own (.slice (some ⟨b,off,none⟩) l.length cap) l.length xs∧xs.take i=(without (l.take j) x).map encI∧xs.drop j=(l.map encI).drop j∧Fr own w wr
theorem without_take_no {l:List Int} {x y:Int} {j:Nat} (hy:l[j]?=some y):without (l.take (j+1)) x=if y=x then without (l.take j) x else without (l.take j) x++[y]:=by
 rw [List.take_add_one,hy]
 unfold without
 rw [List.filter_append]
 by_cases h:y=x<;>simp [h]
theorem del_skip {own:Nat→Prop} {x y:Int} {l:List Int} {b off cap:Nat} {w wr:World} {i j:Nat} {xs:List Value}
 (h:SlAt wr 3 1 own (.slice (some ⟨b,off,none⟩) l.length cap) l.length xs∧xs.take i=(without (l.take j) x).map encI∧xs.drop j=(l.map encI).drop j∧Fr own w wr) (hy:l[j]?=some y) (hyx:y=x):DelAt own x l b off cap w wr i (j+1):=by
 obtain ⟨h1,h2,h3,h4⟩:=h
 refine ⟨xs,h1,by rw [without_take_no hy,if_pos hyx];exact h2,?_,h4⟩
 rw [←List.drop_drop,←List.drop_drop,h3]
theorem del_keep {own:Nat→Prop} {x y:Int} {l:List Int} {b off cap:Nat} {w wr:World} {i j:Nat} {xs:List Value}
 (h:SlAt wr 3 1 own (.slice (some ⟨b,off,none⟩) l.length cap) l.length xs∧xs.take i=(without (l.take j) x).map encI∧xs.drop j=(l.map encI).drop j∧Fr own w wr) (hy:l[j]?=some y) (hyx:¬y=x) (hij:i < j) (hi:i < l.length) (hob:own b) :
 DelAt own x l b off cap w (wr.setCell ⟨b,off+i,none⟩ (vi y)) (i+1) (j+1):=by
 obtain ⟨h1,h2,h3,h4⟩:=h
 have hlen:xs.length=l.length:=by have:=h1.length;omega
 refine ⟨xs.set i (vi y),h1.set hi _,?_,?_,h4.setCell _ _ (.inl hob)⟩
 ·rw [without_take_no hy,if_neg hyx,List.take_add_one,List.take_set_of_le (Nat.le_refl i),h2,List.getElem?_set_self (by omega)]
  simp
 ·rw [List.drop_set_of_lt (by omega),←List.drop_drop,←List.drop_drop,h3]
theorem del_end {own:Nat→Prop} {x:Int} {l:List Int} {b off cap:Nat} {w wr:World} {i:Nat} (h:DelAt own x l b off cap w wr i l.length) (hi:i < l.length) (hcap:l.length≤cap) :
 ∃w2,(∀c,(Builtin.clear_ #[74] 0 #[.slice (some ⟨b,off+i,none⟩) (l.length - i) c]).run Tryz.prog wr=.ok (.tuple #[]) w2)∧Hid (DelPost own x l w (.returned (.slice (some ⟨b,off,none⟩) i cap)) w2):=by
 obtain ⟨xs,h1,h2,h3,h4⟩:=h
 rcases h1 with ⟨h,_⟩ | ⟨b',off',cap',cs,e,hb,hblk,hc1,hc2,hsz,hlen,hcell⟩
 ·cases h
 injection e with e1 e2 e3
 injection e1 with e1
 injection e1 with e4 e5
 subst e4;subst e5;subst e3
 have hlen':xs.length=l.length:=by omega
 refine ⟨_,fun c=>Lib.run_clear_slice wr 74 3 0 (vi 0) Tryz.underlying74 (fun w=>zeroInt w) rfl rfl b (off+i) (l.length - i) c (by omega) (fun j hj=>?_) (fun j _=>frozen_of_blk hblk),?_⟩
 ·rw [cell_of_blk' hblk]
  simp;omega
 ·obtain ⟨cs',k1,k2,k3,k4⟩:=blk_setCells (List.replicate (l.length - i) (vi 0)) (off+i) wr cs hblk (by simp;omega)
  have hw:(without l x).length=i∧xs.take i=(without l x).map encI:=by
   rw [List.take_of_length_le (Nat.le_refl _)] at h2
   have:=congrArg List.length h2
   simp at this
   exact ⟨by omega,h2⟩
  refine ⟨_,rfl,?_,fr_setCells _ _ _ _ h4 (.inl hb)⟩
  rw [hw.1]
  refine .inr ⟨b,off,cap,cs',rfl,hb,k1,by omega,hc2,by omega,by rw [List.length_map,hw.1];omega,fun j u hj=>?_⟩
  rw [←hw.2] at hj
  rw [List.getElem?_take] at hj
  split at hj
  ·rw [k4 _ (by omega)]
   exact hcell j u hj
  ·cases hj
theorem DeleteFunc_calls {w:World} {own:Nat→Prop} {v:Value} {l:List Int} (hs:SlAt w 3 1 own v l.length (l.map encI)) {B:Nat} {x:Int} (hB:w.cell? ⟨B,0,none⟩=some (vi x)) (hBl:B < w.heap.size) (hBo:¬own B) (hl:l.length≤1000000000000) :
 Calls Tryz.prog 103 #[v,.func (.func 104) #[] #[vp B]] w (DelPost own x l w):=by
 have hent:=enter_wi
 have HI:=Lib.hid (IndexFunc_calls hs hB)
 have HC:=Lib.hid (fun (wr:World) (hf:Fr own w wr) y=>wi1_calls (w:=wr) (y:=y) (x:=x) (B:=B) ((World.cell?_of_block (w:=w) (a:=⟨B,0,none⟩) (hf.block B hBl hBo)).trans hB))
 have HS:=Lib.hid hs
 obtain ⟨va,vc,hv1,hv2,hv3⟩:=hs.form'
 subst hv1
 unfold maxLen at hv3
 clear hs hB hBo
 rcases placeOf_spec (x:=x) l with ⟨h1,h2⟩ | ⟨k,h1,h2,h3,h4⟩
 ·rw [h1] at HI
  have HP:Hid (DelPost own x l w (.returned (.slice va l.length vc)) w):=⟨_,rfl,by rw [h2];exact HS.out,Fr.refl _ _⟩
  clear h1 h2
  go_enter Tryz.func103,Tryz.ntmps103
  go_wp2_with fail
  refine HI.out.mono ?_
  rintro e w1 ⟨rfl,rfl⟩
  go_wp2_with fail
  go_ret
  exact HP.out
 ·rw [h1] at HI
  have hk1:((k:Int)==-1)=false:=beq_eq_false_iff_ne.2 (by omega)
  have H4:=Lib.hid h4
  have hkb:(k:Int)+1≤1000000000001:=by omega
  clear h1 h3 h4
  go_enter Tryz.func103,Tryz.ntmps103
  go_wp2_with fail
  refine HI.out.mono ?_
  rintro e w1 ⟨rfl,rfl⟩
  go_wp2_with fail
  obtain ⟨b,off,cap,hv,hob,hbl,hnc,hcm,hcell,hfz⟩:=HS.out.form (by omega)
  obtain ⟨rfl,rfl⟩:va=some ⟨b,off,none⟩∧vc=cap:=by injection hv with e1 e2 e3;exact ⟨e1,e3⟩
  have H0:Hid (DelAt own x l b off vc w w k (k+1)):=⟨l.map encI,HS.out,by rw [H4.out,List.map_take],rfl,Fr.refl _ _⟩
  have Hob:=Lib.hid hob
  clear hv hcell hfz hbl
  go_loopw [5,6,7] (fun s5 s6 _ wr=>∃i j:Nat,s5=.int .i64 i∧s6=.int .i64 j∧i < j∧j≤l.length∧Hid (DelAt own x l b off vc w wr i j)) (fun _ s6 _ _=>l.length - (intOf s6).toNat)
  case atStart=>exact ⟨k,k+1,by go_num,by go_num,by omega,by omega,H0.out⟩
  case round =>
   obtain ⟨i,j,rfl,rfl,hij,hj,HD⟩:=hrel
   by_cases hjl:j < l.length
   ·have hlt:decide ((j:Int) < (l.length:Int))=true:=decide_eq_true (by omega)
    obtain ⟨y,hy⟩:∃y,l[j]?=some y:=⟨_,List.getElem?_eq_getElem hjl⟩
    obtain ⟨xs,hx1,hx2,hx3,hx4⟩:=HD.out
    have hxj:xs[j]?=some (vi y):=by
     have:=congrArg (fun z=>z[0]?) hx3
     simp only [List.getElem?_drop,Nat.add_zero,List.getElem?_map,hy] at this
     exact this
    obtain ⟨b2,off2,cap2,hv,hob2,hbl,_,_,hcell,hfz⟩:=hx1.form (by omega)
    obtain ⟨⟨rfl,rfl⟩,rfl⟩:(b=b2∧off=off2)∧vc=cap2:=by injection hv with e1 e2 e3;injection e1 with e1;injection e1 with e4 e5;exact ⟨⟨e4,e5⟩,e3⟩
    have ck:wr.cell? ⟨b,off+j,none⟩=some (vi y):=hcell j _ hxj
    have hxi:∃u,xs[i]?=some u:=by
     have:xs.length=l.length*1:=hx1.length
     exact ⟨_,List.getElem?_eq_getElem (by omega)⟩
    obtain ⟨u,hu⟩:=hxi
    have ci:wr.cell? ⟨b,off+i,none⟩=some u:=hcell i _ hu
    have fi:wr.frozen? ⟨b,off+i,none⟩=false:=hfz _
    have HCy:=Lib.hid (HC.out wr hx4 y)
    have HXS:=Lib.hid (And.intro hx1 (And.intro hx2 (And.intro hx3 hx4)))
    have Hy:=Lib.hid hy
    have hj0:(0:Int)≤(j:Int):=by omega
    have hj1:(j:Int) < (l.length:Int):=by omega
    have hi0:(0:Int)≤(i:Int):=by omega
    have hi1:(i:Int) < (l.length:Int):=by omega
    clear hy hxj hv hcell hfz hx1 hx2 hx3 hx4 hu hob2 hbl
    by_cases hyx:y=x
    ·have hd:decide (y=x)=true:=by simp [hyx]
     rw [hd] at HCy
     have HN:Hid (DelAt own x l b off vc w wr i (j+1)):=del_skip HXS.out Hy.out hyx
     clear hd hyx
     go_wp2_with fail
     refine HCy.out.mono ?_
     rintro e w1 ⟨rfl,rfl⟩
     go_wp2_with fail
     go_roundw
     case rel=>exact ⟨i,j+1,by go_num,by go_num,by omega,by omega,HN.out⟩
     case measure=>simp [intOf];omega
    ·have hd:decide (y=x)=false:=by simp [hyx]
     rw [hd] at HCy
     have HN:Hid (DelAt own x l b off vc w (wr.setCell ⟨b,off+i,none⟩ (vi y)) (i+1) (j+1)):=del_keep HXS.out Hy.out hyx hij (by omega) Hob.out
     clear hd hyx
     go_wp2_with fail
     refine HCy.out.mono ?_
     rintro e w1 ⟨rfl,rfl⟩
     go_wp2_with fail
     go_roundw
     case rel=>exact ⟨i+1,j+1,by go_num,by go_num,by omega,by omega,HN.out⟩
     case measure=>simp [intOf];omega
   ·obtain rfl:j=l.length:=by omega
    have hlt:decide ((l.length:Int) < (l.length:Int))=false:=by simp
    have hi0:(0:Int)≤(i:Int):=by omega
    have hi1:(i:Int)≤(l.length:Int):=by omega
    have hi2:(i:Int)≤(vc:Int):=by omega
    have hne:¬i=vc:=by omega
    have HE:=Lib.hid (del_end HD.out (by omega) hv2)
    obtain ⟨w2,hclr,HW2⟩:=HE.out
    go_wp2_with fail
    go_ret
    exact HW2.out
theorem without_calls {w:World} {own:Nat→Prop} {v:Value} {l:List Int} (hs:SlAt w 3 1 own v l.length (l.map encI)) (x:Int) (hown:∀b,own b→b < w.heap.size) (hl:l.length≤1000000000000) :
 Calls Tryz.prog 65 #[v,vi x] w (DelPost own x l w):=by
 have HC:=Lib.hid (DeleteFunc_calls (w:=w.alloc (.cells #[vi x] 3)) (B:=w.heap.size) (x:=x) (hs.of_blk (fun b _ hl=>blk_alloc_lt w hl) (fun b hb _=>hb)) (cell_of_blk (blk_alloc_new w) rfl) (by simp) (fun h=>by have:=hown _ h;omega) hl)
 clear hs
 go_enter Tryz.func65,Tryz.ntmps65
 go_wp2_with fail
 refine HC.out.mono ?_
 rintro e w1 ⟨v1,rfl,h2,h3⟩
 have HP:Hid (DelPost own x l w (.returned v1) w1):=⟨v1,rfl,h2,((Fr.refl own w).alloc _).trans h3 (fun b hb=>.inl hb)⟩
 clear h2 h3
 go_wp2_with fail
 go_ret
 exact HP.out
end Go.Proofs.YtaejfobbogahmabGreatDoor
namespace Go.Proofs.YtaejfobbogahmabGreatDoor
open Go Go.RowKit
theorem bytes_beq (x y:ByteArray):(x.toList==y.toList)=decide (x=y):=by
 rw [Bool.eq_iff_iff,beq_iff_eq,decide_eq_true_eq]
 rw [ByteArray.toList_eq,ByteArray.toList_eq]
 exact ⟨fun h=>ByteArray.ext (Array.toList_inj.mp h),fun h=>by rw [h]⟩
theorem zeroStr (w:World):(zeroValue 9).run Tryz.prog w=.ok (.string ⟨#[]⟩) w:=by kernel_rfl
theorem enter_ws (args:Array Value) (w:World):(callFunc 116 args).run Tryz.prog w=.ok (.enter 116 args) w:=by kernel_rfl
theorem ws1_calls {B:Nat} {x y:ByteArray} {w:World} (h1:w.cell? ⟨B,0,none⟩=some (vs x)) :
 Calls Tryz.prog 116 #[vs y,vp B] w fun e w'=>e=.returned (.bool (decide (y=x)))∧w=w':=by
 have hb:=Lib.hid (bytes_beq y x)
 go_enter Tryz.func116,Tryz.ntmps116
 go_wp2_with fail
 go_ret
 exact ⟨congrArg (fun b=>Ending.returned (.bool b)) hb.out,rfl⟩
def placeOfS (x:ByteArray):List ByteArray→Int
 | []=>-1
 | y::l=>if y=x then 0 else if placeOfS x l = -1 then -1 else placeOfS x l+1
theorem placeOfS_at {x:ByteArray}:∀(l:List ByteArray) (k:Nat),l[k]?=some x→(∀(j:Nat) y,j < k→l[j]?=some y→y≠x)→placeOfS x l=k
 | [],k,h,_=>by simp at h
 | y::l,0,h,_=>by simp at h;simp [placeOfS,h]
 | y::l,k+1,h,hn=>by
   have h0:y≠x:=hn 0 y (by omega) rfl
   have ih:=placeOfS_at l k (by simpa using h) (fun j z hj hz=>hn (j+1) z (by omega) (by simpa using hz))
   simp only [placeOfS,if_neg h0,ih]
   rw [if_neg (by omega)]
   omega
theorem placeOfS_no {x:ByteArray}:∀(l:List ByteArray),(∀(j:Nat) y,l[j]?=some y→y≠x)→placeOfS x l = -1
 | [],_=>rfl
 | y::l,hn=>by
   have h0:y≠x:=hn 0 y rfl
   have ih:=placeOfS_no l (fun j z hz=>hn (j+1) z (by simpa using hz))
   simp [placeOfS,if_neg h0,ih]
theorem IndexFuncS_calls {w:World} {own:Nat→Prop} {v:Value} {l:List ByteArray} (hs:SlAt w 9 1 own v l.length (l.map encS)) {B:Nat} {x:ByteArray} (hB:w.cell? ⟨B,0,none⟩=some (vs x)) :
 Calls Tryz.prog 90 #[v,.func (.func 116) #[] #[vp B]] w fun e w'=>e=.returned (vi (placeOfS x l))∧w=w':=by
 have hent:=enter_ws
 have HC:=Lib.hid (fun y=>ws1_calls (y:=y) hB)
 obtain ⟨va,vc,hv1,hv2,hv3⟩:=hs.form'
 subst hv1
 have HS:=Lib.hid hs
 unfold maxLen at hv3
 clear hs hB
 go_enter Tryz.func90,Tryz.ntmps90
 go_wp2_with fail
 go_loop [5,8] (fun _ s8=>∃k:Nat,s8=.int .i64 k∧k≤l.length∧Hid (∀(j:Nat) y,j < k→l[j]?=some y→y≠x)) (fun _ s8=>l.length - (intOf s8).toNat)
 case atStart=>exact ⟨0,by go_num,Nat.zero_le _,fun j y hj=>by omega⟩
 case round =>
  obtain ⟨k,rfl,hk,Hn⟩:=hrel
  by_cases hkl:k < l.length
  ·have hlt:decide ((k:Int) < (l.length:Int))=true:=decide_eq_true (by omega)
   obtain ⟨y,hy⟩:∃y,l[k]?=some y:=⟨_,List.getElem?_eq_getElem hkl⟩
   obtain ⟨b,off,cap,hv,_,_,_,_,hc,_⟩:=HS.out.form (by omega)
   obtain ⟨rfl,rfl⟩:va=some ⟨b,off,none⟩∧vc=cap:=by injection hv with e1 e2 e3;exact ⟨e1,e3⟩
   have ck:w.cell? ⟨b,off+k,none⟩=some (vs y):=hc k _ (by simp [hy])
   have hk0:(0:Int)≤(k:Int):=by omega
   have hk1:(k:Int) < (l.length:Int):=by omega
   have Hy:=Lib.hid hy
   have HCy:=Lib.hid (HC.out y)
   clear hc hv hy
   by_cases hyx:y=x
   ·have hd:decide (y=x)=true:=by simp [hyx]
    rw [hd] at HCy
    have HP:Hid (placeOfS x l=k):=placeOfS_at l k (by rw [Hy.out,hyx]) Hn.out
    clear hd hyx
    go_wp2_with fail
    refine HCy.out.mono ?_
    rintro e w1 ⟨rfl,rfl⟩
    go_wp2_with fail
    go_ret
    exact ⟨by rw [HP.out];rfl,rfl⟩
   ·have hd:decide (y=x)=false:=by simp [hyx]
    rw [hd] at HCy
    have HN:Hid (∀(j:Nat) z,j < k+1→l[j]?=some z→z≠x):=fun j z hj hz=>by
     by_cases e:j=k
     ·subst e;rw [Hy.out] at hz;cases hz;exact hyx
     ·exact Hn.out j z (by omega) hz
    clear hd hyx
    go_wp2_with fail
    refine HCy.out.mono ?_
    rintro e w1 ⟨rfl,rfl⟩
    go_wp2_with fail
    go_round
    case rel=>exact ⟨k+1,by go_num,by omega,HN.out⟩
    case measure=>simp [intOf];omega
  ·obtain rfl:k=l.length:=by omega
   have hlt:decide ((l.length:Int) < (l.length:Int))=false:=by simp
   have HP:Hid (placeOfS x l = -1):=placeOfS_no l (fun j y hy=>Hn.out j y (List.getElem?_eq_some_iff.1 hy).1 hy)
   go_wp2_with fail
   go_ret
   exact ⟨by rw [HP.out];rfl,rfl⟩
end Go.Proofs.YtaejfobbogahmabGreatDoor
namespace Go.Proofs.YtaejfobbogahmabGreatDoor
open Go Go.RowKit
theorem placeOfS_spec {x:ByteArray}:∀(l:List ByteArray),(placeOfS x l = -1∧without l x=l)∨∃k:Nat,placeOfS x l=k∧k < l.length∧l[k]?=some x∧without (l.take (k+1)) x=l.take k
 | []=>.inl ⟨rfl,rfl⟩
 | y::l=>by
   by_cases h:y=x
   ·subst h
    exact .inr ⟨0,by simp [placeOfS],by simp,rfl,by simp [without]⟩
   ·rcases placeOfS_spec (x:=x) l with ⟨h1,h2⟩ | ⟨k,h1,h2,h3,h4⟩
    ·refine .inl ⟨by simp [placeOfS,h,h1],?_⟩
     unfold without at h2 ⊢
     rw [List.filter_cons,if_pos (by simp [h]),h2]
    ·refine .inr ⟨k+1,?_,by simp;omega,by simpa using h3,?_⟩
     ·simp only [placeOfS,if_neg h,h1]
      rw [if_neg (by omega)];omega
     ·unfold without at h4 ⊢
      rw [List.take_succ_cons,List.filter_cons,if_pos (by simp [h]),h4];rfl
def DelPostS (own:Nat→Prop) (x:ByteArray) (l:List ByteArray) (w:World) (e:Ending) (w':World):Prop:=
 ∃v,e=.returned v∧SlAt w' 9 1 own v (without l x).length ((without l x).map encS)∧Fr own w w'
def DelAtS (own:Nat→Prop) (x:ByteArray) (l:List ByteArray) (b off cap:Nat) (w wr:World) (i j:Nat):Prop:=
 ∃xs,SlAt wr 9 1 own (.slice (some ⟨b,off,none⟩) l.length cap) l.length xs∧xs.take i=(without (l.take j) x).map encS∧xs.drop j=(l.map encS).drop j∧Fr own w wr
theorem without_take_noS {l:List ByteArray} {x y:ByteArray} {j:Nat} (hy:l[j]?=some y):without (l.take (j+1)) x=if y=x then without (l.take j) x else without (l.take j) x++[y]:=by
 rw [List.take_add_one,hy]
 unfold without
 rw [List.filter_append]
 by_cases h:y=x<;>simp [h]
theorem del_skipS {own:Nat→Prop} {x y:ByteArray} {l:List ByteArray} {b off cap:Nat} {w wr:World} {i j:Nat} {xs:List Value}
 (h:SlAt wr 9 1 own (.slice (some ⟨b,off,none⟩) l.length cap) l.length xs∧xs.take i=(without (l.take j) x).map encS∧xs.drop j=(l.map encS).drop j∧Fr own w wr) (hy:l[j]?=some y) (hyx:y=x):DelAtS own x l b off cap w wr i (j+1):=by
 obtain ⟨h1,h2,h3,h4⟩:=h
 refine ⟨xs,h1,by rw [without_take_noS hy,if_pos hyx];exact h2,?_,h4⟩
 rw [←List.drop_drop,←List.drop_drop,h3]
theorem del_keepS {own:Nat→Prop} {x y:ByteArray} {l:List ByteArray} {b off cap:Nat} {w wr:World} {i j:Nat} {xs:List Value}
 (h:SlAt wr 9 1 own (.slice (some ⟨b,off,none⟩) l.length cap) l.length xs∧xs.take i=(without (l.take j) x).map encS∧xs.drop j=(l.map encS).drop j∧Fr own w wr) (hy:l[j]?=some y) (hyx:¬y=x) (hij:i < j) (hi:i < l.length) (hob:own b) :
 DelAtS own x l b off cap w (wr.setCell ⟨b,off+i,none⟩ (vs y)) (i+1) (j+1):=by
 obtain ⟨h1,h2,h3,h4⟩:=h
 have hlen:xs.length=l.length:=by have:=h1.length;omega
 refine ⟨xs.set i (vs y),h1.set hi _,?_,?_,h4.setCell _ _ (.inl hob)⟩
 ·rw [without_take_noS hy,if_neg hyx,List.take_add_one,List.take_set_of_le (Nat.le_refl i),h2,List.getElem?_set_self (by omega)]
  simp
 ·rw [List.drop_set_of_lt (by omega),←List.drop_drop,←List.drop_drop,h3]
theorem del_endS {own:Nat→Prop} {x:ByteArray} {l:List ByteArray} {b off cap:Nat} {w wr:World} {i:Nat} (h:DelAtS own x l b off cap w wr i l.length) (hi:i < l.length) (hcap:l.length≤cap) :
 ∃w2,(∀c,(Builtin.clear_ #[65] 0 #[.slice (some ⟨b,off+i,none⟩) (l.length - i) c]).run Tryz.prog wr=.ok (.tuple #[]) w2)∧Hid (DelPostS own x l w (.returned (.slice (some ⟨b,off,none⟩) i cap)) w2):=by
 obtain ⟨xs,h1,h2,h3,h4⟩:=h
 rcases h1 with ⟨h,_⟩ | ⟨b',off',cap',cs,e,hb,hblk,hc1,hc2,hsz,hlen,hcell⟩
 ·cases h
 injection e with e1 e2 e3
 injection e1 with e1
 injection e1 with e4 e5
 subst e4;subst e5;subst e3
 have hlen':xs.length=l.length:=by omega
 refine ⟨_,fun c=>Lib.run_clear_slice wr 65 9 0 (vs ⟨#[]⟩) Tryz.underlying65 (fun w=>zeroStr w) rfl rfl b (off+i) (l.length - i) c (by omega) (fun j hj=>?_) (fun j _=>frozen_of_blk hblk),?_⟩
 ·rw [cell_of_blk' hblk]
  simp;omega
 ·obtain ⟨cs',k1,k2,k3,k4⟩:=blk_setCells (List.replicate (l.length - i) (vs ⟨#[]⟩)) (off+i) wr cs hblk (by simp;omega)
  have hw:(without l x).length=i∧xs.take i=(without l x).map encS:=by
   rw [List.take_of_length_le (Nat.le_refl _)] at h2
   have:=congrArg List.length h2
   simp at this
   exact ⟨by omega,h2⟩
  refine ⟨_,rfl,?_,fr_setCells _ _ _ _ h4 (.inl hb)⟩
  rw [hw.1]
  refine .inr ⟨b,off,cap,cs',rfl,hb,k1,by omega,hc2,by omega,by rw [List.length_map,hw.1];omega,fun j u hj=>?_⟩
  rw [←hw.2] at hj
  rw [List.getElem?_take] at hj
  split at hj
  ·rw [k4 _ (by omega)]
   exact hcell j u hj
  ·cases hj
theorem DeleteFuncS_calls {w:World} {own:Nat→Prop} {v:Value} {l:List ByteArray} (hs:SlAt w 9 1 own v l.length (l.map encS)) {B:Nat} {x:ByteArray} (hB:w.cell? ⟨B,0,none⟩=some (vs x)) (hBl:B < w.heap.size) (hBo:¬own B) (hl:l.length≤1000000000000) :
 Calls Tryz.prog 115 #[v,.func (.func 116) #[] #[vp B]] w (DelPostS own x l w):=by
 have hent:=enter_ws
 have HI:=Lib.hid (IndexFuncS_calls hs hB)
 have HC:=Lib.hid (fun (wr:World) (hf:Fr own w wr) y=>ws1_calls (w:=wr) (y:=y) (x:=x) (B:=B) ((World.cell?_of_block (w:=w) (a:=⟨B,0,none⟩) (hf.block B hBl hBo)).trans hB))
 have HS:=Lib.hid hs
 obtain ⟨va,vc,hv1,hv2,hv3⟩:=hs.form'
 subst hv1
 unfold maxLen at hv3
 clear hs hB hBo
 rcases placeOfS_spec (x:=x) l with ⟨h1,h2⟩ | ⟨k,h1,h2,h3,h4⟩
 ·rw [h1] at HI
  have HP:Hid (DelPostS own x l w (.returned (.slice va l.length vc)) w):=⟨_,rfl,by rw [h2];exact HS.out,Fr.refl _ _⟩
  clear h1 h2
  go_enter Tryz.func115,Tryz.ntmps115
  go_wp2_with fail
  refine HI.out.mono ?_
  rintro e w1 ⟨rfl,rfl⟩
  go_wp2_with fail
  go_ret
  exact HP.out
 ·rw [h1] at HI
  have hk1:((k:Int)==-1)=false:=beq_eq_false_iff_ne.2 (by omega)
  have H4:=Lib.hid h4
  have hkb:(k:Int)+1≤1000000000001:=by omega
  clear h1 h3 h4
  go_enter Tryz.func115,Tryz.ntmps115
  go_wp2_with fail
  refine HI.out.mono ?_
  rintro e w1 ⟨rfl,rfl⟩
  go_wp2_with fail
  obtain ⟨b,off,cap,hv,hob,hbl,hnc,hcm,hcell,hfz⟩:=HS.out.form (by omega)
  obtain ⟨rfl,rfl⟩:va=some ⟨b,off,none⟩∧vc=cap:=by injection hv with e1 e2 e3;exact ⟨e1,e3⟩
  have H0:Hid (DelAtS own x l b off vc w w k (k+1)):=⟨l.map encS,HS.out,by rw [H4.out,List.map_take],rfl,Fr.refl _ _⟩
  have Hob:=Lib.hid hob
  clear hv hcell hfz hbl
  go_loopw [5,6,7] (fun s5 s6 _ wr=>∃i j:Nat,s5=.int .i64 i∧s6=.int .i64 j∧i < j∧j≤l.length∧Hid (DelAtS own x l b off vc w wr i j)) (fun _ s6 _ _=>l.length - (intOf s6).toNat)
  case atStart=>exact ⟨k,k+1,by go_num,by go_num,by omega,by omega,H0.out⟩
  case round =>
   obtain ⟨i,j,rfl,rfl,hij,hj,HD⟩:=hrel
   by_cases hjl:j < l.length
   ·have hlt:decide ((j:Int) < (l.length:Int))=true:=decide_eq_true (by omega)
    obtain ⟨y,hy⟩:∃y,l[j]?=some y:=⟨_,List.getElem?_eq_getElem hjl⟩
    obtain ⟨xs,hx1,hx2,hx3,hx4⟩:=HD.out
    have hxj:xs[j]?=some (vs y):=by
     have:=congrArg (fun z=>z[0]?) hx3
     simp only [List.getElem?_drop,Nat.add_zero,List.getElem?_map,hy] at this
     exact this
    obtain ⟨b2,off2,cap2,hv,hob2,hbl,_,_,hcell,hfz⟩:=hx1.form (by omega)
    obtain ⟨⟨rfl,rfl⟩,rfl⟩:(b=b2∧off=off2)∧vc=cap2:=by injection hv with e1 e2 e3;injection e1 with e1;injection e1 with e4 e5;exact ⟨⟨e4,e5⟩,e3⟩
    have ck:wr.cell? ⟨b,off+j,none⟩=some (vs y):=hcell j _ hxj
    have hxi:∃u,xs[i]?=some u:=by
     have:xs.length=l.length*1:=hx1.length
     exact ⟨_,List.getElem?_eq_getElem (by omega)⟩
    obtain ⟨u,hu⟩:=hxi
    have ci:wr.cell? ⟨b,off+i,none⟩=some u:=hcell i _ hu
    have fi:wr.frozen? ⟨b,off+i,none⟩=false:=hfz _
    have HCy:=Lib.hid (HC.out wr hx4 y)
    have HXS:=Lib.hid (And.intro hx1 (And.intro hx2 (And.intro hx3 hx4)))
    have Hy:=Lib.hid hy
    have hj0:(0:Int)≤(j:Int):=by omega
    have hj1:(j:Int) < (l.length:Int):=by omega
    have hi0:(0:Int)≤(i:Int):=by omega
    have hi1:(i:Int) < (l.length:Int):=by omega
    clear hy hxj hv hcell hfz hx1 hx2 hx3 hx4 hu hob2 hbl
    by_cases hyx:y=x
    ·have hd:decide (y=x)=true:=by simp [hyx]
     rw [hd] at HCy
     have HN:Hid (DelAtS own x l b off vc w wr i (j+1)):=del_skipS HXS.out Hy.out hyx
     clear hd hyx
     go_wp2_with fail
     refine HCy.out.mono ?_
     rintro e w1 ⟨rfl,rfl⟩
     go_wp2_with fail
     go_roundw
     case rel=>exact ⟨i,j+1,by go_num,by go_num,by omega,by omega,HN.out⟩
     case measure=>simp [intOf];omega
    ·have hd:decide (y=x)=false:=by simp [hyx]
     rw [hd] at HCy
     have HN:Hid (DelAtS own x l b off vc w (wr.setCell ⟨b,off+i,none⟩ (vs y)) (i+1) (j+1)):=del_keepS HXS.out Hy.out hyx hij (by omega) Hob.out
     clear hd hyx
     go_wp2_with fail
     refine HCy.out.mono ?_
     rintro e w1 ⟨rfl,rfl⟩
     go_wp2_with fail
     go_roundw
     case rel=>exact ⟨i+1,j+1,by go_num,by go_num,by omega,by omega,HN.out⟩
     case measure=>simp [intOf];omega
   ·obtain rfl:j=l.length:=by omega
    have hlt:decide ((l.length:Int) < (l.length:Int))=false:=by simp
    have hi0:(0:Int)≤(i:Int):=by omega
    have hi1:(i:Int)≤(l.length:Int):=by omega
    have hi2:(i:Int)≤(vc:Int):=by omega
    have hne:¬i=vc:=by omega
    have HE:=Lib.hid (del_endS HD.out (by omega) hv2)
    obtain ⟨w2,hclr,HW2⟩:=HE.out
    go_wp2_with fail
    go_ret
    exact HW2.out
theorem withoutS_calls {w:World} {own:Nat→Prop} {v:Value} {l:List ByteArray} (hs:SlAt w 9 1 own v l.length (l.map encS)) (x:ByteArray) (hown:∀b,own b→b < w.heap.size) (hl:l.length≤1000000000000) :
 Calls Tryz.prog 93 #[v,vs x] w (DelPostS own x l w):=by
 have HC:=Lib.hid (DeleteFuncS_calls (w:=w.alloc (.cells #[vs x] 9)) (B:=w.heap.size) (x:=x) (hs.of_blk (fun b _ hl=>blk_alloc_lt w hl) (fun b hb _=>hb)) (cell_of_blk (blk_alloc_new w) rfl) (by simp) (fun h=>by have:=hown _ h;omega) hl)
 clear hs
 go_enter Tryz.func93,Tryz.ntmps93
 go_wp2_with fail
 refine HC.out.mono ?_
 rintro e w1 ⟨v1,rfl,h2,h3⟩
 have HP:Hid (DelPostS own x l w (.returned v1) w1):=⟨v1,rfl,h2,((Fr.refl own w).alloc _).trans h3 (fun b hb=>.inl hb)⟩
 clear h2 h3
 go_wp2_with fail
 go_ret
 exact HP.out
end Go.Proofs.YtaejfobbogahmabGreatDoor
