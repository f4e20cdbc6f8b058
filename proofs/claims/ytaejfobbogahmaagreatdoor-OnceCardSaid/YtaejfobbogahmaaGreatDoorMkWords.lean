/-
  Words: texts of their own, joined.
-/
import Derived.Test.YtaejfobbogahmaaGreatDoorMkOnceR
import Derived.Test.YtaejfobbogahmaaGreatDoorMkOps
set_option maxRecDepth 100000
set_option maxHeartbeats 16000000
set_option linter.all false
namespace Go.Proofs.YtaejfobbogahmaaGreatDoor
open Go Go.RowKit
theorem zEp (c x:UInt8):∀(l:zA) (ps:List zA) (cur:zA),cut c l=ps++[cur]→cut c (l++[x])=if x=c then ps++[cur]++[[]] else ps++[cur++[x]]
 | [],ps,cur,h=>by
   have h1:ps=[]:=by
    cases ps with
    | nil=>rfl
    | cons p q =>
      have:=congrArg List.length h
      simp [cut] at this
   subst h1
   have h2:cur=[]:=by simpa [cut] using h.symm
   subst h2
   simp only [List.nil_append,cut]
   split<;>rfl
 | y::l,ps,cur,h=>by
   simp only [List.cons_append,cut] at h ⊢
   have hne:cut c l≠[]:=by
    cases l with
    | nil=>simp [cut]
    | cons a l=>unfold cut;split;simp;cases cut c l<;>simp
   obtain ⟨qs,q,hq⟩:∃qs q,cut c l=qs++[q]:=⟨_,_,(List.dropLast_concat_getLast hne).symm⟩
   have ih:=zEp c x l qs q hq
   by_cases hy:y=c
   ·rw [if_pos hy] at h ⊢
    rw [hq] at h
    have e:([]::qs)++[q]=ps++[cur]:=h
    obtain ⟨e1,e2⟩:=List.append_inj' e rfl
    injection e2 with e2
    rw [ih,←e1,e2]
    split<;>rfl
   ·rw [if_neg hy] at h ⊢
    rw [hq] at h
    cases qs with
    | nil =>
      have e:[y::q]=ps++[cur]:=h
      have e1:ps=[]:=by
       cases ps with
       | nil=>rfl
       | cons p r =>
         have:=congrArg List.length e
         simp at this
      subst e1
      have e2:cur=y::q:=by simpa using e.symm
      rw [ih,e2]
      by_cases hx:x=c
      ·rw [if_pos hx,if_pos hx];rfl
      ·rw [if_neg hx,if_neg hx];rfl
    | cons p qs =>
      have e:((y::p)::qs)++[q]=ps++[cur]:=h
      obtain ⟨e1,e2⟩:=List.append_inj' e rfl
      injection e2 with e2
      rw [ih,←e1,e2]
      by_cases hx:x=c
      ·rw [if_pos hx,if_pos hx];rfl
      ·rw [if_neg hx,if_neg hx];rfl
def yd (s:zA) (k f:Nat) (ps:List zA):Prop:=(k≤s.length∧f≤k∧cut 32 (s.take k)=ps++[(s.take k).drop f])∨(k=s.length+1∧ps=cut 32 s)
theorem yd.start (s:zA):yd s 0 0 []:=.inl ⟨Nat.zero_le _,Nat.le_refl _,by simp [cut]⟩
theorem yd.last {s:zA} {f:Nat} {ps:List zA} (h:yd s s.length f ps):yd s (s.length+1) (s.length+1) (ps++[s.drop f]):=by
 rcases h with ⟨_,_,h⟩ | ⟨h,_⟩
 ·rw [List.take_length] at h
  exact .inr ⟨rfl,h.symm⟩
 ·omega
theorem zEq {s:zA} {k:Nat} {c:UInt8} (h:s[k]?=some c):s.take (k+1)=s.take k++[c]:=by
 rw [List.take_add_one,h];rfl
theorem yd.blank {s:zA} {k f:Nat} {ps:List zA} (hk:s[k]?=some 32) (h:yd s k f ps):yd s (k+1) (k+1) (ps++[(s.take k).drop f]):=by
 have hl:=(List.getElem?_eq_some_iff.1 hk).1
 rcases h with ⟨_,_,h⟩ | ⟨h,_⟩
 ·refine .inl ⟨hl,Nat.le_refl _,?_⟩
  have e:(s.take k++[32]).drop (k+1)=[]:=List.drop_eq_nil_of_le (by rw [List.length_append,List.length_take,Nat.min_eq_left (by omega)];simp)
  rw [zEq hk,zEp 32 32 _ _ _ h,if_pos rfl,e]
 ·omega
theorem yd.more {s:zA} {k f:Nat} {ps:List zA} {c:UInt8} (hk:s[k]?=some c) (hc:c≠32) (h:yd s k f ps):yd s (k+1) f ps:=by
 have hl:=(List.getElem?_eq_some_iff.1 hk).1
 rcases h with ⟨_,hf,h⟩ | ⟨h,_⟩
 ·refine .inl ⟨hl,by omega,?_⟩
  rw [zEq hk,zEp 32 c _ _ _ h,if_neg hc,List.drop_append_of_le_length (by simp;omega)]
 ·omega
theorem yd.done {s:zA} {f:Nat} {ps:List zA} (h:yd s (s.length+1) f ps):ps=cut 32 s:=by
 rcases h with ⟨h,_⟩ | ⟨_,h⟩
 ·omega
 ·exact h
theorem yd.from_le {s:zA} {k f:Nat} {ps:List zA} (h:yd s k f ps) (hk:k≤s.length):f≤k:=by
 rcases h with ⟨_,h,_⟩ | ⟨h,_⟩
 ·exact h
 ·omega
theorem zHi (c:UInt8):∀(l:zA) (k:Nat),(cut c (l.take k)).length≤(cut c l).length
 | [],k=>by simp
 | x::l,0=>by
   have:cut c (x::l)≠[]:=by unfold cut;split;simp;cases cut c l<;>simp
   exact List.length_pos_iff.2 this
 | x::l,k+1=>by
   have ih:=zHi c l k
   rw [List.take_succ_cons]
   unfold cut
   split
   ·simp;exact ih
   ·cases h1:cut c (l.take k) with
    | nil =>
      cases h2:cut c l with
      | nil=>simp
      | cons b r=>simp
    | cons a q =>
      rw [h1] at ih
      cases h2:cut c l with
      | nil=>rw [h2] at ih;simp at ih
      | cons b r=>rw [h2] at ih;simpa using ih
theorem yd.few {s:zA} {k f:Nat} {ps:List zA} (h:yd s k f ps):ps.length≤(cut 32 s).length:=by
 rcases h with ⟨_,_,h⟩ | ⟨_,h⟩
 ·have:=zHi 32 s k
  rw [h] at this
  simp at this;omega
 ·rw [h];exact Nat.le_refl _
theorem yd.len {s:zA} {k f:Nat} {ps:List zA} (h:yd s k f ps):ps.length≤s.length+1:=by
 have hc:∀l:zA,(cut 32 l).length≤l.length+1:=fun l=>by
  induction l with
  | nil=>simp [cut]
  | cons a l ih =>
    unfold cut
    split
    ·simp;exact ih
    ·split
     ·simp
     ·next he=>rw [he] at ih;simp at ih ⊢;omega
 rcases h with ⟨_,_,h⟩ | ⟨_,h⟩
 ·have:=hc (s.take k)
  rw [h] at this
  simp at this;omega
 ·rw [h];exact hc s
theorem zNm (s:zA) (f k:Nat):(bs s).extract f k=bs ((s.take k).drop f):=ByteArray.ext (by simp [bs,List.drop_take])
def encB (x:zA):Value:=vs (bs x)
def zNn (s:zA) (w:World) (e:Ending) (w':World):Prop:=∃v,e=.returned v∧SlAt w' 9 1 (fun b=>w.heap.size≤b) v (cut 32 s).length ((cut 32 s).map encB)∧Below w.heap.size w w'
theorem zHj {w wr w5:World} (hB:Below w.heap.size w wr) {ps:List zA} {x:zA} {j g goff gcap:Nat} (hg:w.heap.size≤g∨g=(wr.alloc (.cells #[vs (bs x)] 9)).heap.size)
 (hs:SlAt w5 9 1 (fun b=>b=g) (.slice (some ⟨g,goff,none⟩) (j+1) gcap) (j+1) (ps.map encB++[vs (bs x)])) (hf:Fr (fun b=>b=g) (wr.alloc (.cells #[vs (bs x)] 9)) w5) :
 SlAt w5 9 1 (fun b=>w.heap.size≤b) (.slice (some ⟨g,goff,none⟩) (j+1) gcap) (j+1) ((ps++[x]).map encB)∧Below w.heap.size w w5:=by
 have h1:=hB.size
 have hge:w.heap.size≤g:=by
  rcases hg with h | h
  ·exact h
  ·rw [h,World.size_alloc];omega
 refine ⟨?_,Below.trans (hB.alloc hB.size _) (hf.below (by rw [World.size_alloc];omega) (fun b hb=>by rw [show b=g from hb];exact hge))⟩
 rw [List.map_append]
 exact SlAt.of_blk hs (fun _ _ _=>rfl) (fun b hb _=>by rw [show b=g from hb];exact hge)
theorem zHk (s:zA) (hs:s.length≤140737488355328) (hcl:(cut 32 s).length≤1000000) (w:World):Calls Tryz.prog 29 #[vs (bs s)] w (zNn s w):=by
 have hz:(bs s).size=s.length:=yX s
 have HCL:=zh hcl
 clear hcl
 go_enter Tryz.func29,Tryz.ntmps29
 go_wp2_with fail
 go_loopw [3,4,5] (fun s3 s4 s5 wx=>∃(k f j vc:Nat) (va:Option Addr) (ps:List zA),s3=.slice va j vc∧s4=vi f∧s5=vi k∧k≤s.length+1∧Hid (ps.length=j)∧Hid (yd s k f ps)∧Hid (SlAt wx 9 1 (fun b=>w.heap.size≤b) (.slice va j vc) j (ps.map encB))∧Hid (Below w.heap.size w wx)) (fun _ _ s5 _=>s.length+1 - (intOf s5).toNat)
 case atStart=>exact ⟨0,0,0,0,none,[],rfl,by go_num,by go_num,by omega,rfl,yd.start s,SlAt.nil,Below.refl _ _⟩
 case round =>
  obtain ⟨k,f,j,vc,va,ps,rfl,rfl,rfl,hk,HJ,HW,HS,HB⟩:=hrel
  have hjl:j≤1000001:=by have h1:=HW.out.few;have h2:=HCL.out;rw [HJ.out] at h1;omega
  by_cases hkn:k≤s.length
  ·have hle:decide ((k:Int)≤(s.length:Int))=true:=decide_eq_true (by omega)
   have hfk:=HW.out.from_le hkn
   have HBD:=zh (show j+1≤maxLen∧(j+1)*16≤140737488355328 by unfold maxLen;omega)
   have hf0:(0:Int)≤(f:Int):=by omega
   have hfk2:(f:Int)≤(k:Int):=by omega
   have hkn2:(k:Int)≤(s.length:Int):=by omega
   have hex:=zNm s f k
   by_cases hke:k=s.length
   ·subst hke
    have heq:((s.length:Int)==(s.length:Int))=true:=by simp
    have HL:=zh HW.out.last
    rw [List.take_length] at hex
    have HSA:Hid (SlAt (wr.alloc (.cells #[vs (bs (s.drop f))] 9)) 9 1 (fun b=>w.heap.size≤b) (.slice va j vc) j (ps.map encB)):=HS.out.of_blk (fun b _ hl=>zM wr hl) (fun _ h _=>h)
    go_wp2_with (at_builtin;refine xU _ rfl _ _ _ _ rfl zAi rfl HSA.out rfl (yn wr Tryz.underlying47 [vs (bs (s.drop f))] (by rfl) (by simp [Value.oneCell']) wr.heap.size (by simp)) (by omega) HBD.out.1 HBD.out.2 ?_;intro g goff gcap w5 hg hs5 hf hlt _ _;have HN:=zh (zHj HB.out hg hs5 hf);clear hg hs5 hf hlt)
    go_roundw
    case rel=>exact ⟨s.length+1,s.length+1,j+1,gcap,some ⟨g,goff,none⟩,ps++[s.drop f],rfl,by go_num,by go_num,by omega,(show (_++[_]).length=_ by rw [List.length_append,HJ.out];rfl),HL.out,HN.out.1,HN.out.2⟩
    case measure=>simp [intOf]
   ·have hkl:k < s.length:=by omega
    have heq:((k:Int)==(s.length:Int))=false:=beq_eq_false_iff_ne.2 (by omega)
    obtain ⟨c,hkc⟩:∃c,s[k]?=some c:=⟨_,List.getElem?_eq_getElem hkl⟩
    have hkz:k < (bs s).size:=by rw [hz];exact hkl
    have hget:(bs s)[k]'hkz=c:=zEo hkc
    have hk0:(0:Int)≤(k:Int):=by omega
    have hk1:(k:Int) < (s.length:Int):=by omega
    have HKC:=zh hkc
    clear hkc
    by_cases hc:c=32
    ·subst hc
     have HL:=zh (HW.out.blank HKC.out)
     have HSA:Hid (SlAt (wr.alloc (.cells #[vs (bs ((s.take k).drop f))] 9)) 9 1 (fun b=>w.heap.size≤b) (.slice va j vc) j (ps.map encB)):=HS.out.of_blk (fun b _ hl=>zM wr hl) (fun _ h _=>h)
     go_wp2_with (at_builtin;refine xU _ rfl _ _ _ _ rfl zAi rfl HSA.out rfl (yn wr Tryz.underlying47 [vs (bs ((s.take k).drop f))] (by rfl) (by simp [Value.oneCell']) wr.heap.size (by simp)) (by omega) HBD.out.1 HBD.out.2 ?_;intro g goff gcap w5 hg hs5 hf hlt _ _;have HN:=zh (zHj HB.out hg hs5 hf);clear hg hs5 hf hlt)
     go_roundw
     case rel=>exact ⟨k+1,k+1,j+1,gcap,some ⟨g,goff,none⟩,ps++[(s.take k).drop f],rfl,by go_num,by go_num,by omega,(show (_++[_]).length=_ by rw [List.length_append,HJ.out];rfl),HL.out,HN.out.1,HN.out.2⟩
     case measure=>simp [intOf];omega
    ·have hcb:(c==32)=false:=by simp [hc]
     have hc1:c.toNat≠32:=fun h=>hc (UInt8.toNat_inj.1 (by simpa using h))
     have hc2:decide ((c.toNat:Int)=32)=false:=decide_eq_false (by omega)
     have hc3:((c.toNat:Int)==32)=false:=beq_eq_false_iff_ne.2 (by omega)
     have HL:=zh (HW.out.more HKC.out hc)
     go_wp2_with fail
     go_roundw
     case rel=>exact ⟨k+1,f,j,vc,va,ps,rfl,by go_num,by go_num,by omega,HJ.out,HL.out,HS.out,HB.out⟩
     case measure=>simp [intOf];omega
  ·obtain rfl:k=s.length+1:=by omega
   have hle:decide (((s.length+1:Nat):Int)≤(s.length:Int))=false:=decide_eq_false (by omega)
   have hle2:decide ((s.length:Int)+1≤(s.length:Int))=false:=decide_eq_false (by omega)
   have HD:=zh HW.out.done
   go_wp2_with fail
   go_ret
   refine ⟨_,rfl,?_,HB.out⟩
   rw [←HD.out,HJ.out]
   exact HS.out
theorem zNo (s:zA) (hs:s.length≤1000000) (w:World):Calls Tryz.prog 30 #[vs (bs (zS s))] w fun e w'=>e=.returned (vs (bs s))∧w=w':=by
 have hz:(bs (zS s)).size=s.length+9:=by rw [yX,zCy]
 have hlt:decide (((s.length:Int)+9) < 9)=false:=decide_eq_false (by omega)
 have hlt2:decide (((s.length+9:Nat):Int) < 9)=false:=decide_eq_false (by omega)
 have hw:IntKind.i64.wrap ((s.length:Int)+9 - 9)=(s.length:Int):=by rw [show (s.length:Int)+9 - 9=s.length by omega];exact IntWalk.i64_in _ (by omega)
 have hle:(s.length:Int)≤(s.length:Int)+9:=by omega
 have hl0:(0:Int)≤(s.length:Int):=by omega
 have hex:(bs (zS s)).extract 0 s.length=bs s:=by
  refine ByteArray.ext ?_
  unfold zS
  simp [bs]
 go_enter Tryz.func30,Tryz.ntmps30
 go_wp2_with fail
 go_ret
 exact ⟨by rfl,rfl⟩
end Go.Proofs.YtaejfobbogahmaaGreatDoor
