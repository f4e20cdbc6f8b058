/-
  The walk of dispatchlaw.sealed: bytes that might be part of a message.
-/
import Derived.Test.YtaejfobbogahmabGreatDoorMkLaw1
import Derived.Test.YtaejfobbogahmabGreatDoorMkXCut
set_option maxRecDepth 100000
set_option maxHeartbeats 16000000
set_option linter.unusedVariables false
set_option linter.unusedSimpArgs false
namespace Go.Proofs.YtaejfobbogahmabGreatDoor
open Go Go.RowKit
def isLet (c:UInt8):Bool:=[115,117,98,99,97,110,112,108,101,116,100,111,102,105,114].contains c.toNat
theorem isLet_no {c:UInt8} (h0:((c.toNat:Int)==115)=false) (h1:((c.toNat:Int)==117)=false) (h2:((c.toNat:Int)==98)=false) (h3:((c.toNat:Int)==99)=false) (h4:((c.toNat:Int)==97)=false) (h5:((c.toNat:Int)==110)=false) (h6:((c.toNat:Int)==112)=false) (h7:((c.toNat:Int)==108)=false) (h8:((c.toNat:Int)==101)=false) (h9:((c.toNat:Int)==116)=false) (h10:((c.toNat:Int)==100)=false) (h11:((c.toNat:Int)==111)=false) (h12:((c.toNat:Int)==102)=false) (h13:((c.toNat:Int)==105)=false) (h14:((c.toNat:Int)==114)=false):isLet c=false:=by
 unfold isLet
 simp only [List.contains_cons,List.contains_nil,Bool.or_false,Bool.or_eq_false_iff,beq_eq_false_iff_ne]
 have k:∀{n:Nat},((c.toNat:Int)==(n:Int))=false→c.toNat≠n:=fun h e=>by rw [e] at h;simp at h
 exact ⟨k h0,k h1,k h2,k h3,k h4,k h5,k h6,k h7,k h8,k h9,k h10,k h11,k h12,k h13,k h14⟩
def noLet (s:Bytes):Prop:=∀c∈s,isLet c=false
def seven:List Bytes:=[[115,117,98],[99,97,110],[112,117,108,108],[98,101,97,116],[100,111,110,101],[102,97,105,108],[100,114,97,105,110]]
def SealedPost (s:Bytes) (w:World) (e:Ending) (w':World):Prop:=∃b,e=.returned (.bool b)∧(b=false→noLet s)∧Below w.heap.size w w'
theorem bs_cutn (l:Bytes) (i n:Nat):(bs l).extract i (i+n)=bs ((l.drop i).take n):=ByteArray.ext (by simp [bs])
theorem sealed_calls (s:Bytes) (hs:s.length≤1000000000) (w:World):Calls Tryz.prog 14 #[vs (bs s)] w (SealedPost s w):=by
 have hz:(bs s).size=s.length:=bs_size _
 obtain ⟨W1,hW1⟩:∃W1,w.alloc (.cells #[vs (bs [115,117,98]),vs (bs [99,97,110]),vs (bs [112,117,108,108]),vs (bs [98,101,97,116]),vs (bs [100,111,110,101]),vs (bs [102,97,105,108]),vs (bs [100,114,97,105,110])] 9)=W1:=⟨_,rfl⟩
 have HB:Hid (Below w.heap.size w W1):=show Below _ _ _ by rw [←hW1];exact (Below.refl _ w).alloc (Nat.le_refl _) _
 have HW:Hid (∀(k:Nat) t,seven[k]?=some t→W1.cell? ⟨w.heap.size,k,none⟩=some (vs (bs t))):=fun k t ht=>by
  have h0:=blk_alloc_new w (o:=.cells #[vs (bs [115,117,98]),vs (bs [99,97,110]),vs (bs [112,117,108,108]),vs (bs [98,101,97,116]),vs (bs [100,111,110,101]),vs (bs [102,97,105,108]),vs (bs [100,114,97,105,110])] 9)
  rw [hW1] at h0
  refine cell_of_blk h0 ?_
  match k,ht with
  | 0,ht=>cases ht;rfl
  | 1,ht=>cases ht;rfl
  | 2,ht=>cases ht;rfl
  | 3,ht=>cases ht;rfl
  | 4,ht=>cases ht;rfl
  | 5,ht=>cases ht;rfl
  | 6,ht=>cases ht;rfl
  | k+7,ht=>simp [seven] at ht
 go_enter Tryz.func14,Tryz.ntmps14
 go_wp2_with fail
 rw [show w.alloc (.cells #[Value.string ⟨#[115,117,98]⟩,Value.string ⟨#[99,97,110]⟩,Value.string ⟨#[112,117,108,108]⟩,Value.string ⟨#[98,101,97,116]⟩,Value.string ⟨#[100,111,110,101]⟩,Value.string ⟨#[102,97,105,108]⟩,Value.string ⟨#[100,114,97,105,110]⟩] 9)=W1 from hW1]
 clear hW1
 go_loop [9] (fun s9=>∃k:Nat,s9=.int .i64 k∧k≤7) (fun s9=>7 - (intOf s9).toNat)
 case atStart=>exact ⟨0,by go_num,by omega⟩
 case round =>
  obtain ⟨k,rfl,hk⟩:=hrel
  by_cases hk7:k < 7
  ·have hlt:decide ((k:Int) < 7)=true:=decide_eq_true (by omega)
   have hk0:(0:Int)≤(k:Int):=by omega
   have hk1:(k:Int) < 7:=by omega
   obtain ⟨t,ht⟩:∃t,seven[k]?=some t:=⟨_,List.getElem?_eq_getElem (by show k < 7;exact hk7)⟩
   have ck:=HW.out k t ht
   have htl:t.length≤5:=by
    have:=List.mem_of_getElem? ht
    simp only [seven,List.mem_cons,List.not_mem_nil,or_false] at this
    rcases this with h | h | h | h | h | h | h<;>subst h<;>decide
   have htz:(bs t).size=t.length:=bs_size _
   have htt:(bs t).toList=t:=by rw [ByteArray.toList_eq];rfl
   clear ht
   go_wp2_with fail
   go_loop [5] (fun s5=>∃i:Nat,s5=.int .i64 i∧i≤s.length+1) (fun s5=>s.length+1 - (intOf s5).toNat)
   case atStart=>exact ⟨0,by go_num,by omega⟩
   case round =>
    obtain ⟨i,rfl,hi⟩:=hrel
    by_cases hil:i+t.length≤s.length
    ·have hle:decide ((i:Int)+(t.length:Int)≤(s.length:Int))=true:=decide_eq_true (by omega)
     have hi0:(0:Int)≤(i:Int):=by omega
     have hi1:(i:Int)≤(i:Int)+(t.length:Int):=by omega
     have hi2:(0:Int)≤(i:Int)+(t.length:Int):=by omega
     have hi3:(i:Int)+(t.length:Int)≤(s.length:Int):=by omega
     have hi4:((i:Int)+(t.length:Int)).toNat=i+t.length:=by omega
     have hex:(bs s).extract i (i+t.length)=bs ((s.drop i).take t.length):=bs_cutn _ _ _
     have hext:(bs ((s.drop i).take t.length)).toList=(s.drop i).take t.length:=by rw [ByteArray.toList_eq];rfl
     obtain ⟨q,hq⟩:∃q,((s.drop i).take t.length==t)=q:=⟨_,rfl⟩
     go_wp2_with fail
     ·go_ret
      exact ⟨true,rfl,(fun h=>by cases h),HB.out⟩
     ·exact ⟨⟨i+1,by go_num,by omega⟩,by simp [intOf];omega⟩
    ·have hle:decide ((i:Int)+(t.length:Int)≤(s.length:Int))=false:=decide_eq_false (by omega)
     go_wp2_with fail
     go_round
     case rel=>exact ⟨k+1,by go_num,by omega⟩
     case measure=>simp [intOf];omega
  ·obtain rfl:k=7:=by omega
   have hlt:decide ((7:Int) < 7)=false:=by decide
   go_wp2_with fail
   go_loop [6] (fun s6=>∃i:Nat,s6=.int .i64 i∧i≤s.length∧Hid (∀(j:Nat) c,j < i→s[j]?=some c→isLet c=false)) (fun s6=>s.length - (intOf s6).toNat)
   case atStart=>exact ⟨0,by go_num,by omega,fun j c hj=>by omega⟩
   case round =>
    obtain ⟨i,rfl,hi,HA⟩:=hrel
    by_cases hil:i < s.length
    ·have hlt2:decide ((i:Int) < (s.length:Int))=true:=decide_eq_true (by omega)
     obtain ⟨c,hc⟩:∃c,s[i]?=some c:=⟨_,List.getElem?_eq_getElem hil⟩
     have hib:i < (bs s).size:=by rw [hz];exact hil
     have hget:(bs s)[i]'hib=c:=bs_get hc
     have hi0:(0:Int)≤(i:Int):=by omega
     have hi1:(i:Int) < (s.length:Int):=by omega
     have HC:=Lib.hid hc
     clear hc
     go_wp2_with fail
     all_goals first
      | (go_ret;exact ⟨true,rfl,(fun h=>by cases h),HB.out⟩)
      | (refine ⟨⟨i+1,by go_num,by omega,fun j c' hj hc'=>?_⟩,by simp [intOf];omega⟩
         by_cases e:j=i
         ·subst e
          have h1:=HC.out
          rw [h1] at hc'
          obtain rfl:=Option.some.inj hc'
          exact isLet_no (by assumption) (by assumption) (by assumption) (by assumption) (by assumption) (by assumption) (by assumption) (by assumption) (by assumption) (by assumption) (by assumption) (by assumption) (by assumption) (by assumption) (by assumption)
         ·exact HA.out j c' (by omega) hc')
    ·obtain rfl:i=s.length:=by omega
     have hlt2:decide ((s.length:Int) < (s.length:Int))=false:=by simp
     go_wp2_with fail
     go_ret
     refine ⟨false,rfl,fun _ c hc=>?_,HB.out⟩
     obtain ⟨j,hj,rfl⟩:=List.getElem_of_mem hc
     exact HA.out j _ hj (List.getElem?_eq_getElem hj)
end Go.Proofs.YtaejfobbogahmabGreatDoor
