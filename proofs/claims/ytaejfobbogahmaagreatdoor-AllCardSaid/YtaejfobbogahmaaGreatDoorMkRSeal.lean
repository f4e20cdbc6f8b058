/-
  RSeal: texts of their own, joined.
-/
import Derived.Test.YtaejfobbogahmaaGreatDoorMkBuild
set_option maxRecDepth 100000
set_option maxHeartbeats 16000000
set_option linter.all false
namespace Go.Proofs.YtaejfobbogahmaaGreatDoor
open Go Go.RowKit
theorem zEY (a b:zA):bs a++bs b=bs (a++b):=ByteArray.ext (by simp [bs])
def zCM (x:UInt8):Value:=.int .i64 x.toNat
def zSC (x:Sum4):Array Value:=#[zCM x.1,zCM x.2.1,zCM x.2.2.1,zCM x.2.2.2]
def zCN (w:World) (B:Nat) (x:Sum4):Prop:=w.heap[B]?=some (.cells (zSC x) 3 (0,0))
theorem zCN.cell {w:World} {B:Nat} {x:Sum4} (h:zCN w B x) {j:Nat} (hj:j < 4):w.cell? ⟨B,j,none⟩=some (zCM (sget x j)):=by
 refine zB h ?_
 match j,hj with
 | 0,_=>rfl
 | 1,_=>rfl
 | 2,_=>rfl
 | 3,_=>rfl
theorem zCN.step {w:World} {B:Nat} {x:Sum4} (h:zCN w B x) (k:Nat) (c:UInt8):zCN (w.setCell ⟨B,k % 4,none⟩ (zCM (sget x (k % 4)*3+c))) B (zCo x k c):=by
 have h2:=zM (off:=k % 4) (v:=zCM (sget x (k % 4)*3+c)) w h
 have hk:k % 4 < 4:=Nat.mod_lt _ (by omega)
 refine h2.trans ?_
 unfold zCo sget
 match k % 4,hk with
 | 0,_=>rfl
 | 1,_=>rfl
 | 2,_=>rfl
 | 3,_=>rfl
theorem zSD (c:UInt8):(⟨#[48,49,50,51,52,53,54,55,56,57,97,98,99,100,101,102]⟩:ByteArray).extract (c.toNat / 16) (c.toNat / 16+1)=bs [hexD (c / 16)]∧(⟨#[48,49,50,51,52,53,54,55,56,57,97,98,99,100,101,102]⟩:ByteArray).extract (c.toNat % 16) (c.toNat % 16+1)=bs [hexD (c % 16)]:=by
 have:∀n:Nat,n < 256→(((⟨#[48,49,50,51,52,53,54,55,56,57,97,98,99,100,101,102]⟩:ByteArray).extract (n / 16) (n / 16+1)).data.toList=[hexD (UInt8.ofNat n / 16)])∧(((⟨#[48,49,50,51,52,53,54,55,56,57,97,98,99,100,101,102]⟩:ByteArray).extract (n % 16) (n % 16+1)).data.toList=[hexD (UInt8.ofNat n % 16)]):=by decide +kernel
 have h:=this c.toNat c.toNat_lt
 simp only [UInt8.ofNat_toNat] at h
 exact ⟨ByteArray.ext (by rw [←h.1];exact (Array.toArray_toList).symm),ByteArray.ext (by rw [←h.2];exact (Array.toArray_toList).symm)⟩
theorem zSE (a c:UInt8):(IntKind.i64.wrap (IntKind.i64.wrap ((3:Int)*(a.toNat:Int))+IntKind.i64.wrap (c.toNat:Int))).tmod 256=(((a*3+c).toNat:Nat):Int):=by
 have ha:=a.toNat_lt
 have hc:=c.toNat_lt
 have e:∀n:Int,0≤n→n < 100000→IntKind.i64.wrap n=n:=fun n h1 h2=>by rw [IntKind.wrap_i64];omega
 rw [e (3*(a.toNat:Int)) (by omega) (by omega),e (c.toNat:Int) (by omega) (by omega),e _ (by omega) (by omega),Int.tmod_eq_emod_of_nonneg (by omega),UInt8.toNat_add,UInt8.toNat_mul]
 simp
 omega
theorem zGA (l:zA) (hl:l.length≤1000000000000) (w:World) :
 Calls Tryz.prog 83 #[vs (bs l)] w fun e w'=>e=.returned (vs (bs (zi l)))∧Below w.heap.size w w':=by
 have hsz:(bs l).size=l.length:=yP l
 have hadd:bs l++(⟨#[32]⟩:ByteArray)=bs (l++[32]):=ByteArray.ext (by simp [bs])
 have Hl:=zh hl
 have hl2:(l.length:Int)+1≤9223372036854775807:=by omega
 clear hl
 go_enter Tryz.func83,Tryz.ntmps83
 go_wp2_with fail
 go_loopw [4] (fun s4 wr=>∃k:Nat,s4=.int .i64 k∧k≤l.length∧Hid (zCN wr w.heap.size (yM (l.take k)))∧Hid (Below w.heap.size w wr)) (fun s4 _=>l.length - (intOf s4).toNat)
 case atStart=>exact ⟨0,by go_num,Nat.zero_le _,zL w,(Below.refl _ _).alloc (Nat.le_refl _) _⟩
 case round =>
  obtain ⟨k,rfl,hk,Hs,Hb⟩:=hrel
  by_cases hkl:k < l.length
  ·have hlt:decide ((k:Int) < (l.length:Int))=true:=by simp;exact hkl
   have hk0:(0:Int)≤(k:Int):=by omega
   have hk1:(k:Int) < (l.length:Int):=by omega
   have hmod:(k:Int).tmod 4=((k % 4:Nat):Int):=by
    rw [Int.tmod_eq_emod_of_nonneg (by omega)];omega
   have hm4:((k % 4:Nat):Int) < 4:=by omega
   have hm0:(0:Int)≤((k % 4:Nat):Int):=by omega
   have hc:=Hs.out.cell (j:=k % 4) (by omega)
   unfold zCM at hc
   generalize hmm:k % 4=m at *
   obtain ⟨x,hx⟩:∃x,sget (yM (l.take k)) m=x:=⟨_,rfl⟩
   rw [hx] at hc
   have Hx:=zh hx
   clear hx
   have Hmm:=zh hmm
   clear hmm
   obtain ⟨c,hkc⟩:∃c,l[k]?=some c:=⟨_,List.getElem?_eq_getElem hkl⟩
   obtain ⟨z,Hzz⟩:∃z,Hid (x*3+c=z):=⟨_,rfl⟩
   have hfz:=zI (off:=m) Hs.out
   have Hn:Hid (zCN ((wr.drew).setCell ⟨w.heap.size,m,none⟩ (.int .i64 z.toNat)) w.heap.size (yM (l.take (k+1)))):=by
    rw [zKb hkc]
    have:=zCN.step (w:=wr.drew) Hs.out k c
    rw [Hmm.out,Hx.out,Hzz.out] at this
    exact this
   have Hkc:=zh hkc
   clear hkc
   go_wp2_with fail
   refine xz 16 zAA (by kernel_rfl) ?_
   simp only [List.take_succ_cons,List.take_zero,List.drop_succ_cons,List.drop_zero]
   repeat still_step
   refine wpStill_nil ?_
   rw [zAU Hkc.out,zSE,Hzz.out]
   go_wp2_with fail
   go_roundw
   case rel=>exact ⟨k+1,by go_num,by omega,Hn.out,Below.setCell (xo Hb.out 1) (Nat.le_refl _) _⟩
   case measure=>simp [intOf];omega
  ·obtain rfl:k=l.length:=by omega
   rw [List.take_length] at Hs
   generalize hx:yM l=x at *
   have HX:=zh hx
   clear hx
   have hlt:decide ((l.length:Int) < (l.length:Int))=false:=by simp
   go_wp2_with fail
   go_loopw [5,7,35] (fun s5 _ s35 wr2=>∃k:Nat,s5=vs (bs ((l++[32])++xc x k))∧s35=.int .i64 k∧k≤4∧Hid (zCN wr2 w.heap.size x)∧Hid (Below w.heap.size w wr2)) (fun _ _ s35 _=>4 - (intOf s35).toNat)
   case atStart=>exact ⟨0,by simp [xc],by go_num,Nat.zero_le _,Hs.out,Hb.out⟩
   case round =>
    obtain ⟨k,rfl,rfl,hk4',Hs2,Hb2⟩:=hrel
    by_cases hk4:k < 4
    ·have hlt2:decide ((k:Int) < 4)=true:=decide_eq_true (by omega)
     have hk0:(0:Int)≤(k:Int):=by omega
     have hk1:(k:Int) < 4:=by omega
     obtain ⟨c,hc⟩:∃c,Hid (c=sget x k):=⟨_,rfl⟩
     have hcell:=Hs2.out.cell hk4
     unfold zCM at hcell
     rw [←hc.out] at hcell
     have hc256:=c.toNat_lt
     obtain ⟨q,hq⟩:∃q,q=c.toNat / 16:=⟨_,rfl⟩
     obtain ⟨r,hr⟩:∃r,r=c.toNat % 16:=⟨_,rfl⟩
     obtain ⟨y,hy⟩:∃y,y=c.toNat:=⟨_,rfl⟩
     have hq16:q < 16:=by omega
     have hr16:r < 16:=by omega
     have hqi:(y:Int) / 16=(q:Int):=by omega
     have hqt:(y:Int).tdiv 16=(q:Int):=by rw [Int.tdiv_eq_ediv_of_nonneg (by omega)];omega
     have hri:(y:Int) % 16=(r:Int):=by omega
     have hrt:(y:Int).tmod 16=(r:Int):=by rw [Int.tmod_eq_emod_of_nonneg (by omega)];omega
     have hx:=zSD c
     rw [←hq,←hr] at hx
     obtain ⟨u,hu⟩:∃u,u=hexD (c / 16):=⟨_,rfl⟩
     obtain ⟨v,hv⟩:∃v,v=hexD (c % 16):=⟨_,rfl⟩
     rw [←hu,←hv] at hx
     obtain ⟨hx1,hx2⟩:=hx
     rw [←hy] at hcell hc256
     have hzq:(bs [u]).size=1:=rfl
     have hzr:(bs [v]).size=1:=rfl
     have e1:bs [u]++bs [v]=bs [u,v]:=zEY _ _
     have hz2:(bs [u,v]).size=2:=rfl
     obtain ⟨S,hS⟩:∃S,S=(l++[32])++xc x k:=⟨_,rfl⟩
     have hSl:S.length≤1000000000009:=by rw [hS];have:=Hl.out;have:=zHq x hk4;simp;omega
     rw [←hS]
     have hzS:(bs S).size=S.length:=yP _
     have e2:bs S++bs [u,v]=bs (S++[u,v]):=zEY _ _
     have HN:Hid (S++[u,v]=(l++[32])++xc x (k+1)):=show _=_ by
      rw [←zLG x hk4,hS,hu,hv,hc.out];simp [hex2]
     have hq0:(0:Int)≤(q:Int):=by omega
     have hr0:(0:Int)≤(r:Int):=by omega
     have hq1:(q:Int) < 16:=by omega
     have hr1:(r:Int) < 16:=by omega
     have n1:¬9223372036854775807 < 1+1:=by omega
     have n2:¬9223372036854775807 < S.length+2:=by omega
     clear hq hr hu hv hy hS hk4'
     go_wp2_with fail
     go_quiet (fail)
     go_wp2_with fail
     go_roundw
     case rel=>exact ⟨k+1,by rw [HN.out],by go_num,by omega,Hs2.out,xo Hb2.out _⟩
     case measure=>simp [intOf];omega
    ·obtain rfl:k=4:=by omega
     have HF:Hid ((l++[32])++xc x 4=zi l):=show _=_ by rw [←HX.out];simp [xc,zi,zBZ]
     rw [HF.out]
     go_wp2_with fail
     go_ret
     exact ⟨rfl,Hb2.out⟩
end Go.Proofs.YtaejfobbogahmaaGreatDoor
