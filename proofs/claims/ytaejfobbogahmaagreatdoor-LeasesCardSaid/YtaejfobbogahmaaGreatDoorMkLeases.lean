/-
  Play4 Up4 Leases LeasesCard: texts of their own, joined.
-/
import Derived.Test.YtaejfobbogahmaaGreatDoorMkOps
import Derived.Test.YtaejfobbogahmaaGreatDoorMkPlayG
import Derived.Test.YtaejfobbogahmaaGreatDoorMkLawN
import Derived.Test.YtaejfobbogahmaaGreatDoorMkStepG
import Derived.Test.YtaejfobbogahmaaGreatDoorMkMAgain
import Derived.Test.YtaejfobbogahmaaGreatDoorMkStepL
import Derived.Test.YtaejfobbogahmaaGreatDoorMkStepT
import Derived.Test.YtaejfobbogahmaaGreatDoorMkLaid
import Derived.Carry
import Derived.ChangeMaps5
set_option maxRecDepth 100000
set_option maxHeartbeats 16000000
set_option linter.all false
namespace Go.Proofs.YtaejfobbogahmaaGreatDoor
open Go Go.RowKit
def zJn (o:OpD) (w:World) (e:Ending) (w':World):Prop:=∃b,e=.returned (.bool b)∧(b=true→playL o)∧Below w.heap.size w w'
theorem zVT (w:World) (o:OpD) (hs:o.s.length≤1000000000):Calls Tryz.prog 43 #[.agg (zAi o),vi 4] w (zJn o w):=by
 have HY:Hid (∀b:Bool,∀W:World,(b=true→playL o)→Below w.heap.size w W→zJn o w (.returned (.bool b)) W):=fun b W h1 h2=>⟨b,rfl,h1,h2⟩
 have h0:(opBlk w o).heap[w.heap.size]?=some (.cells (zAi o) 98):=zAD w
 have HBK:=Lib.hid h0
 have HB:Hid (Below w.heap.size w (opBlk w o)):=(Below.refl _ w).alloc (Nat.le_refl _) _
 have HHC:=Lib.hid (zQi (opBlk w o) o (by omega))
 have HSD:=Lib.hid (fun W=>zMm o.s hs W)
 have HS:=Lib.hid hs
 have hz:(bs o.s).size=o.s.length:=zLd _
 have HH:Hid (zGm o=if o.kind=3 then o.s.takeWhile (· != 32) else []):=show _=_ from rfl
 obtain ⟨kd,a,b,⟨d1,d2,d3,d4,d5⟩,s⟩:=o
 simp only [zAi,opBlk] at *
 obtain ⟨H,hH⟩:∃H,zGm ⟨kd,a,b,⟨d1,d2,d3,d4,d5⟩,s⟩=H:=⟨_,rfl⟩
 have HHD:=Lib.hid hH
 rw [hH] at HH HHC
 clear h0 hH hs
 go_enter Tryz.func43,Tryz.ntmps43
 go_wp2_with fail
 refine HHC.out.mono ?_
 rintro e w1 ⟨rfl,hb1⟩
 rw [World.size_alloc] at hb1
 have hblk:=(hb1.block _ (Nat.lt_succ_self _)).trans HBK.out
 have HB1:=Lib.hid (HB.out.trans (hb1.mono (Nat.le_succ _)))
 have HBL:=Lib.hid hblk
 clear hb1 HHC HBK HB
 have c0:w1.cell? ⟨w.heap.size,0,none⟩=some (vi kd):=zAA hblk rfl
 have c8:w1.cell? ⟨w.heap.size,8,none⟩=some (vs (bs s)):=zAA hblk rfl
 have ht:(bs H).toList=H:=by rw [ByteArray.toList_eq];rfl
 clear hblk
 by_cases hk3:kd=3
 ·subst hk3
  go_wp2_with fail
  go_loop [6] (fun s6=>∃k:Nat,s6=.int .i64 k∧k≤s.length∧Hid (∀(j:Nat) c,j < k→s[j]?=some c→c≠10)) (fun s6=>s.length - (intOf s6).toNat)
  case atStart=>exact ⟨0,by go_num,Nat.zero_le _,fun j c hj=>by omega⟩
  case round =>
   obtain ⟨k,rfl,hkn,HA⟩:=hrel
   by_cases hkl:k < s.length
   ·have hlt:decide ((k:Int) < (s.length:Int))=true:=decide_eq_true (by omega)
    obtain ⟨c,hkc⟩:∃c,s[k]?=some c:=⟨_,List.getElem?_eq_getElem hkl⟩
    have hkz:k < (bs s).size:=by rw [hz];exact hkl
    have hget:(bs s)[k]'hkz=c:=zSV hkc
    have hk0:(0:Int)≤(k:Int):=by omega
    have hk1:(k:Int) < (s.length:Int):=by omega
    have hsz:s.length≤1000000000:=HS.out
    have HKC:=Lib.hid hkc
    clear hkc
    by_cases hc:c=10
    ·subst hc
     go_wp2_with fail
     go_ret
     exact HY.out _ _ (fun h=>by cases h) HB1.out
    ·have hcb:(c==10)=false:=by simp [hc]
     have hc1:c.toNat≠10:=fun h=>hc (UInt8.toNat_inj.1 (by simpa using h))
     have hc2:decide ((c.toNat:Int)=10)=false:=decide_eq_false (by omega)
     have hc3:((c.toNat:Int)==10)=false:=beq_eq_false_iff_ne.2 (by omega)
     have HN:Hid (∀(j:Nat) c',j < k+1→s[j]?=some c'→c'≠10):=fun j c' hj hc'=>by
      by_cases e:j=k
      ·subst e;rw [HKC.out] at hc';cases hc';exact hc
      ·exact HA.out j c' (by omega) hc'
     go_wp2_with fail
     go_round
     case rel=>exact ⟨k+1,by go_num,by omega,HN.out⟩
     case measure=>simp [intOf];omega
   ·obtain rfl:k=s.length:=by omega
    have hlt:decide ((s.length:Int) < (s.length:Int))=false:=by simp
    have HNL:Hid (∀c∈s,c≠10):=fun c hc=>by
     obtain ⟨j,hj,rfl⟩:=List.getElem_of_mem hc
     exact HA.out j _ hj (List.getElem?_eq_getElem hj)
    clear HA
    rcases zTb H [98,101,97,116] with q0 | q0
    ·have q2:(H==[100,114,97,105,110])=false:=by rw [beq_iff_eq.1 q0];rfl
     go_wp2_with fail
     all_goals
      go_ret
      exact HY.out _ _ (fun _=>zJm HHD.out HNL.out (beq_eq_false_iff_ne.1 q2)) HB1.out
    rcases zTb H [102,97,105,108] with q1 | q1
    ·have q2:(H==[100,114,97,105,110])=false:=by rw [beq_iff_eq.1 q1];rfl
     go_wp2_with fail
     all_goals
      go_ret
      exact HY.out _ _ (fun _=>zJm HHD.out HNL.out (beq_eq_false_iff_ne.1 q2)) HB1.out
    rcases zTb H [100,114,97,105,110] with q2 | q2
    ·go_wp2_with fail
     all_goals
      go_ret
      exact HY.out _ _ (fun h=>by cases h) HB1.out
    go_wp2_with fail
    all_goals
     go_ret
     exact HY.out _ _ (fun _=>zJm HHD.out HNL.out (beq_eq_false_iff_ne.1 q2)) HB1.out
 ·have hk1:(kd==3)=false:=beq_eq_false_iff_ne.2 hk3
  have hk2:decide (kd=3)=false:=decide_eq_false hk3
  obtain rfl:H=[]:=by rw [HH.out,if_neg hk3]
  by_cases hk4:kd=4
  ·subst hk4
   go_wp2_with fail
   all_goals
    refine (HSD.out _).mono ?_
    rintro e w3 ⟨q,rfl,hq,hb3⟩
    have HQ:=Lib.hid hq
    have HB3:=Lib.hid (HB1.out.trans (hb3.mono HB1.out.size))
    clear hq hb3
    cases q with
    | true =>
      go_wp2_with fail
      go_ret
      exact HY.out _ _ (fun h=>by cases h) HB3.out
    | false =>
      go_wp2_with fail
      go_ret
      exact HY.out _ _ (fun _=>zRD rfl (HQ.out (by first | trivial | rfl))) HB3.out
  ·have hk5:(kd==4)=false:=beq_eq_false_iff_ne.2 hk4
   have hk6:decide (kd=4)=false:=decide_eq_false hk4
   by_cases hk7:kd=6
   ·subst hk7
    go_wp2_with fail
    all_goals
     go_ret
     exact HY.out _ _ (fun h=>by cases h) HB1.out
   ·have hk8:(kd==6)=false:=beq_eq_false_iff_ne.2 hk7
    have hk9:decide (kd=6)=false:=decide_eq_false hk7
    go_wp2_with fail
    all_goals
     go_ret
     exact HY.out _ _ (fun _=>zRE hk3 hk4 hk7) HB1.out
theorem FedAt.step4 {G V k:Nat} {w0 w:World} {ops:List OpD} (h:FedAt G w0 V zNo ops k w) {o:OpD} (ho:ops[k]?=some o) (hs:ops.length+(ops.map fun o=>o.s.length).sum≤1048576) (hp:playL o) (hw:wfOp o) :
 Calls Tryz.prog 44 #[vp V,.agg (zAi o)] w fun e w'=>e=.returned (.bool true)∧FedAt G w0 V zNo ops (k+1) w':=
 h.stepP ho hs fun ps n h1 h2 h3 h4 h5 h6=>by
  by_cases k1:o.kind=1
  ·exact zTX rfl h1 h2 h3 o k1
  by_cases k2:o.kind=2
  ·exact zRC h1 h2 o k2 h6
  by_cases k3:o.kind=3∨o.kind=4
  ·exact zRB rfl zVb h1 h2 h5 h4 h3 o k3 (fun rest hr=>zWf hp k3 hr) hw.2.1 h6
  by_cases k5:o.kind=5
  ·exact zRQ rfl h1 h2 h5 h4 h3 o k5 hw.2.1
  exact zRM h1 h2 h5 h4 h3 o (by have:=hp.late;omega) hw.2.1
theorem zWw {G:Nat} {w:World} (hE:Env G w) (hG:G≤w.heap.size) {a:Option Addr} {cap:Nat} (ops:List OpD) (h:OpsIn w a ops) (hs:ops.length+(ops.map fun o=>o.s.length).sum≤1048576) (hw:∀o∈ops,wfOp o) :
 Calls Tryz.prog 26 #[.slice a ops.length cap,vi 4] w fun e w'=>e=.returned (vi (-1))∧Below w.heap.size w w':=by
 have HO:=Lib.hid h
 have HS:=Lib.hid hs
 have HW:=Lib.hid hw
 have H0:=Lib.hid (LawAt.start hE hG)
 obtain ⟨n,hnn⟩:∃n,ops.length=n:=⟨_,rfl⟩
 have hn:n≤1048576:=by omega
 rw [hnn]
 have HN:=Lib.hid hnn
 clear h hs hw hnn hE
 go_enter Tryz.func26,Tryz.ntmps26
 go_wp2_with fail
 go_loopw [6,7,8,13] (fun _ _ _ s13 wr=>∃k:Nat,s13=.int .i64 k∧k≤n∧Hid (FedAt G w w.heap.size zNo ops k wr)) (fun _ _ _ s13 _=>n - (intOf s13).toNat)
 case atStart=>exact ⟨0,by go_num,Nat.zero_le _,⟨[],0,H0.out,(fun p hp=>by cases hp),Nat.le_refl _,Nat.le_refl _⟩⟩
 case round =>
  obtain ⟨k,rfl,hk,HB⟩:=hrel
  by_cases hkl:k < n
  ·have hlt:decide ((k:Int) < (n:Int))=true:=decide_eq_true (by omega)
   obtain ⟨o,hko⟩:∃o,ops[k]?=some o:=⟨_,List.getElem?_eq_getElem (by rw [HN.out];exact hkl)⟩
   obtain ⟨b,off,hae,c0,c1,c2,c3,c4,c5,c6,c7,c8⟩:=(HO.out.below HB.out.below).cells hko
   subst hae
   have hol:o.s.length≤(ops.map fun o=>o.s.length).sum:=zFa (List.mem_map_of_mem (List.mem_of_getElem? hko))
   have hk0:(0:Int)≤(k:Int):=by omega
   have hk1:(k:Int) < (n:Int):=by omega
   have HPL:=Lib.hid (zVT (opBlk wr o) o (by have:=HS.out;omega))
   have HV:Hid (Below wr.heap.size wr (opBlk wr o)∧(opBlk wr o).heap[wr.heap.size]?=some (.cells (zAi o) 98)):=⟨(Below.refl _ wr).alloc (Nat.le_refl _) _,zAD wr⟩
   have HST:=Lib.hid (fun (W:World) (h:FedAt G w w.heap.size zNo ops k W) (hp:playL o)=>h.step4 hko HS.out hp (HW.out o (List.mem_of_getElem? hko)))
   have HKO:=Lib.hid hko
   unfold zJn at HPL
   obtain ⟨PB,hPB⟩:∃PB,playL o=PB:=⟨_,rfl⟩
   rw [hPB] at HST HPL
   obtain ⟨kd,a',b',⟨d1,d2,d3,d4,d5⟩,s⟩:=o
   simp only [zAi,opBlk] at *
   clear hko hol hPB
   go_wp2_with fail
   refine HPL.out.mono ?_
   rintro e w1 ⟨q,rfl,hq,hb1⟩
   have HB1:=Lib.hid (zMn HV.out hb1)
   have HBA:=Lib.hid (HB.out.grow HB1.out.1)
   have hb:=HB1.out.2
   have HQ:=Lib.hid hq
   clear hb1 hq c0 c1 c2 c3 c4 c5 c6 c7 c8
   cases q with
   | false =>
     clear hb
     go_wp2_with fail
     go_roundw
     case rel=>exact ⟨k+1,by go_num,by omega,HBA.out.next HKO.out⟩
     case measure=>simp [intOf];omega
   | true =>
     have hpb:PB:=HQ.out (by first | trivial | rfl)
     have HSTP:=Lib.hid (HST.out w1 HBA.out hpb)
     have c0:=zAA (off:=0) hb rfl
     have c1:=zAA (off:=1) hb rfl
     have c2:=zAA (off:=2) hb rfl
     have c3:=zAA (off:=3) hb rfl
     have c4:=zAA (off:=4) hb rfl
     have c5:=zAA (off:=5) hb rfl
     have c6:=zAA (off:=6) hb rfl
     have c7:=zAA (off:=7) hb rfl
     have c8:=zAA (off:=8) hb rfl
     clear hb hpb
     have hkk:(kd=7∧(kd==7)=true)∨(kd≠7∧(kd==7)=false):=by
      by_cases e:kd=7
      ·exact .inl ⟨e,by rw [e];rfl⟩
      ·exact .inr ⟨e,beq_eq_false_iff_ne.2 e⟩
     rcases hkk with ⟨rfl,hk7b⟩ | ⟨hk7,hk7b⟩
     ·go_wp2_with fail
      all_goals
       refine HSTP.out.mono ?_
       rintro e w2 ⟨rfl,hb2⟩
       have HB2:=Lib.hid hb2
       clear hb2 c0 c1 c2 c3 c4 c5 c6 c7 c8
       go_wp2_with fail
       go_roundw
       case rel=>exact ⟨k+1,by go_num,by omega,HB2.out⟩
       case measure=>simp [intOf];omega
     ·have hk7':decide (kd=7)=false:=decide_eq_false hk7
      go_wp2_with fail
      all_goals
       refine HSTP.out.mono ?_
       rintro e w2 ⟨rfl,hb2⟩
       have HB2:=Lib.hid hb2
       clear hb2 c0 c1 c2 c3 c4 c5 c6 c7 c8
       go_wp2_with fail
       go_roundw
       case rel=>exact ⟨k+1,by go_num,by omega,HB2.out⟩
       case measure=>simp [intOf];omega
  ·obtain rfl:k=n:=by omega
   have hlt:decide ((k:Int) < (k:Int))=false:=by simp
   go_wp2_with fail
   go_ret
   exact ⟨rfl,HB.out.below⟩
namespace leases
theorem zNc {G:Nat} {w:World} (hE:Env G w) (hG:G≤w.heap.size) {a:Option Addr} {cap:Nat} (ops:List OpD) (h:OpsIn w a ops) (hn:ops.length≤140737488351232) (hs:∀o∈ops,o.s.length≤140737488351232) (hw:∀o∈ops,wfOp o) :
 Calls Tryz.prog 6 #[.slice a ops.length cap] w fun e w'=>e=.returned (.bool true)∧Below w.heap.size w w':=by
 have HSM:=Lib.hid (zOT (cap:=cap) ops h hn hs)
 have HUP:=Lib.hid (fun (W:World) (hb:Below w.heap.size w W) (hsm:zDT ops=true)=>zWw (cap:=cap) (hE.grow hb) (Nat.le_trans hG hb.size) ops (h.below hb) (zSi hsm) hw)
 obtain ⟨b,hb⟩:∃b,zDT ops=b:=⟨_,rfl⟩
 rw [hb] at HSM HUP
 clear h hn hs hw hE hG
 cases b with
 | false =>
   go_enter Tryz.func6,Tryz.ntmps6
   go_wp2_with fail
   refine HSM.out.mono ?_
   rintro e w1 ⟨rfl,hb1⟩
   have HB:=Lib.hid hb1
   clear hb1
   go_wp2_with fail
   go_ret
   exact ⟨rfl,HB.out⟩
 | true =>
   go_enter Tryz.func6,Tryz.ntmps6
   go_wp2_with fail
   refine HSM.out.mono ?_
   rintro e w1 ⟨rfl,hb1⟩
   have HB:=Lib.hid hb1
   clear hb1
   go_wp2_with fail
   refine (HUP.out _ HB.out (by first | trivial | rfl)).mono ?_
   rintro e w2 ⟨rfl,hb2⟩
   have HB2:=Lib.hid (HB.out.trans (hb2.mono HB.out.size))
   clear hb2
   go_wp2_with fail
   go_ret
   exact ⟨rfl,HB2.out⟩
end leases
open Go Go.Shelf Go.ChangeShapes Go.WideShapes Go.ChangeAt Go.RowKit Go.Lib
namespace leases
theorem zTc {H:Type} (o:OpD):o.s.length∈DataW.weights Tryz.prog 98 (zJJ o:DataW H):=by
 unfold zJJ
 rw [DataW.weights,Tryz.underlying98]
 simp [DataW.weightsEach,DataW.weights]
theorem zOv {H:Type} {ops:List OpD} {o:OpD} (h:o∈ops):o.s.length∈DataW.weightsAll Tryz.prog 98 (ops.map fun o=>(zJJ o:DataW H)):=by
 induction ops with
 | nil=>cases h
 | cons a l ih =>
   simp only [List.map_cons,DataW.weightsAll,List.mem_append]
   rcases List.mem_cons.1 h with rfl | h'
   ·exact .inl (zTc _)
   ·exact .inr (ih h')
theorem zOw (os:Os) {H:Type} (enc:TypeId×Value→H) :
 (OpenSpec.ofChange Rows.leasesSpec).preRow enc Tryz.prog Tryz.f6 Rows.leasesRow.domain false Rows.leasesRow.laid ((zHB os).forCall (fun _ _=>0) ⟨#[],#[.slice none 0 0],[]⟩).memory #[.slice none 0 0]:=by
 have hw:(DataW.whole enc Tryz.prog ((zHB os).forCall (fun _ _=>0) ⟨#[],#[.slice none 0 0],[]⟩).memory Tryz.f6.params.toList (OpenSpec.ofChange Rows.leasesSpec).vars false (#[.slice none 0 0]:Array Value).toList 8).map (fun x=>(x.1,x.2.1)) =
  some ([.nil],[]):=by kernel_rfl
 obtain ⟨⟨x1,x2,x3⟩,hx,hx1⟩:=Option.map_eq_some_iff.1 hw
 simp only [Prod.mk.injEq] at hx1
 obtain ⟨rfl,rfl⟩:=hx1
 exact OpenSpec.preRow_of_cond 8 hx (by kernel_rfl) (fun k hk=>by cases hk) (by kernel_rfl) (zVQ os _)
theorem zWx (os:Os) (started:os.Started) (H:Type) (enc:TypeId×Value→H) (F:Stop.Interp) :
 ReturnsInHanded {} Tryz.checked os 6 .any ((OpenSpec.ofChange Rows.leasesSpec).preRow enc Tryz.prog Tryz.f6 Rows.leasesRow.domain false Rows.leasesRow.laid) (((OpenSpec.ofChange Rows.leasesSpec).at F).post enc Tryz.prog Tryz.f6 false true false false):=by
 refine returnsInHanded_of_row (C:=Tryz.checked) (s:=OpenSpec.ofChange Rows.leasesSpec) own started (by kernel_rfl) Tryz.func6
  (witness_row_atRef (enc:=enc) (C:=Tryz.checked) false (zHB os) #[.slice none 0 0] rfl (by kernel_rfl) (by kernel_rfl) (by kernel_rfl) (zOw os enc)) ?_
 intro W base args ds gs before hval0 hW _ _ hsz0 hL hsh _
 have hsz:(DataW.weightsEach Tryz.prog (Tryz.f6.params.toList++(OpenSpec.ofChange Rows.leasesSpec).bare.plain.varTypes Tryz.prog) (ds++gs)).all (·≤reachBytes)=true:=hsz0
 clear hsz0
 have hval:∀(j:Nat) t v,Tryz.f6.params[j]?=some t→args[j]?=some v→Value.okWide Tryz.prog W .any base t v:=hval0
 have hW':=hW
 obtain ⟨p,q,hA0,hV0,rfl,_,_⟩:=hW
 have hA:DataW.TrodAll enc Tryz.prog W 0 (fun _=>true) true Tryz.f6.params.toList args.toList ds p:=hA0
 rw [Tryz.params6] at hA hval hsz
 obtain ⟨v0,d0,rfl,rfl,h0⟩:=trodAll_one hA
 obtain ⟨rfl,rfl⟩:=trodVars_none hV0
 obtain ⟨a0,n0,c0,rfl⟩:=okWide_slice Tryz.underlying55 (hval 0 55 v0 rfl rfl)
 have h0k:=h0
 obtain ⟨fuel0,hf0⟩:=h0
 clear hA0 hV0 hval0
 simp only [List.append_nil] at hW' hsz
 have hlt:∀x∈p,x.block < W.heap.size:=fun x hx=>by simpa using hW'.lt x (by simp [hx])
 obtain ⟨ops,hops,hn,hwf,hts⟩:=zUk hf0
 replace hts:ops=[]∨∃spare,d0=.slice (ops.map zJJ) spare:=hts
 have hall:ops.length≤140737488351232∧∀o∈ops,o.s.length≤140737488351232:=by
  rcases hts with h0 | ⟨spare,hd0⟩
  ·subst h0;exact ⟨Nat.zero_le _,fun _ h=>by cases h⟩
  ·constructor
   ·have:=sized_slice hsz (j:=0) (t:=55) (e:=98) rfl (by rw [hd0];rfl) Tryz.underlying55
    rw [show Tryz.prog.bytesOf 98=80 by kernel_rfl] at this
    simp only [List.length_map,reachBytes] at this
    omega
   ·intro o ho
    have:=List.all_eq_true.1 hsz o.s.length (DataW.weights_mem_each (j:=0) (t:=55) (d:=d0) rfl rfl o.s.length (by
     rw [hd0,DataW.weights,Tryz.underlying55]
     refine List.mem_cons.2 (.inr (List.mem_append.2 (.inl ?_)))
     exact zOv ho))
    exact of_decide_eq_true this
 subst hn
 have hw:=zNc (zOu hL hsh) (Nat.le_refl _) (cap:=c0) ops hops hall.1 hall.2 hwf
 refine hw.mono ?_
 rintro e W' ⟨rfl,bel⟩
 have e1:((OpenSpec.ofChange Rows.leasesSpec).at F).fn H ([d0]++[])={results:=[.lit (.bool true)],args:=[d0]}:=rfl
 refine ⟨_,rfl,_,_,_,[],p,[],hW',?_,?_,?_,bel.frame _,fun h=>by cases h⟩
 ·rw [e1];exact trodAll_mk1 (shut_bool Tryz.underlying4 _)
 ·rw [e1];exact trodAll_mk1 (Below.trod (by kernel_rfl) (by kernel_rfl) (of_decide_eq_true (by kernel_rfl)) h0k bel hlt)
 ·rw [e1];rfl
theorem zRF:Rows.LeasesSaid:=
 OpenClaim.holds_of_cond 6 Tryz.f6 rfl rfl rfl rfl rfl rfl rfl ⟨rfl,rfl,rfl,rfl,rfl⟩ rfl rfl rfl rfl rfl (by kernel_rfl) Tryz.func6 (by kernel_rfl)
  (of_decide_eq_true (by kernel_rfl)) (by unfold Func.isWrapper;rw [if_neg (of_decide_eq_false (by kernel_rfl))];exact ⟨rfl,rfl⟩)
  (fun os started H enc _ F0=>by rw [OpenClaim.pre_eq_preRow];exact zWx os started H enc F0)
theorem proved:Rows.LeasesCardSaid:=
 Claim7.holds_tied_plain_at .later [] [.data,.data,.data,.data,.pinned] true (true,"e824820f69296c1c8a0df1f7592b042f868eb2c349dd41e66be5cd9602294ad7") true
  zRF (fun _ h=>by cases h) (by kernel_rfl) (fun _ h=>by cases h) leases_row_tie rfl ⟨rfl,rfl⟩ (by kernel_rfl) rfl
  (fun f fn hf hfn=>by
   obtain rfl:f=6:=Option.some.inj ((show Tryz.prog.funcNamed "dispatch/dispatchlaw.Leases" = some 6 by kernel_rfl).symm.trans hf) |>.symm
   obtain rfl:fn=Tryz.f6:=(Option.some.inj (Tryz.func6.symm.trans hfn)).symm
   exact ⟨by kernel_rfl,fun j t ht=>by
    rw [Tryz.params6] at ht
    have hm:t∈([55]:List TypeId):=by simpa using Array.mem_of_getElem? ht
    have hall:(([55]:List TypeId).all fun u=>!Tryz.prog.wantsStandIn u)=true:=by kernel_rfl
    exact (show Tryz.prog.wantsStandIn t=false by simpa using List.all_eq_true.1 hall t hm)⟩)
  (by kernel_rfl)
#print axioms proved
end leases
end Go.Proofs.YtaejfobbogahmaaGreatDoor
