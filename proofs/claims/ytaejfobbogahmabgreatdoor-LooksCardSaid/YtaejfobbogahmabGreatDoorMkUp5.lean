/-
  The walk of dispatchlaw.played, stage 5.
  The walk of dispatchlaw.UpTo, stage 5.
  The walk of dispatchlaw.Looks: a script.
-/
import Derived.Test.YtaejfobbogahmabGreatDoorMkOps
import Derived.Test.YtaejfobbogahmabGreatDoorMkPlayG
import Derived.Test.YtaejfobbogahmabGreatDoorMkLawS
import Derived.Test.YtaejfobbogahmabGreatDoorMkStepG
import Derived.Test.YtaejfobbogahmabGreatDoorMkStepL
set_option maxRecDepth 100000
set_option maxHeartbeats 16000000
set_option linter.unusedVariables false
set_option linter.unusedSimpArgs false
namespace Go.Proofs.YtaejfobbogahmabGreatDoor
open Go Go.RowKit
def PlayPost5 (o:OpD) (w:World) (e:Ending) (w':World):Prop:=∃b,e=.returned (.bool b)∧(b=true→playQ o)∧Below w.heap.size w w'
theorem played_5 (w:World) (o:OpD) (hs:o.s.length≤1000000000):Calls Tryz.prog 9 #[.agg (opCells o),vi 5] w (PlayPost5 o w):=by
 have HY:Hid (∀b:Bool,∀W:World,(b=true→playQ o)→Below w.heap.size w W→PlayPost5 o w (.returned (.bool b)) W):=fun b W h1 h2=>⟨b,rfl,h1,h2⟩
 have h0:(opBlk w o).heap[w.heap.size]?=some (.cells (opCells o) 28):=blk_alloc_new w
 have HBK:=Lib.hid h0
 have HB:Hid (Below w.heap.size w (opBlk w o)):=(Below.refl _ w).alloc (Nat.le_refl _) _
 have HHC:=Lib.hid (head_calls (opBlk w o) o (by omega))
 have HSD:=Lib.hid (fun W=>sealed_calls o.s hs W)
 have HS:=Lib.hid hs
 have hz:(bs o.s).size=o.s.length:=ops_size _
 have HH:Hid (headOf o=if o.kind=3 then o.s.takeWhile (· != 32) else []):=show _=_ from rfl
 obtain ⟨kd,a,b,⟨d1,d2,d3,d4,d5⟩,s⟩:=o
 simp only [opCells,opBlk] at *
 obtain ⟨H,hH⟩:∃H,headOf ⟨kd,a,b,⟨d1,d2,d3,d4,d5⟩,s⟩=H:=⟨_,rfl⟩
 have HHD:=Lib.hid hH
 rw [hH] at HH HHC
 clear h0 hH hs
 go_enter Tryz.func9,Tryz.ntmps9
 go_wp2_with fail
 refine HHC.out.mono ?_
 rintro e w1 ⟨rfl,hb1⟩
 rw [World.size_alloc] at hb1
 have hblk:=(hb1.block _ (Nat.lt_succ_self _)).trans HBK.out
 have HB1:=Lib.hid (HB.out.trans (hb1.mono (Nat.le_succ _)))
 have HBL:=Lib.hid hblk
 clear hb1 HHC HBK HB
 have c0:w1.cell? ⟨w.heap.size,0,none⟩=some (vi kd):=cell_of_blk hblk rfl
 have c8:w1.cell? ⟨w.heap.size,8,none⟩=some (vs (bs s)):=cell_of_blk hblk rfl
 have ht:(bs H).toList=H:=by rw [ByteArray.toList_eq];rfl
 clear hblk
 by_cases hk3:kd=3
 ·subst hk3
  go_wp2_with fail
  go_loop [6] (fun s6=>∃k:Nat,s6=.int .i64 k∧k≤s.length∧Hid (∀(j:Nat) c,j < k→s[j]?=some c→c≠10)) (fun s6=>s.length - (intOf s6).toNat)
  case atStart=>exact ⟨0,by go_num,Nat.zero_le _,fun j c hj=>by omega⟩
  case round =>
   obtain ⟨k,rfl,hkn,HA⟩:=hrel
   by_cases hkl:k < s.length
   ·have hlt:decide ((k:Int) < (s.length:Int))=true:=decide_eq_true (by omega)
    obtain ⟨c,hkc⟩:∃c,s[k]?=some c:=⟨_,List.getElem?_eq_getElem hkl⟩
    have hkz:k < (bs s).size:=by rw [hz];exact hkl
    have hget:(bs s)[k]'hkz=c:=ops_get hkc
    have hk0:(0:Int)≤(k:Int):=by omega
    have hk1:(k:Int) < (s.length:Int):=by omega
    have hsz:s.length≤1000000000:=HS.out
    have HKC:=Lib.hid hkc
    clear hkc
    by_cases hc:c=10
    ·subst hc
     go_wp2_with fail
     go_ret
     exact HY.out _ _ (fun h=>by cases h) HB1.out
    ·have hcb:(c==10)=false:=by simp [hc]
     have hc1:c.toNat≠10:=fun h=>hc (UInt8.toNat_inj.1 (by simpa using h))
     have hc2:decide ((c.toNat:Int)=10)=false:=decide_eq_false (by omega)
     have hc3:((c.toNat:Int)==10)=false:=beq_eq_false_iff_ne.2 (by omega)
     have HN:Hid (∀(j:Nat) c',j < k+1→s[j]?=some c'→c'≠10):=fun j c' hj hc'=>by
      by_cases e:j=k
      ·subst e;rw [HKC.out] at hc';cases hc';exact hc
      ·exact HA.out j c' (by omega) hc'
     go_wp2_with fail
     go_round
     case rel=>exact ⟨k+1,by go_num,by omega,HN.out⟩
     case measure=>simp [intOf];omega
   ·obtain rfl:k=s.length:=by omega
    have hlt:decide ((s.length:Int) < (s.length:Int))=false:=by simp
    have HNL:Hid (∀c∈s,c≠10):=fun c hc=>by
     obtain ⟨j,hj,rfl⟩:=List.getElem_of_mem hc
     exact HA.out j _ hj (List.getElem?_eq_getElem hj)
    clear HA
    rcases beq_or H [98,101,97,116] with q0 | q0
    ·go_wp2_with fail
     all_goals
      go_ret
      exact HY.out _ _ (fun h=>by cases h) HB1.out
    rcases beq_or H [102,97,105,108] with q1 | q1
    ·go_wp2_with fail
     all_goals
      go_ret
      exact HY.out _ _ (fun h=>by cases h) HB1.out
    rcases beq_or H [100,114,97,105,110] with q2 | q2
    ·go_wp2_with fail
     all_goals
      go_ret
      exact HY.out _ _ (fun h=>by cases h) HB1.out
    go_wp2_with fail
    all_goals
     go_ret
     exact HY.out _ _ (fun _=>playQ_say HHD.out HNL.out (beq_eq_false_iff_ne.1 q0) (beq_eq_false_iff_ne.1 q1) (beq_eq_false_iff_ne.1 q2)) HB1.out
 ·have hk1:(kd==3)=false:=beq_eq_false_iff_ne.2 hk3
  have hk2:decide (kd=3)=false:=decide_eq_false hk3
  obtain rfl:H=[]:=by rw [HH.out,if_neg hk3]
  by_cases hk4:kd=4
  ·subst hk4
   go_wp2_with fail
   all_goals
    refine (HSD.out _).mono ?_
    rintro e w3 ⟨q,rfl,hq,hb3⟩
    have HQ:=Lib.hid hq
    have HB3:=Lib.hid (HB1.out.trans (hb3.mono HB1.out.size))
    clear hq hb3
    cases q with
    | true =>
      go_wp2_with fail
      go_ret
      exact HY.out _ _ (fun h=>by cases h) HB3.out
    | false =>
      go_wp2_with fail
      go_ret
      exact HY.out _ _ (fun _=>playQ_feed rfl (HQ.out (by first | trivial | rfl))) HB3.out
  ·have hk5:(kd==4)=false:=beq_eq_false_iff_ne.2 hk4
   have hk6:decide (kd=4)=false:=decide_eq_false hk4
   by_cases hk7:kd=6
   ·subst hk7
    go_wp2_with fail
    all_goals
     go_ret
     exact HY.out _ _ (fun h=>by cases h) HB1.out
   ·have hk8:(kd==6)=false:=beq_eq_false_iff_ne.2 hk7
    have hk9:decide (kd=6)=false:=decide_eq_false hk7
    by_cases hka:kd=5
    ·subst hka
     go_wp2_with fail
     all_goals
      go_ret
      exact HY.out _ _ (fun h=>by cases h) HB1.out
    ·have hkb:(kd==5)=false:=beq_eq_false_iff_ne.2 hka
     have hkc:decide (kd=5)=false:=decide_eq_false hka
     go_wp2_with fail
     all_goals
      go_ret
      exact HY.out _ _ (fun _=>playQ_else hk3 hk4 hka hk7) HB1.out
end Go.Proofs.YtaejfobbogahmabGreatDoor
namespace Go.Proofs.YtaejfobbogahmabGreatDoor
open Go Go.RowKit
theorem FedAt.step5 {G V k:Nat} {w0 w:World} {ops:List OpD} (h:FedAt G w0 V zNo ops k w) {o:OpD} (ho:ops[k]?=some o) (hs:ops.length+(ops.map fun o=>o.s.length).sum≤1048576) (hp:playQ o) (hw:wfOp o) :
 Calls Tryz.prog 10 #[vp V,.agg (opCells o)] w fun e w'=>e=.returned (.bool true)∧FedAt G w0 V zNo ops (k+1) w':=
 h.stepP ho hs fun ps n h1 h2 h3 h4 h5 h6=>by
  by_cases k1:o.kind=1
  ·exact stepG_new rfl h1 h2 h3 o k1
  by_cases k2:o.kind=2
  ·exact stepG_seal h1 h2 o k2 h6
  by_cases k3:o.kind=3∨o.kind=4
  ·exact stepG_feed rfl msgLaw_Q h1 h2 h5 h4 h3 o k3 (fun rest hr=>fedOk_Q hp k3 hr) hw.2.1 h6
  exact stepG_rest h1 h2 h5 h4 h3 o (by have:=hp.late;omega) hw.2.1
theorem UpTo_5 {G:Nat} {w:World} (hE:Env G w) (hG:G≤w.heap.size) {a:Option Addr} {cap:Nat} (ops:List OpD) (h:OpsIn w a ops) (hs:ops.length+(ops.map fun o=>o.s.length).sum≤1048576) (hw:∀o∈ops,wfOp o) :
 Calls Tryz.prog 8 #[.slice a ops.length cap,vi 5] w fun e w'=>e=.returned (vi (-1))∧Below w.heap.size w w':=by
 have HO:=Lib.hid h
 have HS:=Lib.hid hs
 have HW:=Lib.hid hw
 have H0:=Lib.hid (LawAt.start hE hG)
 obtain ⟨n,hnn⟩:∃n,ops.length=n:=⟨_,rfl⟩
 have hn:n≤1048576:=by omega
 rw [hnn]
 have HN:=Lib.hid hnn
 clear h hs hw hnn hE
 go_enter Tryz.func8,Tryz.ntmps8
 go_wp2_with fail
 go_loopw [6,7,8,13] (fun _ _ _ s13 wr=>∃k:Nat,s13=.int .i64 k∧k≤n∧Hid (FedAt G w w.heap.size zNo ops k wr)) (fun _ _ _ s13 _=>n - (intOf s13).toNat)
 case atStart=>exact ⟨0,by go_num,Nat.zero_le _,⟨[],0,H0.out,(fun p hp=>by cases hp),Nat.le_refl _,Nat.le_refl _⟩⟩
 case round =>
  obtain ⟨k,rfl,hk,HB⟩:=hrel
  by_cases hkl:k < n
  ·have hlt:decide ((k:Int) < (n:Int))=true:=decide_eq_true (by omega)
   obtain ⟨o,hko⟩:∃o,ops[k]?=some o:=⟨_,List.getElem?_eq_getElem (by rw [HN.out];exact hkl)⟩
   obtain ⟨b,off,hae,c0,c1,c2,c3,c4,c5,c6,c7,c8⟩:=(HO.out.below HB.out.below).cells hko
   subst hae
   have hol:o.s.length≤(ops.map fun o=>o.s.length).sum:=mem_le_sum (List.mem_map_of_mem (List.mem_of_getElem? hko))
   have hk0:(0:Int)≤(k:Int):=by omega
   have hk1:(k:Int) < (n:Int):=by omega
   have HPL:=Lib.hid (played_5 (opBlk wr o) o (by have:=HS.out;omega))
   have HV:Hid (Below wr.heap.size wr (opBlk wr o)∧(opBlk wr o).heap[wr.heap.size]?=some (.cells (opCells o) 28)):=⟨(Below.refl _ wr).alloc (Nat.le_refl _) _,blk_alloc_new wr⟩
   have HST:=Lib.hid (fun (W:World) (h:FedAt G w w.heap.size zNo ops k W) (hp:playQ o)=>h.step5 hko HS.out hp (HW.out o (List.mem_of_getElem? hko)))
   have HKO:=Lib.hid hko
   unfold PlayPost5 at HPL
   obtain ⟨PB,hPB⟩:∃PB,playQ o=PB:=⟨_,rfl⟩
   rw [hPB] at HST HPL
   obtain ⟨kd,a',b',⟨d1,d2,d3,d4,d5⟩,s⟩:=o
   simp only [opCells,opBlk] at *
   clear hko hol hPB
   go_wp2_with fail
   refine HPL.out.mono ?_
   rintro e w1 ⟨q,rfl,hq,hb1⟩
   have HB1:=Lib.hid (opKeep HV.out hb1)
   have HBA:=Lib.hid (HB.out.grow HB1.out.1)
   have hb:=HB1.out.2
   have HQ:=Lib.hid hq
   clear hb1 hq c0 c1 c2 c3 c4 c5 c6 c7 c8
   cases q with
   | false =>
     clear hb
     go_wp2_with fail
     go_roundw
     case rel=>exact ⟨k+1,by go_num,by omega,HBA.out.next HKO.out⟩
     case measure=>simp [intOf];omega
   | true =>
     have hpb:PB:=HQ.out (by first | trivial | rfl)
     have HSTP:=Lib.hid (HST.out w1 HBA.out hpb)
     have c0:=cell_of_blk (off:=0) hb rfl
     have c1:=cell_of_blk (off:=1) hb rfl
     have c2:=cell_of_blk (off:=2) hb rfl
     have c3:=cell_of_blk (off:=3) hb rfl
     have c4:=cell_of_blk (off:=4) hb rfl
     have c5:=cell_of_blk (off:=5) hb rfl
     have c6:=cell_of_blk (off:=6) hb rfl
     have c7:=cell_of_blk (off:=7) hb rfl
     have c8:=cell_of_blk (off:=8) hb rfl
     clear hb hpb
     have hkk:(kd=7∧(kd==7)=true)∨(kd≠7∧(kd==7)=false):=by
      by_cases e:kd=7
      ·exact .inl ⟨e,by rw [e];rfl⟩
      ·exact .inr ⟨e,beq_eq_false_iff_ne.2 e⟩
     rcases hkk with ⟨rfl,hk7b⟩ | ⟨hk7,hk7b⟩
     ·go_wp2_with fail
      all_goals
       refine HSTP.out.mono ?_
       rintro e w2 ⟨rfl,hb2⟩
       have HB2:=Lib.hid hb2
       clear hb2 c0 c1 c2 c3 c4 c5 c6 c7 c8
       go_wp2_with fail
       go_roundw
       case rel=>exact ⟨k+1,by go_num,by omega,HB2.out⟩
       case measure=>simp [intOf];omega
     ·have hk7':decide (kd=7)=false:=decide_eq_false hk7
      go_wp2_with fail
      all_goals
       refine HSTP.out.mono ?_
       rintro e w2 ⟨rfl,hb2⟩
       have HB2:=Lib.hid hb2
       clear hb2 c0 c1 c2 c3 c4 c5 c6 c7 c8
       go_wp2_with fail
       go_roundw
       case rel=>exact ⟨k+1,by go_num,by omega,HB2.out⟩
       case measure=>simp [intOf];omega
  ·obtain rfl:k=n:=by omega
   have hlt:decide ((k:Int) < (k:Int))=false:=by simp
   go_wp2_with fail
   go_ret
   exact ⟨rfl,HB.out.below⟩
end Go.Proofs.YtaejfobbogahmabGreatDoor
namespace Go.Proofs.YtaejfobbogahmabGreatDoor
open Go Go.RowKit
namespace looks
theorem Looks_calls {G:Nat} {w:World} (hE:Env G w) (hG:G≤w.heap.size) {a:Option Addr} {cap:Nat} (ops:List OpD) (h:OpsIn w a ops) (hn:ops.length≤140737488351232) (hs:∀o∈ops,o.s.length≤140737488351232) (hw:∀o∈ops,wfOp o) :
 Calls Tryz.prog 6 #[.slice a ops.length cap] w fun e w'=>e=.returned (.bool true)∧Below w.heap.size w w':=by
 have HSM:=Lib.hid (small_calls (cap:=cap) ops h hn hs)
 have HUP:=Lib.hid (fun (W:World) (hb:Below w.heap.size w W) (hsm:smallOps ops=true)=>UpTo_5 (cap:=cap) (hE.grow hb) (Nat.le_trans hG hb.size) ops (h.below hb) (small_sum hsm) hw)
 obtain ⟨b,hb⟩:∃b,smallOps ops=b:=⟨_,rfl⟩
 rw [hb] at HSM HUP
 clear h hn hs hw hE hG
 cases b with
 | false =>
   go_enter Tryz.func6,Tryz.ntmps6
   go_wp2_with fail
   refine HSM.out.mono ?_
   rintro e w1 ⟨rfl,hb1⟩
   have HB:=Lib.hid hb1
   clear hb1
   go_wp2_with fail
   go_ret
   exact ⟨rfl,HB.out⟩
 | true =>
   go_enter Tryz.func6,Tryz.ntmps6
   go_wp2_with fail
   refine HSM.out.mono ?_
   rintro e w1 ⟨rfl,hb1⟩
   have HB:=Lib.hid hb1
   clear hb1
   go_wp2_with fail
   refine (HUP.out _ HB.out (by first | trivial | rfl)).mono ?_
   rintro e w2 ⟨rfl,hb2⟩
   have HB2:=Lib.hid (HB.out.trans (hb2.mono HB.out.size))
   clear hb2
   go_wp2_with fail
   go_ret
   exact ⟨rfl,HB2.out⟩
end looks
end Go.Proofs.YtaejfobbogahmabGreatDoor
