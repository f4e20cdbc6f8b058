/-
  The walk of Dispatcher's Look: a sum over a map, in whatever order.
  What a Look says: the document's numbers are the raw ones. No program in sight.
  The walk of the document's Look.
  The walk of dispatchlaw.World's step: Look; a step of no kind.
-/
import Derived.Test.YtaejfobbogahmabGreatDoorMkPure
import Derived.Test.YtaejfobbogahmabGreatDoorMkQueue
import Derived.Test.YtaejfobbogahmabGreatDoorMkTable
import Derived.Deep.RegionHeld3
import Derived.Laws.IdiomRangeMap
import Derived.Maps.RangeRun
import Derived.Deep.RegionLaw
import Derived.Test.YtaejfobbogahmabGreatDoorMkRefP
import Derived.Test.YtaejfobbogahmabGreatDoorMkMIn
import Derived.Test.YtaejfobbogahmabGreatDoorMkStepG
set_option maxRecDepth 100000
set_option maxHeartbeats 16000000
set_option linter.unusedVariables false
set_option linter.unusedSimpArgs false
namespace Go.Proofs.YtaejfobbogahmabGreatDoor
open Go Go.RowKit
def lenOf:Value→Nat
 | .slice _ n _=>n
 | _=>0
def seenLen:List MapEntry→Array Nat→Nat
 | [],_=>0
 | x::l,seen=>(if seen.contains x.born then lenOf x.val else 0)+seenLen l seen
theorem seenLen_other (seen:Array Nat) (b:Nat):∀(es:List MapEntry),b∉es.map (·.born)→seenLen es (seen.push b)=seenLen es seen
 | [],_=>rfl
 | x::l,h=>by
   have h1:x.born≠b:=fun e=>h (by simp [e])
   have h2:b∉l.map (·.born):=fun e=>h (List.mem_cons_of_mem _ e)
   simp only [seenLen,contains_push,beq_eq_false_iff_ne.2 h1,Bool.or_false,seenLen_other seen b l h2]
theorem seenLen_push (seen:Array Nat) (e:MapEntry) (hs:seen.contains e.born=false):∀(es:List MapEntry),(es.map (·.born)).Nodup→e∈es→seenLen es (seen.push e.born)=seenLen es seen+lenOf e.val
 | x::l,hn,he=>by
   have hn':=List.nodup_cons.1 hn
   rcases List.mem_cons.1 he with rfl | h
   ·simp only [seenLen,contains_push,hs,beq_self_eq_true,Bool.or_true,if_true,Bool.false_eq_true,if_false,seenLen_other seen e.born l hn'.1]
    omega
   ·have hx:(x.born==e.born)=false:=beq_eq_false_iff_ne.2 (fun e2=>hn'.1 (by show x.born∈_;rw [e2];exact List.mem_map.2 ⟨e,h,rfl⟩))
    simp only [seenLen,contains_push,hx,Bool.or_false,seenLen_push seen e hs l hn'.2 h]
    omega
theorem seenLen_none:∀(es:List MapEntry),seenLen es #[]=0
 | []=>rfl
 | x::l=>by simp [seenLen,seenLen_none l]
theorem seenLen_full (seen:Array Nat):∀(es:List MapEntry),(∀x∈es,seen.contains x.born=true)→seenLen es seen=(es.map fun e=>lenOf e.val).sum
 | [],_=>rfl
 | x::l,h=>by
   simp only [seenLen,h x (List.mem_cons.2 (Or.inl rfl)),if_true,List.map_cons,List.sum_cons,seenLen_full seen l (fun y hy=>h y (List.mem_cons.2 (Or.inr hy)))]
theorem seenLen_le (seen:Array Nat):∀(es:List MapEntry),seenLen es seen≤(es.map fun e=>lenOf e.val).sum
 | []=>Nat.le_refl _
 | x::l=>by
   have:=seenLen_le seen l
   simp only [seenLen,List.map_cons,List.sum_cons]
   split<;>omega
theorem qu_sum {w:World} {ρ:Nat→Role} {G D:Nat} {L:Lay} {r:Raw} (h:RRep w ρ G D L r) {es:Array MapEntry} (he:EntsAre encS es.toList (amap (fun t _=>L.qu t) r.queues)) :
 (es.toList.map fun e=>lenOf e.val).sum=sumLens r.queues∧∀e∈es.toList,∃a n cap,e.val=.slice a n cap:=by
 have hq:=h.qus.2.2.2
 have key:∀(l:List (ByteArray×List Int)) (es:List MapEntry),(∀t l',(t,l')∈l→∃a cap,L.qu t=.slice a l'.length cap)→EntsAre encS es (amap (fun t _=>L.qu t) l) →
  (es.map fun e=>lenOf e.val).sum=sumLens l∧∀e∈es,∃a n cap,e.val=.slice a n cap:=by
  intro l
  induction l with
  | nil =>
    intro es _ he
    have:es=[]:=by simpa [EntsAre,amap] using he
    subst this
    exact ⟨rfl,by simp⟩
  | cons p l ih =>
    intro es hl he
    cases es with
    | nil=>simp [EntsAre,amap] at he
    | cons e es =>
      have he2:(e.key,e.val)=(encS p.1,L.qu p.1)∧EntsAre encS es (amap (fun t _=>L.qu t) l):=by
       simpa [EntsAre,amap] using he
      obtain ⟨a,cap,hv⟩:=hl p.1 p.2 (by simp)
      have hval:e.val=.slice a p.2.length cap:=by rw [←hv];exact congrArg Prod.snd he2.1
      obtain ⟨i1,i2⟩:=ih es (fun t l' h'=>hl t l' (by simp [h'])) he2.2
      refine ⟨?_,fun x hx=>?_⟩
      ·rw [List.map_cons,List.sum_cons,i1,hval];rfl
      ·rcases List.mem_cons.1 hx with rfl | hx
       ·exact ⟨_,_,_,hval⟩
       ·exact i2 x hx
 exact key r.queues es.toList (fun t l' h'=>by
  obtain ⟨a,cap,hv,_,_⟩:=(hq t l' h').form'
  exact ⟨a,cap,hv⟩) he
theorem sumLens_eq (l:List (ByteArray×List Int)):sumLens l=(l.flatMap (·.2)).length:=by
 unfold sumLens
 rw [List.length_flatMap]
theorem sumLens_le {r:Raw} (h:InvQ r):sumLens r.queues≤r.reqs.length:=by
 rw [sumLens_eq]
 have hg:∀t l,(t,l)∈r.queues→qOf r t=l:=fun t l hm=>qOf_some (aget_of_mem h.kqu hm)
 have hnd:∀(l:List (ByteArray×List Int)),l.Sublist r.queues→(l.flatMap (·.2)).Nodup:=by
  intro l
  induction l with
  | nil=>intro _;simp
  | cons p l ih =>
    intro hs
    have hp:p∈r.queues:=hs.subset (by simp)
    have hl:=ih ((List.sublist_cons_self _ _).trans hs)
    rw [List.flatMap_cons,List.nodup_append]
    refine ⟨by rw [←hg p.1 p.2 hp];exact h.qnd _,hl,fun a ha b hb e=>?_⟩
    subst e
    obtain ⟨q,hq,hb⟩:=List.mem_flatMap.1 hb
    have hq':q∈r.queues:=hs.subset (by simp [hq])
    rw [←hg p.1 p.2 hp] at ha
    rw [←hg q.1 q.2 hq'] at hb
    obtain ⟨q1,e1,e2,_⟩:=h.qreq _ _ ha
    obtain ⟨q2,e3,e4,_⟩:=h.qreq _ _ hb
    rw [e1] at e3;cases e3
    have hk:=(hs.map Prod.fst).nodup h.kqu
    rw [List.map_cons,List.nodup_cons] at hk
    exact hk.1 (by rw [e2.symm.trans e4];exact List.mem_map.2 ⟨q,hq,rfl⟩)
 have:=nodup_len (l:=r.queues.flatMap (·.2)) (m:=r.reqs.map Prod.fst) (hnd _ (List.Sublist.refl _))
  (fun id hid=>by
   obtain ⟨p,hp,hx⟩:=List.mem_flatMap.1 hid
   rw [←hg p.1 p.2 hp] at hx
   obtain ⟨q,hq,_⟩:=h.qreq _ _ hx
   exact aget_isSome.1 (by rw [hq];rfl))
 simpa using this
def lookCells (r:Raw):Array Value:=#[vi r.now,vi (sumLens r.queues:Nat),vi (r.atts.length:Nat),vi (r.waiting.length:Nat)]
theorem look_results {w:World} {R:Nat} {a b c d:Value} (t:Array Value) (ht:t[2]?=some (vp R)) (h:w.heap[R]?=some (.cells #[a,b,c,d] 59 (0,0))) (ha:a.oneCell'=true) (hb:b.oneCell'=true) (hc:c.oneCell'=true) (hd:d.oneCell'=true):(results Tryz.f26 t).run Tryz.prog w=.ok (.agg #[a,b,c,d]) w:=by
 have e0:=cell_of_blk h (off:=0) rfl
 have e1:=cell_of_blk h (off:=1) rfl
 have e2:=cell_of_blk h (off:=2) rfl
 have e3:=cell_of_blk h (off:=3) rfl
 simp [results,Tryz.results26,go_sem,ht,e0,e1,e2,e3]
def ItAt (wl:World) (R bm clock:Nat) (seen:Array Nat) (wr:World):Prop:=wr.heap[R]?=some (.mapIter (some bm) clock seen clock)∧Fr (fun b=>b=R) wl wr
theorem ItAt.next {wl wr w1:World} {R bm clock:Nat} {seen seen':Array Nat} (h:ItAt wl R bm clock seen wr) (h1:w1=wr∨w1=wr.drew):ItAt wl R bm clock seen' (Go.ChangeMaps.setBlock w1 R (.mapIter (some bm) clock seen' clock)):=by
 obtain ⟨h2,h3⟩:=h
 have hlt:=blk_lt _ h2
 have h4:w1.heap=wr.heap∧w1.os=wr.os∧w1.tape=wr.tape∧w1.output=wr.output:=by rcases h1 with rfl | rfl<;>exact ⟨rfl,rfl,rfl,rfl⟩
 obtain ⟨e1,e2,e3,e4⟩:=h4
 refine ⟨?_,⟨e2.trans h3.os,e3.trans h3.tape,e4.trans h3.output,?_,fun i hi hn=>?_⟩⟩
 ·show (w1.heap.setIfInBounds R _)[R]?=_
  rw [e1];simp [hlt]
 ·show wl.heap.size≤(w1.heap.setIfInBounds R _).size
  rw [e1];simp;exact h3.size
 ·show (w1.heap.setIfInBounds R _)[i]?=_
  rw [e1,Array.getElem?_setIfInBounds_ne (fun e=>hn e.symm)]
  exact h3.block i hi hn
theorem Look_calls {w:World} {ρ:Nat→Role} {G D:Nat} {L:Lay} {r:Raw} (h:RRep w ρ G D L r) (hQ:InvQ r) (hb:r.reqs.length≤1000000000000) :
 Calls Tryz.prog 26 #[vp D] w fun e w'=>e=.returned (.agg (lookCells r))∧Below w.heap.size w w':=by
 obtain ⟨es,clock,hm,he,hst⟩:=h.qus.2.1
 obtain ⟨hsum,hval⟩:=qu_sum h he
 have hle:=sumLens_le hQ
 have HV:=Lib.hid hval
 have HS:=Lib.hid hsum
 have HST:=Lib.hid hst
 have HMM:=Lib.hid hm
 have c8:=h.disp.c8
 have c5:=h.disp.c5
 obtain ⟨va,vc,hw1,hw2,hw3⟩:=SlAt.form' h.wai
 have c11:w.cell? ⟨D,11,none⟩=some (.slice va r.waiting.length vc):=by rw [←hw1];exact h.disp.c11
 have HH:=Lib.hid h
 have hDw:=h.size.2
 have hbm:=blk_lt _ hm
 obtain ⟨wl,hwl⟩:∃wl,wl=w.alloc (.cells #[vi 0,vi 0,vi 0,vi 0] 59):=⟨_,rfl⟩
 have hsz:wl.heap.size=w.heap.size+1:=by rw [hwl];simp
 have hrg:=run_range_map (P:=Tryz.prog) wl 72 9 74 L.mq es clock Tryz.underlying72 (by rw [hwl];exact (blk_alloc_lt w hbm).trans hm)
 have HWL:=Lib.hid hwl
 rw [hsz,hwl] at hrg
 have hsb:sumLens r.queues≤1000000000000:=by omega
 unfold maxLen at hw3
 clear h he hst hval hsum hle hQ hb hm
 go_enter Tryz.func26,Tryz.ntmps26
 go_wp2_with fail
 go_loopw [3,5] (fun s3 _ wr=>∃seen:Array Nat,s3=.int .i64 ((seenLen es.toList seen:Nat):Int)∧Hid (ItAt ((w.alloc (.cells #[vi 0,vi 0,vi 0,vi 0] 59)).alloc (.mapIter (some L.mq) clock #[] clock)) (w.heap.size+1) L.mq clock seen wr)) (fun _ _ wr=>(leftOf es (wr.iterSeen (w.heap.size+1))).size)
 case atStart =>
  refine ⟨#[],by rw [seenLen_none];rfl,?_,Fr.refl _ _⟩
  have:=blk_alloc_new (w.alloc (.cells #[vi 0,vi 0,vi 0,vi 0] 59)) (o:=.mapIter (some L.mq) clock #[] clock)
  simpa using this
 case round =>
  obtain ⟨seen,rfl,HI⟩:=hrel
  have hbm1:wr.heap[L.mq]?=some (.map es clock):=by
   rw [HI.out.2.block L.mq (by simp;omega) (by omega)]
   exact (blk_alloc_lt _ (by simp;omega)).trans ((blk_alloc_lt w hbm).trans HMM.out)
  have hseen:wr.iterSeen (w.heap.size+1)=seen:=by unfold World.iterSeen;rw [HI.out.1]
  rcases run_next_at (P:=Tryz.prog) wr 0 (w.heap.size+1) L.mq clock clock seen es clock HI.out.1 hbm1 HST.out.1 (Nat.le_refl _) with ⟨h0,hrun⟩ | ⟨e,he,w1,hw1',hrun⟩
  ·have hnx:∀ty,(Instr.next (.pointer (some ⟨w.heap.size+1,0,none⟩)) false ty).run Tryz.prog wr=.ok (.tuple #[.bool false]) wr:=fun _=>hrun
   have HSUM:Hid (seenLen es.toList seen=sumLens r.queues):=show _=_ by rw [←HS.out];exact seenLen_full seen _ (all_seen es seen h0)
   have hf:Fr (fun _=>False) w wr:=(((Fr.refl (fun _=>False) w).alloc _).alloc _).trans HI.out.2 (fun x hx=>.inr (by omega))
   have hR:wr.heap[w.heap.size]?=some (.cells #[vi 0,vi 0,vi 0,vi 0] 59 (0,0)):=by
    rw [HI.out.2.block w.heap.size (by simp;omega) (by omega)]
    exact (blk_alloc_lt _ (by simp)).trans (blk_alloc_new w)
   have hrep:=HH.out.of_fr hf (fun _ f=>f.elim)
   have d5:wr.cell? ⟨D,5,none⟩=some (vi r.now):=hrep.disp.c5
   have d11:wr.cell? ⟨D,11,none⟩=some (.slice va r.waiting.length vc):=by have:=hrep.disp.c11;rw [hw1] at this;exact this
   have R0:wr.cell? ⟨w.heap.size,0,none⟩=some (vi 0):=cell_of_blk hR rfl
   have R1:wr.cell? ⟨w.heap.size,1,none⟩=some (vi 0):=cell_of_blk hR rfl
   have R2:wr.cell? ⟨w.heap.size,2,none⟩=some (vi 0):=cell_of_blk hR rfl
   have R3:wr.cell? ⟨w.heap.size,3,none⟩=some (vi 0):=cell_of_blk hR rfl
   have F0:wr.frozen? ⟨w.heap.size,0,none⟩=false:=frozen_of_blk hR
   have F1:wr.frozen? ⟨w.heap.size,1,none⟩=false:=frozen_of_blk hR
   have F2:wr.frozen? ⟨w.heap.size,2,none⟩=false:=frozen_of_blk hR
   have F3:wr.frozen? ⟨w.heap.size,3,none⟩=false:=frozen_of_blk hR
   have HTL:=Lib.hid (fun n=>TLen_calls (hrep.drewN n))
   have HRB:=Lib.hid hR
   have HFF:=Lib.hid hf
   have hDr:=hrep.size.2
   rw [HSUM.out]
   clear h0 hrun hbm1 hseen hf hR hrep
   go_wp2_with fail
   go_region_law (first | (go_simp;go_at_call 72;refine (HTL.out 1).mono ?_;rintro e w3 ⟨rfl,rfl⟩))
   all_goals
    go_wp2_with fail
    refine bodyPost_ret (v:=.agg (lookCells r)) (look_results _ rfl (blk_setCell _ (blk_setCell _ (blk_setCell _ (blk_setCell _ (show (wr.drewN 1).heap[w.heap.size]?=_ from HRB.out))))) rfl rfl rfl rfl) rfl ⟨rfl,?_⟩
    exact (((((below_drewN (HFF.out.below (Nat.le_refl _) (fun _ f=>f.elim)) 1).setCell (Nat.le_refl _) _).setCell (Nat.le_refl _) _).setCell (Nat.le_refl _) _).setCell (Nat.le_refl _) _)
  ·obtain ⟨a,n,cap,hval⟩:=HV.out e (mem_left he).1
   rw [hval] at hrun
   have hnx:∀ty,(Instr.next (.pointer (some ⟨w.heap.size+1,0,none⟩)) false ty).run Tryz.prog wr=.ok (.tuple #[.bool true,e.key,.slice a n cap]) (Go.ChangeMaps.setBlock w1 (w.heap.size+1) (.mapIter (some L.mq) clock (seen.push e.born) clock)):=fun _=>hrun
   have HN:=Lib.hid (HI.out.next (seen':=seen.push e.born) hw1')
   obtain ⟨w2,hw2'⟩:∃w2,Go.ChangeMaps.setBlock w1 (w.heap.size+1) (.mapIter (some L.mq) clock (seen.push e.born) clock)=w2:=⟨_,rfl⟩
   rw [hw2'] at hnx HN
   have hbm2:w2.heap[L.mq]?=some (.map es clock):=by
    rw [HN.out.2.block L.mq (by simp;omega) (by omega)]
    exact (blk_alloc_lt _ (by simp;omega)).trans ((blk_alloc_lt w hbm).trans HMM.out)
   have hen:=run_entry_at (P:=Tryz.prog) w2 (w.heap.size+1) L.mq clock seen es clock e HN.out.1 hbm2 (mem_left he).1 HST.out.2.1
   rw [hval] at hen
   have hpush:Hid (seenLen es.toList (seen.push e.born)=seenLen es.toList seen+n):=show _=_ by rw [seenLen_push seen e (mem_left he).2 es.toList HST.out.2.1 (mem_left he).1,hval];rfl
   have hle1:seenLen es.toList (seen.push e.born)≤1000000000000:=by
    have:=seenLen_le (seen.push e.born) es.toList
    have h2:=HS.out
    omega
   have hsh:=Lib.hid (left_shrinks es seen e he)
   have hn1:seenLen es.toList seen+n≤1000000000000:=by have:=hpush.out;omega
   have Hsn:=Lib.hid hseen
   generalize seenLen es.toList seen=S0 at *
   clear hrun he hbm1 hbm2 hw2' hseen hw1'
   go_wp2_with fail
   go_roundw
   case rel=>exact ⟨seen.push e.born,by rw [hpush.out];go_num,HN.out⟩
   case measure =>
    rw [Hsn.out,show w2.iterSeen (w.heap.size+1)=seen.push e.born from by unfold World.iterSeen;rw [HN.out.1]]
    exact hsh.out
end Go.Proofs.YtaejfobbogahmabGreatDoor
namespace Go.Proofs.YtaejfobbogahmabGreatDoor
open Go
theorem sum_perm {l l':List Nat} (h:l.Perm l'):l.sum=l'.sum:=by
 induction h with
 | nil=>rfl
 | cons x _ ih=>simp [ih]
 | swap x y l=>simp only [List.sum_cons];omega
 | trans _ _ h1 h2=>exact h1.trans h2
theorem nodup_perm {α:Type} [DecidableEq α]:∀{l l':List α},l.Nodup→l'.Nodup→(∀x,x∈l↔x∈l')→l.Perm l'
 | [],l',_,_,h=>by
   have:l'=[]:=List.eq_nil_iff_forall_not_mem.2 (fun x hx=>by have:=(h x).2 hx;cases this)
   rw [this]
 | a::l,l',h1,h2,h=>by
   have ha:a∈l':=(h a).1 List.mem_cons_self
   have h3:=List.perm_cons_erase ha
   have h4:(a::l'.erase a).Nodup:=h3.nodup_iff.1 h2
   rw [List.nodup_cons] at h1 h4
   refine (List.Perm.cons a (nodup_perm h1.2 h4.2 (fun x=>?_))).trans h3.symm
   have hx:=h x
   rw [h3.mem_iff,List.mem_cons,List.mem_cons] at hx
   constructor
   ·intro hl
    rcases hx.1 (.inr hl) with e | e
    ·subst e;exact absurd hl h1.1
    ·exact e
   ·intro hl
    rcases hx.2 (.inr hl) with e | e
    ·subst e;exact absurd hl h4.1
    ·exact e
def mQueued (l:List (ByteArray×List Int)):Nat:=(l.map fun p=>p.2.length).sum
theorem queued_eq {N P:Nat} {r:Raw} (hI:Inv N P r):mQueued (refOf r).ring=sumLens r.queues:=by
 have hp:r.ring.Perm (r.queues.map Prod.fst):=nodup_perm hI.q.rnd hI.q.kqu (fun t=>by
  rw [hI.q.rqu t]
  unfold qOf
  constructor
  ·intro h
   cases hq:aget r.queues t with
   | none=>rw [hq] at h;exact absurd rfl h
   | some l=>exact List.mem_map_of_mem (f:=Prod.fst) (aget_mem hq)
  ·intro h
   obtain ⟨⟨s,l⟩,hm,rfl⟩:=List.mem_map.1 h
   rw [aget_of_mem hI.q.kqu hm]
   exact hI.q.qne s l (aget_of_mem hI.q.kqu hm))
 have h1:mQueued (refOf r).ring=(r.ring.map fun t=>(qOf r t).length).sum:=by
  show ((r.ring.map fun t=>(t,qOf r t)).map fun p=>p.2.length).sum=_
  rw [List.map_map];rfl
 rw [h1,sum_perm (hp.map fun t=>(qOf r t).length)]
 unfold sumLens
 rw [List.map_map]
 congr 1
 apply List.map_congr_left
 rintro ⟨t,l⟩ hm
 show (qOf r t).length=l.length
 rw [qOf_some (aget_of_mem hI.q.kqu hm)]
end Go.Proofs.YtaejfobbogahmabGreatDoor
namespace Go.Proofs.YtaejfobbogahmabGreatDoor
open Go Go.RowKit
def mlookCells (m:RefM):Array Value:=#[vi m.now,vi (mQueued m.ring:Nat),vi (m.atts.length:Nat),vi (m.waiting.length:Nat)]
theorem queued_next {l:List (ByteArray×List Int)} {k:Nat} {t:ByteArray} {x:List Int} (h:l[k]?=some (t,x)):mQueued (l.take (k+1))=mQueued (l.take k)+x.length:=by
 unfold mQueued
 rw [List.take_add_one,h]
 simp
theorem queued_le (l:List (ByteArray×List Int)) (k:Nat):mQueued (l.take k)≤mQueued l:=by
 unfold mQueued
 have h:=congrArg (fun l=>(l.map fun p:ByteArray×List Int=>p.2.length).sum) (List.take_append_drop k l)
 simp only [List.map_append,List.sum_append] at h
 omega
theorem mlook_results {w:World} {R:Nat} {a b c d:Value} (t:Array Value) (ht:t[2]?=some (vp R)) (h:w.heap[R]?=some (.cells #[a,b,c,d] 59 (0,0))):(results Tryz.f27 t).run Tryz.prog w=.ok (.agg #[a,b,c,d]) w:=by
 have e0:=cell_of_blk h (off:=0) rfl
 have e1:=cell_of_blk h (off:=1) rfl
 have e2:=cell_of_blk h (off:=2) rfl
 have e3:=cell_of_blk h (off:=3) rfl
 simp [results,Tryz.results27,go_sem,ht,e0,e1,e2,e3]
section
variable {w w' w1 w2 w3 wr:World} {ρ:Nat→Role} {G M:Nat} {L:MLay} {m:RefM}
theorem mlook_calls (h:MRep w ρ G M L m) (hq:mQueued m.ring≤1000000000000) (hn:m.ring.length≤1000000000000) :
 Calls Tryz.prog 27 #[vp M] w fun e w'=>e=.returned (.agg (mlookCells m))∧Below w.heap.size w w':=by
 have HB0:Hid ((w.alloc (.cells #[vi 0,vi 0,vi 0,vi 0] 59)).heap[w.heap.size]?=some (.cells #[vi 0,vi 0,vi 0,vi 0] 59 (0,0))):=blk_alloc_new w
 have HW0:Hid (Below w.heap.size w (w.alloc (.cells #[vi 0,vi 0,vi 0,vi 0] 59))):=(Below.refl _ w).alloc (Nat.le_refl _) _
 have h1:=h.alloc (.cells #[vi 0,vi 0,vi 0,vi 0] 59)
 obtain ⟨a,cap,hv,hr⟩:=h1.ringIn
 have cL:(w.alloc (.cells #[vi 0,vi 0,vi 0,vi 0] 59)).cell? ⟨M,8,none⟩=some L.ring:=h1.cell (k:=8) rfl
 rw [hv] at cL
 have HR:=Lib.hid hr
 have H1:=Lib.hid h1
 have HMS:Hid (M < w.heap.size):=h.size.2
 obtain ⟨n,hnn⟩:∃n,m.ring.length=n:=⟨_,rfl⟩
 have HN:=Lib.hid hnn
 rw [hnn] at cL hn
 have HQ:=Lib.hid hq
 clear h hv hr hnn h1 hq
 go_enter Tryz.func27,Tryz.ntmps27
 go_wp2_with fail
 go_loopw [3,5,11] (fun s3 _ s11 wr=>∃k:Nat,s11=.int .i64 k∧s3=.int .i64 (mQueued (m.ring.take k):Nat)∧k≤n∧Hid (Below (w.alloc (.cells #[vi 0,vi 0,vi 0,vi 0] 59)).heap.size (w.alloc (.cells #[vi 0,vi 0,vi 0,vi 0] 59)) wr)) (fun _ _ s11 _=>n - (intOf s11).toNat)
 case atStart=>exact ⟨0,by go_num,by simp [mQueued],Nat.zero_le _,Below.refl _ _⟩
 case round =>
  obtain ⟨k,rfl,rfl,hk,HI⟩:=hrel
  by_cases hkl:k < n
  ·have hlt:decide ((k:Int) < (n:Int))=true:=decide_eq_true (by omega)
   obtain ⟨⟨t,x⟩,hkq⟩:∃q,m.ring[k]?=some q:=⟨_,List.getElem?_eq_getElem (by rw [HN.out];exact hkl)⟩
   obtain ⟨b,off,hae,c0,c1⟩:=line_cells (HR.out.below HI.out) hkq
   subst hae
   obtain ⟨ia,ic,hiv,_,_⟩:=((H1.out.grow HI.out).ids t x (List.mem_of_getElem? hkq)).form'
   simp only [] at c0 c1
   rw [hiv] at c1
   have hk0:(0:Int)≤(k:Int):=by omega
   have hk1:(k:Int) < (n:Int):=by omega
   have HNX:=Lib.hid (queued_next hkq)
   have hle:=queued_le m.ring (k+1)
   rw [HNX.out] at hle
   obtain ⟨S0,hS0⟩:∃S,mQueued (m.ring.take k)=S:=⟨_,rfl⟩
   rw [hS0] at hle HNX ⊢
   obtain ⟨xl,hxl⟩:∃xl,x.length=xl:=⟨_,rfl⟩
   rw [hxl] at hle HNX c1
   have hb1:S0+xl≤1000000000000:=by have:=HQ.out;omega
   have hww:IntKind.i64.wrap ((S0:Int)+(xl:Int))=((S0+xl:Nat):Int):=by rw [IntWalk.i64_in _ (by omega)];omega
   clear hkq hiv hle hS0 hxl
   go_wp2_with fail
   go_roundw
   case rel=>exact ⟨k+1,by go_num,by rw [HNX.out];first | rfl | go_num,by omega,HI.out.alloc HI.out.size _⟩
   case measure=>simp [intOf];omega
  ·obtain rfl:k=n:=by omega
   have hlt:decide ((k:Int) < (k:Int))=false:=by simp
   have hrep:=H1.out.grow HI.out
   have hR:wr.heap[w.heap.size]?=some (.cells #[vi 0,vi 0,vi 0,vi 0] 59 (0,0)):=(HI.out.block _ (by rw [World.size_alloc];omega)).trans HB0.out
   obtain ⟨va,vc,hva,_,_⟩:=hrep.atts.form'
   obtain ⟨ua,uc,hua,_,_⟩:=hrep.waiting.form'
   have d5:wr.cell? ⟨M,5,none⟩=some (vi m.now):=hrep.cell (k:=5) rfl
   have d7:wr.cell? ⟨M,7,none⟩=some L.atts:=hrep.cell (k:=7) rfl
   have d9:wr.cell? ⟨M,9,none⟩=some L.waiting:=hrep.cell (k:=9) rfl
   rw [hva] at d7
   rw [hua] at d9
   have R0:wr.cell? ⟨w.heap.size,0,none⟩=some (vi 0):=cell_of_blk hR rfl
   have R1:wr.cell? ⟨w.heap.size,1,none⟩=some (vi 0):=cell_of_blk hR rfl
   have R2:wr.cell? ⟨w.heap.size,2,none⟩=some (vi 0):=cell_of_blk hR rfl
   have R3:wr.cell? ⟨w.heap.size,3,none⟩=some (vi 0):=cell_of_blk hR rfl
   have F0:wr.frozen? ⟨w.heap.size,0,none⟩=false:=frozen_of_blk hR
   have F1:wr.frozen? ⟨w.heap.size,1,none⟩=false:=frozen_of_blk hR
   have F2:wr.frozen? ⟨w.heap.size,2,none⟩=false:=frozen_of_blk hR
   have F3:wr.frozen? ⟨w.heap.size,3,none⟩=false:=frozen_of_blk hR
   have HRB:=Lib.hid hR
   have HBF:Hid (Below w.heap.size w wr):=HW0.out.trans (HI.out.mono (by rw [World.size_alloc];omega))
   obtain ⟨e1,he1⟩:∃e,mQueued (m.ring.take k)=e:=⟨_,rfl⟩
   obtain ⟨e2,he2⟩:∃e,m.atts.length=e:=⟨_,rfl⟩
   obtain ⟨e3,he3⟩:∃e,m.waiting.length=e:=⟨_,rfl⟩
   obtain ⟨e4,he4⟩:∃e,m.now=e:=⟨_,rfl⟩
   have HCE:Hid (mlookCells m=#[vi e4,vi (e1:Nat),vi (e2:Nat),vi (e3:Nat)]):=show _=_ by rw [←he1,←he2,←he3,←he4,←HN.out,List.take_length];rfl
   rw [he1]
   rw [he2] at d7
   rw [he3] at d9
   rw [he4] at d5
   have hMR:M≠w.heap.size:=Nat.ne_of_lt HMS.out
   clear hrep hR hva hua he1 he2 he3 he4
   go_wp2_with fail
   go_region_law (fail)
   all_goals
    go_wp2_with fail
    refine bodyPost_ret (v:=.agg #[vi e4,vi (e1:Nat),vi (e2:Nat),vi (e3:Nat)]) (mlook_results _ rfl (blk_setCell _ (blk_setCell _ (blk_setCell _ (blk_setCell _ (show wr.drew.heap[w.heap.size]?=_ from HRB.out)))))) rfl ⟨by rw [HCE.out],?_⟩
    exact (((((below_drewN HBF.out 1).setCell (Nat.le_refl _) _).setCell (Nat.le_refl _) _).setCell (Nat.le_refl _) _).setCell (Nat.le_refl _) _)
end
end Go.Proofs.YtaejfobbogahmabGreatDoor
namespace Go.Proofs.YtaejfobbogahmabGreatDoor
open Go Go.RowKit
section
variable {G V k:Nat} {w0 w w':World} {ps:List DP} {Z K:Bytes→Bool}
theorem look_same {N P:Nat} {r:Raw} (hI:Inv N P r):mlookCells (refOf r)=lookCells r:=by
 unfold mlookCells lookCells
 rw [queued_eq hI]
 simp [refOf]
theorem step_rest (h:LawAt G w0 V ps k w) (hk:k≤10000000) (hn:ps.length≤100000000000) (o:OpD) (hkd:o.kind=7∨o.kind < 1∨7 < o.kind) (ha:-9223372036854775808≤o.a∧o.a≤9223372036854775807) {p:DP} (hp:ps[pickI o.a ps.length]?=some p)
 {N P:Nat} (hI:Inv N P p.r) (hm:p.m=refOf p.r) (hN:N≤30000000) :
 Calls Tryz.prog 10 #[vp V,.agg (opCells o)] w fun e w'=>e=.returned (.bool true)∧∃k',k'≤k+1∧LawAt G w0 V ps k' w':=by
 have h0:(opBlk w o).heap[w.heap.size]?=some (.cells (opCells o) 28):=blk_alloc_new w
 have hB:Below w.heap.size w (opBlk w o):=(Below.refl _ w).alloc (Nat.le_refl _) _
 have HH:=Lib.hid h
 obtain ⟨tg,dsv,lsv,lss,hL,hlk⟩:=h
 have hil:=(List.getElem?_eq_some_iff.1 hp).1
 obtain ⟨i,hi⟩:∃i,pickI o.a ps.length=i:=⟨_,rfl⟩
 have HPK:=Lib.hid (fun w=>lpick_calls (w:=w) o.a ps.length ha (by omega))
 rw [hi] at HPK hp hil
 obtain ⟨db,doff,dc,rfl,hpc⟩:=pair_cells hL hp
 obtain ⟨x0,x1⟩:=hpc _ hB
 have v0:(opBlk w o).cell? ⟨V,0,none⟩=some (.slice (some ⟨db,doff,none⟩) ps.length dc):=cell_of_blk (hL.grow hB).vb.2 rfl
 have hBZ:Below w.heap.size w ((opBlk w o).alloc (.cells #[.pointer none,.pointer none] 51)):=hB.alloc hB.size _
 obtain ⟨x0z,x1z⟩:=hpc _ hBZ
 have v0z:((opBlk w o).alloc (.cells #[.pointer none,.pointer none] 51)).cell? ⟨V,0,none⟩=some (.slice (some ⟨db,doff,none⟩) ps.length dc):=cell_of_blk (hL.grow hBZ).vb.2 rfl
 have d1z:((opBlk w o).alloc (.cells #[.pointer none,.pointer none] 51)).cell? ⟨w.heap.size,1,none⟩=some (vi o.a):=cell_of_blk ((blk_alloc_lt _ (by simp)).trans h0) rfl
 obtain ⟨n,hnn⟩:∃n,ps.length=n:=⟨_,rfl⟩
 have HLL:=Lib.hid (And.intro hL hlk)
 obtain ⟨ρ,L,hR,_⟩:=hL.real i p hp
 obtain ⟨σ,ML,hM,_⟩:=hL.ref i p hp
 rw [hm] at hM
 have hmk:=hI.mok
 obtain ⟨lv,hlv⟩:∃lv,lookCells p.r=lv:=⟨_,rfl⟩
 have HLD:=Lib.hid (fun (W:World) (hb:Below w.heap.size w W)=>Look_calls (hR.of_fr (S:=fun _=>False) (Fr.of_below hb) (fun _ f=>f.elim)) hI.q (by have:=hI.n.reqs;omega))
 have HLM:=Lib.hid (fun (W:World) (hb:Below w.heap.size w W)=>mlook_calls (hM.grow hb) (by rw [queued_eq hI];have:=sumLens_le hI.q;have:=hI.n.reqs;omega) (by omega))
 rw [look_same hI] at HLM
 rw [hlv] at HLM HLD
 have HLV:Hid (∃a b c d:Int,lv=#[vi a,vi b,vi c,vi d]):=⟨_,_,_,_,hlv.symm⟩
 rw [hnn] at v0 v0z HPK hn hil
 have hn0:((n:Int)==0)=false:=beq_eq_false_iff_ne.2 (by omega)
 have hn0':decide ((n:Int)=0)=false:=decide_eq_false (by omega)
 have hi0:(0:Int)≤(i:Int):=by omega
 have hi1:(i:Int) < (n:Int):=by omega
 have d0:(opBlk w o).cell? ⟨w.heap.size,0,none⟩=some (vi o.kind):=cell_of_blk h0 rfl
 have d1:(opBlk w o).cell? ⟨w.heap.size,1,none⟩=some (vi o.a):=cell_of_blk h0 rfl
 have HBO:Hid (Below w.heap.size w (opBlk w o)∧(opBlk w o).heap[w.heap.size]?=some (.cells (opCells o) 28)):=⟨hB,h0⟩
 have hk1:(o.kind==1)=false:=beq_eq_false_iff_ne.2 (by omega)
 have hk2:(o.kind==2)=false:=beq_eq_false_iff_ne.2 (by omega)
 have hk1':decide (o.kind=1)=false:=decide_eq_false (by omega)
 have hk2':decide (o.kind=2)=false:=decide_eq_false (by omega)
 have HKD:=Lib.hid hkd
 have HKB:=Lib.hid hk
 obtain ⟨kd,a,c,⟨c1,c2,c3,c4,c5⟩,s⟩:=o
 simp only [opCells,opBlk] at *
 clear hkd h0 hB hBZ hL hlk hp hpc hI hnn hi ha hm hk hR hM hmk hlv
 go_enter Tryz.func10,Tryz.ntmps10
 go_wp2_with fail
 apply cut_region
 ·intro R hR
  go_region_law (first
   | (go_simp;go_at_call 19;refine (HPK.out _).mono ?_;rintro e w2 ⟨rfl,rfl⟩))
  all_goals exact hR.out
 obtain ⟨W2,hW2⟩:∃W2,((w.alloc (.cells #[vi kd,vi a,vi c,vi c1,vi c2,vi c3,vi c4,vi c5,vs (bs s)] 28)).alloc (.cells #[vp p.D,vp p.M] 51)).drew=W2:=⟨_,rfl⟩
 rw [show ((w.alloc (.cells #[vi kd,vi a,vi c,vi c1,vi c2,vi c3,vi c4,vi c5,vs (bs s)] 28)).alloc (.cells #[Value.pointer (some ⟨p.D,0,none⟩),Value.pointer (some ⟨p.M,0,none⟩)] 51)).drew=W2 from hW2]
 have HB2:Hid (Below w.heap.size w W2):=show Below _ _ _ by rw [←hW2];exact (HBO.out.1.alloc HBO.out.1.size _).drew
 have ho2:W2.heap[w.heap.size]?=some (.cells #[vi kd,vi a,vi c,vi c1,vi c2,vi c3,vi c4,vi c5,vs (bs s)] 28 (0,0)):=by rw [←hW2];exact (blk_alloc_lt _ (by simp)).trans HBO.out.2
 have hp2:W2.heap[w.heap.size+1]?=some (.cells #[vp p.D,vp p.M] 51 (0,0)):=by
  rw [←hW2]
  have:=blk_alloc_new (w.alloc (.cells #[vi kd,vi a,vi c,vi c1,vi c2,vi c3,vi c4,vi c5,vs (bs s)] 28)) (o:=.cells #[vp p.D,vp p.M] 51)
  rw [World.size_alloc] at this
  exact this
 have HO2:=Lib.hid (And.intro ho2 hp2)
 have e0:=cell_of_blk (off:=0) ho2 rfl
 have g0:=cell_of_blk (off:=0) hp2 rfl
 have g1:=cell_of_blk (off:=1) hp2 rfl
 clear hW2 ho2 hp2 d0 d1 d1z v0 v0z x0 x1 x0z x1z
 rcases HKD.out with rfl | hks
 ·obtain ⟨la,lb,lc,ld,rfl⟩:=HLV.out
  go_wp2_with fail
  apply cut_any (S:=fun W=>Below W2.heap.size W2 W)
  ·intro R hR
   go_region_law (first
    | (go_simp;go_at_call 26;first
     | (refine (HLD.out _ (HB2.out.trans (HBL.out.mono HB2.out.size))).mono ?_;rintro e wB ⟨rfl,hb⟩;have HBM:=Lib.hid (HBL.out.trans (hb.mono HBL.out.size));clear hb)
     | (refine (HLD.out _ HB2.out.drew).mono ?_;rintro e wA ⟨rfl,hb⟩;have HBL:=Lib.hid (below_plain hb);have g0b:=(hb.cell (cell_lt g0)).trans g0;have g1b:=(hb.cell (cell_lt g1)).trans g1;clear hb))
    | (go_simp;go_at_call 27;first
     | (refine (HLM.out _ (HB2.out.trans (HBL.out.mono HB2.out.size))).mono ?_;rintro e wB ⟨rfl,hb⟩;have HBM:=Lib.hid (HBL.out.trans (hb.mono HBL.out.size));clear hb)
     | (refine (HLM.out _ HB2.out.drew).mono ?_;rintro e wA ⟨rfl,hb⟩;have HBL:=Lib.hid (below_plain hb);have g0b:=(hb.cell (cell_lt g0)).trans g0;have g1b:=(hb.cell (cell_lt g1)).trans g1;clear hb)))
   all_goals exact hR.out _ HBM.out
  intro w3 hb3
  go_wp2_with fail
  go_ret
  exact ⟨rfl,k,by omega,HH.out.grow (HB2.out.trans (hb3.mono HB2.out.size))⟩
 ·have j3:(kd==3)=false:=beq_eq_false_iff_ne.2 (by omega)
  have i3:decide (kd=3)=false:=decide_eq_false (by omega)
  have j4:(kd==4)=false:=beq_eq_false_iff_ne.2 (by omega)
  have i4:decide (kd=4)=false:=decide_eq_false (by omega)
  have j5:(kd==5)=false:=beq_eq_false_iff_ne.2 (by omega)
  have i5:decide (kd=5)=false:=decide_eq_false (by omega)
  have j6:(kd==6)=false:=beq_eq_false_iff_ne.2 (by omega)
  have i6:decide (kd=6)=false:=decide_eq_false (by omega)
  have j7:(kd==7)=false:=beq_eq_false_iff_ne.2 (by omega)
  have i7:decide (kd=7)=false:=decide_eq_false (by omega)
  obtain ⟨tg4,htg⟩:∃t,tg=t:=⟨_,rfl⟩
  have HL4:=Lib.hid (HLL.out.1.grow HB2.out)
  have HLK:=Lib.hid HLL.out.2
  have HSA:Hid (SlAt W2 64 2 (fun b=>tg b=(4,lss.length)) (.slice none 0 0) 0 (outCells [])):=SlAt.nil
  have HSB:Hid (SlAt W2 64 2 (fun _=>False) (.slice none 0 0) 0 (outCells [])):=SlAt.nil
  have HLO:Hid (([]:List (Int×Bytes)).length≤1000000000000):=Nat.zero_le _
  rw [htg] at HL4 HSA
  clear htg hks
  have HSAME:=Lib.hid (same_calls [] HLO.out HSA.out HSB.out)
  go_wp2_with fail
  refine HSAME.out.mono ?_
  rintro e w5 ⟨rfl,hb5⟩
  have hL5:=HL4.out.grow hb5
  have hsa5:=HSA.out.of_blk (w':=w5) (own':=fun b=>tg4 b=(4,lss.length)) (fun b _ hl=>hb5.block b hl) (fun _ h _=>h)
  have HMINE:=Lib.hid (mine_calls [] hL5.vb.2 hL5.ls hsa5 (by have:=HLO.out;exact this) (by rw [HLK.out];have:=HKB.out;omega) (by rw [hL5.vb.1];exact pair_ne (by decide)) (by rw [hL5.vb.1];exact pair_ne (by decide)) (fun b h1 h2=>pair_ne (by decide) (h1.symm.trans h2))
   (fun b hb=>(hL5.dom b (by rw [hb];simp)).2) (fun b hb=>(hL5.dom b (by rw [hb];simp)).2))
  have HL5:=Lib.hid hL5
  clear hb5 hL5 hsa5
  go_wp2_with fail
  refine HMINE.out.mono ?_
  rintro e w6 ⟨rfl,hpost⟩
  obtain ⟨tg6,lsv6,v6,hL6⟩:=HL5.out.mine hpost
  have HL6:=Lib.hid hL6
  clear hpost hL6
  go_wp2_with fail
  go_ret
  have hlk2:(lss++[v6]).length=k+1:=by rw [List.length_append,List.length_singleton,HLK.out]
  exact ⟨rfl,k+1,Nat.le_refl _,tg6,_,lsv6,lss++[v6],HL6.out,hlk2⟩
theorem stepG_rest {U:Nat} (h:LawAt G w0 V ps k w) (hok:∀p∈ps,PairG Z U p) (hU:U≤30000000) (hk:k≤10000000) (hn:ps.length≤10000000) (o:OpD) (hkd:o.kind=7∨o.kind < 1∨7 < o.kind) (ha:-9223372036854775808≤o.a∧o.a≤9223372036854775807) :
 Calls Tryz.prog 10 #[vp V,.agg (opCells o)] w (StepPost G w0 V Z U ps.length k o):=by
 by_cases he:ps=[]
 ·subst he
  refine (step_none h o (by omega) (by omega)).mono ?_
  rintro e w' ⟨rfl,h1⟩
  exact .same h1 hok (by omega)
 ·obtain ⟨p,hpp⟩:=pick_at ps o.a he
  have hpo:=hok p (List.mem_of_getElem? hpp)
  refine (step_rest h hk (by omega) o hkd ha hpp hpo.inv hpo.eq hU).mono ?_
  rintro e w' ⟨rfl,k',hk',h1⟩
  exact .same h1 hok hk'
end
end Go.Proofs.YtaejfobbogahmabGreatDoor
