/-
  LookP MLookM Look StepL: texts of their own, joined.
-/
import Derived.Laws.IdiomRangeMap
import Derived.Maps.RangeRun
import Derived.Test.YtaejfobbogahmaaGreatDoorMkStepG
set_option maxRecDepth 100000
set_option maxHeartbeats 16000000
set_option linter.all false
namespace Go.Proofs.YtaejfobbogahmaaGreatDoor
open Go
theorem zWM {l l':List Nat} (h:l.Perm l'):l.sum=l'.sum:=by
 induction h with
 | nil=>rfl
 | cons x _ ih=>simp [ih]
 | swap x y l=>simp only [List.sum_cons];omega
 | trans _ _ h1 h2=>exact h1.trans h2
theorem zNm {α:Type} [DecidableEq α]:∀{l l':List α},l.Nodup→l'.Nodup→(∀x,x∈l↔x∈l')→l.Perm l'
 | [],l',_,_,h=>by
   have:l'=[]:=List.eq_nil_iff_forall_not_mem.2 (fun x hx=>by have:=(h x).2 hx;cases this)
   rw [this]
 | a::l,l',h1,h2,h=>by
   have ha:a∈l':=(h a).1 List.mem_cons_self
   have h3:=List.perm_cons_erase ha
   have h4:(a::l'.erase a).Nodup:=h3.nodup_iff.1 h2
   rw [List.nodup_cons] at h1 h4
   refine (List.Perm.cons a (zNm h1.2 h4.2 (fun x=>?_))).trans h3.symm
   have hx:=h x
   rw [h3.mem_iff,List.mem_cons,List.mem_cons] at hx
   constructor
   ·intro hl
    rcases hx.1 (.inr hl) with e | e
    ·subst e;exact absurd hl h1.1
    ·exact e
   ·intro hl
    rcases hx.2 (.inr hl) with e | e
    ·subst e;exact absurd hl h4.1
    ·exact e
def zAu (l:List (ByteArray×List Int)):Nat:=(l.map fun p=>p.2.length).sum
theorem zNn {N P:Nat} {r:Raw} (hI:Inv N P r):zAu (zC r).ring=zBa r.queues:=by
 have hp:r.ring.Perm (r.queues.map Prod.fst):=zNm hI.q.rnd hI.q.kqu (fun t=>by
  rw [hI.q.rqu t]
  unfold qOf
  constructor
  ·intro h
   cases hq:aget r.queues t with
   | none=>rw [hq] at h;exact absurd rfl h
   | some l=>exact List.mem_map_of_mem (f:=Prod.fst) (xL hq)
  ·intro h
   obtain ⟨⟨s,l⟩,hm,rfl⟩:=List.mem_map.1 h
   rw [zAG hI.q.kqu hm]
   exact hI.q.qne s l (zAG hI.q.kqu hm))
 have h1:zAu (zC r).ring=(r.ring.map fun t=>(qOf r t).length).sum:=by
  show ((r.ring.map fun t=>(t,qOf r t)).map fun p=>p.2.length).sum=_
  rw [List.map_map];rfl
 rw [h1,zWM (hp.map fun t=>(qOf r t).length)]
 unfold zBa
 rw [List.map_map]
 congr 1
 apply List.map_congr_left
 rintro ⟨t,l⟩ hm
 show (qOf r t).length=l.length
 rw [zJH (zAG hI.q.kqu hm)]
open Go Go.RowKit
def zGl (m:RefM):Array Value:=#[vi m.now,vi (zAu m.ring:Nat),vi (m.atts.length:Nat),vi (m.waiting.length:Nat)]
theorem zWN {l:List (ByteArray×List Int)} {k:Nat} {t:ByteArray} {x:List Int} (h:l[k]?=some (t,x)):zAu (l.take (k+1))=zAu (l.take k)+x.length:=by
 unfold zAu
 rw [List.take_add_one,h]
 simp
theorem zWO (l:List (ByteArray×List Int)) (k:Nat):zAu (l.take k)≤zAu l:=by
 unfold zAu
 have h:=congrArg (fun l=>(l.map fun p:ByteArray×List Int=>p.2.length).sum) (List.take_append_drop k l)
 simp only [List.map_append,List.sum_append] at h
 omega
theorem zWP {w:World} {R:Nat} {a b c d:Value} (t:Array Value) (ht:t[2]?=some (vp R)) (h:w.heap[R]?=some (.cells #[a,b,c,d] 52 (0,0))):(results Tryz.f88 t).run Tryz.prog w=.ok (.agg #[a,b,c,d]) w:=by
 have e0:=zB h (off:=0) rfl
 have e1:=zB h (off:=1) rfl
 have e2:=zB h (off:=2) rfl
 have e3:=zB h (off:=3) rfl
 simp [results,Tryz.results88,go_sem,ht,e0,e1,e2,e3]
section
variable {w w' w1 w2 w3 wr:World} {ρ:Nat→Role} {G M:Nat} {L:MLay} {m:RefM}
theorem zWQ (h:MRep w ρ G M L m) (hq:zAu m.ring≤1000000000000) (hn:m.ring.length≤1000000000000) :
 Calls Tryz.prog 88 #[vp M] w fun e w'=>e=.returned (.agg (zGl m))∧Below w.heap.size w w':=by
 have HB0:Hid ((w.alloc (.cells #[vi 0,vi 0,vi 0,vi 0] 52)).heap[w.heap.size]?=some (.cells #[vi 0,vi 0,vi 0,vi 0] 52 (0,0))):=zL w
 have HW0:Hid (Below w.heap.size w (w.alloc (.cells #[vi 0,vi 0,vi 0,vi 0] 52))):=(Below.refl _ w).alloc (Nat.le_refl _) _
 have h1:=h.alloc (.cells #[vi 0,vi 0,vi 0,vi 0] 52)
 obtain ⟨a,cap,hv,hr⟩:=h1.ringIn
 have cL:(w.alloc (.cells #[vi 0,vi 0,vi 0,vi 0] 52)).cell? ⟨M,8,none⟩=some L.ring:=h1.cell (k:=8) rfl
 rw [hv] at cL
 have HR:=zh hr
 have H1:=zh h1
 have HMS:Hid (M < w.heap.size):=h.size.2
 obtain ⟨n,hnn⟩:∃n,m.ring.length=n:=⟨_,rfl⟩
 have HN:=zh hnn
 rw [hnn] at cL hn
 have HQ:=zh hq
 clear h hv hr hnn h1 hq
 go_enter Tryz.func88,Tryz.ntmps88
 go_wp2_with fail
 go_loopw [3,5,11] (fun s3 _ s11 wr=>∃k:Nat,s11=.int .i64 k∧s3=.int .i64 (zAu (m.ring.take k):Nat)∧k≤n∧Hid (Below (w.alloc (.cells #[vi 0,vi 0,vi 0,vi 0] 52)).heap.size (w.alloc (.cells #[vi 0,vi 0,vi 0,vi 0] 52)) wr)) (fun _ _ s11 _=>n - (intOf s11).toNat)
 case atStart=>exact ⟨0,by go_num,by simp [zAu],Nat.zero_le _,Below.refl _ _⟩
 case round =>
  obtain ⟨k,rfl,rfl,hk,HI⟩:=hrel
  by_cases hkl:k < n
  ·have hlt:decide ((k:Int) < (n:Int))=true:=decide_eq_true (by omega)
   obtain ⟨⟨t,x⟩,hkq⟩:∃q,m.ring[k]?=some q:=⟨_,List.getElem?_eq_getElem (by rw [HN.out];exact hkl)⟩
   obtain ⟨b,off,hae,c0,c1⟩:=zDb (HR.out.below HI.out) hkq
   subst hae
   obtain ⟨ia,ic,hiv,_,_⟩:=((H1.out.grow HI.out).ids t x (List.mem_of_getElem? hkq)).form'
   simp only [] at c0 c1
   rw [hiv] at c1
   have hk0:(0:Int)≤(k:Int):=by omega
   have hk1:(k:Int) < (n:Int):=by omega
   have HNX:=zh (zWN hkq)
   have hle:=zWO m.ring (k+1)
   rw [HNX.out] at hle
   obtain ⟨S0,hS0⟩:∃S,zAu (m.ring.take k)=S:=⟨_,rfl⟩
   rw [hS0] at hle HNX ⊢
   obtain ⟨xl,hxl⟩:∃xl,x.length=xl:=⟨_,rfl⟩
   rw [hxl] at hle HNX c1
   have hb1:S0+xl≤1000000000000:=by have:=HQ.out;omega
   have hww:IntKind.i64.wrap ((S0:Int)+(xl:Int))=((S0+xl:Nat):Int):=by rw [IntWalk.i64_in _ (by omega)];omega
   clear hkq hiv hle hS0 hxl
   go_wp2_with fail
   go_roundw
   case rel=>exact ⟨k+1,by go_num,by rw [HNX.out];first | rfl | go_num,by omega,HI.out.alloc HI.out.size _⟩
   case measure=>simp [intOf];omega
  ·obtain rfl:k=n:=by omega
   have hlt:decide ((k:Int) < (k:Int))=false:=by simp
   have hrep:=H1.out.grow HI.out
   have hR:wr.heap[w.heap.size]?=some (.cells #[vi 0,vi 0,vi 0,vi 0] 52 (0,0)):=(HI.out.block _ (by rw [World.size_alloc];omega)).trans HB0.out
   obtain ⟨va,vc,hva,_,_⟩:=hrep.atts.form'
   obtain ⟨ua,uc,hua,_,_⟩:=hrep.waiting.form'
   have d5:wr.cell? ⟨M,5,none⟩=some (vi m.now):=hrep.cell (k:=5) rfl
   have d7:wr.cell? ⟨M,7,none⟩=some L.atts:=hrep.cell (k:=7) rfl
   have d9:wr.cell? ⟨M,9,none⟩=some L.waiting:=hrep.cell (k:=9) rfl
   rw [hva] at d7
   rw [hua] at d9
   have R0:wr.cell? ⟨w.heap.size,0,none⟩=some (vi 0):=zB hR rfl
   have R1:wr.cell? ⟨w.heap.size,1,none⟩=some (vi 0):=zB hR rfl
   have R2:wr.cell? ⟨w.heap.size,2,none⟩=some (vi 0):=zB hR rfl
   have R3:wr.cell? ⟨w.heap.size,3,none⟩=some (vi 0):=zB hR rfl
   have F0:wr.frozen? ⟨w.heap.size,0,none⟩=false:=zI hR
   have F1:wr.frozen? ⟨w.heap.size,1,none⟩=false:=zI hR
   have F2:wr.frozen? ⟨w.heap.size,2,none⟩=false:=zI hR
   have F3:wr.frozen? ⟨w.heap.size,3,none⟩=false:=zI hR
   have HRB:=zh hR
   have HBF:Hid (Below w.heap.size w wr):=HW0.out.trans (HI.out.mono (by rw [World.size_alloc];omega))
   obtain ⟨e1,he1⟩:∃e,zAu (m.ring.take k)=e:=⟨_,rfl⟩
   obtain ⟨e2,he2⟩:∃e,m.atts.length=e:=⟨_,rfl⟩
   obtain ⟨e3,he3⟩:∃e,m.waiting.length=e:=⟨_,rfl⟩
   obtain ⟨e4,he4⟩:∃e,m.now=e:=⟨_,rfl⟩
   have HCE:Hid (zGl m=#[vi e4,vi (e1:Nat),vi (e2:Nat),vi (e3:Nat)]):=show _=_ by rw [←he1,←he2,←he3,←he4,←HN.out,List.take_length];rfl
   rw [he1]
   rw [he2] at d7
   rw [he3] at d9
   rw [he4] at d5
   have hMR:M≠w.heap.size:=Nat.ne_of_lt HMS.out
   clear hrep hR hva hua he1 he2 he3 he4
   go_wp2_with fail
   go_region_law (fail)
   all_goals
    go_wp2_with fail
    refine bodyPost_ret (v:=.agg #[vi e4,vi (e1:Nat),vi (e2:Nat),vi (e3:Nat)]) (zWP _ rfl (zM _ (zM _ (zM _ (zM _ (show wr.drew.heap[w.heap.size]?=_ from HRB.out)))))) rfl ⟨by rw [HCE.out],?_⟩
    exact (((((xo HBF.out 1).setCell (Nat.le_refl _) _).setCell (Nat.le_refl _) _).setCell (Nat.le_refl _) _).setCell (Nat.le_refl _) _)
end
def zDt:Value→Nat
 | .slice _ n _=>n
 | _=>0
def xX:List MapEntry→Array Nat→Nat
 | [],_=>0
 | x::l,seen=>(if seen.contains x.born then zDt x.val else 0)+xX l seen
theorem zNo (seen:Array Nat) (b:Nat):∀(es:List MapEntry),b∉es.map (·.born)→xX es (seen.push b)=xX es seen
 | [],_=>rfl
 | x::l,h=>by
   have h1:x.born≠b:=fun e=>h (by simp [e])
   have h2:b∉l.map (·.born):=fun e=>h (List.mem_cons_of_mem _ e)
   simp only [xX,contains_push,beq_eq_false_iff_ne.2 h1,Bool.or_false,zNo seen b l h2]
theorem zNp (seen:Array Nat) (e:MapEntry) (hs:seen.contains e.born=false):∀(es:List MapEntry),(es.map (·.born)).Nodup→e∈es→xX es (seen.push e.born)=xX es seen+zDt e.val
 | x::l,hn,he=>by
   have hn':=List.nodup_cons.1 hn
   rcases List.mem_cons.1 he with rfl | h
   ·simp only [xX,contains_push,hs,beq_self_eq_true,Bool.or_true,if_true,Bool.false_eq_true,if_false,zNo seen e.born l hn'.1]
    omega
   ·have hx:(x.born==e.born)=false:=beq_eq_false_iff_ne.2 (fun e2=>hn'.1 (by show x.born∈_;rw [e2];exact List.mem_map.2 ⟨e,h,rfl⟩))
    simp only [xX,contains_push,hx,Bool.or_false,zNp seen e hs l hn'.2 h]
    omega
theorem zNq:∀(es:List MapEntry),xX es #[]=0
 | []=>rfl
 | x::l=>by simp [xX,zNq l]
theorem zNr (seen:Array Nat):∀(es:List MapEntry),(∀x∈es,seen.contains x.born=true)→xX es seen=(es.map fun e=>zDt e.val).sum
 | [],_=>rfl
 | x::l,h=>by
   simp only [xX,h x (List.mem_cons.2 (Or.inl rfl)),if_true,List.map_cons,List.sum_cons,zNr seen l (fun y hy=>h y (List.mem_cons.2 (Or.inr hy)))]
theorem zNs (seen:Array Nat):∀(es:List MapEntry),xX es seen≤(es.map fun e=>zDt e.val).sum
 | []=>Nat.le_refl _
 | x::l=>by
   have:=zNs seen l
   simp only [xX,List.map_cons,List.sum_cons]
   split<;>omega
theorem zWR {w:World} {ρ:Nat→Role} {G D:Nat} {L:Lay} {r:Raw} (h:RRep w ρ G D L r) {es:Array MapEntry} (he:yb encS es.toList (amap (fun t _=>L.qu t) r.queues)) :
 (es.toList.map fun e=>zDt e.val).sum=zBa r.queues∧∀e∈es.toList,∃a n cap,e.val=.slice a n cap:=by
 have hq:=h.qus.2.2.2
 have key:∀(l:List (ByteArray×List Int)) (es:List MapEntry),(∀t l',(t,l')∈l→∃a cap,L.qu t=.slice a l'.length cap)→yb encS es (amap (fun t _=>L.qu t) l) →
  (es.map fun e=>zDt e.val).sum=zBa l∧∀e∈es,∃a n cap,e.val=.slice a n cap:=by
  intro l
  induction l with
  | nil =>
    intro es _ he
    have:es=[]:=by simpa [yb,amap] using he
    subst this
    exact ⟨rfl,by simp⟩
  | cons p l ih =>
    intro es hl he
    cases es with
    | nil=>simp [yb,amap] at he
    | cons e es =>
      have he2:(e.key,e.val)=(encS p.1,L.qu p.1)∧yb encS es (amap (fun t _=>L.qu t) l):=by
       simpa [yb,amap] using he
      obtain ⟨a,cap,hv⟩:=hl p.1 p.2 (by simp)
      have hval:e.val=.slice a p.2.length cap:=by rw [←hv];exact congrArg Prod.snd he2.1
      obtain ⟨i1,i2⟩:=ih es (fun t l' h'=>hl t l' (by simp [h'])) he2.2
      refine ⟨?_,fun x hx=>?_⟩
      ·rw [List.map_cons,List.sum_cons,i1,hval];rfl
      ·rcases List.mem_cons.1 hx with rfl | hx
       ·exact ⟨_,_,_,hval⟩
       ·exact i2 x hx
 exact key r.queues es.toList (fun t l' h'=>by
  obtain ⟨a,cap,hv,_,_⟩:=(hq t l' h').form'
  exact ⟨a,cap,hv⟩) he
theorem zWS (l:List (ByteArray×List Int)):zBa l=(l.flatMap (·.2)).length:=by
 unfold zBa
 rw [List.length_flatMap]
theorem zNt {r:Raw} (h:InvQ r):zBa r.queues≤r.reqs.length:=by
 rw [zWS]
 have hg:∀t l,(t,l)∈r.queues→qOf r t=l:=fun t l hm=>zJH (zAG h.kqu hm)
 have hnd:∀(l:List (ByteArray×List Int)),l.Sublist r.queues→(l.flatMap (·.2)).Nodup:=by
  intro l
  induction l with
  | nil=>intro _;simp
  | cons p l ih =>
    intro hs
    have hp:p∈r.queues:=hs.subset (by simp)
    have hl:=ih ((List.sublist_cons_self _ _).trans hs)
    rw [List.flatMap_cons,List.nodup_append]
    refine ⟨by rw [←hg p.1 p.2 hp];exact h.qnd _,hl,fun a ha b hb e=>?_⟩
    subst e
    obtain ⟨q,hq,hb⟩:=List.mem_flatMap.1 hb
    have hq':q∈r.queues:=hs.subset (by simp [hq])
    rw [←hg p.1 p.2 hp] at ha
    rw [←hg q.1 q.2 hq'] at hb
    obtain ⟨q1,e1,e2,_⟩:=h.qreq _ _ ha
    obtain ⟨q2,e3,e4,_⟩:=h.qreq _ _ hb
    rw [e1] at e3;cases e3
    have hk:=(hs.map Prod.fst).nodup h.kqu
    rw [List.map_cons,List.nodup_cons] at hk
    exact hk.1 (by rw [e2.symm.trans e4];exact List.mem_map.2 ⟨q,hq,rfl⟩)
 have:=zFC (l:=r.queues.flatMap (·.2)) (m:=r.reqs.map Prod.fst) (hnd _ (List.Sublist.refl _))
  (fun id hid=>by
   obtain ⟨p,hp,hx⟩:=List.mem_flatMap.1 hid
   rw [←hg p.1 p.2 hp] at hx
   obtain ⟨q,hq,_⟩:=h.qreq _ _ hx
   exact zCm.1 (by rw [hq];rfl))
 simpa using this
def zEw (r:Raw):Array Value:=#[vi r.now,vi (zBa r.queues:Nat),vi (r.atts.length:Nat),vi (r.waiting.length:Nat)]
theorem zWT {w:World} {R:Nat} {a b c d:Value} (t:Array Value) (ht:t[2]?=some (vp R)) (h:w.heap[R]?=some (.cells #[a,b,c,d] 52 (0,0))) (ha:a.oneCell'=true) (hb:b.oneCell'=true) (hc:c.oneCell'=true) (hd:d.oneCell'=true):(results Tryz.f24 t).run Tryz.prog w=.ok (.agg #[a,b,c,d]) w:=by
 have e0:=zB h (off:=0) rfl
 have e1:=zB h (off:=1) rfl
 have e2:=zB h (off:=2) rfl
 have e3:=zB h (off:=3) rfl
 simp [results,Tryz.results24,go_sem,ht,e0,e1,e2,e3]
def ItAt (wl:World) (R bm clock:Nat) (seen:Array Nat) (wr:World):Prop:=wr.heap[R]?=some (.mapIter (some bm) clock seen clock)∧Fr (fun b=>b=R) wl wr
theorem ItAt.next {wl wr w1:World} {R bm clock:Nat} {seen seen':Array Nat} (h:ItAt wl R bm clock seen wr) (h1:w1=wr∨w1=wr.drew):ItAt wl R bm clock seen' (Go.ChangeMaps.setBlock w1 R (.mapIter (some bm) clock seen' clock)):=by
 obtain ⟨h2,h3⟩:=h
 have hlt:=zF _ h2
 have h4:w1.heap=wr.heap∧w1.os=wr.os∧w1.tape=wr.tape∧w1.output=wr.output:=by rcases h1 with rfl | rfl<;>exact ⟨rfl,rfl,rfl,rfl⟩
 obtain ⟨e1,e2,e3,e4⟩:=h4
 refine ⟨?_,⟨e2.trans h3.os,e3.trans h3.tape,e4.trans h3.output,?_,fun i hi hn=>?_⟩⟩
 ·show (w1.heap.setIfInBounds R _)[R]?=_
  rw [e1];simp [hlt]
 ·show wl.heap.size≤(w1.heap.setIfInBounds R _).size
  rw [e1];simp;exact h3.size
 ·show (w1.heap.setIfInBounds R _)[i]?=_
  rw [e1,Array.getElem?_setIfInBounds_ne (fun e=>hn e.symm)]
  exact h3.block i hi hn
theorem zWU {w:World} {ρ:Nat→Role} {G D:Nat} {L:Lay} {r:Raw} (h:RRep w ρ G D L r) (hQ:InvQ r) (hb:r.reqs.length≤1000000000000) :
 Calls Tryz.prog 24 #[vp D] w fun e w'=>e=.returned (.agg (zEw r))∧Below w.heap.size w w':=by
 obtain ⟨es,clock,hm,he,hst⟩:=h.qus.2.1
 obtain ⟨hsum,hval⟩:=zWR h he
 have hle:=zNt hQ
 have HV:=zh hval
 have HS:=zh hsum
 have HST:=zh hst
 have HMM:=zh hm
 have c8:=h.disp.c8
 have c5:=h.disp.c5
 obtain ⟨va,vc,hw1,hw2,hw3⟩:=SlAt.form' h.wai
 have c11:w.cell? ⟨D,11,none⟩=some (.slice va r.waiting.length vc):=by rw [←hw1];exact h.disp.c11
 have HH:=zh h
 have hDw:=h.size.2
 have hbm:=zF _ hm
 obtain ⟨wl,hwl⟩:∃wl,wl=w.alloc (.cells #[vi 0,vi 0,vi 0,vi 0] 52):=⟨_,rfl⟩
 have hsz:wl.heap.size=w.heap.size+1:=by rw [hwl];simp
 have hrg:=run_range_map (P:=Tryz.prog) wl 74 9 46 L.mq es clock Tryz.underlying74 (by rw [hwl];exact (zP w hbm).trans hm)
 have HWL:=zh hwl
 rw [hsz,hwl] at hrg
 have hsb:zBa r.queues≤1000000000000:=by omega
 unfold maxLen at hw3
 clear h he hst hval hsum hle hQ hb hm
 go_enter Tryz.func24,Tryz.ntmps24
 go_wp2_with fail
 go_loopw [3,5] (fun s3 _ wr=>∃seen:Array Nat,s3=.int .i64 ((xX es.toList seen:Nat):Int)∧Hid (ItAt ((w.alloc (.cells #[vi 0,vi 0,vi 0,vi 0] 52)).alloc (.mapIter (some L.mq) clock #[] clock)) (w.heap.size+1) L.mq clock seen wr)) (fun _ _ wr=>(leftOf es (wr.iterSeen (w.heap.size+1))).size)
 case atStart =>
  refine ⟨#[],by rw [zNq];rfl,?_,Fr.refl _ _⟩
  have:=zL (w.alloc (.cells #[vi 0,vi 0,vi 0,vi 0] 52)) (o:=.mapIter (some L.mq) clock #[] clock)
  simpa using this
 case round =>
  obtain ⟨seen,rfl,HI⟩:=hrel
  have hbm1:wr.heap[L.mq]?=some (.map es clock):=by
   rw [HI.out.2.block L.mq (by simp;omega) (by omega)]
   exact (zP _ (by simp;omega)).trans ((zP w hbm).trans HMM.out)
  have hseen:wr.iterSeen (w.heap.size+1)=seen:=by unfold World.iterSeen;rw [HI.out.1]
  rcases run_next_at (P:=Tryz.prog) wr 0 (w.heap.size+1) L.mq clock clock seen es clock HI.out.1 hbm1 HST.out.1 (Nat.le_refl _) with ⟨h0,hrun⟩ | ⟨e,he,w1,hw1',hrun⟩
  ·have hnx:∀ty,(Instr.next (.pointer (some ⟨w.heap.size+1,0,none⟩)) false ty).run Tryz.prog wr=.ok (.tuple #[.bool false]) wr:=fun _=>hrun
   have HSUM:Hid (xX es.toList seen=zBa r.queues):=show _=_ by rw [←HS.out];exact zNr seen _ (all_seen es seen h0)
   have hf:Fr (fun _=>False) w wr:=(((Fr.refl (fun _=>False) w).alloc _).alloc _).trans HI.out.2 (fun x hx=>.inr (by omega))
   have hR:wr.heap[w.heap.size]?=some (.cells #[vi 0,vi 0,vi 0,vi 0] 52 (0,0)):=by
    rw [HI.out.2.block w.heap.size (by simp;omega) (by omega)]
    exact (zP _ (by simp)).trans (zL w)
   have hrep:=HH.out.of_fr hf (fun _ f=>f.elim)
   have d5:wr.cell? ⟨D,5,none⟩=some (vi r.now):=hrep.disp.c5
   have d11:wr.cell? ⟨D,11,none⟩=some (.slice va r.waiting.length vc):=by have:=hrep.disp.c11;rw [hw1] at this;exact this
   have R0:wr.cell? ⟨w.heap.size,0,none⟩=some (vi 0):=zB hR rfl
   have R1:wr.cell? ⟨w.heap.size,1,none⟩=some (vi 0):=zB hR rfl
   have R2:wr.cell? ⟨w.heap.size,2,none⟩=some (vi 0):=zB hR rfl
   have R3:wr.cell? ⟨w.heap.size,3,none⟩=some (vi 0):=zB hR rfl
   have F0:wr.frozen? ⟨w.heap.size,0,none⟩=false:=zI hR
   have F1:wr.frozen? ⟨w.heap.size,1,none⟩=false:=zI hR
   have F2:wr.frozen? ⟨w.heap.size,2,none⟩=false:=zI hR
   have F3:wr.frozen? ⟨w.heap.size,3,none⟩=false:=zI hR
   have HTL:=zh (fun n=>zPx (hrep.drewN n))
   have HRB:=zh hR
   have HFF:=zh hf
   have hDr:=hrep.size.2
   rw [HSUM.out]
   clear h0 hrun hbm1 hseen hf hR hrep
   go_wp2_with fail
   go_region_law (first | (go_simp;go_at_call 42;refine (HTL.out 1).mono ?_;rintro e w3 ⟨rfl,rfl⟩))
   all_goals
    go_wp2_with fail
    refine bodyPost_ret (v:=.agg (zEw r)) (zWT _ rfl (zM _ (zM _ (zM _ (zM _ (show (wr.drewN 1).heap[w.heap.size]?=_ from HRB.out))))) rfl rfl rfl rfl) rfl ⟨rfl,?_⟩
    exact (((((xo (HFF.out.below (Nat.le_refl _) (fun _ f=>f.elim)) 1).setCell (Nat.le_refl _) _).setCell (Nat.le_refl _) _).setCell (Nat.le_refl _) _).setCell (Nat.le_refl _) _)
  ·obtain ⟨a,n,cap,hval⟩:=HV.out e (mem_left he).1
   rw [hval] at hrun
   have hnx:∀ty,(Instr.next (.pointer (some ⟨w.heap.size+1,0,none⟩)) false ty).run Tryz.prog wr=.ok (.tuple #[.bool true,e.key,.slice a n cap]) (Go.ChangeMaps.setBlock w1 (w.heap.size+1) (.mapIter (some L.mq) clock (seen.push e.born) clock)):=fun _=>hrun
   have HN:=zh (HI.out.next (seen':=seen.push e.born) hw1')
   obtain ⟨w2,hw2'⟩:∃w2,Go.ChangeMaps.setBlock w1 (w.heap.size+1) (.mapIter (some L.mq) clock (seen.push e.born) clock)=w2:=⟨_,rfl⟩
   rw [hw2'] at hnx HN
   have hbm2:w2.heap[L.mq]?=some (.map es clock):=by
    rw [HN.out.2.block L.mq (by simp;omega) (by omega)]
    exact (zP _ (by simp;omega)).trans ((zP w hbm).trans HMM.out)
   have hen:=run_entry_at (P:=Tryz.prog) w2 (w.heap.size+1) L.mq clock seen es clock e HN.out.1 hbm2 (mem_left he).1 HST.out.2.1
   rw [hval] at hen
   have hpush:Hid (xX es.toList (seen.push e.born)=xX es.toList seen+n):=show _=_ by rw [zNp seen e (mem_left he).2 es.toList HST.out.2.1 (mem_left he).1,hval];rfl
   have hle1:xX es.toList (seen.push e.born)≤1000000000000:=by
    have:=zNs (seen.push e.born) es.toList
    have h2:=HS.out
    omega
   have hsh:=zh (left_shrinks es seen e he)
   have hn1:xX es.toList seen+n≤1000000000000:=by have:=hpush.out;omega
   have Hsn:=zh hseen
   generalize xX es.toList seen=S0 at *
   clear hrun he hbm1 hbm2 hw2' hseen hw1'
   go_wp2_with fail
   go_roundw
   case rel=>exact ⟨seen.push e.born,by rw [hpush.out];go_num,HN.out⟩
   case measure =>
    rw [Hsn.out,show w2.iterSeen (w.heap.size+1)=seen.push e.born from by unfold World.iterSeen;rw [HN.out.1]]
    exact hsh.out
section
variable {G V k:Nat} {w0 w w':World} {ps:List DP} {Z K:zA→Bool}
theorem zWV {N P:Nat} {r:Raw} (hI:Inv N P r):zGl (zC r)=zEw r:=by
 unfold zGl zEw
 rw [zNn hI]
 simp [zC]
theorem zWW (h:yV G w0 V ps k w) (hk:k≤10000000) (hn:ps.length≤100000000000) (o:OpD) (hkd:o.kind=7∨o.kind < 1∨7 < o.kind) (ha:-9223372036854775808≤o.a∧o.a≤9223372036854775807) {p:DP} (hp:ps[xu o.a ps.length]?=some p)
 {N P:Nat} (hI:Inv N P p.r) (hm:p.m=zC p.r) (hN:N≤30000000) :
 Calls Tryz.prog 44 #[vp V,.agg (za o)] w fun e w'=>e=.returned (.bool true)∧∃k',k'≤k+1∧yV G w0 V ps k' w':=by
 have h0:(zK w o).heap[w.heap.size]?=some (.cells (za o) 98):=zL w
 have hB:Below w.heap.size w (zK w o):=(Below.refl _ w).alloc (Nat.le_refl _) _
 have HH:=zh h
 obtain ⟨tg,dsv,lsv,lss,hL,hlk⟩:=h
 have hil:=(List.getElem?_eq_some_iff.1 hp).1
 obtain ⟨i,hi⟩:∃i,xu o.a ps.length=i:=⟨_,rfl⟩
 have HPK:=zh (fun w=>zGM (w:=w) o.a ps.length ha (by omega))
 rw [hi] at HPK hp hil
 obtain ⟨db,doff,dc,rfl,hpc⟩:=zGS hL hp
 obtain ⟨x0,x1⟩:=hpc _ hB
 have v0:(zK w o).cell? ⟨V,0,none⟩=some (.slice (some ⟨db,doff,none⟩) ps.length dc):=zB (hL.grow hB).vb.2 rfl
 have hBZ:Below w.heap.size w ((zK w o).alloc (.cells #[.pointer none,.pointer none] 158)):=hB.alloc hB.size _
 obtain ⟨x0z,x1z⟩:=hpc _ hBZ
 have v0z:((zK w o).alloc (.cells #[.pointer none,.pointer none] 158)).cell? ⟨V,0,none⟩=some (.slice (some ⟨db,doff,none⟩) ps.length dc):=zB (hL.grow hBZ).vb.2 rfl
 have d1z:((zK w o).alloc (.cells #[.pointer none,.pointer none] 158)).cell? ⟨w.heap.size,1,none⟩=some (vi o.a):=zB ((zP _ (by simp)).trans h0) rfl
 obtain ⟨n,hnn⟩:∃n,ps.length=n:=⟨_,rfl⟩
 have HLL:=zh (And.intro hL hlk)
 obtain ⟨ρ,L,hR,_⟩:=hL.real i p hp
 obtain ⟨σ,ML,hM,_⟩:=hL.ref i p hp
 rw [hm] at hM
 have hmk:=hI.mok
 obtain ⟨lv,hlv⟩:∃lv,zEw p.r=lv:=⟨_,rfl⟩
 have HLD:=zh (fun (W:World) (hb:Below w.heap.size w W)=>zWU (hR.of_fr (S:=fun _=>False) (Fr.of_below hb) (fun _ f=>f.elim)) hI.q (by have:=hI.n.reqs;omega))
 have HLM:=zh (fun (W:World) (hb:Below w.heap.size w W)=>zWQ (hM.grow hb) (by rw [zNn hI];have:=zNt hI.q;have:=hI.n.reqs;omega) (by omega))
 rw [zWV hI] at HLM
 rw [hlv] at HLM HLD
 have HLV:Hid (∃a b c d:Int,lv=#[vi a,vi b,vi c,vi d]):=⟨_,_,_,_,hlv.symm⟩
 rw [hnn] at v0 v0z HPK hn hil
 have hn0:((n:Int)==0)=false:=beq_eq_false_iff_ne.2 (by omega)
 have hn0':decide ((n:Int)=0)=false:=decide_eq_false (by omega)
 have hi0:(0:Int)≤(i:Int):=by omega
 have hi1:(i:Int) < (n:Int):=by omega
 have d0:(zK w o).cell? ⟨w.heap.size,0,none⟩=some (vi o.kind):=zB h0 rfl
 have d1:(zK w o).cell? ⟨w.heap.size,1,none⟩=some (vi o.a):=zB h0 rfl
 have HBO:Hid (Below w.heap.size w (zK w o)∧(zK w o).heap[w.heap.size]?=some (.cells (za o) 98)):=⟨hB,h0⟩
 have hk1:(o.kind==1)=false:=beq_eq_false_iff_ne.2 (by omega)
 have hk2:(o.kind==2)=false:=beq_eq_false_iff_ne.2 (by omega)
 have hk1':decide (o.kind=1)=false:=decide_eq_false (by omega)
 have hk2':decide (o.kind=2)=false:=decide_eq_false (by omega)
 have HKD:=zh hkd
 have HKB:=zh hk
 obtain ⟨kd,a,c,⟨c1,c2,c3,c4,c5⟩,s⟩:=o
 simp only [za,zK] at *
 clear hkd h0 hB hBZ hL hlk hp hpc hI hnn hi ha hm hk hR hM hmk hlv
 go_enter Tryz.func44,Tryz.ntmps44
 go_wp2_with fail
 apply zGR
 ·intro R hR
  go_region_law (first
   | (go_simp;go_at_call 84;refine (HPK.out _).mono ?_;rintro e w2 ⟨rfl,rfl⟩))
  all_goals exact hR.out
 obtain ⟨W2,hW2⟩:∃W2,((w.alloc (.cells #[vi kd,vi a,vi c,vi c1,vi c2,vi c3,vi c4,vi c5,vs (bs s)] 98)).alloc (.cells #[vp p.D,vp p.M] 158)).drew=W2:=⟨_,rfl⟩
 rw [show ((w.alloc (.cells #[vi kd,vi a,vi c,vi c1,vi c2,vi c3,vi c4,vi c5,vs (bs s)] 98)).alloc (.cells #[Value.pointer (some ⟨p.D,0,none⟩),Value.pointer (some ⟨p.M,0,none⟩)] 158)).drew=W2 from hW2]
 have HB2:Hid (Below w.heap.size w W2):=show Below _ _ _ by rw [←hW2];exact (HBO.out.1.alloc HBO.out.1.size _).drew
 have ho2:W2.heap[w.heap.size]?=some (.cells #[vi kd,vi a,vi c,vi c1,vi c2,vi c3,vi c4,vi c5,vs (bs s)] 98 (0,0)):=by rw [←hW2];exact (zP _ (by simp)).trans HBO.out.2
 have hp2:W2.heap[w.heap.size+1]?=some (.cells #[vp p.D,vp p.M] 158 (0,0)):=by
  rw [←hW2]
  have:=zL (w.alloc (.cells #[vi kd,vi a,vi c,vi c1,vi c2,vi c3,vi c4,vi c5,vs (bs s)] 98)) (o:=.cells #[vp p.D,vp p.M] 158)
  rw [World.size_alloc] at this
  exact this
 have HO2:=zh (And.intro ho2 hp2)
 have e0:=zB (off:=0) ho2 rfl
 have g0:=zB (off:=0) hp2 rfl
 have g1:=zB (off:=1) hp2 rfl
 clear hW2 ho2 hp2 d0 d1 d1z v0 v0z x0 x1 x0z x1z
 rcases HKD.out with rfl | hks
 ·obtain ⟨la,lb,lc,ld,rfl⟩:=HLV.out
  go_wp2_with fail
  apply zBn (S:=fun W=>Below W2.heap.size W2 W)
  ·intro R hR
   go_region_law (first
    | (go_simp;go_at_call 24;first
     | (refine (HLD.out _ (HB2.out.trans (HBL.out.mono HB2.out.size))).mono ?_;rintro e wB ⟨rfl,hb⟩;have HBM:=zh (HBL.out.trans (hb.mono HBL.out.size));clear hb)
     | (refine (HLD.out _ HB2.out.drew).mono ?_;rintro e wA ⟨rfl,hb⟩;have HBL:=zh (zAh hb);have g0b:=(hb.cell (zW g0)).trans g0;have g1b:=(hb.cell (zW g1)).trans g1;clear hb))
    | (go_simp;go_at_call 88;first
     | (refine (HLM.out _ (HB2.out.trans (HBL.out.mono HB2.out.size))).mono ?_;rintro e wB ⟨rfl,hb⟩;have HBM:=zh (HBL.out.trans (hb.mono HBL.out.size));clear hb)
     | (refine (HLM.out _ HB2.out.drew).mono ?_;rintro e wA ⟨rfl,hb⟩;have HBL:=zh (zAh hb);have g0b:=(hb.cell (zW g0)).trans g0;have g1b:=(hb.cell (zW g1)).trans g1;clear hb)))
   all_goals exact hR.out _ HBM.out
  intro w3 hb3
  go_wp2_with fail
  go_ret
  exact ⟨rfl,k,by omega,HH.out.grow (HB2.out.trans (hb3.mono HB2.out.size))⟩
 ·have j3:(kd==3)=false:=beq_eq_false_iff_ne.2 (by omega)
  have i3:decide (kd=3)=false:=decide_eq_false (by omega)
  have j4:(kd==4)=false:=beq_eq_false_iff_ne.2 (by omega)
  have i4:decide (kd=4)=false:=decide_eq_false (by omega)
  have j5:(kd==5)=false:=beq_eq_false_iff_ne.2 (by omega)
  have i5:decide (kd=5)=false:=decide_eq_false (by omega)
  have j6:(kd==6)=false:=beq_eq_false_iff_ne.2 (by omega)
  have i6:decide (kd=6)=false:=decide_eq_false (by omega)
  have j7:(kd==7)=false:=beq_eq_false_iff_ne.2 (by omega)
  have i7:decide (kd=7)=false:=decide_eq_false (by omega)
  obtain ⟨tg4,htg⟩:∃t,tg=t:=⟨_,rfl⟩
  have HL4:=zh (HLL.out.1.grow HB2.out)
  have HLK:=zh HLL.out.2
  have HSA:Hid (SlAt W2 59 2 (fun b=>tg b=(4,lss.length)) (.slice none 0 0) 0 (yG [])):=SlAt.nil
  have HSB:Hid (SlAt W2 59 2 (fun _=>False) (.slice none 0 0) 0 (yG [])):=SlAt.nil
  have HLO:Hid (([]:List (Int×zA)).length≤1000000000000):=Nat.zero_le _
  rw [htg] at HL4 HSA
  clear htg hks
  have HSAME:=zh (zGP [] HLO.out HSA.out HSB.out)
  go_wp2_with fail
  refine HSAME.out.mono ?_
  rintro e w5 ⟨rfl,hb5⟩
  have hL5:=HL4.out.grow hb5
  have hsa5:=HSA.out.of_blk (w':=w5) (own':=fun b=>tg4 b=(4,lss.length)) (fun b _ hl=>hb5.block b hl) (fun _ h _=>h)
  have HMINE:=zh (zGQ [] hL5.vb.2 hL5.ls hsa5 (by have:=HLO.out;exact this) (by rw [HLK.out];have:=HKB.out;omega) (by rw [hL5.vb.1];exact xB (by decide)) (by rw [hL5.vb.1];exact xB (by decide)) (fun b h1 h2=>xB (by decide) (h1.symm.trans h2))
   (fun b hb=>(hL5.dom b (by rw [hb];simp)).2) (fun b hb=>(hL5.dom b (by rw [hb];simp)).2))
  have HL5:=zh hL5
  clear hb5 hL5 hsa5
  go_wp2_with fail
  refine HMINE.out.mono ?_
  rintro e w6 ⟨rfl,hpost⟩
  obtain ⟨tg6,lsv6,v6,hL6⟩:=HL5.out.mine hpost
  have HL6:=zh hL6
  clear hpost hL6
  go_wp2_with fail
  go_ret
  have hlk2:(lss++[v6]).length=k+1:=by rw [List.length_append,List.length_singleton,HLK.out]
  exact ⟨rfl,k+1,Nat.le_refl _,tg6,_,lsv6,lss++[v6],HL6.out,hlk2⟩
theorem zWX {U:Nat} (h:yV G w0 V ps k w) (hok:∀p∈ps,xE Z U p) (hU:U≤30000000) (hk:k≤10000000) (hn:ps.length≤10000000) (o:OpD) (hkd:o.kind=7∨o.kind < 1∨7 < o.kind) (ha:-9223372036854775808≤o.a∧o.a≤9223372036854775807) :
 Calls Tryz.prog 44 #[vp V,.agg (za o)] w (zCV G w0 V Z U ps.length k o):=by
 by_cases he:ps=[]
 ·subst he
  refine (zEh h o (by omega) (by omega)).mono ?_
  rintro e w' ⟨rfl,h1⟩
  exact .same h1 hok (by omega)
 ·obtain ⟨p,hpp⟩:=zGj ps o.a he
  have hpo:=hok p (List.mem_of_getElem? hpp)
  refine (zWW h hk (by omega) o hkd ha hpp hpo.inv hpo.eq hU).mono ?_
  rintro e w' ⟨rfl,k',hk',h1⟩
  exact .same h1 hok hk'
end
end Go.Proofs.YtaejfobbogahmaaGreatDoor
