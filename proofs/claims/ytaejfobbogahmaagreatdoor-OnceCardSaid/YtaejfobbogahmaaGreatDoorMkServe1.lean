/-
  Serve1 Serve2 Serve3: texts of their own, joined.
-/
import Derived.Test.YtaejfobbogahmaaGreatDoorMkSubmit
set_option maxRecDepth 100000
set_option maxHeartbeats 16000000
set_option linter.all false
namespace Go.Proofs.YtaejfobbogahmaaGreatDoor
open Go Go.RowKit
theorem zLn (args:Array Value) (w:World):(callFunc 74 args).run Tryz.prog w=.ok (.enter 74 args) w:=by kernel_rfl
def zAd (r:Raw) (t:ByteArray):Bool:=decide (zQ r t < r.cfg.cap)
theorem zLo {w:World} {ρ:Nat→Role} {G D:Nat} {L:Lay} {r:Raw} (h:RRep w ρ G D L r) {B:Nat} (hB:w.cell? ⟨B,0,none⟩=some (vp D)) (t:ByteArray) :
 Calls Tryz.prog 74 #[vs t,vp B] w fun e w'=>∃k,e=.returned (.bool (zAd r t))∧w'=w.drewN k:=by
 have c9:=h.disp.c9
 have c2:=h.disp.c2
 have hl:∀n,(Instr.lookup 75 (.map (some L.mr)) (vs t) false).run Tryz.prog (w.drewN n)=.ok (vi (zQ r t)) (w.drewN n):=fun n=>zEM (h.drewN n) t
 clear h
 go_enter Tryz.func74,Tryz.ntmps74
 go_wp2_with fail
 go_quiet (fail)
 go_wp2_with fail
 go_ret
 exact ⟨_,rfl,rfl⟩
def xt {α:Type} (p:α→Bool):List α→Int
 | []=>-1
 | y::l=>if p y then 0 else if xt p l = -1 then -1 else xt p l+1
theorem zEO {α:Type} {p:α→Bool}:∀(l:List α) (k:Nat) (y:α),l[k]?=some y→p y=true→(∀(j:Nat) z,j < k→l[j]?=some z→p z=false)→xt p l=k∧l.find? p=some y
 | [],k,y,h,_,_=>by simp at h
 | x::l,0,y,h,hp,_=>by simp at h;subst h;simp [xt,hp]
 | x::l,k+1,y,h,hp,hn=>by
   have h0:p x=false:=hn 0 x (by omega) rfl
   obtain ⟨ih,ih2⟩:=zEO l k y (by simpa using h) hp (fun j z hj hz=>hn (j+1) z (by omega) (by simpa using hz))
   refine ⟨?_,by simp [h0,ih2]⟩
   simp only [xt,h0,ih]
   rw [if_neg (by simp),if_neg (by omega)]
   omega
theorem zEP {α:Type} {p:α→Bool}:∀(l:List α),(∀(j:Nat) y,l[j]?=some y→p y=false)→xt p l = -1∧l.find? p=none
 | [],_=>⟨rfl,rfl⟩
 | y::l,hn=>by
   have h0:p y=false:=hn 0 y rfl
   obtain ⟨ih,ih2⟩:=zEP l (fun j z hz=>hn (j+1) z (by simpa using hz))
   exact ⟨by simp [xt,h0,ih],by simp [h0,ih2]⟩
def zLp {α:Type} (p:α→Bool) (l:List α) (i:Int):Prop:=(i = -1∧l.find? p=none)∨∃(k:Nat) (y:α),i=k∧l[k]?=some y∧l.find? p=some y
theorem zLq {α:Type} (p:α→Bool) (l:List α):zLp p l (xt p l):=by
 by_cases h:∃(k:Nat) (y:α),l[k]?=some y∧p y=true∧∀(j:Nat) z,j < k→l[j]?=some z→p z=false
 ·obtain ⟨k,y,h1,h2,h3⟩:=h
  obtain ⟨e1,e2⟩:=zEO l k y h1 h2 h3
  exact .inr ⟨k,y,e1,h1,e2⟩
 ·have hno:∀(k:Nat) (y:α),l[k]?=some y→p y=false:=by
   intro k
   induction k using Nat.strongRecOn with
   | _ k ih =>
     intro y hy
     cases hp:p y with
     | false=>rfl
     | true=>exact absurd ⟨k,y,hy,hp,fun j z hj hz=>ih j hj z hz⟩ h
  exact .inl (zEP l hno)
theorem zLr {w:World} {ρ:Nat→Role} {G D:Nat} {L:Lay} {r:Raw} (h:RRep w ρ G D L r) {B:Nat} (hB:w.cell? ⟨B,0,none⟩=some (vp D)) {own:Nat→Prop} {v:Value} {l:List ByteArray} (hs:SlAt w 9 1 own v l.length (l.map encS)) :
 Calls Tryz.prog 73 #[v,.func (.func 74) #[] #[vp B]] w fun e w'=>∃n,e=.returned (vi (xt (zAd r) l))∧w'=w.drewN n:=by
 have hent:=zLn
 have HC:=zh (fun n y=>zLo (h.drewN n) (B:=B) (show (w.drewN n).cell? ⟨B,0,none⟩=_ from hB) y)
 obtain ⟨va,vc,hv1,hv2,hv3⟩:=hs.form'
 subst hv1
 have HS:=zh hs
 unfold maxLen at hv3
 clear hs hB h
 go_enter Tryz.func73,Tryz.ntmps73
 go_wp2_with fail
 go_loopw [5,8] (fun _ s8 wr=>∃k n:Nat,s8=.int .i64 k∧k≤l.length∧wr=w.drewN n∧Hid (∀(j:Nat) y,j < k→l[j]?=some y→zAd r y=false)) (fun _ s8 _=>l.length - (intOf s8).toNat)
 case atStart=>exact ⟨0,0,by go_num,Nat.zero_le _,rfl,fun j y hj=>by omega⟩
 case round =>
  obtain ⟨k,n,rfl,hk,rfl,Hn⟩:=hrel
  by_cases hkl:k < l.length
  ·have hlt:decide ((k:Int) < (l.length:Int))=true:=decide_eq_true (by omega)
   obtain ⟨y,hy⟩:∃y,l[k]?=some y:=⟨_,List.getElem?_eq_getElem hkl⟩
   obtain ⟨b,off,cap,hv,_,_,_,_,hc,_⟩:=HS.out.form (by omega)
   obtain ⟨rfl,rfl⟩:va=some ⟨b,off,none⟩∧vc=cap:=by injection hv with e1 e2 e3;exact ⟨e1,e3⟩
   have ck:w.cell? ⟨b,off+k,none⟩=some (vs y):=hc k _ (by simp [hy])
   have hk0:(0:Int)≤(k:Int):=by omega
   have hk1:(k:Int) < (l.length:Int):=by omega
   have Hy:=zh hy
   have HCy:=zh (HC.out n y)
   clear hc hv hy
   cases hp:zAd r y with
   | true =>
     rw [hp] at HCy
     have HP:Hid (xt (zAd r) l=k):=(zEO l k y Hy.out hp Hn.out).1
     clear hp
     go_wp2_with fail
     refine HCy.out.mono ?_
     rintro e w1 ⟨n1,rfl,rfl⟩
     go_wp2_with fail
     go_ret
     exact ⟨n+n1,by rw [HP.out];rfl,by simp [World.drewN]⟩
   | false =>
     rw [hp] at HCy
     have HN:Hid (∀(j:Nat) z,j < k+1→l[j]?=some z→zAd r z=false):=fun j z hj hz=>by
      by_cases e:j=k
      ·subst e;rw [Hy.out] at hz;cases hz;exact hp
      ·exact Hn.out j z (by omega) hz
     clear hp
     go_wp2_with fail
     refine HCy.out.mono ?_
     rintro e w1 ⟨n1,rfl,rfl⟩
     go_wp2_with fail
     go_roundw
     case rel=>exact ⟨k+1,n+n1,by go_num,by omega,by simp [World.drewN],HN.out⟩
     case measure=>simp [intOf];omega
  ·obtain rfl:k=l.length:=by omega
   have hlt:decide ((l.length:Int) < (l.length:Int))=false:=by simp
   have HP:Hid (xt (zAd r) l = -1):=(zEP l (fun j y hy=>Hn.out j y (List.getElem?_eq_some_iff.1 hy).1 hy)).1
   go_wp2_with fail
   go_ret
   exact ⟨n,by rw [HP.out];rfl,rfl⟩
theorem zLs (w:World):(Go.sizeOf 3).run Tryz.prog w=.ok 1 w:=by kernel_rfl
theorem zLt {b off n cap:Nat} (hn:0 < n) (hc:n≤cap) :
 ∃sa,(∀W,(Instr.slice 46 (.slice (some ⟨b,off,none⟩) n cap) (some (vi 1)) none none).run Tryz.prog W=.ok (.slice sa (n - 1) (cap - 1)) W) ∧
  ∀{W:World} {own:Nat→Prop} {x:Value} {xs:List Value},SlAt W 3 1 own (.slice (some ⟨b,off,none⟩) n cap) n (x::xs)→SlAt W 3 1 own (.slice sa (n - 1) (cap - 1)) (n - 1) xs:=by
 refine ⟨if cap=1 then some ⟨b,off,none⟩ else some ⟨b,off+1,none⟩,fun W=>?_,fun {W own x xs} h=>?_⟩
 ·have he:Tryz.prog.elem 46=3:=by kernel_rfl
  have hu:Tryz.prog.underlying 46=some (.slice (Tryz.prog.elem 46)):=by rw [he];exact Tryz.underlying46
  rw [run_slice_l W 46 (some ⟨b,off,none⟩) n cap hu .i64 1 (by omega) (by omega)]
  rw [he,zLs]
  simp only [Result.andThen,sliced]
  by_cases h1:cap=1
  ·subst h1
   have:n=1:=by omega
   subst this
   simp
  ·simp [h1,Addr.add]
 ·rcases h with ⟨h,_⟩ | ⟨b',off',cap',cs,h1,h2,h3,h4,h5,h6,h7,h8⟩
  ·cases h
  ·injection h1 with e1 e2 e3
   injection e1 with e1
   injection e1 with e4 e5
   subst e4;subst e5;subst e3
   simp at h7
   by_cases hc1:cap=1
   ·rw [if_pos hc1]
    refine .inr ⟨b,off,cap - 1,cs,rfl,h2,h3,by omega,by omega,by omega,by omega,fun j u hj=>?_⟩
    have:xs.length=0:=by omega
    rw [List.length_eq_zero_iff.1 this] at hj
    simp at hj
   ·rw [if_neg hc1]
    refine .inr ⟨b,off+1,cap - 1,cs,rfl,h2,h3,by omega,by omega,by omega,by omega,fun j u hj=>?_⟩
    have:=h8 (j+1) u (by simpa using hj)
    rwa [show off+(j+1)=off+1+j by omega] at this
def waitLen (w:World) (D:Nat):Nat:=match w.cell? ⟨D,11,none⟩ with | some (.slice _ n _)=>n | _=>0
theorem RRep.waitLen {w:World} {ρ:Nat→Role} {G D:Nat} {L:Lay} {r:Raw} (h:RRep w ρ G D L r):waitLen w D=r.waiting.length:=by
 obtain ⟨a,cap,e,_⟩:=SlAt.form' h.wai
 have:=h.disp.c11
 rw [e] at this
 unfold Go.Proofs.YtaejfobbogahmaaGreatDoor.waitLen
 rw [this]
def SvAt (w1:World) (ρ:Nat→Role) (G D:Nat) (L:Lay) (r:Raw) (wr:World):Prop:=
 ∃ρk Lk,RRep wr ρk G D Lk r∧Step ρ ρk w1 wr∧Lk.req=L.req∧Lk.cn=L.cn
theorem SvAt.drewN {w1 wr:World} {ρ:Nat→Role} {G D:Nat} {L:Lay} {r:Raw} (h:SvAt w1 ρ G D L r wr) (n:Nat):SvAt w1 ρ G D L r (wr.drewN n):=by
 obtain ⟨ρk,Lk,h1,h2,h3⟩:=h
 exact ⟨ρk,Lk,h1.drewN n,h2.drewN n,h3⟩
theorem SvAt.box {w1 wr:World} {ρ:Nat→Role} {G D:Nat} {L:Lay} {r:Raw} (h:SvAt w1 ρ G D L r wr) {B:Nat} {o:Obj} (hB:w1.heap[B]?=some o) (ho:¬Of ρ B):wr.heap[B]?=some o:=by
 obtain ⟨ρk,Lk,h1,h2,h3⟩:=h
 exact (h2.fr.block _ (zD _ hB) ho).trans hB
theorem SvAt.st {w1 wr w2:World} {ρ:Nat→Role} {G D:Nat} {L:Lay} {r r2:Raw} (h:SvAt w1 ρ G D L r wr) (hs:∀ρk Lk,RRep wr ρk G D Lk r→Step ρ ρk w1 wr→∃ka,St ka true true wr ρk G D Lk r2 w2):SvAt w1 ρ G D L r2 w2:=by
 obtain ⟨ρk,Lk,h1,h2,h3,h4⟩:=h
 obtain ⟨ka,ρ2,L2,g1,g2,g3,g4,g5⟩:=hs ρk Lk h1 h2
 exact ⟨ρ2,L2,g1,h2.trans g2,(g4 rfl).trans h3,(g5 rfl).trans h4⟩
theorem SvAt.head {w1 wr:World} {ρ:Nat→Role} {G D:Nat} {L:Lay} {r:Raw} (h:SvAt w1 ρ G D L r wr) {c:Int} {ws:List Int} (hw:r.waiting=c::ws) {k:Nat} {t:ByteArray} (hk:r.ring[k]?=some t) :
 ∃wb wo wc rb ro rc,wr.cell? ⟨D,11,none⟩=some (.slice (some ⟨wb,wo,none⟩) r.waiting.length wc)∧wr.cell? ⟨D,10,none⟩=some (.slice (some ⟨rb,ro,none⟩) r.ring.length rc)∧wr.cell? ⟨wb,wo,none⟩=some (vi c)∧wr.cell? ⟨rb,ro+k,none⟩=some (vs t) ∧
  wr.frozen? ⟨D,11,none⟩=false∧r.waiting.length≤wc∧wc≤maxLen∧r.ring.length≤rc∧rc≤maxLen ∧
  ∀sa,(∀{W:World} {own:Nat→Prop} {x:Value} {xs:List Value},SlAt W 3 1 own (.slice (some ⟨wb,wo,none⟩) r.waiting.length wc) r.waiting.length (x::xs)→SlAt W 3 1 own (.slice sa (r.waiting.length - 1) (wc - 1)) (r.waiting.length - 1) xs) →
   SvAt w1 ρ G D L {r with waiting:=ws} (wr.drew.setCell ⟨D,11,none⟩ (.slice sa (r.waiting.length - 1) (wc - 1))):=by
 obtain ⟨ρk,Lk,h1,h2,h3,h4⟩:=h
 have hkl:=(List.getElem?_eq_some_iff.1 hk).1
 have hw0:0 < r.waiting.length:=by rw [hw];simp
 obtain ⟨wb,wo,wc,e1,e2,e3,e4,e5,e6,e7⟩:=SlAt.form h1.wai hw0
 obtain ⟨rb,ro,rc,g1,g2,g3,g4,g5,g6,g7⟩:=SlAt.form h1.rng (by omega)
 have hwa:=h1.wai
 refine ⟨wb,wo,wc,rb,ro,rc,by rw [←e1];exact h1.disp.c11,by rw [←g1];exact h1.disp.c10,by have:=e6 0 (vi c) (by rw [hw];rfl);simpa using this,g6 k (vs t) (by simp [hk]),h1.disp.frozen 11,e4,e5,g4,g5,fun sa hsa=>?_⟩
 unfold zBr at hwa
 rw [e1] at hwa
 have hs:SlAt wr 3 1 (fun b=>ρk b=zd) (.slice sa (r.waiting.length - 1) (wc - 1)) (r.waiting.length - 1) (ws.map encI):=hsa (x:=vi c) (by rw [hw] at hwa ⊢;exact hwa)
 have hl:ws.length=r.waiting.length - 1:=by rw [hw];simp
 rw [←hl] at hs ⊢
 have hDr:=h1.disp.1
 obtain ⟨k1,k2⟩:=h1.put_wait (ρ':=ρk) (w':=wr.drew.setCell ⟨D,11,none⟩ (.slice sa ws.length (wc - 1))) (v:=.slice sa ws.length (wc - 1)) (l:=ws) Ext.refl (zO wr.drew h1.disp.2) (hs.of_blk (fun b hb _=>zG _ (fun e=>by have e:b=D:=e;have hb:ρk b=zd:=hb;rw [e,hDr] at hb;simp [zC,zd] at hb)) (fun _ h _=>h)) ((Fr.refl _ wr).drew.setCell _ _ (.inl (.inl rfl)))
 exact ⟨ρk,_,k1,h2.trans k2,h3,h4⟩
theorem zLu {P:Program} {w:World} {t e T:TypeId} {b:Nat} {x:Value} (hk:P.underlying t=some (.slice e)) (h:w.heap[b]?=some (.cells #[x] T (0,0))) (h1:x.oneCell'=true) :
 Src P 1 t (.slice (some ⟨b,0,none⟩) 1 1) 1 [x] w:=
 Src.ofSlice w hk ⟨b,0,none⟩ 1 1 [x] rfl (fun j u hj=>by
  cases j with
  | zero=>simp at hj;subst hj;exact zB h rfl
  | succ j=>simp at hj) (fun u hu=>by simp at hu;subst hu;exact h1)
section
variable {w1 wr:World} {ρ:Nat→Role} {G D:Nat} {L:Lay} {r:Raw}
theorem SvAt.queue1 (h:SvAt w1 ρ G D L r wr) {t:ByteArray} {id:Int} {rest:List Int} (hq:qOf r t=id::rest) :
 ∃mq qb qo qc,wr.cell? ⟨D,8,none⟩=some (.map (some mq))∧(Instr.lookup 74 (.map (some mq)) (vs t) false).run Tryz.prog wr=.ok (.slice (some ⟨qb,qo,none⟩) (qOf r t).length qc) wr∧wr.cell? ⟨qb,qo,none⟩=some (vi id)∧(qOf r t).length≤qc∧qc≤maxLen:=by
 obtain ⟨ρk,Lk,h1,h2,h3,h4⟩:=h
 obtain ⟨a,cap,e,g1,g2,g3⟩:=h1.qu_at t
 obtain ⟨qb,qo,qc,e1,e2,e3,e4,e5,e6,e7⟩:=SlAt.form g3 (by rw [hq];simp)
 injection e1 with i1 i2 i3
 have:=zBS h1.qus.2.1 t
 rw [e,i1] at this
 exact ⟨Lk.mq,qb,qo,cap,h1.disp.c8,this,by have:=e6 0 (vi id) (by rw [hq];rfl);simpa using this,g1,g2⟩
theorem SvAt.qlen (h:SvAt w1 ρ G D L r wr) (t:ByteArray) :
 ∃mq qa qc,wr.cell? ⟨D,8,none⟩=some (.map (some mq))∧(Instr.lookup 74 (.map (some mq)) (vs t) false).run Tryz.prog wr=.ok (.slice qa (qOf r t).length qc) wr:=by
 obtain ⟨ρk,Lk,h1,h2,h3,h4⟩:=h
 obtain ⟨a,cap,e,g1,g2,g3⟩:=h1.qu_at t
 have:=zBS h1.qus.2.1 t
 rw [e] at this
 exact ⟨Lk.mq,a,cap,h1.disp.c8,this⟩
theorem SvAt.req1 (h:SvAt w1 ρ G D L r wr) {id:Int} {q:Req} (hq:aget r.reqs id=some q) :
 ∃mo,wr.cell? ⟨D,6,none⟩=some (.map (some mo))∧(Instr.lookup 72 (.map (some mo)) (vi id) false).run Tryz.prog wr=.ok (vp (L.req id)) wr∧wr.heap[L.req id]?=some (.cells (zAI q) 116 (0,0)) ∧
  SvAt w1 ρ G D L (xE r id q) (wr.setCell ⟨L.req id,3,none⟩ (vi (q.attempts+1))):=by
 obtain ⟨ρk,Lk,h1,h2,h3,h4⟩:=h
 have hl:=yw h1.opn.2.1 id
 rw [zy,hq] at hl
 have hb:=h1.req_blk hq
 obtain ⟨k1,k2⟩:=h1.put_req (w':=wr.setCell ⟨Lk.req id,3,none⟩ (vi (q.attempts+1))) (y:={q with attempts:=q.attempts+1}) hq (zO wr hb) ((Fr.refl _ wr).setCell _ _ (.inl rfl))
 rw [←h3]
 exact ⟨Lk.mo,h1.disp.c6,hl,hb,ρk,Lk,k1,h2.trans k2,h3,h4⟩
theorem SvAt.run1 (h:SvAt w1 ρ G D L r wr) (t:ByteArray) :
 ∃mr,wr.cell? ⟨D,9,none⟩=some (.map (some mr))∧(Instr.lookup 75 (.map (some mr)) (vs t) false).run Tryz.prog wr=.ok (vi (zQ r t)) wr∧zN encS wr mr (amap (fun _ n=>vi n) r.runs) ∧
  ∀w2,zN encS w2 mr (aset (amap (fun _ n=>vi n) r.runs) t (vi (zQ r t+1)))→Fr (fun b=>b=mr) wr w2→SvAt w1 ρ G D L (xm r t) w2:=by
 obtain ⟨ρk,Lk,h1,h2,h3,h4⟩:=h
 refine ⟨Lk.mr,h1.disp.c9,zEM h1 t,h1.run.2.1,fun w2 hM hf=>?_⟩
 rw [zBI (fun _ (n:Int)=>vi n)] at hM
 obtain ⟨k1,k2⟩:=h1.put_runs hM (zw h1.run.2.2 _ _) hf
 exact ⟨ρk,Lk,k1,h2.trans k2,h3,h4⟩
theorem SvAt.cfg (h:SvAt w1 ρ G D L r wr):wr.cell? ⟨D,0,none⟩=some (vi r.cfg.lease)∧wr.cell? ⟨D,5,none⟩=some (vi r.now):=by
 obtain ⟨ρk,Lk,h1,h2,h3,h4⟩:=h
 exact ⟨h1.disp.c0,h1.disp.c5⟩
theorem SvAt.size (h:SvAt w1 ρ G D L r wr):D < wr.heap.size:=by
 obtain ⟨ρk,Lk,h1,h2,h3,h4⟩:=h
 exact h1.size.2
theorem SvAt.rot (h:SvAt w1 ρ G D L r wr) (t:ByteArray) {B:Nat} {ob:Obj} (hB:w1.heap[B]?=some ob) (hBo:¬Of ρ B) :
 ∃(own:Nat→Prop) (ra:Option Addr) (rc:Nat),wr.cell? ⟨D,10,none⟩=some (.slice ra r.ring.length rc)∧wr.frozen? ⟨D,10,none⟩=false∧SlAt wr 9 1 own (.slice ra r.ring.length rc) r.ring.length (r.ring.map encS)∧(∀b,own b→b < wr.heap.size)∧rc≤maxLen ∧
  ∀w2 v2,SlAt w2 9 1 own v2 (zE r.ring t).length ((zE r.ring t).map encS)→Fr own wr w2 →
   ∀w2',Fr (fun _=>False) w2 w2'→w2'.frozen? ⟨D,10,none⟩=false∧w2'.heap[B]?=some ob∧SlAt w2' 9 1 own v2 (zE r.ring t).length ((zE r.ring t).map encS) ∧
    ∀(g off cap n:Nat) (w3:World),(own g∨g=w2'.heap.size)→n=(zE r.ring t).length+1→SlAt w3 9 1 (fun b=>b=g) (.slice (some ⟨g,off,none⟩) n cap) n ((zE r.ring t).map encS++[vs t])→Fr (fun b=>b=g) w2' w3→g < w3.heap.size →
     w3.frozen? ⟨D,10,none⟩=false∧w3.heap[B]?=some ob∧(∃v3,w3.cell? ⟨D,10,none⟩=some v3)∧SvAt w1 ρ G D L {r with ring:=zE r.ring t++[t]} (w3.setCell ⟨D,10,none⟩ (.slice (some ⟨g,off,none⟩) n cap)):=by
 have hBr:=h.box hB hBo
 obtain ⟨ρk,Lk,h1,h2,h3,h4⟩:=h
 obtain ⟨ra,rc,e,e1,e2⟩:=SlAt.form' h1.rng
 have hDr:=h1.disp.1
 have hDno:¬ρk D=zT:=by rw [hDr];simp [zC,zT]
 have hBno:¬ρk B=zT:=fun e=>by
  rcases h2.own B (by unfold Of;rw [e];simp [zT]) with h5 | h5
  ·exact hBo h5
  ·have:=zD _ hB;omega
 have hr:=h1.rng
 unfold zBP at hr
 rw [e] at hr
 refine ⟨fun b=>ρk b=zT,ra,rc,by rw [←e];exact h1.disp.c10,h1.disp.frozen 10,hr,fun b (hb:ρk b=zT)=>(h1.dom b (by rw [hb];simp [zT])).2,e2,fun w2 v2 hs2 hf2 w2' hf'=>?_⟩
 have hf2':Fr (fun b=>ρk b=zT) wr w2':=hf2.trans hf' (fun x f=>f.elim)
 have hD2:w2'.heap[D]?=some (.cells (yR Lk r.cfg r.now r.seq) 81 (0,0)):=(hf2'.block D h1.size.2 hDno).trans h1.disp.2
 have hB2:w2'.heap[B]?=some ob:=(hf2'.block B (zD _ hBr) hBno).trans hBr
 refine ⟨zK hD2,hB2,hs2.of_blk (fun b _ hl=>hf'.block b hl (fun f=>f)) (fun _ h _=>h),fun g off cap n w3 hg hn hs3 hf3 hlt=>?_⟩
 have hgD:D≠g:=by
  rintro rfl
  rcases hg with h5 | h5
  ·exact hDno h5
  ·have:=zD _ hD2;omega
 have hgB:B≠g:=by
  rintro rfl
  rcases hg with h5 | h5
  ·exact hBno h5
  ·have:=zD _ hB2;omega
 have hD3:w3.heap[D]?=some (.cells (yR Lk r.cfg r.now r.seq) 81 (0,0)):=(hf3.block D (zD _ hD2) hgD).trans hD2
 have hg':ρk g=zT∨wr.heap.size≤g:=hg.imp (fun h=>h) (fun h=>by have:=hf2'.size;omega)
 have hl:(zE r.ring t++[t]).length=n:=by simp [hn]
 refine ⟨zK hD3,(hf3.block B (zD _ hB2) hgB).trans hB2,⟨_,zB hD3 rfl⟩,?_⟩
 subst hl
 obtain ⟨k1,k2⟩:=h1.put_ring (ρ':=zf ρk g zT) (w':=w3.setCell ⟨D,10,none⟩ (.slice (some ⟨g,off,none⟩) (zE r.ring t++[t]).length cap)) (v:=.slice (some ⟨g,off,none⟩) (zE r.ring t++[t]).length cap) (l:=zE r.ring t++[t]) (Ext.set hg' (by simpa using hlt)) (zO w3 hD3)
  ((by rw [List.map_append];exact hs3:SlAt w3 9 1 (fun b=>b=g) _ _ ((zE r.ring t++[t]).map encS)).of_blk (fun b hb _=>zG _ (by show b≠D;rw [hb];exact Ne.symm hgD)) (fun b hb _=>by rw [hb];exact ym _ _ _))
  ((((hf2'.mono (S':=fun b=>b=D∨zf ρk g zT b=zT) (fun x (hx:ρk x=zT)=>.inl (.inr (by
      show zf ρk g zT x=zT
      by_cases e:x=g
      ·rw [e];exact ym _ _ _
      ·rw [zo e];exact hx)))).trans hf3 (fun x (hx:x=g)=>.inl (.inr (by rw [hx];exact ym _ _ _)))).setCell _ _ (.inl (.inl rfl))))
 exact ⟨_,_,k1,h2.trans k2,h3,h4⟩
theorem SvAt.neD (h:SvAt w1 ρ G D L r wr) {B:Nat} {ob:Obj} (hB:w1.heap[B]?=some ob) (hBo:¬Of ρ B):B≠D:=by
 obtain ⟨ρk,Lk,h1,h2,h3,h4⟩:=h
 rintro rfl
 rcases h2.own B (by unfold Of;rw [h1.disp.1];simp [zC]) with h5 | h5
 ·exact hBo h5
 ·have:=zD _ hB;omega
theorem SvAt.begin (h:SvAt w1 ρ G D L r wr) (hsq:∀a∈r.atts,a.seq≤r.seq) (hs0:0≤r.seq) (hs1:r.seq≤1099511627776) (hsm:r.atts.length≤1099511627776) (id n c:Int) (k:Nat) :
 Calls Tryz.prog 77 #[tI D,vp wr.heap.size] ((wr.alloc (.cells (yV ⟨id,n,c,r.now,r.now+r.cfg.lease,0⟩ 0) 109)).drewN k) fun e w'=>e=.returned (.tuple #[])∧SvAt w1 ρ G D L (xn r id n c) w':=by
 obtain ⟨ρk,Lk,h1,h2,h3,h4⟩:=h
 have hr:=(h1.alloc (.cells (yV ⟨id,n,c,r.now,r.now+r.cfg.lease,0⟩ 0) 109)).drewN k
 refine (zJg hr (A:=wr.heap.size) (x:=0) (a:=⟨id,n,c,r.now,r.now+r.cfg.lease,0⟩) (zP wr) (h1.role_new (Nat.le_refl _)) (by have:=h1.size;omega) hsq hs0 hs1 hsm).mono ?_
 rintro e w' ⟨rfl,ρ',L',g1,g2,g3,g4,g5⟩
 have hsz:((wr.alloc (.cells (yV ⟨id,n,c,r.now,r.now+r.cfg.lease,0⟩ 0) 109)).drewN k).heap.size=wr.heap.size+1:=by show (wr.alloc _).heap.size=_;simp
 refine ⟨rfl,ρ',L',g1,h2.trans ⟨(((Fr.refl _ wr).alloc _).drewN k).trans g2 (fun x hx=>?_),fun b hb=>?_⟩,g4.trans h3,g5.trans h4⟩
 ·rcases hx with e | e
  ·exact .inr (by omega)
  ·exact .inl e
 ·rcases g3 b hb with e | e | e
  ·exact .inl e
  ·exact .inr (by omega)
  ·exact .inr (by omega)
theorem SvAt.alloc (h:SvAt w1 ρ G D L r wr) (o:Obj):SvAt w1 ρ G D L r (wr.alloc o):=by
 obtain ⟨ρk,Lk,h1,h2,h3⟩:=h
 exact ⟨ρk,Lk,h1.alloc o,h2.alloc o,h3⟩
theorem SvAt.env (h:SvAt w1 ρ G D L r wr) (hE:Env G w1) (hd:∀b,Of ρ b→G≤b):Env G wr:=by
 obtain ⟨ρk,Lk,h1,h2,h3⟩:=h
 exact hE.fr h2.fr hd
theorem SvAt.say (h:SvAt w1 ρ G D L r wr) (hE:Env G w1) (hd:∀b,Of ρ b→G≤b) (c:Int) (wds:List Wd) (hok:∀x∈wds,x.ok) (hn:wds.length≤16) (hout:r.out.length≤1099511627776)
 {B cap:Nat} (hB:B < wr.heap.size) (hcells:∀(j:Nat) x,wds[j]?=some x→wr.cell? ⟨B,j,none⟩=some x.val) :
 Calls Tryz.prog 40 #[vp D,vi c,.slice (some ⟨B,0,none⟩) wds.length cap] wr fun e w'=>e=.returned (.tuple #[])∧SvAt w1 ρ G D L (rSay r c (wds.map Wd.bytes)) w':=by
 have hEr:=h.env hE hd
 obtain ⟨ρk,Lk,h1,h2,h3,h4⟩:=h
 refine (zAc h1 hEr c wds hok hn hout hB hcells).mono ?_
 rintro e w' ⟨rfl,ρ2,L2,g1,g2,g3,g4,g5⟩
 exact ⟨rfl,ρ2,L2,g1,h2.trans g2,(g4 rfl).trans h3,(g5 rfl).trans h4⟩
theorem SvAt.unqueue (h:SvAt w1 ρ G D L r wr) (id:Int) {q:Req} (hq:aget r.reqs id=some q) (hrl:r.ring.length≤1000000000000) (hql:(qOf r q.tenant).length≤1000000000000) :
 Calls Tryz.prog 75 #[vp D,vi id] wr fun e w'=>e=.returned (.tuple #[])∧SvAt w1 ρ G D L (zI r id) w':=by
 obtain ⟨ρk,Lk,h1,h2,h3,h4⟩:=h
 refine (zGO h1 id hq hrl hql).mono ?_
 rintro e w' ⟨rfl,ρ2,L2,g1,g2,g3,g4,g5⟩
 exact ⟨rfl,ρ2,L2,g1,h2.trans g2,(g4 rfl).trans h3,(g5 rfl).trans h4⟩
theorem SvAt.index (h:SvAt w1 ρ G D L r wr) {B:Nat} (hB:wr.cell? ⟨B,0,none⟩=some (vp D)) {v:Value} (hv:wr.cell? ⟨D,10,none⟩=some v) :
 Calls Tryz.prog 73 #[v,.func (.func 74) #[] #[vp B]] wr fun e w'=>∃n,e=.returned (vi (xt (zAd r) r.ring))∧w'=wr.drewN n:=by
 obtain ⟨ρk,Lk,h1,h2,h3,h4⟩:=h
 have:Lk.ring=v:=by have:=h1.disp.c10;rw [hv] at this;exact (Option.some.inj this).symm
 have hr:=h1.rng
 unfold zBP at hr
 rw [this] at hr
 exact zLr h1 hB hr
theorem SvAt.waitLen (h:SvAt w1 ρ G D L r wr):waitLen wr D=r.waiting.length:=by
 obtain ⟨ρk,Lk,h1,h2,h3,h4⟩:=h
 exact h1.waitLen
theorem SvAt.waits (h:SvAt w1 ρ G D L r wr):(∃wa wc,wr.cell? ⟨D,11,none⟩=some (.slice wa r.waiting.length wc)∧wc≤maxLen)∧∃ra rc,wr.cell? ⟨D,10,none⟩=some (.slice ra r.ring.length rc):=by
 obtain ⟨ρk,Lk,h1,h2,h3,h4⟩:=h
 obtain ⟨wa,wc,e,_,e2⟩:=SlAt.form' h1.wai
 obtain ⟨ra,rc,g,_,_⟩:=SlAt.form' h1.rng
 exact ⟨⟨wa,wc,by rw [←e];exact h1.disp.c11,e2⟩,ra,rc,by rw [←g];exact h1.disp.c10⟩
end
end Go.Proofs.YtaejfobbogahmaaGreatDoor
