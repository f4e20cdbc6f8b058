/-
  Rep Arms Conn Heap Heap2: texts of their own, joined.
-/
import Derived.Test.YtaejfobbogahmaaGreatDoorMkPure
import Derived.StillTailTactics
import Derived.Deep.QuietTactic
import Derived.BigQuiet
import Derived.Deep.DeepCutAuto
set_option maxRecDepth 100000
set_option maxHeartbeats 16000000
set_option linter.all false
namespace Go.Proofs.YtaejfobbogahmaaGreatDoor
open Go Go.RowKit
structure Role where
 tag:Nat
 num:Int
 nm:ByteArray
def xT:ByteArray:=⟨#[]⟩
def Role.none:Role:=⟨0,0,xT⟩
def zC:Role:=⟨1,0,xT⟩
def rMo:Role:=⟨2,0,xT⟩
def rMc:Role:=⟨3,0,xT⟩
def rMq:Role:=⟨4,0,xT⟩
def rMr:Role:=⟨5,0,xT⟩
def rReq (id:Int):Role:=⟨6,id,xT⟩
def rCn (c:Int):Role:=⟨7,c,xT⟩
def zn (s:Int):Role:=⟨8,s,xT⟩
def zT:Role:=⟨9,0,xT⟩
def zd:Role:=⟨10,0,xT⟩
def ze:Role:=⟨11,0,xT⟩
def rOut:Role:=⟨12,0,xT⟩
def rQu (t:ByteArray):Role:=⟨13,0,t⟩
def zq (c:Int):Role:=⟨14,c,xT⟩
structure Lay where
 mo:Nat
 mc:Nat
 mq:Nat
 mr:Nat
 req:Int→Nat
 cn:Int→Nat
 att:Int→Nat
 ring:Value
 waiting:Value
 heap:Value
 out:Value
 qu:ByteArray→Value
 rest:Int→Value
abbrev vi (n:Int):Value:=.int .i64 n
abbrev vs (s:ByteArray):Value:=.string s
abbrev vp (b:Nat):Value:=.pointer (some ⟨b,0,none⟩)
abbrev encI:Int→Value:=fun n=>.int .i64 n
abbrev encS:ByteArray→Value:=fun s=>.string s
def yR (L:Lay) (c:Cfg) (now seq:Int):Array Value:=
 #[vi c.lease,vi c.retries,vi c.cap,vi c.bound,vi c.hedge,vi now,.map (some L.mo),.map (some L.mc),.map (some L.mq),.map (some L.mr),L.ring,L.waiting,L.heap,vi seq,L.out]
def zAI (q:Req):Array Value:=#[vi q.conn,vs q.tenant,vs q.text,vi q.attempts,vi q.left,.bool q.hedged,.bool q.queued]
def zDk (v:Value) (x:Cn):Array Value:=#[v,.bool x.drains,.bool x.gone]
def yV (a:Att) (i:Nat):Array Value:=#[vi a.id,vi a.att,vi a.conn,vi a.since,vi a.till,vi a.seq,vi (i:Int)]
def zr (b:UInt8):Value:=.int .u8 b.toNat
def yv (l:List (Int×zA)):List Value:=l.flatMap fun p=>[vi p.1,vs (bs p.2)]
section
variable (w:World) (ρ:Nat→Role)
def zb (D:Nat) (L:Lay) (c:Cfg) (now seq:Int):Prop:=ρ D=zC∧w.heap[D]?=some (.cells (yR L c now seq) 81 (0,0))
def zCZ (mo:Nat) (req:Int→Nat) (reqs:List (Int×Req)):Prop:=
 ρ mo=rMo∧zN encI w mo (amap (fun id _=>vp (req id)) reqs)∧(reqs.map Prod.fst).Nodup ∧
   ∀id q,(id,q)∈reqs→ρ (req id)=rReq id∧w.heap[req id]?=some (.cells (zAI q) 116 (0,0))
def CnC (mc:Nat) (cn:Int→Nat) (rest:Int→Value) (conns:List (Int×Cn)):Prop:=
 ρ mc=rMc∧zN encI w mc (amap (fun c _=>vp (cn c)) conns)∧(conns.map Prod.fst).Nodup ∧
   ∀c x,(c,x)∈conns→ρ (cn c)=rCn c∧w.heap[cn c]?=some (.cells (zDk (rest c) x) 87 (0,0)) ∧
    SlAt w 5 1 (fun b=>ρ b=zq c) (rest c) x.rest.length (x.rest.map zr)
def QuC (mq:Nat) (qu:ByteArray→Value) (queues:List (ByteArray×List Int)):Prop:=
 ρ mq=rMq∧zN encS w mq (amap (fun t _=>qu t) queues)∧(queues.map Prod.fst).Nodup ∧
   ∀t l,(t,l)∈queues→SlAt w 3 1 (fun b=>ρ b=rQu t) (qu t) l.length (l.map encI)
def RunC (mr:Nat) (runs:List (ByteArray×Int)):Prop:=ρ mr=rMr∧zN encS w mr (amap (fun _ n=>vi n) runs)∧(runs.map Prod.fst).Nodup
def zBP (v:Value) (ring:List ByteArray):Prop:=SlAt w 9 1 (fun b=>ρ b=zT) v ring.length (ring.map encS)
def zBr (v:Value) (l:List Int):Prop:=SlAt w 3 1 (fun b=>ρ b=zd) v l.length (l.map encI)
def zU (v:Value) (att:Int→Nat) (hp:List Att):Prop:=
 SlAt w 106 1 (fun b=>ρ b=ze) v hp.length (hp.map fun a=>vp (att a.seq))∧(hp.map (·.seq)).Nodup ∧
  ∀i a,hp[i]?=some a→ρ (att a.seq)=zn a.seq∧w.heap[att a.seq]?=some (.cells (yV a i) 109 (0,0))
def xo (hp:List Att):Prop:=∀i a b,0 < i→hp[i]?=some a→hp[(i - 1) / 2]?=some b→zg a b=false
def zCa (v:Value) (att:Int→Nat) (atts:List Att):Prop:=
 atts.Pairwise (fun a b=>a.seq < b.seq)∧∃hp,hp.Perm atts∧xo hp∧zU w ρ v att hp
def OutC (v:Value) (l:List (Int×zA)):Prop:=SlAt w 59 2 (fun b=>ρ b=rOut) v l.length (yv l)
structure RRep (G D:Nat) (L:Lay) (r:Raw):Prop where
 dom:∀b,(ρ b).tag≠0→G≤b∧b < w.heap.size
 disp:zb w ρ D L r.cfg r.now r.seq
 opn:zCZ w ρ L.mo L.req r.reqs
 cns:CnC w ρ L.mc L.cn L.rest r.conns
 qus:QuC w ρ L.mq L.qu r.queues
 run:RunC w ρ L.mr r.runs
 rng:zBP w ρ L.ring r.ring
 wai:zBr w ρ L.waiting r.waiting
 lea:zCa w ρ L.heap L.att r.atts
 out:OutC w ρ L.out r.out
end
def Keep (T:Role→Prop) (ρ ρ':Nat→Role) (w w':World):Prop:=∀b,b < w.heap.size→T (ρ b)→w'.heap[b]?=w.heap[b]?∧ρ' b=ρ b
section
variable {w w':World} {ρ ρ':Nat→Role}
theorem SlAt.keep {T:TypeId} {sz:Nat} {R:Role} {v:Value} {n:Nat} {xs:List Value} (h:SlAt w T sz (fun b=>ρ b=R) v n xs) (k:Keep (fun x=>x=R) ρ ρ' w w'):SlAt w' T sz (fun b=>ρ' b=R) v n xs:=
 h.of_blk (fun b hb hl=>(k b hl hb).1) (fun b hb hl=>(k b hl hb).2.trans hb)
theorem zb.keep {D:Nat} {L:Lay} {c:Cfg} {now seq:Int} (h:zb w ρ D L c now seq) (k:Keep (fun x=>x=zC) ρ ρ' w w'):zb w' ρ' D L c now seq:=by
 obtain ⟨h1,h2⟩:=h
 obtain ⟨k1,k2⟩:=k D (zD w h2) h1
 exact ⟨k2.trans h1,k1.trans h2⟩
theorem zCZ.keep {mo:Nat} {req:Int→Nat} {reqs:List (Int×Req)} (h:zCZ w ρ mo req reqs) (k:Keep (fun x=>x.tag=2∨x.tag=6) ρ ρ' w w'):zCZ w' ρ' mo req reqs:=by
 obtain ⟨h1,h2,h3,h4⟩:=h
 obtain ⟨k1,k2⟩:=k mo h2.lt (by rw [h1];exact .inl rfl)
 refine ⟨k2.trans h1,h2.of_blk k1,h3,fun id q hq=>?_⟩
 obtain ⟨h5,h6⟩:=h4 id q hq
 obtain ⟨k1,k2⟩:=k _ (zD w h6) (by rw [h5];exact .inr rfl)
 exact ⟨k2.trans h5,k1.trans h6⟩
theorem CnC.keep {mc:Nat} {cn:Int→Nat} {rest:Int→Value} {conns:List (Int×Cn)} (h:CnC w ρ mc cn rest conns) (k:Keep (fun x=>x.tag=3∨x.tag=7∨x.tag=14) ρ ρ' w w'):CnC w' ρ' mc cn rest conns:=by
 obtain ⟨h1,h2,h3,h4⟩:=h
 obtain ⟨k1,k2⟩:=k mc h2.lt (by rw [h1];exact .inl rfl)
 refine ⟨k2.trans h1,h2.of_blk k1,h3,fun c x hx=>?_⟩
 obtain ⟨h5,h6,h7⟩:=h4 c x hx
 obtain ⟨k1,k2⟩:=k _ (zD w h6) (by rw [h5];exact .inr (.inl rfl))
 exact ⟨k2.trans h5,k1.trans h6,h7.keep fun b hb hr=>k b hb (by rw [hr];exact .inr (.inr rfl))⟩
theorem QuC.keep {mq:Nat} {qu:ByteArray→Value} {queues:List (ByteArray×List Int)} (h:QuC w ρ mq qu queues) (k:Keep (fun x=>x.tag=4∨x.tag=13) ρ ρ' w w'):QuC w' ρ' mq qu queues:=by
 obtain ⟨h1,h2,h3,h4⟩:=h
 obtain ⟨k1,k2⟩:=k mq h2.lt (by rw [h1];exact .inl rfl)
 exact ⟨k2.trans h1,h2.of_blk k1,h3,fun t l hl=>(h4 t l hl).keep fun b hb hr=>k b hb (by rw [hr];exact .inr rfl)⟩
theorem RunC.keep {mr:Nat} {runs:List (ByteArray×Int)} (h:RunC w ρ mr runs) (k:Keep (fun x=>x.tag=5) ρ ρ' w w'):RunC w' ρ' mr runs:=by
 obtain ⟨h1,h2,h3⟩:=h
 obtain ⟨k1,k2⟩:=k mr h2.lt (by rw [h1];rfl)
 exact ⟨k2.trans h1,h2.of_blk k1,h3⟩
theorem zBP.keep {v:Value} {ring:List ByteArray} (h:zBP w ρ v ring) (k:Keep (fun x=>x.tag=9) ρ ρ' w w'):zBP w' ρ' v ring:=
 SlAt.keep h fun b hb hr=>k b hb (by rw [hr];rfl)
theorem zBr.keep {v:Value} {l:List Int} (h:zBr w ρ v l) (k:Keep (fun x=>x.tag=10) ρ ρ' w w'):zBr w' ρ' v l:=
 SlAt.keep h fun b hb hr=>k b hb (by rw [hr];rfl)
theorem zU.keep {v:Value} {att:Int→Nat} {hp:List Att} (h:zU w ρ v att hp) (k:Keep (fun x=>x.tag=8∨x.tag=11) ρ ρ' w w'):zU w' ρ' v att hp:=by
 obtain ⟨h1,h2,h3⟩:=h
 refine ⟨h1.keep fun b hb hr=>k b hb (by rw [hr];exact .inr rfl),h2,fun i a ha=>?_⟩
 obtain ⟨h5,h6⟩:=h3 i a ha
 obtain ⟨k1,k2⟩:=k _ (zD w h6) (by rw [h5];exact .inl rfl)
 exact ⟨k2.trans h5,k1.trans h6⟩
theorem zCa.keep {v:Value} {att:Int→Nat} {atts:List Att} (h:zCa w ρ v att atts) (k:Keep (fun x=>x.tag=8∨x.tag=11) ρ ρ' w w'):zCa w' ρ' v att atts:=by
 obtain ⟨h1,hp,h2,h3,h4⟩:=h
 exact ⟨h1,hp,h2,h3,h4.keep k⟩
theorem OutC.keep {v:Value} {l:List (Int×zA)} (h:OutC w ρ v l) (k:Keep (fun x=>x.tag=12) ρ ρ' w w'):OutC w' ρ' v l:=
 SlAt.keep h fun b hb hr=>k b hb (by rw [hr];rfl)
theorem Keep.mono {T T':Role→Prop} (k:Keep T ρ ρ' w w') (h:∀x,T' x→T x):Keep T' ρ ρ' w w':=fun b hb ht=>k b hb (h _ ht)
theorem Keep.of_fr {S:Nat→Prop} {T:Role→Prop} (h:Fr S w w') (hS:∀b,b < w.heap.size→S b→¬T (ρ b)):Keep T ρ ρ w w':=fun b hb ht=>⟨h.block b hb (fun hs=>hS b hb hs ht),rfl⟩
end
def zf (ρ:Nat→Role) (g:Nat) (R:Role):Nat→Role:=fun b=>if b=g then R else ρ b
theorem ym (ρ:Nat→Role) (g:Nat) (R:Role):zf ρ g R g=R:=by simp [zf]
theorem zo {ρ:Nat→Role} {g b:Nat} {R:Role} (h:b≠g):zf ρ g R b=ρ b:=by simp [zf,h]
def Of (ρ:Nat→Role):Nat→Prop:=fun b=>(ρ b).tag≠0
structure Step (ρ ρ':Nat→Role) (w w':World):Prop where
 fr:Fr (Of ρ) w w'
 own:∀b,Of ρ' b→Of ρ b∨w.heap.size≤b
theorem Step.refl (ρ:Nat→Role) (w:World):Step ρ ρ w w:=⟨Fr.refl _ _,fun _ h=>.inl h⟩
theorem Step.trans {ρ ρ' ρ'':Nat→Role} {a b c:World} (h:Step ρ ρ' a b) (k:Step ρ' ρ'' b c):Step ρ ρ'' a c:=
 ⟨h.fr.trans k.fr (fun x hx=>by rcases h.own x hx with h1 | h1;exact .inl h1;exact .inr h1),fun x hx=>by
  rcases k.own x hx with h1 | h1
  ·exact h.own x h1
  ·exact .inr (Nat.le_trans h.fr.size h1)⟩
theorem Step.drew {ρ ρ':Nat→Role} {a b:World} (h:Step ρ ρ' a b):Step ρ ρ' a b.drew:=⟨h.fr.drew,h.own⟩
theorem Step.ofDrew {ρ ρ':Nat→Role} {a b:World} (h:Step ρ ρ' a.drew b):Step ρ ρ' a b:=⟨h.fr.ofDrew,h.own⟩
theorem RRep.of_fr {w w':World} {ρ:Nat→Role} {G D:Nat} {L:Lay} {r:Raw} (h:RRep w ρ G D L r) {S:Nat→Prop} (hf:Fr S w w') (hS:∀b,S b→¬Of ρ b):RRep w' ρ G D L r:=by
 have k:∀T:Role→Prop,(∀x,T x→x.tag≠0)→Keep T ρ ρ w w':=fun T hT=>Keep.of_fr hf (fun b _ hs ht=>hS b hs (hT _ ht))
 exact ⟨fun b hb=>⟨(h.dom b hb).1,Nat.lt_of_lt_of_le (h.dom b hb).2 hf.size⟩,h.disp.keep (k _ (fun x hx=>by subst hx;simp [zC])),h.opn.keep (k _ (fun x hx=>by omega)),h.cns.keep (k _ (fun x hx=>by omega)),
  h.qus.keep (k _ (fun x hx=>by omega)),h.run.keep (k _ (fun x hx=>by omega)),h.rng.keep (k _ (fun x hx=>by omega)),h.wai.keep (k _ (fun x hx=>by omega)),h.lea.keep (k _ (fun x hx=>by omega)),h.out.keep (k _ (fun x hx=>by omega))⟩
theorem RRep.drew {w:World} {ρ:Nat→Role} {G D:Nat} {L:Lay} {r:Raw} (h:RRep w ρ G D L r):RRep w.drew ρ G D L r:=
 h.of_fr (S:=fun _=>False) ((Fr.refl _ w).drew) (fun _ h=>h.elim)
theorem RRep.alloc {w:World} {ρ:Nat→Role} {G D:Nat} {L:Lay} {r:Raw} (h:RRep w ρ G D L r) (o:Obj):RRep (w.alloc o) ρ G D L r:=
 h.of_fr (S:=fun _=>False) ((Fr.refl _ w).alloc o) (fun _ h=>h.elim)
def St (ka kr kc:Bool) (w:World) (ρ:Nat→Role) (G D:Nat) (L:Lay) (r':Raw) (w':World):Prop:=
 ∃ρ' L',RRep w' ρ' G D L' r'∧Step ρ ρ' w w'∧(ka=true→L'.att=L.att)∧(kr=true→L'.req=L.req)∧(kc=true→L'.cn=L.cn)
theorem zIm {ρ:Nat→Role} {g:Nat} {R:Role} (h:ρ g=R):zf ρ g R=ρ:=by
 funext b
 unfold zf
 split
 ·rename_i e;rw [e,h]
 ·rfl
theorem Step.set {ρ:Nat→Role} {w w':World} {g:Nat} {R:Role} (hf:Fr (Of ρ) w w') (hg:Of ρ g∨w.heap.size≤g):Step ρ (zf ρ g R) w w':=
 ⟨hf,fun b hb=>by
  by_cases e:b=g
  ·subst e;exact hg
  ·left;unfold Of at hb ⊢;rwa [zo e] at hb⟩
theorem Keep.set {ρ:Nat→Role} {w w':World} {g:Nat} {R:Role} {S:Nat→Prop} {T:Role→Prop} (hf:Fr S w w') (hS:∀b,b < w.heap.size→S b→¬T (ρ b)) (hg:ρ g=R∨w.heap.size≤g) (hT:¬T R):Keep T ρ (zf ρ g R) w w':=fun b hb ht=>by
 refine ⟨hf.block b hb (fun hs=>hS b hb hs ht),zo ?_⟩
 rintro rfl
 rcases hg with h | h
 ·exact hT (h ▸ ht)
 ·omega
theorem RRep.role_new {w:World} {ρ:Nat→Role} {G D:Nat} {L:Lay} {r:Raw} (h:RRep w ρ G D L r) {b:Nat} (hb:w.heap.size≤b):(ρ b).tag=0:=by
 by_cases e:(ρ b).tag=0
 ·exact e
 ·have:=(h.dom b e).2;omega
theorem RRep.dom_set {w w':World} {ρ:Nat→Role} {G D:Nat} {L:Lay} {r:Raw} (h:RRep w ρ G D L r) {g:Nat} {R:Role} (hs:w.heap.size≤w'.heap.size) (hg:(ρ g).tag≠0∨w.heap.size≤g) (hlt:g < w'.heap.size) (hG:G≤w.heap.size) :
 ∀b,(zf ρ g R b).tag≠0→G≤b∧b < w'.heap.size:=by
 intro b hb
 by_cases e:b=g
 ·subst e
  rcases hg with h1 | h1
  ·exact ⟨(h.dom b h1).1,hlt⟩
  ·exact ⟨by omega,hlt⟩
 ·rw [zo e] at hb
  exact ⟨(h.dom b hb).1,Nat.lt_of_lt_of_le (h.dom b hb).2 hs⟩
theorem RRep.size {w:World} {ρ:Nat→Role} {G D:Nat} {L:Lay} {r:Raw} (h:RRep w ρ G D L r):G≤D∧D < w.heap.size:=by
 have:=h.disp.1
 have h2:(ρ D).tag≠0:=by rw [this];simp [zC]
 exact h.dom D h2
section
variable {P:Program} (w:World) {ops:Array Oper} {rest:List Oper} {o:Oper} {a:Act} {Q:Exit→Act→World→Prop}
theorem zFd {K:Act→World→Prop} (s x:Operand) (t tx:TypeId) (hop:o.op=Op.call {callee:=Callee.builtin Builtin.append,args:=#[s,x],argTypes:=#[t,tx]})
 {e:TypeId} {sz bytes:Nat} (E:yj P t e sz bytes) {own:Nat→Prop} {v:Value} {n:Nat} {xs:List Value} (hs:a.eval s=v) (h:SlAt w e sz own v n xs)
 {xv:Value} {m:Nat} {news:List Value} (hx:a.eval x=xv) (hsrc:Src P sz tx xv m news w) (hm:0 < m) (h63:n+m≤maxLen) (hbytes:(n+m)*bytes≤140737488355328)
 (hK:∀g off cap w',(own g∨g=w.heap.size)→SlAt w' e sz (fun b=>b=g) (.slice (some ⟨g,off,none⟩) (n+m) cap) (n+m) (xs++news)→Fr (fun b=>b=g) w w'→g < w'.heap.size→w'.heap.size≤w.heap.size+1 →
  (g < w.heap.size→w'.heap.size=w.heap.size)→K (a.put o.dst (.slice (some ⟨g,off,none⟩) (n+m) cap)) w'):o.wp P a w K Q:=by
 obtain ⟨g,off,cap,w',hr,h1,h2,h3,h4,h5,h6⟩:=zIB (P:=P) w E h (ty:=o.type) hsrc hm h63 hbytes
 unfold Oper.wp
 simp [execOp,hop,resolve,invoke,builtin,hs,hx,hr,Result.andThen]
 exact hK g off cap w' h1 h2 h3 h4 h5 h6
theorem xU (hg:o.guard=none) (s x:Operand) (t tx:TypeId) (hop:o.op=Op.call {callee:=Callee.builtin Builtin.append,args:=#[s,x],argTypes:=#[t,tx]})
 {e:TypeId} {sz bytes:Nat} (E:yj P t e sz bytes) {own:Nat→Prop} {v:Value} {n:Nat} {xs:List Value} (hs:a.eval s=v) (h:SlAt w e sz own v n xs)
 {xv:Value} {m:Nat} {news:List Value} (hx:a.eval x=xv) (hsrc:Src P sz tx xv m news w) (hm:0 < m) (h63:n+m≤maxLen) (hbytes:(n+m)*bytes≤140737488355328)
 (hK:∀g off cap w',(own g∨g=w.heap.size)→SlAt w' e sz (fun b=>b=g) (.slice (some ⟨g,off,none⟩) (n+m) cap) (n+m) (xs++news)→Fr (fun b=>b=g) w w'→g < w'.heap.size→w'.heap.size≤w.heap.size+1 →
  (g < w.heap.size→w'.heap.size=w.heap.size)→wpList P ops Q rest (a.put o.dst (.slice (some ⟨g,off,none⟩) (n+m) cap)) w'):wpList P ops Q (o::rest) a w:=
 wpList_plain hg fun _ hK'=>zFd w s x t tx hop E hs h hx hsrc hm h63 hbytes (fun g off cap w' h1 h2 h3 h4 h5 h6=>hK' _ _ (hK g off cap w' h1 h2 h3 h4 h5 h6))
theorem zBQ {K:Act→World→Prop} {EE:Prop} (hg:o.guard=none) (s x:Operand) (t tx:TypeId) (hop:o.op=Op.call {callee:=Callee.builtin Builtin.append,args:=#[s,x],argTypes:=#[t,tx]})
 {e:TypeId} {sz bytes:Nat} (E:yj P t e sz bytes) {own:Nat→Prop} {v:Value} {n:Nat} {xs:List Value} (hs:a.eval s=v) (h:SlAt w e sz own v n xs)
 {xv:Value} {m:Nat} {news:List Value} (hx:a.eval x=xv) (hsrc:Src P sz tx xv m news w) (hm:0 < m) (h63:n+m≤maxLen) (hbytes:(n+m)*bytes≤140737488355328)
 (hK:∀g off cap w',(own g∨g=w.heap.size)→SlAt w' e sz (fun b=>b=g) (.slice (some ⟨g,off,none⟩) (n+m) cap) (n+m) (xs++news)→Fr (fun b=>b=g) w w'→g < w'.heap.size→w'.heap.size≤w.heap.size+1 →
  (g < w.heap.size→w'.heap.size=w.heap.size)→K (a.put o.dst (.slice (some ⟨g,off,none⟩) (n+m) cap)) w') :
 if Region.wanted o (yielded ops a.tmps)=true then Oper.wp P o a w K Q else EE:=by
 have hw:Region.wanted o (yielded ops a.tmps)=true:=by simp [Region.wanted,hg]
 rw [if_pos hw]
 exact zFd w s x t tx hop E hs h hx hsrc hm h63 hbytes hK
theorem zIn {K:Act→World→Prop} {k:TypeId} {Ky:Type} [DecidableEq Ky] (E:xZ P k Ky) (m x v:Operand) (t:TypeId) (hop:o.op=Op.mapUpdate t m x v) {b:Nat} {l:List (Ky×Value)} {e:TypeId} (h:zN E.enc w b l)
 (ht:P.underlying t=some (.map k e)) (key:Ky) (val:Value) (hm:a.eval m=.map (some b)) (hx:a.eval x=E.enc key) (hv:a.eval v=val)
 (hK:∀w',zN E.enc w' b (aset l key val)→w'.heap.size=w.heap.size→Fr (fun i=>i=b) w w'→K (a.put o.dst undef) w'):o.wp P a w K Q:=by
 obtain ⟨w',hr,h1,h2,h3⟩:=zEv (P:=P) E h ht key val
 unfold Oper.wp
 simp [execOp,hop,hm,hx,hv,hr,Result.andThen]
 exact hK w' h1 h2 h3
theorem zAr {k:TypeId} {Ky:Type} [DecidableEq Ky] (hg:o.guard=none) (E:xZ P k Ky) (m x v:Operand) (t:TypeId) (hop:o.op=Op.mapUpdate t m x v) {b:Nat} {l:List (Ky×Value)} {e:TypeId} (h:zN E.enc w b l)
 (ht:P.underlying t=some (.map k e)) (key:Ky) (val:Value) (hm:a.eval m=.map (some b)) (hx:a.eval x=E.enc key) (hv:a.eval v=val)
 (hK:∀w',zN E.enc w' b (aset l key val)→w'.heap.size=w.heap.size→Fr (fun i=>i=b) w w'→wpList P ops Q rest (a.put o.dst undef) w'):wpList P ops Q (o::rest) a w:=
 wpList_plain hg fun _ hK'=>zIn w E m x v t hop h ht key val hm hx hv (fun w' h1 h2 h3=>hK' _ _ (hK w' h1 h2 h3))
theorem zIo {K:Act→World→Prop} {k:TypeId} {Ky:Type} [DecidableEq Ky] (E:xZ P k Ky) (m x:Operand) (t tk:TypeId) (hop:o.op=Op.call {callee:=Callee.builtin Builtin.delete,args:=#[m,x],argTypes:=#[t,tk]}) {b:Nat} {l:List (Ky×Value)} {e:TypeId} (h:zN E.enc w b l)
 (ht:P.underlying t=some (.map k e)) (key:Ky) (hm:a.eval m=.map (some b)) (hx:a.eval x=E.enc key)
 (hK:∀w',zN E.enc w' b (adel l key)→w'.heap.size=w.heap.size→Fr (fun i=>i=b) w w'→K (a.put o.dst (.tuple #[])) w'):o.wp P a w K Q:=by
 obtain ⟨w',hr,h1,h2,h3⟩:=zIA (P:=P) E h ht key o.type tk
 unfold Oper.wp
 simp [execOp,hop,resolve,invoke,builtin,hm,hx,hr,Result.andThen]
 exact hK w' h1 h2 h3
theorem zCb {k:TypeId} {Ky:Type} [DecidableEq Ky] (hg:o.guard=none) (E:xZ P k Ky) (m x:Operand) (t tk:TypeId) (hop:o.op=Op.call {callee:=Callee.builtin Builtin.delete,args:=#[m,x],argTypes:=#[t,tk]}) {b:Nat} {l:List (Ky×Value)} {e:TypeId} (h:zN E.enc w b l)
 (ht:P.underlying t=some (.map k e)) (key:Ky) (hm:a.eval m=.map (some b)) (hx:a.eval x=E.enc key)
 (hK:∀w',zN E.enc w' b (adel l key)→w'.heap.size=w.heap.size→Fr (fun i=>i=b) w w'→wpList P ops Q rest (a.put o.dst (.tuple #[])) w'):wpList P ops Q (o::rest) a w:=
 wpList_plain hg fun _ hK'=>zIo w E m x t tk hop h ht key hm hx (fun w' h1 h2 h3=>hK' _ _ (hK w' h1 h2 h3))
end
theorem xF {P:Program} {id:Nat} {Q:Exit→Act→World→Prop} {a:Act} {w:World} {l:List Oper} (n:Nat) (hm:P.follows .mixedOrders=true) (hB:Region.lexTailB .any l.toArray n=true)
 (h:wpStill P l.toArray w.drew (fun a'=>wpList P l.toArray Q (l.drop n) a' w.drew) (l.take n) a):(Code.region id l.toArray true).wp P Q a w:=
 wp_region_still_tail n hm hB h
theorem xG:Tryz.prog.follows .mixedOrders=true:=by kernel_rfl
noncomputable def KI:xZ Tryz.prog 3 Int:=zHy Tryz.underlying3
noncomputable def KS:xZ Tryz.prog 9 ByteArray:=zHz Tryz.underlying9
theorem yj.of_parts {P:Program} {t e:TypeId} {sz bytes:Nat} {z:Value} (ht:P.underlying t=some (.slice e)) (hp:(P.info? e).map (fun i=>(i.zero,i.size,i.bytes))=some (some z,sz,bytes)) (hz:z.cells.size=sz) (hs:0 < sz):yj P t e sz bytes:=by
 obtain ⟨i,h1,h2,h3,h4⟩:=info_parts hp
 exact ⟨⟨i,z,ht,h1,h2,h3,h4,hz⟩,hs⟩
theorem zIp:(Tryz.prog.info? 3).map (fun i=>(i.zero,i.size,i.bytes))=some (some (.int .i64 0),1,8):=by kernel_rfl
theorem zIq:(Tryz.prog.info? 9).map (fun i=>(i.zero,i.size,i.bytes))=some (some (.string ⟨#[]⟩),1,16):=by kernel_rfl
theorem zFe:(Tryz.prog.info? 5).map (fun i=>(i.zero,i.size,i.bytes))=some (some (.int .u8 0),1,1):=by kernel_rfl
theorem zIr:(Tryz.prog.info? 59).map (fun i=>(i.zero,i.size,i.bytes))=some (some (.agg #[.int .i64 0,.string ⟨#[]⟩]),2,24):=by kernel_rfl
theorem zFf:(Tryz.prog.info? 106).map (fun i=>(i.zero,i.size,i.bytes))=some (some (.pointer none),1,8):=by kernel_rfl
theorem zBR:yj Tryz.prog 46 3 1 8:=yj.of_parts Tryz.underlying46 zIp rfl (by decide)
theorem zAi:yj Tryz.prog 47 9 1 16:=yj.of_parts Tryz.underlying47 zIq rfl (by decide)
theorem zDl:yj Tryz.prog 50 5 1 1:=yj.of_parts Tryz.underlying50 zFe rfl (by decide)
theorem zIs:yj Tryz.prog 41 59 2 24:=yj.of_parts Tryz.underlying41 zIr rfl (by decide)
theorem zIt:yj Tryz.prog 77 106 1 8:=yj.of_parts Tryz.underlying77 zFf rfl (by decide)
theorem zIu:yj Tryz.prog 76 106 1 8:=yj.of_parts Tryz.underlying76 zFf rfl (by decide)
theorem zIv (w:World):(zeroValue 114).run Tryz.prog w=.ok (.pointer none) w:=by kernel_rfl
theorem zIw (w:World):(zeroValue 82).run Tryz.prog w=.ok (.pointer none) w:=by kernel_rfl
theorem zIx (w:World):(zeroValue 46).run Tryz.prog w=.ok (.slice none 0 0) w:=by kernel_rfl
theorem zFg (w:World):(zeroValue 3).run Tryz.prog w=.ok (vi 0) w:=by kernel_rfl
section
variable {w:World} {b:Nat}
theorem zCc {l:List (Int×Value)} (h:zN encI w b l) (x:Int) :
 (Instr.lookup 73 (.map (some b)) (.int .i64 x) false).run Tryz.prog w=.ok ((aget l x).getD (.pointer none)) w:=
 zCO KI h Tryz.underlying73 (zIw w) x
theorem yw {l:List (Int×Value)} (h:zN encI w b l) (x:Int) :
 (Instr.lookup 72 (.map (some b)) (.int .i64 x) false).run Tryz.prog w=.ok ((aget l x).getD (.pointer none)) w:=
 zCO KI h Tryz.underlying72 (zIv w) x
theorem zBS {l:List (ByteArray×Value)} (h:zN encS w b l) (x:ByteArray) :
 (Instr.lookup 74 (.map (some b)) (.string x) false).run Tryz.prog w=.ok ((aget l x).getD (.slice none 0 0)) w:=
 zCO KS h Tryz.underlying74 (zIx w) x
theorem zIy {l:List (ByteArray×Value)} (h:zN encS w b l) (x:ByteArray) :
 (Instr.lookup 75 (.map (some b)) (.string x) false).run Tryz.prog w=.ok ((aget l x).getD (vi 0)) w:=
 zCO KS h Tryz.underlying75 (zFg w) x
end
theorem zb.cell {w:World} {ρ:Nat→Role} {D:Nat} {L:Lay} {c:Cfg} {now seq:Int} (h:zb w ρ D L c now seq) (i:Nat) (v:Value) (hv:(yR L c now seq)[i]?=some v) :
 w.cell? ⟨D,i,none⟩=some v:=zB h.2 hv
theorem zb.c0 {w:World} {ρ:Nat→Role} {D:Nat} {L:Lay} {c:Cfg} {now seq:Int} (h:zb w ρ D L c now seq):w.cell? ⟨D,0,none⟩=some (vi c.lease):=h.cell 0 _ rfl
theorem zb.c1 {w:World} {ρ:Nat→Role} {D:Nat} {L:Lay} {c:Cfg} {now seq:Int} (h:zb w ρ D L c now seq):w.cell? ⟨D,1,none⟩=some (vi c.retries):=h.cell 1 _ rfl
theorem zb.c2 {w:World} {ρ:Nat→Role} {D:Nat} {L:Lay} {c:Cfg} {now seq:Int} (h:zb w ρ D L c now seq):w.cell? ⟨D,2,none⟩=some (vi c.cap):=h.cell 2 _ rfl
theorem zb.c3 {w:World} {ρ:Nat→Role} {D:Nat} {L:Lay} {c:Cfg} {now seq:Int} (h:zb w ρ D L c now seq):w.cell? ⟨D,3,none⟩=some (vi c.bound):=h.cell 3 _ rfl
theorem zb.c4 {w:World} {ρ:Nat→Role} {D:Nat} {L:Lay} {c:Cfg} {now seq:Int} (h:zb w ρ D L c now seq):w.cell? ⟨D,4,none⟩=some (vi c.hedge):=h.cell 4 _ rfl
theorem zb.c5 {w:World} {ρ:Nat→Role} {D:Nat} {L:Lay} {c:Cfg} {now seq:Int} (h:zb w ρ D L c now seq):w.cell? ⟨D,5,none⟩=some (vi now):=h.cell 5 _ rfl
theorem zb.c6 {w:World} {ρ:Nat→Role} {D:Nat} {L:Lay} {c:Cfg} {now seq:Int} (h:zb w ρ D L c now seq):w.cell? ⟨D,6,none⟩=some (.map (some L.mo)):=h.cell 6 _ rfl
theorem zb.c7 {w:World} {ρ:Nat→Role} {D:Nat} {L:Lay} {c:Cfg} {now seq:Int} (h:zb w ρ D L c now seq):w.cell? ⟨D,7,none⟩=some (.map (some L.mc)):=h.cell 7 _ rfl
theorem zb.c8 {w:World} {ρ:Nat→Role} {D:Nat} {L:Lay} {c:Cfg} {now seq:Int} (h:zb w ρ D L c now seq):w.cell? ⟨D,8,none⟩=some (.map (some L.mq)):=h.cell 8 _ rfl
theorem zb.c9 {w:World} {ρ:Nat→Role} {D:Nat} {L:Lay} {c:Cfg} {now seq:Int} (h:zb w ρ D L c now seq):w.cell? ⟨D,9,none⟩=some (.map (some L.mr)):=h.cell 9 _ rfl
theorem zb.c10 {w:World} {ρ:Nat→Role} {D:Nat} {L:Lay} {c:Cfg} {now seq:Int} (h:zb w ρ D L c now seq):w.cell? ⟨D,10,none⟩=some (L.ring):=h.cell 10 _ rfl
theorem zb.c11 {w:World} {ρ:Nat→Role} {D:Nat} {L:Lay} {c:Cfg} {now seq:Int} (h:zb w ρ D L c now seq):w.cell? ⟨D,11,none⟩=some (L.waiting):=h.cell 11 _ rfl
theorem zb.c12 {w:World} {ρ:Nat→Role} {D:Nat} {L:Lay} {c:Cfg} {now seq:Int} (h:zb w ρ D L c now seq):w.cell? ⟨D,12,none⟩=some (L.heap):=h.cell 12 _ rfl
theorem zb.c13 {w:World} {ρ:Nat→Role} {D:Nat} {L:Lay} {c:Cfg} {now seq:Int} (h:zb w ρ D L c now seq):w.cell? ⟨D,13,none⟩=some (vi seq):=h.cell 13 _ rfl
theorem zb.c14 {w:World} {ρ:Nat→Role} {D:Nat} {L:Lay} {c:Cfg} {now seq:Int} (h:zb w ρ D L c now seq):w.cell? ⟨D,14,none⟩=some (L.out):=h.cell 14 _ rfl
theorem zb.frozen {w:World} {ρ:Nat→Role} {D:Nat} {L:Lay} {c:Cfg} {now seq:Int} (h:zb w ρ D L c now seq) (i:Nat) :
 w.frozen? ⟨D,i,none⟩=false:=zK h.2
theorem zIz {w:World} {ρ:Nat→Role} {G D:Nat} {L:Lay} {r:Raw} (h:RRep w ρ G D L r) (c:Int) (hc:(aget r.conns c).isSome=true) :
 Calls Tryz.prog 34 #[vp D,vi c] w fun e w'=>e=.returned (vp (L.cn c))∧w=w':=by
 have h7:=h.disp.c7
 have hl:=zCc h.cns.2.1 c
 rw [zy] at hl
 obtain ⟨x,hx⟩:=Option.isSome_iff_exists.1 hc
 rw [hx] at hl
 simp only [Option.map_some,Option.getD_some] at hl
 clear hx hc h
 go_enter Tryz.func34,Tryz.ntmps34
 go_wp2
 go_ret
 exact ⟨rfl,rfl⟩
theorem zJA {K V:Type} [DecidableEq K] (f g:K→V→Value) (l:List (K×V)) (k:K) (v:V) (u:Value) (h1:∀a x,(a,x)∈l→f a x=g a x) (h2:g k v=u):aset (amap f l) k u=amap g (aset l k v):=by
 have:amap f l=amap g l:=zEt _ _ _ h1
 rw [this,←h2,zBI]
theorem zJB {w w2:World} {ρ:Nat→Role} {G D:Nat} {L:Lay} {r:Raw} (h:RRep w ρ G D L r) (c:Int) (hc:aget r.conns c=none)
 (hm:zN encI w2 L.mc (aset (amap (fun c _=>vp (L.cn c)) r.conns) c (vp w.heap.size)))
 (hf:Fr (fun i=>i=L.mc) (w.alloc (.cells #[.slice none 0 0,.bool false,.bool false] 87)) w2) :
 ∃ρ' L',RRep w2 ρ' G D L' (zH r c)∧Step ρ ρ' w w2∧L'.att=L.att∧L'.req=L.req∧L'.cn c=w.heap.size:=by
 have hf':Fr (fun i=>i=L.mc) w w2:=((Fr.refl _ w).alloc _).trans hf (fun x hx=>.inl hx)
 have hlt:=hf.size
 simp only [World.size_alloc] at hlt
 have hmc:=h.cns.1
 have k:∀T:Role→Prop,¬T rMc→¬T (rCn c)→Keep T ρ (zf ρ w.heap.size (rCn c)) w w2:=fun T h1 h2 =>
  Keep.set hf' (fun b _ hs ht=>by rw [hs,hmc] at ht;exact h1 ht) (.inr (Nat.le_refl _)) h2
 have hck:c∉r.conns.map Prod.fst:=fun hx=>by have:=zBG.2 hx;rw [hc] at this;cases this
 have hnew:w2.heap[w.heap.size]?=some (.cells #[.slice none 0 0,.bool false,.bool false] 87 (0,0)):=by
  rw [hf.block w.heap.size (by simp) (by have:=h.cns.2.1.lt;omega)]
  exact zP w
 have hmcs:L.mc≠w.heap.size:=by have:=h.cns.2.1.lt;omega
 refine ⟨zf ρ w.heap.size (rCn c),{L with cn:=fun x=>if x=c then w.heap.size else L.cn x,rest:=fun x=>if x=c then .slice none 0 0 else L.rest x},?_,Step.set (hf'.mono fun x hx=>.inl (by subst hx;unfold Of;rw [hmc];simp [rMc])) (.inr (Nat.le_refl _)),rfl,rfl,by simp⟩
 have hr:zH r c={r with conns:=aset r.conns c ⟨[],false,false⟩}:=by simp [zH,hc]
 rw [hr]
 refine ⟨h.dom_set hf'.size (.inr (Nat.le_refl _)) (by omega) (by have:=h.size;omega),h.disp.keep (k _ (by simp [zC,rMc]) (by simp [zC,rCn])),h.opn.keep (k _ (by simp [rMc]) (by simp [rCn])),?_,h.qus.keep (k _ (by simp [rMc]) (by simp [rCn])),
  h.run.keep (k _ (by simp [rMc]) (by simp [rCn])),h.rng.keep (k _ (by simp [rMc]) (by simp [rCn])),h.wai.keep (k _ (by simp [rMc]) (by simp [rCn])),h.lea.keep (k _ (by simp [rMc]) (by simp [rCn])),h.out.keep (k _ (by simp [rMc]) (by simp [rCn]))⟩
 obtain ⟨h1,h2,h3,h4⟩:=h.cns
 refine ⟨by rw [zo hmcs];exact h1,?_,zw h3 _ _,?_⟩
 ·rw [←zJA (fun c _=>vp (L.cn c)) (fun x _=>vp (if x=c then w.heap.size else L.cn x)) r.conns c ⟨[],false,false⟩ (vp w.heap.size) (fun a x ha=>by
   have:a≠c:=fun e=>hck (e ▸ List.mem_map.2 ⟨_,ha,rfl⟩)
   simp [this]) (by simp)]
  exact hm
 ·intro c' x hx
  by_cases e:c'=c
  ·subst e
   have hx':x=⟨[],false,false⟩:=by
    rcases zAR hx with h5 | h5
    ·exact absurd (List.mem_map.2 ⟨_,h5,rfl⟩) hck
    ·exact h5.2
   subst hx'
   simp only [if_true]
   exact ⟨ym _ _ _,hnew,SlAt.nil⟩
  ·simp only [e,if_false]
   have hx':(c',x)∈r.conns:=by
    rcases zAR hx with h5 | h5
    ·exact h5
    ·exact absurd h5.1 e
   obtain ⟨h5,h6,h7⟩:=h4 c' x hx'
   obtain ⟨k1,k2⟩:=k (fun x=>x=rCn c') (by simp [rMc,rCn]) (by simp [rCn,Ne.symm e]) _ (zD w h6) h5
   exact ⟨k2.trans h5,k1.trans h6,h7.keep (k _ (by simp [rMc,zq]) (by simp [rCn,zq]))⟩
theorem zJC {w:World} {ρ:Nat→Role} {G D:Nat} {L:Lay} {r:Raw} (h:RRep w ρ G D L r) (c:Int) (hc:aget r.conns c=none) :
 Calls Tryz.prog 34 #[vp D,vi c] w fun e w2=>e=.returned (vp w.heap.size)∧Hid (zN encI w2 L.mc (aset (amap (fun c _=>vp (L.cn c)) r.conns) c (vp w.heap.size))∧Fr (fun i=>i=L.mc) (w.alloc (.cells #[.slice none 0 0,.bool false,.bool false] 87)) w2):=by
 have h7:=h.disp.c7
 have hl:=zCc h.cns.2.1 c
 rw [zy,hc] at hl
 simp only [Option.map_none,Option.getD_none] at hl
 have hD:=h.size.2
 have hm:=zh h.cns.2.1
 clear hc h
 go_enter Tryz.func34,Tryz.ntmps34
 go_wp2_with (refine zAr _ rfl KI _ _ _ _ rfl ((hm.out).of_blk (w':=w.alloc _) (zM w hm.out.lt)) Tryz.underlying73 c (vp w.heap.size) rfl rfl rfl ?_;intro w2 hm2 hs2 hf2)
 go_ret
 exact ⟨rfl,hm2,hf2⟩
open Go
instance:Inhabited Att:=⟨⟨0,0,0,0,0,0⟩⟩
def hg (l:List Att) (k:Nat):Att:=l.getD k default
def zW (l:List Att) (i j:Nat):List Att:=(l.set i (hg l j)).set j (hg l i)
theorem yC (l:List Att) (i j:Nat):(zW l i j).length=l.length:=by simp [zW]
theorem yW (l:List Att) (i j k:Nat) (hi:i < l.length) (hj:j < l.length):hg (zW l i j) k=if k=j then hg l i else if k=i then hg l j else hg l k:=by
 unfold zW hg
 simp only [List.getD_eq_getElem?_getD,List.getElem?_set,List.length_set]
 by_cases h1:k=j
 ·subst h1;simp [hj]
 ·by_cases h2:k=i
  ·subst h2;simp [h1,Ne.symm h1,hi]
  ·simp [h1,h2,Ne.symm h1,Ne.symm h2]
theorem zAJ {l:List Att} {k:Nat} {a:Att} (h:l[k]?=some a):hg l k=a:=by simp [hg,h]
theorem zZ {l:List Att} {k:Nat} (h:k < l.length):l[k]?=some (hg l k):=by simp [hg,h]
theorem zBs (l:List Att) (i j:Nat) (hi:i < l.length) (hj:j < l.length):(zW l i j).Perm l:=by
 have h:=Array.swap_perm (xs:=l.toArray) (i:=i) (j:=j) (by simpa using hi) (by simpa using hj)
 have h2:=h.toList
 have:(l.toArray.swap i j (by simpa using hi) (by simpa using hj)).toList=zW l i j:=by
  simp only [Array.toList_swap,zW,hg,List.getD_eq_getElem?_getD]
  simp [hi,hj]
 rw [this] at h2
 simpa using h2
theorem zFh (a b:Att):zg a b=true↔a.till < b.till∨(a.till=b.till∧a.seq < b.seq):=by simp [zg]
theorem zCd (a b:Att):zg a b=false↔b.till < a.till∨(a.till=b.till∧b.seq≤a.seq):=by
 rw [←Bool.not_eq_true,zFh];omega
theorem zAj {a b c:Att} (h1:zg b a=false) (h2:zg c b=false):zg c a=false:=by
 rw [zCd] at *;omega
theorem zCe {a b:Att} (h:zg a b=true):zg b a=false:=by
 rw [zCd];rw [zFh] at h;omega
theorem zBt (a:Att):zg a a=false:=by rw [zCd];omega
def Ok (l:List Att) (k:Nat):Prop:=zg (hg l k) (hg l ((k - 1) / 2))=false
def zAV (l:List Att) (n:Nat):Prop:=∀k,0 < k→k < n→Ok l k
def zAk (l:List Att) (n i:Nat):Prop:=(∀k,0 < k→k < n→k≠i→(k - 1) / 2≠i→Ok l k)∧(∀k,0 < k→k < n→(k - 1) / 2=i→0 < i→zg (hg l k) (hg l ((i - 1) / 2))=false)
def UpOk (l:List Att) (i:Nat):Prop:=0 < i→Ok l i
def zDm (l:List Att) (n i:Nat):Prop:=∀k,0 < k→k < n→(k - 1) / 2=i→Ok l k
theorem zBu {l:List Att} {n i:Nat} (h:zAk l n i) (hu:UpOk l i) (hd:zDm l n i):zAV l n:=by
 intro k hk hkn
 by_cases h1:k=i
 ·subst h1;exact hu hk
 ·by_cases h2:(k - 1) / 2=i
  ·exact hd k hk hkn h2
  ·exact h.1 k hk hkn h1 h2
def upF:Nat→List Att→Nat→List Att
 | 0,l,_=>l
 | f+1,l,j =>
   let i:=(j - 1) / 2
   if i=j∨zg (hg l j) (hg l i)=false then l else upF f (zW l i j) i
theorem zCf (f:Nat):∀(l:List Att) (j:Nat),j < l.length→(upF f l j).Perm l:=by
 induction f with
 | zero=>exact fun l j _=>List.Perm.refl _
 | succ f ih =>
   intro l j hj
   unfold upF
   simp only
   split
   ·exact List.Perm.refl _
   ·exact (ih _ _ (by rw [yC];omega)).trans (zBs l _ _ (by omega) hj)
theorem zFi (f:Nat):∀(l:List Att) (n j:Nat),n≤l.length→j < n→j≤f→zAk l n j→zDm l n j→zAV (upF f l j) n:=by
 induction f with
 | zero =>
   intro l n j hn hj hf h hd
   have:j=0:=by omega
   subst this
   exact zBu h (fun h0=>absurd h0 (by omega)) hd
 | succ f ih =>
   intro l n j hn hj hf h hd
   unfold upF
   simp only
   split
   ·rename_i hc
    refine zBu h (fun h0=>?_) hd
    rcases hc with hc | hc
    ·omega
    ·exact hc
   ·rename_i hc
    simp only [not_or,Bool.not_eq_false] at hc
    obtain ⟨hij,hb⟩:=hc
    have hj0:0 < j:=by omega
    have hi:(j - 1) / 2 < l.length:=by omega
    have hjl:j < l.length:=by omega
    have hlb:=zCe hb
    refine ih _ n ((j - 1) / 2) (by rw [yC];exact hn) (by omega) (by omega) ⟨?_,?_⟩ ?_
    ·intro k hk hkn h1 h2
     unfold Ok
     rw [yW l _ j k hi hjl,yW l _ j _ hi hjl]
     have hkj:k≠j:=fun e=>h2 (by rw [e])
     rw [if_neg hkj,if_neg h1]
     by_cases h3:(k - 1) / 2=j
     ·rw [if_pos h3]
      exact h.2 k hk hkn h3 hj0
     ·rw [if_neg h3,if_neg h2]
      exact h.1 k hk hkn hkj h3
    ·intro k hk hkn h1 h2
     rw [yW l _ j k hi hjl,yW l _ j _ hi hjl]
     have e1:((j - 1) / 2 - 1) / 2≠j:=by omega
     have e2:((j - 1) / 2 - 1) / 2≠(j - 1) / 2:=by omega
     rw [if_neg e1,if_neg e2]
     have hup:Ok l ((j - 1) / 2):=h.1 _ h2 (by omega) (by omega) (by omega)
     by_cases h3:k=j
     ·rw [if_pos h3];exact hup
     ·have h4:k≠(j - 1) / 2:=by omega
      rw [if_neg h3,if_neg h4]
      have:=h.1 k hk hkn h3 (by rw [h1];omega)
      unfold Ok at this
      rw [h1] at this
      exact zAj hup this
    ·intro k hk hkn h1
     unfold Ok
     rw [yW l _ j k hi hjl,yW l _ j _ hi hjl]
     rw [h1]
     rw [if_neg (show (j - 1) / 2≠j by omega),if_pos rfl]
     by_cases h3:k=j
     ·rw [if_pos h3];exact hlb
     ·have h4:k≠(j - 1) / 2:=by omega
      rw [if_neg h3,if_neg h4]
      have:=h.1 k hk hkn h3 (by rw [h1];omega)
      unfold Ok at this
      rw [h1] at this
      exact zAj hlb this
def kid (l:List Att) (i n:Nat):Nat:=if 2*i+2 < n∧zg (hg l (2*i+2)) (hg l (2*i+1))=true then 2*i+2 else 2*i+1
theorem zAs {l:List Att} {i n:Nat} (h:¬n≤2*i+1):kid l i n < n∧(kid l i n - 1) / 2=i∧0 < kid l i n∧i < kid l i n:=by
 unfold kid;split<;>omega
theorem zDn {l:List Att} {i n:Nat} (k:Nat) (hk:0 < k) (hkn:k < n) (hki:(k - 1) / 2=i):zg (hg l k) (hg l (kid l i n))=false:=by
 unfold kid
 have h5:k=2*i+1∨k=2*i+2:=by omega
 split
 ·rename_i h2
  rcases h5 with rfl | rfl
  ·exact zCe h2.2
  ·exact zBt _
 ·rename_i h2
  rcases h5 with rfl | rfl
  ·exact zBt _
  ·rw [Classical.not_and_iff_not_or_not] at h2
   rcases h2 with h2 | h2
   ·omega
   ·simpa using h2
def zi:Nat→List Att→Nat→Nat→List Att×Nat
 | 0,l,i,_=>(l,i)
 | f+1,l,i,n =>
   if n≤2*i+1 then (l,i) else
   if zg (hg l (kid l i n)) (hg l i)=false then (l,i) else zi f (zW l i (kid l i n)) (kid l i n) n
theorem zJD (f:Nat):∀(l:List Att) (i n:Nat),i≤(zi f l i n).2:=by
 induction f with
 | zero=>intro l i n;exact Nat.le_refl _
 | succ f ih =>
   intro l i n
   unfold zi
   split
   ·exact Nat.le_refl _
   ·rename_i h1
    have:=zAs (l:=l) h1
    split
    ·exact Nat.le_refl _
    ·exact Nat.le_trans (by omega) (ih (zW l i (kid l i n)) (kid l i n) n)
theorem zBv (f:Nat):∀(l:List Att) (i n:Nat),n≤l.length→(zi f l i n).1.Perm l:=by
 induction f with
 | zero=>exact fun l i n _=>List.Perm.refl _
 | succ f ih =>
   intro l i n hn
   unfold zi
   split
   ·exact List.Perm.refl _
   ·rename_i h1
    have:=zAs (l:=l) h1
    split
    ·exact List.Perm.refl _
    ·exact (ih _ _ _ (by rw [yC];exact hn)).trans (zBs l _ _ (by omega) (by omega))
theorem zFj (f:Nat):∀(l:List Att) (i n k:Nat),n≤l.length→n≤k→hg (zi f l i n).1 k=hg l k:=by
 induction f with
 | zero=>exact fun l i n k _ _=>rfl
 | succ f ih =>
   intro l i n k hn hk
   unfold zi
   split
   ·rfl
   ·rename_i h1
    have:=zAs (l:=l) h1
    split
    ·rfl
    ·rw [ih _ _ _ k (by rw [yC];exact hn) hk]
     rw [yW l _ _ k (by omega) (by omega),if_neg (by omega),if_neg (by omega)]
theorem zFk {l:List Att} {i n:Nat} (hn:n≤l.length) (h1:¬n≤2*i+1) (h:zAk l n i) (hb:zg (hg l (kid l i n)) (hg l i)=true) :
 zAk (zW l i (kid l i n)) n (kid l i n)∧UpOk (zW l i (kid l i n)) (kid l i n):=by
 have hj:=zAs (l:=l) h1
 have hbest:=zDn (l:=l) (i:=i) (n:=n)
 generalize kid l i n=j at *
 have hil:i < l.length:=by omega
 have hjl:j < l.length:=by omega
 refine ⟨⟨?_,?_⟩,?_⟩
 ·intro k hk hkn h3 h4
  unfold Ok
  rw [yW l i j k hil hjl,yW l i j _ hil hjl,if_neg h3,if_neg h4]
  by_cases h5:k=i
  ·rw [if_pos h5]
   subst h5
   rw [if_neg (by omega)]
   exact h.2 j hj.2.2.1 hj.1 hj.2.1 hk
  ·rw [if_neg h5]
   by_cases h6:(k - 1) / 2=i
   ·rw [if_pos h6]
    exact hbest k hk hkn h6
   ·rw [if_neg h6]
    exact h.1 k hk hkn h5 h6
 ·intro k hk hkn h3 _
  rw [yW l i j k hil hjl,yW l i j _ hil hjl]
  have hkj:k≠j:=by omega
  have hki:k≠i:=by omega
  rw [if_neg hkj,if_neg hki,hj.2.1,if_neg (by omega),if_pos rfl]
  have:=h.1 k hk hkn hki (by omega)
  unfold Ok at this
  rwa [h3] at this
 ·intro _
  unfold Ok
  rw [yW l i j j hil hjl,if_pos rfl,hj.2.1,yW l i j i hil hjl,if_neg (by omega),if_pos rfl]
  exact zCe hb
theorem zJE (f:Nat):∀(l:List Att) (i n:Nat),n≤l.length→n≤i+f→zAk l n i→UpOk l i→zAV (zi f l i n).1 n:=by
 induction f with
 | zero =>
   intro l i n hn hf h hu
   refine zBu h hu (fun k hk hkn h1=>?_)
   omega
 | succ f ih =>
   intro l i n hn hf h hu
   unfold zi
   split
   ·rename_i h1
    exact zBu h hu (fun k hk hkn h2=>by omega)
   ·rename_i h1
    have hj:=zAs (l:=l) h1
    split
    ·rename_i h2
     refine zBu h hu (fun k hk hkn h3=>?_)
     unfold Ok
     rw [h3]
     exact zAj h2 (zDn k hk hkn h3)
    ·rename_i h2
     obtain ⟨h3,h4⟩:=zFk hn h1 h (by simpa using h2)
     exact ih _ _ n (by rw [yC];exact hn) (by omega) h3 h4
theorem zJF (f:Nat) (l:List Att) (i n:Nat) (hf:n≤i+f) (h:(zi f l i n).2≤i):(zi f l i n).1=l∧zDm l n i:=by
 cases f with
 | zero=>exact ⟨rfl,fun k hk hkn h1=>by omega⟩
 | succ f =>
   unfold zi at h ⊢
   split at h
   ·rename_i h1
    rw [if_pos h1]
    exact ⟨rfl,fun k hk hkn h2=>by omega⟩
   ·rename_i h1
    rw [if_neg h1]
    split at h
    ·rename_i h2
     rw [if_pos h2]
     refine ⟨rfl,fun k hk hkn h3=>?_⟩
     unfold Ok
     rw [h3]
     exact zAj h2 (zDn k hk hkn h3)
    ·exfalso
     have:=zJD f (zW l i (kid l i n)) (kid l i n) n
     have:=zAs (l:=l) h1
     omega
theorem zJG (f:Nat) (l:List Att) (i n:Nat) (hn:n≤l.length) (hf:n≤i+f) (h:zAk l n i) (hm:i < (zi f l i n).2):zAV (zi f l i n).1 n:=by
 cases f with
 | zero=>simp [zi] at hm
 | succ f =>
   unfold zi at hm ⊢
   split at hm
   ·simp at hm
   ·rename_i h1
    rw [if_neg h1]
    have hj:=zAs (l:=l) h1
    split at hm
    ·simp at hm
    ·rename_i h2
     rw [if_neg h2]
     obtain ⟨h3,h4⟩:=zFk hn h1 h (by simpa using h2)
     exact zJE f _ _ n (by rw [yC];exact hn) (by omega) h3 h4
def fixF (l:List Att) (i n:Nat):List Att:=
 let p:=zi l.length l i n
 if i < p.2 then p.1 else upF l.length p.1 i
theorem zFl (l:List Att) (i n:Nat) (hn:n≤l.length) (hi:i < n):(fixF l i n).Perm l:=by
 unfold fixF
 simp only
 have hp:=zBv l.length l i n hn
 split
 ·exact hp
 ·exact (zCf _ _ _ (by rw [hp.length_eq];omega)).trans hp
theorem zFm (l:List Att) (i n:Nat) (hn:n≤l.length) (hi:i < n) (h:zAk l n i):zAV (fixF l i n) n:=by
 unfold fixF
 simp only
 split
 ·rename_i hm
  exact zJG _ l i n hn (by omega) h hm
 ·rename_i hm
  obtain ⟨h1,h2⟩:=zJF l.length l i n (by omega) (by omega)
  rw [h1]
  exact zFi _ l n i hn hi (by omega) h h2
theorem zCg (l:List Att):xo l↔zAV l l.length:=by
 constructor
 ·intro h k hk hkn
  exact h k _ _ hk (zZ hkn) (zZ (by omega))
 ·intro h i a b hi ha hb
  have hil:i < l.length:=(List.getElem?_eq_some_iff.1 ha).1
  have:=h i hi hil
  unfold Ok at this
  rwa [zAJ ha,zAJ hb] at this
theorem zJH {l:List Att} {n:Nat} (h:zAV l n):∀k,k < n→zg (hg l k) (hg l 0)=false:=by
 intro k
 induction k using Nat.strongRecOn with
 | _ k ih =>
   intro hk
   by_cases h0:k=0
   ·subst h0;exact zBt _
   ·exact zAj (ih ((k - 1) / 2) (by omega) (by omega)) (h k (by omega) hk)
def remF (l:List Att) (i:Nat):List Att:=(if l.length - 1=i then l else fixF (zW l i (l.length - 1)) i (l.length - 1)).take (l.length - 1)
theorem zJI (f:Nat):∀(l:List Att) (j k:Nat),j < l.length→j < k→hg (upF f l j) k=hg l k:=by
 induction f with
 | zero=>exact fun l j k _ _=>rfl
 | succ f ih =>
   intro l j k hj hk
   unfold upF
   simp only
   split
   ·rfl
   ·rw [ih _ _ k (by rw [yC];omega) (by omega),yW l _ _ k (by omega) hj,if_neg (by omega),if_neg (by omega)]
theorem zJJ (l:List Att) (i n k:Nat) (hn:n≤l.length) (hi:i < n) (hk:n≤k):hg (fixF l i n) k=hg l k:=by
 unfold fixF
 simp only
 split
 ·exact zFj _ _ _ _ _ hn hk
 ·rw [zJI _ _ _ _ (by rw [(zBv l.length l i n hn).length_eq];omega) (by omega)]
  exact zFj _ _ _ _ _ hn hk
theorem zFn {l:List Att} {m:Nat} (h:m+1=l.length):l.take m++[hg l m]=l:=by
 have:=List.take_append_getElem (l:=l) (i:=m) (by omega)
 have e:hg l m=l[m]:=zAJ (List.getElem?_eq_getElem (by omega))
 rw [e,this,h,List.take_length]
theorem zFo {l t:List Att} {a:Att} (hp:(t++[a]).Perm l) (hn:(l.map (·.seq)).Nodup):t.Perm (l.filter fun b=>!decide (b.seq=a.seq)):=by
 have h1:((t++[a]).map (·.seq)).Nodup:=(hp.map _).nodup_iff.2 hn
 rw [List.map_append,List.nodup_append] at h1
 have h2:=hp.filter (fun b=>!decide (b.seq=a.seq))
 have h3:(t++[a]).filter (fun b=>!decide (b.seq=a.seq))=t:=by
  rw [List.filter_append]
  have:t.filter (fun b=>!decide (b.seq=a.seq))=t:=List.filter_eq_self.2 fun b hb=>by
   have:=h1.2.2 b.seq (List.mem_map.2 ⟨b,hb,rfl⟩) a.seq (by simp)
   simp [this]
  rw [this];simp
 rw [h3] at h2
 exact h2
theorem zFp {l:List Att} {n m:Nat} (h:zAV l n) (hm:m≤n):zAV (l.take m) m:=by
 intro k hk hkm
 have:=h k hk (by omega)
 unfold Ok hg at *
 simp only [List.getD_eq_getElem?_getD,List.getElem?_take] at *
 rw [if_pos hkm,if_pos (by omega)]
 exact this
theorem zJK {l:List Att} {i:Nat} (hi:i < l.length) (h:xo l) (hn:(l.map (·.seq)).Nodup):xo (remF l i)∧(remF l i).Perm (l.filter fun b=>!decide (b.seq=(hg l i).seq)):=by
 rw [zCg] at h ⊢
 obtain ⟨m,hm⟩:∃m,m+1=l.length:=⟨l.length - 1,by omega⟩
 unfold remF
 rw [show l.length - 1=m by omega]
 by_cases hmi:m=i
 ·rw [if_pos hmi]
  subst hmi
  refine ⟨?_,zFo (by rw [zFn hm]) hn⟩
  rw [List.length_take,Nat.min_eq_left (by omega)]
  exact zFp h (by omega)
 ·rw [if_neg hmi]
  have hml:m < l.length:=by omega
  have hhole:zAk (zW l i m) m i:=by
   constructor
   ·intro k hk hkm h1 h2
    unfold Ok
    rw [yW l i m k hi hml,yW l i m _ hi hml,if_neg (by omega),if_neg h1,if_neg (by omega),if_neg h2]
    exact h k hk (by omega)
   ·intro k hk hkm h1 h2
    rw [yW l i m k hi hml,yW l i m _ hi hml,if_neg (by omega),if_neg (by omega),if_neg (by omega),if_neg (by omega)]
    have a1:=h k hk (by omega)
    have a2:=h i h2 (by omega)
    unfold Ok at a1 a2
    rw [h1] at a1
    exact zAj a2 a1
  have hheap:=zFm (zW l i m) i m (by rw [yC];omega) (by omega) hhole
  have hperm:=(zFl (zW l i m) i m (by rw [yC];omega) (by omega)).trans (zBs l i m hi hml)
  have hlast:hg (fixF (zW l i m) i m) m=hg l i:=by
   rw [zJJ _ _ _ _ (by rw [yC];omega) (by omega) (Nat.le_refl _),yW l i m m hi hml,if_pos rfl]
  have hlen:m+1=(fixF (zW l i m) i m).length:=by rw [hperm.length_eq];exact hm
  refine ⟨?_,?_⟩
  ·rw [List.length_take,Nat.min_eq_left (by omega)]
   exact zFp hheap (Nat.le_refl _)
  ·rw [←hlast]
   exact zFo (by rw [zFn hlen];exact hperm) hn
theorem zFq {l:List Att} {a:Att} (h:xo l):xo (upF (l++[a]).length (l++[a]) l.length)∧(upF (l++[a]).length (l++[a]) l.length).Perm (l++[a]):=by
 have hp:=zCf (l++[a]).length (l++[a]) l.length (by simp)
 refine ⟨?_,hp⟩
 rw [zCg] at h ⊢
 rw [hp.length_eq]
 have hg1:∀k,k < l.length→hg (l++[a]) k=hg l k:=fun k hk=>by simp [hg,List.getElem?_append_left hk]
 refine zFi _ _ _ _ (Nat.le_refl _) (by simp) (by simp) ⟨?_,?_⟩ ?_
 ·intro k hk hkn h1 h2
  simp only [List.length_append,List.length_cons,List.length_nil] at hkn
  unfold Ok
  rw [hg1 k (by omega),hg1 _ (by omega)]
  exact h k hk (by omega)
 ·intro k hk hkn h1 h2
  simp only [List.length_append,List.length_cons,List.length_nil] at hkn
  omega
 ·intro k hk hkn h1
  simp only [List.length_append,List.length_cons,List.length_nil] at hkn
  omega
def zAC (s t:Int) (b:Att):Att:=if b.seq=s then {b with till:=t} else b
theorem zDo (s t:Int) (b:Att):(zAC s t b).seq=b.seq:=by unfold zAC;split<;>rfl
theorem zJL {l:List Att} {i:Nat} (hi:i < l.length) (hn:(l.map (·.seq)).Nodup) (t:Int):l.map (zAC (hg l i).seq t)=l.set i {hg l i with till:=t}:=by
 apply List.ext_getElem?
 intro k
 rw [List.getElem?_map,List.getElem?_set]
 by_cases e:i=k
 ·subst e
  rw [if_pos rfl,if_pos hi,zZ hi]
  simp [zAC]
 ·rw [if_neg e]
  by_cases hk:k < l.length
  ·rw [zZ hk]
   have:(hg l k).seq≠(hg l i).seq:=fun e2=>e (by
    have h1:(l.map (·.seq))[i]?=some (hg l i).seq:=by simp [zZ hi]
    have h2:(l.map (·.seq))[k]?=some (hg l k).seq:=by simp [zZ hk]
    exact (List.getElem?_inj (by simpa using hi) hn).1 (by rw [h1,h2,e2]))
   simp [zAC,this]
  ·rw [List.getElem?_eq_none (by omega)];rfl
theorem zCh {l:List Att} {i k:Nat} {a:Att} (hi:i < l.length):hg (l.set i a) k=if k=i then a else hg l k:=by
 unfold hg
 simp only [List.getD_eq_getElem?_getD,List.getElem?_set]
 by_cases e:k=i
 ·subst e;simp [hi]
 ·simp [e,Ne.symm e]
theorem zJM {l:List Att} {i:Nat} (hi:i < l.length) (h:xo l) (a:Att):xo (fixF (l.set i a) i l.length)∧(fixF (l.set i a) i l.length).Perm (l.set i a):=by
 have hp:=zFl (l.set i a) i l.length (by simp) hi
 refine ⟨?_,hp⟩
 rw [zCg] at h ⊢
 rw [hp.length_eq,List.length_set]
 refine zFm _ _ _ (by simp) hi ⟨?_,?_⟩
 ·intro k hk hkn h1 h2
  unfold Ok
  rw [zCh hi,zCh hi,if_neg h1,if_neg h2]
  exact h k hk hkn
 ·intro k hk hkn h1 h2
  rw [zCh hi,zCh hi,if_neg (by omega),if_neg (by omega)]
  have a1:=h k hk (by omega)
  have a2:=h i h2 (by omega)
  unfold Ok at a1 a2
  rw [h1] at a1
  exact zAj a2 a1
theorem zFr:∀(l:List Att) (a:Att),yB l=some a→a∈l
 | [],_,h=>by cases h
 | x::l,a,h=>by
   unfold yB at h
   cases hl:yB l with
   | none=>rw [hl] at h;cases h;exact List.mem_cons_self
   | some b =>
     rw [hl] at h
     simp only at h
     split at h
     ·cases h;exact List.mem_cons_of_mem _ (zFr l _ hl)
     ·cases h;exact List.mem_cons_self
theorem zFs:∀(l:List Att) (a:Att),yB l=some a→∀b∈l,zg b a=false
 | [],_,h=>by cases h
 | x::l,a,h=>by
   unfold yB at h
   cases hl:yB l with
   | none =>
     rw [hl] at h;cases h
     intro b hb
     cases l with
     | nil=>simp at hb;subst hb;exact zBt _
     | cons y r =>
       exfalso
       unfold yB at hl
       split at hl
       ·cases hl
       ·split at hl<;>cases hl
   | some c =>
     rw [hl] at h
     simp only at h
     have ih:=zFs l c hl
     split at h
     ·rename_i hb1
      cases h
      intro b hb
      rcases List.mem_cons.1 hb with e | e
      ·subst e;exact zCe hb1
      ·exact ih b e
     ·rename_i hb1
      cases h
      intro b hb
      rcases List.mem_cons.1 hb with e | e
      ·subst e;exact zBt _
      ·exact zAj (by simpa using hb1) (ih b e)
theorem zJN {l:List Att} (h:yB l=none):l=[]:=by
 cases l with
 | nil=>rfl
 | cons y r =>
   exfalso
   unfold yB at h
   split at h
   ·cases h
   ·split at h<;>cases h
theorem zJO {l hp:List Att} (hperm:hp.Perm l) (h:xo hp) (hn:(l.map (·.seq)).Nodup) (h0:0 < hp.length):yB l=some (hg hp 0):=by
 cases hl:yB l with
 | none =>
   have:=zJN hl
   subst this
   have:=hperm.length_eq
   simp at this
   simp [this] at h0
 | some a =>
   have h1:=zFr _ _ hl
   have h2:=zFs _ _ hl
   rw [zCg] at h
   have h3:hg hp 0∈l:=hperm.mem_iff.1 (List.mem_of_getElem? (zZ h0))
   have h4:=h2 _ h3
   obtain ⟨k,hk⟩:=List.getElem?_of_mem (hperm.mem_iff.2 h1)
   have hkl:k < hp.length:=(List.getElem?_eq_some_iff.1 hk).1
   have h5:=zJH h k hkl
   rw [zAJ hk] at h5
   rw [zCd] at h4 h5
   have h6:a.seq=(hg hp 0).seq:=by omega
   have:a=hg hp 0:=by
    obtain ⟨i,hi⟩:=List.getElem?_of_mem h1
    obtain ⟨j,hj⟩:=List.getElem?_of_mem h3
    have hil:i < l.length:=(List.getElem?_eq_some_iff.1 hi).1
    have e1:(l.map (·.seq))[i]?=some a.seq:=by simp [hi]
    have e2:(l.map (·.seq))[j]?=some (hg hp 0).seq:=by simp [hj]
    have:i=j:=(List.getElem?_inj (by simpa using hil) hn).1 (by rw [e1,e2,h6])
    subst this
    rw [hi] at hj
    exact Option.some.inj hj
   rw [this]
theorem zDp {l:List Att} (h:l.Pairwise fun a b=>a.seq < b.seq):(l.map (·.seq)).Nodup:=by
 rw [List.Nodup,List.pairwise_map]
 exact h.imp (fun h e=>by omega)
end Go.Proofs.YtaejfobbogahmaaGreatDoor
