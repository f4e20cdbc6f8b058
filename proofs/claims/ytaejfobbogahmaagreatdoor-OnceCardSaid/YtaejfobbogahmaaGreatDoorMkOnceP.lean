/-
  OnceP: texts of their own, joined.
-/
import Derived.Test.YtaejfobbogahmaaGreatDoorMkPure
set_option maxRecDepth 100000
set_option maxHeartbeats 16000000
set_option linter.all false
namespace Go.Proofs.YtaejfobbogahmaaGreatDoor
open Go
theorem zNB {K V:Type} [DecidableEq K] {l:List (K×V)} {k:K} {v:V} (h:aget l k=some v):aset l k v=l:=by
 induction l with
 | nil=>cases h
 | cons p l ih =>
   obtain ⟨a,x⟩:=p
   unfold aget at h
   unfold aset
   split at h
   ·next e=>rw [if_pos e];injection h with h;subst e;rw [h]
   ·next e=>rw [if_neg e,ih h]
theorem zNC {K V:Type} [DecidableEq K] {l:List (K×V)} {k:K} (v:V) (h:aget l k=none):aset l k v=l++[(k,v)]:=by
 induction l with
 | nil=>rfl
 | cons p l ih =>
   obtain ⟨a,x⟩:=p
   unfold aget at h
   unfold aset
   split at h
   ·cases h
   ·next e=>rw [if_neg e,ih h];rfl
def opqF (q:Req):Int×ByteArray×ByteArray:=(q.conn,q.tenant,q.text)
def opq (r:Raw):List (Int×Int×ByteArray×ByteArray):=amap (fun _ q=>opqF q) r.reqs
def opn (r:Raw):List (Int×Int):=amap (fun _ (x:Int×ByteArray×ByteArray)=>x.1) (opq r)
theorem zDA {r:Raw} {id:Int} {q:Req} (h:aget r.reqs id=some q):aget (opn r) id=some q.conn:=by
 unfold opn opq;rw [zy,zy,h];rfl
theorem zND {r:Raw} {id:Int} (h:aget r.reqs id=none):aget (opn r) id=none:=by
 unfold opn opq;rw [zy,zy,h];rfl
theorem zBY {l:List (Int×Req)} {id:Int} {q y:Req} (h:aget l id=some q) (e:opqF y=opqF q):amap (fun _ q=>opqF q) (aset l id y)=amap (fun _ q=>opqF q) l:=by
 rw [←zBI (fun _ q=>opqF q) l id y]
 exact zNB (by rw [zy,h];exact congrArg some e.symm)
theorem zHN (r:Raw) (id:Int):opq {r with reqs:=adel r.reqs id}=adel (opq r) id:=(zAq _ _ _).symm
theorem zCG {r r':Raw} (h:opq r'=opq r):opn r'=opn r:=by unfold opn;rw [h]
theorem zNE (r:Raw) (id:Int):opn {r with reqs:=adel r.reqs id}=adel (opn r) id:=by unfold opn;rw [zHN,zAq]
def oBye:zA:=[98,121,101]
def NoBl (w:zA):Prop:=(32:UInt8)∉w∧w.length≤80
def Oth (w:zA):Prop:=w=yf∨w=wRej∨w=zAA∨w=wBad∨w=oBye
inductive Trk (t:Option zA):List (Int×Int)→List (Int×List zA)→List (Int×Int)→Prop
 | nil {S:List (Int×Int)}:Trk t S [] S
 | acc {S S':List (Int×Int)} {l:List (Int×List zA)} {id c:Int}:(t.isSome=true∧0≤id∧id≤999999)∧0≤c→aget S id=none→Trk t (S++[(id,c)]) l S'→Trk t S ((c,[wAcc,decI id])::l) S'
 | fin {S S':List (Int×Int)} {l:List (Int×List zA)} {id c:Int} {w:zA}:w=wErr∨w=zAU→aget S id=some c→Trk t (adel S id) l S'→Trk t S ((c,[w,decI id])::l) S'
 | val {S S':List (Int×Int)} {l:List (Int×List zA)} {id c:Int} {n x t0:zA}:aget S id=some c→t=some t0→cut 32 t0=[yE,decI id,n,x]→Trk t (adel S id) l S'→Trk t S ((c,[wVal,decI id,x])::l) S'
 | run {S S':List (Int×Int)} {l:List (Int×List zA)} {id c:Int} {n a b:zA}:(aget S id).isSome=true→Trk t S l S'→Trk t S ((c,[wRun,decI id,n,a,b])::l) S'
 | oth {S S':List (Int×Int)} {l:List (Int×List zA)} {c:Int} {w:zA} {ws:List zA}:Oth w→Trk t S l S'→Trk t S ((c,w::ws)::l) S'
theorem Trk.append {t:Option zA} {S S1 S2:List (Int×Int)} {l m:List (Int×List zA)} (h:Trk t S l S1) (k:Trk t S1 m S2):Trk t S (l++m) S2:=by
 induction h with
 | nil=>exact k
 | acc h h2 _ ih=>exact .acc h h2 (ih k)
 | fin h h2 _ ih=>exact .fin h h2 (ih k)
 | val h h2 h3 _ ih=>exact .val h h2 h3 (ih k)
 | run h _ ih=>exact .run h (ih k)
 | oth h _ ih=>exact .oth h (ih k)
def sayL (l:List (Int×List zA)):List (Int×zA):=l.map fun p=>(p.1,zS (zX p.2))
def zAO (l:List (Int×List zA)):Prop:=∀p∈l,p.2.length≤5∧∀w∈p.2,NoBl w
def Sol (r:Raw):Prop:=∀p∈opq r,NoBl p.2.2.1.data.toList∧NoBl p.2.2.2.data.toList
def Said (t:Option zA) (S:List (Int×Int)) (r r':Raw):Prop:=(∃l,r'.out=r.out++sayL l∧Trk t S l (opn r')∧zAO l)∧Sol r'
theorem Said.trans {t:Option zA} {S:List (Int×Int)} {r r1 r2:Raw} (h:Said t S r r1) (k:Sol r1→Said t (opn r1) r1 r2):Said t S r r2:=by
 obtain ⟨⟨l,h1,h2,h3⟩,h4⟩:=h
 obtain ⟨⟨m,k1,k2,k3⟩,k4⟩:=k h4
 refine ⟨⟨l++m,by rw [k1,h1,List.append_assoc];unfold sayL;rw [List.map_append],h2.append k2,fun p hp=>?_⟩,k4⟩
 rcases List.mem_append.1 hp with hp | hp
 ·exact h3 p hp
 ·exact k3 p hp
def zJ (r r':Raw):Prop:=opq r'=opq r∧∃l,r'.out=r.out++sayL l∧zAO l∧∀p∈l,∃w ws,p.2=w::ws∧Oth w
theorem zJ.same {r r':Raw} (h:opq r'=opq r) (ho:r'.out=r.out):zJ r r':=⟨h,[],by rw [ho];exact (List.append_nil _).symm,(by unfold zAO;simp),by simp⟩
theorem zJ.refl (r:Raw):zJ r r:=.same rfl rfl
theorem zJ.trans {r r1 r2:Raw} (h:zJ r r1) (k:zJ r1 r2):zJ r r2:=by
 obtain ⟨h0,l,h1,h2,h3⟩:=h
 obtain ⟨k0,m,k1,k2,k3⟩:=k
 refine ⟨k0.trans h0,l++m,by rw [k1,h1,List.append_assoc];unfold sayL;rw [List.map_append],fun p hp=>?_,fun p hp=>?_⟩
 ·rcases List.mem_append.1 hp with hp | hp
  ·exact h2 p hp
  ·exact k2 p hp
 ·rcases List.mem_append.1 hp with hp | hp
  ·exact h3 p hp
  ·exact k3 p hp
theorem zJ.say (r:Raw) (c:Int) {w:zA} {ws:List zA} (h:Oth w) (hs:∀x∈w::ws,NoBl x) (hl:(w::ws).length≤5:=by simp):zJ r (rSay r c (w::ws)):=
 ⟨rfl,[(c,w::ws)],rfl,fun p hp=>by rw [List.mem_singleton] at hp;subst hp;exact ⟨hl,hs⟩,fun p hp=>by rw [List.mem_singleton] at hp;subst hp;exact ⟨w,ws,rfl,h⟩⟩
theorem zJ.fold {α:Type} {f:Raw→α→Raw} (h:∀r a,zJ r (f r a)):∀(l:List α) (r:Raw),zJ r (l.foldl f r)
 | [],r=>.refl r
 | a::l,r=>(h r a).trans (zJ.fold h l (f r a))
theorem zDB {t:Option zA} {S:List (Int×Int)}:∀{l:List (Int×List zA)},(∀p∈l,∃w ws,p.2=w::ws∧Oth w)→Trk t S l S
 | [],_=>.nil
 | p::l,h=>by
   obtain ⟨w,ws,e,ho⟩:=h p List.mem_cons_self
   obtain ⟨c,x⟩:=p
   have e:x=w::ws:=e
   subst e
   exact .oth ho (zDB (fun q hq=>h q (List.mem_cons_of_mem _ hq)))
theorem zJ.sol {r r':Raw} (h:zJ r r') (k:Sol r):Sol r':=fun p hp=>k p (by rw [←h.1];exact hp)
theorem zJ.said {t:Option zA} {r r':Raw} (h:zJ r r') (k:Sol r):Said t (opn r) r r':=by
 have hs:=h.sol k
 obtain ⟨h0,l,h1,h2,h3⟩:=h
 exact ⟨⟨l,h1,by rw [zCG h0];exact zDB h3,h2⟩,hs⟩
theorem zEY:∀(f n:Nat),∀c∈decF f n,48≤c.toNat∧c.toNat≤57
 | 0,n,c,h=>by
   simp only [decF,List.mem_singleton] at h
   subst h
   have:n % 10 < 10:=Nat.mod_lt _ (by omega)
   have e:(UInt8.ofNat (48+n % 10)).toNat=48+n % 10:=by rw [UInt8.toNat_ofNat'];omega
   omega
 | f+1,n,c,h=>by
   simp only [decF] at h
   split at h
   ·rw [List.mem_singleton] at h
    subst h
    have e:(UInt8.ofNat (48+n)).toNat=48+n:=by rw [UInt8.toNat_ofNat'];omega
    omega
   ·rcases List.mem_append.1 h with h | h
    ·exact zEY f _ c h
    ·rw [List.mem_singleton] at h
     subst h
     have:n % 10 < 10:=Nat.mod_lt _ (by omega)
     have e:(UInt8.ofNat (48+n % 10)).toNat=48+n % 10:=by rw [UInt8.toNat_ofNat'];omega
     omega
theorem zEZ:∀(f n:Nat),(decF f n).length≤f+1
 | 0,n=>by simp [decF]
 | f+1,n=>by
   simp only [decF]
   split
   ·simp
   ·have:=zEZ f (n / 10)
    rw [List.length_append];simp;omega
theorem zAP (n:Int):NoBl (decI n):=by
 refine ⟨fun h=>?_,?_⟩
 rotate_left
 ·unfold decI dec
  split
  ·have:=zEZ 20 n.natAbs;simp;omega
  ·have:=zEZ 20 n.toNat;omega
 unfold decI dec at h
 split at h
 ·rcases List.mem_cons.1 h with h | h
  ·exact absurd h (by decide)
  ·exact absurd (zEY _ _ _ h).1 (by decide)
 ·exact absurd (zEY _ _ _ h).1 (by decide)
theorem zNF:NoBl yf:=by unfold NoBl yf;decide
theorem zNG:Oth yf:=.inl rfl
theorem zEa (r:Raw) (c:Int):zJ r (rBye r c):=by
 unfold rBye
 split
 ·exact .refl r
 ·split
  ·exact zJ.trans (r1:={r with conns:=_}) (.same rfl rfl) (zJ.say _ c (w:=oBye) (ws:=[]) (by unfold Oth;simp) (fun x hx=>by rw [List.mem_singleton] at hx;subst hx;unfold NoBl oBye;decide))
  ·exact .refl r
theorem zBE (r:Raw) (a:Att):zJ r (rEnd r a):=by
 unfold rEnd
 split
 ·exact .refl r
 ·dsimp only
  split
  ·exact zJ.trans (.same rfl rfl) (zEa _ _)
  ·exact zJ.trans (.same rfl rfl) (zEa _ _)
theorem zHO (r:Raw) (a:Att):zJ r (zR r a):=
 (zJ.say r a.conn (w:=yf) (ws:=[decI a.id,decI a.att]) zNG (fun x hx=>by
  simp only [List.mem_cons,List.not_mem_nil,or_false] at hx
  rcases hx with rfl | rfl | rfl
  ·exact zNF
  ·exact zAP _
  ·exact zAP _)).trans (zBE _ a)
theorem zHP (r:Raw) (id:Int):zJ r (zI r id):=by
 unfold zI
 split
 ·exact .refl r
 ·next q hq =>
  split
  ·exact .refl r
  ·dsimp only
   split
   ·exact .same (zBY hq rfl) rfl
   ·exact .same (zBY hq rfl) rfl
theorem zDC (r:Raw) (id:Int) (first:Bool):zJ r (zj r id first):=by
 unfold zj
 split
 ·exact .refl r
 ·next q hq=>exact .same (zBY hq rfl) rfl
theorem zNH (r:Raw) (id:Int):zJ r (xQ r id):=by
 unfold xQ
 split
 ·exact .refl r
 ·next q hq=>exact .same (zBY hq rfl) rfl
theorem zBZ (r:Raw) (c:Int):zJ r (zH r c):=by
 unfold zH
 split
 ·exact .refl r
 ·exact .same rfl rfl
theorem zNI (r:Raw) (c:Int):zJ r (xR r c):=by
 unfold xR
 dsimp only
 split
 ·exact zBZ r c
 ·split
  ·exact (zBZ r c).trans (.same rfl rfl)
  ·exact zBZ r c
theorem zNJ (r:Raw) (c:Int):zJ r (xS r c):=by
 unfold xS
 dsimp only
 split
 ·exact zBZ r c
 ·exact ((zBZ r c).trans (.same rfl rfl)).trans (zEa _ _)
theorem zNK (r:Raw) (a:Att):zJ r (yU r a):=by
 unfold yU
 split
 ·exact .refl r
 ·next q hq =>
  split
  ·exact zJ.trans (r1:={r with reqs:=aset r.reqs a.id {q with hedged:=true}}) (.same (zBY hq rfl) rfl) (zDC {r with reqs:=aset r.reqs a.id {q with hedged:=true}} a.id false)
  ·exact .refl r
theorem zNL (r:Raw):zJ r (yk r):=by
 unfold yk
 split
 ·exact zJ.fold zNK _ r
 ·exact .refl r
def zDD (r:Raw) (id:Int):Raw:=zI ((rOf r id).foldl zR r) id
theorem zDE (r:Raw) (id:Int):zJ r (zDD r id):=(zJ.fold zHO _ r).trans (zHP _ id)
theorem zHQ (r:Raw) (id:Int):yA r id={zDD r id with reqs:=adel (zDD r id).reqs id}:=rfl
theorem zHR (r:Raw) (id:Int):opn (yA r id)=adel (opn r) id:=by
 rw [zHQ,zNE,zCG (zDE r id).1]
theorem zHS {K V:Type} [DecidableEq K] {l:List (K×V)} {k:K} {p:K×V} (h:p∈adel l k):p∈l:=by
 induction l with
 | nil=>cases h
 | cons x l ih =>
   obtain ⟨a,v⟩:=x
   unfold adel at h
   split at h
   ·exact List.mem_cons_of_mem _ h
   ·rcases List.mem_cons.1 h with h | h
    ·exact List.mem_cons.2 (.inl h)
    ·exact List.mem_cons_of_mem _ (ih h)
theorem zHT {r:Raw} (h:Sol r) (id:Int):Sol (yA r id):=fun p hp=>by
 rw [zHQ,zHN,(zDE r id).1] at hp
 exact h p (zHS hp)
theorem zEb {t:Option zA} {r r1:Raw} {id c:Int} {ws:List zA} (hs:Sol r) (hsol:∀w∈ws,NoBl w) (hlen:ws.length≤5) (hT:∀l S',Trk t (adel (opn r) id) l S'→Trk t (opn r) ((c,ws)::l) S') (hq:zJ (rSay r c ws) r1):Said t (opn r) r (yA r1 id):=by
 have h1:=hq.trans (zDE r1 id)
 obtain ⟨h0,l,h2,h3,h4⟩:=h1
 refine ⟨⟨(c,ws)::l,?_,?_,?_⟩,zHT (hq.sol hs) id⟩
 ·show (zDD r1 id).out=_
  rw [h2]
  show (r.out++[(c,zS (zX ws))])++sayL l=_
  rw [List.append_assoc];rfl
 ·rw [zHR,zCG hq.1]
  exact hT l _ (zDB h4)
 ·intro p hp
  rcases List.mem_cons.1 hp with rfl | hp
  ·exact ⟨hlen,hsol⟩
  ·exact h3 p hp
theorem zEc {t:Option zA} {r:Raw} (hs:Sol r) (id:Int) (counts:Bool):Said t (opn r) r (za r id counts):=by
 unfold za
 split
 ·exact (zJ.refl r).said hs
 ·next q hq =>
  split
  ·exact (zJ.refl r).said hs
  ·split
   ·split
    ·refine zEb hs (fun w hw=>?_) (by simp) (fun l S' h=>.fin (.inl rfl) (zDA hq) h) (.refl _)
     simp only [List.mem_cons,List.not_mem_nil,or_false] at hw
     rcases hw with rfl | rfl
     ·unfold NoBl wErr;decide
     ·exact zAP _
    ·exact ((zNH r id).trans (zDC _ _ _)).said hs
   ·exact (zDC r id true).said hs
theorem zNM {N P:Nat} {t:Option zA} {r:Raw} (hI:Inv N P r) (hs:Sol r):Said t (opn r) r (yM r):=by
 cases hw:r.waiting with
 | nil=>unfold yM;rw [hw];exact (zJ.refl r).said hs
 | cons c ws =>
   cases ht:xC r with
   | none=>unfold yM;rw [hw,ht];exact (zJ.refl r).said hs
   | some tn =>
     obtain ⟨id,rest,q,hq,hr,rfl,hqq⟩:=zBl hI ht
     rw [zBk hw ht hq hr]
     have h1:aget (rRot (zI {r with waiting:=ws} id) q.tenant).reqs id=some {q with queued:=false}:=by
      rw [zDY];exact zBi (r:={r with waiting:=ws}) hr
     have hQ:zJ r (xn (xm (xE (rRot (zI {r with waiting:=ws} id) q.tenant) id {q with queued:=false}) q.tenant) id (q.attempts+1) c):=by
      have a:zJ r {r with waiting:=ws}:=.same rfl rfl
      have b:=a.trans (zHP {r with waiting:=ws} id)
      have d:zJ (zI {r with waiting:=ws} id) (rRot (zI {r with waiting:=ws} id) q.tenant):=by
       unfold rRot
       split
       ·exact .refl _
       ·exact .same rfl rfl
      exact (b.trans d).trans (.same (zBY h1 rfl) rfl)
     refine (hQ.said hs).trans (fun hs'=>⟨⟨[(c,[wRun,decI id,decI (q.attempts+1),q.tenant.data.toList,q.text.data.toList])],rfl,?_,?_⟩,hs'⟩)
     ·refine .run (id:=id) ?_ .nil
      rw [zCG hQ.1,zDA hr];rfl
     ·have hm:(id,opqF q)∈opq r:=List.mem_map.2 ⟨(id,q),yQ hr,rfl⟩
      have hx:=hs _ hm
      intro p hp
      rw [List.mem_singleton] at hp
      subst hp
      refine ⟨by simp,fun w hw=>?_⟩
      simp only [List.mem_cons,List.not_mem_nil,or_false] at hw
      rcases hw with rfl | rfl | rfl | rfl | rfl
      ·unfold NoBl wRun;decide
      ·exact zAP _
      ·exact zAP _
      ·exact hx.1
      ·exact hx.2
theorem zHU {N P:Nat} {t:Option zA}:∀(n:Nat) {r:Raw},Inv N P r→Sol r→Said t (opn r) r (yh n r)
 | 0,r,_,hs=>(zJ.refl r).said hs
 | n+1,r,hI,hs=>by
   unfold yh
   split
   ·exact (zJ.refl r).said hs
   ·exact (zNM hI hs).trans (fun h=>zHU n hI.serve1 h)
theorem zEd {N P:Nat} {t:Option zA} {r:Raw} (hI:Inv N P r) (hs:Sol r):Said t (opn r) r (yF r):=zHU _ hI hs
theorem zNN {t:Option zA} {r:Raw} (ht:t.isSome=true) (hs:Sol r) (c:Int) (hc0:0≤c) {m:Msg} (hid:0≤m.id∧m.id≤999999) (h1:NoBl m.tenant) (h2:NoBl m.text):Said t (opn r) r (yI r c m):=by
 have hrej:∀w,NoBl w→zJ r (rSay r c [wRej,decI m.id,w]):=fun w hw=>zJ.say r c (by unfold Oth;simp) (fun x hx=>by
  simp only [List.mem_cons,List.not_mem_nil,or_false] at hx
  rcases hx with rfl | rfl | rfl
  ·unfold NoBl wRej;decide
  ·exact zAP _
  ·exact hw)
 unfold yI
 split
 ·exact (hrej wDup (by unfold NoBl wDup;decide)).said hs
 ·next hn =>
  have hn:aget r.reqs m.id=none:=by
   cases e:aget r.reqs m.id with
   | none=>rfl
   | some x=>rw [e] at hn;exact absurd rfl hn
  split
  ·exact (hrej zAH (by unfold NoBl zAH;decide)).said hs
  ·have e:opq {r with reqs:=aset r.reqs m.id ⟨c,bs m.tenant,bs m.text,0,r.cfg.retries,false,false⟩}=opq r++[(m.id,c,bs m.tenant,bs m.text)]:=by
    show amap _ (aset r.reqs m.id _)=_
    rw [zNC _ hn]
    unfold opq amap
    rw [List.map_append];rfl
   have hs1:Sol {r with reqs:=aset r.reqs m.id ⟨c,bs m.tenant,bs m.text,0,r.cfg.retries,false,false⟩}:=fun p hp=>by
    rw [e] at hp
    rcases List.mem_append.1 hp with hp | hp
    ·exact hs p hp
    ·rw [List.mem_singleton] at hp;subst hp
     exact ⟨by simpa [bs] using h1,by simpa [bs] using h2⟩
   refine Said.trans (r1:=rSay {r with reqs:=aset r.reqs m.id ⟨c,bs m.tenant,bs m.text,0,r.cfg.retries,false,false⟩} c [wAcc,decI m.id]) ⟨⟨[(c,[wAcc,decI m.id])],rfl,.acc ⟨⟨ht,hid⟩,hc0⟩ (zND hn) ?_,?_⟩,hs1⟩ (fun hs'=>(zDC _ _ _).said hs')
   ·have:opn (rSay {r with reqs:=aset r.reqs m.id ⟨c,bs m.tenant,bs m.text,0,r.cfg.retries,false,false⟩} c [wAcc,decI m.id])=opn r++[(m.id,c)]:=by
     show amap _ (opq {r with reqs:=aset r.reqs m.id ⟨c,bs m.tenant,bs m.text,0,r.cfg.retries,false,false⟩})=_
     rw [e]
     unfold opn amap
     rw [List.map_append];rfl
    rw [this]
    exact .nil
   ·intro p hp
    rw [List.mem_singleton] at hp
    subst hp
    refine ⟨by simp,fun w hw=>?_⟩
    simp only [List.mem_cons,List.not_mem_nil,or_false] at hw
    rcases hw with rfl | rfl
    ·unfold NoBl wAcc;decide
    ·exact zAP _
structure MsgT (t:zA) (m:Msg):Prop where
 tenant:NoBl m.tenant
 text:NoBl m.text
 done:m.kind=yE→∃n,cut 32 t=[yE,decI m.id,n,m.text]
theorem zNO {t:zA} {r:Raw} (hs:Sol r) (c:Int) (hc0:0≤c) {m:Msg} (hid:0≤m.id∧m.id≤999999) (hm:MsgT t m):Said (some t) (opn r) r (zY r c m):=by
 have hnone:zJ r (rSay r c [zAA,decI m.id]):=zJ.say r c (by unfold Oth;simp) (fun x hx=>by
  simp only [List.mem_cons,List.not_mem_nil,or_false] at hx
  rcases hx with rfl | rfl
  ·unfold NoBl zAA;decide
  ·exact zAP _)
 unfold zY
 split
 ·exact zNN rfl hs c hc0 hid hm.tenant hm.text
 split
 ·split
  ·next q hq =>
   split
   ·next hc =>
    refine zEb hs (fun w hw=>?_) (by simp) (fun l S' h=>.fin (.inr rfl) (by rw [zDA hq,hc]) h) (.refl _)
    simp only [List.mem_cons,List.not_mem_nil,or_false] at hw
    rcases hw with rfl | rfl
    ·unfold NoBl zAU;decide
    ·exact zAP _
   ·exact hnone.said hs
  ·exact hnone.said hs
 split
 ·exact (zNI r c).said hs
 split
 ·exact (zJ.same (r:=r) (r':=xk r c) rfl rfl).said hs
 split
 ·next hk =>
  obtain ⟨n,hn⟩:=hm.done hk
  split
  ·next a q _ hq =>
   refine zEb hs (fun w hw=>?_) (by simp) (fun l S' h=>.val (zDA hq) rfl hn h) (zBE _ a)
   simp only [List.mem_cons,List.not_mem_nil,or_false] at hw
   rcases hw with rfl | rfl | rfl
   ·unfold NoBl wVal;decide
   ·exact zAP _
   ·exact hm.text
  ·exact (zJ.refl r).said hs
 split
 ·split
  ·next a _ =>
   exact Said.trans ((zBE r a).said hs) (fun h=>zEc h m.id true)
  ·exact (zJ.refl r).said hs
 split
 ·exact (zNJ r c).said hs
 ·exact (zJ.refl r).said hs
theorem zHV {t:Option zA}:∀(n:Nat) {r:Raw},Sol r→Said t (opn r) r (zl n r)
 | 0,r,hs=>(zJ.refl r).said hs
 | n+1,r,hs=>by
   unfold zl
   split
   ·exact (zJ.refl r).said hs
   ·next a _=>exact Said.trans (((zHO r a).said hs).trans (fun h=>zEc h a.id true)) (fun h=>zHV n h)
theorem zNP {N P:Nat} {t:Option zA} {r:Raw} (hI:Inv N P r) (hs:Sol r):Said t (opn r) r (yp r):=by
 have h0:zJ r {r with now:=r.now+1}:=.same rfl rfl
 have h1:Said t (opn r) r (zl ({r with now:=r.now+1}:Raw).atts.length {r with now:=r.now+1}):=(h0.said hs).trans (fun h=>zHV _ h)
 exact (h1.trans (fun h=>(zNL _).said h)).trans (fun h=>zEd (((hI.later).dueAll _).hedge) h)
end Go.Proofs.YtaejfobbogahmaaGreatDoor
