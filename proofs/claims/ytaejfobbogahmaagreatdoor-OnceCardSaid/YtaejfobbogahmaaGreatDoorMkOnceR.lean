/-
  OnceR: texts of their own, joined.
-/
import Derived.Test.YtaejfobbogahmaaGreatDoorMkOnceE
set_option maxRecDepth 100000
set_option maxHeartbeats 16000000
set_option linter.all false
namespace Go.Proofs.YtaejfobbogahmaaGreatDoor
open Go
theorem zNY {K V:Type} [DecidableEq K] {l:List (K×V)} {k:K} {v:V} {p:K×V} (h:p∈aset l k v):p=(k,v)∨p∈l:=by
 induction l with
 | nil=>exact .inl (List.mem_singleton.1 h)
 | cons x l ih =>
   obtain ⟨a,y⟩:=x
   unfold aset at h
   split at h
   ·rcases List.mem_cons.1 h with h | h
    ·exact .inl h
    ·exact .inr (List.mem_cons_of_mem _ h)
   ·rcases List.mem_cons.1 h with h | h
    ·exact .inr (List.mem_cons.2 (.inl h))
    ·exact (ih h).imp id (List.mem_cons_of_mem _)
def NR (r r':Raw):Prop:=zAF r→zAF r'
theorem NR.refl (r:Raw):NR r r:=id
theorem NR.same {r r':Raw} (h:r'.conns=r.conns):NR r r':=fun k p hp=>k p (by rw [←h];exact hp)
theorem NR.trans {r r1 r2:Raw} (h:NR r r1) (k:NR r1 r2):NR r r2:=fun x=>k (h x)
theorem NR.pre {r r1 r':Raw} (k:NR r1 r') (h:r1.conns=r.conns):NR r r':=NR.trans (.same h) k
theorem NR.set {r r':Raw} {c:Int} {y:Cn} (h:r'.conns=aset r.conns c y) (hy:zAF r→y.rest=[]):NR r r':=fun k p hp=>by
 rw [h] at hp
 rcases zNY hp with rfl | hp
 ·exact hy k
 ·exact k p hp
theorem NR.fold {α:Type} {f:Raw→α→Raw} (h:∀r a,NR r (f r a)):∀(l:List α) (r:Raw),NR r (l.foldl f r)
 | [],r=>.refl r
 | a::l,r=>(h r a).trans (NR.fold h l (f r a))
theorem zHd {r:Raw} {c:Int} {x:Cn} (hx:aget r.conns c=some x) (h:zAF r):x.rest=[]:=h _ (yQ hx)
theorem zAe (r:Raw) (c:Int):NR r (zH r c):=by
 unfold zH
 split
 ·exact .refl r
 ·exact .set rfl (fun _=>rfl)
theorem zEl (r:Raw) (c:Int):NR r (rBye r c):=by
 unfold rBye
 split
 ·exact .refl r
 ·next x hx =>
  split
  ·exact NR.set (r':=rSay {r with conns:=aset r.conns c {x with gone:=true}} c [[98,121,101]]) (y:={x with gone:=true}) rfl (fun h=>show x.rest=[] from zHd hx h)
  ·exact .refl r
theorem zCJ (r:Raw) (a:Att):NR r (rEnd r a):=by
 unfold rEnd
 split
 ·exact .refl r
 ·dsimp only
  split
  ·exact (zEl _ _).pre rfl
  ·exact (zEl _ _).pre rfl
theorem zHe (r:Raw) (a:Att):NR r (zR r a):=NR.trans (r1:=rSay r a.conn [yf,decI a.id,decI a.att]) (.same rfl) (zCJ _ a)
theorem zHf (r:Raw) (id:Int):NR r (zI r id):=by
 unfold zI
 split
 ·exact .refl r
 ·split
  ·exact .refl r
  ·dsimp only
   split
   ·exact .same rfl
   ·exact .same rfl
theorem zDG (r:Raw) (id:Int) (first:Bool):NR r (zj r id first):=by
 unfold zj
 split
 ·exact .refl r
 ·exact .same rfl
theorem zNZ (r:Raw) (id:Int):NR r (xQ r id):=by
 unfold xQ
 split
 ·exact .refl r
 ·exact .same rfl
theorem zDH (r:Raw) (id:Int):NR r (yA r id):=((NR.fold zHe _ r).trans (zHf _ id)).trans (.same rfl)
theorem zEm (r:Raw) (id:Int) (counts:Bool):NR r (za r id counts):=by
 unfold za
 split
 ·exact .refl r
 ·next q _ =>
  split
  ·exact .refl r
  ·split
   ·split
    ·exact NR.trans (r1:=rSay r q.conn [wErr,decI id]) (.same rfl) (zDH _ id)
    ·exact (zNZ r id).trans (zDG _ _ _)
   ·exact zDG r id true
theorem zNa {N P:Nat} {r:Raw} (hI:Inv N P r):NR r (yM r):=by
 cases hw:r.waiting with
 | nil=>unfold yM;rw [hw];exact .refl r
 | cons c ws =>
   cases ht:xC r with
   | none=>unfold yM;rw [hw,ht];exact .refl r
   | some tn =>
     obtain ⟨id,rest,q,hq,hr,rfl,hqq⟩:=zBl hI ht
     rw [zBk hw ht hq hr]
     have a:NR r {r with waiting:=ws}:=.same rfl
     have b:=a.trans (zHf {r with waiting:=ws} id)
     have d:NR (zI {r with waiting:=ws} id) (rRot (zI {r with waiting:=ws} id) q.tenant):=by
      unfold rRot
      split
      ·exact .refl _
      ·exact .same rfl
     exact (b.trans d).trans (.same rfl)
theorem zHg {N P:Nat}:∀(n:Nat) {r:Raw},Inv N P r→NR r (yh n r)
 | 0,r,_=>.refl r
 | n+1,r,hI=>by
   unfold yh
   split
   ·exact .refl r
   ·exact (zNa hI).trans (zHg n hI.serve1)
theorem zEn {N P:Nat} {r:Raw} (hI:Inv N P r):NR r (yF r):=zHg _ hI
theorem zAp (r:Raw) (c:Int) (ws:List zA):NR r (rSay r c ws):=.same rfl
theorem zNb (r:Raw) (c:Int) (m:Msg):NR r (yI r c m):=by
 unfold yI
 split
 ·exact zAp _ _ _
 ·split
  ·exact zAp _ _ _
  ·exact (zDG _ _ _).pre rfl
theorem zNc (r:Raw) (c:Int):NR r (xR r c):=by
 unfold xR
 dsimp only
 split
 ·exact zAe r c
 ·split
  ·exact (zAe r c).trans (.same rfl)
  ·exact zAe r c
theorem zNd (r:Raw) (c:Int):NR r (xS r c):=by
 unfold xS
 dsimp only
 split
 ·exact zAe r c
 ·next x hx=>exact (zAe r c).trans (NR.trans (r1:={zH r c with conns:=aset (zH r c).conns c {x with drains:=true},waiting:=zE (zH r c).waiting c}) (NR.set (y:={x with drains:=true}) rfl (fun h=>show x.rest=[] from zHd hx h)) (zEl _ _))
theorem zNe (r:Raw) (c:Int) (m:Msg):NR r (zY r c m):=by
 unfold zY
 split
 ·exact zNb r c m
 split
 ·split
  ·split
   ·exact (zAp _ _ _).trans (zDH _ _)
   ·exact zAp _ _ _
  ·exact zAp _ _ _
 split
 ·exact zNc r c
 split
 ·exact .same rfl
 split
 ·split
  ·exact ((zAp _ _ _).trans (zCJ _ _)).trans (zDH _ _)
  ·exact .refl r
 split
 ·split
  ·exact (zCJ _ _).trans (zEm _ _ _)
  ·exact .refl r
 split
 ·exact zNd r c
 ·exact .refl r
theorem zNf {N P:Nat} {r:Raw} (hI:Inv N P r) (c:Int) (line:zA):NR r (zk r c line):=by
 unfold zk
 split
 ·exact zAp _ _ _
 ·next t0 ho =>
  split
  ·exact zAp _ _ _
  ·next m hm=>exact (zNe r c m).trans (zEn (hI.handle c (zBM (zBN ho) hm)))
theorem zNg {N P:Nat} {t:zA} {r:Raw} (hI:Inv N P r) (c:Int) (h10:(10:UInt8)∉t):NR r (yN r c (yZ t)):=fun hn=>by
 have hn1:=zAe r c hn
 have e:zL (yr (zH r c) c) (yZ t)=([(zS t).take 81],[]):=by
  rw [hn1.of c]
  exact zCH (zS t) [] (zEi h10) (by simp)
 have hn2:zAF (xl (zH r c) c []):=by
  unfold xl
  split
  ·exact hn1
  ·exact NR.set (r':={zH r c with conns:=_}) rfl (fun _=>rfl) hn1
 unfold yN
 simp only [e,List.foldl_cons,List.foldl_nil]
 exact zNf ((hI.conn c).rest c []) c _ hn2
theorem zHh:∀(n:Nat) (r:Raw),NR r (zl n r)
 | 0,r=>.refl r
 | n+1,r=>by
   unfold zl
   split
   ·exact .refl r
   ·exact ((zHe _ _).trans (zEm _ _ _)).trans (zHh n _)
theorem zNh (r:Raw):NR r (yk r):=by
 unfold yk
 split
 ·refine NR.fold (fun r a=>?_) _ r
  unfold yU
  split
  ·exact .refl r
  ·split
   ·exact (zDG _ _ _).pre rfl
   ·exact .refl r
 ·exact .refl r
theorem zNi {N P:Nat} {r:Raw} (hI:Inv N P r):NR r (yp r):=
 ((NR.trans (r1:={r with now:=r.now+1}) (.same rfl) (zHh _ _)).trans (zNh _)).trans (zEn (((hI.later).dueAll _).hedge))
theorem zNj {N P:Nat} {r:Raw} (hI:Inv N P r) (c:Int):NR r (yl r c):=by
 rw [zBO]
 obtain ⟨h1,h2⟩:=zCU hI c
 have hI2:=Inv.closeReqs c (yg r c) (hI.close0 c) h1 h2
 have a:NR r (zm r c):=fun h p hp=>h p (zHS hp)
 have b:NR (zm r c) ((yg r c).foldl (zc c) (zm r c)):=NR.fold (fun r id=>(NR.fold zCJ _ r).trans (zDH _ id)) _ _
 exact ((a.trans b).trans (NR.fold (fun r a=>(zCJ r a).trans (zEm _ _ _)) _ _)).trans (zEn (Inv.closeAtts _ hI2 (Live.of_filter hI2 _)))
structure yS (N P:Nat) (r:Raw):Prop where
 inv:Inv N P r
 few:Few r
 sol:Sol r
 norest:zAF r
 out:r.out=[]
end Go.Proofs.YtaejfobbogahmaaGreatDoor
