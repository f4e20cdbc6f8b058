/-
  FedE: texts of their own, joined.
-/
import Derived.Test.YtaejfobbogahmaaGreatDoorMkBadE
import Derived.Test.YtaejfobbogahmaaGreatDoorMkMShut
set_option maxRecDepth 100000
set_option maxHeartbeats 16000000
set_option linter.all false
namespace Go.Proofs.YtaejfobbogahmaaGreatDoor
open Go
theorem zKl {α β γ:Type} (g:α→γ) (f:α→β→α) (hf:∀a b,g (f a b)=g a):∀(l:List β) (a:α),g (l.foldl f a)=g a
 | [],_=>rfl
 | b::l,a=>(zKl g f hf l (f a b)).trans (hf a b)
theorem zLq (r:Raw) (id:Int):(rShut r id).conns.length=r.conns.length:=by
 rw [zEU]
 show (zAJ _ id).conns.length=_
 rw [zCr]
 exact zKl (fun r:Raw=>r.conns.length) rStop zDd _ r
theorem zJh (r:Raw) (id:Int) (b:Bool):(zAw r id b).conns.length=r.conns.length:=by
 unfold zAw
 split
 ·rfl
 ·split
  ·rfl
  ·split
   ·split
    ·exact zLq (rSay r _ _) _
    ·rw [zCU]
     unfold rLeft
     split<;>rfl
   ·rw [zCU]
theorem zFI {r:Raw} {c:Int} (h:zAh r c=true):rConn r c=r:=if_pos h
theorem zQw {r:Raw} {c:Int} (h:zAh r c=true) (m:Msg):(zAQ r c m).conns.length=r.conns.length:=by
 unfold zAQ
 split
 ·unfold zBH
  split
  ·rfl
  ·split
   ·rfl
   ·rw [zCU];rfl
 ·split
  ·split
   ·split
    ·exact zLq (rSay r _ _) _
    ·rfl
   ·rfl
  ·split
   ·unfold rPull
    rw [zFI h]
    simp only
    split
    ·rfl
    ·split<;>rfl
   ·split
    ·rfl
    ·split
     ·split
      ·exact (zLq _ _).trans (zEM (rSay r _ _) _)
      ·rfl
     ·split
      ·split
       ·exact (zJh _ _ _).trans (zEM r _)
       ·rfl
      ·split
       ·unfold zEq
        rw [zFI h]
        simp only
        split
        ·rfl
        ·rename_i x hx
         exact (zKd _ _).trans (zCQ hx _)
       ·rfl
theorem zVK {r:Raw} {c:Int} (h:zAh r c=true) (l:Bytes):(rLine r c l).conns.length=r.conns.length:=by
 unfold rLine
 split
 ·rfl
 ·split
  ·rfl
  ·unfold zBe
   rw [zDJ]
   exact zQw h _
theorem zNV {c:Int}:∀(ls:List Bytes) {r:Raw},zAh r c=true→(ls.foldl (fun r l=>rLine r c l) r).conns.length=r.conns.length
 | [],_,_=>rfl
 | l::ls,r,h=>by rw [List.foldl_cons,zNV ls (zEu h),zVK h]
theorem zVL (r:Raw) (c:Int):(rConn r c).conns.length≤r.conns.length+1:=by
 unfold rConn
 split
 ·omega
 ·rename_i h
  have:aget r.conns c=none:=by
   cases h3:aget r.conns c with
   | none=>rfl
   | some y=>rw [h3] at h;exact absurd rfl h
  show (aset r.conns c _).length≤_
  rw [zGC _ this];simp
theorem zVM (r:Raw) (c:Int) (b:Bytes):(rRest r c b).conns.length=r.conns.length:=by
 unfold rRest
 split
 ·rfl
 ·rename_i x hx
  exact zCQ hx _
theorem zQx (r:Raw) (c:Int) (l:Bytes):rLine r c (l.take 81)=rLine r c l:=by unfold rLine;rw [zJO]
theorem zNW (c:Int):∀(ls:List Bytes) (r:Raw),(ls.map (·.take 81)).foldl (fun r l=>rLine r c l) r=ls.foldl (fun r l=>rLine r c l) r
 | [],_=>rfl
 | l::ls,r=>by
   rw [List.map_cons,List.foldl_cons,List.foldl_cons,zQx]
   exact zNW c ls _
def zCA (r:Raw) (c:Int) (t:Bytes):List Bytes:=(zAv (zBA (rConn r c) c) t).dropLast
def zJi (r:Raw) (c:Int) (t:Bytes):Bytes:=((zAv (zBA (rConn r c) c) t).getLastD []).take 81
def fedSt (r:Raw) (c:Int) (t:Bytes) (j:Nat):Raw:=((zCA r c t).take j).foldl (fun r l=>rLine r c l) (rConn r c)
section
variable {N P:Nat} {r:Raw}
theorem zJj (r:Raw) (c:Int) (t:Bytes) (j:Nat):zAh (fedSt r c t j) c=true:=zGT _ (zBu r c)
theorem zNX (hI:Inv N P r) (c:Int) (t:Bytes) (j:Nat):Inv (N+j) (P+4*j) (fedSt r c t j):=by
 have h1:((zCA r c t).take j).length≤j:=List.length_take_le _ _
 exact (Inv.lines c _ (hI.conn c)).mono (by omega) (by omega)
theorem zQy {c:Int} {t l:Bytes} {j:Nat} (h:(zCA r c t)[j]?=some l):fedSt r c t (j+1)=rLine (fedSt r c t j) c l:=by
 unfold fedSt
 rw [List.take_add_one,h,List.foldl_append]
 rfl
theorem zLr (r:Raw) (c:Int) (t:Bytes) (j:Nat):(fedSt r c t j).conns.length≤r.conns.length+1:=by
 unfold fedSt
 rw [zNV _ (zBu r c)]
 exact zVL r c
theorem zGJ (hI:Inv N P r) (hF:Few r) (c:Int) (t:Bytes):rFeed r c t=rRest (fedSt r c t (zCA r c t).length) c (zJi r c t):=by
 have hr:(zBA (rConn r c) c).take 81=zBA (rConn r c) c:=List.take_of_length_le ((hF.conn c).rest c)
 have e:=zEf t (zBA (rConn r c) c)
 rw [hr] at e
 have hown:=zBu r c
 have h2:=(zNX hI c t (zCA r c t).length).q.kcn
 have h3:=zJj r c t (zCA r c t).length
 unfold zJi
 rw [zPH h2 h3]
 unfold fedSt
 rw [List.take_length]
 unfold rFeed zCA
 simp only [e]
 rw [zNW,zPH (hI.conn c).q.kcn hown,zIR _ _ _ _ _ hown]
theorem zVN (hI:Inv N P r) (hF:Few r) (c:Int) (t:Bytes):(rFeed r c t).conns.length≤r.conns.length+1:=by
 rw [zGJ hI hF,zVM]
 exact zLr r c t _
theorem zTL (hI:Inv N P r) (hF:Few r) (c:Int) (t:Bytes):mRest (mConn (refOf (fedSt r c t (zCA r c t).length)) c) c (zJi r c t)=refOf (rFeed r c t):=by
 have h3:=zJj r c t (zCA r c t).length
 rw [zCf,zFI h3,zMq h3,zGJ hI hF]
def zf (Z:Bytes→Bool) (x:Bytes):Bytes:=if Z x then x else []
def ZOk (Z:Bytes→Bool) (r:Raw):Prop:=tw (fun _ x=>zf Z x) [] r=r
variable {Z:Bytes→Bool}
theorem zf_eq (hz:Z []=true) {x:Bytes}:zf Z x=x↔Z x=true:=by
 unfold zf
 constructor
 ·intro h
  split at h
  ·assumption
  ·rw [←h];exact hz
 ·intro h;rw [if_pos h]
theorem ZOk.iff (hz:Z []=true):ZOk Z r↔∀c x,(c,x)∈r.conns→Z x.rest=true:=by
 constructor
 ·intro h c x hx
  have h1:amap (fun (_:Int) (x:Cn)=>({x with rest:=zf Z x.rest}:Cn)) r.conns=r.conns:=congrArg Raw.conns h
  have h2:∀(l:List (Int×Cn)),amap (fun (_:Int) (x:Cn)=>({x with rest:=zf Z x.rest}:Cn)) l=l→(c,x)∈l→Z x.rest=true:=by
   intro l
   induction l with
   | nil=>intro _ h;cases h
   | cons p l ih =>
     intro h hm
     obtain ⟨h3,h4⟩:=List.cons.inj (show (p.1,({p.2 with rest:=zf Z p.2.rest}:Cn))::amap (fun (_:Int) (x:Cn)=>({x with rest:=zf Z x.rest}:Cn)) l=p::l from h)
     rcases List.mem_cons.1 hm with h5 | h5
     ·subst h5
      exact (zf_eq hz).1 (congrArg (fun p:Int×Cn=>p.2.rest) h3)
     ·exact ih h4 h5
  exact h2 r.conns h1 hx
 ·intro h
  have:amap (fun (_:Int) (x:Cn)=>({x with rest:=zf Z x.rest}:Cn)) r.conns=r.conns:=zIk _ (fun k v hv=>by
   show ({v with rest:=zf Z v.rest}:Cn)=v
   rw [(zf_eq hz).2 (h k v hv)])
  show tw _ [] r=r
  unfold tw
  rw [this]
  rfl
theorem ZOk.init (c:Cfg):ZOk Z (rNew c):=rfl
theorem ZOk.conn (hz:Z []=true) (h:ZOk Z r) (c:Int):ZOk Z (rConn r c):=by
 unfold rConn
 split
 ·exact h
 ·rw [ZOk.iff hz]
  intro d x hx
  rcases zCY hx with h1 | h1
  ·exact (ZOk.iff hz).1 h d x h1
  ·rw [h1.2];exact hz
theorem ZOk.lines (h:ZOk Z r) (c:Int) (ls:List Bytes) (hc:zAh r c=true):ZOk Z (ls.foldl (fun r l=>rLine r c l) r):=by
 show tw _ [] _=_
 rw [←zIR _ [] c ls r hc]
 rw [show tw (fun _ x=>zf Z x) [] r=r from h]
theorem ZOk.put (hz:Z []=true) (h:ZOk Z r) (c:Int) {b:Bytes} (hb:Z b=true):ZOk Z (rRest r c b):=by
 unfold rRest
 split
 ·exact h
 ·rw [ZOk.iff hz]
  intro d x hx
  rcases zCY hx with h1 | h1
  ·exact (ZOk.iff hz).1 h d x h1
  ·rw [h1.2];exact hb
theorem ZOk.rest (hz:Z []=true) (h:ZOk Z r) (c:Int):Z (zBA r c)=true:=by
 unfold zBA
 split
 ·exact hz
 ·rename_i x hx
  exact (ZOk.iff hz).1 h c x (zBV hx)
theorem ZOk.feed (hz:Z []=true) (h:ZOk Z r) (hI:Inv N P r) (hF:Few r) (c:Int) (t:Bytes) (hl:Z (zJi r c t)=true):ZOk Z (rFeed r c t):=by
 rw [zGJ hI hF]
 exact ((h.conn hz c).lines c _ (zBu r c)).put hz c hl
theorem ZOk.told (hz:Z []=true) (h:ZOk Z r):ZOk Z (rTold r):=(ZOk.iff hz).2 (fun c x hx=>(ZOk.iff hz).1 h c x hx)
theorem ZOk.tick (h:ZOk Z r):ZOk Z (rTick r):=by
 show tw _ [] (rTick r)=rTick r
 rw [←zRe,show tw (fun _ x=>zf Z x) [] r=r from h]
end
def zTM (K:Bytes→Bool) (l:Bytes):Prop:=∀t m,zBG l=some t→zAo t=some m→K m.kind=true
structure FedOk (Z K:Bytes→Bool) (rest t:Bytes):Prop where
 lines:∀l∈(zAv rest t).dropLast,zTM K l
 last:Z (((zAv rest t).getLastD []).take 81)=true
def zNo (l:Bytes):Bool:=l.all fun c=>!isLet c
theorem zOq {l:Bytes}:zNo l=true↔noLet l:=by
 unfold zNo noLet
 rw [List.all_eq_true]
 constructor
 ·intro h c hc;simpa using h c hc
 ·intro h c hc;simp [h c hc]
theorem zNY {K:Bytes→Bool} {l:Bytes} (h:noMsg l):zTM K l:=fun t m h1 h2=>by rw [h t h1] at h2;cases h2
theorem zLs {α:Type} {l:List α} {d:α} (h:l≠[]):l.getLastD d∈l:=by
 rw [List.getLastD_eq_getLast?,List.getLast?_eq_some_getLast h]
 exact List.getLast_mem h
theorem zQz {K:Bytes→Bool} {rest t:Bytes} (h1:zNo rest=true) (h2:noLet t):FedOk zNo K rest t:=by
 have key:∀l∈zAv rest t,noLet l:=fun l hl c hc=>(zFY t rest l hl c hc).elim (zOq.1 h1 c) (h2 c)
 exact ⟨fun l hl=>zNY (zPf (key l ((List.dropLast_sublist _).subset hl))),zOq.2 (fun c hc=>key _ (zLs (zJN rest t)) c (List.mem_of_mem_take hc))⟩
theorem zTN {K:Bytes→Bool} {rest s:Bytes} (h1:zNo rest=true) (h2:∀m,zAo s=some m→K m.kind=true) (h3:∀c∈s,c≠10):FedOk zNo K rest (sealL s++[10]):=by
 have e:=zGD (sealL s) rest (zSg h3)
 refine ⟨fun l hl=>?_,?_⟩
 ·rw [e] at hl
  simp [List.dropLast] at hl
  subst hl
  cases rest with
  | nil =>
    intro t m ht hm
    rw [List.nil_append] at ht
    obtain ⟨n,_,h5⟩:=zGo ht
    have h6:t=s:=by
     have hl:t.length=s.length:=by
      have h7:=congrArg List.length h5
      simp [sealL,zEp,hex2] at h7
      exact h7
     have h8:(sealL t).take t.length=(sealL s).take s.length:=by rw [h5,hl]
     simpa [sealL] using h8
    exact h2 m (by rw [←h6];exact hm)
  | cons x l=>exact zNY (zHY (zOq.1 h1 x List.mem_cons_self))
 ·rw [e]
  simp [zNo]
theorem zLt {s:Bytes} {m:Msg} (h:zAo s=some m):m.kind=s.takeWhile (· != 32):=by
 have key:∀(l:Bytes) (a:Bytes) (r:List Bytes),cut 32 l=a::r→a=l.takeWhile (· != 32):=by
  intro l
  induction l with
  | nil=>intro a r h;simp [cut] at h;simp [h.1]
  | cons x l ih =>
    intro a r h
    obtain ⟨b,q,h1,h2⟩:=zCy 32 x l
    rw [h2] at h
    by_cases hx:x=32
    ·rw [if_pos hx] at h
     subst hx
     rw [←(List.cons.inj h).1];rfl
    ·rw [if_neg hx] at h
     rw [←(List.cons.inj h).1,ih b q h1]
     rw [List.takeWhile_cons,if_pos (by simpa using hx)]
 unfold zAo at h
 split at h
 ·rename_i k hc
  have:=key _ _ _ hc
  split at h
  ·cases h;exact this
  ·cases h
 ·rename_i k a hc
  have:=key _ _ _ hc
  split at h
  ·obtain ⟨i,hi,rfl⟩:=Option.map_eq_some_iff.1 h
   exact this
  ·cases h
 ·rename_i k a b hc
  have:=key _ _ _ hc
  split at h
  ·simp only [Option.bind_eq_some_iff,Option.map_eq_some_iff] at h
   obtain ⟨i,hi,n,hn,rfl⟩:=h
   exact this
  ·cases h
 ·rename_i k a b d hc
  have:=key _ _ _ hc
  split at h
  ·simp only [Option.bind_eq_some_iff] at h
   obtain ⟨i,hi,n,hn,h⟩:=h
   split at h
   ·cases h;exact this
   ·cases h
  ·split at h
   ·simp only [Option.bind_eq_some_iff] at h
    obtain ⟨i,hi,h⟩:=h
    split at h
    ·cases h;exact this
    ·cases h
   ·cases h
 ·cases h
end Go.Proofs.YtaejfobbogahmaaGreatDoor
