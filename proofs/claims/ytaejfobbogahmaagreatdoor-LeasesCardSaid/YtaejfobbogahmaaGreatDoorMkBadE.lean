/-
  PlayB BadE BadS BadU: texts of their own, joined.
-/
import Derived.Test.YtaejfobbogahmaaGreatDoorMkOps
import Derived.Test.YtaejfobbogahmaaGreatDoorMkLawN
import Derived.Test.YtaejfobbogahmaaGreatDoorMkRNum
import Derived.Test.YtaejfobbogahmaaGreatDoorMkPure
import Derived.Test.YtaejfobbogahmaaGreatDoorMkMLine
set_option maxRecDepth 100000
set_option maxHeartbeats 16000000
set_option linter.all false
namespace Go.Proofs.YtaejfobbogahmaaGreatDoor
open Go Go.RowKit
def zSb (o:OpD):Prop:=o.kind=1∨(o.kind=4∧noLet o.s)∨(o.kind=3∧zAo o.s=none∧∀c∈o.s,c≠10)
open Go
theorem zHW (p:Bytes):zAv p []=[p]:=by simp [zAv,cut]
theorem zHX (p t:Bytes):zAv p (10::t)=p::zAv [] t:=by
 unfold zAv
 obtain ⟨a,r,h1,h2⟩:=zCy 10 10 t
 rw [h2,if_pos rfl,h1]
 simp
theorem zGB (p t:Bytes) {x:UInt8} (hx:x≠10):zAv p (x::t)=zAv (p++[x]) t:=by
 unfold zAv
 obtain ⟨a,r,h1,h2⟩:=zCy 10 x t
 rw [h2,if_neg hx,h1]
 simp
theorem zJN (p t:Bytes):zAv p t≠[]:=by
 unfold zAv
 split<;>simp
theorem zSc (p:Bytes) (x:UInt8):(if (p.take 81).length≤80 then p.take 81++[x] else p.take 81)=(p++[x]).take 81:=by
 by_cases h:p.length≤80
 ·rw [List.take_of_length_le (by omega:p.length≤81),if_pos h,List.take_of_length_le (by simp;omega)]
 ·rw [if_neg (by simp;omega),List.take_append_of_le_length (by omega)]
theorem zEf:∀(t p:Bytes),zAT (p.take 81) t=((zAv p t).dropLast.map (·.take 81),((zAv p t).getLastD []).take 81)
 | [],p=>by simp [zAT,zHW]
 | x::t,p=>by
   by_cases hx:x=10
   ·subst hx
    have ih:=zEf t []
    rw [List.take_nil] at ih
    rw [zHX,zAT,if_pos rfl,ih]
    have hne:=zJN [] t
    obtain ⟨a,l,hl⟩:=List.exists_cons_of_ne_nil hne
    rw [hl]
    simp [List.dropLast]
   ·rw [zGB p t hx,zAT,if_neg hx,zSc]
    exact zEf t (p++[x])
theorem zJO (l:Bytes):zBG (l.take 81)=zBG l:=by
 by_cases h:l.length≤81
 ·rw [List.take_of_length_le h]
 ·unfold zBG
  rw [if_pos (.inr (by simp;omega)),if_pos (.inr (by omega))]
theorem zQk {l:Bytes} (h:noMsg l):noMsg (l.take 81):=fun t ht=>h t (by rw [←zJO];exact ht)
theorem zJP {r:Raw} {c:Int} {l:Bytes} (h:noMsg l):rLine r c l=rSay r c [wBad]:=by
 unfold rLine
 cases ho:zBG l with
 | none=>rfl
 | some t=>simp only [];rw [h t ho]
theorem zGC {V:Type} {l:List (Int×V)} {k:Int} (v:V) (h:aget l k=none):aset l k v=l++[(k,v)]:=by
 induction l with
 | nil=>rfl
 | cons p r ih =>
   obtain ⟨a,x⟩:=p
   unfold aget at h
   by_cases e:a=k
   ·rw [if_pos e] at h;cases h
   ·rw [if_neg e] at h
    unfold aset
    rw [if_neg e,ih h];rfl
def cnOf (p:Int×Cn):MCn:=⟨p.1,p.2.rest,p.2.drains,p.2.gone⟩
theorem zMp (c:Int):∀l:List (Int×Cn),(l.map cnOf).any (fun x=>decide (x.n=c))=(aget l c).isSome
 | []=>rfl
 | (a,x)::l=>by
   rw [List.map_cons,List.any_cons,zMp c l]
   simp only [aget]
   by_cases e:a=c
   ·rw [if_pos e];simp [cnOf,e]
   ·rw [if_neg e];simp [cnOf,e]
theorem zKW (c:Int) (b:Bytes):∀(l:List (Int×Cn)) (x:Cn),aget l c=some x→zCe c b (l.map cnOf)=(aset l c {x with rest:=b}).map cnOf
 | [],x,h=>by cases h
 | (a,y)::l,x,h=>by
   simp only [aget] at h
   simp only [List.map_cons,zCe,aset]
   by_cases e:a=c
   ·rw [if_pos e] at h
    cases h
    rw [if_pos (show (cnOf (a,y)).n=c from e),if_pos e,List.map_cons,←e]
    rfl
   ·rw [if_neg e] at h
    rw [if_neg (show ¬(cnOf (a,y)).n=c from e),if_neg e,List.map_cons,zKW c b l x h]
theorem zKX (c:Int):∀l:List (Int×Cn),(match (l.map cnOf).find? fun x=>decide (x.n=c) with | none=>[] | some x=>x.rest)=(match aget l c with | none=>[] | some x=>x.rest)
 | []=>rfl
 | (a,x)::l=>by
   simp only [List.map_cons,List.find?_cons,aget]
   by_cases e:a=c
   ·rw [if_pos e,decide_eq_true (show (cnOf (a,x)).n=c from e)];rfl
   ·rw [if_neg e,decide_eq_false (show ¬(cnOf (a,x)).n=c from e)]
    exact zKX c l
theorem zIa (r:Raw) (c:Int):mHas (refOf r) c=(aget r.conns c).isSome:=zMp c r.conns
theorem zCf (r:Raw) (c:Int):mConn (refOf r) c=refOf (rConn r c):=by
 unfold mConn rConn
 rw [zIa]
 cases h:aget r.conns c with
 | some x=>rfl
 | none =>
   simp only [Option.isSome_none,Bool.false_eq_true,if_false]
   unfold refOf
   simp only []
   rw [zGC _ h,List.map_append]
   rfl
theorem zMq {r:Raw} {c:Int} (h:zAh r c=true) (b:Bytes):mRest (refOf r) c b=refOf (rRest r c b):=by
 unfold zAh at h
 obtain ⟨x,hx⟩:=Option.isSome_iff_exists.1 h
 unfold mRest rRest
 rw [hx]
 have:=zKW c b r.conns x hx
 show {refOf r with conns:=zCe c b (r.conns.map cnOf)}=_
 rw [this]
 rfl
theorem zJQ (r:Raw) (c:Int):zDy (refOf r) c=zBA r c:=zKX c r.conns
def zKY (c:Int):Nat→Raw→Raw
 | 0,r=>r
 | n+1,r=>zKY c n (rSay r c [wBad])
theorem zMr (c:Int):∀(n:Nat) (r:Raw),zKY c n r={r with out:=r.out++List.replicate n (c,sealL wBad)}
 | 0,r=>by simp [zKY]
 | n+1,r=>by
   rw [zKY,zMr c n]
   unfold rSay
   simp [List.replicate_succ,words]
theorem zPe (c:Int):∀(ls:List Bytes) (r:Raw),(∀l∈ls,noMsg l)→ls.foldl (fun r l=>rLine r c l) r=zKY c ls.length r
 | [],r,_=>rfl
 | l::ls,r,h=>by
   rw [List.foldl_cons,zJP (h l List.mem_cons_self),zPe c ls _ (fun x hx=>h x (List.mem_cons_of_mem _ hx))]
   rfl
theorem zSd {r:Raw} (hF:Few r) (c:Int) (t:Bytes) (h:∀l∈(zAv (zBA (rConn r c) c) t).dropLast,noMsg l) :
 rFeed r c t=zKY c (zAv (zBA (rConn r c) c) t).dropLast.length (rRest (rConn r c) c (((zAv (zBA (rConn r c) c) t).getLastD []).take 81)):=by
 unfold rFeed
 have hr:(zBA (rConn r c) c).take 81=zBA (rConn r c) c:=List.take_of_length_le ((hF.conn c).rest c)
 have e:=zEf t (zBA (rConn r c) c)
 rw [hr] at e
 simp only [e]
 rw [zPe,List.length_map]
 intro l hl
 obtain ⟨l',h1,rfl⟩:=List.mem_map.1 hl
 exact zQk (h l' h1)
def badSt (m:RefM) (c:Int) (j:Nat):RefM:={mConn m c with out:=(mConn m c).out++List.replicate j (c,sealL wBad)}
theorem zSe (m:RefM) (c:Int) (j:Nat):mSay (badSt m c j) c wBad=badSt m c (j+1):=by
 unfold mSay badSt
 simp [List.replicate_succ']
theorem zMs {r:Raw} (hF:Few r) (c:Int) (t:Bytes) (h:∀l∈(zAv (zBA (rConn r c) c) t).dropLast,noMsg l) :
 mRest (mConn (badSt (refOf r) c (zAv (zBA (rConn r c) c) t).dropLast.length) c) c (((zAv (zBA (rConn r c) c) t).getLastD []).take 81)=refOf (rFeed r c t):=by
 rw [zSd hF c t h,zMr]
 have hown:=zBu r c
 have e1:mConn (badSt (refOf r) c (zAv (zBA (rConn r c) c) t).dropLast.length) c=badSt (refOf r) c (zAv (zBA (rConn r c) c) t).dropLast.length:=by
  have:mHas (badSt (refOf r) c (zAv (zBA (rConn r c) c) t).dropLast.length) c=true:=by
   show mHas (mConn (refOf r) c) c=true
   rw [zCf,zIa];exact hown
  unfold mConn
  rw [if_pos this]
 rw [e1]
 unfold badSt
 rw [zCf]
 have e2:=zMq hown (((zAv (zBA (rConn r c) c) t).getLastD []).take 81)
 have e3:(rRest (rConn r c) c (((zAv (zBA (rConn r c) c) t).getLastD []).take 81)).out=(rConn r c).out:=by
  unfold rRest;split<;>rfl
 generalize ((zAv (zBA (rConn r c) c) t).getLastD []).take 81=T at *
 rw [e3]
 have e4:∀(m:RefM) (o:List (Int×Bytes)),mRest {m with out:=o} c T={mRest m c T with out:=o}:=fun m o=>rfl
 rw [e4,e2]
 rfl
theorem zMt {x:UInt8} {l:Bytes} {m:Msg} (h:zAo (x::l)=some m):isLet x=true:=by
 obtain ⟨a,r,h1,h2⟩:=zCy 32 x l
 by_cases hx:x=32
 ·rw [if_pos hx,h1] at h2
  rw [zHT h2] at h
  match r,h with
  | [],h=>simp only [] at h;rw [if_neg (by decide)] at h;cases h
  | [b],h=>simp only [] at h;rw [if_neg (by decide)] at h;cases h
  | [b,c],h=>simp only [] at h;rw [if_neg (by decide),if_neg (by decide)] at h;cases h
  | b::c::d::e,h=>cases h
 ·rw [if_neg hx] at h2
  rw [zHT h2] at h
  have hk:∀{k:Bytes},x::a=k→isLet (k.headD 0)=true→isLet x=true:=fun e1 e2=>by rw [←e1] at e2;exact e2
  match r,h with
  | [],h =>
    simp only [] at h
    split at h
    ·rename_i h3
     rcases h3 with h3 | h3 | h3
     ·exact hk h3 (by decide)
     ·exact hk h3 (by decide)
     ·exact hk h3 (by decide)
    ·cases h
  | [b],h =>
    simp only [] at h
    split at h
    ·rename_i h3;exact hk h3 (by decide)
    ·cases h
  | [b,c],h =>
    simp only [] at h
    split at h
    ·rename_i h3;exact hk h3 (by decide)
    ·cases h
  | [b,c,d],h =>
    simp only [] at h
    split at h
    ·rename_i h3;exact hk h3 (by decide)
    ·split at h
     ·rename_i h3;exact hk h3 (by decide)
     ·cases h
  | b::c::d::e::f,h=>cases h
theorem zJR:zAo []=none:=by decide
theorem zGo {l t:Bytes} (h:zBG l=some t):∃n,t=l.take n∧sealL t=l:=by
 unfold zBG at h
 split at h
 ·cases h
 ·split at h
  ·rename_i h2
   cases h
   exact ⟨_,rfl,h2⟩
  ·cases h
theorem zHY {x:UInt8} {l:Bytes} (h:isLet x=false):noMsg (x::l):=fun t ht=>by
 obtain ⟨n,h1,_⟩:=zGo ht
 cases n with
 | zero=>rw [h1];exact zJR
 | succ n =>
   rw [List.take_succ_cons] at h1
   rw [h1]
   cases hr:zAo (x::l.take n) with
   | none=>rfl
   | some m=>rw [zMt hr] at h;cases h
theorem zPf {l:Bytes} (h:noLet l):noMsg l:=by
 cases l with
 | nil=>intro t ht;obtain ⟨n,h1,_⟩:=zGo ht;rw [h1];simp [zJR]
 | cons x l=>exact zHY (h x List.mem_cons_self)
theorem zFY:∀(t p:Bytes),∀l∈zAv p t,∀c∈l,c∈p∨c∈t
 | [],p,l,hl,c,hc=>by rw [zHW] at hl;simp at hl;subst hl;exact .inl hc
 | x::t,p,l,hl,c,hc=>by
   by_cases hx:x=10
   ·subst hx
    rw [zHX] at hl
    rcases List.mem_cons.1 hl with rfl | hl
    ·exact .inl hc
    ·rcases zFY t [] l hl c hc with h | h
     ·cases h
     ·exact .inr (List.mem_cons_of_mem _ h)
   ·rw [zGB p t hx] at hl
    rcases zFY t _ l hl c hc with h | h
    ·rcases List.mem_append.1 h with h | h
     ·exact .inl h
     ·simp at h;subst h;exact .inr List.mem_cons_self
    ·exact .inr (List.mem_cons_of_mem _ h)
theorem zGD:∀(t p:Bytes),(∀c∈t,c≠10)→zAv p (t++[10])=[p++t,[]]
 | [],p,_=>by rw [List.nil_append,zHX,zHW];simp
 | x::t,p,h=>by
   rw [List.cons_append,zGB _ _ (h x List.mem_cons_self),zGD t _ (fun c hc=>h c (List.mem_cons_of_mem _ hc))]
   simp
theorem zSf (n:UInt8) (h:n.toNat < 16):hexD n≠10:=by
 have:∀k:Nat,k < 16→hexD (UInt8.ofNat k)≠10:=by decide
 have h2:=this n.toNat h
 simpa using h2
theorem zLh (c:UInt8):∀x∈hex2 c,x≠10:=by
 intro x hx
 unfold hex2 at hx
 have h1:=c.toNat_lt
 simp only [List.mem_cons,List.not_mem_nil,or_false] at hx
 rcases hx with rfl | rfl
 ·exact zSf _ (by rw [UInt8.toNat_div];simp;omega)
 ·exact zSf _ (by rw [UInt8.toNat_mod];simp;omega)
theorem zSg {s:Bytes} (h:∀c∈s,c≠10):∀c∈sealL s,c≠10:=by
 intro c hc
 unfold sealL zEp at hc
 simp only [List.mem_append,List.mem_cons] at hc
 rcases hc with hc | rfl | ((hc | hc) | hc) | hc
 ·exact h c hc
 ·decide
 ·exact zLh _ c hc
 ·exact zLh _ c hc
 ·exact zLh _ c hc
 ·exact zLh _ c hc
structure zDs (U:Nat) (p:DP):Prop where
 eq:p.m=refOf p.r
 inv:Inv U (4*U) p.r
 few:Few p.r
 cns:p.r.conns.length≤U
 out:p.r.out=[]
 no:∀c x,(c,x)∈p.r.conns→noLet x.rest
theorem zDs.mono {U U':Nat} {p:DP} (h:zDs U p) (hU:U≤U'):zDs U' p:=⟨h.eq,h.inv.mono hU (by omega),h.few,Nat.le_trans h.cns hU,h.out,h.no⟩
theorem zDs.new {D M:Nat} {c:Cfg} (h:cfgOk c=true):zDs 0 ⟨D,M,rNew c,mNew c⟩:=⟨rfl,Inv.init h,Few.init c,Nat.le_refl _,rfl,fun _ _ h=>by cases h⟩
theorem zJS (r:Raw):(refOf r).conns.length=r.conns.length:=by simp [refOf]
theorem zJT (c:Int) (b:Bytes):∀l:List MCn,(zCe c b l).length=l.length
 | []=>rfl
 | x::l=>by
   unfold zCe
   split
   ·rfl
   ·simp [zJT c b l]
theorem zMu (m:RefM) (c:Int):(mConn m c).conns.length≤m.conns.length+1:=by
 unfold mConn
 split
 ·omega
 ·simp
theorem zMv {c d:Int} {b:Bytes}:∀{l:List MCn} {x:MCn},x∈zCe c b l→x.rest=b∨x∈l
 | [],x,h=>by cases h
 | y::l,x,h=>by
   unfold zCe at h
   split at h
   ·rcases List.mem_cons.1 h with rfl | h
    ·exact .inl rfl
    ·exact .inr (List.mem_cons_of_mem _ h)
   ·rcases List.mem_cons.1 h with rfl | h
    ·exact .inr List.mem_cons_self
    ·exact (zMv (d:=d) h).imp id (List.mem_cons_of_mem _)
theorem zKZ {U:Nat} {p:DP} (h:zDs U p) (c:Int):noLet (zBA (rConn p.r c) c):=by
 unfold zBA
 cases hx:aget (rConn p.r c).conns c with
 | none=>intro x hx;cases hx
 | some x =>
   have hm:=zBV hx
   unfold rConn at hm
   split at hm
   ·exact h.no _ _ hm
   ·rename_i h1
    have h2:aget p.r.conns c=none:=by
     cases h3:aget p.r.conns c with
     | none=>rfl
     | some y=>rw [h3] at h1;exact absurd rfl h1
    simp only [] at hm
    rw [zGC _ h2] at hm
    rcases List.mem_append.1 hm with hm | hm
    ·exact h.no _ _ hm
    ·simp at hm
     rw [hm]
     intro x hx;cases hx
structure zJU (rest t:Bytes):Prop where
 lines:∀l∈(zAv rest t).dropLast,noMsg l
 last:noLet (((zAv rest t).getLastD []).take 81)
theorem zMw {α:Type} {l:List α} {d:α} (h:l≠[]):l.getLastD d∈l:=by
 rw [List.getLastD_eq_getLast?,List.getLast?_eq_some_getLast h]
 exact List.getLast_mem h
theorem zMx {rest t:Bytes} (h1:noLet rest) (h2:noLet t):zJU rest t:=by
 have key:∀l∈zAv rest t,noLet l:=fun l hl c hc=>(zFY t rest l hl c hc).elim (h1 c) (h2 c)
 exact ⟨fun l hl=>zPf (key l ((List.dropLast_sublist _).subset hl)),fun c hc=>key _ (zMw (zJN rest t)) c (List.mem_of_mem_take hc)⟩
theorem zOU {rest s:Bytes} (h1:noLet rest) (h2:zAo s=none) (h3:∀c∈s,c≠10):zJU rest (sealL s++[10]):=by
 have e:=zGD (sealL s) rest (zSg h3)
 refine ⟨fun l hl=>?_,?_⟩
 ·rw [e] at hl
  simp [List.dropLast] at hl
  subst hl
  cases rest with
  | nil =>
    intro t ht
    rw [List.nil_append] at ht
    obtain ⟨n,_,h5⟩:=zGo ht
    have h6:t=s:=by
     have hl:t.length=s.length:=by
      have h7:=congrArg List.length h5
      simp [sealL,zEp,hex2] at h7
      exact h7
     have h8:(sealL t).take t.length=(sealL s).take s.length:=by rw [h5,hl]
     simpa [sealL] using h8
    rw [h6];exact h2
  | cons x l=>exact zHY (h1 x List.mem_cons_self)
 ·rw [e]
  intro c hc
  simp at hc
theorem zDs.fed {U:Nat} {p:DP} (h:zDs U p) (c:Int) (t:Bytes) (hb:zJU (zBA (rConn p.r c) c) t):zDs (U+t.length+1) ⟨p.D,p.M,rTold (rFeed p.r c t),refOf (rTold (rFeed p.r c t))⟩:=by
 have hag:=zMs h.few c t hb.lines
 have hcl:(rFeed p.r c t).conns.length≤p.r.conns.length+1:=by
  rw [←zJS,←hag]
  have h1:∀m:RefM,∀b,(mRest m c b).conns.length=m.conns.length:=fun m b=>zJT c b m.conns
  rw [h1]
  have h2:mHas (badSt (refOf p.r) c (zAv (zBA (rConn p.r c) c) t).dropLast.length) c=true:=by
   show mHas (mConn (refOf p.r) c) c=true
   rw [zCf,zIa];exact zBu p.r c
  have h3:mConn (badSt (refOf p.r) c (zAv (zBA (rConn p.r c) c) t).dropLast.length) c=badSt (refOf p.r) c (zAv (zBA (rConn p.r c) c) t).dropLast.length:=by
   unfold mConn;rw [if_pos h2]
  rw [h3]
  have:=zMu (refOf p.r) c
  rw [zJS] at this
  exact this
 refine ⟨rfl,((h.inv.feed c t).told).mono (by omega) (by omega),(h.few.feed c t).told,?_,rfl,?_⟩
 ·show (rFeed p.r c t).conns.length≤_
  have:=h.cns
  omega
 ·intro d x hx
  have hx:(d,x)∈(rFeed p.r c t).conns:=hx
  have hx2:cnOf (d,x)∈(refOf (rFeed p.r c t)).conns:=List.mem_map_of_mem hx
  rw [←hag] at hx2
  rcases zMv (d:=c) hx2 with h4 | h4
  ·show noLet (cnOf (d,x)).rest
   rw [h4];exact hb.last
  ·have h2:mHas (badSt (refOf p.r) c (zAv (zBA (rConn p.r c) c) t).dropLast.length) c=true:=by
    show mHas (mConn (refOf p.r) c) c=true
    rw [zCf,zIa];exact zBu p.r c
   have h3:mConn (badSt (refOf p.r) c (zAv (zBA (rConn p.r c) c) t).dropLast.length) c=badSt (refOf p.r) c (zAv (zBA (rConn p.r c) c) t).dropLast.length:=by
    unfold mConn;rw [if_pos h2]
   rw [h3] at h4
   have h5:cnOf (d,x)∈(mConn (refOf p.r) c).conns:=h4
   unfold mConn at h5
   split at h5
   ·obtain ⟨y,hy,hy2⟩:=List.mem_map.1 h5
    have:noLet (cnOf y).rest:=h.no y.1 y.2 hy
    show noLet (cnOf (d,x)).rest
    have e:cnOf y=cnOf (d,x):=hy2
    rw [←e];exact this
   ·rcases List.mem_append.1 h5 with h6 | h6
    ·obtain ⟨y,hy,hy2⟩:=List.mem_map.1 h6
     have:noLet (cnOf y).rest:=h.no y.1 y.2 hy
     show noLet (cnOf (d,x)).rest
     have e:cnOf y=cnOf (d,x):=hy2
     rw [←e];exact this
    ·simp at h6
     show noLet (cnOf (d,x)).rest
     rw [h6]
     intro z hz;cases hz
section
variable {G V k:Nat} {w0 w w':World} {ps:List DP}
theorem zUr {U:Nat} {p:DP} (h:zDs U p) (hU:U≤90000000000) (c:Int) (t:Bytes) (ht:t.length≤1000000000) (hb:zJU (zBA (rConn p.r c) c) t) (W:World) (σ:Nat→Role) (ML:MLay) (hM:MRep W σ G p.M ML p.m) :
 Calls Tryz.prog 85 #[vp p.M,vi c,vs (bs t)] W (zDS W σ G p.M (refOf (rFeed p.r c t))):=by
 rw [h.eq] at hM
 have hr:zDy (mConn (refOf p.r) c) c=zBA (rConn p.r c) c:=by rw [zCf,zJQ]
 have hrl:=(h.few.conn c).rest c
 have hcn:(refOf p.r).conns.length≤U:=by rw [zJS];exact h.cns
 have hml:=zMu (refOf p.r) c
 have hout:(refOf p.r).out=[]:=h.out
 have hlc:(zAv (zBA (rConn p.r c) c) t).length≤t.length+1:=by
  unfold zAv
  have h1:=zFT 10 t
  split
  ·simp
  ·rename_i a l he;rw [he] at h1;simpa using h1
 have key:=zJI hM c t ht (by rw [hr];omega) (by omega) (badSt (refOf p.r) c) (by unfold badSt;simp) (by show (mConn (refOf p.r) c).conns.length≤_;omega) (fun j l hj hl ρ1 L1 W1 h1=>?_)
 ·rw [hr,zMs h.few c t hb.lines] at key
  exact key
 ·rw [hr] at hj
  have hm:=hb.lines l (List.mem_of_getElem? hj)
  have hjl:=(List.getElem?_eq_some_iff.1 hj).1
  have ho:(badSt (refOf p.r) c j).out.length≤1000000000000:=by
   unfold badSt
   have h2:(mConn (refOf p.r) c).out=[]:=by unfold mConn;split<;>exact hout
   rw [h2]
   simp at hjl ⊢
   omega
  rw [←zSe]
  exact zMj h1 c l (by omega) hm ho
theorem zSh {U:Nat} (h:LawAt G w0 V ps k w) (hok:∀p∈ps,zDs U p) (hU:U≤30000000) (hk:k≤10000000) (hn:ps.length≤10000000) (o:OpD) (hp:zSb o) (hw:wfOp o) (hs:o.s.length≤1048576) :
 Calls Tryz.prog 44 #[vp V,.agg (zAi o)] w fun e w'=>e=.returned (.bool true)∧∃ps' k',LawAt G w0 V ps' k' w'∧(∀p∈ps',zDs (U+o.s.length+20) p)∧ps'.length≤ps.length+1∧k'≤k+1:=by
 rcases hp with hp | hp
 ·cases hc:cfgOk o.c with
  | false =>
    refine (zHw h o hp hc).mono ?_
    rintro e w' ⟨rfl,h1⟩
    exact ⟨rfl,ps,k,h1,fun p hp=>(hok p hp).mono (by omega),by omega,by omega⟩
  | true =>
    refine (zJM h (by omega) o hp hc).mono ?_
    rintro e w' ⟨rfl,D,M,h1⟩
    refine ⟨rfl,_,k,h1,fun p hp=>?_,by simp,by omega⟩
    rcases List.mem_append.1 hp with hp | hp
    ·exact (hok p hp).mono (by omega)
    ·simp at hp
     rw [hp]
     exact (zDs.new hc).mono (Nat.zero_le _)
 ·have hkd:o.kind=3∨o.kind=4:=hp.elim (fun h=>.inr h.1) (fun h=>.inl h.1)
  by_cases he:ps=[]
  ·subst he
   refine (zGn h o (by omega) (by omega)).mono ?_
   rintro e w' ⟨rfl,h1⟩
   exact ⟨rfl,[],k,h1,fun p hp=>(by cases hp),by simp,by omega⟩
  ·have hpos:0 < ps.length:=List.length_pos_iff.2 he
   obtain ⟨p,hpp⟩:∃p,ps[pickI o.a ps.length]?=some p:=⟨_,List.getElem?_eq_getElem (zPd _ hpos)⟩
   have hpo:=hok p (List.mem_of_getElem? hpp)
   have htl:(zBx o).length≤o.s.length+10:=by
    unfold zBx
    split
    ·simp [sealL,zEp,hex2]
    ·omega
   have hbt:zJU (zBA (rConn p.r o.b) o.b) (zBx o):=by
    rcases hp with ⟨h1,h2⟩ | ⟨h1,h2,h3⟩
    ·unfold zBx;rw [if_neg (by omega)]
     exact zMx (zKZ hpo o.b) h2
    ·unfold zBx;rw [if_pos h1]
     exact zOU (zKZ hpo o.b) h2 h3
   refine (zMo h (by omega) (by omega) o hkd (by omega) hw.2.1 hpp hpo.inv hpo.few (by unfold NB;omega) (by unfold NB;omega) (fun W σ ML hM=>zUr hpo (by omega) o.b (zBx o) (by omega) hbt W σ ML hM)).mono ?_
   rintro e w' ⟨rfl,h1⟩
   refine ⟨rfl,_,k+1,h1,fun q hq=>?_,by simp,by omega⟩
   rcases List.mem_or_eq_of_mem_set hq with hq | rfl
   ·exact (hok q hq).mono (by omega)
   ·exact (hpo.fed o.b (zBx o) hbt).mono (by omega)
end
def usedU (ops:List OpD) (k:Nat):Nat:=((ops.take k).map fun o=>o.s.length+20).sum
theorem zFZ {ops:List OpD} {k:Nat} {o:OpD} (h:ops[k]?=some o):usedU ops (k+1)=usedU ops k+(o.s.length+20):=by
 unfold usedU
 rw [List.take_add_one,h]
 simp
theorem zOV (l:List Nat) (k:Nat):(l.take k).sum≤l.sum:=by
 have h:=congrArg List.sum (List.take_append_drop k l)
 rw [List.sum_append] at h
 omega
theorem zPg (ops:List OpD) (k:Nat):usedU ops k≤20*ops.length+(ops.map fun o=>o.s.length).sum:=by
 unfold usedU
 rw [List.map_take]
 refine Nat.le_trans (zOV _ k) ?_
 induction ops with
 | nil=>simp
 | cons o l ih=>simp only [List.map_cons,List.sum_cons,List.length_cons];omega
theorem zJV:∀(ops:List OpD) (n m:Nat),zEe n ops=some m→m=n+(ops.map fun o=>o.s.length).sum
 | [],n,m,h=>by cases h;simp
 | o::l,n,m,h=>by
   unfold zEe at h
   by_cases h1:1048576 < n+o.s.length
   ·rw [if_pos h1] at h;cases h
   ·rw [if_neg h1] at h
    have:=zJV l _ _ h
    simp only [List.map_cons,List.sum_cons]
    omega
theorem zSi {ops:List OpD} (h:zDT ops=true):ops.length+(ops.map fun o=>o.s.length).sum≤1048576:=by
 unfold zDT at h
 cases hs:zEe ops.length ops with
 | none=>rw [hs] at h;cases h
 | some m =>
   rw [hs] at h
   have:=zJV ops _ _ hs
   have h2:m≤1048576:=of_decide_eq_true h
   omega
theorem zFa:∀{l:List Nat} {x:Nat},x∈l→x≤l.sum
 | a::l,x,h=>by
   rcases List.mem_cons.1 h with rfl | h
   ·simp
   ·have:=zFa h;simp;omega
theorem LawAt.start {G:Nat} {w:World} (hE:Env G w) (hG:G≤w.heap.size):LawAt G w w.heap.size [] 0 (w.alloc (.cells #[.slice none 0 0,.slice none 0 0,.bool false] 103)):=by
 refine ⟨fun b=>if b=w.heap.size then (1,0) else (0,0),.slice none 0 0,.slice none 0 0,[],⟨⟨by simp,zAD w⟩,SlAt.nil,SlAt.nil,fun k v h=>by simp at h,fun i p h=>by simp at h,fun i p h=>by simp at h,fun b hb=>?_,(Below.refl _ w).alloc (Nat.le_refl _) _,hE.alloc _,hG⟩,rfl⟩
 by_cases e:b=w.heap.size
 ·subst e;exact ⟨Nat.le_refl _,by simp⟩
 ·rw [if_neg e] at hb;exact absurd rfl hb
def BadAt (G:Nat) (w0:World) (V:Nat) (ops:List OpD) (k:Nat) (w:World):Prop:=∃ps n,LawAt G w0 V ps n w∧(∀p∈ps,zDs (usedU ops k) p)∧ps.length≤k∧n≤k
theorem BadAt.grow {G V k:Nat} {w0 w w':World} {ops:List OpD} (h:BadAt G w0 V ops k w) (hb:Below w.heap.size w w'):BadAt G w0 V ops k w':=by
 obtain ⟨ps,n,h1,h2⟩:=h
 exact ⟨ps,n,h1.grow hb,h2⟩
theorem BadAt.below {G V k:Nat} {w0 w:World} {ops:List OpD} (h:BadAt G w0 V ops k w):Below w0.heap.size w0 w:=by
 obtain ⟨ps,n,⟨tg,dsv,lsv,lss,h1,_⟩,_⟩:=h
 exact h1.below
theorem BadAt.next {G V k:Nat} {w0 w:World} {ops:List OpD} (h:BadAt G w0 V ops k w) {o:OpD} (ho:ops[k]?=some o):BadAt G w0 V ops (k+1) w:=by
 obtain ⟨ps,n,h1,h2,h3,h4⟩:=h
 exact ⟨ps,n,h1,fun p hp=>(h2 p hp).mono (by rw [zFZ ho];omega),by omega,by omega⟩
theorem BadAt.step {G V k:Nat} {w0 w:World} {ops:List OpD} (h:BadAt G w0 V ops k w) {o:OpD} (ho:ops[k]?=some o) (hs:ops.length+(ops.map fun o=>o.s.length).sum≤1048576) (hp:zSb o) (hw:wfOp o) :
 Calls Tryz.prog 44 #[vp V,.agg (zAi o)] w fun e w'=>e=.returned (.bool true)∧BadAt G w0 V ops (k+1) w':=by
 obtain ⟨ps,n,h1,h2,h3,h4⟩:=h
 have hk:=(List.getElem?_eq_some_iff.1 ho).1
 have hu:=zPg ops k
 have hol:o.s.length≤(ops.map fun o=>o.s.length).sum:=zFa (List.mem_map_of_mem (List.mem_of_getElem? ho))
 refine (zSh h1 h2 (by omega) (by omega) (by omega) o hp hw (by omega)).mono ?_
 rintro e w' ⟨rfl,ps',k',q1,q2,q3,q4⟩
 exact ⟨rfl,ps',k',q1,fun p hp=>by rw [zFZ ho];exact q2 p hp,by omega,by omega⟩
end Go.Proofs.YtaejfobbogahmaaGreatDoor
