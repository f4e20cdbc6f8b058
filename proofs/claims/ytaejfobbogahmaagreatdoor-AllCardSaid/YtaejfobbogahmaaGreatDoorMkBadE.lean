/-
  PlayB BadE BadS BadU: texts of their own, joined.
-/
import Derived.Test.YtaejfobbogahmaaGreatDoorMkLawN
set_option maxRecDepth 100000
set_option maxHeartbeats 16000000
set_option linter.all false
namespace Go.Proofs.YtaejfobbogahmaaGreatDoor
open Go Go.RowKit
def zMA (o:OpD):Prop:=o.kind=1∨(o.kind=4∧zAg o.s)∨(o.kind=3∧zz o.s=none∧∀c∈o.s,c≠10)
open Go
theorem zIL (p:zA):zg p []=[p]:=by simp [zg,cut]
theorem zIM (p t:zA):zg p (10::t)=p::zg [] t:=by
 unfold zg
 obtain ⟨a,r,h1,h2⟩:=zDC 10 10 t
 rw [h2,if_pos rfl,h1]
 simp
theorem zIN (p t:zA) {x:UInt8} (hx:x≠10):zg p (x::t)=zg (p++[x]) t:=by
 unfold zg
 obtain ⟨a,r,h1,h2⟩:=zDC 10 x t
 rw [h2,if_neg hx,h1]
 simp
theorem zMB (p t:zA):zg p t≠[]:=by
 unfold zg
 split<;>simp
theorem zTH (p:zA) (x:UInt8):(if (p.take 81).length≤80 then p.take 81++[x] else p.take 81)=(p++[x]).take 81:=by
 by_cases h:p.length≤80
 ·rw [List.take_of_length_le (by omega:p.length≤81),if_pos h,List.take_of_length_le (by simp;omega)]
 ·rw [if_neg (by simp;omega),List.take_append_of_le_length (by omega)]
theorem zGT:∀(t p:zA),zb (p.take 81) t=((zg p t).dropLast.map (·.take 81),((zg p t).getLastD []).take 81)
 | [],p=>by simp [zb,zIL]
 | x::t,p=>by
   by_cases hx:x=10
   ·subst hx
    have ih:=zGT t []
    rw [List.take_nil] at ih
    rw [zIM,zb,if_pos rfl,ih]
    have hne:=zMB [] t
    obtain ⟨a,l,hl⟩:=List.exists_cons_of_ne_nil hne
    rw [hl]
    simp [List.dropLast]
   ·rw [zIN p t hx,zb,if_neg hx,zTH]
    exact zGT t (p++[x])
theorem zMC (l:zA):zu (l.take 81)=zu l:=by
 by_cases h:l.length≤81
 ·rw [List.take_of_length_le h]
 ·unfold zu
  rw [if_pos (.inr (by simp;omega)),if_pos (.inr (by omega))]
theorem zTI {l:zA} (h:zBV l):zBV (l.take 81):=fun t ht=>h t (by rw [←zMC];exact ht)
theorem zMD {r:Raw} {c:Int} {l:zA} (h:zBV l):zj r c l=rSay r c [wBad]:=by
 unfold zj
 cases ho:zu l with
 | none=>rfl
 | some t=>simp only [];rw [h t ho]
theorem zIO {V:Type} {l:List (Int×V)} {k:Int} (v:V) (h:aget l k=none):aset l k v=l++[(k,v)]:=by
 induction l with
 | nil=>rfl
 | cons p r ih =>
   obtain ⟨a,x⟩:=p
   unfold aget at h
   by_cases e:a=k
   ·rw [if_pos e] at h;cases h
   ·rw [if_neg e] at h
    unfold aset
    rw [if_neg e,ih h];rfl
def cnOf (p:Int×Cn):MCn:=⟨p.1,p.2.rest,p.2.drains,p.2.gone⟩
theorem zME (c:Int):∀l:List (Int×Cn),(l.map cnOf).any (fun x=>decide (x.n=c))=(aget l c).isSome
 | []=>rfl
 | (a,x)::l=>by
   rw [List.map_cons,List.any_cons,zME c l]
   simp only [aget]
   by_cases e:a=c
   ·rw [if_pos e];simp [cnOf,e]
   ·rw [if_neg e];simp [cnOf,e]
theorem zMF (c:Int) (b:zA):∀(l:List (Int×Cn)) (x:Cn),aget l c=some x→zAo c b (l.map cnOf)=(aset l c {x with rest:=b}).map cnOf
 | [],x,h=>by cases h
 | (a,y)::l,x,h=>by
   simp only [aget] at h
   simp only [List.map_cons,zAo,aset]
   by_cases e:a=c
   ·rw [if_pos e] at h
    cases h
    rw [if_pos (show (cnOf (a,y)).n=c from e),if_pos e,List.map_cons,←e]
    rfl
   ·rw [if_neg e] at h
    rw [if_neg (show ¬(cnOf (a,y)).n=c from e),if_neg e,List.map_cons,zMF c b l x h]
theorem zMG (c:Int):∀l:List (Int×Cn),(match (l.map cnOf).find? fun x=>decide (x.n=c) with | none=>[] | some x=>x.rest)=(match aget l c with | none=>[] | some x=>x.rest)
 | []=>rfl
 | (a,x)::l=>by
   simp only [List.map_cons,List.find?_cons,aget]
   by_cases e:a=c
   ·rw [if_pos e,decide_eq_true (show (cnOf (a,x)).n=c from e)];rfl
   ·rw [if_neg e,decide_eq_false (show ¬(cnOf (a,x)).n=c from e)]
    exact zMG c l
theorem zGU (r:Raw) (c:Int):mHas (zC r) c=(aget r.conns c).isSome:=zME c r.conns
theorem zBk (r:Raw) (c:Int):zp (zC r) c=zC (zH r c):=by
 unfold zp zH
 rw [zGU]
 cases h:aget r.conns c with
 | some x=>rfl
 | none =>
   simp only [Option.isSome_none,Bool.false_eq_true,if_false]
   unfold zC
   simp only []
   rw [zIO _ h,List.map_append]
   rfl
theorem zMH {r:Raw} {c:Int} (h:zd r c=true) (b:zA):zBh (zC r) c b=zC (xm r c b):=by
 unfold zd at h
 obtain ⟨x,hx⟩:=Option.isSome_iff_exists.1 h
 unfold zBh xm
 rw [hx]
 have:=zMF c b r.conns x hx
 show {zC r with conns:=zAo c b (r.conns.map cnOf)}=_
 rw [this]
 rfl
theorem zMI (r:Raw) (c:Int):zBi (zC r) c=zm r c:=zMG c r.conns
def zDl (c:Int):Nat→Raw→Raw
 | 0,r=>r
 | n+1,r=>zDl c n (rSay r c [wBad])
theorem zMJ (c:Int):∀(n:Nat) (r:Raw),zDl c n r={r with out:=r.out++List.replicate n (c,zi wBad)}
 | 0,r=>by simp [zDl]
 | n+1,r=>by
   rw [zDl,zMJ c n]
   unfold rSay
   simp [List.replicate_succ,zN]
theorem zMK (c:Int):∀(ls:List zA) (r:Raw),(∀l∈ls,zBV l)→ls.foldl (fun r l=>zj r c l) r=zDl c ls.length r
 | [],r,_=>rfl
 | l::ls,r,h=>by
   rw [List.foldl_cons,zMD (h l List.mem_cons_self),zMK c ls _ (fun x hx=>h x (List.mem_cons_of_mem _ hx))]
   rfl
theorem zTJ {r:Raw} (hF:Few r) (c:Int) (t:zA) (h:∀l∈(zg (zm (zH r c) c) t).dropLast,zBV l) :
 yO r c t=zDl c (zg (zm (zH r c) c) t).dropLast.length (xm (zH r c) c (((zg (zm (zH r c) c) t).getLastD []).take 81)):=by
 unfold yO
 have hr:(zm (zH r c) c).take 81=zm (zH r c) c:=List.take_of_length_le ((hF.conn c).rest c)
 have e:=zGT t (zm (zH r c) c)
 rw [hr] at e
 simp only [e]
 rw [zMK,List.length_map]
 intro l hl
 obtain ⟨l',h1,rfl⟩:=List.mem_map.1 hl
 exact zTI (h l' h1)
def zAE (m:RefM) (c:Int) (j:Nat):RefM:={zp m c with out:=(zp m c).out++List.replicate j (c,zi wBad)}
theorem zTK (m:RefM) (c:Int) (j:Nat):mSay (zAE m c j) c wBad=zAE m c (j+1):=by
 unfold mSay zAE
 simp [List.replicate_succ']
theorem zML {r:Raw} (hF:Few r) (c:Int) (t:zA) (h:∀l∈(zg (zm (zH r c) c) t).dropLast,zBV l) :
 zBh (zp (zAE (zC r) c (zg (zm (zH r c) c) t).dropLast.length) c) c (((zg (zm (zH r c) c) t).getLastD []).take 81)=zC (yO r c t):=by
 rw [zTJ hF c t h,zMJ]
 have hown:=zBv r c
 have e1:zp (zAE (zC r) c (zg (zm (zH r c) c) t).dropLast.length) c=zAE (zC r) c (zg (zm (zH r c) c) t).dropLast.length:=by
  have:mHas (zAE (zC r) c (zg (zm (zH r c) c) t).dropLast.length) c=true:=by
   show mHas (zp (zC r) c) c=true
   rw [zBk,zGU];exact hown
  unfold zp
  rw [if_pos this]
 rw [e1]
 unfold zAE
 rw [zBk]
 have e2:=zMH hown (((zg (zm (zH r c) c) t).getLastD []).take 81)
 have e3:(xm (zH r c) c (((zg (zm (zH r c) c) t).getLastD []).take 81)).out=(zH r c).out:=by
  unfold xm;split<;>rfl
 generalize ((zg (zm (zH r c) c) t).getLastD []).take 81=T at *
 rw [e3]
 have e4:∀(m:RefM) (o:List (Int×zA)),zBh {m with out:=o} c T={zBh m c T with out:=o}:=fun m o=>rfl
 rw [e4,e2]
 rfl
theorem zTL {x:UInt8} {l:zA} {m:Msg} (h:zz (x::l)=some m):zEf x=true:=by
 obtain ⟨a,r,h1,h2⟩:=zDC 32 x l
 by_cases hx:x=32
 ·rw [if_pos hx,h1] at h2
  rw [zIG h2] at h
  match r,h with
  | [],h=>simp only [] at h;rw [if_neg (by decide)] at h;cases h
  | [b],h=>simp only [] at h;rw [if_neg (by decide)] at h;cases h
  | [b,c],h=>simp only [] at h;rw [if_neg (by decide),if_neg (by decide)] at h;cases h
  | b::c::d::e,h=>cases h
 ·rw [if_neg hx] at h2
  rw [zIG h2] at h
  have hk:∀{k:zA},x::a=k→zEf (k.headD 0)=true→zEf x=true:=fun e1 e2=>by rw [←e1] at e2;exact e2
  match r,h with
  | [],h =>
    simp only [] at h
    split at h
    ·rename_i h3
     rcases h3 with h3 | h3 | h3
     ·exact hk h3 (by decide)
     ·exact hk h3 (by decide)
     ·exact hk h3 (by decide)
    ·cases h
  | [b],h =>
    simp only [] at h
    split at h
    ·rename_i h3;exact hk h3 (by decide)
    ·cases h
  | [b,c],h =>
    simp only [] at h
    split at h
    ·rename_i h3;exact hk h3 (by decide)
    ·cases h
  | [b,c,d],h =>
    simp only [] at h
    split at h
    ·rename_i h3;exact hk h3 (by decide)
    ·split at h
     ·rename_i h3;exact hk h3 (by decide)
     ·cases h
  | b::c::d::e::f,h=>cases h
theorem zMM:zz []=none:=by decide
theorem zIP {l t:zA} (h:zu l=some t):∃n,t=l.take n∧zi t=l:=by
 unfold zu at h
 split at h
 ·cases h
 ·split at h
  ·rename_i h2
   cases h
   exact ⟨_,rfl,h2⟩
  ·cases h
theorem zMN {x:UInt8} {l:zA} (h:zEf x=false):zBV (x::l):=fun t ht=>by
 obtain ⟨n,h1,_⟩:=zIP ht
 cases n with
 | zero=>rw [h1];exact zMM
 | succ n =>
   rw [List.take_succ_cons] at h1
   rw [h1]
   cases hr:zz (x::l.take n) with
   | none=>rfl
   | some m=>rw [zTL hr] at h;cases h
theorem zTM {l:zA} (h:zAg l):zBV l:=by
 cases l with
 | nil=>intro t ht;obtain ⟨n,h1,_⟩:=zIP ht;rw [h1];simp [zMM]
 | cons x l=>exact zMN (h x List.mem_cons_self)
theorem zIQ:∀(t p:zA),∀l∈zg p t,∀c∈l,c∈p∨c∈t
 | [],p,l,hl,c,hc=>by rw [zIL] at hl;simp at hl;subst hl;exact .inl hc
 | x::t,p,l,hl,c,hc=>by
   by_cases hx:x=10
   ·subst hx
    rw [zIM] at hl
    rcases List.mem_cons.1 hl with rfl | hl
    ·exact .inl hc
    ·rcases zIQ t [] l hl c hc with h | h
     ·cases h
     ·exact .inr (List.mem_cons_of_mem _ h)
   ·rw [zIN p t hx] at hl
    rcases zIQ t _ l hl c hc with h | h
    ·rcases List.mem_append.1 h with h | h
     ·exact .inl h
     ·simp at h;subst h;exact .inr List.mem_cons_self
    ·exact .inr (List.mem_cons_of_mem _ h)
theorem zMO:∀(t p:zA),(∀c∈t,c≠10)→zg p (t++[10])=[p++t,[]]
 | [],p,_=>by rw [List.nil_append,zIM,zIL];simp
 | x::t,p,h=>by
   rw [List.cons_append,zIN _ _ (h x List.mem_cons_self),zMO t _ (fun c hc=>h c (List.mem_cons_of_mem _ hc))]
   simp
theorem zMP (n:UInt8) (h:n.toNat < 16):hexD n≠10:=by
 have:∀k:Nat,k < 16→hexD (UInt8.ofNat k)≠10:=by decide
 have h2:=this n.toNat h
 simpa using h2
theorem zGV (c:UInt8):∀x∈hex2 c,x≠10:=by
 intro x hx
 unfold hex2 at hx
 have h1:=c.toNat_lt
 simp only [List.mem_cons,List.not_mem_nil,or_false] at hx
 rcases hx with rfl | rfl
 ·exact zMP _ (by rw [UInt8.toNat_div];simp;omega)
 ·exact zMP _ (by rw [UInt8.toNat_mod];simp;omega)
theorem zTN {s:zA} (h:∀c∈s,c≠10):∀c∈zi s,c≠10:=by
 intro c hc
 unfold zi zBZ at hc
 simp only [List.mem_append,List.mem_cons] at hc
 rcases hc with hc | rfl | ((hc | hc) | hc) | hc
 ·exact h c hc
 ·decide
 ·exact zGV _ c hc
 ·exact zGV _ c hc
 ·exact zGV _ c hc
 ·exact zGV _ c hc
structure zAp (U:Nat) (p:DP):Prop where
 eq:p.m=zC p.r
 inv:Inv U (4*U) p.r
 few:Few p.r
 cns:p.r.conns.length≤U
 out:p.r.out=[]
 no:∀c x,(c,x)∈p.r.conns→zAg x.rest
theorem zAp.mono {U U':Nat} {p:DP} (h:zAp U p) (hU:U≤U'):zAp U' p:=⟨h.eq,h.inv.mono hU (by omega),h.few,Nat.le_trans h.cns hU,h.out,h.no⟩
theorem zAp.new {D M:Nat} {c:Cfg} (h:zAN c=true):zAp 0 ⟨D,M,rNew c,mNew c⟩:=⟨rfl,Inv.init h,Few.init c,Nat.le_refl _,rfl,fun _ _ h=>by cases h⟩
theorem zIR (r:Raw):(zC r).conns.length=r.conns.length:=by simp [zC]
theorem zMQ (c:Int) (b:zA):∀l:List MCn,(zAo c b l).length=l.length
 | []=>rfl
 | x::l=>by
   unfold zAo
   split
   ·rfl
   ·simp [zMQ c b l]
theorem zMR (m:RefM) (c:Int):(zp m c).conns.length≤m.conns.length+1:=by
 unfold zp
 split
 ·omega
 ·simp
theorem zMS {c d:Int} {b:zA}:∀{l:List MCn} {x:MCn},x∈zAo c b l→x.rest=b∨x∈l
 | [],x,h=>by cases h
 | y::l,x,h=>by
   unfold zAo at h
   split at h
   ·rcases List.mem_cons.1 h with rfl | h
    ·exact .inl rfl
    ·exact .inr (List.mem_cons_of_mem _ h)
   ·rcases List.mem_cons.1 h with rfl | h
    ·exact .inr List.mem_cons_self
    ·exact (zMS (d:=d) h).imp id (List.mem_cons_of_mem _)
theorem zMT {U:Nat} {p:DP} (h:zAp U p) (c:Int):zAg (zm (zH p.r c) c):=by
 unfold zm
 cases hx:aget (zH p.r c).conns c with
 | none=>intro x hx;cases hx
 | some x =>
   have hm:=xL hx
   unfold zH at hm
   split at hm
   ·exact h.no _ _ hm
   ·rename_i h1
    have h2:aget p.r.conns c=none:=by
     cases h3:aget p.r.conns c with
     | none=>rfl
     | some y=>rw [h3] at h1;exact absurd rfl h1
    simp only [] at hm
    rw [zIO _ h2] at hm
    rcases List.mem_append.1 hm with hm | hm
    ·exact h.no _ _ hm
    ·simp at hm
     rw [hm]
     intro x hx;cases hx
structure zEi (rest t:zA):Prop where
 lines:∀l∈(zg rest t).dropLast,zBV l
 last:zAg (((zg rest t).getLastD []).take 81)
theorem zTO {α:Type} {l:List α} {d:α} (h:l≠[]):l.getLastD d∈l:=by
 rw [List.getLastD_eq_getLast?,List.getLast?_eq_some_getLast h]
 exact List.getLast_mem h
theorem zTP {rest t:zA} (h1:zAg rest) (h2:zAg t):zEi rest t:=by
 have key:∀l∈zg rest t,zAg l:=fun l hl c hc=>(zIQ t rest l hl c hc).elim (h1 c) (h2 c)
 exact ⟨fun l hl=>zTM (key l ((List.dropLast_sublist _).subset hl)),fun c hc=>key _ (zTO (zMB rest t)) c (List.mem_of_mem_take hc)⟩
theorem zTQ {rest s:zA} (h1:zAg rest) (h2:zz s=none) (h3:∀c∈s,c≠10):zEi rest (zi s++[10]):=by
 have e:=zMO (zi s) rest (zTN h3)
 refine ⟨fun l hl=>?_,?_⟩
 ·rw [e] at hl
  simp [List.dropLast] at hl
  subst hl
  cases rest with
  | nil =>
    intro t ht
    rw [List.nil_append] at ht
    obtain ⟨n,_,h5⟩:=zIP ht
    have h6:t=s:=by
     have hl:t.length=s.length:=by
      have h7:=congrArg List.length h5
      simp [zi,zBZ,hex2] at h7
      exact h7
     have h8:(zi t).take t.length=(zi s).take s.length:=by rw [h5,hl]
     simpa [zi] using h8
    rw [h6];exact h2
  | cons x l=>exact zMN (h1 x List.mem_cons_self)
 ·rw [e]
  intro c hc
  simp at hc
theorem zAp.fed {U:Nat} {p:DP} (h:zAp U p) (c:Int) (t:zA) (hb:zEi (zm (zH p.r c) c) t):zAp (U+t.length+1) ⟨p.D,p.M,ym (yO p.r c t),zC (ym (yO p.r c t))⟩:=by
 have hag:=zML h.few c t hb.lines
 have hcl:(yO p.r c t).conns.length≤p.r.conns.length+1:=by
  rw [←zIR,←hag]
  have h1:∀m:RefM,∀b,(zBh m c b).conns.length=m.conns.length:=fun m b=>zMQ c b m.conns
  rw [h1]
  have h2:mHas (zAE (zC p.r) c (zg (zm (zH p.r c) c) t).dropLast.length) c=true:=by
   show mHas (zp (zC p.r) c) c=true
   rw [zBk,zGU];exact zBv p.r c
  have h3:zp (zAE (zC p.r) c (zg (zm (zH p.r c) c) t).dropLast.length) c=zAE (zC p.r) c (zg (zm (zH p.r c) c) t).dropLast.length:=by
   unfold zp;rw [if_pos h2]
  rw [h3]
  have:=zMR (zC p.r) c
  rw [zIR] at this
  exact this
 refine ⟨rfl,((h.inv.feed c t).told).mono (by omega) (by omega),(h.few.feed c t).told,?_,rfl,?_⟩
 ·show (yO p.r c t).conns.length≤_
  have:=h.cns
  omega
 ·intro d x hx
  have hx:(d,x)∈(yO p.r c t).conns:=hx
  have hx2:cnOf (d,x)∈(zC (yO p.r c t)).conns:=List.mem_map_of_mem hx
  rw [←hag] at hx2
  rcases zMS (d:=c) hx2 with h4 | h4
  ·show zAg (cnOf (d,x)).rest
   rw [h4];exact hb.last
  ·have h2:mHas (zAE (zC p.r) c (zg (zm (zH p.r c) c) t).dropLast.length) c=true:=by
    show mHas (zp (zC p.r) c) c=true
    rw [zBk,zGU];exact zBv p.r c
   have h3:zp (zAE (zC p.r) c (zg (zm (zH p.r c) c) t).dropLast.length) c=zAE (zC p.r) c (zg (zm (zH p.r c) c) t).dropLast.length:=by
    unfold zp;rw [if_pos h2]
   rw [h3] at h4
   have h5:cnOf (d,x)∈(zp (zC p.r) c).conns:=h4
   unfold zp at h5
   split at h5
   ·obtain ⟨y,hy,hy2⟩:=List.mem_map.1 h5
    have:zAg (cnOf y).rest:=h.no y.1 y.2 hy
    show zAg (cnOf (d,x)).rest
    have e:cnOf y=cnOf (d,x):=hy2
    rw [←e];exact this
   ·rcases List.mem_append.1 h5 with h6 | h6
    ·obtain ⟨y,hy,hy2⟩:=List.mem_map.1 h6
     have:zAg (cnOf y).rest:=h.no y.1 y.2 hy
     show zAg (cnOf (d,x)).rest
     have e:cnOf y=cnOf (d,x):=hy2
     rw [←e];exact this
    ·simp at h6
     show zAg (cnOf (d,x)).rest
     rw [h6]
     intro z hz;cases hz
section
variable {G V k:Nat} {w0 w w':World} {ps:List DP}
theorem zTR {U:Nat} {p:DP} (h:zAp U p) (hU:U≤90000000000) (c:Int) (t:zA) (ht:t.length≤1000000000) (hb:zEi (zm (zH p.r c) c) t) (W:World) (σ:Nat→Role) (ML:MLay) (hM:MRep W σ G p.M ML p.m) :
 Calls Tryz.prog 85 #[vp p.M,vi c,vs (bs t)] W (zBW W σ G p.M (zC (yO p.r c t))):=by
 rw [h.eq] at hM
 have hr:zBi (zp (zC p.r) c) c=zm (zH p.r c) c:=by rw [zBk,zMI]
 have hrl:=(h.few.conn c).rest c
 have hcn:(zC p.r).conns.length≤U:=by rw [zIR];exact h.cns
 have hml:=zMR (zC p.r) c
 have hout:(zC p.r).out=[]:=h.out
 have hlc:(zg (zm (zH p.r c) c) t).length≤t.length+1:=by
  unfold zg
  have h1:=zGL 10 t
  split
  ·simp
  ·rename_i a l he;rw [he] at h1;simpa using h1
 have key:=zLt hM c t ht (by rw [hr];omega) (by omega) (zAE (zC p.r) c) (by unfold zAE;simp) (by show (zp (zC p.r) c).conns.length≤_;omega) (fun j l hj hl ρ1 L1 W1 h1=>?_)
 ·rw [hr,zML h.few c t hb.lines] at key
  exact key
 ·rw [hr] at hj
  have hm:=hb.lines l (List.mem_of_getElem? hj)
  have hjl:=(List.getElem?_eq_some_iff.1 hj).1
  have ho:(zAE (zC p.r) c j).out.length≤1000000000000:=by
   unfold zAE
   have h2:(zp (zC p.r) c).out=[]:=by unfold zp;split<;>exact hout
   rw [h2]
   simp at hjl ⊢
   omega
  rw [←zTK]
  exact zLq h1 c l (by omega) hm ho
theorem zTS {U:Nat} (h:yV G w0 V ps k w) (hok:∀p∈ps,zAp U p) (hU:U≤30000000) (hk:k≤10000000) (hn:ps.length≤10000000) (o:OpD) (hp:zMA o) (hw:wfOp o) (hs:o.s.length≤1048576) :
 Calls Tryz.prog 44 #[vp V,.agg (za o)] w fun e w'=>e=.returned (.bool true)∧∃ps' k',yV G w0 V ps' k' w'∧(∀p∈ps',zAp (U+o.s.length+20) p)∧ps'.length≤ps.length+1∧k'≤k+1:=by
 rcases hp with hp | hp
 ·cases hc:zAN o.c with
  | false =>
    refine (zLx h o hp hc).mono ?_
    rintro e w' ⟨rfl,h1⟩
    exact ⟨rfl,ps,k,h1,fun p hp=>(hok p hp).mono (by omega),by omega,by omega⟩
  | true =>
    refine (zLy h (by omega) o hp hc).mono ?_
    rintro e w' ⟨rfl,D,M,h1⟩
    refine ⟨rfl,_,k,h1,fun p hp=>?_,by simp,by omega⟩
    rcases List.mem_append.1 hp with hp | hp
    ·exact (hok p hp).mono (by omega)
    ·simp at hp
     rw [hp]
     exact (zAp.new hc).mono (Nat.zero_le _)
 ·have hkd:o.kind=3∨o.kind=4:=hp.elim (fun h=>.inr h.1) (fun h=>.inl h.1)
  by_cases he:ps=[]
  ·subst he
   refine (zEh h o (by omega) (by omega)).mono ?_
   rintro e w' ⟨rfl,h1⟩
   exact ⟨rfl,[],k,h1,fun p hp=>(by cases hp),by simp,by omega⟩
  ·have hpos:0 < ps.length:=List.length_pos_iff.2 he
   obtain ⟨p,hpp⟩:∃p,ps[xu o.a ps.length]?=some p:=⟨_,List.getElem?_eq_getElem (zLv _ hpos)⟩
   have hpo:=hok p (List.mem_of_getElem? hpp)
   have htl:(xK o).length≤o.s.length+10:=by
    unfold xK
    split
    ·simp [zi,zBZ,hex2]
    ·omega
   have hbt:zEi (zm (zH p.r o.b) o.b) (xK o):=by
    rcases hp with ⟨h1,h2⟩ | ⟨h1,h2,h3⟩
    ·unfold xK;rw [if_neg (by omega)]
     exact zTP (zMT hpo o.b) h2
    ·unfold xK;rw [if_pos h1]
     exact zTQ (zMT hpo o.b) h2 h3
   refine (zLz h (by omega) (by omega) o hkd (by omega) hw.2.1 hpp hpo.inv hpo.few (by unfold NB;omega) (by unfold NB;omega) (fun W σ ML hM=>zTR hpo (by omega) o.b (xK o) (by omega) hbt W σ ML hM)).mono ?_
   rintro e w' ⟨rfl,h1⟩
   refine ⟨rfl,_,k+1,h1,fun q hq=>?_,by simp,by omega⟩
   rcases List.mem_or_eq_of_mem_set hq with hq | rfl
   ·exact (hok q hq).mono (by omega)
   ·exact (hpo.fed o.b (xK o) hbt).mono (by omega)
end
def zBl (ops:List OpD) (k:Nat):Nat:=((ops.take k).map fun o=>o.s.length+20).sum
theorem zGW {ops:List OpD} {k:Nat} {o:OpD} (h:ops[k]?=some o):zBl ops (k+1)=zBl ops k+(o.s.length+20):=by
 unfold zBl
 rw [List.take_add_one,h]
 simp
theorem zTT (l:List Nat) (k:Nat):(l.take k).sum≤l.sum:=by
 have h:=congrArg List.sum (List.take_append_drop k l)
 rw [List.sum_append] at h
 omega
theorem zMU (ops:List OpD) (k:Nat):zBl ops k≤20*ops.length+(ops.map fun o=>o.s.length).sum:=by
 unfold zBl
 rw [List.map_take]
 refine Nat.le_trans (zTT _ k) ?_
 induction ops with
 | nil=>simp
 | cons o l ih=>simp only [List.map_cons,List.sum_cons,List.length_cons];omega
theorem zMV:∀(ops:List OpD) (n m:Nat),zCQ n ops=some m→m=n+(ops.map fun o=>o.s.length).sum
 | [],n,m,h=>by cases h;simp
 | o::l,n,m,h=>by
   unfold zCQ at h
   by_cases h1:1048576 < n+o.s.length
   ·rw [if_pos h1] at h;cases h
   ·rw [if_neg h1] at h
    have:=zMV l _ _ h
    simp only [List.map_cons,List.sum_cons]
    omega
theorem zTU {ops:List OpD} (h:zCR ops=true):ops.length+(ops.map fun o=>o.s.length).sum≤1048576:=by
 unfold zCR at h
 cases hs:zCQ ops.length ops with
 | none=>rw [hs] at h;cases h
 | some m =>
   rw [hs] at h
   have:=zMV ops _ _ hs
   have h2:m≤1048576:=of_decide_eq_true h
   omega
theorem zGX:∀{l:List Nat} {x:Nat},x∈l→x≤l.sum
 | a::l,x,h=>by
   rcases List.mem_cons.1 h with rfl | h
   ·simp
   ·have:=zGX h;simp;omega
theorem yV.start {G:Nat} {w:World} (hE:Env G w) (hG:G≤w.heap.size):yV G w w.heap.size [] 0 (w.alloc (.cells #[.slice none 0 0,.slice none 0 0,.bool false] 103)):=by
 refine ⟨fun b=>if b=w.heap.size then (1,0) else (0,0),.slice none 0 0,.slice none 0 0,[],⟨⟨by simp,zL w⟩,SlAt.nil,SlAt.nil,fun k v h=>by simp at h,fun i p h=>by simp at h,fun i p h=>by simp at h,fun b hb=>?_,(Below.refl _ w).alloc (Nat.le_refl _) _,hE.alloc _,hG⟩,rfl⟩
 by_cases e:b=w.heap.size
 ·subst e;exact ⟨Nat.le_refl _,by simp⟩
 ·rw [if_neg e] at hb;exact absurd rfl hb
def zBX (G:Nat) (w0:World) (V:Nat) (ops:List OpD) (k:Nat) (w:World):Prop:=∃ps n,yV G w0 V ps n w∧(∀p∈ps,zAp (zBl ops k) p)∧ps.length≤k∧n≤k
theorem zBX.grow {G V k:Nat} {w0 w w':World} {ops:List OpD} (h:zBX G w0 V ops k w) (hb:Below w.heap.size w w'):zBX G w0 V ops k w':=by
 obtain ⟨ps,n,h1,h2⟩:=h
 exact ⟨ps,n,h1.grow hb,h2⟩
theorem zBX.below {G V k:Nat} {w0 w:World} {ops:List OpD} (h:zBX G w0 V ops k w):Below w0.heap.size w0 w:=by
 obtain ⟨ps,n,⟨tg,dsv,lsv,lss,h1,_⟩,_⟩:=h
 exact h1.below
theorem zBX.next {G V k:Nat} {w0 w:World} {ops:List OpD} (h:zBX G w0 V ops k w) {o:OpD} (ho:ops[k]?=some o):zBX G w0 V ops (k+1) w:=by
 obtain ⟨ps,n,h1,h2,h3,h4⟩:=h
 exact ⟨ps,n,h1,fun p hp=>(h2 p hp).mono (by rw [zGW ho];omega),by omega,by omega⟩
theorem zBX.step {G V k:Nat} {w0 w:World} {ops:List OpD} (h:zBX G w0 V ops k w) {o:OpD} (ho:ops[k]?=some o) (hs:ops.length+(ops.map fun o=>o.s.length).sum≤1048576) (hp:zMA o) (hw:wfOp o) :
 Calls Tryz.prog 44 #[vp V,.agg (za o)] w fun e w'=>e=.returned (.bool true)∧zBX G w0 V ops (k+1) w':=by
 obtain ⟨ps,n,h1,h2,h3,h4⟩:=h
 have hk:=(List.getElem?_eq_some_iff.1 ho).1
 have hu:=zMU ops k
 have hol:o.s.length≤(ops.map fun o=>o.s.length).sum:=zGX (List.mem_map_of_mem (List.mem_of_getElem? ho))
 refine (zTS h1 h2 (by omega) (by omega) (by omega) o hp hw (by omega)).mono ?_
 rintro e w' ⟨rfl,ps',k',q1,q2,q3,q4⟩
 exact ⟨rfl,ps',k',q1,fun p hp=>by rw [zGW ho];exact q2 p hp,by omega,by omega⟩
end Go.Proofs.YtaejfobbogahmaaGreatDoor
