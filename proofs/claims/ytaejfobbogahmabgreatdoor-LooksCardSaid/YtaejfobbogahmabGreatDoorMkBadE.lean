/-
  Scripts without messages: both dispatchers say the same. No program in sight.
  Scripts without messages: a step keeps both sides alike.
  The walk of dispatchlaw.UpTo where no message is played.
-/
import Derived.Test.YtaejfobbogahmabGreatDoorMkPure
import Derived.Test.YtaejfobbogahmabGreatDoorMkMLine
import Derived.Test.YtaejfobbogahmabGreatDoorMkPlayB
import Derived.Test.YtaejfobbogahmabGreatDoorMkLawN
import Derived.Test.YtaejfobbogahmabGreatDoorMkOps
set_option maxRecDepth 100000
set_option maxHeartbeats 16000000
set_option linter.unusedVariables false
set_option linter.unusedSimpArgs false
namespace Go.Proofs.YtaejfobbogahmabGreatDoor
open Go
theorem mLines_nil (p:Bytes):mLines p []=[p]:=by simp [mLines,cut]
theorem mLines_end (p t:Bytes):mLines p (10::t)=p::mLines [] t:=by
 unfold mLines
 obtain ⟨a,r,h1,h2⟩:=rcut_cons 10 10 t
 rw [h2,if_pos rfl,h1]
 simp
theorem mLines_more (p t:Bytes) {x:UInt8} (hx:x≠10):mLines p (x::t)=mLines (p++[x]) t:=by
 unfold mLines
 obtain ⟨a,r,h1,h2⟩:=rcut_cons 10 x t
 rw [h2,if_neg hx,h1]
 simp
theorem mLines_ne (p t:Bytes):mLines p t≠[]:=by
 unfold mLines
 split<;>simp
theorem take_more (p:Bytes) (x:UInt8):(if (p.take 81).length≤80 then p.take 81++[x] else p.take 81)=(p++[x]).take 81:=by
 by_cases h:p.length≤80
 ·rw [List.take_of_length_le (by omega:p.length≤81),if_pos h,List.take_of_length_le (by simp;omega)]
 ·rw [if_neg (by simp;omega),List.take_append_of_le_length (by omega)]
theorem cutLines_eq:∀(t p:Bytes),cutLines (p.take 81) t=((mLines p t).dropLast.map (·.take 81),((mLines p t).getLastD []).take 81)
 | [],p=>by simp [cutLines,mLines_nil]
 | x::t,p=>by
   by_cases hx:x=10
   ·subst hx
    have ih:=cutLines_eq t []
    rw [List.take_nil] at ih
    rw [mLines_end,cutLines,if_pos rfl,ih]
    have hne:=mLines_ne [] t
    obtain ⟨a,l,hl⟩:=List.exists_cons_of_ne_nil hne
    rw [hl]
    simp [List.dropLast]
   ·rw [mLines_more p t hx,cutLines,if_neg hx,take_more]
    exact cutLines_eq t (p++[x])
theorem opened_take (l:Bytes):opened (l.take 81)=opened l:=by
 by_cases h:l.length≤81
 ·rw [List.take_of_length_le h]
 ·unfold opened
  rw [if_pos (.inr (by simp;omega)),if_pos (.inr (by omega))]
theorem noMsg_take {l:Bytes} (h:noMsg l):noMsg (l.take 81):=fun t ht=>h t (by rw [←opened_take];exact ht)
theorem rLine_noMsg {r:Raw} {c:Int} {l:Bytes} (h:noMsg l):rLine r c l=rSay r c [wBad]:=by
 unfold rLine
 cases ho:opened l with
 | none=>rfl
 | some t=>simp only [];rw [h t ho]
theorem aset_absent {V:Type} {l:List (Int×V)} {k:Int} (v:V) (h:aget l k=none):aset l k v=l++[(k,v)]:=by
 induction l with
 | nil=>rfl
 | cons p r ih =>
   obtain ⟨a,x⟩:=p
   unfold aget at h
   by_cases e:a=k
   ·rw [if_pos e] at h;cases h
   ·rw [if_neg e] at h
    unfold aset
    rw [if_neg e,ih h];rfl
def cnOf (p:Int×Cn):MCn:=⟨p.1,p.2.rest,p.2.drains,p.2.gone⟩
theorem any_conns (c:Int):∀l:List (Int×Cn),(l.map cnOf).any (fun x=>decide (x.n=c))=(aget l c).isSome
 | []=>rfl
 | (a,x)::l=>by
   rw [List.map_cons,List.any_cons,any_conns c l]
   simp only [aget]
   by_cases e:a=c
   ·rw [if_pos e];simp [cnOf,e]
   ·rw [if_neg e];simp [cnOf,e]
theorem rest_conns (c:Int) (b:Bytes):∀(l:List (Int×Cn)) (x:Cn),aget l c=some x→setRest c b (l.map cnOf)=(aset l c {x with rest:=b}).map cnOf
 | [],x,h=>by cases h
 | (a,y)::l,x,h=>by
   simp only [aget] at h
   simp only [List.map_cons,setRest,aset]
   by_cases e:a=c
   ·rw [if_pos e] at h
    cases h
    rw [if_pos (show (cnOf (a,y)).n=c from e),if_pos e,List.map_cons,←e]
    rfl
   ·rw [if_neg e] at h
    rw [if_neg (show ¬(cnOf (a,y)).n=c from e),if_neg e,List.map_cons,rest_conns c b l x h]
theorem find_conns (c:Int):∀l:List (Int×Cn),(match (l.map cnOf).find? fun x=>decide (x.n=c) with | none=>[] | some x=>x.rest)=(match aget l c with | none=>[] | some x=>x.rest)
 | []=>rfl
 | (a,x)::l=>by
   simp only [List.map_cons,List.find?_cons,aget]
   by_cases e:a=c
   ·rw [if_pos e,decide_eq_true (show (cnOf (a,x)).n=c from e)];rfl
   ·rw [if_neg e,decide_eq_false (show ¬(cnOf (a,x)).n=c from e)]
    exact find_conns c l
theorem mHas_ref (r:Raw) (c:Int):mHas (refOf r) c=(aget r.conns c).isSome:=any_conns c r.conns
theorem mConn_ref (r:Raw) (c:Int):mConn (refOf r) c=refOf (rConn r c):=by
 unfold mConn rConn
 rw [mHas_ref]
 cases h:aget r.conns c with
 | some x=>rfl
 | none =>
   simp only [Option.isSome_none,Bool.false_eq_true,if_false]
   unfold refOf
   simp only []
   rw [aset_absent _ h,List.map_append]
   rfl
theorem mRest_ref {r:Raw} {c:Int} (h:hasConn r c=true) (b:Bytes):mRest (refOf r) c b=refOf (rRest r c b):=by
 unfold hasConn at h
 obtain ⟨x,hx⟩:=Option.isSome_iff_exists.1 h
 unfold mRest rRest
 rw [hx]
 have:=rest_conns c b r.conns x hx
 show {refOf r with conns:=setRest c b (r.conns.map cnOf)}=_
 rw [this]
 rfl
theorem mRestOf_ref (r:Raw) (c:Int):mRestOf (refOf r) c=restOf r c:=find_conns c r.conns
def sayBad (c:Int):Nat→Raw→Raw
 | 0,r=>r
 | n+1,r=>sayBad c n (rSay r c [wBad])
theorem sayBad_eq (c:Int):∀(n:Nat) (r:Raw),sayBad c n r={r with out:=r.out++List.replicate n (c,sealL wBad)}
 | 0,r=>by simp [sayBad]
 | n+1,r=>by
   rw [sayBad,sayBad_eq c n]
   unfold rSay
   simp [List.replicate_succ,words]
theorem fold_bad (c:Int):∀(ls:List Bytes) (r:Raw),(∀l∈ls,noMsg l)→ls.foldl (fun r l=>rLine r c l) r=sayBad c ls.length r
 | [],r,_=>rfl
 | l::ls,r,h=>by
   rw [List.foldl_cons,rLine_noMsg (h l List.mem_cons_self),fold_bad c ls _ (fun x hx=>h x (List.mem_cons_of_mem _ hx))]
   rfl
theorem rFeed_bad {r:Raw} (hF:Few r) (c:Int) (t:Bytes) (h:∀l∈(mLines (restOf (rConn r c) c) t).dropLast,noMsg l) :
 rFeed r c t=sayBad c (mLines (restOf (rConn r c) c) t).dropLast.length (rRest (rConn r c) c (((mLines (restOf (rConn r c) c) t).getLastD []).take 81)):=by
 unfold rFeed
 have hr:(restOf (rConn r c) c).take 81=restOf (rConn r c) c:=List.take_of_length_le ((hF.conn c).rest c)
 have e:=cutLines_eq t (restOf (rConn r c) c)
 rw [hr] at e
 simp only [e]
 rw [fold_bad,List.length_map]
 intro l hl
 obtain ⟨l',h1,rfl⟩:=List.mem_map.1 hl
 exact noMsg_take (h l' h1)
def badSt (m:RefM) (c:Int) (j:Nat):RefM:={mConn m c with out:=(mConn m c).out++List.replicate j (c,sealL wBad)}
theorem badSt_say (m:RefM) (c:Int) (j:Nat):mSay (badSt m c j) c wBad=badSt m c (j+1):=by
 unfold mSay badSt
 simp [List.replicate_succ']
theorem bad_agree {r:Raw} (hF:Few r) (c:Int) (t:Bytes) (h:∀l∈(mLines (restOf (rConn r c) c) t).dropLast,noMsg l) :
 mRest (mConn (badSt (refOf r) c (mLines (restOf (rConn r c) c) t).dropLast.length) c) c (((mLines (restOf (rConn r c) c) t).getLastD []).take 81)=refOf (rFeed r c t):=by
 rw [rFeed_bad hF c t h,sayBad_eq]
 have hown:=hasConn_own r c
 have e1:mConn (badSt (refOf r) c (mLines (restOf (rConn r c) c) t).dropLast.length) c=badSt (refOf r) c (mLines (restOf (rConn r c) c) t).dropLast.length:=by
  have:mHas (badSt (refOf r) c (mLines (restOf (rConn r c) c) t).dropLast.length) c=true:=by
   show mHas (mConn (refOf r) c) c=true
   rw [mConn_ref,mHas_ref];exact hown
  unfold mConn
  rw [if_pos this]
 rw [e1]
 unfold badSt
 rw [mConn_ref]
 have e2:=mRest_ref hown (((mLines (restOf (rConn r c) c) t).getLastD []).take 81)
 have e3:(rRest (rConn r c) c (((mLines (restOf (rConn r c) c) t).getLastD []).take 81)).out=(rConn r c).out:=by
  unfold rRest;split<;>rfl
 generalize ((mLines (restOf (rConn r c) c) t).getLastD []).take 81=T at *
 rw [e3]
 have e4:∀(m:RefM) (o:List (Int×Bytes)),mRest {m with out:=o} c T={mRest m c T with out:=o}:=fun m o=>rfl
 rw [e4,e2]
 rfl
theorem readMsg_head {x:UInt8} {l:Bytes} {m:Msg} (h:readMsg (x::l)=some m):isLet x=true:=by
 obtain ⟨a,r,h1,h2⟩:=rcut_cons 32 x l
 by_cases hx:x=32
 ·rw [if_pos hx,h1] at h2
  rw [read_words h2] at h
  match r,h with
  | [],h=>simp only [] at h;rw [if_neg (by decide)] at h;cases h
  | [b],h=>simp only [] at h;rw [if_neg (by decide)] at h;cases h
  | [b,c],h=>simp only [] at h;rw [if_neg (by decide),if_neg (by decide)] at h;cases h
  | b::c::d::e,h=>cases h
 ·rw [if_neg hx] at h2
  rw [read_words h2] at h
  have hk:∀{k:Bytes},x::a=k→isLet (k.headD 0)=true→isLet x=true:=fun e1 e2=>by rw [←e1] at e2;exact e2
  match r,h with
  | [],h =>
    simp only [] at h
    split at h
    ·rename_i h3
     rcases h3 with h3 | h3 | h3
     ·exact hk h3 (by decide)
     ·exact hk h3 (by decide)
     ·exact hk h3 (by decide)
    ·cases h
  | [b],h =>
    simp only [] at h
    split at h
    ·rename_i h3;exact hk h3 (by decide)
    ·cases h
  | [b,c],h =>
    simp only [] at h
    split at h
    ·rename_i h3;exact hk h3 (by decide)
    ·cases h
  | [b,c,d],h =>
    simp only [] at h
    split at h
    ·rename_i h3;exact hk h3 (by decide)
    ·split at h
     ·rename_i h3;exact hk h3 (by decide)
     ·cases h
  | b::c::d::e::f,h=>cases h
theorem readMsg_nil:readMsg []=none:=by decide
theorem opened_eq {l t:Bytes} (h:opened l=some t):∃n,t=l.take n∧sealL t=l:=by
 unfold opened at h
 split at h
 ·cases h
 ·split at h
  ·rename_i h2
   cases h
   exact ⟨_,rfl,h2⟩
  ·cases h
theorem noMsg_head {x:UInt8} {l:Bytes} (h:isLet x=false):noMsg (x::l):=fun t ht=>by
 obtain ⟨n,h1,_⟩:=opened_eq ht
 cases n with
 | zero=>rw [h1];exact readMsg_nil
 | succ n =>
   rw [List.take_succ_cons] at h1
   rw [h1]
   cases hr:readMsg (x::l.take n) with
   | none=>rfl
   | some m=>rw [readMsg_head hr] at h;cases h
theorem noMsg_no {l:Bytes} (h:noLet l):noMsg l:=by
 cases l with
 | nil=>intro t ht;obtain ⟨n,h1,_⟩:=opened_eq ht;rw [h1];simp [readMsg_nil]
 | cons x l=>exact noMsg_head (h x List.mem_cons_self)
theorem mLines_mem:∀(t p:Bytes),∀l∈mLines p t,∀c∈l,c∈p∨c∈t
 | [],p,l,hl,c,hc=>by rw [mLines_nil] at hl;simp at hl;subst hl;exact .inl hc
 | x::t,p,l,hl,c,hc=>by
   by_cases hx:x=10
   ·subst hx
    rw [mLines_end] at hl
    rcases List.mem_cons.1 hl with rfl | hl
    ·exact .inl hc
    ·rcases mLines_mem t [] l hl c hc with h | h
     ·cases h
     ·exact .inr (List.mem_cons_of_mem _ h)
   ·rw [mLines_more p t hx] at hl
    rcases mLines_mem t _ l hl c hc with h | h
    ·rcases List.mem_append.1 h with h | h
     ·exact .inl h
     ·simp at h;subst h;exact .inr List.mem_cons_self
    ·exact .inr (List.mem_cons_of_mem _ h)
theorem mLines_none:∀(t p:Bytes),(∀c∈t,c≠10)→mLines p (t++[10])=[p++t,[]]
 | [],p,_=>by rw [List.nil_append,mLines_end,mLines_nil];simp
 | x::t,p,h=>by
   rw [List.cons_append,mLines_more _ _ (h x List.mem_cons_self),mLines_none t _ (fun c hc=>h c (List.mem_cons_of_mem _ hc))]
   simp
theorem hexD_ne (n:UInt8) (h:n.toNat < 16):hexD n≠10:=by
 have:∀k:Nat,k < 16→hexD (UInt8.ofNat k)≠10:=by decide
 have h2:=this n.toNat h
 simpa using h2
theorem hex2_ne (c:UInt8):∀x∈hex2 c,x≠10:=by
 intro x hx
 unfold hex2 at hx
 have h1:=c.toNat_lt
 simp only [List.mem_cons,List.not_mem_nil,or_false] at hx
 rcases hx with rfl | rfl
 ·exact hexD_ne _ (by rw [UInt8.toNat_div];simp;omega)
 ·exact hexD_ne _ (by rw [UInt8.toNat_mod];simp;omega)
theorem seal_ne {s:Bytes} (h:∀c∈s,c≠10):∀c∈sealL s,c≠10:=by
 intro c hc
 unfold sealL sumHex at hc
 simp only [List.mem_append,List.mem_cons] at hc
 rcases hc with hc | rfl | ((hc | hc) | hc) | hc
 ·exact h c hc
 ·decide
 ·exact hex2_ne _ c hc
 ·exact hex2_ne _ c hc
 ·exact hex2_ne _ c hc
 ·exact hex2_ne _ c hc
end Go.Proofs.YtaejfobbogahmabGreatDoor
namespace Go.Proofs.YtaejfobbogahmabGreatDoor
open Go Go.RowKit
structure PairOk (U:Nat) (p:DP):Prop where
 eq:p.m=refOf p.r
 inv:Inv U (4*U) p.r
 few:Few p.r
 cns:p.r.conns.length≤U
 out:p.r.out=[]
 no:∀c x,(c,x)∈p.r.conns→noLet x.rest
theorem PairOk.mono {U U':Nat} {p:DP} (h:PairOk U p) (hU:U≤U'):PairOk U' p:=⟨h.eq,h.inv.mono hU (by omega),h.few,Nat.le_trans h.cns hU,h.out,h.no⟩
theorem PairOk.new {D M:Nat} {c:Cfg} (h:cfgOk c=true):PairOk 0 ⟨D,M,rNew c,mNew c⟩:=⟨rfl,Inv.init h,Few.init c,Nat.le_refl _,rfl,fun _ _ h=>by cases h⟩
theorem conns_len (r:Raw):(refOf r).conns.length=r.conns.length:=by simp [refOf]
theorem setRest_len (c:Int) (b:Bytes):∀l:List MCn,(setRest c b l).length=l.length
 | []=>rfl
 | x::l=>by
   unfold setRest
   split
   ·rfl
   ·simp [setRest_len c b l]
theorem mConn_len (m:RefM) (c:Int):(mConn m c).conns.length≤m.conns.length+1:=by
 unfold mConn
 split
 ·omega
 ·simp
theorem mRest_mem {c d:Int} {b:Bytes}:∀{l:List MCn} {x:MCn},x∈setRest c b l→x.rest=b∨x∈l
 | [],x,h=>by cases h
 | y::l,x,h=>by
   unfold setRest at h
   split at h
   ·rcases List.mem_cons.1 h with rfl | h
    ·exact .inl rfl
    ·exact .inr (List.mem_cons_of_mem _ h)
   ·rcases List.mem_cons.1 h with rfl | h
    ·exact .inr List.mem_cons_self
    ·exact (mRest_mem (d:=d) h).imp id (List.mem_cons_of_mem _)
theorem noLet_rest {U:Nat} {p:DP} (h:PairOk U p) (c:Int):noLet (restOf (rConn p.r c) c):=by
 unfold restOf
 cases hx:aget (rConn p.r c).conns c with
 | none=>intro x hx;cases hx
 | some x =>
   have hm:=aget_mem hx
   unfold rConn at hm
   split at hm
   ·exact h.no _ _ hm
   ·rename_i h1
    have h2:aget p.r.conns c=none:=by
     cases h3:aget p.r.conns c with
     | none=>rfl
     | some y=>rw [h3] at h1;exact absurd rfl h1
    simp only [] at hm
    rw [aset_absent _ h2] at hm
    rcases List.mem_append.1 hm with hm | hm
    ·exact h.no _ _ hm
    ·simp at hm
     rw [hm]
     intro x hx;cases hx
structure BadText (rest t:Bytes):Prop where
 lines:∀l∈(mLines rest t).dropLast,noMsg l
 last:noLet (((mLines rest t).getLastD []).take 81)
theorem getLastD_mem {α:Type} {l:List α} {d:α} (h:l≠[]):l.getLastD d∈l:=by
 rw [List.getLastD_eq_getLast?,List.getLast?_eq_some_getLast h]
 exact List.getLast_mem h
theorem badText_feed {rest t:Bytes} (h1:noLet rest) (h2:noLet t):BadText rest t:=by
 have key:∀l∈mLines rest t,noLet l:=fun l hl c hc=>(mLines_mem t rest l hl c hc).elim (h1 c) (h2 c)
 exact ⟨fun l hl=>noMsg_no (key l ((List.dropLast_sublist _).subset hl)),fun c hc=>key _ (getLastD_mem (mLines_ne rest t)) c (List.mem_of_mem_take hc)⟩
theorem badText_say {rest s:Bytes} (h1:noLet rest) (h2:readMsg s=none) (h3:∀c∈s,c≠10):BadText rest (sealL s++[10]):=by
 have e:=mLines_none (sealL s) rest (seal_ne h3)
 refine ⟨fun l hl=>?_,?_⟩
 ·rw [e] at hl
  simp [List.dropLast] at hl
  subst hl
  cases rest with
  | nil =>
    intro t ht
    rw [List.nil_append] at ht
    obtain ⟨n,_,h5⟩:=opened_eq ht
    have h6:t=s:=by
     have hl:t.length=s.length:=by
      have h7:=congrArg List.length h5
      simp [sealL,sumHex,hex2] at h7
      exact h7
     have h8:(sealL t).take t.length=(sealL s).take s.length:=by rw [h5,hl]
     simpa [sealL] using h8
    rw [h6];exact h2
  | cons x l=>exact noMsg_head (h1 x List.mem_cons_self)
 ·rw [e]
  intro c hc
  simp at hc
theorem PairOk.fed {U:Nat} {p:DP} (h:PairOk U p) (c:Int) (t:Bytes) (hb:BadText (restOf (rConn p.r c) c) t):PairOk (U+t.length+1) ⟨p.D,p.M,rTold (rFeed p.r c t),refOf (rTold (rFeed p.r c t))⟩:=by
 have hag:=bad_agree h.few c t hb.lines
 have hcl:(rFeed p.r c t).conns.length≤p.r.conns.length+1:=by
  rw [←conns_len,←hag]
  have h1:∀m:RefM,∀b,(mRest m c b).conns.length=m.conns.length:=fun m b=>setRest_len c b m.conns
  rw [h1]
  have h2:mHas (badSt (refOf p.r) c (mLines (restOf (rConn p.r c) c) t).dropLast.length) c=true:=by
   show mHas (mConn (refOf p.r) c) c=true
   rw [mConn_ref,mHas_ref];exact hasConn_own p.r c
  have h3:mConn (badSt (refOf p.r) c (mLines (restOf (rConn p.r c) c) t).dropLast.length) c=badSt (refOf p.r) c (mLines (restOf (rConn p.r c) c) t).dropLast.length:=by
   unfold mConn;rw [if_pos h2]
  rw [h3]
  have:=mConn_len (refOf p.r) c
  rw [conns_len] at this
  exact this
 refine ⟨rfl,((h.inv.feed c t).told).mono (by omega) (by omega),(h.few.feed c t).told,?_,rfl,?_⟩
 ·show (rFeed p.r c t).conns.length≤_
  have:=h.cns
  omega
 ·intro d x hx
  have hx:(d,x)∈(rFeed p.r c t).conns:=hx
  have hx2:cnOf (d,x)∈(refOf (rFeed p.r c t)).conns:=List.mem_map_of_mem hx
  rw [←hag] at hx2
  rcases mRest_mem (d:=c) hx2 with h4 | h4
  ·show noLet (cnOf (d,x)).rest
   rw [h4];exact hb.last
  ·have h2:mHas (badSt (refOf p.r) c (mLines (restOf (rConn p.r c) c) t).dropLast.length) c=true:=by
    show mHas (mConn (refOf p.r) c) c=true
    rw [mConn_ref,mHas_ref];exact hasConn_own p.r c
   have h3:mConn (badSt (refOf p.r) c (mLines (restOf (rConn p.r c) c) t).dropLast.length) c=badSt (refOf p.r) c (mLines (restOf (rConn p.r c) c) t).dropLast.length:=by
    unfold mConn;rw [if_pos h2]
   rw [h3] at h4
   have h5:cnOf (d,x)∈(mConn (refOf p.r) c).conns:=h4
   unfold mConn at h5
   split at h5
   ·obtain ⟨y,hy,hy2⟩:=List.mem_map.1 h5
    have:noLet (cnOf y).rest:=h.no y.1 y.2 hy
    show noLet (cnOf (d,x)).rest
    have e:cnOf y=cnOf (d,x):=hy2
    rw [←e];exact this
   ·rcases List.mem_append.1 h5 with h6 | h6
    ·obtain ⟨y,hy,hy2⟩:=List.mem_map.1 h6
     have:noLet (cnOf y).rest:=h.no y.1 y.2 hy
     show noLet (cnOf (d,x)).rest
     have e:cnOf y=cnOf (d,x):=hy2
     rw [←e];exact this
    ·simp at h6
     show noLet (cnOf (d,x)).rest
     rw [h6]
     intro z hz;cases hz
section
variable {G V k:Nat} {w0 w w':World} {ps:List DP}
theorem bad_feed {U:Nat} {p:DP} (h:PairOk U p) (hU:U≤90000000000) (c:Int) (t:Bytes) (ht:t.length≤1000000000) (hb:BadText (restOf (rConn p.r c) c) t) (W:World) (σ:Nat→Role) (ML:MLay) (hM:MRep W σ G p.M ML p.m) :
 Calls Tryz.prog 21 #[vp p.M,vi c,vs (bs t)] W (MOutPost W σ G p.M (refOf (rFeed p.r c t))):=by
 rw [h.eq] at hM
 have hr:mRestOf (mConn (refOf p.r) c) c=restOf (rConn p.r c) c:=by rw [mConn_ref,mRestOf_ref]
 have hrl:=(h.few.conn c).rest c
 have hcn:(refOf p.r).conns.length≤U:=by rw [conns_len];exact h.cns
 have hml:=mConn_len (refOf p.r) c
 have hout:(refOf p.r).out=[]:=h.out
 have hlc:(mLines (restOf (rConn p.r c) c) t).length≤t.length+1:=by
  unfold mLines
  have h1:=rcut_count 10 t
  split
  ·simp
  ·rename_i a l he;rw [he] at h1;simpa using h1
 have key:=mfeed_calls hM c t ht (by rw [hr];omega) (by omega) (badSt (refOf p.r) c) (by unfold badSt;simp) (by show (mConn (refOf p.r) c).conns.length≤_;omega) (fun j l hj hl ρ1 L1 W1 h1=>?_)
 ·rw [hr,bad_agree h.few c t hb.lines] at key
  exact key
 ·rw [hr] at hj
  have hm:=hb.lines l (List.mem_of_getElem? hj)
  have hjl:=(List.getElem?_eq_some_iff.1 hj).1
  have ho:(badSt (refOf p.r) c j).out.length≤1000000000000:=by
   unfold badSt
   have h2:(mConn (refOf p.r) c).out=[]:=by unfold mConn;split<;>exact hout
   rw [h2]
   simp at hjl ⊢
   omega
  rw [←badSt_say]
  exact mline_bad h1 c l (by omega) hm ho
theorem step_bads {U:Nat} (h:LawAt G w0 V ps k w) (hok:∀p∈ps,PairOk U p) (hU:U≤30000000) (hk:k≤10000000) (hn:ps.length≤10000000) (o:OpD) (hp:playBad o) (hw:wfOp o) (hs:o.s.length≤1048576) :
 Calls Tryz.prog 10 #[vp V,.agg (opCells o)] w fun e w'=>e=.returned (.bool true)∧∃ps' k',LawAt G w0 V ps' k' w'∧(∀p∈ps',PairOk (U+o.s.length+20) p)∧ps'.length≤ps.length+1∧k'≤k+1:=by
 rcases hp with hp | hp
 ·cases hc:cfgOk o.c with
  | false =>
    refine (step_new_bad h o hp hc).mono ?_
    rintro e w' ⟨rfl,h1⟩
    exact ⟨rfl,ps,k,h1,fun p hp=>(hok p hp).mono (by omega),by omega,by omega⟩
  | true =>
    refine (step_new_ok h (by omega) o hp hc).mono ?_
    rintro e w' ⟨rfl,D,M,h1⟩
    refine ⟨rfl,_,k,h1,fun p hp=>?_,by simp,by omega⟩
    rcases List.mem_append.1 hp with hp | hp
    ·exact (hok p hp).mono (by omega)
    ·simp at hp
     rw [hp]
     exact (PairOk.new hc).mono (Nat.zero_le _)
 ·have hkd:o.kind=3∨o.kind=4:=hp.elim (fun h=>.inr h.1) (fun h=>.inl h.1)
  by_cases he:ps=[]
  ·subst he
   refine (step_none h o (by omega) (by omega)).mono ?_
   rintro e w' ⟨rfl,h1⟩
   exact ⟨rfl,[],k,h1,fun p hp=>(by cases hp),by simp,by omega⟩
  ·have hpos:0 < ps.length:=List.length_pos_iff.2 he
   obtain ⟨p,hpp⟩:∃p,ps[pickI o.a ps.length]?=some p:=⟨_,List.getElem?_eq_getElem (pickI_lt _ hpos)⟩
   have hpo:=hok p (List.mem_of_getElem? hpp)
   have htl:(textOf o).length≤o.s.length+10:=by
    unfold textOf
    split
    ·simp [sealL,sumHex,hex2]
    ·omega
   have hbt:BadText (restOf (rConn p.r o.b) o.b) (textOf o):=by
    rcases hp with ⟨h1,h2⟩ | ⟨h1,h2,h3⟩
    ·unfold textOf;rw [if_neg (by omega)]
     exact badText_feed (noLet_rest hpo o.b) h2
    ·unfold textOf;rw [if_pos h1]
     exact badText_say (noLet_rest hpo o.b) h2 h3
   refine (step_feed h (by omega) (by omega) o hkd (by omega) hw.2.1 hpp hpo.inv hpo.few (by unfold NB;omega) (by unfold NB;omega) (fun W σ ML hM=>bad_feed hpo (by omega) o.b (textOf o) (by omega) hbt W σ ML hM)).mono ?_
   rintro e w' ⟨rfl,h1⟩
   refine ⟨rfl,_,k+1,h1,fun q hq=>?_,by simp,by omega⟩
   rcases List.mem_or_eq_of_mem_set hq with hq | rfl
   ·exact (hok q hq).mono (by omega)
   ·exact (hpo.fed o.b (textOf o) hbt).mono (by omega)
end
end Go.Proofs.YtaejfobbogahmabGreatDoor
namespace Go.Proofs.YtaejfobbogahmabGreatDoor
open Go Go.RowKit
def usedU (ops:List OpD) (k:Nat):Nat:=((ops.take k).map fun o=>o.s.length+20).sum
theorem usedU_step {ops:List OpD} {k:Nat} {o:OpD} (h:ops[k]?=some o):usedU ops (k+1)=usedU ops k+(o.s.length+20):=by
 unfold usedU
 rw [List.take_add_one,h]
 simp
theorem sum_take_le (l:List Nat) (k:Nat):(l.take k).sum≤l.sum:=by
 have h:=congrArg List.sum (List.take_append_drop k l)
 rw [List.sum_append] at h
 omega
theorem usedU_le (ops:List OpD) (k:Nat):usedU ops k≤20*ops.length+(ops.map fun o=>o.s.length).sum:=by
 unfold usedU
 rw [List.map_take]
 refine Nat.le_trans (sum_take_le _ k) ?_
 induction ops with
 | nil=>simp
 | cons o l ih=>simp only [List.map_cons,List.sum_cons,List.length_cons];omega
theorem sizeOps_sum:∀(ops:List OpD) (n m:Nat),sizeOps n ops=some m→m=n+(ops.map fun o=>o.s.length).sum
 | [],n,m,h=>by cases h;simp
 | o::l,n,m,h=>by
   unfold sizeOps at h
   by_cases h1:1048576 < n+o.s.length
   ·rw [if_pos h1] at h;cases h
   ·rw [if_neg h1] at h
    have:=sizeOps_sum l _ _ h
    simp only [List.map_cons,List.sum_cons]
    omega
theorem small_sum {ops:List OpD} (h:smallOps ops=true):ops.length+(ops.map fun o=>o.s.length).sum≤1048576:=by
 unfold smallOps at h
 cases hs:sizeOps ops.length ops with
 | none=>rw [hs] at h;cases h
 | some m =>
   rw [hs] at h
   have:=sizeOps_sum ops _ _ hs
   have h2:m≤1048576:=of_decide_eq_true h
   omega
theorem mem_le_sum:∀{l:List Nat} {x:Nat},x∈l→x≤l.sum
 | a::l,x,h=>by
   rcases List.mem_cons.1 h with rfl | h
   ·simp
   ·have:=mem_le_sum h;simp;omega
theorem LawAt.start {G:Nat} {w:World} (hE:Env G w) (hG:G≤w.heap.size):LawAt G w w.heap.size [] 0 (w.alloc (.cells #[.slice none 0 0,.slice none 0 0,.bool false] 33)):=by
 refine ⟨fun b=>if b=w.heap.size then (1,0) else (0,0),.slice none 0 0,.slice none 0 0,[],⟨⟨by simp,blk_alloc_new w⟩,SlAt.nil,SlAt.nil,fun k v h=>by simp at h,fun i p h=>by simp at h,fun i p h=>by simp at h,fun b hb=>?_,(Below.refl _ w).alloc (Nat.le_refl _) _,hE.alloc _,hG⟩,rfl⟩
 by_cases e:b=w.heap.size
 ·subst e;exact ⟨Nat.le_refl _,by simp⟩
 ·rw [if_neg e] at hb;exact absurd rfl hb
def BadAt (G:Nat) (w0:World) (V:Nat) (ops:List OpD) (k:Nat) (w:World):Prop:=∃ps n,LawAt G w0 V ps n w∧(∀p∈ps,PairOk (usedU ops k) p)∧ps.length≤k∧n≤k
theorem BadAt.grow {G V k:Nat} {w0 w w':World} {ops:List OpD} (h:BadAt G w0 V ops k w) (hb:Below w.heap.size w w'):BadAt G w0 V ops k w':=by
 obtain ⟨ps,n,h1,h2⟩:=h
 exact ⟨ps,n,h1.grow hb,h2⟩
theorem BadAt.below {G V k:Nat} {w0 w:World} {ops:List OpD} (h:BadAt G w0 V ops k w):Below w0.heap.size w0 w:=by
 obtain ⟨ps,n,⟨tg,dsv,lsv,lss,h1,_⟩,_⟩:=h
 exact h1.below
theorem BadAt.next {G V k:Nat} {w0 w:World} {ops:List OpD} (h:BadAt G w0 V ops k w) {o:OpD} (ho:ops[k]?=some o):BadAt G w0 V ops (k+1) w:=by
 obtain ⟨ps,n,h1,h2,h3,h4⟩:=h
 exact ⟨ps,n,h1,fun p hp=>(h2 p hp).mono (by rw [usedU_step ho];omega),by omega,by omega⟩
theorem BadAt.step {G V k:Nat} {w0 w:World} {ops:List OpD} (h:BadAt G w0 V ops k w) {o:OpD} (ho:ops[k]?=some o) (hs:ops.length+(ops.map fun o=>o.s.length).sum≤1048576) (hp:playBad o) (hw:wfOp o) :
 Calls Tryz.prog 10 #[vp V,.agg (opCells o)] w fun e w'=>e=.returned (.bool true)∧BadAt G w0 V ops (k+1) w':=by
 obtain ⟨ps,n,h1,h2,h3,h4⟩:=h
 have hk:=(List.getElem?_eq_some_iff.1 ho).1
 have hu:=usedU_le ops k
 have hol:o.s.length≤(ops.map fun o=>o.s.length).sum:=mem_le_sum (List.mem_map_of_mem (List.mem_of_getElem? ho))
 refine (step_bads h1 h2 (by omega) (by omega) (by omega) o hp hw (by omega)).mono ?_
 rintro e w' ⟨rfl,ps',k',q1,q2,q3,q4⟩
 exact ⟨rfl,ps',k',q1,fun p hp=>by rw [usedU_step ho];exact q2 p hp,by omega,by omega⟩
end Go.Proofs.YtaejfobbogahmabGreatDoor
