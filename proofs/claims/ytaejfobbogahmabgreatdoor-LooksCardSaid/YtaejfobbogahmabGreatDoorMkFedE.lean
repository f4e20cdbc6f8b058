/-
  Feed of whatever lines: what the document's does is what the raw one does. No program in sight.
-/
import Derived.Test.YtaejfobbogahmabGreatDoorMkBadE
import Derived.Test.YtaejfobbogahmabGreatDoorMkMShut
set_option maxRecDepth 100000
set_option maxHeartbeats 16000000
set_option linter.unusedVariables false
set_option linter.unusedSimpArgs false
namespace Go.Proofs.YtaejfobbogahmabGreatDoor
open Go
theorem foldl_keep {α β γ:Type} (g:α→γ) (f:α→β→α) (hf:∀a b,g (f a b)=g a):∀(l:List β) (a:α),g (l.foldl f a)=g a
 | [],_=>rfl
 | b::l,a=>(foldl_keep g f hf l (f a b)).trans (hf a b)
theorem rShut_cl (r:Raw) (id:Int):(rShut r id).conns.length=r.conns.length:=by
 rw [rShut_eq]
 show (rUnqueue _ id).conns.length=_
 rw [rUnqueue_conns]
 exact foldl_keep (fun r:Raw=>r.conns.length) rStop rStop_conns _ r
theorem rAgain_cl (r:Raw) (id:Int) (b:Bool):(rAgain r id b).conns.length=r.conns.length:=by
 unfold rAgain
 split
 ·rfl
 ·split
  ·rfl
  ·split
   ·split
    ·exact rShut_cl (rSay r _ _) _
    ·rw [rQueue_conns]
     unfold rLeft
     split<;>rfl
   ·rw [rQueue_conns]
theorem rConn_has {r:Raw} {c:Int} (h:hasConn r c=true):rConn r c=r:=if_pos h
theorem rHandle_cl {r:Raw} {c:Int} (h:hasConn r c=true) (m:Msg):(rHandle r c m).conns.length=r.conns.length:=by
 unfold rHandle
 split
 ·unfold rSubmit
  split
  ·rfl
  ·split
   ·rfl
   ·rw [rQueue_conns];rfl
 ·split
  ·split
   ·split
    ·exact rShut_cl (rSay r _ _) _
    ·rfl
   ·rfl
  ·split
   ·unfold rPull
    rw [rConn_has h]
    simp only
    split
    ·rfl
    ·split<;>rfl
   ·split
    ·rfl
    ·split
     ·split
      ·exact (rShut_cl _ _).trans (rEnd_conns (rSay r _ _) _)
      ·rfl
     ·split
      ·split
       ·exact (rAgain_cl _ _ _).trans (rEnd_conns r _)
       ·rfl
      ·split
       ·unfold rDrain
        rw [rConn_has h]
        simp only
        split
        ·rfl
        ·rename_i x hx
         exact (rBye_conns _ _).trans (aset_length_same hx _)
       ·rfl
theorem rLine_cl {r:Raw} {c:Int} (h:hasConn r c=true) (l:Bytes):(rLine r c l).conns.length=r.conns.length:=by
 unfold rLine
 split
 ·rfl
 ·split
  ·rfl
  ·unfold rServe
   rw [rServeN_conns]
   exact rHandle_cl h _
theorem rLines_cl {c:Int}:∀(ls:List Bytes) {r:Raw},hasConn r c=true→(ls.foldl (fun r l=>rLine r c l) r).conns.length=r.conns.length
 | [],_,_=>rfl
 | l::ls,r,h=>by rw [List.foldl_cons,rLines_cl ls (hasConn_line h),rLine_cl h]
theorem rConn_cl (r:Raw) (c:Int):(rConn r c).conns.length≤r.conns.length+1:=by
 unfold rConn
 split
 ·omega
 ·rename_i h
  have:aget r.conns c=none:=by
   cases h3:aget r.conns c with
   | none=>rfl
   | some y=>rw [h3] at h;exact absurd rfl h
  show (aset r.conns c _).length≤_
  rw [aset_absent _ this];simp
theorem rRest_cl (r:Raw) (c:Int) (b:Bytes):(rRest r c b).conns.length=r.conns.length:=by
 unfold rRest
 split
 ·rfl
 ·rename_i x hx
  exact aset_length_same hx _
theorem rLine_take (r:Raw) (c:Int) (l:Bytes):rLine r c (l.take 81)=rLine r c l:=by unfold rLine;rw [opened_take]
theorem fold_take (c:Int):∀(ls:List Bytes) (r:Raw),(ls.map (·.take 81)).foldl (fun r l=>rLine r c l) r=ls.foldl (fun r l=>rLine r c l) r
 | [],_=>rfl
 | l::ls,r=>by
   rw [List.map_cons,List.foldl_cons,List.foldl_cons,rLine_take]
   exact fold_take c ls _
def fedLines (r:Raw) (c:Int) (t:Bytes):List Bytes:=(mLines (restOf (rConn r c) c) t).dropLast
def fedRest (r:Raw) (c:Int) (t:Bytes):Bytes:=((mLines (restOf (rConn r c) c) t).getLastD []).take 81
def fedSt (r:Raw) (c:Int) (t:Bytes) (j:Nat):Raw:=((fedLines r c t).take j).foldl (fun r l=>rLine r c l) (rConn r c)
section
variable {N P:Nat} {r:Raw}
theorem fedSt_own (r:Raw) (c:Int) (t:Bytes) (j:Nat):hasConn (fedSt r c t j) c=true:=hasConn_lines _ (hasConn_own r c)
theorem fedSt_inv (hI:Inv N P r) (c:Int) (t:Bytes) (j:Nat):Inv (N+j) (P+4*j) (fedSt r c t j):=by
 have h1:((fedLines r c t).take j).length≤j:=List.length_take_le _ _
 exact (Inv.lines c _ (hI.conn c)).mono (by omega) (by omega)
theorem fedSt_next {c:Int} {t l:Bytes} {j:Nat} (h:(fedLines r c t)[j]?=some l):fedSt r c t (j+1)=rLine (fedSt r c t j) c l:=by
 unfold fedSt
 rw [List.take_add_one,h,List.foldl_append]
 rfl
theorem fedSt_cl (r:Raw) (c:Int) (t:Bytes) (j:Nat):(fedSt r c t j).conns.length≤r.conns.length+1:=by
 unfold fedSt
 rw [rLines_cl _ (hasConn_own r c)]
 exact rConn_cl r c
theorem rFeed_lines (hI:Inv N P r) (hF:Few r) (c:Int) (t:Bytes):rFeed r c t=rRest (fedSt r c t (fedLines r c t).length) c (fedRest r c t):=by
 have hr:(restOf (rConn r c) c).take 81=restOf (rConn r c) c:=List.take_of_length_le ((hF.conn c).rest c)
 have e:=cutLines_eq t (restOf (rConn r c) c)
 rw [hr] at e
 have hown:=hasConn_own r c
 have h2:=(fedSt_inv hI c t (fedLines r c t).length).q.kcn
 have h3:=fedSt_own r c t (fedLines r c t).length
 unfold fedRest
 rw [rRest_tw h2 h3]
 unfold fedSt
 rw [List.take_length]
 unfold rFeed fedLines
 simp only [e]
 rw [fold_take,rRest_tw (hI.conn c).q.kcn hown,tw_lines _ _ _ _ _ hown]
theorem rFeed_cl (hI:Inv N P r) (hF:Few r) (c:Int) (t:Bytes):(rFeed r c t).conns.length≤r.conns.length+1:=by
 rw [rFeed_lines hI hF,rRest_cl]
 exact fedSt_cl r c t _
theorem fed_agree (hI:Inv N P r) (hF:Few r) (c:Int) (t:Bytes):mRest (mConn (refOf (fedSt r c t (fedLines r c t).length)) c) c (fedRest r c t)=refOf (rFeed r c t):=by
 have h3:=fedSt_own r c t (fedLines r c t).length
 rw [mConn_ref,rConn_has h3,mRest_ref h3,rFeed_lines hI hF]
def zf (Z:Bytes→Bool) (x:Bytes):Bytes:=if Z x then x else []
def ZOk (Z:Bytes→Bool) (r:Raw):Prop:=tw (fun _ x=>zf Z x) [] r=r
variable {Z:Bytes→Bool}
theorem zf_eq (hz:Z []=true) {x:Bytes}:zf Z x=x↔Z x=true:=by
 unfold zf
 constructor
 ·intro h
  split at h
  ·assumption
  ·rw [←h];exact hz
 ·intro h;rw [if_pos h]
theorem ZOk.iff (hz:Z []=true):ZOk Z r↔∀c x,(c,x)∈r.conns→Z x.rest=true:=by
 constructor
 ·intro h c x hx
  have h1:amap (fun (_:Int) (x:Cn)=>({x with rest:=zf Z x.rest}:Cn)) r.conns=r.conns:=congrArg Raw.conns h
  have h2:∀(l:List (Int×Cn)),amap (fun (_:Int) (x:Cn)=>({x with rest:=zf Z x.rest}:Cn)) l=l→(c,x)∈l→Z x.rest=true:=by
   intro l
   induction l with
   | nil=>intro _ h;cases h
   | cons p l ih =>
     intro h hm
     obtain ⟨h3,h4⟩:=List.cons.inj (show (p.1,({p.2 with rest:=zf Z p.2.rest}:Cn))::amap (fun (_:Int) (x:Cn)=>({x with rest:=zf Z x.rest}:Cn)) l=p::l from h)
     rcases List.mem_cons.1 hm with h5 | h5
     ·subst h5
      exact (zf_eq hz).1 (congrArg (fun p:Int×Cn=>p.2.rest) h3)
     ·exact ih h4 h5
  exact h2 r.conns h1 hx
 ·intro h
  have:amap (fun (_:Int) (x:Cn)=>({x with rest:=zf Z x.rest}:Cn)) r.conns=r.conns:=amap_same _ (fun k v hv=>by
   show ({v with rest:=zf Z v.rest}:Cn)=v
   rw [(zf_eq hz).2 (h k v hv)])
  show tw _ [] r=r
  unfold tw
  rw [this]
  rfl
theorem ZOk.init (c:Cfg):ZOk Z (rNew c):=rfl
theorem ZOk.conn (hz:Z []=true) (h:ZOk Z r) (c:Int):ZOk Z (rConn r c):=by
 unfold rConn
 split
 ·exact h
 ·rw [ZOk.iff hz]
  intro d x hx
  rcases mem_aset hx with h1 | h1
  ·exact (ZOk.iff hz).1 h d x h1
  ·rw [h1.2];exact hz
theorem ZOk.lines (h:ZOk Z r) (c:Int) (ls:List Bytes) (hc:hasConn r c=true):ZOk Z (ls.foldl (fun r l=>rLine r c l) r):=by
 show tw _ [] _=_
 rw [←tw_lines _ [] c ls r hc]
 rw [show tw (fun _ x=>zf Z x) [] r=r from h]
theorem ZOk.put (hz:Z []=true) (h:ZOk Z r) (c:Int) {b:Bytes} (hb:Z b=true):ZOk Z (rRest r c b):=by
 unfold rRest
 split
 ·exact h
 ·rw [ZOk.iff hz]
  intro d x hx
  rcases mem_aset hx with h1 | h1
  ·exact (ZOk.iff hz).1 h d x h1
  ·rw [h1.2];exact hb
theorem ZOk.rest (hz:Z []=true) (h:ZOk Z r) (c:Int):Z (restOf r c)=true:=by
 unfold restOf
 split
 ·exact hz
 ·rename_i x hx
  exact (ZOk.iff hz).1 h c x (aget_mem hx)
theorem ZOk.feed (hz:Z []=true) (h:ZOk Z r) (hI:Inv N P r) (hF:Few r) (c:Int) (t:Bytes) (hl:Z (fedRest r c t)=true):ZOk Z (rFeed r c t):=by
 rw [rFeed_lines hI hF]
 exact ((h.conn hz c).lines c _ (hasConn_own r c)).put hz c hl
theorem ZOk.told (hz:Z []=true) (h:ZOk Z r):ZOk Z (rTold r):=(ZOk.iff hz).2 (fun c x hx=>(ZOk.iff hz).1 h c x hx)
end
def okLine (K:Bytes→Bool) (l:Bytes):Prop:=∀t m,opened l=some t→readMsg t=some m→K m.kind=true
structure FedOk (Z K:Bytes→Bool) (rest t:Bytes):Prop where
 lines:∀l∈(mLines rest t).dropLast,okLine K l
 last:Z (((mLines rest t).getLastD []).take 81)=true
def zNo (l:Bytes):Bool:=l.all fun c=>!isLet c
theorem zNo_iff {l:Bytes}:zNo l=true↔noLet l:=by
 unfold zNo noLet
 rw [List.all_eq_true]
 constructor
 ·intro h c hc;simpa using h c hc
 ·intro h c hc;simp [h c hc]
theorem okLine_no {K:Bytes→Bool} {l:Bytes} (h:noMsg l):okLine K l:=fun t m h1 h2=>by rw [h t h1] at h2;cases h2
theorem getLastD_mem' {α:Type} {l:List α} {d:α} (h:l≠[]):l.getLastD d∈l:=by
 rw [List.getLastD_eq_getLast?,List.getLast?_eq_some_getLast h]
 exact List.getLast_mem h
theorem fedOk_feed {K:Bytes→Bool} {rest t:Bytes} (h1:zNo rest=true) (h2:noLet t):FedOk zNo K rest t:=by
 have key:∀l∈mLines rest t,noLet l:=fun l hl c hc=>(mLines_mem t rest l hl c hc).elim (zNo_iff.1 h1 c) (h2 c)
 exact ⟨fun l hl=>okLine_no (noMsg_no (key l ((List.dropLast_sublist _).subset hl))),zNo_iff.2 (fun c hc=>key _ (getLastD_mem' (mLines_ne rest t)) c (List.mem_of_mem_take hc))⟩
theorem fedOk_say {K:Bytes→Bool} {rest s:Bytes} (h1:zNo rest=true) (h2:∀m,readMsg s=some m→K m.kind=true) (h3:∀c∈s,c≠10):FedOk zNo K rest (sealL s++[10]):=by
 have e:=mLines_none (sealL s) rest (seal_ne h3)
 refine ⟨fun l hl=>?_,?_⟩
 ·rw [e] at hl
  simp [List.dropLast] at hl
  subst hl
  cases rest with
  | nil =>
    intro t m ht hm
    rw [List.nil_append] at ht
    obtain ⟨n,_,h5⟩:=opened_eq ht
    have h6:t=s:=by
     have hl:t.length=s.length:=by
      have h7:=congrArg List.length h5
      simp [sealL,sumHex,hex2] at h7
      exact h7
     have h8:(sealL t).take t.length=(sealL s).take s.length:=by rw [h5,hl]
     simpa [sealL] using h8
    exact h2 m (by rw [←h6];exact hm)
  | cons x l=>exact okLine_no (noMsg_head (zNo_iff.1 h1 x List.mem_cons_self))
 ·rw [e]
  simp [zNo]
theorem readMsg_first {s:Bytes} {m:Msg} (h:readMsg s=some m):m.kind=s.takeWhile (· != 32):=by
 have key:∀(l:Bytes) (a:Bytes) (r:List Bytes),cut 32 l=a::r→a=l.takeWhile (· != 32):=by
  intro l
  induction l with
  | nil=>intro a r h;simp [cut] at h;simp [h.1]
  | cons x l ih =>
    intro a r h
    obtain ⟨b,q,h1,h2⟩:=rcut_cons 32 x l
    rw [h2] at h
    by_cases hx:x=32
    ·rw [if_pos hx] at h
     subst hx
     rw [←(List.cons.inj h).1];rfl
    ·rw [if_neg hx] at h
     rw [←(List.cons.inj h).1,ih b q h1]
     rw [List.takeWhile_cons,if_pos (by simpa using hx)]
 unfold readMsg at h
 split at h
 ·rename_i k hc
  have:=key _ _ _ hc
  split at h
  ·cases h;exact this
  ·cases h
 ·rename_i k a hc
  have:=key _ _ _ hc
  split at h
  ·obtain ⟨i,hi,rfl⟩:=Option.map_eq_some_iff.1 h
   exact this
  ·cases h
 ·rename_i k a b hc
  have:=key _ _ _ hc
  split at h
  ·simp only [Option.bind_eq_some_iff,Option.map_eq_some_iff] at h
   obtain ⟨i,hi,n,hn,rfl⟩:=h
   exact this
  ·cases h
 ·rename_i k a b d hc
  have:=key _ _ _ hc
  split at h
  ·simp only [Option.bind_eq_some_iff] at h
   obtain ⟨i,hi,n,hn,h⟩:=h
   split at h
   ·cases h;exact this
   ·cases h
  ·split at h
   ·simp only [Option.bind_eq_some_iff] at h
    obtain ⟨i,hi,h⟩:=h
    split at h
    ·cases h;exact this
    ·cases h
   ·cases h
 ·cases h
end Go.Proofs.YtaejfobbogahmabGreatDoor
