/-
  OnceQ: texts of their own, joined.
-/
import Derived.Test.YtaejfobbogahmaaGreatDoorMkOnceP
import Derived.Test.YtaejfobbogahmaaGreatDoorMkClose
import Derived.Test.YtaejfobbogahmaaGreatDoorMkRefP
import Derived.Test.YtaejfobbogahmaaGreatDoorMkMIds
set_option maxRecDepth 100000
set_option maxHeartbeats 16000000
set_option linter.all false
namespace Go.Proofs.YtaejfobbogahmaaGreatDoor
open Go
theorem zEf (c:UInt8):∀(l:zA) (n:Nat),yH (l++[c]) n=(match yH l n with | none=>none | some m=>if 48≤c∧c≤57 then some (10*m+(c.toNat - 48)) else none)
 | [],n=>by simp [yH]
 | x::l,n=>by
   simp only [List.cons_append,yH]
   split
   ·exact zEf c l _
   ·rfl
theorem zEg {c:UInt8} (h:48≤c∧c≤57):48≤c.toNat∧c.toNat≤57:=⟨by simpa using UInt8.le_iff_toNat_le.1 h.1,by simpa using UInt8.le_iff_toNat_le.1 h.2⟩
theorem zHX:∀(k:Nat) (l:zA) (n:Nat),l.length=k+1→k≤8→l.head?≠some 48→yH l 0=some n→dec n=l∧0 < n∧n < 10 ^ (k+1)
 | 0,l,n,hk,_,h0,h=>by
   match l,hk with
   | [c],_ =>
     simp only [yH] at h
     split at h
     ·next hc =>
      obtain ⟨h1,h2⟩:=zEg hc
      have e:10*0+(c.toNat - 48)=n:=Option.some.inj h
      have hne:c.toNat≠48:=fun e=>h0 (by rw [show c=48 from UInt8.toNat_inj.1 e];rfl)
      subst e
      refine ⟨?_,by omega,by omega⟩
      rw [zHW (by omega),show 48+(10*0+(c.toNat - 48))=c.toNat by omega]
      simp
     ·cases h
 | k+1,l,n,hk,hk8,h0,h=>by
   have hne:l≠[]:=by rintro rfl;simp at hk
   obtain ⟨a,c,rfl⟩:∃a c,l=a++[c]:=⟨l.dropLast,l.getLast hne,(List.dropLast_concat_getLast hne).symm⟩
   have ha:a.length=k+1:=by simpa using hk
   have hane:a≠[]:=by rintro rfl;simp at ha
   rw [zEf] at h
   cases hd:yH a 0 with
   | none=>rw [hd] at h;cases h
   | some m =>
     rw [hd] at h
     simp only [] at h
     split at h
     ·next hc =>
      obtain ⟨h1,h2⟩:=zEg hc
      have e:10*m+(c.toNat - 48)=n:=Option.some.inj h
      obtain ⟨i1,i2,i3⟩:=zHX k a m ha (by omega) (by
       intro h;apply h0
       obtain ⟨x,y,rfl⟩:=List.exists_cons_of_ne_nil hane
       exact h) hd
      subst e
      have hp:(10:Nat) ^ (k+1+1)=10*10 ^ (k+1):=by rw [Nat.pow_succ];omega
      have hbig:(10:Nat) ^ (k+1+1)≤10 ^ 11:=Nat.pow_le_pow_right (by omega) (by omega)
      refine ⟨?_,by omega,by omega⟩
      rw [zNQ (by omega) (by omega),show (10*m+(c.toNat - 48)) / 10=m by omega,i1,show 48+(10*m+(c.toNat - 48)) % 10=c.toNat by omega]
      simp
     ·cases h
theorem zNR {l:zA} {n:Nat} (h:yK l=some n):decI (n:Int)=l:=by
 have e:decI (n:Int)=dec n:=by
  unfold decI
  rw [if_neg (by omega)];rfl
 rw [e]
 unfold yK at h
 split at h
 ·cases h
 ·next hl =>
  split at h
  ·cases h
  ·next h0 =>
   by_cases h1:l.length=1
   ·match l,h1 with
    | [c],_ =>
      simp only [yH] at h
      split at h
      ·next hc =>
       obtain ⟨h1,h2⟩:=zEg hc
       have e:10*0+(c.toNat - 48)=n:=Option.some.inj h
       subst e
       rw [zHW (by omega),show 48+(10*0+(c.toNat - 48))=c.toNat by omega]
       simp
      ·cases h
   ·exact (zHX (l.length - 1) l n (by omega) (by omega) (fun e=>h0 ⟨by omega,e⟩) h).1
theorem zEh {c:UInt8}:∀(l:zA),∀a∈cut c l,c∉a
 | [],a,h=>by simp [cut] at h;subst h;simp
 | x::l,a,h=>by
   unfold cut at h
   split at h
   ·rcases List.mem_cons.1 h with rfl | h
    ·simp
    ·exact zEh l a h
   ·next hx =>
    have ih:=zEh (c:=c) l
    cases hc:cut c l with
    | nil =>
      rw [hc] at h
      simp only [List.mem_singleton] at h
      subst h
      simpa using fun e:c=x=>hx e.symm
    | cons b r =>
      rw [hc] at h ih
      rcases List.mem_cons.1 h with rfl | h
      ·intro hm
       rcases List.mem_cons.1 hm with e | hm
       ·exact hx e.symm
       ·exact ih b List.mem_cons_self hm
      ·exact ih a (List.mem_cons_of_mem _ h)
theorem msgT {t:zA} {m:Msg} (hl:t.length≤80) (h:xP t=some m):MsgT t m:=by
 have hok:=zBM hl h
 have hp:=zEh (c:=32) t
 unfold xP at h
 split at h
 ·next k hc =>
  split at h
  ·next hk =>
   injection h with h;subst h
   exact ⟨by simp [NoBl],by simp [NoBl],fun e=>by
    have e:k=yE:=e
    rw [e] at hk
    exact absurd hk (by decide)⟩
  ·cases h
 ·next k a hc =>
  split at h
  ·next hk =>
   obtain ⟨i,hi,rfl⟩:=Option.map_eq_some_iff.1 h
   exact ⟨by simp [NoBl],by simp [NoBl],fun e=>by
    have e:k=yE:=e
    rw [e] at hk
    exact absurd hk (by decide)⟩
  ·cases h
 ·next k a b hc =>
  split at h
  ·next hk =>
   obtain ⟨i,hi,h⟩:=Option.bind_eq_some_iff.1 h
   obtain ⟨n,hn,rfl⟩:=Option.map_eq_some_iff.1 h
   exact ⟨by simp [NoBl],by simp [NoBl],fun e=>by
    have e:k=yE:=e
    rw [e] at hk
    exact absurd hk (by decide)⟩
  ·cases h
 ·next k a b c hc =>
  rw [hc] at hp
  split at h
  ·next hk =>
   obtain ⟨i,hi,h⟩:=Option.bind_eq_some_iff.1 h
   obtain ⟨n,hn,h⟩:=Option.bind_eq_some_iff.1 h
   split at h
   ·injection h with h;subst h
    exact ⟨by simp [NoBl],⟨hp c (by simp),hok.text⟩,fun _=>⟨b,by show cut 32 t=[yE,decI (i:Int),b,c];rw [hc,hk,zNR hi]⟩⟩
   ·cases h
  ·split at h
   ·next hk =>
    obtain ⟨i,hi,h⟩:=Option.bind_eq_some_iff.1 h
    split at h
    ·injection h with h;subst h
     exact ⟨⟨hp b (by simp),hok.tenant⟩,⟨hp c (by simp),hok.text⟩,fun e=>by
      have e:k=yE:=e
      rw [e] at hk
      exact absurd hk (by decide)⟩
    ·cases h
   ·cases h
 ·cases h
theorem zNS {N P:Nat} {t:zA} {r:Raw} (hI:Inv N P r) (hs:Sol r) (c:Int) (hc0:0≤c) (line:zA) (h:∀t0,ye line=some t0→t0=t):Said (some t) (opn r) r (zk r c line):=by
 have hbad:zJ r (rSay r c [wBad]):=zJ.say r c (by unfold Oth;simp) (fun x hx=>by
  rw [List.mem_singleton] at hx;subst hx;unfold NoBl wBad;decide)
 unfold zk
 split
 ·exact hbad.said hs
 ·next t0 ho =>
  obtain rfl:=h t0 ho
  split
  ·exact hbad.said hs
  ·next m hm=>exact (zNO hs c hc0 (zBM (zBN ho) hm).id (msgT (zBN ho) hm)).trans (fun h=>zEd (hI.handle c (zBM (zBN ho) hm)) h)
theorem zHY (n:UInt8) (h:n.toNat < 16):hexD n≠10:=by
 unfold hexD
 split
 ·next h1 =>
  have h1:n.toNat < 10:=by simpa using UInt8.lt_iff_toNat_lt.1 h1
  intro e
  have:=congrArg UInt8.toNat e
  simp at this;omega
 ·next h1 =>
  have h1:10≤n.toNat:=by
   rcases Nat.lt_or_ge n.toNat 10 with h2 | h2
   ·exact absurd (UInt8.lt_iff_toNat_lt.2 (by simpa using h2)) h1
   ·exact h2
  intro e
  have:=congrArg UInt8.toNat e
  simp at this;omega
theorem zDF (c:UInt8):(10:UInt8)∉hex2 c:=by
 unfold hex2
 simp only [List.mem_cons,List.not_mem_nil,or_false,not_or]
 refine ⟨fun e=>zHY (c / 16) ?_ e.symm,fun e=>zHY (c % 16) ?_ e.symm⟩
 ·rw [UInt8.toNat_div];have:=c.toNat_lt;simp;omega
 ·rw [UInt8.toNat_mod];simp;omega
theorem zEi {t:zA} (h:(10:UInt8)∉t):(10:UInt8)∉zS t:=by
 unfold zS zBJ
 simp only [List.mem_append,List.mem_cons,not_or]
 exact ⟨h,by decide,⟨⟨zDF _,zDF _⟩,zDF _⟩,zDF _⟩
theorem zCH:∀(l rest:zA),(10:UInt8)∉l→rest.length≤81→zL rest (l++[10])=([(rest++l).take 81],[])
 | [],rest,_,hr=>by simp [zL,List.take_of_length_le hr]
 | x::l,rest,h,hr=>by
   simp only [List.mem_cons,not_or] at h
   rw [List.cons_append,zL,if_neg (fun e=>h.1 e.symm)]
   split
   ·next h8 =>
    rw [zCH l (rest++[x]) h.2 (by simp;omega),List.append_assoc];rfl
   ·next h8 =>
    rw [zCH l rest h.2 hr]
    have e:rest.length=81:=by omega
    rw [List.take_append_of_le_length (by omega),List.take_append_of_le_length (by omega)]
theorem zNT {t t0:zA} (h:ye ((zS t).take 81)=some t0):t0=t:=by
 have hl:=zCy t
 by_cases h81:(zS t).length≤81
 ·rw [List.take_of_length_le h81] at h
  unfold ye at h
  split at h
  ·cases h
  ·split at h
   ·injection h with h
    rw [←h,hl,Nat.add_sub_cancel]
    unfold zS
    rw [List.take_append_of_le_length (Nat.le_refl _),List.take_length]
   ·cases h
 ·unfold ye at h
  rw [if_pos (.inr (by simp;omega))] at h
  cases h
def zAF (r:Raw):Prop:=∀p∈r.conns,p.2.rest=[]
theorem zAF.of {r:Raw} (h:zAF r) (c:Int):yr r c=[]:=by
 unfold yr
 cases e:aget r.conns c with
 | none=>rfl
 | some x=>exact h _ (yQ e)
theorem zNU {N P:Nat} {t:zA} {r:Raw} (hI:Inv N P r) (hs:Sol r) (c:Int) (hc0:0≤c) (hn:zAF (zH r c)) (h10:(10:UInt8)∉t):Said (some t) (opn r) r (yN r c (yZ t)):=by
 have e:zL (yr (zH r c) c) (yZ t)=([(zS t).take 81],[]):=by
  rw [hn.of c]
  exact zCH (zS t) [] (zEi h10) (by simp)
 have hq:zJ r (xl (zH r c) c []):=(zBZ r c).trans (by
  unfold xl
  split
  ·exact .refl _
  ·exact .same rfl rfl)
 have hI':Inv N P (xl (zH r c) c []):=(hI.conn c).rest c []
 unfold yN
 simp only [e,List.foldl_cons,List.foldl_nil]
 exact (hq.said hs).trans (fun h=>zNS hI' h c hc0 _ (fun t0 ho=>zNT ho))
theorem zNV (c:Int) (r:Raw) (id:Int):opn (zc c r id)=adel (opn r) id:=by
 unfold zc
 rw [zHR,zCG (zJ.fold zBE _ r).1]
theorem zNW (c:Int) (r:Raw) (id:Int):∃l,(zc c r id).out=r.out++sayL l∧zAO l∧∀p∈l,∃w ws,p.2=w::ws∧Oth w:=by
 have h:=(zJ.fold zBE ((rOf r id).filter fun a=>decide (a.conn=c)) r).trans (zDE _ id)
 exact h.2
theorem zHZ (c:Int):∀(ids:List Int) (r:Raw),Sol r→Sol (ids.foldl (zc c) r)∧opn (ids.foldl (zc c) r)=ids.foldl adel (opn r)∧∃l,(ids.foldl (zc c) r).out=r.out++sayL l∧zAO l∧∀p∈l,∃w ws,p.2=w::ws∧Oth w
 | [],r,hs=>⟨hs,rfl,[],(List.append_nil _).symm,by unfold zAO;simp,by simp⟩
 | id::ids,r,hs=>by
   have h1:Sol (zc c r id):=zHT ((zJ.fold zBE _ r).sol hs) id
   obtain ⟨g1,g2,m,g3,g4,g5⟩:=zHZ c ids (zc c r id) h1
   obtain ⟨l,k1,k2,k3⟩:=zNW c r id
   refine ⟨g1,by rw [List.foldl_cons,g2,zNV];rfl,l++m,?_,fun p hp=>?_,fun p hp=>?_⟩
   ·rw [List.foldl_cons,g3,k1,List.append_assoc];unfold sayL;rw [List.map_append]
   ·rcases List.mem_append.1 hp with hp | hp
    ·exact k2 p hp
    ·exact g4 p hp
   ·rcases List.mem_append.1 hp with hp | hp
    ·exact k3 p hp
    ·exact g5 p hp
theorem zHa {t:Option zA}:∀(l:List Att) {r:Raw},Sol r→Said t (opn r) r (l.foldl yt r)
 | [],r,hs=>(zJ.refl r).said hs
 | a::l,r,hs=>Said.trans (((zBE r a).said hs).trans (fun h=>zEc h a.id false)) (fun h=>zHa l h)
theorem zHb {V:Type}:∀(ids:List Int) {l:List (Int×V)},(l.map Prod.fst).Nodup→ids.foldl adel l=l.filter fun p=>decide (p.1∉ids)
 | [],l,_=>(List.filter_eq_self.2 (by simp)).symm
 | id::ids,l,hn=>by
   rw [List.foldl_cons,zEe hn,zHb ids (hn.sublist (List.filter_sublist.map _)),List.filter_filter]
   congr 1
   funext p
   simp only [List.mem_cons,not_or]
   by_cases h:p.1=id<;>simp [h]
theorem zNX {N P:Nat} {t:Option zA} {r:Raw} (hI:Inv N P r) (hs:Sol r) (c:Int):Said t ((opn r).filter fun p=>!decide (p.2=c)) r (yl r c):=by
 rw [zBO]
 have hs0:Sol (zm r c):=hs
 obtain ⟨h1,h2⟩:=zCU hI c
 have hI2:=Inv.closeReqs c (yg r c) (hI.close0 c) h1 h2
 obtain ⟨g1,g2,l,g3,g4,g5⟩:=zHZ c (yg r c) (zm r c) hs0
 have hk:((opn r).map Prod.fst).Nodup:=by unfold opn opq;rw [zEu,zEu];exact hI.q.kreq
 have e:(yg r c).foldl adel (opn r)=(opn r).filter fun p=>!decide (p.2=c):=by
  rw [zHb _ hk]
  refine List.filter_congr (fun p hp=>?_)
  have key:p.1∈yg r c↔p.2=c:=by
   unfold yg
   rw [zBn]
   unfold opn opq amap at hp
   simp only [List.map_map,List.mem_map,Function.comp] at hp
   obtain ⟨x,hx,rfl⟩:=hp
   constructor
   ·intro h
    obtain ⟨y,hy,he⟩:=List.mem_map.1 h
    obtain ⟨hy1,hy2⟩:=List.mem_filter.1 hy
    have:x=y:=by
     have a1:=xA hI.q.kreq hx
     have a2:=xA hI.q.kreq hy1
     rw [show y.1=x.1 from he] at a2
     rw [a1] at a2
     exact Prod.ext he.symm (Option.some.inj a2)
    rw [this]
    simpa [opqF] using hy2
   ·intro h
    exact List.mem_map.2 ⟨x,List.mem_filter.2 ⟨hx,by simpa [opqF] using h⟩,rfl⟩
  by_cases h:p.2=c
  ·simp [h,key.2 h]
  ·simp [h];exact fun hm=>h (key.1 hm)
 refine Said.trans (r1:=(yg r c).foldl (zc c) (zm r c)) ⟨⟨l,g3,?_,g4⟩,g1⟩ (fun h=>?_)
 ·rw [g2,show opn (zm r c)=opn r from rfl,e]
  exact zDB g5
 ·exact (zHa _ h).trans (fun h=>zEd (Inv.closeAtts _ hI2 (Live.of_filter hI2 _)) h)
end Go.Proofs.YtaejfobbogahmaaGreatDoor
