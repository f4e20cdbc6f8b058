/-
  Eval Keep Keep2 Close1 Close: texts of their own, joined.
-/
import Derived.Test.YtaejfobbogahmaaGreatDoorMkNew
import Derived.Test.YtaejfobbogahmaaGreatDoorMkStepL
import Derived.Test.YtaejfobbogahmaaGreatDoorMkTick
set_option maxRecDepth 100000
set_option maxHeartbeats 16000000
set_option linter.all false
namespace Go.Proofs.YtaejfobbogahmaaGreatDoor
open Go
inductive Ev where
 | say (c:Int) (s:zA)
 | tick
 | close (c:Int)
def yZ (s:zA):zA:=zS s++[10]
def yy (x:List (Int×zA)):List (Int×zA):=x.map fun p=>(p.1,zS p.2)
theorem zCy (s:zA):(zS s).length=s.length+9:=by
 unfold zS zBJ hex2;simp
theorem zMf (s:zA):(yZ s).length=s.length+10:=by unfold yZ;rw [List.length_append,zCy];simp
def o1:zA:=[49]
abbrev E1:=Ev×List (Int×zA)
def tk (l:List (Nat×zA)):E1:=(.tick,l.map fun p=>((p.1:Int),p.2))
def cl (c:Nat) (l:List (Nat×zA)):E1:=(.close c,l.map fun p=>((p.1:Int),p.2))
open Go Go.RowKit
def zBD (w:World) (v:Value) (x:List (Int×zA)):Prop:=SlAt w 59 2 (fun _=>True) v x.length (yv (yy x))
def zCE (w:World) (v:Value) (x:List Int):Prop:=SlAt w 3 1 (fun _=>True) v x.length (x.map encI)
def zCF (w:World) (v:Value) (x:List zA):Prop:=SlAt w 9 1 (fun _=>True) v x.length (x.map fun s=>vs (bs s))
theorem zBD.below {w w':World} {v:Value} {x:List (Int×zA)} (h:zBD w v x) (hb:Below w.heap.size w w'):zBD w' v x:=SlAt.of_blk h (fun b _ hl=>hb.block b hl) (fun _ h _=>h)
theorem zCE.below {w w':World} {v:Value} {x:List Int} (h:zCE w v x) (hb:Below w.heap.size w w'):zCE w' v x:=SlAt.of_blk h (fun b _ hl=>hb.block b hl) (fun _ h _=>h)
theorem zCF.below {w w':World} {v:Value} {x:List zA} (h:zCF w v x) (hb:Below w.heap.size w w'):zCF w' v x:=SlAt.of_blk h (fun b _ hl=>hb.block b hl) (fun _ h _=>h)
theorem zET:∀(l:List (Int×zA)) (k:Nat) (p:Int×zA),l[k]?=some p→(yv l)[2*k]?=some (vi p.1)∧(yv l)[2*k+1]?=some (vs (bs p.2))
 | [],k,p,h=>by simp at h
 | q::l,0,p,h=>by
   simp at h;subst h
   exact ⟨rfl,rfl⟩
 | q::l,k+1,p,h=>by
   have:=zET l k p (by simpa using h)
   have e:yv (q::l)=vi q.1::vs (bs q.2)::yv l:=rfl
   rw [e]
   exact ⟨by rw [show 2*(k+1)=2*k+1+1 from by omega];simpa using this.1,by rw [show 2*(k+1)+1=2*k+1+1+1 from by omega];simpa using this.2⟩
theorem xu {w w':World} {a:Addr} {v:Value} (hb:Below w.heap.size w w') (h:w.cell? a=some v):w'.cell? a=some v:=by
 have hl:a.block < w.heap.size:=by
  rcases Nat.lt_or_ge a.block w.heap.size with h1 | h1
  ·exact h1
  ·unfold World.cell? at h
   rw [Array.getElem?_eq_none h1] at h
   cases h
 rw [World.cell?_of_block (hb.block _ hl)];exact h
theorem zMg {w:World} {v vc vt:Value} (x:List (Int×zA)) (h:zBD w v x) (hc:zCE w vc (x.map (·.1))) (ht:zCF w vt (x.map (·.2))) (hl:∀p∈x,p.2.length≤1000000) :
 Calls Tryz.prog 21 #[v,vc,vt] w fun e w'=>e=.returned (.bool true)∧Below w.heap.size w w':=by
 obtain ⟨la,lc,e1,e2,e3⟩:=SlAt.form' h
 obtain ⟨ca,cc,e4,e5,e6⟩:=SlAt.form' hc
 obtain ⟨ta,tc,e7,e8,e9⟩:=SlAt.form' ht
 rw [List.length_map] at e4 e7
 subst e1;subst e4;subst e7
 have H:=zh h
 have HC:=zh hc
 have HT:=zh ht
 have HL:=zh hl
 have hxl:x.length≤9223372036854775807:=by unfold maxLen at e3;omega
 clear h hc ht hl e2 e3 e5 e6 e8 e9
 have hne:(((x.length:Nat):Int) != ((x.length:Nat):Int))=false:=by simp
 go_enter Tryz.func21,Tryz.ntmps21
 go_wp2_with fail
 go_loopw [7,15] (fun _ s15 wr=>∃k:Nat,s15=.int .i64 k∧k≤x.length∧Hid (Below w.heap.size w wr)) (fun _ s15 _=>x.length - (intOf s15).toNat)
 case atStart=>exact ⟨0,by go_num,Nat.zero_le _,Below.refl _ _⟩
 case round =>
  obtain ⟨k,rfl,hk,HB⟩:=hrel
  by_cases hkl:k < x.length
  ·have hlt:decide ((k:Int) < (x.length:Int))=true:=decide_eq_true (by omega)
   obtain ⟨p,hp⟩:∃p,x[k]?=some p:=⟨_,List.getElem?_eq_getElem hkl⟩
   have hk0:(0:Int)≤(k:Int):=by omega
   have hk1:(k:Int) < (x.length:Int):=by omega
   have h1:=H.out.below HB.out
   have h2:=HC.out.below HB.out
   have h3:=HT.out.below HB.out
   obtain ⟨b1,o1,cap1,hv1,_,_,_,_,c1,_⟩:=SlAt.form h1 (by omega)
   obtain ⟨b2,o2,cap2,hv2,_,_,_,_,c2,_⟩:=SlAt.form h2 (by rw [List.length_map];omega)
   obtain ⟨b3,o3,cap3,hv3,_,_,_,_,c3,_⟩:=SlAt.form h3 (by rw [List.length_map];omega)
   obtain ⟨rfl,rfl⟩:la=some ⟨b1,o1,none⟩∧lc=cap1:=by injection hv1 with e1 e2 e3;exact ⟨e1,e3⟩
   obtain ⟨rfl,rfl⟩:ca=some ⟨b2,o2,none⟩∧cc=cap2:=by injection hv2 with e1 e2 e3;exact ⟨e1,e3⟩
   obtain ⟨rfl,rfl⟩:ta=some ⟨b3,o3,none⟩∧tc=cap3:=by injection hv3 with e1 e2 e3;exact ⟨e1,e3⟩
   obtain ⟨q1,q2⟩:=zET (yy x) k (p.1,zS p.2) (by unfold yy;simp [hp])
   have d1:wr.cell? ⟨b1,o1+k*2,none⟩=some (vi p.1):=by rw [Nat.mul_comm];exact c1 _ _ q1
   have d2:wr.cell? ⟨b1,o1+k*2+1,none⟩=some (vs (bs (zS p.2))):=by rw [Nat.mul_comm,Nat.add_assoc];exact c1 _ _ q2
   have d3:wr.cell? ⟨b2,o2+k,none⟩=some (vi p.1):=c2 k _ (by simp [hp])
   have d4:wr.cell? ⟨b3,o3+k,none⟩=some (vs (bs p.2)):=c3 k _ (by simp [hp])
   have hsz:p.2.length≤1000000:=HL.out p (List.mem_of_getElem? hp)
   have HS:=zh (fun n=>zES (G:=0) (w:=wr.drewN n) p.2 (by omega))
   have hb1:(p.1 != p.1)=false:=by simp
   clear h1 h2 h3 c1 c2 c3 q1 q2 hv1 hv2 hv3 hp
   go_wp2_with fail
   go_region_held3 (fun w'=>w'.cell? ⟨b1,o1+k*2,none⟩=some (vi p.1)∧w'.cell? ⟨b1,o1+k*2+1,none⟩=some (vs (bs (zS p.2)))∧w'.cell? ⟨b2,o2+k,none⟩=some (vi p.1)∧w'.cell? ⟨b3,o3+k,none⟩=some (vs (bs p.2))) (go_keep) ((go_at_call 19;refine (HS.out 1).mono ?_;rintro e w2 ⟨rfl,hb⟩;have HB2:Hid (Below w.heap.size w w2):=Below.trans (zAK HB.out 1) (hb.mono (by have:=HB.out.size;simpa using this));have d1b:=xu hb d1;have d2b:=xu hb d2;have d3b:=xu hb d3;have d4b:=xu hb d4;clear hb))
   all_goals
    go_wp2_with fail
    go_roundw
    case rel=>exact ⟨k+1,by go_num,by omega,HB2.out⟩
    case measure=>simp [intOf];omega
  ·obtain rfl:k=x.length:=by omega
   have hlt:decide ((x.length:Int) < (x.length:Int))=false:=by simp
   go_wp2_with fail
   go_ret
   exact ⟨rfl,HB.out⟩
structure KAt (G:Nat) (w0:World) (D Wb:Nat) (r:Raw) (w:World):Prop where
 rep:∃ρ L,RRep w ρ G D L r∧(∀b,Of ρ b→w0.heap.size≤b)∧¬Of ρ Wb
 box:w.heap[Wb]?=some (.cells #[vp D] 43 (0,0))
 new:w0.heap.size≤Wb
 below:Below w0.heap.size w0 w
 env:Env G w
section
variable {G D Wb:Nat} {w0 w w':World} {r:Raw}
theorem KAt.grow (h:KAt G w0 D Wb r w) (hb:Below w.heap.size w w'):KAt G w0 D Wb r w':=by
 obtain ⟨⟨ρ,L,h1,h2,h3⟩,h4,h5,h6,h7⟩:=h
 exact ⟨⟨ρ,L,h1.of_fr (Fr.of_below (S:=fun _=>False) hb) (fun _ f=>f.elim),h2,h3⟩,(hb.block _ (zD _ h4)).trans h4,h5,Below.trans h6 (hb.mono h6.size),h7.grow hb⟩
theorem KAt.told (h:KAt G w0 D Wb r w) (hG:G≤w0.heap.size) {r':Raw} {e:Ending} {ρ:Nat→Role} {L:Lay} (h1:RRep w ρ G D L r) (h2:∀b,Of ρ b→w0.heap.size≤b) (h3:¬Of ρ Wb) (hp:zBW w ρ G D r' e w') {x:List (Int×zA)} (hx:r'.out=yy x) :
 ∃v,e=.returned v∧KAt G w0 D Wb (xe r') w'∧zBD w' v x:=by
 obtain ⟨_,h4,h5,h6,h7⟩:=h
 obtain ⟨v,ρ',L',rfl,k1,k2,k3⟩:=hp
 have hof:∀b,Of ρ' b→w0.heap.size≤b:=fun b hb=>by
  rcases k2.own b hb with h8 | h8
  ·exact h2 b h8
  ·have:=h6.size;omega
 refine ⟨v,rfl,⟨⟨ρ',L',k1,hof,fun hh=>(k2.own Wb hh).elim h3 (fun h8=>by have:=zD _ h4;omega)⟩,(k2.fr.block _ (zD _ h4) h3).trans h4,h5,Below.trans h6 (k2.fr.below h6.size h2),h7.fr k2.fr (fun b hb=>Nat.le_trans hG (h2 b hb))⟩,?_⟩
 unfold zBD
 rw [←hx]
 have:x.length=r'.out.length:=by rw [hx];simp [yy]
 rw [this]
 exact SlAt.of_blk k3 (fun _ _ _=>rfl) (fun _ _ _=>trivial)
end
theorem zMh {G:Nat} {w:World} (hE:Env G w) (hG:G≤w.heap.size) (c:Cfg) (hc:zAT c=true) {w0:World} (hw:Below w0.heap.size w0 w) :
 Calls Tryz.prog 18 #[.agg (zAN c)] w fun e w'=>∃D Wb,e=.returned (.tuple #[vp Wb,.bool true])∧KAt G w0 D Wb (rNew c) w'∧Below w.heap.size w w':=by
 have HCC:=zh (show zAN c=#[vi c.lease,vi c.retries,vi c.cap,vi c.bound,vi c.hedge] from rfl)
 have HN:=zh (zMe (G:=G) (w:=w.alloc (.cells (zAN c) 34)) (by simp;omega) c)
 have HB:Hid (Below w.heap.size w (w.alloc (.cells (zAN c) 34))):=((Fr.refl (fun _=>False) w).alloc _).below (Nat.le_refl _) (fun _ f=>f.elim)
 have HE:=zh hE
 have HW:=zh hw
 have Hc:=zh hc
 rw [HCC.out] at HN HB ⊢
 clear hE hG hw hc
 go_enter Tryz.func18,Tryz.ntmps18
 go_wp2_with fail
 refine HN.out.mono ?_
 rintro e w1 ⟨hp1,_,hb⟩
 obtain ⟨D,ρ,L,rfl,h1,h2⟩:=hp1 Hc.out
 have HR:=zh (And.intro h1 h2)
 have HB1:=zh (Below.trans HB.out (hb.mono (by simp)))
 clear hp1 hb h1 h2
 go_wp2_with fail
 go_ret2
 refine ⟨D,w1.heap.size,rfl,⟨⟨ρ,L,HR.out.1.alloc _,fun b hb=>?_,fun ho=>?_⟩,zP w1,?_,?_,?_⟩,Below.trans HB1.out (((Fr.refl (fun _=>False) w1).alloc _).below HB1.out.size (fun _ f=>f.elim))⟩
 ·have:=HR.out.2 b hb
  have h5:=HW.out.size
  simp at this;omega
 ·have:=(HR.out.1.dom _ ho).2;omega
 ·have h5:=HW.out.size;have h6:=HB1.out.size;omega
 ·exact Below.trans HW.out (Below.trans HB1.out (((Fr.refl (fun _=>False) w1).alloc _).below (B:=w.heap.size) (by have:=HB1.out.size;exact this) (fun _ f=>f.elim)) |>.mono (by have:=HW.out.size;exact this))
 ·exact (HE.out.grow HB1.out).alloc _
theorem zMi {D Wb:Nat} {w:World} {c:Int} {s z y:zA} {Kp:Value→World→Prop} (cW:w.cell? ⟨Wb,0,none⟩=some (vp D)) (HS:Calls Tryz.prog 19 #[vs (bs s)] w.drew fun e w'=>e=.returned (vs (bs z))∧Below w.heap.size w w')
 (HF:∀w',Below w.heap.size w w'→Calls Tryz.prog 20 #[vp D,vi c,vs (bs y)] w' fun e w'=>∃v,e=.returned v∧Kp v w'∧w'.cell? ⟨Wb,0,none⟩=some (vp D)) (hadd:bs z++(⟨#[10]⟩:ByteArray)=bs y) (hl1:(z.length:Int)+1≤9223372036854775807) :
 Calls Tryz.prog 22 #[vp Wb,vi c,vs (bs s)] w fun e w'=>∃v,e=.returned v∧Kp v w':=by
 have HS:=zh HS
 have HF:=zh HF
 have hsz:(bs z).size=z.length:=yX _
 have hl2:¬9223372036854775807 < z.length+1:=by omega
 clear hl1
 go_enter Tryz.func22,Tryz.ntmps22
 go_wp2_with fail
 go_region_law (first
  | (go_simp;go_at_call 19;refine HS.out.mono ?_;rintro e w1 ⟨rfl,hb⟩;have cW1:=xu hb cW;have HF1:=zh (HF.out w1 hb);clear hb)
  | (go_simp;go_at_call 20;refine HF1.out.mono ?_;rintro e w2 ⟨v,rfl,hk,cW2⟩;have HK:=zh hk;clear hk))
 all_goals
  go_wp2_with fail
  go_ret
  exact ⟨v,rfl,HK.out⟩
theorem zHD:∀(l m:List Int),l.Pairwise (· < ·)→m.Pairwise (· < ·)→(∀x,x∈l↔x∈m)→l=m
 | [],[],_,_,_=>rfl
 | [],y::m,_,_,h=>by have:=(h y).2 (by simp);simp at this
 | x::l,[],_,_,h=>by have:=(h x).1 (by simp);simp at this
 | x::l,y::m,h1,h2,h=>by
   rw [List.pairwise_cons] at h1 h2
   have e:x=y:=by
    rcases List.mem_cons.1 ((h x).1 (by simp)) with e | e
    ·exact e
    ·rcases List.mem_cons.1 ((h y).2 (by simp)) with e2 | e2
     ·exact e2.symm
     ·have:=h2.1 x e;have:=h1.1 y e2;omega
   subst e
   rw [zHD l m h1.2 h2.2 (fun z=>⟨fun hz=>by
    rcases List.mem_cons.1 ((h z).1 (by simp [hz])) with e | e
    ·subst e;have:=h1.1 z hz;omega
    ·exact e,fun hz=>by
    rcases List.mem_cons.1 ((h z).2 (by simp [hz])) with e | e
    ·subst e;have:=h2.1 z hz;omega
    ·exact e⟩)]
theorem zHE {x:Int}:∀{l:List Int},l.Pairwise (·≤·)→(zAB x l).Pairwise (·≤·)
 | [],_=>by simp [zAB]
 | y::l,h=>by
   rw [List.pairwise_cons] at h
   unfold zAB
   split
   ·rename_i hxy
    rw [List.pairwise_cons]
    refine ⟨fun z hz=>?_,by rw [List.pairwise_cons];exact h⟩
    rcases List.mem_cons.1 hz with e | e
    ·omega
    ·have:=h.1 z e;omega
   ·rename_i hxy
    rw [List.pairwise_cons]
    refine ⟨fun z hz=>?_,zHE h.2⟩
    rw [zCT] at hz
    rcases hz with e | e
    ·omega
    ·exact h.1 z e
theorem zHF:∀(l:List Int),(xf l).Pairwise (·≤·)
 | []=>by simp [xf]
 | x::l=>by unfold xf;exact zHE (zHF l)
theorem zHG {l:List Int} (h:l.Pairwise (·≤·)) (hn:l.Nodup):l.Pairwise (· < ·):=(h.and hn).imp (fun ⟨a,b⟩=>by omega)
theorem zMj {l m:List Int} (hl:l.Nodup) (hm:m.Nodup) (h:∀x,x∈l↔x∈m):l.mergeSort (fun x y=>decide (x≤y))=xf m:=by
 refine zHD _ _ (zHG ?_ ((List.mergeSort_perm l _).nodup_iff.2 hl)) (zHG (zHF m) (zDd hm)) (fun x=>?_)
 ·have:=List.pairwise_mergeSort (le:=fun x y:Int=>decide (x≤y)) (fun a b c=>by simp;omega) (fun a b=>by simp;omega) l
  exact this.imp (fun h=>by simpa using h)
 ·rw [List.mem_mergeSort,zBn];exact h x
theorem zMk {w:World} {b off n:Nat} {cs:Array Value} {T:TypeId} {fr:Nat×Nat} {d:Array Int} {os:Array Obj} (h:w.heap[b]?=some (.cells cs T fr)) :
 (Go.Sort.grow (Go.Sort.putRow (Value.int .i64) (Go.Sort.ahead w n) b off d) os).heap[b]?=some (.cells (Go.Sort.putCells (Value.int .i64) off d cs) T fr)∧Fr (fun x=>x=b) w (Go.Sort.grow (Go.Sort.putRow (Value.int .i64) (Go.Sort.ahead w n) b off d) os):=by
 have hlt:=zD _ h
 have hm:∀k,((Go.Sort.putRow (Value.int .i64) (Go.Sort.ahead w n) b off d).heap)[k]?=if b=k then (w.heap[k]?).map (Go.Sort.onCells (Go.Sort.putCells (Value.int .i64) off d)) else w.heap[k]?:=fun k=>by
  show (w.heap.modify b _)[k]?=_
  rw [Array.getElem?_modify]
 have hsz:(Go.Sort.putRow (Value.int .i64) (Go.Sort.ahead w n) b off d).heap.size=w.heap.size:=by simp [Go.Sort.ahead]
 have hg:∀k,k < w.heap.size→((Go.Sort.grow (Go.Sort.putRow (Value.int .i64) (Go.Sort.ahead w n) b off d) os).heap)[k]?=((Go.Sort.putRow (Value.int .i64) (Go.Sort.ahead w n) b off d).heap)[k]?:=fun k hk=>by
  show ((Go.Sort.putRow (Value.int .i64) (Go.Sort.ahead w n) b off d).heap++os)[k]?=_
  rw [Array.getElem?_append_left (by rw [hsz];exact hk)]
 refine ⟨?_,⟨rfl,rfl,rfl,?_,fun k hk hn=>?_⟩⟩
 ·rw [hg b hlt,hm b,if_pos rfl,h];rfl
 ·show w.heap.size≤((Go.Sort.putRow (Value.int .i64) (Go.Sort.ahead w n) b off d).heap++os).size
  rw [Array.size_append,hsz];omega
 ·rw [hg k hk,hm k,if_neg (fun e=>hn e.symm)]
theorem zMl {w:World} {own:Nat→Prop} {v:Value} {l:List Int} (hs:SlAt w 3 1 own v l.length (l.map encI)) (hl:l.length≤1000000000000) :
 Calls Tryz.prog 54 #[v] w fun e w'=>e=.returned (.tuple #[])∧SlAt w' 3 1 own v l.length ((l.mergeSort fun x y=>decide (x≤y)).map encI)∧Fr own w w':=by
 rcases hs with ⟨rfl,h0,_⟩ | ⟨b,off,cap,cs,rfl,h2,h3,h4,h5,h6,h7,h8⟩
 ·have:l=[]:=List.length_eq_zero_iff.1 h0
  subst this
  refine (Tryz.slices_Sort_int_none none 0 w).mono ?_
  rintro e w' ⟨rfl,rfl⟩
  exact ⟨rfl,.inl ⟨rfl,rfl,by simp⟩,Fr.refl _ _⟩
 ·by_cases h0:l.length=0
  ·have:l=[]:=List.length_eq_zero_iff.1 h0
   subst this
   refine (Tryz.slices_Sort_int_none (some ⟨b,off,none⟩) cap w).mono ?_
   rintro e w' ⟨rfl,rfl⟩
   exact ⟨rfl,.inr ⟨b,off,cap,cs,rfl,h2,h3,h4,h5,h6,by simp,by simp⟩,Fr.refl _ _⟩
  ·have hc:∀j (hj:j < l.length),cs[off+j]?=some (.int .i64 l[j]):=fun j hj=>h8 j _ (by rw [List.getElem?_map,List.getElem?_eq_getElem hj];rfl)
   refine (Tryz.slices_Sort_int b off cap l w (fun j hj=>?_) (zD _ h3) (by omega)).mono ?_
   ·have hj2:j < l.length:=by simpa using hj
    refine ⟨?_,zK h3⟩
    rw [zB h3 (hc j hj2)]
    simp [hj2]
   ·rintro e w' ⟨rfl,n,os,rfl⟩
    obtain ⟨k1,k2⟩:=zMk (n:=n) (off:=off) (os:=os) (d:=(l.mergeSort fun x y=>decide (x≤y)).toArray) h3
    refine ⟨rfl,.inr ⟨b,off,cap,_,rfl,h2,k1,h4,h5,?_,by simp,fun j u hj=>?_⟩,k2.mono (fun x hx=>.inl (by subst hx;exact h2))⟩
    ·simp [Go.Sort.putCells];omega
    ·rw [List.getElem?_map] at hj
     obtain ⟨x,hx,rfl⟩:=Option.map_eq_some_iff.1 hj
     obtain ⟨hj1,hj2⟩:=List.getElem?_eq_some_iff.1 hx
     have hj3:j < l.length:=by simpa using hj1
     simp only [Go.Sort.putCells,Array.getElem?_mapIdx,hc j hj3,Option.map_some]
     rw [if_pos ⟨by omega,by simp;omega⟩,show off+j - off=j from by omega]
     simp [hx,encI]
def xJ (sel:MapEntry→Bool) (seen:Array Nat) (es:List MapEntry):List MapEntry:=es.filter fun e=>seen.contains e.born&&sel e
theorem zHH (sel:MapEntry→Bool) (seen:Array Nat) (b:Nat):∀(es:List MapEntry),b∉es.map (·.born)→xJ sel (seen.push b) es=xJ sel seen es
 | [],_=>rfl
 | x::l,h=>by
   have h1:x.born≠b:=fun e=>h (by simp [e])
   have h2:b∉l.map (·.born):=fun e=>h (List.mem_cons_of_mem _ e)
   have:=zHH sel seen b l h2
   unfold xJ at this ⊢
   rw [List.filter_cons,List.filter_cons,contains_push,beq_eq_false_iff_ne.2 h1,Bool.or_false,this]
theorem zHI (sel:MapEntry→Bool) (seen:Array Nat) (e:MapEntry) (hs:seen.contains e.born=false):∀(es:List MapEntry),(es.map (·.born)).Nodup→e∈es→(xJ sel (seen.push e.born) es).Perm (xJ sel seen es++if sel e then [e] else [])
 | x::l,hn,he=>by
   have hn':=List.nodup_cons.1 hn
   rcases List.mem_cons.1 he with rfl | h
   ·have:=zHH sel seen e.born l hn'.1
    unfold xJ at this ⊢
    rw [List.filter_cons,List.filter_cons,contains_push,hs,beq_self_eq_true,Bool.false_or,Bool.true_and,Bool.false_and,this]
    cases sel e with
    | true=>simpa using (List.perm_append_singleton e _).symm
    | false=>simp
   ·have hx:(x.born==e.born)=false:=beq_eq_false_iff_ne.2 (fun e2=>hn'.1 (by show x.born∈_;rw [e2];exact List.mem_map.2 ⟨e,h,rfl⟩))
    have ih:=zHI sel seen e hs l hn'.2 h
    unfold xJ at ih ⊢
    rw [List.filter_cons,List.filter_cons,contains_push,hx,Bool.or_false]
    split
    ·exact (ih.cons x)
    ·exact ih
theorem zMm (sel:MapEntry→Bool) (es:List MapEntry):xJ sel #[] es=[]:=by
 unfold xJ;simp
theorem zMn (sel:MapEntry→Bool) (seen:Array Nat) (es:List MapEntry) (h:∀x∈es,seen.contains x.born=true):xJ sel seen es=es.filter sel:=by
 unfold xJ
 exact List.filter_congr (fun x hx=>by rw [h x hx,Bool.true_and])
def keyI:MapEntry→Int
 | ⟨.int _ n,_,_⟩=>n
 | _=>0
theorem zEU {e:MapEntry} {id:Int} (h:e.key=encI id):keyI e=id:=by
 obtain ⟨k,v,b⟩:=e
 simp only at h
 subst h;rfl
def selC (c:Int) (reqs:List (Int×Req)) (e:MapEntry):Bool:=match aget reqs (keyI e) with | some q=>decide (q.conn=c) | none=>false
theorem zEV {f:Int→Req→Value}:∀{reqs:List (Int×Req)} {es:List MapEntry},yG encI es (amap f reqs)→es.map keyI=reqs.map Prod.fst∧∀e∈es,∃id q,(id,q)∈reqs∧e.key=encI id∧e.val=f id q
 | [],es,h=>by
   have:es=[]:=by simpa [yG,amap] using h
   subst this;simp
 | p::l,[],h=>by simp [yG,amap] at h
 | p::l,e::es,h=>by
   have he2:(e.key,e.val)=(encI p.1,f p.1 p.2)∧yG encI es (amap f l):=by simpa [yG,amap] using h
   obtain ⟨i1,i2⟩:=zEV (f:=f) he2.2
   have hk:e.key=encI p.1:=congrArg Prod.fst he2.1
   have hv:e.val=f p.1 p.2:=congrArg Prod.snd he2.1
   refine ⟨?_,fun x hx=>?_⟩
   ·rw [List.map_cons,List.map_cons,i1]
    congr 1
    obtain ⟨k,v,b⟩:=e
    simp only at hk
    subst hk;rfl
   ·rcases List.mem_cons.1 hx with rfl | hx
    ·exact ⟨p.1,p.2,by simp,hk,hv⟩
    ·obtain ⟨id,q,h1,h2⟩:=i2 x hx
     exact ⟨id,q,by simp [h1],h2⟩
theorem zMo {f:Int→Req→Value} {reqs:List (Int×Req)} {es:List MapEntry} (hn:(reqs.map Prod.fst).Nodup) (h:yG encI es (amap f reqs)) (c:Int) :
 (es.filter (selC c reqs)).map keyI=(reqs.filter fun p=>decide (p.2.conn=c)).map Prod.fst:=by
 obtain ⟨h1,_⟩:=zEV h
 have e1:(es.filter (selC c reqs)).map keyI=(es.map keyI).filter fun i=>match aget reqs i with | some q=>decide (q.conn=c) | none=>false:=by
  rw [List.filter_map];rfl
 rw [e1,h1,List.filter_map]
 congr 1
 refine List.filter_congr (fun p hp=>?_)
 show (match aget reqs p.1 with | some q=>decide (q.conn=c) | none=>false)=_
 rw [xA hn (show (p.1,p.2)∈reqs from hp)]
def zEW (own:Nat→Prop) (sel:MapEntry→Bool) (es:List MapEntry) (seen:Array Nat) (v:Value) (w:World):Prop:=
 ∃l:List Int,SlAt w 3 1 own v l.length (l.map encI)∧l.Perm ((xJ sel seen es).map keyI)
theorem zEW.le {sel:MapEntry→Bool} {es:List MapEntry} {seen:Array Nat} {l:List Int} (h:l.Perm ((xJ sel seen es).map keyI)):l.length≤es.length:=by
 rw [h.length_eq,List.length_map]
 exact List.length_filter_le _ _
theorem ItAt.fr {wl wr wr':World} {R bm clock:Nat} {seen:Array Nat} {S:Nat→Prop} (h:ItAt wl R bm clock seen wr) (hf:Fr S wr wr') (hS:∀b,S b→wl.heap.size≤b∧b≠R):ItAt wl R bm clock seen wr':=by
 obtain ⟨h2,h3⟩:=h
 refine ⟨(hf.block R (zD _ h2) (fun hs=>(hS R hs).2 rfl)).trans h2,⟨hf.os.trans h3.os,hf.tape.trans h3.tape,hf.output.trans h3.output,Nat.le_trans h3.size hf.size,fun k hk hn=>?_⟩⟩
 exact (hf.block k (Nat.lt_of_lt_of_le hk h3.size) (fun hs=>by have:=(hS k hs).1;omega)).trans (h3.block k hk hn)
theorem zMp {wr w1:World} {R:Nat} {o:Obj} (h1:w1=wr∨w1=wr.drew):Fr (fun b=>b=R) wr (Go.ChangeMaps.setBlock w1 R o):=by
 have h4:w1.heap=wr.heap∧w1.os=wr.os∧w1.tape=wr.tape∧w1.output=wr.output:=by rcases h1 with rfl | rfl<;>exact ⟨rfl,rfl,rfl,rfl⟩
 obtain ⟨e1,e2,e3,e4⟩:=h4
 refine ⟨e2,e3,e4,?_,fun i hi hn=>?_⟩
 ·show wr.heap.size≤(w1.heap.setIfInBounds R _).size
  rw [e1];simp
 ·show (w1.heap.setIfInBounds R _)[i]?=_
  rw [e1,Array.getElem?_setIfInBounds_ne (fun e=>hn e.symm)]
def zHJ (c:Int) (ids:List Int) (r2:Raw) (N P:Nat) (w4:World) (ρ:Nat→Role) (G D:Nat) (k:Nat) (wr:World):Prop:=
 ∃rk ρk Lk,RRep wr ρk G D Lk rk∧Step ρ ρk w4 wr∧Inv N P rk∧(ids.drop k).foldl (zc c) rk=r2∧(ids.drop k).Nodup∧∀id∈ids.drop k,(aget rk.reqs id).isSome=true
def fEnd (c:Int) (r:Raw) (a:Att):Raw:=if a.conn=c then rEnd r a else r
theorem zMq (c:Int) (r:Raw) (id:Int):zc c r id=yA ((rOf r id).foldl (fEnd c) r) id:=by
 unfold zc fEnd
 rw [List.foldl_filter]
 simp
theorem zMr {w:World} {ρ:Nat→Role} {G D:Nat} {L:Lay} {r:Raw} (h:RRep w ρ G D L r) (hE:Env G w) {N P:Nat} (hI:Inv N P r) (hN:N+1≤NB) (hP:P+1 < NB) (c:Int) :
 Calls Tryz.prog 28 #[vp D,vi c] w (zBW w ρ G D (yl r c)):=by
 have HE:=zh hE
 have HD:=zh (fun b (hb:Of ρ b)=>(h.dom b hb).1)
 have HI0:=zh (hI.close0 c)
 have HIDS:=zh (zCU hI c)
 have HEQ:=zh (zBO r c)
 obtain ⟨va,vc,hw1,hw2,hw3⟩:=SlAt.form' h.wai
 have c11:w.cell? ⟨D,11,none⟩=some (.slice va r.waiting.length vc):=by rw [←hw1];exact h.disp.c11
 have hwai:SlAt w 3 1 (fun b=>ρ b=zd) (.slice va r.waiting.length vc) r.waiting.length (r.waiting.map encI):=by rw [←hw1];exact h.wai
 have hwl:r.waiting.length≤1000000000000:=by have:=hI.n.pot;unfold NB at hP;omega
 have HWO:=zh (zEC hwai c (fun b (hb:ρ b=zd)=>(h.dom b (by rw [hb];simp [zd])).2) hwl)
 have HH:=zh h
 have hDw:=h.size.2
 have HN:=zh hN
 have HP:=zh hP
 have hrq:r.reqs.length≤1000000000000:=by have:=hI.n.reqs;unfold NB at hN;omega
 unfold maxLen at hw3
 clear hwai hwl hw1 hw2 h hE hI hN hP
 go_enter Tryz.func28,Tryz.ntmps28
 go_wp2_with fail
 refine HWO.out.mono ?_
 rintro e w2 ⟨v2,rfl,hs2,hf2⟩
 obtain ⟨va2,vc2,hv1,hv2,hv3⟩:=hs2.form'
 have hD2:w2.heap[D]?=some (.cells (yR L r.cfg r.now r.seq) 81 (0,0)):=(hf2.block D HH.out.size.2 (fun (e:ρ D=zd)=>by have:=HH.out.disp.1;rw [e] at this;simp [zd,zC] at this)).trans HH.out.disp.2
 have f11:w2.frozen? ⟨D,11,none⟩=false:=zK hD2
 have c11b:w2.cell? ⟨D,11,none⟩=some L.waiting:=zB hD2 rfl
 have hpw:=HH.out.put_wait (ρ':=ρ) (w':=w2.setCell ⟨D,11,none⟩ v2) (v:=v2) (l:=zE r.waiting c) Ext.refl (zO w2 hD2)
  (hs2.of_blk (fun b (hb:ρ b=zd) _=>zG _ (by rintro rfl;have:=HH.out.disp.1;rw [hb] at this;simp [zd,zC] at this)) (fun _ h _=>h))
  ((hf2.mono (fun x hx=>.inl (.inr hx))).setCell _ _ (.inl (.inl rfl)))
 obtain ⟨L2,q1,q2⟩:∃L2,RRep (w2.setCell ⟨D,11,none⟩ v2) ρ G D L2 {r with waiting:=zE r.waiting c}∧Step ρ ρ w (w2.setCell ⟨D,11,none⟩ v2):=⟨_,hpw.1,hpw.2⟩
 clear hpw
 have HQ1:=zh q1
 have HQ2:=zh q2
 have c7:(w2.setCell ⟨D,11,none⟩ v2).cell? ⟨D,7,none⟩=some (.map (some L2.mc)):=q1.disp.c7
 subst hv1
 have HM0:=zh q1.cns.2.1
 clear q1 q2 hs2 hf2 hD2 HWO
 go_upto_region 4 with (refine zCb _ rfl KI _ _ _ _ rfl HM0.out Tryz.underlying73 c rfl rfl ?_;intro w3 hm3 hs3 hf3;have HM3:=zh (HQ1.out.del_cn hm3 hf3);clear hm3 hs3 hf3)
 have HR3:Hid (RRep w3 ρ G D L2 (zm r c)):=HM3.out.1
 have HS3:Hid (Step ρ ρ w w3):=HQ2.out.trans HM3.out.2
 have c6:w3.cell? ⟨D,6,none⟩=some (.map (some L2.mo)):=HR3.out.disp.c6
 obtain ⟨es,clock,hm,he,hst⟩:=HR3.out.opn.2.1
 have hkn:((zm r c).reqs.map Prod.fst).Nodup:=HI0.out.q.kreq
 have hsel:=zMo hkn he c
 obtain ⟨hkeys,hents⟩:=zEV he
 have hrg:=run_range_map (P:=Tryz.prog) w3 72 3 114 L2.mo es clock Tryz.underlying72 hm
 have HKN:=zh hkn
 have HSEL:=zh hsel
 have HKEYS:=zh hkeys
 have HENT:=zh hents
 have HST:=zh hst
 have HMM:=zh hm
 have HIT:Hid (ItAt (w3.alloc (.mapIter (some L2.mo) clock #[] clock)) w3.heap.size L2.mo clock #[] (w3.alloc (.mapIter (some L2.mo) clock #[] clock))):=⟨zP w3,Fr.refl _ _⟩
 have hbm:=zD _ hm
 have hel:es.toList.length≤1000000000000:=by
  have:=congrArg List.length HKEYS.out
  rw [List.length_map,List.length_map] at this
  rw [this];exact hrq
 clear hkn hsel hkeys hents hst hm he c7 c11 c11b f11 HM3 HQ1 HQ2 HM0 hv2 hv3
 go_wp2_with fail
 go_loopw [5,6,7] (fun s5 _ _ wr=>∃seen:Array Nat,Hid (ItAt (w3.alloc (.mapIter (some L2.mo) clock #[] clock)) w3.heap.size L2.mo clock seen wr∧zEW (fun b=>w3.heap.size < b) (selC c (zm r c).reqs) es.toList seen s5 wr)) (fun _ _ _ wr=>(leftOf es (wr.iterSeen w3.heap.size)).size)
 case atStart=>exact ⟨#[],HIT.out,[],.inl ⟨rfl,rfl,rfl⟩,by rw [zMm];exact List.Perm.refl _⟩
 case round =>
  obtain ⟨seen,HI⟩:=hrel
  have hbm1:wr.heap[L2.mo]?=some (.map es clock):=by
   rw [HI.out.1.2.block L2.mo (by simp;omega) (by omega)]
   exact (zM w3 hbm).trans HMM.out
  have hseen:wr.iterSeen w3.heap.size=seen:=by unfold World.iterSeen;rw [HI.out.1.1]
  rcases run_next_at (P:=Tryz.prog) wr 0 w3.heap.size L2.mo clock clock seen es clock HI.out.1.1 hbm1 HST.out.1 (Nat.le_refl _) with ⟨h0,hrun⟩ | ⟨e,he,w1,hw1',hrun⟩
  ·have hnx:∀ty,(Instr.next (.pointer (some ⟨w3.heap.size,0,none⟩)) false ty).run Tryz.prog wr=.ok (.tuple #[.bool false]) wr:=fun _=>hrun
   obtain ⟨l,hsl,hp⟩:=HI.out.2
   rw [zMn _ _ _ (all_seen es seen h0),HSEL.out] at hp
   have hsub:(((zm r c).reqs.filter fun p=>decide (p.2.conn=c)).map Prod.fst).Nodup:=HKN.out.sublist (List.filter_sublist.map _)
   have HMG:Hid (l.mergeSort (fun x y=>decide (x≤y))=yg r c):=zMj (hp.nodup_iff.2 hsub) hsub (fun x=>hp.mem_iff)
   have hll:l.length≤1000000000000:=by
    rw [hp.length_eq,List.length_map]
    exact Nat.le_trans (List.length_filter_le _ _) hrq
   have hlen:(yg r c).length=l.length:=by rw [←HMG.out,List.length_mergeSort]
   have HSO:=zh (zMl hsl hll)
   obtain ⟨a5,n5,hv5,_,hcap⟩:=hsl.form'
   subst hv5
   have HF3:Hid (Fr (fun _=>False) w3 wr):=((Fr.refl (fun _=>False) w3).alloc _).trans HI.out.1.2 (fun x hx=>.inr (by omega))
   obtain ⟨m,hm⟩:∃m,l.length=m:=⟨_,rfl⟩
   rw [hm] at HSO hll hlen ⊢
   obtain ⟨ids,hids⟩:∃ids,ids=yg r c:=⟨_,rfl⟩
   rw [←hids] at hlen HMG
   have HID2:Hid (ids.Nodup∧∀id∈ids,(aget r.reqs id).isSome=true):=show _∧_ by rw [hids];exact HIDS.out
   have HEQ2:Hid (yl r c=yF ((yT (ids.foldl (zc c) (zm r c)) c).foldl yt (ids.foldl (zc c) (zm r c)))):=show _=_ by rw [hids];exact HEQ.out
   have HLN:=zh hlen
   unfold maxLen at hcap
   clear hsl hp hsub h0 hrun hbm1 hseen hm hlen hids HEQ HIDS
   go_wp2_with fail
   refine HSO.out.mono ?_
   rintro e w4 ⟨rfl,hs4,hf4⟩
   rw [HMG.out] at hs4
   have HF4:Hid (Fr (fun _=>False) w3 w4):=HF3.out.trans hf4 (fun x hx=>.inr (by omega))
   have HSL4:=zh hs4
   have HR4:Hid (RRep w4 ρ G D L2 (zm r c)):=HR3.out.of_fr HF4.out (fun _ f=>f.elim)
   have HS4:Hid (Step ρ ρ w w4):=HS3.out.trans ⟨HF4.out.mono (fun x f=>f.elim),fun b hb=>.inl hb⟩
   have HE4:Hid (Env G w4):=Step.env HH.out HS4.out HE.out
   have HOWN:Hid (∀b,w3.heap.size < b→¬Of ρ b):=fun b hb ho=>by have:=(HR3.out.dom b ho).2;omega
   have HRA:Hid (zHJ c ids (ids.foldl (zc c) (zm r c)) N P w4 ρ G D 0 w4):=⟨zm r c,ρ,L2,HR4.out,Step.refl _ _,HI0.out,rfl,HID2.out.1,HID2.out.2⟩
   clear hs4 hf4 HSO HMG HI hnx HSEL HKEYS HENT HST HMM HIT HKN HF3
   go_wp2_with fail
   go_loopw [9,11,52] (fun _ _ s52 wr=>∃k:Nat,s52=.int .i64 k∧k≤m∧Hid (zHJ c ids (ids.foldl (zc c) (zm r c)) N P w4 ρ G D k wr)) (fun _ _ s52 _=>m - (intOf s52).toNat)
   case atStart=>exact ⟨0,by go_num,Nat.zero_le _,HRA.out⟩
   case round =>
    obtain ⟨k,rfl,hk,HL⟩:=hrel
    by_cases hkl:k < m
    ·have hlt:decide ((k:Int) < (m:Int))=true:=decide_eq_true (by omega)
     obtain ⟨rk,ρk,Lk,k1,k2,k3,k4,k5,k6⟩:=HL.out
     have hki:k < ids.length:=by have:=HLN.out;omega
     obtain ⟨id,hid⟩:∃id,ids[k]?=some id:=⟨_,List.getElem?_eq_getElem hki⟩
     have hdr:ids.drop k=id::ids.drop (k+1):=by
      have hx:=List.getElem?_eq_some_iff.1 hid
      rw [List.drop_eq_getElem_cons hx.1,hx.2]
     rw [hdr] at k4 k5 k6
     rw [List.nodup_cons] at k5
     have hsl:=HSL4.out.of_blk (w':=wr) (fun b hb hl=>k2.fr.block b hl (HOWN.out b hb)) (fun _ h _=>h)
     obtain ⟨b,off,cap,hv,hbo,hbl,_,_,hc,_⟩:=hsl.form (by omega)
     obtain ⟨rfl,rfl⟩:a5=some ⟨b,off,none⟩∧n5=cap:=by injection hv with e1 e2 e3;exact ⟨e1,e3⟩
     have ck:wr.cell? ⟨b,off+k,none⟩=some (vi id):=hc k _ (by simp [hid,encI])
     have hk0:(0:Int)≤(k:Int):=by omega
     have hk1:(k:Int) < (m:Int):=by omega
     obtain ⟨q,hq⟩:=Option.isSome_iff_exists.1 (k6 id (by simp))
     have hat:rk.atts.length≤1099511627776:=k3.atts_le (by have:=HP.out;omega)
     have HOF:=zh (zBy k1 id hat)
     have hla:(rOf rk id).length≤1099511627776:=Nat.le_trans (List.length_filter_le _ _) hat
     have HLV:Hid (Live (rOf rk id) rk):=Live.of_filter k3 _
     have HK:=zh (And.intro k1 (And.intro k2 k3))
     have HK4:=zh (And.intro k4 (And.intro k5 k6))
     have HQ:=zh hq
     have HEK:Hid (Env G wr):=Step.env HR4.out k2 HE4.out
     obtain ⟨la,hlaE⟩:∃la,la=rOf rk id:=⟨_,rfl⟩
     rw [←hlaE] at HOF hla HLV
     have HLA:=zh hlaE
     clear hsl hv hbo hbl hc k1 k2 k3 k4 k5 k6 hid hdr hki hq hat hlaE HL
     go_wp2_with fail
     refine HOF.out.mono ?_
     rintro e w5 ⟨v5,rfl,hs5,hb5⟩
     obtain ⟨va5,vc5,hv5,_,hvc5⟩:=hs5.form'
     subst hv5
     have HSL5:=zh hs5
     have HR5:Hid (RRep w5 ρk G D Lk rk):=HK.out.1.of_fr (Fr.of_below (S:=fun _=>False) hb5) (fun _ f=>f.elim)
     have HT5:Hid (Step ρ ρk w4 w5):=HK.out.2.1.trans ⟨Fr.of_below hb5,fun b hb=>.inl hb⟩
     have HE5:Hid (Env G w5):=HEK.out.grow hb5
     have HOWN5:Hid (∀b,wr.heap.size≤b→¬Of ρk b):=fun b hb ho=>by have:=(HK.out.1.dom b ho).2;omega
     unfold maxLen at hvc5
     clear hs5 hb5 HOF ck
     go_wp2_with fail
     go_loopw [11,60] (fun _ s60 wj=>∃j:Nat,s60=.int .i64 j∧j≤la.length∧Hid (xW (fEnd c) la rk (fun x=>Inv N P x∧x.reqs=rk.reqs) w5 ρk G D Lk j wj)) (fun _ s60 _=>la.length - (intOf s60).toNat)
     case atStart=>exact ⟨0,by go_num,Nat.zero_le _,xW.start HR5.out ⟨HK.out.2.2,rfl⟩ HLV.out⟩
     case round =>
      obtain ⟨j,rfl,hj,HJ⟩:=hrel
      by_cases hjl:j < la.length
      ·have hlt2:decide ((j:Int) < (la.length:Int))=true:=decide_eq_true (by omega)
       have hsl:=HJ.out.list HSL5.out HOWN5.out
       obtain ⟨b2,off2,cap2,hv,hbo,hbl,_,_,hc,_⟩:=hsl.form (by omega)
       obtain ⟨rfl,rfl⟩:va5=some ⟨b2,off2,none⟩∧vc5=cap2:=by injection hv with e1 e2 e3;exact ⟨e1,e3⟩
       have ck:wr.cell? ⟨b2,off2+j,none⟩=some (vp (Lk.att (hg la j).seq)):=hc j _ (by simp [zZ hjl])
       obtain ⟨rj,ρj,Lj,j1,j2,j3,j4,j5,⟨j6,j6b⟩,j7,j8⟩:=HJ.out
       rw [zCC hjl] at j7 j8
       obtain ⟨kk,kblk,krole⟩:=j1.att_blk (j7.2 (hg la j) (by simp))
       rw [j3] at kblk
       obtain ⟨A,hA⟩:∃A,A=Lk.att (hg la j).seq:=⟨_,rfl⟩
       rw [←hA] at ck kblk
       have a2:wr.cell? ⟨A,2,none⟩=some (vi (hg la j).conn):=zB kblk rfl
       have hj0:(0:Int)≤(j:Int):=by omega
       have hj1:(j:Int) < (la.length:Int):=by omega
       by_cases hcn:(hg la j).conn=c
       ·have hc1:decide ((hg la j).conn=c)=true:=decide_eq_true hcn
        have hc2:((hg la j).conn==c)=true:=beq_iff_eq.2 hcn
        have HEJ:Hid (Env G wr):=Step.env HR5.out j2 HE5.out
        have hen:=zCx j1 HEJ.out j6 (by have:=HP.out;omega) (j7.2 (hg la j) (by simp))
        rw [j3,←hA] at hen
        have HEN:=zh hen
        have HJ2:=zh j2
        have HJ3:=zh (And.intro j3 (And.intro j4 j5))
        have HJ6:=zh (And.intro j6 j6b)
        have HJ7:=zh j7
        have HJ8:Hid ((la.drop (j+1)).foldl (fEnd c) (rEnd rj (hg la j))=la.foldl (fEnd c) rk):=show _=_ by
         rw [←j8]
         show _=(la.drop (j+1)).foldl (fEnd c) (fEnd c rj (hg la j))
         unfold fEnd
         rw [if_pos hcn]
        clear hsl hv hbo hbl hc j1 j2 j3 j4 j5 j6 j6b j7 j8 kblk krole hA hcn hen HJ
        go_wp2_with fail
        refine HEN.out.mono ?_
        rintro e w7 ⟨rfl,hst,_⟩
        have HST:=zh hst
        clear hst HEN ck a2
        go_wp2_with fail
        go_roundw
        case rel =>
         refine ⟨j+1,by go_num,by omega,?_⟩
         obtain ⟨ρ6,L6,e1,e2,e3,e4,e5⟩:=HST.out
         obtain ⟨q1,hq1,_⟩:=HJ6.out.1.a.areq (hg la j) (HJ7.out.2 _ (by simp))
         exact ⟨rEnd rj (hg la j),ρ6,L6,e1,HJ2.out.trans e2,(e3 rfl).trans HJ3.out.1,(e4 rfl).trans HJ3.out.2.1,(e5 rfl).trans HJ3.out.2.2,
          ⟨(HJ6.out.1.end (HJ7.out.2 _ (by simp))).mono (Nat.le_refl _) (by omega),(zAg rj _).trans HJ6.out.2⟩,HJ7.out.next (zBg hq1),HJ8.out⟩
        case measure=>simp [intOf];omega
       ·have hc1:decide ((hg la j).conn=c)=false:=decide_eq_false hcn
        have hc2:((hg la j).conn==c)=false:=beq_eq_false_iff_ne.2 hcn
        have HNX:Hid (xW (fEnd c) la rk (fun x=>Inv N P x∧x.reqs=rk.reqs) w5 ρk G D Lk (j+1) wr):=⟨rj,ρj,Lj,j1,j2,j3,j4,j5,⟨j6,j6b⟩,⟨(List.pairwise_cons.1 j7.1).2,fun a ha=>j7.2 a (by simp [ha])⟩,by
         rw [←j8]
         show _=(la.drop (j+1)).foldl (fEnd c) (fEnd c rj (hg la j))
         unfold fEnd
         rw [if_neg hcn]⟩
        clear hsl hv hbo hbl hc j1 j2 j3 j4 j5 j6 j6b j7 j8 kblk krole hA hcn HJ
        go_wp2_with fail
        go_roundw
        case rel=>exact ⟨j+1,by go_num,by omega,HNX.out⟩
        case measure=>simp [intOf];omega
      ·obtain rfl:j=la.length:=by omega
       have hlt2:decide ((la.length:Int) < (la.length:Int))=false:=by simp
       obtain ⟨rj,ρj,Lj,j1,j2,j3,j4,j5,⟨j6,j6b⟩,j7,j8⟩:=HJ.out
       rw [List.drop_length] at j8
       have j8:rj=la.foldl (fEnd c) rk:=j8
       have HEJ:Hid (Env G wr):=Step.env HR5.out j2 HE5.out
       have hq2:aget rj.reqs id=some q:=by rw [j6b];exact HQ.out
       have HSH:=zh (zEN j1 HEJ.out j6 (by have:=HN.out;omega) (by have:=HP.out;omega) id hq2)
       have HT6:Hid (Step ρ ρj w4 wr):=HT5.out.trans j2
       have HRS:Hid (yA rj id=zc c rk id):=show _=_ by rw [zMq,j8,HLA.out]
       clear j1 j2 j3 j4 j5 j6 j6b j7 j8 hq2 HJ
       go_wp2_with fail
       refine HSH.out.mono ?_
       rintro e w7 ⟨rfl,hst⟩
       rw [HRS.out] at hst
       have HST:=zh hst
       clear hst HSH
       go_wp2_with fail
       go_roundw
       case rel =>
        refine ⟨k+1,by go_num,by omega,?_⟩
        obtain ⟨ρ6,L6,e1,e2,_⟩:=HST.out
        obtain ⟨k4,k5,k6⟩:=HK4.out
        exact ⟨zc c rk id,ρ6,L6,e1,HT6.out.trans e2,HK.out.2.2.closeReq c id HQ.out,k4,k5.2,fun i hi=>by
         rw [zFL HK.out.2.2 c (by rintro rfl;exact k5.1 hi)]
         exact k6 i (by simp [hi])⟩
       case measure=>simp [intOf];omega
    ·obtain rfl:k=m:=by omega
     have hlt:decide ((k:Int) < (k:Int))=false:=by simp
     obtain ⟨r2,hr2⟩:∃r2,r2=ids.foldl (zc c) (zm r c):=⟨_,rfl⟩
     rw [←hr2] at HL HEQ2
     obtain ⟨rk,ρk,Lk,k1,k2,k3,k4,k5,k6⟩:=HL.out
     rw [show k=ids.length from HLN.out.symm,List.drop_length] at k4
     have k4:rk=r2:=k4
     subst k4
     have hat:rk.atts.length≤1099511627776:=k3.atts_le (by have:=HP.out;omega)
     have HHE:=zh (zDx k1 c hat)
     have hla:(yT rk c).length≤1099511627776:=Nat.le_trans (List.length_filter_le _ _) hat
     have HLV:Hid (Live (yT rk c) rk):=Live.of_filter k3 _
     have HK:=zh (And.intro k1 (And.intro k2 k3))
     have HEK:Hid (Env G wr):=Step.env HR4.out k2 HE4.out
     obtain ⟨la,hlaE⟩:∃la,la=yT rk c:=⟨_,rfl⟩
     rw [←hlaE] at HHE hla HLV HEQ2
     clear k1 k2 k3 k5 k6 hr2 hat hlaE HL
     go_wp2_with fail
     refine HHE.out.mono ?_
     rintro e w5 ⟨v5,rfl,hs5,hb5⟩
     obtain ⟨va5,vc5,hv5,_,hvc5⟩:=hs5.form'
     subst hv5
     have HSL5:=zh hs5
     have HR5:Hid (RRep w5 ρk G D Lk rk):=HK.out.1.of_fr (Fr.of_below (S:=fun _=>False) hb5) (fun _ f=>f.elim)
     have HT5:Hid (Step ρ ρk w4 w5):=HK.out.2.1.trans ⟨Fr.of_below hb5,fun b hb=>.inl hb⟩
     have HE5:Hid (Env G w5):=HEK.out.grow hb5
     have HOWN5:Hid (∀b,wr.heap.size≤b→¬Of ρk b):=fun b hb ho=>by have:=(HK.out.1.dom b ho).2;omega
     unfold maxLen at hvc5
     clear hs5 hb5 HHE
     go_wp2_with fail
     go_loopw [13,82] (fun _ s82 wj=>∃j:Nat,s82=.int .i64 j∧j≤la.length∧Hid (xW yt la rk (fun x=>Inv N P x) w5 ρk G D Lk j wj)) (fun _ s82 _=>la.length - (intOf s82).toNat)
     case atStart=>exact ⟨0,by go_num,Nat.zero_le _,xW.start HR5.out HK.out.2.2 HLV.out⟩
     case round =>
      obtain ⟨j,rfl,hj,HJ⟩:=hrel
      by_cases hjl:j < la.length
      ·have hlt2:decide ((j:Int) < (la.length:Int))=true:=decide_eq_true (by omega)
       have hsl:=HJ.out.list HSL5.out HOWN5.out
       obtain ⟨b2,off2,cap2,hv,hbo,hbl,_,_,hc,_⟩:=hsl.form (by omega)
       obtain ⟨rfl,rfl⟩:va5=some ⟨b2,off2,none⟩∧vc5=cap2:=by injection hv with e1 e2 e3;exact ⟨e1,e3⟩
       have ck:wr.cell? ⟨b2,off2+j,none⟩=some (vp (Lk.att (hg la j).seq)):=hc j _ (by simp [zZ hjl])
       obtain ⟨rj,ρj,Lj,j1,j2,j3,j4,j5,j6,j7,j8⟩:=HJ.out
       rw [zCC hjl] at j7 j8
       obtain ⟨A,hA⟩:∃A,A=Lk.att (hg la j).seq:=⟨_,rfl⟩
       rw [←hA] at ck
       have hj0:(0:Int)≤(j:Int):=by omega
       have hj1:(j:Int) < (la.length:Int):=by omega
       have HEJ:Hid (Env G wr):=Step.env HR5.out j2 HE5.out
       have hen:=zCx j1 HEJ.out j6 (by have:=HP.out;omega) (j7.2 (hg la j) (by simp))
       unfold zEL at hen
       rw [j3,←hA] at hen
       have HEN:=zh hen
       have HJ1:=zh j1
       have HJ2:=zh j2
       have HJ3:=zh (And.intro j3 (And.intro j4 j5))
       have HJ6:=zh j6
       have HJ7:=zh j7
       have HJ8:=zh j8
       clear hsl hv hbo hbl hc j1 j2 j3 j4 j5 j6 j7 j8 hA hen HJ
       go_wp2_with fail
       refine HEN.out.mono ?_
       rintro e w7 ⟨rfl,hst,kk,hblk⟩
       have a0:w7.cell? ⟨A,0,none⟩=some (vi (hg la j).id):=zB hblk rfl
       obtain ⟨ρ6,L6,e1,e2,e3,e4,e5⟩:=hst
       obtain ⟨q1,hq1,_⟩:=HJ6.out.a.areq (hg la j) (HJ7.out.2 _ (by simp))
       have H3:=zh (HJ6.out.three (HJ7.out.2 (hg la j) (by simp)))
       have HI7:=zh (HJ6.out.end (HJ7.out.2 (hg la j) (by simp)))
       have HAG:=zh (zGw e1 (Step.env HJ1.out e2 HEJ.out) HI7.out (by have:=HN.out;omega) (by have:=HP.out;omega) (hg la j).id (by rw [zAg];exact hq1) false)
       have HAT:=zh (zBg hq1)
       have HE6:=zh (And.intro e2 (And.intro (e3 rfl) (And.intro (e4 rfl) (e5 rfl))))
       clear hblk e1 e2 e3 e4 e5 hq1 HEN ck
       go_wp2_with fail
       refine HAG.out.mono ?_
       rintro e w8 ⟨rfl,hst⟩
       have HST:=zh hst
       clear hst HAG a0
       go_wp2_with fail
       go_roundw
       case rel =>
        refine ⟨j+1,by go_num,by omega,?_⟩
        obtain ⟨ρ8,L8,e1,e2,e3,e4,e5⟩:=HST.out
        obtain ⟨g2,g3,g4,g5⟩:=HE6.out
        exact ⟨yt rj (hg la j),ρ8,L8,e1,(HJ2.out.trans g2).trans e2,((e3 rfl).trans g3).trans HJ3.out.1,((e4 rfl).trans g4).trans HJ3.out.2.1,((e5 rfl).trans g5).trans HJ3.out.2.2,
         (HI7.out.again _ false).mono (Nat.le_refl _) (by have:=H3.out;omega),HJ7.out.next (by unfold yt;rw [zFM];exact HAT.out),HJ8.out⟩
       case measure=>simp [intOf];omega
      ·obtain rfl:j=la.length:=by omega
       have hlt2:decide ((la.length:Int) < (la.length:Int))=false:=by simp
       obtain ⟨rj,ρj,Lj,j1,j2,j3,j4,j5,j6,j7,j8⟩:=HJ.out
       rw [List.drop_length] at j8
       have j8:rj=la.foldl yt rk:=j8
       have HAT:Hid (At w ρ G D rj wr):=⟨ρj,Lj,j1,(HS4.out.trans HT5.out).trans j2⟩
       have HSV:=zh (HAT.out.serve HE.out HD.out j6 (by have:=HN.out;omega) (by have:=HP.out;omega))
       have HFI:Hid (yF rj=yl r c):=show _=_ by rw [HEQ2.out,j8]
       clear j1 j2 j3 j4 j5 j6 j7 j8 HJ
       go_wp2_with fail
       refine HSV.out.mono ?_
       rintro e w8 ⟨rfl,hat⟩
       rw [HFI.out] at hat
       have HTO:=zh hat.told
       clear hat HSV
       go_wp2_with fail
       refine HTO.out.mono ?_
       intro e w9 hp
       obtain ⟨v,ρ',L',rfl,p1,p2,p3⟩:=hp
       have HFIN:=zh (And.intro p1 (And.intro p2 p3))
       clear p1 p2 p3 HTO
       go_wp2_with fail
       go_ret
       exact ⟨v,ρ',L',rfl,HFIN.out.1,HFIN.out.2.1,HFIN.out.2.2⟩
  ·obtain ⟨id,q,hmem,hkey,hval⟩:=HENT.out e (mem_left he).1
   have hval:e.val=vp (L2.req id):=hval
   have hq:aget (zm r c).reqs id=some q:=xA HKN.out hmem
   rw [hkey,hval] at hrun
   have hnx:∀ty,(Instr.next (.pointer (some ⟨w3.heap.size,0,none⟩)) false ty).run Tryz.prog wr=.ok (.tuple #[.bool true,vi id,vp (L2.req id)]) (Go.ChangeMaps.setBlock w1 w3.heap.size (.mapIter (some L2.mo) clock (seen.push e.born) clock)):=fun _=>hrun
   have HN2:=zh (HI.out.1.next (seen':=seen.push e.born) hw1')
   have hfr:=zMp (R:=w3.heap.size) (o:=.mapIter (some L2.mo) clock (seen.push e.born) clock) hw1'
   obtain ⟨w2',hw2'⟩:∃w2',Go.ChangeMaps.setBlock w1 w3.heap.size (.mapIter (some L2.mo) clock (seen.push e.born) clock)=w2':=⟨_,rfl⟩
   rw [hw2'] at hnx HN2 hfr
   have hbm2:w2'.heap[L2.mo]?=some (.map es clock):=by
    rw [HN2.out.2.block L2.mo (by simp;omega) (by omega)]
    exact (zM w3 hbm).trans HMM.out
   have hen:=run_entry_at (P:=Tryz.prog) w2' w3.heap.size L2.mo clock seen es clock e HN2.out.1 hbm2 (mem_left he).1 HST.out.2.1
   rw [hval,hkey] at hen
   have hrb:=HR3.out.req_blk hq
   have hrl:=zD _ hrb
   have hrb2:w2'.heap[L2.req id]?=some (.cells (zAI q) 116 (0,0)):=by
    rw [HN2.out.2.block (L2.req id) (by simp;omega) (by omega)]
    exact (zM w3 hrl).trans hrb
   have a0:w2'.cell? ⟨L2.req id,0,none⟩=some (vi q.conn):=zB hrb2 rfl
   have hsh:=zh (left_shrinks es seen e he)
   have Hsn:=zh hseen
   obtain ⟨l,hsl,hp⟩:=HI.out.2
   have hpu:=zHI (selC c (zm r c).reqs) seen e (mem_left he).2 es.toList HST.out.2.1 (mem_left he).1
   have hll:=zEW.le hp
   have hsl2:=hsl.of_blk (w':=w2') (own':=fun b=>w3.heap.size < b) (fun b hb hl=>hfr.block b hl (by omega)) (fun _ h _=>h)
   obtain ⟨a5,n5,hv5,_,hcap⟩:=hsl.form'
   subst hv5
   have HSL2:=zh hsl2
   have HP2:=zh hp
   obtain ⟨A,hA⟩:∃A,L2.req id=A:=⟨_,rfl⟩
   rw [hA] at hnx hen a0
   by_cases hqc:q.conn=c
   ·have hc1:decide (q.conn=c)=true:=decide_eq_true hqc
    have hc2:(q.conn==c)=true:=beq_iff_eq.2 hqc
    have hse:selC c (zm r c).reqs e=true:=by
     unfold selC;rw [zEU hkey,hq];exact hc1
    rw [hse,if_pos rfl] at hpu
    have HPU:Hid ((l++[id]).Perm ((xJ (selC c (zm r c).reqs) (seen.push e.born) es.toList).map keyI)):=by
     have h1:=(hpu.map keyI).symm
     rw [List.map_append,List.map_singleton,zEU hkey] at h1
     exact (hp.append_right [id]).trans h1
    have HSA:=zh (hsl2.of_blk (w':=w2'.alloc (.cells #[vi id] 3)) (fun b _ hl=>zM w2' hl) (fun b hb _=>hb))
    have HB:=zh (show l.length+1≤maxLen∧(l.length+1)*8≤140737488355328 by unfold maxLen;omega)
    have HWS:Hid (w3.heap.size < w2'.heap.size):=zD _ HN2.out.1
    unfold maxLen at hcap
    clear hrun he hbm1 hbm2 hw2' hseen hw1' hrb hrl hrb2 hsl hsl2 hp hpu hfr hse hqc hkey hval hmem hq HI
    go_wp2_with (at_builtin;refine xU _ rfl _ _ _ _ rfl zBR rfl HSA.out rfl (yn w2' Tryz.underlying46 [vi id] (by rfl) (by simp [Value.oneCell']) w2'.heap.size (by simp)) (by omega) HB.out.1 HB.out.2 ?_;intro g goff gcap w5 hg5 hs5 hf5 hlt5 _ _;have HS5:=zh hs5;have HG5:=zh hg5;have HF5:=zh hf5;clear hs5 hf5 hg5)
    have HG6:Hid (w3.heap.size < g):=by
     rcases HG5.out with h1 | h1
     ·exact h1
     ·have h2:=HWS.out;have h4:=World.size_alloc w2' (.cells #[vi id] 3);rw [h1];exact Nat.lt_of_lt_of_le h2 (by rw [h4];omega)
    have HIT5:Hid (ItAt (w3.alloc (.mapIter (some L2.mo) clock #[] clock)) w3.heap.size L2.mo clock (seen.push e.born) w5):=
     (HN2.out.fr ((Fr.refl (fun _=>False) w2').alloc (.cells #[vi id] 3)) (fun _ f=>f.elim)).fr HF5.out (fun b hb=>by have hb:b=g:=hb;have:=HG6.out;subst hb;simp;omega)
    go_roundw
    case rel=>exact ⟨seen.push e.born,HIT5.out,l++[id],by have:=HS5.out;rw [List.length_append,List.length_singleton,List.map_append];exact this.of_blk (fun _ _ _=>rfl) (fun b hb _=>by have hb:b=g:=hb;rw [hb];exact HG6.out),HPU.out⟩
    case measure =>
     rw [Hsn.out,show w5.iterSeen w3.heap.size=seen.push e.born from by unfold World.iterSeen;rw [HIT5.out.1]]
     exact hsh.out
   ·have hc1:decide (q.conn=c)=false:=decide_eq_false hqc
    have hc2:(q.conn==c)=false:=beq_eq_false_iff_ne.2 hqc
    have hse:selC c (zm r c).reqs e=false:=by
     unfold selC;rw [zEU hkey,hq];exact hc1
    rw [hse] at hpu
    have HPU:Hid (l.Perm ((xJ (selC c (zm r c).reqs) (seen.push e.born) es.toList).map keyI)):=by
     have h1:=(hpu.map keyI).symm
     simp at h1
     exact hp.trans h1
    clear hrun he hbm1 hbm2 hw2' hseen hw1' hrb hrl hrb2 hsl hsl2 hp hpu hfr hse hqc hkey hval hmem hq HI
    go_wp2_with fail
    go_roundw
    case rel=>exact ⟨seen.push e.born,HN2.out,l,HSL2.out,HPU.out⟩
    case measure =>
     rw [Hsn.out,show w2'.iterSeen w3.heap.size=seen.push e.born from by unfold World.iterSeen;rw [HN2.out.1]]
     exact hsh.out
end Go.Proofs.YtaejfobbogahmaaGreatDoor
