/-
  Say SayM: texts of their own, joined.
-/
import Derived.Test.YtaejfobbogahmaaGreatDoorMkBuild
set_option maxRecDepth 100000
set_option maxHeartbeats 16000000
set_option linter.all false
namespace Go.Proofs.YtaejfobbogahmaaGreatDoor
open Go Go.RowKit
theorem zLS (l:List (Int×zA)) (c:Int) (s:zA):yv (l++[(c,s)])=yv l++[vi c,vs (bs s)]:=by simp [yv]
def StM (w:World) (ρ:Nat→Role) (G D:Nat) (L:Lay) (r':Raw) (w':World):Prop:=
 ∃ρ' L',RRep w' ρ' G D L' r'∧Step ρ ρ' w w'∧L'.att=L.att∧L'.req=L.req∧L'.cn=L.cn∧L'.mo=L.mo
def zLT (w:World) (ρ:Nat→Role) (G D:Nat) (L:Lay) (r':Raw) (e:Ending) (w':World):Prop:=e=.returned (.tuple #[])∧StM w ρ G D L r' w'
theorem RRep.put_outM {w w':World} {ρ:Nat→Role} {G D:Nat} {L:Lay} {r:Raw} (h:RRep w ρ G D L r) {g:Nat} {v:Value} {l:List (Int×zA)} (hg:ρ g=rOut∨w.heap.size≤g) (hlt:g < w'.heap.size)
 (hD:w'.heap[D]?=some (.cells (yR {L with out:=v} r.cfg r.now r.seq) 81 (0,0))) (hs:SlAt w' 59 2 (fun b=>b=g) v l.length (yv l)) (hf:Fr (fun b=>b=D∨b=g) w w') :
 ∃ρ' L',RRep w' ρ' G D L' {r with out:=l}∧Step ρ ρ' w w'∧L'.att=L.att∧L'.req=L.req∧L'.cn=L.cn∧L'.mo=L.mo:=by
 have hDr:=h.disp.1
 have hgD:g≠D:=by
  rintro rfl
  rcases hg with h1 | h1
  ·rw [hDr] at h1;simp [zC,rOut] at h1
  ·have:=h.size;omega
 have k:∀T:Role→Prop,¬T zC→¬T rOut→Keep T ρ (zf ρ g rOut) w w':=fun T h1 h2 =>
  Keep.set hf (fun b hb hs ht=>by
   rcases hs with rfl | rfl
   ·rw [hDr] at ht;exact h1 ht
   ·rcases hg with h3 | h3
    ·rw [h3] at ht;exact h2 ht
    ·omega) hg h2
 refine ⟨zf ρ g rOut,{L with out:=v},⟨h.dom_set hf.size (by rcases hg with h1 | h1;exact .inl (by rw [h1];simp [rOut]);exact .inr h1) hlt (by have:=h.size;omega),⟨by rw [zo (Ne.symm hgD)];exact hDr,hD⟩,h.opn.keep (k _ (by simp [zC]) (by simp [rOut])),h.cns.keep (k _ (by simp [zC]) (by simp [rOut])),
  h.qus.keep (k _ (by simp [zC]) (by simp [rOut])),h.run.keep (k _ (by simp [zC]) (by simp [rOut])),h.rng.keep (k _ (by simp [zC]) (by simp [rOut])),h.wai.keep (k _ (by simp [zC]) (by simp [rOut])),h.lea.keep (k _ (by simp [zC]) (by simp [rOut])),?_⟩,
  Step.set (hf.mono fun x hx=>?_) (by rcases hg with h1 | h1;exact .inl (by unfold Of;rw [h1];simp [rOut]);exact .inr h1),rfl,rfl,rfl,rfl⟩
 ·exact hs.of_blk (fun _ _ _=>rfl) (fun b hb _=>by rw [hb];exact ym _ _ _)
 ·rcases hx with rfl | rfl
  ·exact .inl (by unfold Of;rw [hDr];simp [zC])
  ·rcases hg with h1 | h1
   ·exact .inl (by unfold Of;rw [h1];simp [rOut])
   ·exact .inr h1
inductive Wd where
 | num (n:Int)
 | str (s:zA)
def Wd.val:Wd→Value
 | .num n=>.iface 3 (vi n)
 | .str s=>.iface 9 (vs (bs s))
def Wd.bytes:Wd→zA
 | .num n=>decI n
 | .str s=>s
def Wd.ok:Wd→Prop
 | .num n=>-9223372036854775808≤n∧n≤9223372036854775807
 | .str s=>s.length≤1000000000
theorem zGp:∀(l:List zA) (a:zA),zX (l++[a])=if l=[] then a else zX l++32::a
 | [],a=>rfl
 | [x],a=>by simp [zX]
 | x::y::l,a=>by
   have:=zGp (y::l) a
   simp only [List.cons_append,zX,reduceCtorEq,if_false] at this ⊢
   rw [this];simp
theorem zLU (n:Int) (w:World):(Instr.typeAssert (.iface 3 (vi n)) 20 3 true).run Tryz.prog w=.ok (.tuple #[vi n,.bool true]) w:=by kernel_rfl
theorem zLV (s:ByteArray) (w:World):(Instr.typeAssert (.iface 9 (vs s)) 20 3 true).run Tryz.prog w=.ok (.tuple #[vi 0,.bool false]) w:=by kernel_rfl
theorem zLW (s:ByteArray) (w:World):(Instr.typeAssert (.iface 9 (vs s)) 20 9 true).run Tryz.prog w=.ok (.tuple #[vs s,.bool true]) w:=by kernel_rfl
theorem zEI:∀(f n:Nat),n < 10 ^ (f+1)→decF f n=Lib.decDigits n
 | 0,n,h=>by
   rw [Lib.decDigits,dif_pos (by simpa using h)]
   simp only [decF]
   rw [Nat.mod_eq_of_lt (by simpa using h)]
 | f+1,n,h=>by
   rw [Lib.decDigits]
   simp only [decF]
   by_cases h1:n < 10
   ·rw [if_pos h1,dif_pos h1]
   ·rw [if_neg h1,dif_neg h1,zEI f (n / 10) (by rw [Nat.pow_succ] at h;omega)]
theorem zLX (n:Int) (h0:-9223372036854775808≤n) (h1:n≤9223372036854775807):Lib.itoa n=decI n:=by
 unfold Lib.itoa decI dec
 split
 ·rw [zEI 20 _ (by have:(10:Nat) ^ 21=1000000000000000000000:=(by decide);omega)]
 ·rw [zEI 20 _ (by have:(10:Nat) ^ 21=1000000000000000000000:=(by decide);omega)]
theorem zEJ:∀(f n:Nat),(decF f n).length≤f+1
 | 0,n=>by simp [decF]
 | f+1,n=>by
   simp only [decF]
   split
   ·simp
   ·have:=zEJ f (n / 10);simp;omega
theorem zGq (n:Int):(decI n).length≤22:=by
 unfold decI dec
 split
 ·have:=zEJ 20 n.natAbs;simp;omega
 ·have:=zEJ 20 n.toNat;omega
theorem Wd.len {x:Wd} (h:x.ok):x.bytes.length≤1000000000:=by
 cases x with
 | num n=>have:=zGq n;show (decI n).length≤_;omega
 | str s=>exact h
theorem zGr:∀(l:List zA),(∀a∈l,a.length≤1000000000)→(zX l).length≤l.length*1000000001
 | [],_=>by simp [zX]
 | [a],h=>by have:=h a (by simp);simp [zX];omega
 | a::b::l,h=>by
   have h1:=h a (by simp)
   have h2:=zGr (b::l) (fun x hx=>h x (by simp at hx ⊢;right;exact hx))
   simp only [zX,List.length_append,List.length_cons] at h2 ⊢
   omega
def zLY (w:World) (ρ:Nat→Role) (G D:Nat) (L:Lay) (r':Raw) (e:Ending) (w':World):Prop:=e=.returned (.tuple #[])∧St true true true w ρ G D L r' w'
theorem zGs {B:Nat} (w:World) (hB:B≤w.heap.size) (k:Nat) (os:Array Obj):Below B w (Sort.grow (w.drewN k) os):=
 ⟨rfl,rfl,rfl,by show w.heap.size≤(w.heap++os).size;simp,fun i hi=>by
  show (w.heap++os)[i]?=w.heap[i]?
  exact Array.getElem?_append_left (by omega)⟩
theorem zBV (a b:zA):bs a++bs b=bs (a++b):=ByteArray.ext (by simp [bs])
theorem zLZ {w w1 w2:World} {ρ:Nat→Role} {G D:Nat} {L:Lay} {r:Raw} (h:RRep w ρ G D L r) (h1:Fr (fun _=>False) w w1) (hb:Below w1.heap.size w1 w2) (o:Obj) :
 Fr (fun _=>False) w (w2.alloc o)∧OutC (w2.alloc o) ρ L.out r.out∧w2.cell? ⟨D,14,none⟩=some L.out∧w2.frozen? ⟨D,14,none⟩=false∧(w2.alloc o).frozen? ⟨D,14,none⟩=false∧(w2.alloc o).cell? ⟨D,14,none⟩=some L.out:=by
 have h2:Fr (fun _=>False) w w2:=h1.trans (Fr.of_below (S:=fun _=>False) hb) (fun x f=>f.elim)
 have h3:=h2.alloc o
 have r2:=h.of_fr h2 (fun b f=>f.elim)
 have r3:=h.of_fr h3 (fun b f=>f.elim)
 exact ⟨h3,r3.out,r2.disp.c14,zK r2.disp.2,zK r3.disp.2,r3.disp.c14⟩
theorem zLa {w w1 w3:World} {ρ:Nat→Role} {G D:Nat} {L:Lay} {r:Raw} (h:RRep w ρ G D L r) (hb:Fr (fun _=>False) w w1) {g off cap:Nat} {c:Int} {s:zA} (hg:ρ g=rOut∨g=w1.heap.size)
 (hs:SlAt w3 59 2 (fun b=>b=g) (.slice (some ⟨g,off,none⟩) (r.out.length+1) cap) (r.out.length+1) (yv r.out++[vi c,vs (bs s)])) (hf:Fr (fun b=>b=g) w1 w3) (hlt:g < w3.heap.size) :
 w3.heap[D]?=some (.cells (yR L r.cfg r.now r.seq) 81 (0,0)) ∧
 StM w ρ G D L {r with out:=r.out++[(c,s)]} (w3.setCell ⟨D,14,none⟩ (.slice (some ⟨g,off,none⟩) (r.out.length+1) cap)):=by
 have h1:=h.of_fr hb (fun b f=>f.elim)
 have hgD:D≠g:=by
  rintro rfl
  rcases hg with h2 | h2
  ·rw [h1.disp.1] at h2;simp [zC,rOut] at h2
  ·have:=h1.size;omega
 have hD:w3.heap[D]?=some (.cells (yR L r.cfg r.now r.seq) 81 (0,0)):=(hf.block D h1.size.2 hgD).trans h1.disp.2
 refine ⟨hD,?_⟩
 obtain ⟨ρ',L',k1,k2,k3,k4,k5,k6⟩:=h1.put_outM (w':=w3.setCell ⟨D,14,none⟩ (.slice (some ⟨g,off,none⟩) (r.out.length+1) cap)) (g:=g) (v:=.slice (some ⟨g,off,none⟩) (r.out.length+1) cap) (l:=r.out++[(c,s)])
  (hg.imp id (fun e=>by omega)) (by simpa using hlt) (zO w3 hD) (by
   rw [zLS,List.length_append]
   exact hs.of_blk (fun b hb _=>zG _ (by show b≠D;rw [hb];exact Ne.symm hgD)) (fun b hb _=>hb))
  ((hf.mono (fun x hx=>.inl (.inr hx))).setCell _ _ (.inl (.inl rfl)))
 exact ⟨ρ',L',k1,Step.trans ⟨hb.mono (fun x hx=>hx.elim),fun b hb=>.inl hb⟩ k2,k3,k4,k5,k6⟩
theorem zGt {w:World} {ρ:Nat→Role} {G D:Nat} {L:Lay} {r:Raw} (h:RRep w ρ G D L r) (hE:Env G w) (c:Int) (wds:List Wd) (hok:∀x∈wds,x.ok) (hn:wds.length≤16) (hout:r.out.length≤1099511627776)
 {B cap:Nat} (hB:B < w.heap.size) (hcells:∀(j:Nat) x,wds[j]?=some x→w.cell? ⟨B,j,none⟩=some x.val) :
 Calls Tryz.prog 40 #[vp D,vi c,.slice (some ⟨B,0,none⟩) wds.length cap] w (zLT w ρ G D L (rSay r c (wds.map Wd.bytes))):=by
 have HH:=zh h
 have HE:=zh hE
 have Hok:=zh hok
 have Hc:=zh hcells
 have Hlen:=zh (fun (k:Nat)=>zGr ((wds.map Wd.bytes).take k) (fun a ha=>by
  obtain ⟨x,hx,rfl⟩:=List.mem_map.1 (List.mem_of_mem_take ha)
  exact Wd.len (hok x hx)))
 clear h hE hok hcells
 go_enter Tryz.func40,Tryz.ntmps40
 go_wp2_with fail
 go_loopw [6,7,8,9,10,13] (fun s6 _ _ _ _ s13 wr=>∃k:Nat,s13=.int .i64 k∧k≤wds.length∧s6=vs (bs (zX ((wds.map Wd.bytes).take k)))∧Hid (Below w.heap.size w wr)) (fun _ _ _ _ _ s13 _=>wds.length - (intOf s13).toNat)
 case atStart=>exact ⟨0,by go_num,Nat.zero_le _,rfl,Below.refl _ _⟩
 case round =>
  obtain ⟨k,rfl,hk,rfl,Hbel⟩:=hrel
  by_cases hkl:k < wds.length
  ·have hlt:decide ((k:Int) < (wds.length:Int))=true:=decide_eq_true (by omega)
   obtain ⟨x,hx⟩:∃x,wds[k]?=some x:=⟨_,List.getElem?_eq_getElem hkl⟩
   have hk0:(0:Int)≤(k:Int):=by omega
   have hk1:(k:Int) < (wds.length:Int):=by omega
   have ck:wr.cell? ⟨B,k,none⟩=some x.val:=(Hbel.out.cell (p:=⟨B,k,none⟩) hB).trans (Hc.out k x hx)
   have Hxok:=zh (Hok.out x (List.mem_of_getElem? hx))
   have Hstep:Hid (zX ((wds.map Wd.bytes).take (k+1))=if k=0 then x.bytes else zX ((wds.map Wd.bytes).take k)++32::x.bytes):=show _=_ by
    rw [List.take_add_one,show (wds.map Wd.bytes)[k]?=some x.bytes by simp [hx]]
    simp only [Option.toList_some]
    rw [zGp]
    by_cases e:k=0
    ·subst e;simp
    ·have:¬(wds.map Wd.bytes).take k=[]:=by
      intro h
      have h3:((wds.map Wd.bytes).take k).length=k:=by simp;omega
      rw [h] at h3;simp at h3;omega
     rw [if_neg this,if_neg e]
   have Hl:=zh (Hlen.out k)
   have HS0:Hid (k=0→zX ((wds.map Wd.bytes).take k)=[]):=fun e=>by subst e;rfl
   have hwl:(zX ((wds.map Wd.bytes).take k)).length≤20000000000:=by
    have h1:=Hl.out
    have h2:((wds.map Wd.bytes).take k).length≤16:=by simp;omega
    omega
   generalize zX ((wds.map Wd.bytes).take k)=s at *
   have hsz:(bs s).size=s.length:=yX s
   have hadd:bs s++(⟨#[32]⟩:ByteArray)=bs (s++[32]):=zBV s [32]
   have hsz2:(bs (s++[32])).size=s.length+1:=by rw [yX];simp
   have hl1:(s.length:Int)+1≤9223372036854775807:=by omega
   cases x with
   | num n =>
     have ck2:wr.cell? ⟨B,k,none⟩=some (.iface 3 (vi n)):=ck
     have hta:=zLU n
     obtain ⟨n0,n1⟩:-9223372036854775808≤n∧n≤9223372036854775807:=Hxok.out
     have HI:Hid (Calls Tryz.prog 78 #[vi n] wr fun e w'=>e=.returned (vs (bs (decI n)))∧∃k os,w'=Sort.grow (wr.drewN k) os):=by
      have:=Tryz.strconv_Itoa n n0 n1 wr (HE.out.grow Hbel.out).tab
      rw [zLX n n0 n1] at this
      exact this
     have hdl:=zGq n
     have hdsz:(bs (decI n)).size=(decI n).length:=yX _
     have hadd2:bs s++bs (decI n)=bs (s++decI n):=zBV _ _
     have hadd3:bs (s++[32])++bs (decI n)=bs (s++[32]++decI n):=zBV _ _
     have hl2:(s.length:Int)+((decI n).length:Int)≤9223372036854775807:=by omega
     have hl3:(s.length:Int)+1+((decI n).length:Int)≤9223372036854775807:=by omega
     have HBb:Hid ((Wd.num n).bytes=decI n):=rfl
     generalize decI n=t at *
     clear ck n0 n1 hx
     by_cases k0:k=0
     ·have g0:decide ((0:Int) < (k:Int))=false:=decide_eq_false (by omega)
      have g1:decide (0 < k)=false:=decide_eq_false (by omega)
      rw [if_pos k0] at Hstep
      have Hs0:Hid (s=[]):=HS0.out k0
      clear k0
      go_wp2_with fail
      refine HI.out.mono ?_
      rintro e w2 ⟨rfl,q,os,hw2⟩
      have HB2:Hid (Below w.heap.size w w2):=show Below _ _ _ by rw [hw2];exact Hbel.out.trans (zGs wr Hbel.out.size q os)
      clear hw2 HI
      go_wp2_with fail
      go_roundw
      case rel=>exact ⟨k+1,by go_num,by omega,by rw [Hstep.out,HBb.out,Hs0.out];rfl,HB2.out⟩
      case measure=>simp [intOf];omega
     ·have g0:decide ((0:Int) < (k:Int))=true:=decide_eq_true (by omega)
      have g1:decide (0 < k)=true:=decide_eq_true (by omega)
      rw [if_neg k0] at Hstep
      clear k0
      go_wp2_with fail
      refine HI.out.mono ?_
      rintro e w2 ⟨rfl,q,os,hw2⟩
      have HB2:Hid (Below w.heap.size w w2):=show Below _ _ _ by rw [hw2];exact Hbel.out.trans (zGs wr Hbel.out.size q os)
      clear hw2 HI
      go_wp2_with fail
      go_roundw
      case rel=>exact ⟨k+1,by go_num,by omega,by rw [Hstep.out,HBb.out];try simp,HB2.out⟩
      case measure=>simp [intOf];omega
   | str t =>
     have ck2:wr.cell? ⟨B,k,none⟩=some (.iface 9 (vs (bs t))):=ck
     have hta:=zLV (bs t)
     have hta2:=zLW (bs t)
     have hdl:t.length≤1000000000:=Hxok.out
     have hdsz:(bs t).size=t.length:=yX _
     have hadd2:bs s++bs t=bs (s++t):=zBV _ _
     have hadd3:bs (s++[32])++bs t=bs (s++[32]++t):=zBV _ _
     have hl2:(s.length:Int)+(t.length:Int)≤9223372036854775807:=by omega
     have hl3:(s.length:Int)+1+(t.length:Int)≤9223372036854775807:=by omega
     have HBb:Hid ((Wd.str t).bytes=t):=rfl
     clear ck hx
     by_cases k0:k=0
     ·have g0:decide ((0:Int) < (k:Int))=false:=decide_eq_false (by omega)
      have g1:decide (0 < k)=false:=decide_eq_false (by omega)
      rw [if_pos k0] at Hstep
      have Hs0:Hid (s=[]):=HS0.out k0
      clear k0
      go_wp2_with fail
      go_roundw
      case rel=>exact ⟨k+1,by go_num,by omega,by rw [Hstep.out,HBb.out,Hs0.out];rfl,Hbel.out⟩
      case measure=>simp [intOf];omega
     ·have g0:decide ((0:Int) < (k:Int))=true:=decide_eq_true (by omega)
      have g1:decide (0 < k)=true:=decide_eq_true (by omega)
      rw [if_neg k0] at Hstep
      clear k0
      go_wp2_with fail
      go_roundw
      case rel=>exact ⟨k+1,by go_num,by omega,by rw [Hstep.out,HBb.out];try simp,Hbel.out⟩
      case measure=>simp [intOf];omega
  ·obtain rfl:k=wds.length:=by omega
   have hlt:decide ((wds.length:Int) < (wds.length:Int))=false:=by simp
   have hwl:(zX (wds.map Wd.bytes)).length≤20000000000:=by
    have h1:=Hlen.out wds.length
    rw [List.take_of_length_le (by simp)] at h1
    simp at h1;omega
   rw [List.take_of_length_le (by simp)]
   have HF0:Hid (Fr (fun _=>False) w wr.drew):=(Fr.of_below Hbel.out).drew
   have HR0:=zh (HH.out.of_fr HF0.out (fun b f=>f.elim))
   have c14:wr.cell? ⟨D,14,none⟩=some L.out:=HR0.out.disp.c14
   have HSW:=zh (zGo (zX (wds.map Wd.bytes)) (by omega) wr.drew)
   have HSY:Hid (rSay r c (wds.map Wd.bytes)={r with out:=r.out++[(c,zS (zX (wds.map Wd.bytes)))]}):=rfl
   have HB:=zh (show r.out.length+1≤maxLen∧(r.out.length+1)*24≤140737488355328 by unfold maxLen;omega)
   generalize zX (wds.map Wd.bytes)=s at *
   go_wp2_with fail
   have f14:wr.frozen? ⟨D,14,none⟩=false:=zK HR0.out.disp.2
   go_region_law (first
    | (go_simp;go_at_call 33;refine HSW.out.mono ?_;rintro e w2 ⟨rfl,hb2⟩;
       obtain ⟨q1,q2,c14b,f14b,f14c,c14c⟩:=zLZ HH.out HF0.out hb2 (.cells #[vi c,vs (bs (zS s))] 59);
       have HF2:=zh q1;
       have HSA:=zh q2;
       clear q1 q2;
       clear hb2)
    | ((refine zBQ _ (by rfl) _ _ _ _ (by rfl) zIs (by rfl) HSA.out (by rfl) (yn w2 Tryz.underlying41 [vi c,vs (bs (zS s))] (by rfl) (by simp [Value.oneCell']) w2.heap.size (by simp)) (by omega) HB.out.1 HB.out.2 ?_;intro g goff gcap w3 hg3 hs3 hf3 hlt3 _ _;obtain ⟨k1,k2⟩:=zLa HH.out HF2.out hg3 hs3 hf3 hlt3;have HP:=zh k2;have c3:w3.cell? ⟨D,14,none⟩=some L.out:=zB k1 rfl;have f3:w3.frozen? ⟨D,14,none⟩=false:=zK k1;clear hs3 hf3 hg3 hlt3 k1 k2)))
   all_goals
    go_wp2_with fail
    go_end0
    exact ⟨rfl,by rw [HSY.out];exact HP.out⟩
theorem zAc {w:World} {ρ:Nat→Role} {G D:Nat} {L:Lay} {r:Raw} (h:RRep w ρ G D L r) (hE:Env G w) (c:Int) (wds:List Wd) (hok:∀x∈wds,x.ok) (hn:wds.length≤16) (hout:r.out.length≤1099511627776)
 {B cap:Nat} (hB:B < w.heap.size) (hcells:∀(j:Nat) x,wds[j]?=some x→w.cell? ⟨B,j,none⟩=some x.val) :
 Calls Tryz.prog 40 #[vp D,vi c,.slice (some ⟨B,0,none⟩) wds.length cap] w (zLY w ρ G D L (rSay r c (wds.map Wd.bytes))):=
 (zGt h hE c wds hok hn hout hB hcells).mono (fun _ _ ⟨e,ρ',L',k1,k2,k3,k4,k5,_⟩=>⟨e,ρ',L',k1,k2,fun _=>k3,fun _=>k4,fun _=>k5⟩)
end Go.Proofs.YtaejfobbogahmaaGreatDoor
