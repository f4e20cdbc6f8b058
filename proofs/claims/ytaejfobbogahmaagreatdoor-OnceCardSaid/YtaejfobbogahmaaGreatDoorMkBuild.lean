/-
  Build Seal: texts of their own, joined.
-/
import Derived.Test.YtaejfobbogahmaaGreatDoorMkWire7
import Derived.Lib.Builder
import Derived.Lib.UnsafeStr
import Derived.Laws.Externs
import Derived.Shelf.RegionOpenPlain
set_option maxRecDepth 100000
set_option maxHeartbeats 16000000
set_option linter.all false
namespace Go.Proofs.YtaejfobbogahmaaGreatDoor
open Go Go.RowKit
def BdAt (Z:Nat) (w:World) (p:Value) (l:zA):Prop:=
 ∃v,w.heap[Z]?=some (.cells #[p,v] 123 (0,0))∧SlAt w 5 1 (fun b=>Z < b) v l.length (l.map zr)
theorem zGi:(Tryz.prog.info? 123).map (·.size)=some 2:=by kernel_rfl
theorem zLF:liesAt Tryz.prog Tryz.prog.depth 123 (2 / Tryz.prog.cellsOf 123) 0 123 1=true:=by kernel_rfl
theorem zGj {w:World} {b:Nat} {cs:Array Value} {T:TypeId} {fr:Nat×Nat} (h:w.heap[b]?=some (.cells cs T fr)):w.shape? b=some (T,cs.size):=by
 simp [World.shape?,h]
theorem zLG {w:World} {Z:Nat} {v:Value} (h:w.heap[Z]?=some (.cells #[.pointer none,v] 123 (0,0))) :
 Calls Tryz.prog 99 #[vp Z] w fun e w'=>e=.returned (.tuple #[])∧w.setCell ⟨Z,0,none⟩ (vp Z)=w':=by
 have c0:w.cell? ⟨Z,0,none⟩=some (.pointer none):=zB h rfl
 have f0:w.frozen? ⟨Z,0,none⟩=false:=zK h
 have hsh:=zGj h
 obtain ⟨j,hj,hjs⟩:=Option.map_eq_some_iff.1 zGi
 have Hsh:=zh hsh
 have Hj:=zh (And.intro hj hjs)
 clear h hsh hj hjs
 go_enter Tryz.func99,Tryz.ntmps99
 go_wp2_with fail
 rw [Lib.run_to_unsafe w ⟨Z,0,none⟩ Tryz.underlying121 Tryz.underlying207 Hj.out.1 (by rw [Hj.out.2];decide) Hsh.out (Nat.zero_lt_succ 1)]
 simp only [Result.andThen]
 rw [Oper.upon_value]
 go_wp2_with fail
 rw [run_callFunc_extern Tryz.func145 (by kernel_rfl) (by kernel_rfl) (by kernel_rfl) (e:=Extern.AbiNoEscape.same) (by kernel_rfl)]
 rw [Lib.run_noEscape]
 simp only [Result.andThen]
 rw [Oper.upon_value]
 go_wp2_with fail
 rw [Lib.run_from_unsafe w ⟨Z,0,none⟩ Tryz.underlying207 Tryz.underlying121 Hj.out.1 Hsh.out zLF]
 simp only [Result.andThen]
 rw [Oper.upon_value]
 go_wp2_with fail
 go_end0
 exact ⟨rfl,rfl⟩
theorem zLH {w:World} {Z:Nat} {v:Value} (h:w.heap[Z]?=some (.cells #[vp Z,v] 123 (0,0))) :
 Calls Tryz.prog 99 #[vp Z] w fun e w'=>e=.returned (.tuple #[])∧w=w':=by
 have c0:w.cell? ⟨Z,0,none⟩=some (vp Z):=zB h rfl
 obtain ⟨j,hj,hjs⟩:=Option.map_eq_some_iff.1 zGi
 have Hj:=zh hj
 clear h hj
 go_enter Tryz.func99,Tryz.ntmps99
 go_wp2_with fail
 rw [Lib.run_neq_ptr_same w _ Tryz.underlying121 Hj.out]
 go_wp2_with fail
 go_end0
 exact ⟨rfl,rfl⟩
theorem zGk {w:World} {Z:Nat} {p:Value} {l:zA} (h:BdAt Z w p l) (hp:p=.pointer none∨p=vp Z) :
 Calls Tryz.prog 99 #[vp Z] w fun e w'=>e=.returned (.tuple #[])∧BdAt Z w' (vp Z) l∧Below Z w w':=by
 obtain ⟨v,h1,h2⟩:=h
 rcases hp with rfl | rfl
 ·refine (zLG h1).mono ?_
  rintro e w' ⟨rfl,rfl⟩
  exact ⟨rfl,⟨v,zO w h1,h2.of_blk (fun b hb _=>zG _ (by show b≠Z;omega)) (fun b hb _=>hb)⟩,(Below.refl Z w).setCell (p:=⟨Z,0,none⟩) (Nat.le_refl _) _⟩
 ·refine (zLH h1).mono ?_
  rintro e w' ⟨rfl,rfl⟩
  exact ⟨rfl,⟨v,h1,h2⟩,Below.refl _ _⟩
theorem zGl {w w1 w2:World} {Z g off cap:Nat} {l m:zA} {v:Value} (h1:w.heap[Z]?=some (.cells #[vp Z,v] 123 (0,0))) (hZ:Z < w1.heap.size) (hw1:w1.heap[Z]?=w.heap[Z]?) (hb1:Below Z w w1)
 (hg:(fun b=>Z < b) g∨g=w1.heap.size) (hs:SlAt w2 5 1 (fun b=>b=g) (.slice (some ⟨g,off,none⟩) (l.length+m.length) cap) (l.length+m.length) (l.map zr++m.map zr)) (hf:Fr (fun b=>b=g) w1 w2) :
 w2.heap[Z]?=some (.cells #[vp Z,v] 123 (0,0)) ∧
 BdAt Z (w2.setCell ⟨Z,1,none⟩ (.slice (some ⟨g,off,none⟩) (l.length+m.length) cap)) (vp Z) (l++m)∧Below Z w (w2.setCell ⟨Z,1,none⟩ (.slice (some ⟨g,off,none⟩) (l.length+m.length) cap)):=by
 have hgZ:Z < g:=by
  rcases hg with h | h
  ·exact h
  ·omega
 have h2:w2.heap[Z]?=some (.cells #[vp Z,v] 123 (0,0)):=(hf.block Z hZ (by omega)).trans (hw1.trans h1)
 refine ⟨h2,⟨_,zO w2 h2,?_⟩,(hb1.trans (hf.below (Nat.le_of_lt hZ) (fun x hx=>by rw [hx];omega))).setCell (p:=⟨Z,1,none⟩) (Nat.le_refl _) _⟩
 rw [List.length_append,List.map_append]
 exact hs.of_blk (fun b hb _=>zG _ (by show b≠Z;rw [hb];omega)) (fun b hb _=>by rw [hb];exact hgZ)
theorem zLI {w:World} {Z:Nat} {p:Value} {l:zA} (h:BdAt Z w p l) (hp:p=.pointer none∨p=vp Z) (m:zA) (hm:0 < m.length) (hlen:l.length+m.length≤140737488355328) :
 Calls Tryz.prog 57 #[vp Z,vs (bs m)] w fun e w'=>e=.returned (.tuple #[vi m.length,.nilIface])∧BdAt Z w' (vp Z) (l++m)∧Below Z w w':=by
 have HC:=zh (zGk h hp)
 have hsz:(bs m).size=m.length:=yX m
 have HM:=zh (And.intro hm hlen)
 clear h hp hm hlen
 go_enter Tryz.func57,Tryz.ntmps57
 go_wp2_with fail
 refine HC.out.mono ?_
 rintro e w1 ⟨rfl,⟨v,h1,h2⟩,h3⟩
 have H1:=zh h1
 have H2:=zh h2
 have H3:=zh h3
 have c1:w1.cell? ⟨Z,1,none⟩=some v:=zB h1 rfl
 have HB:=zh (show l.length+m.length≤maxLen∧(l.length+m.length)*1≤140737488355328 by have:=HM.out.2;unfold maxLen;omega)
 have HP:=zh (fun (g off cap:Nat) (w2:World)=>zGl (w:=w1) (w1:=w1) (w2:=w2) (g:=g) (off:=off) (cap:=cap) (l:=l) (m:=m) h1 (zD _ h1) rfl (Below.refl Z w1))
 clear h1 h2 h3 HC
 go_wp2_with (at_builtin;refine xU _ rfl _ _ _ _ rfl zDl rfl H2.out rfl (by have:=Src.ofString w1 Tryz.underlying9 (bs m);rw [yX] at this;exact this) HM.out.1 HB.out.1 HB.out.2 ?_;intro g goff gcap w2 hg3 hs3 hf3 hlt3 _ _;obtain ⟨k1,k2,k3⟩:=HP.out g goff gcap w2 hg3 hs3 hf3;have K:=zh (And.intro k2 k3);have cZ:w2.cell? ⟨Z,1,none⟩=some v:=zB k1 rfl;have fZ:w2.frozen? ⟨Z,1,none⟩=false:=zK k1;clear k1 k2 k3 hg3 hs3 hf3)
 go_ret2
 exact ⟨rfl,K.out.1,H3.out.trans K.out.2⟩
theorem zGm {w:World} {Z:Nat} {l:zA} (h:BdAt Z w (vp Z) l) (c:UInt8) (hlen:l.length+1≤140737488355328) :
 Calls Tryz.prog 59 #[vp Z,.int .u8 c.toNat] w fun e w'=>e=.returned .nilIface∧BdAt Z w' (vp Z) (l++[c])∧Below Z w w':=by
 have HC:=zh (zGk h (.inr rfl))
 have HM:=zh hlen
 clear h hlen
 go_enter Tryz.func59,Tryz.ntmps59
 go_wp2_with fail
 refine HC.out.mono ?_
 rintro e w1 ⟨rfl,⟨v,h1,h2⟩,h3⟩
 have H2:=zh (h2.of_blk (w':=w1.alloc (.cells #[.int .u8 c.toNat] 5)) (fun b _ hl=>zM w1 hl) (fun b hb _=>hb))
 have H3:=zh h3
 have c1:w1.cell? ⟨Z,1,none⟩=some v:=zB h1 rfl
 have HB:=zh (show l.length+1≤maxLen∧(l.length+1)*1≤140737488355328 by have:=HM.out;unfold maxLen;omega)
 have HP:=zh (fun (g off cap:Nat) (w2:World)=>zGl (w:=w1) (w1:=w1.alloc (.cells #[.int .u8 c.toNat] 5)) (w2:=w2) (g:=g) (off:=off) (cap:=cap) (l:=l) (m:=[c]) h1 (by have:=zD _ h1;simp;omega) (zM w1 (zD _ h1)) ((Below.refl Z w1).alloc (Nat.le_of_lt (zD _ h1)) _))
 clear h1 h2 h3 HC
 go_wp2_with (at_builtin;refine xU _ rfl _ _ _ _ rfl zDl rfl H2.out rfl (yn w1 Tryz.underlying50 [.int .u8 c.toNat] (by rfl) (by simp [Value.oneCell']) w1.heap.size (by simp)) (by omega) HB.out.1 HB.out.2 ?_;intro g goff gcap w2 hg3 hs3 hf3 hlt3 _ _;obtain ⟨k1,k2,k3⟩:=HP.out g goff gcap w2 hg3 hs3 hf3;have K:=zh (And.intro k2 k3);have cZ:w2.cell? ⟨Z,1,none⟩=some v:=zB k1 rfl;have fZ:w2.frozen? ⟨Z,1,none⟩=false:=zK k1;clear k1 k2 k3 hg3 hs3 hf3)
 go_ret
 exact ⟨rfl,K.out.1,H3.out.trans K.out.2⟩
theorem zLJ {P:Program} {e:TypeId} (hc:P.cellsOf e=1) (count off n:Nat) (hn:off+n≤count):liesAt P P.depth e count off e n=true:=by
 have hd:P.depth=(2*(P.types.size+Made.depth)+1)+1:=rfl
 rw [hd]
 simp only [liesAt,Bool.or_eq_true]
 left
 rw [hd]
 simp [rowAt,hc,hn,sameLayout]
 exact .inl (Nat.mod_one off)
theorem zLK {P:Program} (w:World) (pt it ty e:TypeId) (hp:P.underlying pt=some (.pointer e)) (hc:P.cellsOf e=1) (g off cells:Nat) (hsh:w.shape? g=some (e,cells)) (l:List UInt8) (h0:l≠[]) (hn:off+l.length≤cells) (h63:l.length≤9223372036854775807)
 (hcell:∀j x,l[j]?=some x→w.cell? ((⟨g,off,none⟩:Addr).add j)=some (.int .u8 x.toNat)) :
 (Builtin.unsafeString_ #[pt,it] ty #[.pointer (some ⟨g,off,none⟩),.int .i64 l.length]).run P w=.ok (.string ⟨l.toArray⟩) (w.freeze ⟨g,off,none⟩ l.length):=by
 have hl:l.length≠0:=by simpa using h0
 have hlb:=Lib.run_loadBytes (P:=P) w l ⟨g,off,none⟩ .empty hcell
 have hlies:=zLJ (P:=P) hc (cells / P.cellsOf e) off l.length (by rw [hc];simpa using hn)
 have h63':¬(9223372036854775807:Int) < (l.length:Int):=by omega
 have hdef:Builtin.unsafeString_ #[pt,it] ty #[.pointer (some ⟨g,off,none⟩),.int .i64 l.length] =
  (do
   let n ←asInt (.int .i64 l.length)
   if n < 0 then runtimePanic (.error "unsafe.String: len out of range")
   if n > IntKind.i64.max then unsupported (.unsafePointer "String: a length above the largest int")
   if n=0 then pure (.string .empty)
   else if ←variablesAt ⟨g,off,none⟩ (←elemOf pt) n.toNat then do
    let s ←loadBytes ⟨g,off,none⟩ .empty n.toNat
    freeze ⟨g,off,none⟩ n.toNat
    pure (.string s)
   else unsupported (.unsafePointer "String: not so many bytes at ptr")):=rfl
 rw [hdef]
 have hmax:IntKind.i64.max=9223372036854775807:=rfl
 have hneg:¬(l.length:Int) < 0:=by omega
 simp [asInt,asIntOf,hmax,h63',hneg,hl,variablesAt,hsh,elemOf,run_underlying hp,hlies,hlb]
theorem zLL {w:World} {Z:Nat} {p:Value} {l:zA} (h:BdAt Z w p l) (h0:l≠[]) :
 Calls Tryz.prog 60 #[vp Z] w fun e w'=>e=.returned (vs (bs l))∧Below Z w w':=by
 obtain ⟨v,h1,h2⟩:=h
 have hpos:0 < l.length:=List.length_pos_iff.2 h0
 rcases h2 with ⟨_,h,_⟩ | ⟨g,off,cap,cs,rfl,hg,hblk,hc1,hc2,hsz,hlen,hcell⟩
 ·omega
 have c1:w.drew.cell? ⟨Z,1,none⟩=some (.slice (some ⟨g,off,none⟩) l.length cap):=zB (w:=w.drew) h1 rfl
 have hSD:(Builtin.unsafeSliceData_ #[50] 165 #[.slice (some ⟨g,off,none⟩) l.length cap]).run Tryz.prog w.drew=.ok (.pointer (some ⟨g,off,none⟩)) w.drew:=
  Lib.run_unsafeSliceData_row _ _ _ _ _ _ (by omega)
 have hUS:(Builtin.unsafeString_ #[165,3] 9 #[.pointer (some ⟨g,off,none⟩),.int .i64 l.length]).run Tryz.prog w.drew=.ok (vs (bs l)) (w.drew.freeze ⟨g,off,none⟩ l.length):=by
  refine zLK w.drew 165 3 9 5 Tryz.underlying165 zGS g off cs.size (zGj (w:=w.drew) hblk) l h0 (by omega) (by unfold maxLen at hc2;omega) ?_
  intro j x hx
  rw [Addr.add_lit]
  exact zB (w:=w.drew) hblk (hcell j _ (by simp [hx,zr]))
 have Hg:=zh hg
 clear h1 hblk hcell h0 hg hsz hlen
 unfold maxLen at hc2
 go_enter Tryz.func60,Tryz.ntmps60
 go_wp2_with fail
 go_region
 all_goals (go_wp2_with fail;go_ret;exact ⟨rfl,Lib.below_freeze (Below.drew (Below.refl Z w)) (p:=⟨g,off,none⟩) (Nat.le_of_lt Hg.out) _⟩)
def xV (x:Sum4) (k:Nat):zA:=match k with
 | 0=>[] | 1=>hex2 x.1 | 2=>hex2 x.1++hex2 x.2.1 | 3=>hex2 x.1++hex2 x.2.1++hex2 x.2.2.1 | _=>hex2 x.1++hex2 x.2.1++hex2 x.2.2.1++hex2 x.2.2.2
theorem zLM (n:Nat) (h:n < 256):bits BinOp.and IntKind.u8 (n:Int) 15=((n % 16:Nat):Int):=by
 have:∀n:Nat,n < 256→bits BinOp.and IntKind.u8 (n:Int) 15=((n % 16:Nat):Int):=by decide +kernel
 exact this n h
theorem zLN (c:UInt8):(⟨#[48,49,50,51,52,53,54,55,56,57,97,98,99,100,101,102]⟩:ByteArray)[c.toNat / 16]?=some (hexD (c / 16)):=by
 have:∀n:Nat,n < 256→(⟨#[48,49,50,51,52,53,54,55,56,57,97,98,99,100,101,102]⟩:ByteArray)[n / 16]?=some (hexD (UInt8.ofNat n / 16)):=by decide +kernel
 have h:=this c.toNat c.toNat_lt
 simpa using h
theorem zLO (c:UInt8):(⟨#[48,49,50,51,52,53,54,55,56,57,97,98,99,100,101,102]⟩:ByteArray)[c.toNat % 16]?=some (hexD (c % 16)):=by
 have:∀n:Nat,n < 256→(⟨#[48,49,50,51,52,53,54,55,56,57,97,98,99,100,101,102]⟩:ByteArray)[n % 16]?=some (hexD (UInt8.ofNat n % 16)):=by decide +kernel
 have h:=this c.toNat c.toNat_lt
 simpa using h
theorem zLP (x:Sum4) {k:Nat} (hk:k < 4):(zAa x)[k]?=some (zr (sget x k)):=by
 match k,hk with
 | 0,_=>rfl
 | 1,_=>rfl
 | 2,_=>rfl
 | 3,_=>rfl
theorem zLQ (x:Sum4) (w:World) (k:Nat) (hk:k < 4):(Instr.index 129 (.agg (zAa x)) (.int .i64 k)).run Tryz.prog w=.ok (.int .u8 (sget x k).toNat) w:=by
 have hu:=Tryz.underlying129
 have hz:=Tryz.sizeOf5
 have hg:=zLP x hk
 have h0:¬((k:Int) < 0∨(4:Int)≤(k:Int)):=by omega
 simp [Instr.index,run_underlying hu,go_sem,hk,hg]
 rfl
theorem BdAt.grow {Z:Nat} {w w':World} {p:Value} {l:zA} (h:BdAt Z w p l) (hb:Below w.heap.size w w'):BdAt Z w' p l:=by
 obtain ⟨v,h1,h2⟩:=h
 exact ⟨v,(hb.block _ (zD _ h1)).trans h1,h2.of_blk (fun b _ hl=>hb.block b hl) (fun b hb _=>hb)⟩
theorem zGn (x:Sum4) {k:Nat} (hk:k < 4):(xV x k).length≤8:=by
 match k,hk with
 | 0,_=>simp [xV]
 | 1,_=>simp [xV,hex2]
 | 2,_=>simp [xV,hex2]
 | 3,_=>simp [xV,hex2]
theorem zLR (x:Sum4) {k:Nat} (hk:k < 4):xV x k++hex2 (sget x k)=xV x (k+1):=by
 match k,hk with
 | 0,_=>rfl
 | 1,_=>rfl
 | 2,_=>rfl
 | 3,_=>rfl
theorem zGo (l:zA) (hl:l.length≤140737488351300) (w:World) :
 Calls Tryz.prog 33 #[vs (bs l)] w fun e w'=>e=.returned (vs (bs (zS l)))∧Below w.heap.size w w':=by
 have hsz:(bs l).size=l.length:=yX l
 have hadd:bs l++(⟨#[32]⟩:ByteArray)=bs (l++[32]):=ByteArray.ext (by simp [bs])
 have HW:=zh (zLI (w:=w.alloc (.cells #[.pointer none,.slice none 0 0] 123)) (Z:=w.heap.size) (p:=.pointer none) (l:=[]) ⟨_,zP w,SlAt.nil⟩ (.inl rfl) (l++[32]) (by simp) (by simp;omega))
 have HS:=zh (fun w=>zGP l (by omega) w)
 have Hl:=zh hl
 have hl2:(l.length:Int)+1≤9223372036854775807:=by omega
 clear hl
 go_enter Tryz.func33,Tryz.ntmps33
 go_wp2_with fail
 refine HW.out.mono ?_
 rintro e w1 ⟨rfl,h1,h2⟩
 have H2:=zh (((Below.refl _ w).alloc (Nat.le_refl _) _).trans h2)
 have H1:=zh h1
 clear h1 h2 HW
 go_wp2_with fail
 refine (HS.out _).mono ?_
 rintro e w2 ⟨rfl,hb⟩
 have H3:=zh (BdAt.grow H1.out hb)
 have H4:=zh (H2.out.trans (hb.mono H2.out.size))
 clear hb HS H1 H2
 generalize hx:zt l=x at *
 have HX:=zh hx
 clear hx
 go_wp2_with fail
 go_loopw [5,11] (fun _ s11 wr=>∃k:Nat,s11=.int .i64 k∧k≤4∧Hid (BdAt w.heap.size wr (vp w.heap.size) ((l++[32])++xV x k))∧Hid (Below w.heap.size w wr)) (fun _ s11 _=>4 - (intOf s11).toNat)
 case atStart=>exact ⟨0,by go_num,Nat.zero_le _,show BdAt _ _ _ _ by simpa [xV] using H3.out,H4.out⟩
 case round =>
  obtain ⟨k,rfl,hk,Hb,Hbel⟩:=hrel
  clear H3 H4
  by_cases hk4:k < 4
  ·have hlt:decide ((k:Int) < 4)=true:=decide_eq_true (by omega)
   have hlt2:decide (k < 4)=true:=decide_eq_true (by omega)
   obtain ⟨c,hc⟩:∃c,Hid (c=sget x k):=⟨_,rfl⟩
   have hce:=zLQ x wr k hk4
   rw [←hc.out] at hce
   obtain ⟨q,hq⟩:∃q,q=c.toNat / 16:=⟨_,rfl⟩
   obtain ⟨r,hr⟩:∃r,r=c.toNat % 16:=⟨_,rfl⟩
   have hc256:=c.toNat_lt
   have hq16:q < 16:=by omega
   have hr16:r < 16:=by omega
   have hqi:(c.toNat:Int) / 16=(q:Int):=by omega
   have hri:bits BinOp.and IntKind.u8 (c.toNat:Int) 15=(r:Int):=by rw [hr];exact zLM c.toNat hc256
   have hq0:(0:Int)≤(q:Int):=by omega
   have hr0:(0:Int)≤(r:Int):=by omega
   have hq1:(q:Int) < 16:=by omega
   have hr1:(r:Int) < 16:=by omega
   obtain ⟨x1,hx1⟩:∃x1,x1=hexD (c / 16):=⟨_,rfl⟩
   obtain ⟨x2,hx2⟩:∃x2,x2=hexD (c % 16):=⟨_,rfl⟩
   have hI1:(⟨#[48,49,50,51,52,53,54,55,56,57,97,98,99,100,101,102]⟩:ByteArray)[q]'hq16=x1:=by subst hq;have:=zLN c;rw [←hx1] at this;exact Option.some.inj ((getElem?_pos (⟨#[48,49,50,51,52,53,54,55,56,57,97,98,99,100,101,102]⟩:ByteArray) _ hq16).symm.trans this)
   have hI2:(⟨#[48,49,50,51,52,53,54,55,56,57,97,98,99,100,101,102]⟩:ByteArray)[r]'hr16=x2:=by subst hr;have:=zLO c;rw [←hx2] at this;exact Option.some.inj ((getElem?_pos (⟨#[48,49,50,51,52,53,54,55,56,57,97,98,99,100,101,102]⟩:ByteArray) _ hr16).symm.trans this)
   have Hq:=zh (And.intro hq hr)
   have Hx:=zh (And.intro hx1 hx2)
   clear hq hr hc256 hx1 hx2
   have hk0:(0:Int)≤(k:Int):=by omega
   have hk1:(k:Int) < 4:=by omega
   have HW1:=zh (zGm Hb.out x1 (by have:=Hl.out;have:=zGn x hk4;simp;omega))
   have HWL:=zh (show ((l++[32])++xV x k++[x1]).length+1≤140737488355328 by have:=Hl.out;have:=zGn x hk4;simp;omega)
   have HN:Hid ((l++[32])++xV x k++[x1]++[x2]=(l++[32])++xV x (k+1)):=show _=_ by
    rw [←zLR x hk4,Hx.out.1,Hx.out.2,hc.out];simp [hex2]
   go_wp2_with fail
   refine HW1.out.mono ?_
   rintro e w3 ⟨rfl,hb3,hl3⟩
   have HW2:=zh (zGm hb3 x2 HWL.out)
   have HL3:=zh (Hbel.out.trans hl3)
   clear hb3 hl3
   go_wp2_with fail
   refine HW2.out.mono ?_
   rintro e w4 ⟨rfl,hb4,hl4⟩
   rw [HN.out] at hb4
   have HB4:=zh hb4
   have HL4:=zh (HL3.out.trans hl4)
   clear hb4 hl4
   go_wp2_with fail
   go_roundw
   case rel=>exact ⟨k+1,by go_num,by omega,HB4.out,HL4.out⟩
   case measure=>simp [intOf];omega
  ·obtain rfl:k=4:=by omega
   have HST:=zh (zLL Hb.out (by simp))
   have HF:Hid ((l++[32])++xV x 4=zS l):=show _=_ by rw [←HX.out];simp [xV,zS,zBJ]
   go_wp2_with fail
   refine HST.out.mono ?_
   rintro e w3 ⟨rfl,hl3⟩
   have HL3:=zh (Hbel.out.trans hl3)
   clear hl3
   rw [HF.out]
   go_wp2_with fail
   go_ret
   exact ⟨rfl,HL3.out⟩
end Go.Proofs.YtaejfobbogahmaaGreatDoor
