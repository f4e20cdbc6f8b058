/-
  Wire1 Wire2 Wire3: texts of their own, joined.
-/
import Derived.Test.YtaejfobbogahmaaGreatDoorMkTable
import Derived.Test.YtaejfobbogahmaaGreatDoorMkShelf
import Derived.ChangeKeysEq
import Derived.Laws.IdiomStrings
import Derived.Deep.RegionLaw
import Derived.Deep.RegionLawGrows
set_option maxRecDepth 100000
set_option maxHeartbeats 16000000
set_option linter.all false
namespace Go.Proofs.YtaejfobbogahmaaGreatDoor
open Go Go.RowKit
abbrev Sum4:=UInt8×UInt8×UInt8×UInt8
def zAa (x:Sum4):Array Value:=#[zr x.1,zr x.2.1,zr x.2.2.1,zr x.2.2.2]
theorem zKL (l:zA) (c:UInt8):∀(i:Nat) (s:Sum4),zBe (l++[c]) i s=zBd (zBe l i s) (i+l.length) c:=by
 induction l with
 | nil=>intro i s;rfl
 | cons a l ih =>
   intro i s
   simp only [List.cons_append,zBe,ih,List.length_cons]
   congr 1;omega
theorem zKM {l:zA} {i:Nat} {c:UInt8} (h:l[i]?=some c):zt (l.take (i+1))=zBd (zt (l.take i)) i c:=by
 have hi:=(List.getElem?_eq_some_iff.1 h).1
 rw [List.take_add_one,h]
 simp only [Option.toList_some,zt,zKL,List.length_take]
 congr 1;omega
def xI (w:World) (B:Nat) (x:Sum4):Prop:=w.heap[B]?=some (.cells (zAa x) 129 (0,0))
def sget (x:Sum4) (j:Nat):UInt8:=match j with | 0=>x.1 | 1=>x.2.1 | 2=>x.2.2.1 | _=>x.2.2.2
theorem xI.cell {w:World} {B:Nat} {x:Sum4} (h:xI w B x) {j:Nat} (hj:j < 4):w.cell? ⟨B,j,none⟩=some (zr (sget x j)):=by
 refine zB h ?_
 match j,hj with
 | 0,_=>rfl
 | 1,_=>rfl
 | 2,_=>rfl
 | 3,_=>rfl
theorem xI.step {w:World} {B:Nat} {x:Sum4} (h:xI w B x) (k:Nat) (c:UInt8):xI (w.setCell ⟨B,k % 4,none⟩ (zr (sget x (k % 4)*3+c))) B (zBd x k c):=by
 have h2:=zO (off:=k % 4) (v:=zr (sget x (k % 4)*3+c)) w h
 have hk:k % 4 < 4:=Nat.mod_lt _ (by omega)
 refine h2.trans ?_
 unfold zBd sget
 match k % 4,hk with
 | 0,_=>rfl
 | 1,_=>rfl
 | 2,_=>rfl
 | 3,_=>rfl
theorem zAl {l:zA} {k:Nat} {c:UInt8} (h:l[k]?=some c) {hh:k < (bs l).size}:(bs l)[k]'hh=c:=by
 obtain ⟨h1,h2⟩:=List.getElem?_eq_some_iff.1 h
 simpa [bs,ByteArray.getElem_eq_getElem_data] using h2
theorem zKN (a c:UInt8):IntKind.u8.wrap (IntKind.u8.wrap ((a.toNat:Int)*3)+(c.toNat:Int))=(((a*3+c).toNat:Nat):Int):=by
 have e:∀n:Int,IntKind.u8.wrap n=n % 256:=fun n=>rfl
 rw [e,e,UInt8.toNat_add,UInt8.toNat_mul]
 simp
theorem zKO {w:World} {B:Nat} {x:Sum4} (t:Array Value) (ht:t[2]?=some (vp B)) (h:xI w B x):(results Tryz.f58 t).run Tryz.prog w=.ok (.agg (zAa x)) w:=by
 have e0:=zB h (off:=0) rfl
 have e1:=zB h (off:=1) rfl
 have e2:=zB h (off:=2) rfl
 have e3:=zB h (off:=3) rfl
 simp [results,Tryz.results58,go_sem,ht,e0,e1,e2,e3]
 rfl
theorem zGP (l:zA) (hl:l.length≤140737488355328) (w:World) :
 Calls Tryz.prog 58 #[vs (bs l)] w fun e w'=>e=.returned (.agg (zAa (zt l)))∧Below w.heap.size w w':=by
 have hsz:(bs l).size=l.length:=by simp [bs,ByteArray.size]
 go_enter Tryz.func58,Tryz.ntmps58
 go_wp2_with fail
 go_loopw [4,7] (fun _ s7 wr=>∃k:Nat,s7=.int .i64 k∧k≤l.length∧Hid (xI wr (w.heap.size+1) (zt (l.take k)))∧Hid (xI wr w.heap.size (0,0,0,0))∧Hid (Below w.heap.size w wr)) (fun _ s7 _=>l.length - (intOf s7).toNat)
 case atStart=>exact ⟨0,by go_num,Nat.zero_le _,show xI _ _ _ by have:=zP (w.alloc (.cells #[Value.int IntKind.u8 0,Value.int IntKind.u8 0,Value.int IntKind.u8 0,Value.int IntKind.u8 0] 129)) (o:=.cells #[Value.int IntKind.u8 0,Value.int IntKind.u8 0,Value.int IntKind.u8 0,Value.int IntKind.u8 0] 129);rw [World.size_alloc] at this;exact this,(zM _ (by simp)).trans (zP w),((Below.refl _ _).alloc (Nat.le_refl _) _).alloc (by simp) _⟩
 case round =>
  obtain ⟨k,rfl,hk,Hs,Hz,Hb⟩:=hrel
  by_cases hkl:k < l.length
  ·have hlt:decide ((k:Int) < (l.length:Int))=true:=by simp;exact hkl
   have hk0:(0:Int)≤(k:Int):=by omega
   have hk1:(k:Int) < (l.length:Int):=by omega
   have hmod:(k:Int).tmod 4=((k % 4:Nat):Int):=by
    rw [Int.tmod_eq_emod_of_nonneg (by omega)];omega
   have hm4:((k % 4:Nat):Int) < 4:=by omega
   have hm0:(0:Int)≤((k % 4:Nat):Int):=by omega
   have hc:=Hs.out.cell (j:=k % 4) (by omega)
   unfold zr at hc
   generalize hmm:k % 4=m at *
   obtain ⟨x,hx⟩:∃x,sget (zt (l.take k)) m=x:=⟨_,rfl⟩
   rw [hx] at hc
   have Hx:=zh hx
   clear hx
   have Hmm:=zh hmm
   clear hmm
   obtain ⟨c,hkc⟩:∃c,l[k]?=some c:=⟨_,List.getElem?_eq_getElem hkl⟩
   obtain ⟨z,Hzz⟩:∃z,Hid (x*3+c=z):=⟨_,rfl⟩
   have hfz:=zK (off:=m) Hs.out
   have Hn:Hid (xI ((wr.drew).setCell ⟨w.heap.size+1,m,none⟩ (.int .u8 z.toNat)) (w.heap.size+1) (zt (l.take (k+1)))):=by
    rw [zKM hkc]
    have:=xI.step (w:=wr.drew) Hs.out k c
    rw [Hmm.out,Hx.out,Hzz.out] at this
    exact this
   have Hkc:=zh hkc
   clear hkc
   go_wp2_with fail
   refine xF 12 xG (by kernel_rfl) ?_
   simp only [List.take_succ_cons,List.take_zero,List.drop_succ_cons,List.drop_zero]
   repeat still_step
   refine wpStill_nil ?_
   rw [zAl Hkc.out,zKN,Hzz.out]
   go_wp2_with fail
   go_roundw
   case rel=>exact ⟨k+1,by go_num,by omega,Hn.out,(zG _ (by simp)).trans Hz.out,Below.setCell (zAK Hb.out 1) (Nat.le_succ _) _⟩
   case measure=>simp [intOf];omega
  ·obtain rfl:k=l.length:=by omega
   have hlt:decide ((l.length:Int) < (l.length:Int))=false:=by simp
   have h0:=Hs.out.cell (j:=0) (by omega)
   have h1:=Hs.out.cell (j:=1) (by omega)
   have h2:=Hs.out.cell (j:=2) (by omega)
   have h3:=Hs.out.cell (j:=3) (by omega)
   have g0:=Hz.out.cell (j:=0) (by omega)
   have g1:=Hz.out.cell (j:=1) (by omega)
   have g2:=Hz.out.cell (j:=2) (by omega)
   have g3:=Hz.out.cell (j:=3) (by omega)
   have f0:=zK (off:=0) Hz.out
   have f1:=zK (off:=1) Hz.out
   have f2:=zK (off:=2) Hz.out
   have f3:=zK (off:=3) Hz.out
   unfold zr at h0 h1 h2 h3 g0 g1 g2 g3
   go_wp2_with fail
   have d:=(zO (off:=3) (v:=zr (sget (zt l) 3)) _ (zO (off:=2) (v:=zr (sget (zt l) 2)) _ (zO (off:=1) (v:=zr (sget (zt l) 1)) _ (zO (off:=0) (v:=zr (sget (zt l) 0)) wr Hz.out))))
   refine bodyPost_ret (v:=.agg (zAa (zt l))) ?_ rfl ⟨rfl,?_⟩
   ·exact zKO _ rfl d
   ·exact (((Hb.out.setCell (Nat.le_refl _) _).setCell (Nat.le_refl _) _).setCell (Nat.le_refl _) _).setCell (Nat.le_refl _) _
def yD (n:Nat):Bool:=decide (48≤n∧n≤57∨97≤n∧n≤102)
def digV (n:Nat):Nat:=if 48≤n∧n≤57 then n - 48 else if 97≤n∧n≤102 then n - 87 else 0
theorem zCq (n:Nat):digV n < 16:=by
 unfold digV
 split
 ·omega
 ·split<;>omega
theorem zGQ (n:Nat) (hn:n < 256) (w:World) :
 Calls Tryz.prog 61 #[.int .u8 n] w fun e w'=>e=.returned (.tuple #[.int .u8 (digV n:Nat),.bool (yD n)])∧w=w':=by
 by_cases c1:n < 48
 ·have e1:Hid ((digV n:Nat)=(0:Int)):=show _=_ by unfold digV;(repeat' split)<;>omega
  have e2:Hid (yD n=false):=show _=_ by unfold yD;simp;omega
  have a1:decide (48≤n)=false:=by simp;omega
  have a3:decide ((48:Int)≤(n:Int))=false:=by simp;omega
  have b1:decide (n≤57)=true:=by simp;omega
  have b2:decide ((n:Int)≤57)=true:=by simp;omega
  have b3:decide (97≤n)=false:=by simp;omega
  have b4:decide ((97:Int)≤(n:Int))=false:=by simp;omega
  have b5:decide (n≤102)=true:=by simp;omega
  have b6:decide ((n:Int)≤102)=true:=by simp;omega
  go_enter Tryz.func61,Tryz.ntmps61
  go_wp2_with fail
  go_ret2
  exact ⟨by rw [e1.out,e2.out];rfl,rfl⟩
 by_cases c2:n≤57
 ·have e1:Hid ((digV n:Nat)=(n - 48:Int)):=show _=_ by unfold digV;(repeat' split)<;>omega
  have e2:Hid (yD n=true):=show _=_ by unfold yD;simp;omega
  have a1:decide (48≤n)=true:=by simp;omega
  have a3:decide ((48:Int)≤(n:Int))=true:=by simp;omega
  have b1:decide (n≤57)=true:=by simp;omega
  have b2:decide ((n:Int)≤57)=true:=by simp;omega
  have b3:decide (97≤n)=false:=by simp;omega
  have b4:decide ((97:Int)≤(n:Int))=false:=by simp;omega
  have b5:decide (n≤102)=true:=by simp;omega
  have b6:decide ((n:Int)≤102)=true:=by simp;omega
  go_enter Tryz.func61,Tryz.ntmps61
  go_wp2_with fail
  go_ret2
  exact ⟨by rw [e1.out,e2.out];rfl,rfl⟩
 by_cases c3:n < 97
 ·have e1:Hid ((digV n:Nat)=(0:Int)):=show _=_ by unfold digV;(repeat' split)<;>omega
  have e2:Hid (yD n=false):=show _=_ by unfold yD;simp;omega
  have a1:decide (48≤n)=true:=by simp;omega
  have a3:decide ((48:Int)≤(n:Int))=true:=by simp;omega
  have b1:decide (n≤57)=false:=by simp;omega
  have b2:decide ((n:Int)≤57)=false:=by simp;omega
  have b3:decide (97≤n)=false:=by simp;omega
  have b4:decide ((97:Int)≤(n:Int))=false:=by simp;omega
  have b5:decide (n≤102)=true:=by simp;omega
  have b6:decide ((n:Int)≤102)=true:=by simp;omega
  go_enter Tryz.func61,Tryz.ntmps61
  go_wp2_with fail
  go_ret2
  exact ⟨by rw [e1.out,e2.out];rfl,rfl⟩
 by_cases c4:n≤102
 ·have e1:Hid ((digV n:Nat)=(n - 97+10:Int)):=show _=_ by unfold digV;(repeat' split)<;>omega
  have e2:Hid (yD n=true):=show _=_ by unfold yD;simp;omega
  have a1:decide (48≤n)=true:=by simp;omega
  have a3:decide ((48:Int)≤(n:Int))=true:=by simp;omega
  have b1:decide (n≤57)=false:=by simp;omega
  have b2:decide ((n:Int)≤57)=false:=by simp;omega
  have b3:decide (97≤n)=true:=by simp;omega
  have b4:decide ((97:Int)≤(n:Int))=true:=by simp;omega
  have b5:decide (n≤102)=true:=by simp;omega
  have b6:decide ((n:Int)≤102)=true:=by simp;omega
  go_enter Tryz.func61,Tryz.ntmps61
  go_wp2_with fail
  go_ret2
  exact ⟨by rw [e1.out,e2.out];rfl,rfl⟩
 ·have e1:Hid ((digV n:Nat)=(0:Int)):=show _=_ by unfold digV;(repeat' split)<;>omega
  have e2:Hid (yD n=false):=show _=_ by unfold yD;simp;omega
  have a1:decide (48≤n)=true:=by simp;omega
  have a3:decide ((48:Int)≤(n:Int))=true:=by simp;omega
  have b1:decide (n≤57)=false:=by simp;omega
  have b2:decide ((n:Int)≤57)=false:=by simp;omega
  have b3:decide (97≤n)=true:=by simp;omega
  have b4:decide ((97:Int)≤(n:Int))=true:=by simp;omega
  have b5:decide (n≤102)=false:=by simp;omega
  have b6:decide ((n:Int)≤102)=false:=by simp;omega
  go_enter Tryz.func61,Tryz.ntmps61
  go_wp2_with fail
  go_ret2
  exact ⟨by rw [e1.out,e2.out];rfl,rfl⟩
theorem zKP (a b:UInt8):((a.toNat:Int)==(b.toNat:Int))=decide (a=b):=by
 by_cases e:a=b
 ·subst e;simp
 ·have:a.toNat≠b.toNat:=fun h=>e (UInt8.toNat_inj.1 h)
  have h2:(a.toNat:Int)≠(b.toNat:Int):=fun h=>this (Int.ofNat.inj h)
  simp only [e,decide_false]
  exact beq_eq_false_iff_ne.2 h2
theorem zKQ (d:Nat) (a b:UInt8) (w:World):(Op.equalIn (d+1) 5 (zr a) (zr b)).run Tryz.prog w=.ok (decide (a=b)) w:=by
 rw [←zKP]
 exact run_equalIn_int w d 5 _ _ _ _ Tryz.underlying5
theorem zGR:Tryz.prog.plainKey 5=true:=by kernel_rfl
theorem zGS:Tryz.prog.cellsOf 5=1:=by kernel_rfl
theorem zCr {xs ys:Array Value} {j:Nat} {is:List Nat} {a b:UInt8} (w:World) (hx:xs[j*1]?=some (zr a)) (hy:ys[j*1]?=some (zr b)) :
 (Op.eqItems 9999 5 1 xs ys (j::is)).run Tryz.prog w=if a=b then (Op.eqItems 9999 5 1 xs ys is).run Tryz.prog w else .ok false w:=by
 simp only [Op.eqItems,Sem.run_bind,run_part_plain w zGR hx,run_part_plain w zGR hy,Result.andThen_ok,zKQ]
 by_cases h:a=b<;>simp [h,go_sem]
theorem zKR (x y:Sum4) (w:World):(Op.equalIn 10000 129 (.agg (zAa x)) (.agg (zAa y))).run Tryz.prog w=.ok (decide (x=y)) w:=by
 obtain ⟨i,hi,_⟩:=info_parts zFe
 rw [run_equalIn_array w 9999 _ _ Tryz.underlying129 hi,zGS]
 rw [show List.range 4=[0,1,2,3] from rfl]
 obtain ⟨x0,x1,x2,x3⟩:=x
 obtain ⟨y0,y1,y2,y3⟩:=y
 rw [zCr w (a:=x0) (b:=y0) rfl rfl,zCr w (a:=x1) (b:=y1) rfl rfl,zCr w (a:=x2) (b:=y2) rfl rfl,zCr w (a:=x3) (b:=y3) rfl rfl]
 by_cases h0:x0=y0<;>by_cases h1:x1=y1<;>by_cases h2:x2=y2<;>by_cases h3:x3=y3<;>simp [h0,h1,h2,h3,go_sem,Op.eqItems]
def zu (l:zA) (i:Nat):Nat:=((l[i]?).getD 0).toNat
def hv (l:zA) (n j:Nat):UInt8:=UInt8.ofNat (16*digV (zu l (n+1+2*j))+digV (zu l (n+2+2*j)))
def okAt (l:zA) (n j:Nat):Bool:=yD (zu l (n+1+2*j))&&yD (zu l (n+2+2*j))
def zAL (l:zA) (n k:Nat):Sum4:=(if 0 < k then hv l n 0 else 0,if 1 < k then hv l n 1 else 0,if 2 < k then hv l n 2 else 0,if 3 < k then hv l n 3 else 0)
def zCs (l:zA) (w:World) (e:Ending) (w':World):Prop:=
 ∃t b,e=.returned (.tuple #[vs (bs t),.bool b])∧(b=true→ye l=some t)∧(b=false→ye l=none)∧t.length≤l.length∧Below w.heap.size w w'
theorem zKS (l:zA) (hl:l.length≤1099511627776) (w:World) (h:l.length < 9∨80 < l.length) :
 Calls Tryz.prog 36 #[vs (bs l)] w (zCs l w):=by
 have hsz:(bs l).size=l.length:=by simp [bs,ByteArray.size]
 have HO:Hid (ye l=none):=show _=_ by unfold ye;rw [if_pos h]
 by_cases h8:80 < l.length
 ·have a1:decide ((80:Int) < (l.length:Int))=true:=by simp;omega
  have a2:decide (80 < l.length)=true:=by simp;omega
  clear h
  go_enter Tryz.func36,Tryz.ntmps36
  go_wp2_with fail
  go_ret2
  exact ⟨[],false,rfl,by simp,fun _=>HO.out,Nat.zero_le _,Below.refl _ _⟩
 ·have a1:decide ((80:Int) < (l.length:Int))=false:=by simp;omega
  have a2:decide (80 < l.length)=false:=by simp;omega
  have a3:decide ((l.length:Int) - 9 < 0)=true:=by simp;omega
  have a4:decide ((l.length:Int) < 9)=true:=by simp;omega
  have a5:decide (l.length < 9)=true:=by simp;omega
  clear h
  go_enter Tryz.func36,Tryz.ntmps36
  go_wp2_with fail
  go_ret2
  exact ⟨[],false,rfl,by simp,fun _=>HO.out,Nat.zero_le _,Below.refl _ _⟩
theorem zCt {l:zA} {i:Nat} (h:i < l.length) {hh:i < (bs l).size}:((bs l)[i]'hh).toNat=zu l i:=by
 have h1:l[i]?=some l[i]:=List.getElem?_eq_getElem h
 rw [zAl h1];simp [zu,h1]
theorem zGT (l:zA) (i:Nat):zu l i < 256:=UInt8.toNat_lt _
theorem zGU (p:UInt8) (c:Nat) (hc:c < 16):p=hexD (UInt8.ofNat c)↔yD p.toNat=true∧digV p.toNat=c:=by
 have h:∀p:Fin 256,∀c:Fin 16,(UInt8.ofNat p.val=hexD (UInt8.ofNat c.val)↔yD p.val=true∧digV p.val=c.val):=by decide +kernel
 have:=h ⟨p.toNat,p.toNat_lt⟩ ⟨c,hc⟩
 simpa using this
theorem zCu (p q s:UInt8):[p,q]=hex2 s↔(yD p.toNat&&yD q.toNat)=true∧UInt8.ofNat (16*digV p.toNat+digV q.toNat)=s:=by
 have hs:=s.toNat_lt
 have e1:s / 16=UInt8.ofNat (s.toNat / 16):=by apply UInt8.toNat_inj.1;simp [UInt8.toNat_div];omega
 have e2:s % 16=UInt8.ofNat (s.toNat % 16):=by apply UInt8.toNat_inj.1;simp [UInt8.toNat_mod];omega
 simp only [hex2,List.cons.injEq,and_true,e1,e2,zGU p (s.toNat / 16) (by omega),zGU q (s.toNat % 16) (by omega),Bool.and_eq_true]
 constructor
 ·rintro ⟨⟨h1,h2⟩,h3,h4⟩
  refine ⟨⟨h1,h3⟩,?_⟩
  rw [h2,h4]
  apply UInt8.toNat_inj.1;simp;omega
 ·rintro ⟨⟨h1,h3⟩,h⟩
  have hp:=zCq p.toNat
  have hq:=zCq q.toNat
  have:s.toNat=16*digV p.toNat+digV q.toNat:=by rw [←h];simp;omega
  exact ⟨⟨h1,by omega⟩,h3,by omega⟩
theorem zKT {l:zA} {n:Nat} (hn:l.length=n+9):∃b0 b1 b2 b3 b4 b5 b6 b7 b8:UInt8,l.drop n=[b0,b1,b2,b3,b4,b5,b6,b7,b8]:=by
 have h:(l.drop n).length=9:=by simp;omega
 match l.drop n,h with
 | [b0,b1,b2,b3,b4,b5,b6,b7,b8],_=>exact ⟨b0,b1,b2,b3,b4,b5,b6,b7,b8,rfl⟩
theorem zKU {l:zA} {n i:Nat} {m:zA} (h:l.drop n=m):zu l (n+i)=zu m i:=by
 subst h;simp [zu]
theorem zED {l:zA} {n:Nat} (hn:l.length=n+9) (h80:l.length≤80) :
 ye l=if zu l n=32∧(okAt l n 0&&okAt l n 1&&okAt l n 2&&okAt l n 3)=true∧zAL l n 4=zt (l.take n) then some (l.take n) else none:=by
 obtain ⟨b0,b1,b2,b3,b4,b5,b6,b7,b8,hd⟩:=zKT hn
 have e:l.length - 9=n:=by omega
 unfold ye
 rw [if_neg (by omega),e]
 have hl:l=l.take n++[b0,b1,b2,b3,b4,b5,b6,b7,b8]:=by rw [←hd];simp
 have hB:∀i,zu l (n+i)=zu [b0,b1,b2,b3,b4,b5,b6,b7,b8] i:=fun i=>zKU hd
 have a0:zu l n=b0.toNat:=hB 0
 have ok0:okAt l n 0=(yD b1.toNat&&yD b2.toNat):=by unfold okAt;rw [show n+1+2*0=n+1 by omega,show n+2+2*0=n+2 by omega,hB,hB];rfl
 have ok1:okAt l n 1=(yD b3.toNat&&yD b4.toNat):=by unfold okAt;rw [show n+1+2*1=n+3 by omega,show n+2+2*1=n+4 by omega,hB,hB];rfl
 have ok2:okAt l n 2=(yD b5.toNat&&yD b6.toNat):=by unfold okAt;rw [show n+1+2*2=n+5 by omega,show n+2+2*2=n+6 by omega,hB,hB];rfl
 have ok3:okAt l n 3=(yD b7.toNat&&yD b8.toNat):=by unfold okAt;rw [show n+1+2*3=n+7 by omega,show n+2+2*3=n+8 by omega,hB,hB];rfl
 have v0:hv l n 0=UInt8.ofNat (16*digV b1.toNat+digV b2.toNat):=by unfold hv;rw [show n+1+2*0=n+1 by omega,show n+2+2*0=n+2 by omega,hB,hB];rfl
 have v1:hv l n 1=UInt8.ofNat (16*digV b3.toNat+digV b4.toNat):=by unfold hv;rw [show n+1+2*1=n+3 by omega,show n+2+2*1=n+4 by omega,hB,hB];rfl
 have v2:hv l n 2=UInt8.ofNat (16*digV b5.toNat+digV b6.toNat):=by unfold hv;rw [show n+1+2*2=n+5 by omega,show n+2+2*2=n+6 by omega,hB,hB];rfl
 have v3:hv l n 3=UInt8.ofNat (16*digV b7.toNat+digV b8.toNat):=by unfold hv;rw [show n+1+2*3=n+7 by omega,show n+2+2*3=n+8 by omega,hB,hB];rfl
 have hp:zAL l n 4=(hv l n 0,hv l n 1,hv l n 2,hv l n 3):=rfl
 have key:zS (l.take n)=l↔(zu l n=32∧(okAt l n 0&&okAt l n 1&&okAt l n 2&&okAt l n 3)=true∧zAL l n 4=zt (l.take n)):=by
  rw [hp,v0,v1,v2,v3,ok0,ok1,ok2,ok3,a0]
  have q0:=zCu b1 b2 (zt (l.take n)).1
  have q1:=zCu b3 b4 (zt (l.take n)).2.1
  have q2:=zCu b5 b6 (zt (l.take n)).2.2.1
  have q3:=zCu b7 b8 (zt (l.take n)).2.2.2
  have hb:b0.toNat=32↔b0=32:=⟨fun h=>UInt8.toNat_inj.1 h,fun h=>by rw [h];rfl⟩
  have e0:zS (l.take n)=l↔(b0=32∧[b1,b2]=hex2 (zt (l.take n)).1∧[b3,b4]=hex2 (zt (l.take n)).2.1∧[b5,b6]=hex2 (zt (l.take n)).2.2.1∧[b7,b8]=hex2 (zt (l.take n)).2.2.2):=by
   have:zS (l.take n)=l↔32::zBJ (l.take n)=[b0,b1,b2,b3,b4,b5,b6,b7,b8]:=by
    unfold zS
    constructor
    ·intro h
     exact List.append_cancel_left (h.trans hl)
    ·intro h
     rw [h];exact hl.symm
   rw [this]
   simp only [zBJ,hex2,List.cons_append,List.nil_append,List.cons.injEq,and_true]
   constructor
   ·rintro ⟨h0,h1,h2,h3,h4,h5,h6,h7,h8⟩
    exact ⟨h0.symm,⟨h1.symm,h2.symm⟩,⟨h3.symm,h4.symm⟩,⟨h5.symm,h6.symm⟩,h7.symm,h8.symm⟩
   ·rintro ⟨h0,⟨h1,h2⟩,⟨h3,h4⟩,⟨h5,h6⟩,h7,h8⟩
    exact ⟨h0.symm,h1.symm,h2.symm,h3.symm,h4.symm,h5.symm,h6.symm,h7.symm,h8.symm⟩
  rw [e0,q0,q1,q2,q3,hb]
  obtain ⟨s0,s1,s2,s3⟩:=zt (l.take n)
  simp only [Prod.mk.injEq,Bool.and_eq_true]
  constructor
  ·rintro ⟨h0,⟨h1,h2⟩,⟨h3,h4⟩,⟨h5,h6⟩,h7,h8⟩
   exact ⟨h0,⟨⟨⟨h1,h3⟩,h5⟩,h7⟩,h2,h4,h6,h8⟩
  ·rintro ⟨h0,⟨⟨⟨h1,h3⟩,h5⟩,h7⟩,h2,h4,h6,h8⟩
   exact ⟨h0,⟨h1,h2⟩,⟨h3,h4⟩,⟨h5,h6⟩,h7,h8⟩
 by_cases h:zS (l.take n)=l
 ·rw [if_pos h,if_pos (key.1 h)]
 ·rw [if_neg h,if_neg (fun e=>h (key.2 e))]
theorem zKV {l:zA} {n:Nat} (hn:l.length=n+9) (h80:l.length≤80) (h:zu l n≠32):ye l=none:=by
 rw [zED hn h80,if_neg (fun e=>h e.1)]
theorem zGV {l:zA} {n:Nat} (hn:l.length=n+9) (h80:l.length≤80) {k:Nat} (hk:k < 4) (h:okAt l n k=false):ye l=none:=by
 rw [zED hn h80,if_neg (fun e=>by
  have h2:=e.2.1
  simp only [Bool.and_eq_true] at h2
  obtain ⟨⟨⟨h3,h4⟩,h5⟩,h6⟩:=h2
  have:okAt l n k=true:=by
   match k,hk with
   | 0,_=>exact h3
   | 1,_=>exact h4
   | 2,_=>exact h5
   | 3,_=>exact h6
  rw [h] at this;cases this)]
theorem zGW {l:zA} {n:Nat} (hn:l.length=n+9) (h80:l.length≤80) (hb:zu l n=32) (h:∀k,k < 4→okAt l n k=true) :
 ye l=if zAL l n 4=zt (l.take n) then some (l.take n) else none:=by
 rw [zED hn h80]
 have hk:(okAt l n 0&&okAt l n 1&&okAt l n 2&&okAt l n 3)=true:=by rw [h 0 (by omega),h 1 (by omega),h 2 (by omega),h 3 (by omega)];rfl
 by_cases e:zAL l n 4=zt (l.take n)
 ·rw [if_pos ⟨hb,hk,e⟩,if_pos e]
 ·rw [if_neg (fun x=>e x.2.2),if_neg e]
theorem zKW (l:zA) (n:Nat) (hn:l.length=n+9) (h80:l.length≤80) (hb:zu l n≠32) (w:World) :
 Calls Tryz.prog 36 #[vs (bs l)] w (zCs l w):=by
 have HO:=zh (zKV hn h80 hb)
 have hsz:(bs l).size=n+9:=by simp [bs,ByteArray.size,hn]
 have a1:decide (80 < n+9)=false:=by simp;omega
 have a3:decide ((n:Int) < 0)=false:=by simp
 have a1':decide ((80:Int) < (n:Int)+9)=false:=by simp;omega
 have hn0:(0:Int)≤(n:Int):=by omega
 have hn1:(n:Int) < (n:Int)+9:=by omega
 have hs:((n+9:Nat):Int) - 9=(n:Int):=by omega
 have hs2:((n+9:Nat):Int)=(n:Int)+9:=by omega
 have ha1:((((bs l)[n]'(by omega)).toNat:Int) != 32)=true:=by rw [zCt (by omega)];simp;omega
 clear hb
 go_enter Tryz.func36,Tryz.ntmps36
 go_wp2_with fail
 go_ret2
 exact ⟨[],false,rfl,by simp,fun _=>HO.out,Nat.zero_le _,Below.refl _ _⟩
theorem zKX {a b:Nat} (ha:a < 16) (hb:b < 16):bits BinOp.or IntKind.u8 ((a:Int)*16) (b:Int)=((16*a+b:Nat):Int):=by
 have h:∀a:Nat,a < 16→∀b:Nat,b < 16→bits BinOp.or IntKind.u8 ((a:Int)*16) (b:Int)=((16*a+b:Nat):Int):=by decide +kernel
 exact h a ha b hb
theorem zKY {w:World} {B:Nat} {l:zA} {n k:Nat} (h:xI w B (zAL l n k)) (hk:k < 4) (z:UInt8) (hz:hv l n k=z):xI (w.setCell ⟨B,k,none⟩ (.int .u8 z.toNat)) B (zAL l n (k+1)):=by
 subst hz
 refine (zO w h).trans ?_
 match k,hk with
 | 0,_=>rfl
 | 1,_=>rfl
 | 2,_=>rfl
 | 3,_=>rfl
theorem zKZ (l:zA) (n:Nat) (hn:l.length=n+9) (h80:l.length≤80) (hb:zu l n=32) (w:World) :
 Calls Tryz.prog 36 #[vs (bs l)] w (zCs l w):=by
 have HB:=zh hb
 have HN:=zh (And.intro hn h80)
 have hsz:(bs l).size=n+9:=by simp [bs,ByteArray.size,hn]
 have a1:decide (80 < n+9)=false:=by simp;omega
 have a3:decide ((n:Int) < 0)=false:=by simp
 have a1':decide ((80:Int) < (n:Int)+9)=false:=by simp;omega
 have hn0:(0:Int)≤(n:Int):=by omega
 have hn1:(n:Int) < (n:Int)+9:=by omega
 have hs:((n+9:Nat):Int) - 9=(n:Int):=by omega
 have hs2:((n+9:Nat):Int)=(n:Int)+9:=by omega
 have ha1:((((bs l)[n]'(by omega)).toNat:Int) != 32)=false:=by rw [zCt (by omega)];simp;omega
 have hn72:n+9≤80:=by omega
 clear hb hn h80
 go_enter Tryz.func36,Tryz.ntmps36
 go_wp2_with fail
 go_loopw [6,7,8,9,10,27] (fun _ _ _ _ _ s27 wr=>∃k:Nat,s27=.int .i64 k∧k≤4∧Hid (xI wr w.heap.size (zAL l n k))∧Hid (∀j,j < k→okAt l n j=true)∧Hid (Below w.heap.size w wr)) (fun _ _ _ _ _ s27 _=>4 - (intOf s27).toNat)
 case atStart=>exact ⟨0,by go_num,Nat.zero_le _,zP w,fun j hj=>by omega,(Below.refl _ _).alloc (Nat.le_refl _) _⟩
 case round =>
  obtain ⟨k,rfl,hk,Hs,Hok,Hbel⟩:=hrel
  by_cases hk4:k < 4
  ·have hlt:decide ((k:Int) < 4)=true:=by simp;omega
   have hlt2:decide (k < 4)=true:=by simp;omega
   have hk0:(0:Int)≤(k:Int):=by omega
   have hk1:(k:Int) < 4:=by omega
   obtain ⟨p,hp⟩:∃p,p=n+1+2*k:=⟨_,rfl⟩
   obtain ⟨q,hq⟩:∃q,q=n+2+2*k:=⟨_,rfl⟩
   have hpi:(n:Int)+1+2*(k:Int)=(p:Int):=by omega
   have hqi:(n:Int)+2+2*(k:Int)=(q:Int):=by omega
   have hp0:(0:Int)≤(p:Int):=by omega
   have hp1:(p:Int) < (n:Int)+9:=by omega
   have hq0:(0:Int)≤(q:Int):=by omega
   have hq1:(q:Int) < (n:Int)+9:=by omega
   have hpl:p < n+9:=by omega
   have hql:q < n+9:=by omega
   have Hp:=zh hp
   have Hq:=zh hq
   clear hp hq
   have hbp:((bs l)[p]'(by omega)).toNat=zu l p:=zCt (by have:=HN.out;omega)
   have hbq:((bs l)[q]'(by omega)).toNat=zu l q:=zCt (by have:=HN.out;omega)
   obtain ⟨v1,Hv1⟩:∃v,Hid (digV (zu l p)=v):=⟨_,rfl⟩
   obtain ⟨v2,Hv2⟩:∃v,Hid (digV (zu l q)=v):=⟨_,rfl⟩
   obtain ⟨o1,Ho1⟩:∃v,Hid (yD (zu l p)=v):=⟨_,rfl⟩
   obtain ⟨o2,Ho2⟩:∃v,Hid (yD (zu l q)=v):=⟨_,rfl⟩
   have hv1:v1 < 16:=by have:=zCq (zu l p);rw [Hv1.out] at this;exact this
   have hv2:v2 < 16:=by have:=zCq (zu l q);rw [Hv2.out] at this;exact this
   have C1:=zh (fun w=>zGQ (zu l p) (zGT l p) w)
   have C2:=zh (fun w=>zGQ (zu l q) (zGT l q) w)
   rw [Hv1.out,Ho1.out] at C1
   rw [Hv2.out,Ho2.out] at C2
   go_wp2_with fail
   refine (C1.out _).mono ?_
   rintro e w1 ⟨rfl,rfl⟩
   go_wp2_with fail
   refine (C2.out _).mono ?_
   rintro e w1 ⟨rfl,rfl⟩
   cases o1 with
   | false =>
     go_wp2_with fail
     go_ret2
     exact ⟨[],false,rfl,by simp,fun _=>zGV HN.out.1 HN.out.2 hk4 (by unfold okAt;rw [←Hp.out,Ho1.out];rfl),Nat.zero_le _,Hbel.out⟩
   | true =>
     cases o2 with
     | false =>
       go_wp2_with fail
       go_ret2
       exact ⟨[],false,rfl,by simp,fun _=>zGV HN.out.1 HN.out.2 hk4 (by unfold okAt;rw [←Hq.out,Ho2.out];simp),Nat.zero_le _,Hbel.out⟩
     | true =>
       have ck:=Hs.out.cell (j:=k) hk4
       unfold zr at ck
       have hfz:=zK (off:=k) Hs.out
       obtain ⟨z,hz⟩:∃z:UInt8,z.toNat=16*v1+v2:=⟨UInt8.ofNat (16*v1+v2),by simp;omega⟩
       have hor:bits BinOp.or IntKind.u8 ((v1:Int)*16) (v2:Int)=(z.toNat:Int):=by rw [hz];exact zKX hv1 hv2
       have Hz:=zh hz
       clear hz
       have Hn:Hid (xI (wr.setCell ⟨w.heap.size,k,none⟩ (.int .u8 z.toNat)) w.heap.size (zAL l n (k+1))):=zKY Hs.out hk4 z (by
        unfold hv;rw [←Hp.out,←Hq.out,Hv1.out,Hv2.out,←Hz.out];simp)
       have Hok2:Hid (∀j,j < k+1→okAt l n j=true):=fun j hj=>by
        by_cases e:j=k
        ·subst e;unfold okAt;rw [←Hp.out,←Hq.out,Ho1.out,Ho2.out];rfl
        ·exact Hok.out j (by omega)
       go_wp2_with fail
       go_roundw
       case rel=>exact ⟨k+1,by go_num,by omega,Hn.out,Hok2.out,Hbel.out.setCell (Nat.le_refl _) _⟩
       case measure=>simp [intOf];omega
  ·obtain rfl:k=4:=by omega
   have g0:=Hs.out.cell (j:=0) (by omega)
   have g1:=Hs.out.cell (j:=1) (by omega)
   have g2:=Hs.out.cell (j:=2) (by omega)
   have g3:=Hs.out.cell (j:=3) (by omega)
   have htk:(bs l).extract 0 n=bs (l.take n):=ByteArray.ext (by simp [bs])
   have C1:=zh (fun w=>zGP (l.take n) (by have:=HN.out;simp;omega) w)
   have hslt:=zD _ Hs.out
   have hnn:(n:Int)≤(n:Int)+9:=by omega
   unfold zr at g0 g1 g2 g3
   obtain ⟨x,hx⟩:∃x,x=zAL l n 4:=⟨_,rfl⟩
   rw [←hx] at g0 g1 g2 g3
   have Hx:=zh hx
   clear hx
   obtain ⟨x0,x1,x2,x3⟩:=x
   simp only [sget] at g0 g1 g2 g3
   obtain ⟨y,hy⟩:∃y,zt (l.take n)=y:=⟨_,rfl⟩
   rw [hy] at C1
   have Hy:=zh hy
   clear hy
   obtain ⟨y0,y1,y2,y3⟩:=y
   obtain ⟨eb,Heb⟩:∃b,Hid (decide ((x0,x1,x2,x3)=(y0,y1,y2,y3))=b):=⟨_,rfl⟩
   have hE:∀w,(Op.equalIn 10000 129 (.agg #[.int .u8 x0.toNat,.int .u8 x1.toNat,.int .u8 x2.toNat,.int .u8 x3.toNat]) (.agg (zAa (y0,y1,y2,y3)))).run Tryz.prog w=.ok eb w:=fun w=>by
    rw [←Heb.out];exact zKR (x0,x1,x2,x3) (y0,y1,y2,y3) w
   go_wp2_with fail
   go_region_held3 (fun w'=>w'.cell? ⟨w.heap.size,0,none⟩=some (.int .u8 x0.toNat)∧w'.cell? ⟨w.heap.size,1,none⟩=some (.int .u8 x1.toNat)∧w'.cell? ⟨w.heap.size,2,none⟩=some (.int .u8 x2.toNat)∧w'.cell? ⟨w.heap.size,3,none⟩=some (.int .u8 x3.toNat)) (go_keep)
    (first | (go_at_call 58;refine (C1.out _).mono ?_;rintro e w' ⟨rfl,hb⟩;have hc:=fun o=>hb.cell (p:=⟨w.heap.size,o,none⟩) (by simpa using hslt);have Hbb:=zh hb;clear hb))
   go_wp2_with fail
   go_ret2
   refine ⟨l.take n,eb,rfl,?_,?_,by rw [List.length_take];exact Nat.min_le_right _ _,(zAK Hbel.out 1).trans (Hbb.out.mono (by simpa using Hbel.out.size))⟩
   ·intro h
    rw [zGW HN.out.1 HN.out.2 HB.out (fun j hj=>Hok.out j hj),if_pos]
    have:=Heb.out;rw [h] at this;rw [←Hx.out,Hy.out];simpa using this
   ·intro h
    rw [zGW HN.out.1 HN.out.2 HB.out (fun j hj=>Hok.out j hj),if_neg]
    have:=Heb.out;rw [h] at this;rw [←Hx.out,Hy.out];simpa using this
theorem zKa (l:zA) (hl:l.length≤1099511627776) (w:World):Calls Tryz.prog 36 #[vs (bs l)] w (zCs l w):=by
 by_cases h:l.length < 9∨80 < l.length
 ·exact zKS l hl w h
 ·by_cases hb:zu l (l.length - 9)=32
  ·exact zKZ l (l.length - 9) (by omega) (by omega) hb w
  ·exact zKW l (l.length - 9) (by omega) (by omega) hb w
theorem zEE (x:UInt8):∀(l rest:zA),zL rest (l++[x])=if x=10 then ((zL rest l).1++[(zL rest l).2],[]) else ((zL rest l).1,if (zL rest l).2.length≤80 then (zL rest l).2++[x] else (zL rest l).2)
 | [],rest=>by
   simp only [List.nil_append,zL]
   split<;>rfl
 | a::l,rest=>by
   simp only [List.cons_append,zL]
   by_cases h:a=10
   ·simp only [h,if_true,zEE x l []]
    split<;>rfl
   ·simp only [h,if_false,zEE x l _]
theorem zEF:∀(l rest:zA),rest.length≤81→(zL rest l).2.length≤81
 | [],rest,h=>h
 | a::l,rest,h=>by
   simp only [zL]
   split
   ·exact zEF l [] (by simp)
   ·refine zEF l _ ?_
    split
    ·simp;omega
    ·exact h
theorem zEG:∀(l rest:zA) (k:Nat),(zL rest (l.take k)).1.length≤(zL rest l).1.length
 | [],rest,k=>by simp
 | a::l,rest,0=>by simp [zL]
 | a::l,rest,k+1=>by
   simp only [List.take_succ_cons,zL]
   split
   ·have:=zEG l [] k;simp;exact this
   ·exact zEG l _ k
theorem zKb {l:zA} {k:Nat} {x:UInt8} (h:l[k]?=some x) (rest:zA):zL rest (l.take (k+1))=if x=10 then ((zL rest (l.take k)).1++[(zL rest (l.take k)).2],[]) else ((zL rest (l.take k)).1,if (zL rest (l.take k)).2.length≤80 then (zL rest (l.take k)).2++[x] else (zL rest (l.take k)).2):=by
 rw [List.take_add_one,h]
 exact zEE x _ _
theorem zKc {w:World} {own:Nat→Prop} {v:Value} {l:zA} (h:SlAt w 5 1 own v l.length (l.map zr)) :
 (convert 50 9 v).run Tryz.prog w=.ok (vs (bs l)) w:=by
 rcases h with ⟨rfl,h1,h2⟩ | ⟨b,off,cap,cs,rfl,h2,h3,h4,h5,h6,h7,h8⟩
 ·have:l=[]:=List.eq_nil_of_length_eq_zero h1
  subst this
  rw [run_convert_bytes_string w _ _ 5 none _ 0 Tryz.underlying50 Tryz.underlying5 Tryz.underlying9]
  simp [Conv.bytesToString,go_sem,bs]
  rfl
 ·exact run_convert_bytes_back w _ _ 5 ⟨b,off,none⟩ cap l Tryz.underlying50 Tryz.underlying5 Tryz.underlying9 (fun j hj=>by
   rw [Addr.add_lit]
   exact zB h3 (h8 j _ (by simp [List.getElem?_eq_getElem hj,zr])))
theorem SlAt.cut0 {w:World} {T:TypeId} {sz:Nat} {own:Nat→Prop} {a:Option Addr} {n cap:Nat} {xs:List Value} (h:SlAt w T sz own (.slice a n cap) n xs):SlAt w T sz own (.slice a 0 cap) 0 []:=by
 rcases h with ⟨h,h1,h2⟩ | ⟨b,off,cap',cs,h1,h2,h3,h4,h5,h6,h7,h8⟩
 ·injection h with e1 e2 e3
  subst e1;subst e3
  exact .inl ⟨rfl,rfl,rfl⟩
 ·injection h1 with e1 e2 e3
  subst e1;subst e3
  exact .inr ⟨b,off,cap,cs,rfl,h2,h3,Nat.zero_le _,h5,h6,by simp,by simp⟩
abbrev zBT (v:Value) (d gb:Bool):Obj:=.cells #[v,.bool d,.bool gb] 87 (0,0)
def zEH (C:Nat) (own:Nat→Prop) (d gb:Bool) (rest l:zA) (w:World) (e:Ending) (w':World):Prop:=
 ∃(sl v:Value) (R O:Nat→Prop),e=.returned sl∧w'.heap[C]?=some (zBT v d gb)∧(∀b,R b→own b∨w.heap.size≤b)∧(∀b,O b→w.heap.size≤b)∧(∀b,R b→¬O b) ∧
  SlAt w' 5 1 R v (zL rest l).2.length ((zL rest l).2.map zr)∧SlAt w' 9 1 O sl (zL rest l).1.length ((zL rest l).1.map fun x=>vs (bs x))∧Fr (fun b=>b=C∨own b) w w'
theorem zKd {w:World} {C:Nat} {own:Nat→Prop} {v:Value} {d gb:Bool} {rest l:zA} (hC:w.heap[C]?=some (zBT v d gb)) (hoC:¬own C) (hv:SlAt w 5 1 own v rest.length (rest.map zr))
 (hr:rest.length≤81) (hl:l.length≤140737488355328) (hn:(zL rest l).1.length≤1099511627776) :
 Calls Tryz.prog 35 #[vp C,vs (bs l)] w (zEH C own d gb rest l w):=by
 have hsz:(bs l).size=l.length:=by simp [bs,ByteArray.size]
 have HC:=zh hC
 have HoC:=zh hoC
 have Hv:=zh hv
 have Hn:=zh hn
 have hCl:=zD w hC
 clear hC hoC hv hn
 go_enter Tryz.func35,Tryz.ntmps35
 go_wp2_with fail
 go_loopw [5,9] (fun s5 s9 wr=>∃(k:Nat) (u:Value) (R O:Nat→Prop),s9=.int .i64 k∧k≤l.length∧Hid (wr.heap[C]?=some (zBT u d gb))∧Hid (∀b,R b→own b∨w.heap.size≤b)∧Hid (∀b,O b→w.heap.size≤b)∧Hid (∀b,R b→¬O b) ∧
  Hid (SlAt wr 5 1 R u (zL rest (l.take k)).2.length ((zL rest (l.take k)).2.map zr))∧Hid (SlAt wr 9 1 O s5 (zL rest (l.take k)).1.length ((zL rest (l.take k)).1.map fun x=>vs (bs x)))∧Hid (Fr (fun b=>b=C∨own b) w wr)) (fun _ s9 _=>l.length - (intOf s9).toNat)
 case atStart=>exact ⟨0,v,own,fun _=>False,by go_num,Nat.zero_le _,HC.out,fun b h=>.inl h,fun b h=>h.elim,fun b _ h=>h,Hv.out,SlAt.nil,Fr.refl _ _⟩
 case round =>
  obtain ⟨k,u,R,O,rfl,hk,Hc,HR,HO,HRO,Hu,Hs,Hf⟩:=hrel
  by_cases hkl:k < l.length
  ·have hlt:decide ((k:Int) < (l.length:Int))=true:=by simp;exact hkl
   have hk0:(0:Int)≤(k:Int):=by omega
   have hk1:(k:Int) < (l.length:Int):=by omega
   obtain ⟨x,hx⟩:∃x,l[k]?=some x:=⟨_,List.getElem?_eq_getElem hkl⟩
   have hxb:(bs l)[k]'(by omega)=x:=zAl hx
   have Hstep:=zh (zKb hx rest)
   have hp1:=Nat.le_trans (zEG l rest k) Hn.out
   have hp2:=zEF (l.take k) rest hr
   generalize zL rest (l.take k)=p at *
   obtain ⟨outs,rs⟩:=p
   simp only at hp1 hp2
   have hol:outs.length≤1099511627776:=hp1
   have cC:wr.cell? ⟨C,0,none⟩=some u:=zB Hc.out rfl
   have fC:wr.frozen? ⟨C,0,none⟩=false:=zK Hc.out
   have Hx:=zh hx
   have HRC:=zh (fun b hb=>show b≠C from fun e=>by
    subst e
    rcases HR.out b hb with h | h
    ·exact HoC.out h
    ·omega)
   clear hx hp1
   obtain ⟨ua,uc,hu1,hu2,hu3⟩:=Hu.out.form'
   subst hu1
   unfold maxLen at hu3
   have HB:=zh (show outs.length+1≤maxLen∧(outs.length+1)*16≤140737488355328 by unfold maxLen;omega)
   have HB2:=zh (show rs.length+1≤maxLen∧(rs.length+1)*1≤140737488355328 by unfold maxLen;omega)
   have hcv:=zKc Hu.out
   by_cases h10:x=10
   ·subst h10
    have HSA:=zh (Hs.out.of_blk (w':=wr.alloc (.cells #[vs (bs rs)] 9)) (fun b _ hl=>zM wr hl) (fun b hb _=>hb))
    have HF3:=zh (fun (g:Nat) (w3:World) (hg:O g∨g=(wr.alloc (.cells #[vs (bs rs)] 9)).heap.size) (hf:Fr (fun b=>b=g) (wr.alloc (.cells #[vs (bs rs)] 9)) w3)=>show
     w.heap.size≤g∧w3.heap[C]?=some (zBT (.slice ua rs.length uc) d gb)∧Fr (fun b=>b=C∨own b) w w3∧SlAt w3 5 1 (fun b=>R b∧b≠g) (.slice ua rs.length uc) rs.length (rs.map zr) from by
     have hsz:w.heap.size≤wr.heap.size:=Hf.out.size
     have hg2:w.heap.size≤g:=by
      rcases hg with h | h
      ·exact HO.out g h
      ·rw [h];simp;omega
     have hRlt:∀b,R b→b < (wr.alloc (.cells #[vs (bs rs)] 9)).heap.size→b≠g→w3.heap[b]?=(wr.alloc (.cells #[vs (bs rs)] 9)).heap[b]?:=fun b hb hl hne=>hf.block b hl hne
     have hRg:∀b,R b→b < wr.heap.size→b≠g:=fun b hb hl e=>by
      subst e
      rcases hg with h | h
      ·exact HRO.out b hb h
      ·simp at h;omega
     refine ⟨hg2,?_,?_,?_⟩
     ·rw [hf.block C (by simp;omega) (by omega)];exact (zM _ (by omega)).trans Hc.out
     ·exact (Hf.out.alloc _).trans hf (fun b hb=>.inr (by rw [hb];exact hg2))
     ·exact Hu.out.of_blk (fun b hb hl=>(hRlt b hb (by simp;omega) (hRg b hb hl)).trans (zM _ hl)) (fun b hb hl=>⟨hb,hRg b hb hl⟩))
    go_wp2_with (at_builtin;refine xU _ rfl _ _ _ _ rfl zAi rfl HSA.out rfl (yn wr Tryz.underlying47 [vs (bs rs)] (by rfl) (by simp [Value.oneCell']) wr.heap.size (by simp)) (by omega) HB.out.1 HB.out.2 ?_;intro gg goff gcap w3 hg3 hs3 hf3 hlt3 _ _;have HS3:=zh hs3;obtain ⟨k1,k3,k4,k5⟩:=HF3.out gg w3 hg3 hf3;have K1:=zh k1;have K3:=zh k3;have K4:=zh k4;have K5:=zh k5;have c3:w3.cell? ⟨C,0,none⟩=some (.slice ua rs.length uc):=zB k3 rfl;have f3:w3.frozen? ⟨C,0,none⟩=false:=zK k3;clear hs3 hf3 hg3 k1 k3 k4 k5)
    go_roundw
    case rel =>
     refine ⟨k+1,.slice ua 0 uc,(fun b=>R b∧b≠gg),(fun b=>b=gg),by go_num,by omega,zO w3 K3.out,(fun b hb=>HR.out b hb.1),(fun b hb=>by rw [hb];exact K1.out),(fun b hb e=>hb.2 e),?_,?_,K4.out.setCell _ _ (.inl (.inl rfl))⟩
     ·rw [Hstep.out]
      exact K5.out.cut0.of_blk (fun b hb _=>zG _ (HRC.out b hb.1)) (fun b hb _=>hb)
     ·rw [Hstep.out]
      have:=HS3.out
      simp only [if_true,List.map_append,List.map_cons,List.map_nil,List.length_append,List.length_cons,List.length_nil]
      exact HS3.out.of_blk (fun b hb _=>zG _ (by show b≠C;rw [hb];have:=K1.out;omega)) (fun b hb _=>hb)
    case measure=>simp [intOf];omega
   ·have hxe:((x.toNat:Int)==10)=false:=by
     refine beq_eq_false_iff_ne.2 (fun h=>h10 (UInt8.toNat_inj.1 ?_))
     exact Int.ofNat.inj h
    rw [if_neg h10] at Hstep
    have Hx10:=zh h10
    clear h10
    by_cases h80:rs.length≤80
    ·have a1:decide ((rs.length:Int)≤80)=true:=by simp;omega
     have a2:decide (rs.length≤80)=true:=by simp;omega
     rw [if_pos h80] at Hstep
     have HSA:=zh ((Hu.out.of_blk (w':=wr.drew) (fun _ _ _=>rfl) (fun _ h _=>h)).of_blk (w':=wr.drew.alloc (.cells #[.int .u8 x.toNat] 5)) (fun b _ hl=>zM _ hl) (fun b hb _=>hb))
     have HF3:=zh (fun (g:Nat) (w3:World) (hg:R g∨g=(wr.drew.alloc (.cells #[.int .u8 x.toNat] 5)).heap.size) (hf:Fr (fun b=>b=g) (wr.drew.alloc (.cells #[.int .u8 x.toNat] 5)) w3)=>show
      (own g∨w.heap.size≤g)∧g≠C∧w3.heap[C]?=some (zBT (.slice ua rs.length uc) d gb)∧Fr (fun b=>b=C∨own b) w w3∧SlAt w3 9 1 (fun b=>O b∧b≠g) u5 outs.length (outs.map fun x=>vs (bs x)) from by
      have hsz:w.heap.size≤wr.heap.size:=Hf.out.size
      have hg2:own g∨w.heap.size≤g:=by
       rcases hg with h | h
       ·exact HR.out g h
       ·right;rw [h];simp;omega
      have hgC:g≠C:=by
       rcases hg with h | h
       ·exact HRC.out g h
       ·rw [h];simp;omega
      have hOg:∀b,O b→b < wr.heap.size→b≠g:=fun b hb hl e=>by
       subst e
       rcases hg with h | h
       ·exact HRO.out b h hb
       ·simp at h;omega
      refine ⟨hg2,hgC,?_,?_,?_⟩
      ·rw [hf.block C (by simp;omega) (fun e=>hgC e.symm)];exact (zM _ (by simp;omega)).trans Hc.out
      ·refine ((Hf.out.drew).alloc _).trans hf (fun b hb=>?_)
       rw [hb]
       rcases hg2 with h | h
       ·exact .inl (.inr h)
       ·exact .inr h
      ·exact Hs.out.of_blk (fun b hb hl=>(hf.block b (by simp;omega) (hOg b hb hl)).trans (zM wr.drew hl)) (fun b hb hl=>⟨hb,hOg b hb hl⟩))
     go_wp2_with fail
     have fA:(wr.alloc (.cells #[.int .u8 x.toNat] 5)).drew.frozen? ⟨C,0,none⟩=false:=zK (w:=(wr.alloc (.cells #[.int .u8 x.toNat] 5)).drew) ((zM wr (zD wr Hc.out)).trans Hc.out)
     have cA:(wr.alloc (.cells #[.int .u8 x.toNat] 5)).drew.cell? ⟨C,0,none⟩=some (.slice ua rs.length uc):=zB (w:=(wr.alloc (.cells #[.int .u8 x.toNat] 5)).drew) ((zM wr (zD wr Hc.out)).trans Hc.out) rfl
     go_region_law ((refine zBQ _ (by rfl) _ _ _ _ (by rfl) zDl (by rfl) HSA.out (by rfl) (yn wr.drew Tryz.underlying50 [.int .u8 x.toNat] (by rfl) (by simp [Value.oneCell']) wr.heap.size (by simp)) (by omega) HB2.out.1 HB2.out.2 ?_;intro gg goff gcap w3 hg3 hs3 hf3 hlt3 _ _;have HS3:=zh hs3;obtain ⟨k1,k2',k3,k4,k5⟩:=HF3.out gg w3 hg3 hf3;have K1:=zh k1;have K2':=zh k2';have K3:=zh k3;have K4:=zh k4;have K5:=zh k5;have c3:w3.cell? ⟨C,0,none⟩=some (.slice ua rs.length uc):=zB k3 rfl;have f3:w3.frozen? ⟨C,0,none⟩=false:=zK k3;clear hs3 hf3 hg3 k1 k2' k3 k4 k5))
     all_goals
      go_wp2_with fail
      go_roundw
      case rel =>
       refine ⟨k+1,_,(fun b=>b=gg),(fun b=>O b∧b≠gg),by go_num,by omega,zO w3 K3.out,(fun b hb=>by rw [hb];exact K1.out),(fun b hb=>HO.out b hb.1),(fun b hb e=>e.2 hb),?_,?_,K4.out.setCell _ _ (.inl (.inl rfl))⟩
       ·rw [Hstep.out]
        simp only [List.map_append,List.map_cons,List.map_nil,List.length_append,List.length_cons,List.length_nil]
        exact HS3.out.of_blk (fun b hb _=>zG _ (by show b≠C;rw [hb];exact K2'.out)) (fun b hb _=>hb)
       ·rw [Hstep.out]
        exact K5.out.of_blk (fun b hb _=>zG _ (by show b≠C;have:=HO.out b hb.1;omega)) (fun b hb _=>hb)
      case measure=>simp [intOf];omega
    ·have a1:decide ((rs.length:Int)≤80)=false:=by simp;omega
     have a2:decide (rs.length≤80)=false:=by simp;omega
     rw [if_neg h80] at Hstep
     go_wp2_with fail
     go_roundw
     case rel =>
      refine ⟨k+1,_,R,O,by go_num,by omega,Hc.out,HR.out,HO.out,HRO.out,?_,?_,Hf.out⟩
      ·rw [Hstep.out];exact Hu.out
      ·rw [Hstep.out];exact Hs.out
     case measure=>simp [intOf];omega
  ·obtain rfl:k=l.length:=by omega
   have hlt:decide ((l.length:Int) < (l.length:Int))=false:=by simp
   go_wp2_with fail
   go_ret
   rw [List.take_length] at Hu Hs
   exact ⟨_,u,R,O,rfl,Hc.out,HR.out,HO.out,HRO.out,Hu.out,Hs.out,Hf.out⟩
end Go.Proofs.YtaejfobbogahmaaGreatDoor
