/-
  Wire7: texts of their own, joined.
-/
import Derived.Test.YtaejfobbogahmaaGreatDoorMkWire4
import Derived.Test.YtaejfobbogahmaaGreatDoorMkSplit
import Derived.ChangeAgain
import Derived.Lib.OthersKept
set_option maxRecDepth 100000
set_option maxHeartbeats 16000000
set_option linter.all false
namespace Go.Proofs.YtaejfobbogahmaaGreatDoor
open Go Go.RowKit
def Env (G:Nat) (w:World):Prop:=∃W0:World,W0.heap.size≤G∧W0.ShapedOpen Tryz.prog∧U8T W0∧Lib.TabIs Tryz.prog W0 "internal/strconv.uint64pow10" .u64 Lib.pow10Tab∧Below W0.heap.size W0 w
section
variable {G:Nat} {w w':World}
theorem Env.shaped (h:Env G w):w.ShapedOpen Tryz.prog:=by
 obtain ⟨W0,h1,h2,h3,h4,h5⟩:=h
 exact h2.keptBut (h5.frame (fun _=>False)) (fun _ f=>f.elim)
theorem Env.u8 (h:Env G w):U8T w:=by
 obtain ⟨W0,h1,h2,h3,h4,h5⟩:=h
 exact Utf8Tabs_below h3 h5
theorem Env.tab (h:Env G w):Lib.TabIs Tryz.prog w "internal/strconv.uint64pow10" .u64 Lib.pow10Tab:=by
 obtain ⟨W0,h1,h2,h3,h4,h5⟩:=h
 unfold Lib.TabIs World.var? at h4 ⊢
 obtain ⟨g,hg,h6⟩:=Option.bind_eq_some_iff.1 h4
 refine Option.bind_eq_some_iff.2 ⟨g,hg,?_⟩
 have hlt:g < W0.heap.size:=by
  rcases Nat.lt_or_ge g W0.heap.size with h' | h'
  ·exact h'
  ·rw [Array.getElem?_eq_none h'] at h6;cases h6
 rw [h5.block g hlt]
 exact h6
theorem Env.fr {S:Nat→Prop} (h:Env G w) (hf:Fr S w w') (hS:∀b,S b→G≤b):Env G w':=by
 obtain ⟨W0,h1,h2,h3,h4,h5⟩:=h
 exact ⟨W0,h1,h2,h3,h4,h5.trans (hf.below h5.size (fun x hx=>Nat.le_trans h1 (hS x hx)))⟩
theorem Env.below {B:Nat} (h:Env G w) (hf:Below B w w') (hB:G≤B):Env G w':=by
 obtain ⟨W0,h1,h2,h3,h4,h5⟩:=h
 exact ⟨W0,h1,h2,h3,h4,h5.trans (hf.mono (Nat.le_trans h1 hB))⟩
theorem Env.le (h:Env G w):∃K,K≤G∧K≤w.heap.size:=by
 obtain ⟨W0,h1,h2,h3,h4,h5⟩:=h
 exact ⟨_,h1,h5.size⟩
theorem Env.alloc (h:Env G w) (o:Obj):Env G (w.alloc o):=h.fr (S:=fun _=>False) ((Fr.refl _ w).alloc o) (fun _ h=>h.elim)
theorem Env.drew (h:Env G w):Env G w.drew:=h.fr (S:=fun _=>False) ((Fr.refl _ w).drew) (fun _ h=>h.elim)
theorem Env.grow (h:Env G w) (hf:Below w.heap.size w w'):Env G w':=by
 obtain ⟨W0,h1,h2,h3,h4,h5⟩:=h
 exact ⟨W0,h1,h2,h3,h4,h5.trans (hf.mono h5.size)⟩
end
def yY (c:UInt8) (ws:zA) (m:Msg):Msg×Bool:=
 if c=105 then ({m with id:=numV ws},zAD ws) else if c=97 then ({m with att:=numV ws},zAD ws)
 else if c=116 then ({m with tenant:=ws},zCP ws) else ({m with text:=ws},zBK ws)
def zx:zA→List zA→Msg→Msg×Bool
 | c::f,ws::l,m=>if (yY c ws m).2 then zx f l (yY c ws m).1 else ((yY c ws m).1,false)
 | _,_,m=>(m,true)
def msg0 (k:zA):Msg:=⟨k,0,0,[],[]⟩
def yo (l:zA):Msg×Bool:=
 match cut 32 l with
 | []=>(msg0 [],false)
 | k::ws=>match yq k with
   | none=>(msg0 k,false)
   | some f=>if ws.length=f.length then zx f ws (msg0 k) else (msg0 k,false)
theorem zBU (a:zA):(yK a=none∧numV a=0∧zAD a=false)∨∃n,yK a=some n∧numV a=n∧zAD a=true:=by
 cases h:yK a with
 | none=>exact .inl ⟨rfl,zCB h⟩
 | some n=>exact .inr ⟨n,rfl,zGX h⟩
theorem zKx {c:UInt8}:∀(l:zA),cut c l≠[]
 | []=>by simp [cut]
 | x::l=>by
   unfold cut
   split
   ·simp
   ·split<;>simp
theorem zKy (l:zA):xP l=if (yo l).2=true then some (yo l).1 else none:=by
 unfold xP yo
 cases hc:cut 32 l with
 | nil=>rfl
 | cons k ws =>
   simp only
   by_cases h1:k=kSub
   ·subst h1
    rw [show yq kSub=some [105,116,120] from rfl]
    match ws with
    | []=>rfl
    | [a]=>rfl
    | [a,b]=>rfl
    | [a,b,c] =>
      rcases zBU a with ⟨e1,e2,e3⟩ | ⟨n,e1,e2,e3⟩
      ·simp [show kSub≠yE by decide,e1,zx,yY,e3]
      ·cases hb:zCP b<;>cases hx:zBK c<;>simp [show kSub≠yE by decide,e1,zx,yY,e3,e2,hb,hx,msg0]
    | a::b::c::d::r=>simp
   by_cases h2:k=kCan
   ·subst h2
    rw [show yq kCan=some [105] from rfl]
    match ws with
    | []=>rfl
    | [a] =>
      rcases zBU a with ⟨e1,e2,e3⟩ | ⟨n,e1,e2,e3⟩
      ·simp [e1,zx,yY,e3]
      ·simp [e1,zx,yY,e3,e2,msg0]
    | [a,b]=>rfl
    | [a,b,c]=>rfl
    | a::b::c::d::r=>simp
   by_cases h3:k=yE
   ·subst h3
    rw [show yq yE=some [105,97,120] from rfl]
    match ws with
    | []=>rfl
    | [a]=>rfl
    | [a,b]=>rfl
    | [a,b,c] =>
      rcases zBU a with ⟨e1,e2,e3⟩ | ⟨n,e1,e2,e3⟩
      ·simp [e1,zx,yY,e3]
      ·rcases zBU b with ⟨f1,f2,f3⟩ | ⟨m,f1,f2,f3⟩
       ·simp [e1,zx,yY,e3,f1,f3]
       ·cases hx:zBK c<;>simp [e1,zx,yY,e3,e2,f1,f2,f3,hx,msg0]
    | a::b::c::d::r=>simp
   by_cases h4:k=xB
   ·subst h4
    rw [show yq xB=some [105,97] from rfl]
    match ws with
    | []=>rfl
    | [a]=>rfl
    | [a,b] =>
      rcases zBU a with ⟨e1,e2,e3⟩ | ⟨n,e1,e2,e3⟩
      ·simp [e1,zx,yY,e3]
      ·rcases zBU b with ⟨f1,f2,f3⟩ | ⟨m,f1,f2,f3⟩
       ·simp [e1,zx,yY,e3,f1,f3]
       ·simp [e1,zx,yY,e3,e2,f1,f2,f3,msg0]
    | [a,b,c]=>rfl
    | a::b::c::d::r=>simp
   by_cases h5:k=xM∨k=xN∨k=xO
   ·have hf:yq k=some []:=by unfold yq;rw [if_neg h1,if_neg h2,if_neg h3,if_neg h4,if_pos h5]
    rw [hf]
    match ws with
    | []=>simp [h5,zx,msg0]
    | [a]=>simp [h2]
    | [a,b]=>simp [h4]
    | [a,b,c]=>simp [h3,h1]
    | a::b::c::d::r=>simp
   ·have hf:yq k=none:=by unfold yq;rw [if_neg h1,if_neg h2,if_neg h3,if_neg h4,if_neg h5]
    rw [hf]
    match ws with
    | []=>simp [h5]
    | [a]=>simp [h2]
    | [a,b]=>simp [h4]
    | [a,b,c]=>simp [h3,h1]
    | a::b::c::d::r=>simp
def zF (m:Msg):Array Value:=#[vs (bs m.kind),vi m.id,vi m.att,vs (bs m.tenant),vs (bs m.text)]
def zKz (l:zA) (w:World) (e:Ending) (w':World):Prop:=e=.returned (.tuple #[.agg (zF (yo l).1),.bool (yo l).2])∧Below w.heap.size w w'
def yO (w:World) (B:Nat) (m:Msg):Prop:=w.heap[B]?=some (.cells (zF m) 91 (0,0))
theorem zLA {k f:zA} (h:yq k=some f):f.length≤3∧∀(j:Nat) (c:UInt8),f[j]?=some c→c=105∨c=97∨c=116∨c=120:=by
 have:f=[105,116,120]∨f=[105]∨f=[105,97,120]∨f=[105,97]∨f=[]:=by
  unfold yq at h
  (repeat' split at h)<;>simp at h<;>simp [←h]
 have hm:∀c∈f,c=105∨c=97∨c=116∨c=120:=by
  rcases this with rfl | rfl | rfl | rfl | rfl<;>simp
 refine ⟨by rcases this with rfl | rfl | rfl | rfl | rfl<;>simp,fun j c hj=>hm c (List.mem_of_getElem? hj)⟩
theorem zAx {w:World} {R:Nat} {m:Msg} {b:Bool} (t:Array Value) (ht:t[2]?=some (vp R)) (ht2:t[3]?=some (.bool b)) (h:yO w R m):(results Tryz.f37 t).run Tryz.prog w=.ok (.tuple #[.agg (zF m),.bool b]) w:=by
 have e0:=zB h (off:=0) rfl
 have e1:=zB h (off:=1) rfl
 have e2:=zB h (off:=2) rfl
 have e3:=zB h (off:=3) rfl
 have e4:=zB h (off:=4) rfl
 simp [results,Tryz.results37,go_sem,ht,ht2,e0,e1,e2,e3,e4]
 rfl
theorem zAy {w:World} {R M:Nat} {mr m:Msg} (hR:yO w R mr) (hM:yO w M m) :
 (w.cell? ⟨M,0,none⟩=some (vs (bs m.kind))∧w.cell? ⟨M,1,none⟩=some (vi m.id)∧w.cell? ⟨M,2,none⟩=some (vi m.att)∧w.cell? ⟨M,3,none⟩=some (vs (bs m.tenant))∧w.cell? ⟨M,4,none⟩=some (vs (bs m.text))) ∧
 (w.cell? ⟨R,0,none⟩=some (vs (bs mr.kind))∧w.cell? ⟨R,1,none⟩=some (vi mr.id)∧w.cell? ⟨R,2,none⟩=some (vi mr.att)∧w.cell? ⟨R,3,none⟩=some (vs (bs mr.tenant))∧w.cell? ⟨R,4,none⟩=some (vs (bs mr.text))) ∧
 w.frozen? ⟨R,0,none⟩=false∧w.frozen? ⟨R,1,none⟩=false∧w.frozen? ⟨R,2,none⟩=false∧w.frozen? ⟨R,3,none⟩=false∧w.frozen? ⟨R,4,none⟩=false:=
 ⟨⟨zB hM rfl,zB hM rfl,zB hM rfl,zB hM rfl,zB hM rfl⟩,⟨zB hR rfl,zB hR rfl,zB hR rfl,zB hR rfl,zB hR rfl⟩,
   zK hR,zK hR,zK hR,zK hR,zK hR⟩
theorem zAz {w:World} {R:Nat} {mr m:Msg} (hR:yO w R mr) :
 yO (((((w.setCell ⟨R,0,none⟩ (vs (bs m.kind))).setCell ⟨R,1,none⟩ (vi m.id)).setCell ⟨R,2,none⟩ (vi m.att)).setCell ⟨R,3,none⟩ (vs (bs m.tenant))).setCell ⟨R,4,none⟩ (vs (bs m.text))) R m:=
 zO _ (zO _ (zO _ (zO _ (zO _ hR))))
theorem zBA {w w':World} {R:Nat} (hb:Below w.heap.size w w') (hR:w.heap.size≤R) (a b c d e:Value) :
 Below w.heap.size w (((((w'.setCell ⟨R,0,none⟩ a).setCell ⟨R,1,none⟩ b).setCell ⟨R,2,none⟩ c).setCell ⟨R,3,none⟩ d).setCell ⟨R,4,none⟩ e):=
 ((((hb.setCell hR _).setCell hR _).setCell hR _).setCell hR _).setCell hR _
def WAt (w:World) (f:zA) (zX:List zA) (wx:World) (j:Nat) (m:Msg):Prop:=
 wx.heap[w.heap.size+3]?=some (.stringIter (bs f) j)∧yO wx (w.heap.size+2) m∧yO wx w.heap.size (msg0 []) ∧
  wx.heap[w.heap.size+1]?=some (.cells ((zX.map bs).map Value.string).toArray 9 (0,0))∧Below w.heap.size w wx
theorem zLB {w w2:World} {f:zA} {zX:List zA} {m:Msg} (hs:w2.heap.size=w.heap.size+3) (hm:yO w2 (w.heap.size+2) m) (hr:yO w2 w.heap.size (msg0 []))
 (hw:w2.heap[w.heap.size+1]?=some (.cells ((zX.map bs).map Value.string).toArray 9 (0,0))) (hb:Below w.heap.size w w2):WAt w f zX (w2.iter (bs f) 0) 0 m:=
 ⟨by rw [←hs];exact w2.iter_heap (bs f) 0,(zM w2 (by omega)).trans hm,(zM w2 (by omega)).trans hr,(zM w2 (by omega)).trans hw,hb.alloc hb.size _⟩
theorem WAt.next {w wx:World} {f:zA} {zX:List zA} {j:Nat} {m:Msg} (h:WAt w f zX wx j m):WAt w f zX (wx.iterAt (w.heap.size+3) (bs f) (j+1)) (j+1) m:=by
 obtain ⟨h1,h2,h3,h4,h5⟩:=h
 exact ⟨Lib.iterAt_heap wx _ _ _ _ h1,(Lib.iterAt_other wx _ _ _ _ (by omega)).trans h2,(Lib.iterAt_other wx _ _ _ _ (by omega)).trans h3,(Lib.iterAt_other wx _ _ _ _ (by omega)).trans h4,Lib.below_iterAt h5 (by omega) _ _⟩
theorem WAt.grown {w wx w':World} {f:zA} {zX:List zA} {j:Nat} {m:Msg} (h:WAt w f zX wx j m) (hb:Below wx.heap.size wx w'):WAt w f zX w' j m:=by
 obtain ⟨h1,h2,h3,h4,h5⟩:=h
 exact ⟨(hb.block _ (zD _ h1)).trans h1,(hb.block _ (zD _ h2)).trans h2,(hb.block _ (zD _ h3)).trans h3,(hb.block _ (zD _ h4)).trans h4,h5.trans (hb.mono h5.size)⟩
theorem zCv {w:World} {B j:Nat} {f:zA} {ty:TypeId} (c:UInt8) (hb:w.heap[B]?=some (.stringIter (bs f) j)) (hc:f[j]?=some c) (h:c.toNat < 128) :
 (Instr.next (.pointer (some ⟨B,0,none⟩)) true ty).run Tryz.prog w=.ok (.tuple #[.bool true,.int .i64 j,.int .i32 c.toNat]) (w.iterAt B (bs f) (j+1)):=by
 have hj:j < (bs f).size:=by rw [yX];exact (List.getElem?_eq_some_iff.1 hc).1
 rw [Lib.run_next_ascii_at w B (bs f) j ty hb hj (by rw [zAl hc];exact h),zAl hc]
theorem zAm {w:World} {B j:Nat} {s:ByteArray} (h:w.heap[B]?=some (.stringIter s j)):w.iterPos B=j:=by simp [World.iterPos,h]
theorem zGh {α:Type} {l:List α} {j:Nat} {x:α} (h:l[j]?=some x):l.drop j=x::l.drop (j+1):=by
 have hj:=(List.getElem?_eq_some_iff.1 h).1
 rw [List.drop_eq_getElem_cons hj]
 congr 1
 exact (List.getElem?_eq_some_iff.1 h).2
theorem zCw {c:UInt8}:∀(l:zA) (a:zA),a∈cut c l→a.length≤l.length
 | [],a,h=>by simp [cut] at h;simp [h]
 | x::l,a,h=>by
   unfold cut at h
   split at h
   ·rcases List.mem_cons.1 h with e | e
    ·rw [e];simp
    ·have:=zCw l a e;simp;omega
   ·split at h
    ·simp at h;rw [h];simp
    ·rename_i b r hb
     rcases List.mem_cons.1 h with e | e
     ·have:=zCw l b (by rw [hb];exact List.mem_cons_self)
      rw [e];simp;omega
     ·have:=zCw l a (by rw [hb];exact List.mem_cons_of_mem _ e)
      simp;omega
theorem zLC (args:Array Value) (w:World):(callFunc 66 args).run Tryz.prog w=.ok (.enter 66 args) w:=by kernel_rfl
theorem zLD (args:Array Value) (w:World):(callFunc 67 args).run Tryz.prog w=.ok (.enter 67 args) w:=by kernel_rfl
theorem zLE {G:Nat} {w:World} (hE:Env G w) (l:zA) (hl:l.length≤1099511627):Calls Tryz.prog 37 #[vs (bs l)] w (zKz l w):=by
 have HS:=zh (fun w h=>Tryz.strings_Split_shaped (bs l) (bs [32]) w h (by rw [yX];omega) (by decide))
 obtain ⟨hc1,hc2⟩:=zGg 32 l.length l (Nat.le_refl _)
 rw [hc1,hc2] at HS
 have HA:=zh (hE.alloc (.cells #[.string ⟨#[]⟩,.int .i64 0,.int .i64 0,.string ⟨#[]⟩,.string ⟨#[]⟩] 91))
 obtain ⟨k,ws,hcut⟩:∃k ws,cut 32 l=k::ws:=by
  cases h:cut 32 l with
  | nil=>exact absurd h (zKx l)
  | cons k ws=>exact ⟨k,ws,rfl⟩
 rw [hcut] at HS
 have HR:Hid (yo l=match yq k with
  | none=>(msg0 k,false)
  | some f=>if ws.length=f.length then zx f ws (msg0 k) else (msg0 k,false)):=show _=_ by unfold yo;rw [hcut]
 have hEE:=zh hE
 have HWL:Hid (∀wd∈ws,wd.length≤1099511627776):=fun wd hw=>by
  have:=zCw (c:=32) l wd (by rw [hcut];exact List.mem_cons_of_mem _ hw);omega
 clear hc1 hc2 hE hcut
 go_enter Tryz.func37,Tryz.ntmps37
 go_wp2_with fail
 refine (HS.out _ HA.out.shaped).mono ?_
 rintro e w1 ⟨rfl,hw1⟩
 have Hw1:=zh hw1
 rw [World.size_alloc] at *
 have hs1:Hid (w1.heap.size=w.heap.size+2):=show _=_ by rw [hw1];simp
 have Hwd:Hid (w1.heap[w.heap.size+1]?=some (.cells (((k::ws).map bs).map Value.string).toArray 9 (0,0))):=show _=_ by
  rw [hw1];have:=zP (w.alloc (.cells #[.string ⟨#[]⟩,.int .i64 0,.int .i64 0,.string ⟨#[]⟩,.string ⟨#[]⟩] 91)) (o:=.cells (((k::ws).map bs).map Value.string).toArray 9);rw [World.size_alloc] at this;exact this
 have c0:w1.cell? ⟨w.heap.size+1,0,none⟩=some (vs (bs k)):=zB Hwd.out rfl
 have HF:=zh (fun w=>zKu k w)
 have hB1:Hid (Below w.heap.size w w1):=show Below _ _ _ by
  rw [hw1];exact ((Below.refl _ _).alloc (Nat.le_refl _) _).alloc (by simp) _
 have HE1:Hid (Env G w1):=show Env _ _ by rw [hw1];exact HA.out.alloc _
 have HR1:Hid (yO w1 w.heap.size (msg0 [])):=show yO _ _ _ by
  rw [hw1];exact (zM _ (by simp)).trans (zP w)
 clear hw1 Hw1 HA HS
 go_wp2_with fail
 rw [hs1.out]
 refine (HF.out _).mono ?_
 rintro e w2 ⟨rfl,hw2⟩
 have Hw2:=zh hw2
 have hs2:Hid (w2.heap.size=w.heap.size+3):=show _=_ by rw [←hw2];simp [hs1.out]
 have Hm:Hid (yO w2 (w.heap.size+2) (msg0 k)):=show yO _ _ _ by rw [←hw2,←hs1.out];exact zP w1
 have Hr:Hid (yO w2 w.heap.size (msg0 [])):=show yO _ _ _ by rw [←hw2];exact (zM _ (by rw [hs1.out];omega)).trans HR1.out
 have Hwd2:Hid (w2.heap[w.heap.size+1]?=some (.cells (((k::ws).map bs).map Value.string).toArray 9 (0,0))):=show _=_ by rw [←hw2];exact (zM _ (by rw [hs1.out];omega)).trans Hwd.out
 have hB2:Hid (Below w.heap.size w w2):=show Below _ _ _ by rw [←hw2];exact hB1.out.alloc hB1.out.size _
 have HE2:Hid (Env G w2):=show Env _ _ by rw [←hw2];exact HE1.out.alloc _
 clear hw2 Hw2 hB1 HE1 HR1 Hwd hs1 c0
 cases hf:yq k with
 | none =>
   have Hres:Hid (yo l=(msg0 k,false)):=show _=_ by rw [HR.out,hf]
   obtain ⟨⟨m0,m1,m2,m3,m4⟩,⟨r0,r1,r2,r3,r4⟩,f0,f1,f2,f3,f4⟩:=zAy Hr.out Hm.out
   simp only [Option.getD_none,Option.isSome_none]
   clear hf
   go_wp2_with fail
   refine bodyPost_ret (v:=.tuple #[.agg (zF (msg0 k)),.bool false]) (zAx _ rfl rfl (zAz Hr.out)) rfl ⟨by rw [Hres.out],zBA hB2.out (Nat.le_refl _) _ _ _ _ _⟩
 | some f =>
   have hff:=zLA hf
   obtain ⟨hf3,hfc⟩:=hff
   have Hfc:=zh hfc
   have HR2:Hid (yo l=if ws.length=f.length then zx f ws (msg0 k) else (msg0 k,false)):=show _=_ by rw [HR.out,hf]
   simp only [Option.getD_some,Option.isSome_some]
   have hfz:(bs f).size=f.length:=yX f
   clear hf hfc HR
   by_cases hlen:ws.length=f.length
   ·have HR:Hid (yo l=zx f ws (msg0 k)):=show _=_ by rw [HR2.out,if_pos hlen]
    have hl1:((ws.length:Int)+1 != (f.length:Int)+1)=false:=by rw [hlen];simp
    have hl2:((ws.length:Int) != (f.length:Int))=false:=by rw [hlen];simp
    have Hlen:=zh hlen
    have hs2e:=hs2.out
    have HW0:Hid (WAt w f (k::ws) (w2.iter (bs f) 0) 0 (msg0 k)):=zLB hs2.out Hm.out Hr.out Hwd2.out hB2.out
    have HE:=zh hEE.out
    clear hlen HR2
    go_wp2_with fail
    clear hs2e
    go_loopw [7,8,9,10] (fun s7 _ _ _ wx=>∃(j:Nat) (m:Msg),s7=.bool true∧j≤f.length∧Hid (WAt w f (k::ws) wx j m)∧Hid (zx (f.drop j) (ws.drop j) m=zx f ws (msg0 k))) (fun _ _ _ _ wx=>f.length - wx.iterPos (w.heap.size+3))
    case atStart=>exact ⟨0,msg0 k,rfl,Nat.zero_le _,HW0.out,rfl⟩
    case round =>
     obtain ⟨j,m,rfl,hj,HWx,Hrf⟩:=hrel
     clear HW0
     by_cases hjl:j < f.length
     ·obtain ⟨c,hcj⟩:∃c,f[j]?=some c:=⟨_,List.getElem?_eq_getElem hjl⟩
      obtain ⟨wd,hwd⟩:∃wd,ws[j]?=some wd:=⟨_,List.getElem?_eq_getElem (by rw [Hlen.out];exact hjl)⟩
      have Hcons:Hid (zx (f.drop j) (ws.drop j) m=zx (c::f.drop (j+1)) (wd::ws.drop (j+1)) m):=show _=_ by rw [zGh hcj,zGh hwd]
      have Hwl:Hid (wd.length≤1099511627776):=HWL.out wd (List.mem_of_getElem? hwd)
      have hj0:(0:Int)≤(j:Int)+1:=by omega
      have hj1:(j:Int)+1 < (ws.length:Int)+1:=by have:=Hlen.out;omega
      have hj2:((j:Int)+1).toNat=j+1:=by omega
      have hcc:=Hfc.out j c hcj
      rcases hcc with rfl | rfl | rfl | rfl
      ·
       have hnx:=fun ty=>zCv (ty:=ty) 105 HWx.out.1 hcj (by decide)
       have HW3:=zh (HWx.out.next)
       generalize wr.iterAt (w.heap.size+3) (bs f) (j+1)=w3 at *
       have cw:w3.cell? ⟨w.heap.size+1,j+1,none⟩=some (vs (bs wd)):=zB HW3.out.2.2.2.1 (by simp [hwd])
       have HC:=zh (zGZ wd w3)
       obtain ⟨v,Hv⟩:∃v,Hid (numV wd=v):=⟨_,rfl⟩
       obtain ⟨o,Ho⟩:∃v,Hid (zAD wd=v):=⟨_,rfl⟩
       unfold zAv at HC
       rw [Hv.out,Ho.out] at HC
       have Hfs:Hid (yY 105 wd m=({m with id:=v},o)):=show _=_ by unfold yY;rw [←Hv.out,←Ho.out];rfl
       obtain ⟨m2,Hm2⟩:∃m2:Msg,Hid (m2={m with id:=v}):=⟨_,rfl⟩
       rw [←Hm2.out] at Hfs
       clear hcj hwd
       go_wp2_with fail
       refine HC.out.mono ?_
       rintro e w4 ⟨rfl,hb4⟩
       have HW4:=zh (HW3.out.grown hb4)
       obtain ⟨⟨m0,m1,m2',m3,m4⟩,⟨r0,r1,r2,r3,r4⟩,f0,f1,f2,f3,f4⟩:=zAy HW4.out.2.2.1 HW4.out.2.1
       have fM:w4.frozen? ⟨w.heap.size+2,1,none⟩=false:=zK HW4.out.2.1
       have HW5:Hid (yO (w4.setCell ⟨w.heap.size+2,1,none⟩ (vi v)) (w.heap.size+2) m2∧yO (w4.setCell ⟨w.heap.size+2,1,none⟩ (vi v)) w.heap.size (msg0 [])∧Below w.heap.size w (w4.setCell ⟨w.heap.size+2,1,none⟩ (vi v))):=
        ⟨by rw [Hm2.out];exact zO w4 HW4.out.2.1,(zG w4 (by simp)).trans HW4.out.2.2.1,HW4.out.2.2.2.2.setCell (by simp) _⟩
       have HIP:Hid (World.iterPos (w4.setCell ⟨w.heap.size+2,1,none⟩ (vi v)) (w.heap.size+3)=j+1):=zAm ((zG w4 (by simp)).trans HW4.out.1)
       clear hb4
       cases o with
       | false =>
         have Hres:Hid (yo l=(m2,false)):=show _=_ by rw [HR.out,←Hrf.out,Hcons.out,zx,Hfs.out];rfl
         go_wp2_with fail
         refine bodyPost_ret (v:=.tuple #[.agg (zF m2),.bool false]) (zAx _ rfl rfl (by have:=zAz (m:=m2) HW5.out.2.1;rw [Hm2.out] at this ⊢;exact this)) rfl ⟨by rw [Hres.out],zBA HW5.out.2.2 (Nat.le_refl _) _ _ _ _ _⟩
       | true =>
         go_wp2_with fail
         go_roundw
         case rel =>
          refine ⟨j+1,m2,rfl,by omega,⟨(zG w4 (by simp)).trans HW4.out.1,HW5.out.1,HW5.out.2.1,(zG w4 (by simp)).trans HW4.out.2.2.2.1,HW5.out.2.2⟩,?_⟩
          show _=_
          rw [←Hrf.out,Hcons.out,zx,Hfs.out];rfl
         case measure =>
          have e1:=zAm HWx.out.1
          have e2:=HIP.out
          rw [e1,e2];omega
      ·
       have hnx:=fun ty=>zCv (ty:=ty) 97 HWx.out.1 hcj (by decide)
       have HW3:=zh (HWx.out.next)
       generalize wr.iterAt (w.heap.size+3) (bs f) (j+1)=w3 at *
       have cw:w3.cell? ⟨w.heap.size+1,j+1,none⟩=some (vs (bs wd)):=zB HW3.out.2.2.2.1 (by simp [hwd])
       have HC:=zh (zGZ wd w3)
       obtain ⟨v,Hv⟩:∃v,Hid (numV wd=v):=⟨_,rfl⟩
       obtain ⟨o,Ho⟩:∃v,Hid (zAD wd=v):=⟨_,rfl⟩
       unfold zAv at HC
       rw [Hv.out,Ho.out] at HC
       have Hfs:Hid (yY 97 wd m=({m with att:=v},o)):=show _=_ by unfold yY;rw [←Hv.out,←Ho.out];rfl
       obtain ⟨m2,Hm2⟩:∃m2:Msg,Hid (m2={m with att:=v}):=⟨_,rfl⟩
       rw [←Hm2.out] at Hfs
       clear hcj hwd
       go_wp2_with fail
       refine HC.out.mono ?_
       rintro e w4 ⟨rfl,hb4⟩
       have HW4:=zh (HW3.out.grown hb4)
       obtain ⟨⟨m0,m1,m2',m3,m4⟩,⟨r0,r1,r2,r3,r4⟩,f0,f1,f2,f3,f4⟩:=zAy HW4.out.2.2.1 HW4.out.2.1
       have fM:w4.frozen? ⟨w.heap.size+2,2,none⟩=false:=zK HW4.out.2.1
       have HW5:Hid (yO (w4.setCell ⟨w.heap.size+2,2,none⟩ (vi v)) (w.heap.size+2) m2∧yO (w4.setCell ⟨w.heap.size+2,2,none⟩ (vi v)) w.heap.size (msg0 [])∧Below w.heap.size w (w4.setCell ⟨w.heap.size+2,2,none⟩ (vi v))):=
        ⟨by rw [Hm2.out];exact zO w4 HW4.out.2.1,(zG w4 (by simp)).trans HW4.out.2.2.1,HW4.out.2.2.2.2.setCell (by simp) _⟩
       have HIP:Hid (World.iterPos (w4.setCell ⟨w.heap.size+2,2,none⟩ (vi v)) (w.heap.size+3)=j+1):=zAm ((zG w4 (by simp)).trans HW4.out.1)
       clear hb4
       cases o with
       | false =>
         have Hres:Hid (yo l=(m2,false)):=show _=_ by rw [HR.out,←Hrf.out,Hcons.out,zx,Hfs.out];rfl
         go_wp2_with fail
         refine bodyPost_ret (v:=.tuple #[.agg (zF m2),.bool false]) (zAx _ rfl rfl (by have:=zAz (m:=m2) HW5.out.2.1;rw [Hm2.out] at this ⊢;exact this)) rfl ⟨by rw [Hres.out],zBA HW5.out.2.2 (Nat.le_refl _) _ _ _ _ _⟩
       | true =>
         go_wp2_with fail
         go_roundw
         case rel =>
          refine ⟨j+1,m2,rfl,by omega,⟨(zG w4 (by simp)).trans HW4.out.1,HW5.out.1,HW5.out.2.1,(zG w4 (by simp)).trans HW4.out.2.2.2.1,HW5.out.2.2⟩,?_⟩
          show _=_
          rw [←Hrf.out,Hcons.out,zx,Hfs.out];rfl
         case measure =>
          have e1:=zAm HWx.out.1
          have e2:=HIP.out
          rw [e1,e2];omega
      ·
       have hnx:=fun ty=>zCv (ty:=ty) 116 HWx.out.1 hcj (by decide)
       have HW3:=zh (HWx.out.next)
       generalize wr.iterAt (w.heap.size+3) (bs f) (j+1)=w3 at *
       have cw:w3.cell? ⟨w.heap.size+1,j+1,none⟩=some (vs (bs wd)):=zB HW3.out.2.2.2.1 (by simp [hwd])
       have HC:=zh (show Calls Tryz.prog 65 #[vs (bs wd),.int .i64 6,.func (.func 66) #[] #[]] w3 _ from zGa wd Hwl.out 6 (by decide) xK 66 zLC (fun m w h=>zKj m h w) w3 (HE.out.grow HW3.out.2.2.2.2).u8)
       obtain ⟨o,Ho⟩:∃v,Hid (xz wd 6 xK=v):=⟨_,rfl⟩
       rw [Ho.out] at HC
       have Hfs:Hid (yY 116 wd m=({m with tenant:=wd},o)):=show _=_ by unfold yY zCP;rw [←Ho.out];rfl
       obtain ⟨m2,Hm2⟩:∃m2:Msg,Hid (m2={m with tenant:=wd}):=⟨_,rfl⟩
       rw [←Hm2.out] at Hfs
       clear hcj hwd
       go_wp2_with fail
       refine HC.out.mono ?_
       rintro e w4 ⟨rfl,hb4⟩
       have HW4:=zh (HW3.out.grown hb4)
       obtain ⟨⟨m0,m1,m2',m3,m4⟩,⟨r0,r1,r2,r3,r4⟩,f0,f1,f2,f3,f4⟩:=zAy HW4.out.2.2.1 HW4.out.2.1
       have fM:w4.frozen? ⟨w.heap.size+2,3,none⟩=false:=zK HW4.out.2.1
       have HW5:Hid (yO (w4.setCell ⟨w.heap.size+2,3,none⟩ (vs (bs wd))) (w.heap.size+2) m2∧yO (w4.setCell ⟨w.heap.size+2,3,none⟩ (vs (bs wd))) w.heap.size (msg0 [])∧Below w.heap.size w (w4.setCell ⟨w.heap.size+2,3,none⟩ (vs (bs wd)))):=
        ⟨by rw [Hm2.out];exact zO w4 HW4.out.2.1,(zG w4 (by simp)).trans HW4.out.2.2.1,HW4.out.2.2.2.2.setCell (by simp) _⟩
       have HIP:Hid (World.iterPos (w4.setCell ⟨w.heap.size+2,3,none⟩ (vs (bs wd))) (w.heap.size+3)=j+1):=zAm ((zG w4 (by simp)).trans HW4.out.1)
       clear hb4
       cases o with
       | false =>
         have Hres:Hid (yo l=(m2,false)):=show _=_ by rw [HR.out,←Hrf.out,Hcons.out,zx,Hfs.out];rfl
         go_wp2_with fail
         refine bodyPost_ret (v:=.tuple #[.agg (zF m2),.bool false]) (zAx _ rfl rfl (by have:=zAz (m:=m2) HW5.out.2.1;rw [Hm2.out] at this ⊢;exact this)) rfl ⟨by rw [Hres.out],zBA HW5.out.2.2 (Nat.le_refl _) _ _ _ _ _⟩
       | true =>
         go_wp2_with fail
         go_roundw
         case rel =>
          refine ⟨j+1,m2,rfl,by omega,⟨(zG w4 (by simp)).trans HW4.out.1,HW5.out.1,HW5.out.2.1,(zG w4 (by simp)).trans HW4.out.2.2.2.1,HW5.out.2.2⟩,?_⟩
          show _=_
          rw [←Hrf.out,Hcons.out,zx,Hfs.out];rfl
         case measure =>
          have e1:=zAm HWx.out.1
          have e2:=HIP.out
          rw [e1,e2];omega
      ·
       have hnx:=fun ty=>zCv (ty:=ty) 120 HWx.out.1 hcj (by decide)
       have HW3:=zh (HWx.out.next)
       generalize wr.iterAt (w.heap.size+3) (bs f) (j+1)=w3 at *
       have cw:w3.cell? ⟨w.heap.size+1,j+1,none⟩=some (vs (bs wd)):=zB HW3.out.2.2.2.1 (by simp [hwd])
       have HC:=zh (show Calls Tryz.prog 65 #[vs (bs wd),.int .i64 12,.func (.func 67) #[] #[]] w3 _ from zGa wd Hwl.out 12 (by decide) xL 67 zLD (fun m w h=>zKk m h w) w3 (HE.out.grow HW3.out.2.2.2.2).u8)
       obtain ⟨o,Ho⟩:∃v,Hid (xz wd 12 xL=v):=⟨_,rfl⟩
       rw [Ho.out] at HC
       have Hfs:Hid (yY 120 wd m=({m with text:=wd},o)):=show _=_ by unfold yY zBK;rw [←Ho.out];rfl
       obtain ⟨m2,Hm2⟩:∃m2:Msg,Hid (m2={m with text:=wd}):=⟨_,rfl⟩
       rw [←Hm2.out] at Hfs
       clear hcj hwd
       go_wp2_with fail
       refine HC.out.mono ?_
       rintro e w4 ⟨rfl,hb4⟩
       have HW4:=zh (HW3.out.grown hb4)
       obtain ⟨⟨m0,m1,m2',m3,m4⟩,⟨r0,r1,r2,r3,r4⟩,f0,f1,f2,f3,f4⟩:=zAy HW4.out.2.2.1 HW4.out.2.1
       have fM:w4.frozen? ⟨w.heap.size+2,4,none⟩=false:=zK HW4.out.2.1
       have HW5:Hid (yO (w4.setCell ⟨w.heap.size+2,4,none⟩ (vs (bs wd))) (w.heap.size+2) m2∧yO (w4.setCell ⟨w.heap.size+2,4,none⟩ (vs (bs wd))) w.heap.size (msg0 [])∧Below w.heap.size w (w4.setCell ⟨w.heap.size+2,4,none⟩ (vs (bs wd)))):=
        ⟨by rw [Hm2.out];exact zO w4 HW4.out.2.1,(zG w4 (by simp)).trans HW4.out.2.2.1,HW4.out.2.2.2.2.setCell (by simp) _⟩
       have HIP:Hid (World.iterPos (w4.setCell ⟨w.heap.size+2,4,none⟩ (vs (bs wd))) (w.heap.size+3)=j+1):=zAm ((zG w4 (by simp)).trans HW4.out.1)
       clear hb4
       cases o with
       | false =>
         have Hres:Hid (yo l=(m2,false)):=show _=_ by rw [HR.out,←Hrf.out,Hcons.out,zx,Hfs.out];rfl
         go_wp2_with fail
         refine bodyPost_ret (v:=.tuple #[.agg (zF m2),.bool false]) (zAx _ rfl rfl (by have:=zAz (m:=m2) HW5.out.2.1;rw [Hm2.out] at this ⊢;exact this)) rfl ⟨by rw [Hres.out],zBA HW5.out.2.2 (Nat.le_refl _) _ _ _ _ _⟩
       | true =>
         go_wp2_with fail
         go_roundw
         case rel =>
          refine ⟨j+1,m2,rfl,by omega,⟨(zG w4 (by simp)).trans HW4.out.1,HW5.out.1,HW5.out.2.1,(zG w4 (by simp)).trans HW4.out.2.2.2.1,HW5.out.2.2⟩,?_⟩
          show _=_
          rw [←Hrf.out,Hcons.out,zx,Hfs.out];rfl
         case measure =>
          have e1:=zAm HWx.out.1
          have e2:=HIP.out
          rw [e1,e2];omega
     ·obtain rfl:j=f.length:=by omega
      have hnx:=fun ty=>Lib.run_next_end_at (P:=Tryz.prog) wr (w.heap.size+3) (bs f) f.length ty HWx.out.1 (by rw [hfz];omega)
      have Hres:Hid (yo l=(m,true)):=show _=_ by
       rw [HR.out,←Hrf.out];simp [zx]
      obtain ⟨⟨m0,m1,m2,m3,m4⟩,⟨r0,r1,r2,r3,r4⟩,f0,f1,f2,f3,f4⟩:=zAy HWx.out.2.2.1 HWx.out.2.1
      go_wp2_with fail
      refine bodyPost_ret (v:=.tuple #[.agg (zF m),.bool true]) (zAx _ rfl rfl (zAz HWx.out.2.2.1)) rfl ⟨by rw [Hres.out],zBA HWx.out.2.2.2.2 (Nat.le_refl _) _ _ _ _ _⟩
   ·have Hres:Hid (yo l=(msg0 k,false)):=show _=_ by rw [HR2.out,if_neg hlen]
    obtain ⟨⟨m0,m1,m2,m3,m4⟩,⟨r0,r1,r2,r3,r4⟩,f0,f1,f2,f3,f4⟩:=zAy Hr.out Hm.out
    have hl1:((ws.length:Int)+1 != (f.length:Int)+1)=true:=by simp;omega
    have hl2:((ws.length:Int) != (f.length:Int))=true:=by simp;omega
    clear hlen HR2
    go_wp2_with fail
    refine bodyPost_ret (v:=.tuple #[.agg (zF (msg0 k)),.bool false]) (zAx _ rfl rfl (zAz Hr.out)) rfl ⟨by rw [Hres.out],zBA hB2.out (Nat.le_refl _) _ _ _ _ _⟩
end Go.Proofs.YtaejfobbogahmaaGreatDoor
