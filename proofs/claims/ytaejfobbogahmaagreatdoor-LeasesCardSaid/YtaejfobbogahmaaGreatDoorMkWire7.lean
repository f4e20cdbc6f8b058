/-
  Wire7 Let: texts of their own, joined.
-/
import Derived.Test.YtaejfobbogahmaaGreatDoorMkWire4
import Derived.Test.YtaejfobbogahmaaGreatDoorMkSplit
import Derived.ChangeAgain
import Derived.Lib.OthersKept
import Derived.Test.YtaejfobbogahmaaGreatDoorMkPure
import Derived.Lib.TrimUEq
set_option maxRecDepth 100000
set_option maxHeartbeats 16000000
set_option linter.all false
namespace Go.Proofs.YtaejfobbogahmaaGreatDoor
open Go Go.RowKit
def Env (G:Nat) (w:World):Prop:=∃W0:World,W0.heap.size≤G∧W0.ShapedOpen Tryz.prog∧U8T W0∧Lib.TabIs Tryz.prog W0 "internal/strconv.uint64pow10" .u64 Lib.pow10Tab∧Below W0.heap.size W0 w
section
variable {G:Nat} {w w':World}
theorem Env.shaped (h:Env G w):w.ShapedOpen Tryz.prog:=by
 obtain ⟨W0,h1,h2,h3,h4,h5⟩:=h
 exact h2.keptBut (h5.frame (fun _=>False)) (fun _ f=>f.elim)
theorem Env.u8 (h:Env G w):U8T w:=by
 obtain ⟨W0,h1,h2,h3,h4,h5⟩:=h
 exact Utf8Tabs_below h3 h5
theorem Env.tab (h:Env G w):Lib.TabIs Tryz.prog w "internal/strconv.uint64pow10" .u64 Lib.pow10Tab:=by
 obtain ⟨W0,h1,h2,h3,h4,h5⟩:=h
 unfold Lib.TabIs World.var? at h4 ⊢
 obtain ⟨g,hg,h6⟩:=Option.bind_eq_some_iff.1 h4
 refine Option.bind_eq_some_iff.2 ⟨g,hg,?_⟩
 have hlt:g < W0.heap.size:=by
  rcases Nat.lt_or_ge g W0.heap.size with h' | h'
  ·exact h'
  ·rw [Array.getElem?_eq_none h'] at h6;cases h6
 rw [h5.block g hlt]
 exact h6
theorem Env.fr {S:Nat→Prop} (h:Env G w) (hf:Fr S w w') (hS:∀b,S b→G≤b):Env G w':=by
 obtain ⟨W0,h1,h2,h3,h4,h5⟩:=h
 exact ⟨W0,h1,h2,h3,h4,h5.trans (hf.below h5.size (fun x hx=>Nat.le_trans h1 (hS x hx)))⟩
theorem Env.below {B:Nat} (h:Env G w) (hf:Below B w w') (hB:G≤B):Env G w':=by
 obtain ⟨W0,h1,h2,h3,h4,h5⟩:=h
 exact ⟨W0,h1,h2,h3,h4,h5.trans (hf.mono (Nat.le_trans h1 hB))⟩
theorem Env.alloc (h:Env G w) (o:Obj):Env G (w.alloc o):=h.fr (S:=fun _=>False) ((Fr.refl _ w).alloc o) (fun _ h=>h.elim)
theorem Env.drew (h:Env G w):Env G w.drew:=h.fr (S:=fun _=>False) ((Fr.refl _ w).drew) (fun _ h=>h.elim)
theorem Env.grow (h:Env G w) (hf:Below w.heap.size w w'):Env G w':=by
 obtain ⟨W0,h1,h2,h3,h4,h5⟩:=h
 exact ⟨W0,h1,h2,h3,h4,h5.trans (hf.mono h5.size)⟩
end
def zBC (c:UInt8) (ws:Bytes) (m:Msg):Msg×Bool:=
 if c=105 then ({m with id:=numV ws},numOk ws) else if c=97 then ({m with att:=numV ws},numOk ws)
 else if c=116 then ({m with tenant:=ws},zER ws) else ({m with text:=ws},zEC ws)
def zAe:Bytes→List Bytes→Msg→Msg×Bool
 | c::f,ws::l,m=>if (zBC c ws m).2 then zAe f l (zBC c ws m).1 else ((zBC c ws m).1,false)
 | _,_,m=>(m,true)
def msg0 (k:Bytes):Msg:=⟨k,0,0,[],[]⟩
def zBy (l:Bytes):Msg×Bool:=
 match cut 32 l with
 | []=>(msg0 [],false)
 | k::ws=>match zCw k with
   | none=>(msg0 k,false)
   | some f=>if ws.length=f.length then zAe f ws (msg0 k) else (msg0 k,false)
theorem zEJ (a:Bytes):(zAr a=none∧numV a=0∧numOk a=false)∨∃n,zAr a=some n∧numV a=n∧numOk a=true:=by
 cases h:zAr a with
 | none=>exact .inl ⟨rfl,zBb h⟩
 | some n=>exact .inr ⟨n,rfl,zEa h⟩
theorem zSF {c:UInt8}:∀(l:Bytes),cut c l≠[]
 | []=>by simp [cut]
 | x::l=>by
   unfold cut
   split
   ·simp
   ·split<;>simp
theorem zUP (l:Bytes):zAo l=if (zBy l).2=true then some (zBy l).1 else none:=by
 unfold zAo zBy
 cases hc:cut 32 l with
 | nil=>rfl
 | cons k ws =>
   simp only
   by_cases h1:k=kSub
   ·subst h1
    rw [show zCw kSub=some [105,116,120] from rfl]
    match ws with
    | []=>rfl
    | [a]=>rfl
    | [a,b]=>rfl
    | [a,b,c] =>
      rcases zEJ a with ⟨e1,e2,e3⟩ | ⟨n,e1,e2,e3⟩
      ·simp [show kSub≠kDone by decide,e1,zAe,zBC,e3]
      ·cases hb:zER b<;>cases hx:zEC c<;>simp [show kSub≠kDone by decide,e1,zAe,zBC,e3,e2,hb,hx,msg0]
    | a::b::c::d::r=>simp
   by_cases h2:k=kCan
   ·subst h2
    rw [show zCw kCan=some [105] from rfl]
    match ws with
    | []=>rfl
    | [a] =>
      rcases zEJ a with ⟨e1,e2,e3⟩ | ⟨n,e1,e2,e3⟩
      ·simp [e1,zAe,zBC,e3]
      ·simp [e1,zAe,zBC,e3,e2,msg0]
    | [a,b]=>rfl
    | [a,b,c]=>rfl
    | a::b::c::d::r=>simp
   by_cases h3:k=kDone
   ·subst h3
    rw [show zCw kDone=some [105,97,120] from rfl]
    match ws with
    | []=>rfl
    | [a]=>rfl
    | [a,b]=>rfl
    | [a,b,c] =>
      rcases zEJ a with ⟨e1,e2,e3⟩ | ⟨n,e1,e2,e3⟩
      ·simp [e1,zAe,zBC,e3]
      ·rcases zEJ b with ⟨f1,f2,f3⟩ | ⟨m,f1,f2,f3⟩
       ·simp [e1,zAe,zBC,e3,f1,f3]
       ·cases hx:zEC c<;>simp [e1,zAe,zBC,e3,e2,f1,f2,f3,hx,msg0]
    | a::b::c::d::r=>simp
   by_cases h4:k=kFail
   ·subst h4
    rw [show zCw kFail=some [105,97] from rfl]
    match ws with
    | []=>rfl
    | [a]=>rfl
    | [a,b] =>
      rcases zEJ a with ⟨e1,e2,e3⟩ | ⟨n,e1,e2,e3⟩
      ·simp [e1,zAe,zBC,e3]
      ·rcases zEJ b with ⟨f1,f2,f3⟩ | ⟨m,f1,f2,f3⟩
       ·simp [e1,zAe,zBC,e3,f1,f3]
       ·simp [e1,zAe,zBC,e3,e2,f1,f2,f3,msg0]
    | [a,b,c]=>rfl
    | a::b::c::d::r=>simp
   by_cases h5:k=kPull∨k=kBeat∨k=zCZ
   ·have hf:zCw k=some []:=by unfold zCw;rw [if_neg h1,if_neg h2,if_neg h3,if_neg h4,if_pos h5]
    rw [hf]
    match ws with
    | []=>simp [h5,zAe,msg0]
    | [a]=>simp [h2]
    | [a,b]=>simp [h4]
    | [a,b,c]=>simp [h3,h1]
    | a::b::c::d::r=>simp
   ·have hf:zCw k=none:=by unfold zCw;rw [if_neg h1,if_neg h2,if_neg h3,if_neg h4,if_neg h5]
    rw [hf]
    match ws with
    | []=>simp [h5]
    | [a]=>simp [h2]
    | [a,b]=>simp [h4]
    | [a,b,c]=>simp [h3,h1]
    | a::b::c::d::r=>simp
def zAF (m:Msg):Array Value:=#[vs (bs m.kind),vi m.id,vi m.att,vs (bs m.tenant),vs (bs m.text)]
def zUQ (l:Bytes) (w:World) (e:Ending) (w':World):Prop:=e=.returned (.tuple #[.agg (zAF (zBy l).1),.bool (zBy l).2])∧Below w.heap.size w w'
def MsgAt (w:World) (B:Nat) (m:Msg):Prop:=w.heap[B]?=some (.cells (zAF m) 91 (0,0))
theorem zMZ {k f:Bytes} (h:zCw k=some f):f.length≤3∧∀(j:Nat) (c:UInt8),f[j]?=some c→c=105∨c=97∨c=116∨c=120:=by
 have:f=[105,116,120]∨f=[105]∨f=[105,97,120]∨f=[105,97]∨f=[]:=by
  unfold zCw at h
  (repeat' split at h)<;>simp at h<;>simp [←h]
 have hm:∀c∈f,c=105∨c=97∨c=116∨c=120:=by
  rcases this with rfl | rfl | rfl | rfl | rfl<;>simp
 refine ⟨by rcases this with rfl | rfl | rfl | rfl | rfl<;>simp,fun j c hj=>hm c (List.mem_of_getElem? hj)⟩
theorem zCB {w:World} {R:Nat} {m:Msg} {b:Bool} (t:Array Value) (ht:t[2]?=some (vp R)) (ht2:t[3]?=some (.bool b)) (h:MsgAt w R m):(results Tryz.f37 t).run Tryz.prog w=.ok (.tuple #[.agg (zAF m),.bool b]) w:=by
 have e0:=zAA h (off:=0) rfl
 have e1:=zAA h (off:=1) rfl
 have e2:=zAA h (off:=2) rfl
 have e3:=zAA h (off:=3) rfl
 have e4:=zAA h (off:=4) rfl
 simp [results,Tryz.results37,go_sem,ht,ht2,e0,e1,e2,e3,e4]
 rfl
theorem zDc {w:World} {R M:Nat} {mr m:Msg} (hR:MsgAt w R mr) (hM:MsgAt w M m) :
 (w.cell? ⟨M,0,none⟩=some (vs (bs m.kind))∧w.cell? ⟨M,1,none⟩=some (vi m.id)∧w.cell? ⟨M,2,none⟩=some (vi m.att)∧w.cell? ⟨M,3,none⟩=some (vs (bs m.tenant))∧w.cell? ⟨M,4,none⟩=some (vs (bs m.text))) ∧
 (w.cell? ⟨R,0,none⟩=some (vs (bs mr.kind))∧w.cell? ⟨R,1,none⟩=some (vi mr.id)∧w.cell? ⟨R,2,none⟩=some (vi mr.att)∧w.cell? ⟨R,3,none⟩=some (vs (bs mr.tenant))∧w.cell? ⟨R,4,none⟩=some (vs (bs mr.text))) ∧
 w.frozen? ⟨R,0,none⟩=false∧w.frozen? ⟨R,1,none⟩=false∧w.frozen? ⟨R,2,none⟩=false∧w.frozen? ⟨R,3,none⟩=false∧w.frozen? ⟨R,4,none⟩=false:=
 ⟨⟨zAA hM rfl,zAA hM rfl,zAA hM rfl,zAA hM rfl,zAA hM rfl⟩,⟨zAA hR rfl,zAA hR rfl,zAA hR rfl,zAA hR rfl,zAA hR rfl⟩,
   zAC hR,zAC hR,zAC hR,zAC hR,zAC hR⟩
theorem zCo {w:World} {R:Nat} {mr m:Msg} (hR:MsgAt w R mr) :
 MsgAt (((((w.setCell ⟨R,0,none⟩ (vs (bs m.kind))).setCell ⟨R,1,none⟩ (vi m.id)).setCell ⟨R,2,none⟩ (vi m.att)).setCell ⟨R,3,none⟩ (vs (bs m.tenant))).setCell ⟨R,4,none⟩ (vs (bs m.text))) R m:=
 zAE _ (zAE _ (zAE _ (zAE _ (zAE _ hR))))
theorem zBt {w w':World} {R:Nat} (hb:Below w.heap.size w w') (hR:w.heap.size≤R) (a b c d e:Value) :
 Below w.heap.size w (((((w'.setCell ⟨R,0,none⟩ a).setCell ⟨R,1,none⟩ b).setCell ⟨R,2,none⟩ c).setCell ⟨R,3,none⟩ d).setCell ⟨R,4,none⟩ e):=
 ((((hb.setCell hR _).setCell hR _).setCell hR _).setCell hR _).setCell hR _
def WAt (w:World) (f:Bytes) (words:List Bytes) (wx:World) (j:Nat) (m:Msg):Prop:=
 wx.heap[w.heap.size+3]?=some (.stringIter (bs f) j)∧MsgAt wx (w.heap.size+2) m∧MsgAt wx w.heap.size (msg0 []) ∧
  wx.heap[w.heap.size+1]?=some (.cells ((words.map bs).map Value.string).toArray 9 (0,0))∧Below w.heap.size w wx
theorem zOL {w w2:World} {f:Bytes} {words:List Bytes} {m:Msg} (hs:w2.heap.size=w.heap.size+3) (hm:MsgAt w2 (w.heap.size+2) m) (hr:MsgAt w2 w.heap.size (msg0 []))
 (hw:w2.heap[w.heap.size+1]?=some (.cells ((words.map bs).map Value.string).toArray 9 (0,0))) (hb:Below w.heap.size w w2):WAt w f words (w2.iter (bs f) 0) 0 m:=
 ⟨by rw [←hs];exact w2.iter_heap (bs f) 0,(zAG w2 (by omega)).trans hm,(zAG w2 (by omega)).trans hr,(zAG w2 (by omega)).trans hw,hb.alloc hb.size _⟩
theorem WAt.next {w wx:World} {f:Bytes} {words:List Bytes} {j:Nat} {m:Msg} (h:WAt w f words wx j m):WAt w f words (wx.iterAt (w.heap.size+3) (bs f) (j+1)) (j+1) m:=by
 obtain ⟨h1,h2,h3,h4,h5⟩:=h
 exact ⟨Lib.iterAt_heap wx _ _ _ _ h1,(Lib.iterAt_other wx _ _ _ _ (by omega)).trans h2,(Lib.iterAt_other wx _ _ _ _ (by omega)).trans h3,(Lib.iterAt_other wx _ _ _ _ (by omega)).trans h4,Lib.below_iterAt h5 (by omega) _ _⟩
theorem WAt.grown {w wx w':World} {f:Bytes} {words:List Bytes} {j:Nat} {m:Msg} (h:WAt w f words wx j m) (hb:Below wx.heap.size wx w'):WAt w f words w' j m:=by
 obtain ⟨h1,h2,h3,h4,h5⟩:=h
 exact ⟨(hb.block _ (zAL _ h1)).trans h1,(hb.block _ (zAL _ h2)).trans h2,(hb.block _ (zAL _ h3)).trans h3,(hb.block _ (zAL _ h4)).trans h4,h5.trans (hb.mono h5.size)⟩
theorem zLP {w:World} {B j:Nat} {f:Bytes} {ty:TypeId} (c:UInt8) (hb:w.heap[B]?=some (.stringIter (bs f) j)) (hc:f[j]?=some c) (h:c.toNat < 128) :
 (Instr.next (.pointer (some ⟨B,0,none⟩)) true ty).run Tryz.prog w=.ok (.tuple #[.bool true,.int .i64 j,.int .i32 c.toNat]) (w.iterAt B (bs f) (j+1)):=by
 have hj:j < (bs f).size:=by rw [zAp];exact (List.getElem?_eq_some_iff.1 hc).1
 rw [Lib.run_next_ascii_at w B (bs f) j ty hb hj (by rw [zCb hc];exact h),zCb hc]
theorem zCV {w:World} {B j:Nat} {s:ByteArray} (h:w.heap[B]?=some (.stringIter s j)):w.iterPos B=j:=by simp [World.iterPos,h]
theorem zHq {α:Type} {l:List α} {j:Nat} {x:α} (h:l[j]?=some x):l.drop j=x::l.drop (j+1):=by
 have hj:=(List.getElem?_eq_some_iff.1 h).1
 rw [List.drop_eq_getElem_cons hj]
 congr 1
 exact (List.getElem?_eq_some_iff.1 h).2
theorem zKO {c:UInt8}:∀(l:Bytes) (a:Bytes),a∈cut c l→a.length≤l.length
 | [],a,h=>by simp [cut] at h;simp [h]
 | x::l,a,h=>by
   unfold cut at h
   split at h
   ·rcases List.mem_cons.1 h with e | e
    ·rw [e];simp
    ·have:=zKO l a e;simp;omega
   ·split at h
    ·simp at h;rw [h];simp
    ·rename_i b r hb
     rcases List.mem_cons.1 h with e | e
     ·have:=zKO l b (by rw [hb];exact List.mem_cons_self)
      rw [e];simp;omega
     ·have:=zKO l a (by rw [hb];exact List.mem_cons_of_mem _ e)
      simp;omega
theorem zMa (args:Array Value) (w:World):(callFunc 66 args).run Tryz.prog w=.ok (.enter 66 args) w:=by kernel_rfl
theorem zLQ (args:Array Value) (w:World):(callFunc 67 args).run Tryz.prog w=.ok (.enter 67 args) w:=by kernel_rfl
theorem zQb {G:Nat} {w:World} (hE:Env G w) (l:Bytes) (hl:l.length≤1099511627):Calls Tryz.prog 37 #[vs (bs l)] w (zUQ l w):=by
 have HS:=Lib.hid (fun w h=>Tryz.strings_Split_shaped (bs l) (bs [32]) w h (by rw [zAp];omega) (by decide))
 obtain ⟨hc1,hc2⟩:=zMY 32 l.length l (Nat.le_refl _)
 rw [hc1,hc2] at HS
 have HA:=Lib.hid (hE.alloc (.cells #[.string ⟨#[]⟩,.int .i64 0,.int .i64 0,.string ⟨#[]⟩,.string ⟨#[]⟩] 91))
 obtain ⟨k,ws,hcut⟩:∃k ws,cut 32 l=k::ws:=by
  cases h:cut 32 l with
  | nil=>exact absurd h (zSF l)
  | cons k ws=>exact ⟨k,ws,rfl⟩
 rw [hcut] at HS
 have HR:Hid (zBy l=match zCw k with
  | none=>(msg0 k,false)
  | some f=>if ws.length=f.length then zAe f ws (msg0 k) else (msg0 k,false)):=show _=_ by unfold zBy;rw [hcut]
 have hEE:=Lib.hid hE
 have HWL:Hid (∀wd∈ws,wd.length≤1099511627776):=fun wd hw=>by
  have:=zKO (c:=32) l wd (by rw [hcut];exact List.mem_cons_of_mem _ hw);omega
 clear hc1 hc2 hE hcut
 go_enter Tryz.func37,Tryz.ntmps37
 go_wp2_with fail
 refine (HS.out _ HA.out.shaped).mono ?_
 rintro e w1 ⟨rfl,hw1⟩
 have Hw1:=Lib.hid hw1
 rw [World.size_alloc] at *
 have hs1:Hid (w1.heap.size=w.heap.size+2):=show _=_ by rw [hw1];simp
 have Hwd:Hid (w1.heap[w.heap.size+1]?=some (.cells (((k::ws).map bs).map Value.string).toArray 9 (0,0))):=show _=_ by
  rw [hw1];have:=zAD (w.alloc (.cells #[.string ⟨#[]⟩,.int .i64 0,.int .i64 0,.string ⟨#[]⟩,.string ⟨#[]⟩] 91)) (o:=.cells (((k::ws).map bs).map Value.string).toArray 9);rw [World.size_alloc] at this;exact this
 have c0:w1.cell? ⟨w.heap.size+1,0,none⟩=some (vs (bs k)):=zAA Hwd.out rfl
 have HF:=Lib.hid (fun w=>zQa k w)
 have hB1:Hid (Below w.heap.size w w1):=show Below _ _ _ by
  rw [hw1];exact ((Below.refl _ _).alloc (Nat.le_refl _) _).alloc (by simp) _
 have HE1:Hid (Env G w1):=show Env _ _ by rw [hw1];exact HA.out.alloc _
 have HR1:Hid (MsgAt w1 w.heap.size (msg0 [])):=show MsgAt _ _ _ by
  rw [hw1];exact (zAG _ (by simp)).trans (zAD w)
 clear hw1 Hw1 HA HS
 go_wp2_with fail
 rw [hs1.out]
 refine (HF.out _).mono ?_
 rintro e w2 ⟨rfl,hw2⟩
 have Hw2:=Lib.hid hw2
 have hs2:Hid (w2.heap.size=w.heap.size+3):=show _=_ by rw [←hw2];simp [hs1.out]
 have Hm:Hid (MsgAt w2 (w.heap.size+2) (msg0 k)):=show MsgAt _ _ _ by rw [←hw2,←hs1.out];exact zAD w1
 have Hr:Hid (MsgAt w2 w.heap.size (msg0 [])):=show MsgAt _ _ _ by rw [←hw2];exact (zAG _ (by rw [hs1.out];omega)).trans HR1.out
 have Hwd2:Hid (w2.heap[w.heap.size+1]?=some (.cells (((k::ws).map bs).map Value.string).toArray 9 (0,0))):=show _=_ by rw [←hw2];exact (zAG _ (by rw [hs1.out];omega)).trans Hwd.out
 have hB2:Hid (Below w.heap.size w w2):=show Below _ _ _ by rw [←hw2];exact hB1.out.alloc hB1.out.size _
 have HE2:Hid (Env G w2):=show Env _ _ by rw [←hw2];exact HE1.out.alloc _
 clear hw2 Hw2 hB1 HE1 HR1 Hwd hs1 c0
 cases hf:zCw k with
 | none =>
   have Hres:Hid (zBy l=(msg0 k,false)):=show _=_ by rw [HR.out,hf]
   obtain ⟨⟨m0,m1,m2,m3,m4⟩,⟨r0,r1,r2,r3,r4⟩,f0,f1,f2,f3,f4⟩:=zDc Hr.out Hm.out
   simp only [Option.getD_none,Option.isSome_none]
   clear hf
   go_wp2_with fail
   refine bodyPost_ret (v:=.tuple #[.agg (zAF (msg0 k)),.bool false]) (zCB _ rfl rfl (zCo Hr.out)) rfl ⟨by rw [Hres.out],zBt hB2.out (Nat.le_refl _) _ _ _ _ _⟩
 | some f =>
   have hff:=zMZ hf
   obtain ⟨hf3,hfc⟩:=hff
   have Hfc:=Lib.hid hfc
   have HR2:Hid (zBy l=if ws.length=f.length then zAe f ws (msg0 k) else (msg0 k,false)):=show _=_ by rw [HR.out,hf]
   simp only [Option.getD_some,Option.isSome_some]
   have hfz:(bs f).size=f.length:=zAp f
   clear hf hfc HR
   by_cases hlen:ws.length=f.length
   ·have HR:Hid (zBy l=zAe f ws (msg0 k)):=show _=_ by rw [HR2.out,if_pos hlen]
    have hl1:((ws.length:Int)+1 != (f.length:Int)+1)=false:=by rw [hlen];simp
    have hl2:((ws.length:Int) != (f.length:Int))=false:=by rw [hlen];simp
    have Hlen:=Lib.hid hlen
    have hs2e:=hs2.out
    have HW0:Hid (WAt w f (k::ws) (w2.iter (bs f) 0) 0 (msg0 k)):=zOL hs2.out Hm.out Hr.out Hwd2.out hB2.out
    have HE:=Lib.hid hEE.out
    clear hlen HR2
    go_wp2_with fail
    clear hs2e
    go_loopw [7,8,9,10] (fun s7 _ _ _ wx=>∃(j:Nat) (m:Msg),s7=.bool true∧j≤f.length∧Hid (WAt w f (k::ws) wx j m)∧Hid (zAe (f.drop j) (ws.drop j) m=zAe f ws (msg0 k))) (fun _ _ _ _ wx=>f.length - wx.iterPos (w.heap.size+3))
    case atStart=>exact ⟨0,msg0 k,rfl,Nat.zero_le _,HW0.out,rfl⟩
    case round =>
     obtain ⟨j,m,rfl,hj,HWx,Hrf⟩:=hrel
     clear HW0
     by_cases hjl:j < f.length
     ·obtain ⟨c,hcj⟩:∃c,f[j]?=some c:=⟨_,List.getElem?_eq_getElem hjl⟩
      obtain ⟨wd,hwd⟩:∃wd,ws[j]?=some wd:=⟨_,List.getElem?_eq_getElem (by rw [Hlen.out];exact hjl)⟩
      have Hcons:Hid (zAe (f.drop j) (ws.drop j) m=zAe (c::f.drop (j+1)) (wd::ws.drop (j+1)) m):=show _=_ by rw [zHq hcj,zHq hwd]
      have Hwl:Hid (wd.length≤1099511627776):=HWL.out wd (List.mem_of_getElem? hwd)
      have hj0:(0:Int)≤(j:Int)+1:=by omega
      have hj1:(j:Int)+1 < (ws.length:Int)+1:=by have:=Hlen.out;omega
      have hj2:((j:Int)+1).toNat=j+1:=by omega
      have hcc:=Hfc.out j c hcj
      rcases hcc with rfl | rfl | rfl | rfl
      ·
       have hnx:=fun ty=>zLP (ty:=ty) 105 HWx.out.1 hcj (by decide)
       have HW3:=Lib.hid (HWx.out.next)
       generalize wr.iterAt (w.heap.size+3) (bs f) (j+1)=w3 at *
       have cw:w3.cell? ⟨w.heap.size+1,j+1,none⟩=some (vs (bs wd)):=zAA HW3.out.2.2.2.1 (by simp [hwd])
       have HC:=Lib.hid (zHp wd w3)
       obtain ⟨v,Hv⟩:∃v,Hid (numV wd=v):=⟨_,rfl⟩
       obtain ⟨o,Ho⟩:∃v,Hid (numOk wd=v):=⟨_,rfl⟩
       unfold zEx at HC
       rw [Hv.out,Ho.out] at HC
       have Hfs:Hid (zBC 105 wd m=({m with id:=v},o)):=show _=_ by unfold zBC;rw [←Hv.out,←Ho.out];rfl
       obtain ⟨m2,Hm2⟩:∃m2:Msg,Hid (m2={m with id:=v}):=⟨_,rfl⟩
       rw [←Hm2.out] at Hfs
       clear hcj hwd
       go_wp2_with fail
       refine HC.out.mono ?_
       rintro e w4 ⟨rfl,hb4⟩
       have HW4:=Lib.hid (HW3.out.grown hb4)
       obtain ⟨⟨m0,m1,m2',m3,m4⟩,⟨r0,r1,r2,r3,r4⟩,f0,f1,f2,f3,f4⟩:=zDc HW4.out.2.2.1 HW4.out.2.1
       have fM:w4.frozen? ⟨w.heap.size+2,1,none⟩=false:=zAC HW4.out.2.1
       have HW5:Hid (MsgAt (w4.setCell ⟨w.heap.size+2,1,none⟩ (vi v)) (w.heap.size+2) m2∧MsgAt (w4.setCell ⟨w.heap.size+2,1,none⟩ (vi v)) w.heap.size (msg0 [])∧Below w.heap.size w (w4.setCell ⟨w.heap.size+2,1,none⟩ (vi v))):=
        ⟨by rw [Hm2.out];exact zAE w4 HW4.out.2.1,(zAB w4 (by simp)).trans HW4.out.2.2.1,HW4.out.2.2.2.2.setCell (by simp) _⟩
       have HIP:Hid (World.iterPos (w4.setCell ⟨w.heap.size+2,1,none⟩ (vi v)) (w.heap.size+3)=j+1):=zCV ((zAB w4 (by simp)).trans HW4.out.1)
       clear hb4
       cases o with
       | false =>
         have Hres:Hid (zBy l=(m2,false)):=show _=_ by rw [HR.out,←Hrf.out,Hcons.out,zAe,Hfs.out];rfl
         go_wp2_with fail
         refine bodyPost_ret (v:=.tuple #[.agg (zAF m2),.bool false]) (zCB _ rfl rfl (by have:=zCo (m:=m2) HW5.out.2.1;rw [Hm2.out] at this ⊢;exact this)) rfl ⟨by rw [Hres.out],zBt HW5.out.2.2 (Nat.le_refl _) _ _ _ _ _⟩
       | true =>
         go_wp2_with fail
         go_roundw
         case rel =>
          refine ⟨j+1,m2,rfl,by omega,⟨(zAB w4 (by simp)).trans HW4.out.1,HW5.out.1,HW5.out.2.1,(zAB w4 (by simp)).trans HW4.out.2.2.2.1,HW5.out.2.2⟩,?_⟩
          show _=_
          rw [←Hrf.out,Hcons.out,zAe,Hfs.out];rfl
         case measure =>
          have e1:=zCV HWx.out.1
          have e2:=HIP.out
          rw [e1,e2];omega
      ·
       have hnx:=fun ty=>zLP (ty:=ty) 97 HWx.out.1 hcj (by decide)
       have HW3:=Lib.hid (HWx.out.next)
       generalize wr.iterAt (w.heap.size+3) (bs f) (j+1)=w3 at *
       have cw:w3.cell? ⟨w.heap.size+1,j+1,none⟩=some (vs (bs wd)):=zAA HW3.out.2.2.2.1 (by simp [hwd])
       have HC:=Lib.hid (zHp wd w3)
       obtain ⟨v,Hv⟩:∃v,Hid (numV wd=v):=⟨_,rfl⟩
       obtain ⟨o,Ho⟩:∃v,Hid (numOk wd=v):=⟨_,rfl⟩
       unfold zEx at HC
       rw [Hv.out,Ho.out] at HC
       have Hfs:Hid (zBC 97 wd m=({m with att:=v},o)):=show _=_ by unfold zBC;rw [←Hv.out,←Ho.out];rfl
       obtain ⟨m2,Hm2⟩:∃m2:Msg,Hid (m2={m with att:=v}):=⟨_,rfl⟩
       rw [←Hm2.out] at Hfs
       clear hcj hwd
       go_wp2_with fail
       refine HC.out.mono ?_
       rintro e w4 ⟨rfl,hb4⟩
       have HW4:=Lib.hid (HW3.out.grown hb4)
       obtain ⟨⟨m0,m1,m2',m3,m4⟩,⟨r0,r1,r2,r3,r4⟩,f0,f1,f2,f3,f4⟩:=zDc HW4.out.2.2.1 HW4.out.2.1
       have fM:w4.frozen? ⟨w.heap.size+2,2,none⟩=false:=zAC HW4.out.2.1
       have HW5:Hid (MsgAt (w4.setCell ⟨w.heap.size+2,2,none⟩ (vi v)) (w.heap.size+2) m2∧MsgAt (w4.setCell ⟨w.heap.size+2,2,none⟩ (vi v)) w.heap.size (msg0 [])∧Below w.heap.size w (w4.setCell ⟨w.heap.size+2,2,none⟩ (vi v))):=
        ⟨by rw [Hm2.out];exact zAE w4 HW4.out.2.1,(zAB w4 (by simp)).trans HW4.out.2.2.1,HW4.out.2.2.2.2.setCell (by simp) _⟩
       have HIP:Hid (World.iterPos (w4.setCell ⟨w.heap.size+2,2,none⟩ (vi v)) (w.heap.size+3)=j+1):=zCV ((zAB w4 (by simp)).trans HW4.out.1)
       clear hb4
       cases o with
       | false =>
         have Hres:Hid (zBy l=(m2,false)):=show _=_ by rw [HR.out,←Hrf.out,Hcons.out,zAe,Hfs.out];rfl
         go_wp2_with fail
         refine bodyPost_ret (v:=.tuple #[.agg (zAF m2),.bool false]) (zCB _ rfl rfl (by have:=zCo (m:=m2) HW5.out.2.1;rw [Hm2.out] at this ⊢;exact this)) rfl ⟨by rw [Hres.out],zBt HW5.out.2.2 (Nat.le_refl _) _ _ _ _ _⟩
       | true =>
         go_wp2_with fail
         go_roundw
         case rel =>
          refine ⟨j+1,m2,rfl,by omega,⟨(zAB w4 (by simp)).trans HW4.out.1,HW5.out.1,HW5.out.2.1,(zAB w4 (by simp)).trans HW4.out.2.2.2.1,HW5.out.2.2⟩,?_⟩
          show _=_
          rw [←Hrf.out,Hcons.out,zAe,Hfs.out];rfl
         case measure =>
          have e1:=zCV HWx.out.1
          have e2:=HIP.out
          rw [e1,e2];omega
      ·
       have hnx:=fun ty=>zLP (ty:=ty) 116 HWx.out.1 hcj (by decide)
       have HW3:=Lib.hid (HWx.out.next)
       generalize wr.iterAt (w.heap.size+3) (bs f) (j+1)=w3 at *
       have cw:w3.cell? ⟨w.heap.size+1,j+1,none⟩=some (vs (bs wd)):=zAA HW3.out.2.2.2.1 (by simp [hwd])
       have HC:=Lib.hid (show Calls Tryz.prog 65 #[vs (bs wd),.int .i64 6,.func (.func 66) #[] #[]] w3 _ from zGc wd Hwl.out 6 (by decide) zAK 66 zMa (fun m w h=>zMX m h w) w3 (HE.out.grow HW3.out.2.2.2.2).u8)
       obtain ⟨o,Ho⟩:∃v,Hid (zCG wd 6 zAK=v):=⟨_,rfl⟩
       rw [Ho.out] at HC
       have Hfs:Hid (zBC 116 wd m=({m with tenant:=wd},o)):=show _=_ by unfold zBC zER;rw [←Ho.out];rfl
       obtain ⟨m2,Hm2⟩:∃m2:Msg,Hid (m2={m with tenant:=wd}):=⟨_,rfl⟩
       rw [←Hm2.out] at Hfs
       clear hcj hwd
       go_wp2_with fail
       refine HC.out.mono ?_
       rintro e w4 ⟨rfl,hb4⟩
       have HW4:=Lib.hid (HW3.out.grown hb4)
       obtain ⟨⟨m0,m1,m2',m3,m4⟩,⟨r0,r1,r2,r3,r4⟩,f0,f1,f2,f3,f4⟩:=zDc HW4.out.2.2.1 HW4.out.2.1
       have fM:w4.frozen? ⟨w.heap.size+2,3,none⟩=false:=zAC HW4.out.2.1
       have HW5:Hid (MsgAt (w4.setCell ⟨w.heap.size+2,3,none⟩ (vs (bs wd))) (w.heap.size+2) m2∧MsgAt (w4.setCell ⟨w.heap.size+2,3,none⟩ (vs (bs wd))) w.heap.size (msg0 [])∧Below w.heap.size w (w4.setCell ⟨w.heap.size+2,3,none⟩ (vs (bs wd)))):=
        ⟨by rw [Hm2.out];exact zAE w4 HW4.out.2.1,(zAB w4 (by simp)).trans HW4.out.2.2.1,HW4.out.2.2.2.2.setCell (by simp) _⟩
       have HIP:Hid (World.iterPos (w4.setCell ⟨w.heap.size+2,3,none⟩ (vs (bs wd))) (w.heap.size+3)=j+1):=zCV ((zAB w4 (by simp)).trans HW4.out.1)
       clear hb4
       cases o with
       | false =>
         have Hres:Hid (zBy l=(m2,false)):=show _=_ by rw [HR.out,←Hrf.out,Hcons.out,zAe,Hfs.out];rfl
         go_wp2_with fail
         refine bodyPost_ret (v:=.tuple #[.agg (zAF m2),.bool false]) (zCB _ rfl rfl (by have:=zCo (m:=m2) HW5.out.2.1;rw [Hm2.out] at this ⊢;exact this)) rfl ⟨by rw [Hres.out],zBt HW5.out.2.2 (Nat.le_refl _) _ _ _ _ _⟩
       | true =>
         go_wp2_with fail
         go_roundw
         case rel =>
          refine ⟨j+1,m2,rfl,by omega,⟨(zAB w4 (by simp)).trans HW4.out.1,HW5.out.1,HW5.out.2.1,(zAB w4 (by simp)).trans HW4.out.2.2.2.1,HW5.out.2.2⟩,?_⟩
          show _=_
          rw [←Hrf.out,Hcons.out,zAe,Hfs.out];rfl
         case measure =>
          have e1:=zCV HWx.out.1
          have e2:=HIP.out
          rw [e1,e2];omega
      ·
       have hnx:=fun ty=>zLP (ty:=ty) 120 HWx.out.1 hcj (by decide)
       have HW3:=Lib.hid (HWx.out.next)
       generalize wr.iterAt (w.heap.size+3) (bs f) (j+1)=w3 at *
       have cw:w3.cell? ⟨w.heap.size+1,j+1,none⟩=some (vs (bs wd)):=zAA HW3.out.2.2.2.1 (by simp [hwd])
       have HC:=Lib.hid (show Calls Tryz.prog 65 #[vs (bs wd),.int .i64 12,.func (.func 67) #[] #[]] w3 _ from zGc wd Hwl.out 12 (by decide) zAN 67 zLQ (fun m w h=>zLN m h w) w3 (HE.out.grow HW3.out.2.2.2.2).u8)
       obtain ⟨o,Ho⟩:∃v,Hid (zCG wd 12 zAN=v):=⟨_,rfl⟩
       rw [Ho.out] at HC
       have Hfs:Hid (zBC 120 wd m=({m with text:=wd},o)):=show _=_ by unfold zBC zEC;rw [←Ho.out];rfl
       obtain ⟨m2,Hm2⟩:∃m2:Msg,Hid (m2={m with text:=wd}):=⟨_,rfl⟩
       rw [←Hm2.out] at Hfs
       clear hcj hwd
       go_wp2_with fail
       refine HC.out.mono ?_
       rintro e w4 ⟨rfl,hb4⟩
       have HW4:=Lib.hid (HW3.out.grown hb4)
       obtain ⟨⟨m0,m1,m2',m3,m4⟩,⟨r0,r1,r2,r3,r4⟩,f0,f1,f2,f3,f4⟩:=zDc HW4.out.2.2.1 HW4.out.2.1
       have fM:w4.frozen? ⟨w.heap.size+2,4,none⟩=false:=zAC HW4.out.2.1
       have HW5:Hid (MsgAt (w4.setCell ⟨w.heap.size+2,4,none⟩ (vs (bs wd))) (w.heap.size+2) m2∧MsgAt (w4.setCell ⟨w.heap.size+2,4,none⟩ (vs (bs wd))) w.heap.size (msg0 [])∧Below w.heap.size w (w4.setCell ⟨w.heap.size+2,4,none⟩ (vs (bs wd)))):=
        ⟨by rw [Hm2.out];exact zAE w4 HW4.out.2.1,(zAB w4 (by simp)).trans HW4.out.2.2.1,HW4.out.2.2.2.2.setCell (by simp) _⟩
       have HIP:Hid (World.iterPos (w4.setCell ⟨w.heap.size+2,4,none⟩ (vs (bs wd))) (w.heap.size+3)=j+1):=zCV ((zAB w4 (by simp)).trans HW4.out.1)
       clear hb4
       cases o with
       | false =>
         have Hres:Hid (zBy l=(m2,false)):=show _=_ by rw [HR.out,←Hrf.out,Hcons.out,zAe,Hfs.out];rfl
         go_wp2_with fail
         refine bodyPost_ret (v:=.tuple #[.agg (zAF m2),.bool false]) (zCB _ rfl rfl (by have:=zCo (m:=m2) HW5.out.2.1;rw [Hm2.out] at this ⊢;exact this)) rfl ⟨by rw [Hres.out],zBt HW5.out.2.2 (Nat.le_refl _) _ _ _ _ _⟩
       | true =>
         go_wp2_with fail
         go_roundw
         case rel =>
          refine ⟨j+1,m2,rfl,by omega,⟨(zAB w4 (by simp)).trans HW4.out.1,HW5.out.1,HW5.out.2.1,(zAB w4 (by simp)).trans HW4.out.2.2.2.1,HW5.out.2.2⟩,?_⟩
          show _=_
          rw [←Hrf.out,Hcons.out,zAe,Hfs.out];rfl
         case measure =>
          have e1:=zCV HWx.out.1
          have e2:=HIP.out
          rw [e1,e2];omega
     ·obtain rfl:j=f.length:=by omega
      have hnx:=fun ty=>Lib.run_next_end_at (P:=Tryz.prog) wr (w.heap.size+3) (bs f) f.length ty HWx.out.1 (by rw [hfz];omega)
      have Hres:Hid (zBy l=(m,true)):=show _=_ by
       rw [HR.out,←Hrf.out];simp [zAe]
      obtain ⟨⟨m0,m1,m2,m3,m4⟩,⟨r0,r1,r2,r3,r4⟩,f0,f1,f2,f3,f4⟩:=zDc HWx.out.2.2.1 HWx.out.2.1
      go_wp2_with fail
      refine bodyPost_ret (v:=.tuple #[.agg (zAF m),.bool true]) (zCB _ rfl rfl (zCo HWx.out.2.2.1)) rfl ⟨by rw [Hres.out],zBt HWx.out.2.2.2.2 (Nat.le_refl _) _ _ _ _ _⟩
   ·have Hres:Hid (zBy l=(msg0 k,false)):=show _=_ by rw [HR2.out,if_neg hlen]
    obtain ⟨⟨m0,m1,m2,m3,m4⟩,⟨r0,r1,r2,r3,r4⟩,f0,f1,f2,f3,f4⟩:=zDc Hr.out Hm.out
    have hl1:((ws.length:Int)+1 != (f.length:Int)+1)=true:=by simp;omega
    have hl2:((ws.length:Int) != (f.length:Int))=true:=by simp;omega
    clear hlen HR2
    go_wp2_with fail
    refine bodyPost_ret (v:=.tuple #[.agg (zAF (msg0 k)),.bool false]) (zCB _ rfl rfl (zCo Hr.out)) rfl ⟨by rw [Hres.out],zBt hB2.out (Nat.le_refl _) _ _ _ _ _⟩
open Go
def let1:Bytes→Option (Nat×Nat)
 | []=>none
 | c::t =>
   if c.toNat < 128 then some (c.toNat,1)
   else if 194≤c.toNat∧c.toNat < 224 then
    match t with
    | d::_=>if 128≤d.toNat∧d.toNat≤191 then some (64*(c.toNat % 32)+d.toNat % 64,2) else none
    | []=>none
   else if 224≤c.toNat∧c.toNat < 240 then
    match t with
    | d::e::_ =>
      if (128≤d.toNat∧d.toNat≤191)∧(128≤e.toNat∧e.toNat≤191) then
       (if 64*(64*(c.toNat % 16)+d.toNat % 64)+e.toNat % 64 < 2048∨(55296≤64*(64*(c.toNat % 16)+d.toNat % 64)+e.toNat % 64∧64*(64*(c.toNat % 16)+d.toNat % 64)+e.toNat % 64 < 57344) then none
        else some (64*(64*(c.toNat % 16)+d.toNat % 64)+e.toNat % 64,3))
      else none
    | _=>none
   else none
def zBD:Nat→Bytes→Option (List Nat)
 | 0,_=>some []
 | f+1,l=>if l=[] then some [] else match let1 l with | none=>none | some x=>(zBD f (l.drop x.2)).map (x.1::·)
def zBQ (l:Bytes) (most:Nat) (p:Nat→Bool):Bool:=match zBD l.length l with | none=>false | some cs=>cs.all p&&decide (1≤cs.length)&&decide (cs.length≤most)
def zDD:Nat→Bytes→List Nat
 | 0,_=>[]
 | f+1,l=>if l=[] then [] else (Lib.decodeL l).1::zDD f (l.drop (Lib.decodeL l).2)
theorem zGd {l:Bytes} {x:Nat×Nat} (h:let1 l=some x):Lib.decodeL l=x∧1≤x.2∧x.2≤l.length∧¬(x.1=65533∧x.2=1)∧x.1≤65535:=by
 rw [Lib.decodeL_N]
 match l with
 | []=>cases h
 | c::t =>
   have hc:=c.toNat_lt
   unfold let1 at h
   simp only at h
   unfold Lib.decodeN
   simp only [List.getD_cons_zero,List.getD_cons_succ,List.length_cons]
   by_cases h1:c.toNat < 128
   ·rw [if_pos h1] at h ⊢
    cases h
    exact ⟨rfl,by simp,by simp,by simp only;omega,by simp only;omega⟩
   rw [if_neg h1] at h ⊢
   by_cases h2:194≤c.toNat∧c.toNat < 224
   ·rw [if_pos h2] at h
    match t with
    | []=>cases h
    | d::t =>
      simp only at h
      by_cases h3:128≤d.toNat∧d.toNat≤191
      ·rw [if_pos h3] at h
       cases h
       rw [if_pos ⟨by omega,by simp,by simp;omega⟩,if_pos (by simp;omega)]
       refine ⟨by simp;omega,by simp,by simp,by simp only;omega,by simp only;omega⟩
      ·rw [if_neg h3] at h;cases h
   rw [if_neg h2] at h
   by_cases h4:224≤c.toNat∧c.toNat < 240
   ·rw [if_pos h4] at h
    match t with
    | []=>cases h
    | [d]=>cases h
    | d::e::t =>
      simp only at h
      by_cases h5:(128≤d.toNat∧d.toNat≤191)∧(128≤e.toNat∧e.toNat≤191)
      ·rw [if_pos h5] at h
       obtain ⟨x',hx⟩:∃x',x'=64*(64*(c.toNat % 16)+d.toNat % 64)+e.toNat % 64:=⟨_,rfl⟩
       rw [←hx] at h
       by_cases h6:x' < 2048∨(55296≤x'∧x' < 57344)
       ·rw [if_pos h6] at h;cases h
       ·rw [if_neg h6] at h
        cases h
        have e1:c.toNat % 16*4096+d.toNat % 64*64+e.toNat % 64=x':=by omega
        rw [if_neg (by omega),if_pos ⟨by omega,⟨by simp,by simp;omega⟩,by simp,by simp;omega⟩]
        simp only [List.getD_cons_zero,List.getD_cons_succ]
        rw [e1,if_pos (by omega)]
        exact ⟨rfl,by simp,by simp,by omega,by omega⟩
      ·rw [if_neg h5] at h;cases h
   ·rw [if_neg h4] at h;cases h
theorem zSG {l:Bytes} (hl:l≠[]) (h:let1 l=none):Lib.decodeL l=(65533,1)∨65536≤(Lib.decodeL l).1:=by
 rw [Lib.decodeL_N]
 match l,hl with
 | c::t,_ =>
   have hc:=c.toNat_lt
   unfold let1 at h
   simp only at h
   unfold Lib.decodeN
   simp only [List.getD_cons_zero,List.getD_cons_succ,List.length_cons]
   by_cases h1:c.toNat < 128
   ·rw [if_pos h1] at h;cases h
   rw [if_neg h1] at h ⊢
   by_cases h2:194≤c.toNat∧c.toNat < 224
   ·rw [if_pos h2] at h
    match t with
    | [] =>
      rw [if_neg (by simp),if_neg (by omega),if_neg (by omega)]
      exact .inl rfl
    | d::t =>
      have hd:=d.toNat_lt
      simp only at h
      by_cases h3:128≤d.toNat∧d.toNat≤191
      ·rw [if_pos h3] at h;cases h
      ·rw [if_neg (by simp;omega),if_neg (by omega),if_neg (by omega)]
       exact .inl rfl
   rw [if_neg h2] at h
   by_cases h7:c.toNat < 194
   ·by_cases h8:c.toNat / 32=6∧(1 < t.length+1∧(t.getD 0 0).toNat / 64=2)
    ·rw [if_pos h8,if_neg (by omega)];exact .inl rfl
    ·rw [if_neg h8,if_neg (by omega),if_neg (by omega)];exact .inl rfl
   rw [if_neg (by omega)]
   by_cases h4:224≤c.toNat∧c.toNat < 240
   ·rw [if_pos h4] at h
    match t with
    | [] =>
      rw [if_neg (by simp),if_neg (by omega)]
      exact .inl rfl
    | [d] =>
      rw [if_neg (by simp),if_neg (by omega)]
      exact .inl rfl
    | d::e::t =>
      have hd:=d.toNat_lt
      have he:=e.toNat_lt
      simp only at h
      by_cases h5:(128≤d.toNat∧d.toNat≤191)∧(128≤e.toNat∧e.toNat≤191)
      ·rw [if_pos h5] at h
       obtain ⟨x',hx⟩:∃x',x'=64*(64*(c.toNat % 16)+d.toNat % 64)+e.toNat % 64:=⟨_,rfl⟩
       rw [←hx] at h
       by_cases h6:x' < 2048∨(55296≤x'∧x' < 57344)
       ·have e1:c.toNat % 16*4096+d.toNat % 64*64+e.toNat % 64=x':=by omega
        rw [if_pos ⟨by omega,⟨by simp,by simp;omega⟩,by simp,by simp;omega⟩]
        simp only [List.getD_cons_zero,List.getD_cons_succ]
        rw [e1,if_neg (by omega)]
        exact .inl rfl
       ·rw [if_neg h6] at h;cases h
      ·rw [if_neg (by simp;omega),if_neg (by omega)]
       exact .inl rfl
   rw [if_neg (by omega)]
   by_cases h9:c.toNat / 8=30∧(1 < t.length+1∧(t.getD 0 0).toNat / 64=2)∧(2 < t.length+1∧(t.getD 1 0).toNat / 64=2)∧(3 < t.length+1∧(t.getD 2 0).toNat / 64=2)
   ·rw [if_pos h9]
    split
    ·rename_i h10;exact .inr h10.1
    ·exact .inl rfl
   ·rw [if_neg h9];exact .inl rfl
theorem zIz (l:Bytes):∀(f pos:Nat),zBi (bs l) f pos=zDD f (l.drop pos)
 | 0,_=>rfl
 | f+1,pos=>by
   have hsz:(bs l).size=l.length:=by simp [bs,ByteArray.size]
   unfold zBi zDD
   by_cases h:pos < l.length
   ·rw [if_pos (by rw [hsz];exact h),if_neg (fun e=>by have:=congrArg List.length e;simp at this;omega),zIz l f,show l.drop pos=(bs l).data.toList.drop pos from by simp [bs],Lib.decodeL_drop,show (bs l).data.toList=l from by simp [bs],List.drop_drop]
   ·rw [if_neg (by rw [hsz];exact h),if_pos (List.drop_eq_nil_of_le (by omega))]
theorem zSH (l:Bytes):∀(f pos:Nat),Lib.runeCountFrom (bs l) f pos=(zDD f (l.drop pos)).length
 | 0,_=>rfl
 | f+1,pos=>by
   have hsz:(bs l).size=l.length:=by simp [bs,ByteArray.size]
   unfold Lib.runeCountFrom zDD
   by_cases h:pos < l.length
   ·rw [if_pos (by rw [hsz];exact h),if_neg (fun e=>by have:=congrArg List.length e;simp at this;omega),zSH l f,show l.drop pos=(bs l).data.toList.drop pos from by simp [bs],Lib.decodeL_drop,show (bs l).data.toList=l from by simp [bs],List.length_cons,List.drop_drop]
    omega
   ·rw [if_neg (by rw [hsz];exact h),if_pos (List.drop_eq_nil_of_le (by omega))];rfl
theorem zFv:∀(f:Nat) (l:Bytes) (cs:List Nat),l.length≤f→zBD f l=some cs→Lib.validGoD f l=true∧zDD f l=cs
 | 0,l,cs,hl,h=>by cases h;exact ⟨rfl,rfl⟩
 | f+1,l,cs,hl,h=>by
   unfold zBD at h
   unfold Lib.validGoD zDD
   by_cases h0:l=[]
   ·rw [if_pos h0] at h ⊢;cases h;exact ⟨rfl,by rw [if_pos h0]⟩
   ·rw [if_neg h0] at h
    cases h1:let1 l with
    | none=>rw [h1] at h;cases h
    | some x =>
      rw [h1] at h
      obtain ⟨e1,e2,e3,e4,e5⟩:=zGd h1
      obtain ⟨cs',h2,rfl⟩:=Option.map_eq_some_iff.1 h
      have ih:=zFv f (l.drop x.2) cs' (by simp;omega) h2
      rw [if_neg h0,if_neg h0,e1,if_neg e4,ih.1,ih.2]
      exact ⟨rfl,rfl⟩
theorem zJA:∀(f:Nat) (l:Bytes),l.length≤f→zBD f l=none→Lib.validGoD f l=false∨∃c∈zDD f l,65535 < c
 | 0,l,hl,h=>by cases h
 | f+1,l,hl,h=>by
   unfold zBD at h
   unfold Lib.validGoD zDD
   by_cases h0:l=[]
   ·rw [if_pos h0] at h;cases h
   ·rw [if_neg h0] at h
    rw [if_neg h0,if_neg h0]
    cases h1:let1 l with
    | none =>
      rcases zSG h0 h1 with e1 | e1
      ·rw [e1,if_pos ⟨rfl,rfl⟩];exact .inl rfl
      ·exact .inr ⟨_,List.mem_cons_self,e1⟩
    | some x =>
      rw [h1] at h
      obtain ⟨e1,e2,e3,e4,e5⟩:=zGd h1
      rw [Option.map_eq_none_iff] at h
      rw [e1,if_neg e4]
      rcases zJA f (l.drop x.2) (by simp;omega) h with h2 | ⟨c,h2,h3⟩
      ·exact .inl h2
      ·exact .inr ⟨c,List.mem_cons_of_mem _ h2,h3⟩
theorem zGe (l:Bytes) (most:Nat) (p:Nat→Bool) (hp:∀c,65535 < c→p c=false):zBQ l most p=zCG l most p:=by
 have hsz:(bs l).size=l.length:=by simp [bs,ByteArray.size]
 have hr:zBi (bs l) l.length 0=zDD l.length l:=by rw [zIz];rfl
 have hc:Lib.runeCount (bs l)=(zDD l.length l).length:=by unfold Lib.runeCount;rw [hsz,zSH];rfl
 unfold zBQ zCG Lib.validD
 rw [hr,hc]
 cases h:zBD l.length l with
 | none =>
   rcases zJA _ l (Nat.le_refl _) h with h1 | ⟨c,h1,h2⟩
   ·rw [h1];simp
   ·have:(zDD l.length l).all p=false:=by
     rw [List.all_eq_false];exact ⟨c,h1,by rw [hp c h2];decide⟩
    rw [this];simp
 | some cs =>
   obtain ⟨h1,h2⟩:=zFv _ l cs (Nat.le_refl _) h
   rw [h1,h2]
   have hne:decide (1≤cs.length)=!l.isEmpty:=by
    cases l with
    | nil=>cases h2;rfl
    | cons a l =>
      rw [←h2]
      simp [zDD]
   simp only [hne,Bool.true_and]
   cases cs.all p<;>cases (!l.isEmpty)<;>cases decide (cs.length≤most)<;>rfl
theorem zKP (l:Bytes):zBQ l 12 zAN=zEC l:=zGe l 12 _ fun c h=>by
 unfold zAN
 rw [decide_eq_false (show ¬c≤126 by omega),decide_eq_false (show ¬c≤65535 by omega)]
 simp
theorem zHr (l:Bytes):zBQ l 6 zAK=zER l:=zGe l 6 _ fun c h=>by
 unfold zAK
 rw [decide_eq_false (show ¬c≤122 by omega),decide_eq_false (show ¬c≤969 by omega)]
 simp
end Go.Proofs.YtaejfobbogahmaaGreatDoor
