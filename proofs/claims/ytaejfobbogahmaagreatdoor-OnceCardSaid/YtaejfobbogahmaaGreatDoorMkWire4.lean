/-
  Wire4 Wire5 Wire6: texts of their own, joined.
-/
import Derived.Test.YtaejfobbogahmaaGreatDoorMkWire1
import Derived.Laws.RangeAny
import Derived.Laws.RangeString
set_option maxRecDepth 100000
set_option maxHeartbeats 16000000
set_option linter.all false
namespace Go.Proofs.YtaejfobbogahmaaGreatDoor
open Go Go.RowKit
theorem zKe {s:ByteArray} {pos:Nat} (h:pos < s.size) (hb:128≤(s[pos]'h).toNat):128≤(Utf8.decode s pos).1:=by
 have e:s.get! (pos+0)=s[pos]'h:=by
  show s.get! pos=_
  simp [ByteArray.get!,getElem!_pos,h]
  rfl
 simp only [Utf8.decode,e]
 rw [if_neg (by omega)]
 split
 ·split
  ·simpa using ‹_›
  ·simp [Utf8.runeError]
 ·split
  ·split
   ·rename_i h1;simp at h1;omega
   ·simp [Utf8.runeError]
  ·split
   ·split
    ·rename_i h1;simp at h1;omega
    ·simp [Utf8.runeError]
   ·simp [Utf8.runeError]
def numV (l:zA):Int:=(((yK l).getD 0:Nat):Int)
def zAD (l:zA):Bool:=(yK l).isSome
def zAv (l:zA) (w:World) (e:Ending) (w':World):Prop:=e=.returned (.tuple #[vi (numV l),.bool (zAD l)])∧Below w.heap.size w w'
theorem zCB {l:zA} (h:yK l=none):numV l=0∧zAD l=false:=by unfold numV zAD;rw [h];exact ⟨rfl,rfl⟩
theorem zGX {l:zA} {n:Nat} (h:yK l=some n):numV l=n∧zAD l=true:=by unfold numV zAD;rw [h];exact ⟨rfl,rfl⟩
theorem yX (l:zA):(bs l).size=l.length:=by simp [bs,ByteArray.size]
theorem yJ (l:zA):(bs l).toList=l:=by rw [ByteArray.toList_eq];rfl
theorem zKf {l:zA} {k:Nat} {c:UInt8} (h:l[k]?=some c) (acc:Nat):yH (l.drop k) acc=if 48≤c.toNat∧c.toNat≤57 then yH (l.drop (k+1)) (10*acc+(c.toNat - 48)) else none:=by
 have hk:=(List.getElem?_eq_some_iff.1 h).1
 have e:l.drop k=c::l.drop (k+1):=by
  rw [List.drop_eq_getElem_cons hk]
  congr 1
  exact (List.getElem?_eq_some_iff.1 h).2
 rw [e]
 simp only [yH]
 by_cases h1:48≤c.toNat∧c.toNat≤57
 ·rw [if_pos h1,if_pos ⟨by show (48:UInt8).toNat≤c.toNat;exact h1.1,by show c.toNat≤(57:UInt8).toNat;exact h1.2⟩]
 ·rw [if_neg h1,if_neg (fun h2=>h1 ⟨h2.1,h2.2⟩)]
theorem zKg (w:World):Calls Tryz.prog 64 #[vs (bs [])] w (zAv [] w):=by
 have ht:(bs []).toList=[]:=yJ []
 go_enter Tryz.func64,Tryz.ntmps64
 go_wp2_with fail
 go_ret2
 exact ⟨rfl,Below.refl _ _⟩
theorem zKh (x:UInt8) (l:zA) (h:6 < l.length+1) (w:World):Calls Tryz.prog 64 #[vs (bs (x::l))] w (zAv (x::l) w):=by
 have ht:(bs (x::l)).toList=x::l:=yJ _
 have hsz:(bs (x::l)).size=l.length+1:=yX _
 have HX:=zh (zCB (l:=x::l) (by unfold yK;rw [if_pos (.inr h)]))
 have a1:decide ((6:Int) < (l.length:Int)+1)=true:=by simp;omega
 have a2:decide (6 < l.length+1)=true:=by simp;omega
 clear h
 go_enter Tryz.func64,Tryz.ntmps64
 go_wp2_with fail
 go_ret2
 exact ⟨by rw [HX.out.1,HX.out.2];rfl,Below.refl _ _⟩
theorem zKi (l:zA) (h:l.length+1≤6) (h0:0 < l.length) (w:World):Calls Tryz.prog 64 #[vs (bs (48::l))] w (zAv (48::l) w):=by
 have ht:(bs (48::l)).toList=48::l:=yJ _
 have hsz:(bs (48::l)).size=l.length+1:=yX _
 have HX:=zh (zCB (l:=48::l) (by unfold yK;rw [if_neg (by simp;omega),if_pos ⟨by simp;omega,rfl⟩]))
 have a1:decide ((6:Int) < (l.length:Int)+1)=false:=by simp;omega
 have a2:decide (6 < l.length+1)=false:=by simp;omega
 have a3:decide ((1:Int) < (l.length:Int)+1)=true:=by simp;omega
 have a4:decide (1 < l.length+1)=true:=by simp;omega
 have b0:(bs (48::l))[0]'(by rw [yX];exact Nat.succ_pos _)=48:=zAl rfl
 have hl0:(0:Int) < (l.length:Int)+1:=by omega
 clear h h0
 go_enter Tryz.func64,Tryz.ntmps64
 go_wp2_with fail
 go_ret2
 exact ⟨by rw [HX.out.1,HX.out.2];rfl,Below.refl _ _⟩
theorem zGY (x:UInt8) (l:zA) (h:l.length+1≤6) (h0:l.length=0∨0 < l.length∧x≠48) (w:World):Calls Tryz.prog 64 #[vs (bs (x::l))] w (zAv (x::l) w):=by
 have ht:(bs (x::l)).toList=x::l:=yJ _
 have hsz:(bs (x::l)).size=l.length+1:=yX _
 have HX:Hid (yK (x::l)=yH (x::l) 0):=show _=_ by
  unfold yK;rw [if_neg (by simp;omega),if_neg (by simp;intro h1 h2;rcases h0 with h0 | h0;(first | omega | (rw [h0] at h1;simp at h1));exact h0.2 h2)]
 have a1:decide ((6:Int) < (l.length:Int)+1)=false:=by simp;omega
 have a2:decide (6 < l.length+1)=false:=by simp;omega
 have hl0:(0:Int) < (l.length:Int)+1:=by omega
 have b0:(bs (x::l))[0]'(by rw [yX];exact Nat.succ_pos _)=x:=zAl rfl
 have Hb0:=zh b0
 rcases h0 with h0 | h0
 case' inl =>
  have a3:decide ((1:Int) < (l.length:Int)+1)=false:=decide_eq_false (by omega)
  have a4:decide (1 < l.length+1)=false:=decide_eq_false (by omega)
  have a5:decide (0 < l.length)=false:=decide_eq_false (by omega)
  have a6:decide ((0:Int) < (l.length:Int))=false:=decide_eq_false (by omega)
  clear h0
 case' inr =>
  have a3:decide ((1:Int) < (l.length:Int)+1)=true:=by simp;omega
  have a4:decide (1 < l.length+1)=true:=by simp;omega
  have a7:((x.toNat:Int)==48)=false:=beq_eq_false_iff_ne.2 (fun e=>h0.2 (UInt8.toNat_inj.1 (Int.ofNat.inj e)))
  clear h0
 all_goals
  go_enter Tryz.func64,Tryz.ntmps64
  go_wp2_with fail
  go_loopw [4] (fun s4 wx=>∃k acc:Nat,wx=w.iter (bs (x::l)) k∧s4=.int .i64 acc∧k≤l.length+1∧acc≤1000000∧Hid (acc < 10 ^ k)∧Hid (yH ((x::l).drop k) acc=yH (x::l) 0)) (fun _ wx=>l.length+1 - wx.iterPos w.heap.size)
  case atStart=>exact ⟨0,0,rfl,by go_num,by omega,by omega,Nat.one_pos,rfl⟩
  case round =>
   obtain ⟨k,acc,rfl,rfl,hk,hacc,Hacc,Hd⟩:=hrel
   by_cases hkl:k < l.length+1
   ·obtain ⟨c,hc⟩:∃c,(x::l)[k]?=some c:=⟨_,List.getElem?_eq_getElem (by simpa using hkl)⟩
    have hkb:k < (bs (x::l)).size:=by rw [hsz];exact hkl
    have hget:(bs (x::l))[k]'hkb=c:=zAl hc
    have Hst:=zh (zKf hc acc)
    obtain ⟨m,wd,hdec,hm0,hm1,hmc⟩:∃m wd:Nat,Utf8.decode (bs (x::l)) k=(m,wd)∧1≤wd∧m≤2147483647∧((m=c.toNat∧wd=1)∨(128≤m∧128≤c.toNat)):=by
     by_cases hcl:c.toNat < 128
     ·exact ⟨c.toNat,1,by rw [decode_ascii _ _ hkb (by rw [hget];exact hcl),hget],Nat.le_refl _,by omega,.inl ⟨rfl,rfl⟩⟩
     ·exact ⟨_,_,rfl,Lib.decode_width_pos _ _ hkb,decode_le _ _,.inr ⟨zKe hkb (by rw [hget];omega),by omega⟩⟩
    have hnx:∀ty,(Instr.next (.pointer (some ⟨w.heap.size,0,none⟩)) true ty).run Tryz.prog (w.iter (bs (x::l)) k)=.ok (.tuple #[.bool true,.int .i64 k,.int .i32 m]) (w.iter (bs (x::l)) (k+wd)):=fun ty=>by
     have:=run_next_any (P:=Tryz.prog) w (bs (x::l)) k ty hkb
     rwa [hdec] at this
    have Hget:=zh hget
    have Hmc:=zh hmc
    clear hget hdec hmc hc
    by_cases g1:m < 48
    ·have t1:decide (m < 48)=true:=by simp;omega
     have t2:decide ((m:Int) < 48)=true:=by simp;omega
     have HY:=zh (zCB (l:=x::l) (by rw [HX.out,←Hd.out,Hst.out,if_neg (by have:=Hmc.out;omega)]))
     go_wp2_with fail
     go_ret2
     exact ⟨by rw [HY.out.1,HY.out.2];rfl,(Below.refl _ _).alloc (Nat.le_refl _) _⟩
    ·by_cases g2:57 < m
     ·have t1:decide (m < 48)=false:=by simp;omega
      have t2:decide ((m:Int) < 48)=false:=by simp;omega
      have t3:decide (57 < m)=true:=by simp;omega
      have t4:decide ((57:Int) < (m:Int))=true:=by simp;omega
      have HY:=zh (zCB (l:=x::l) (by rw [HX.out,←Hd.out,Hst.out,if_neg (by have:=Hmc.out;omega)]))
      go_wp2_with fail
      go_ret2
      exact ⟨by rw [HY.out.1,HY.out.2];rfl,(Below.refl _ _).alloc (Nat.le_refl _) _⟩
     ·have t1:decide (m < 48)=false:=by simp;omega
      have t2:decide ((m:Int) < 48)=false:=by simp;omega
      have t3:decide (57 < m)=false:=by simp;omega
      have t4:decide ((57:Int) < (m:Int))=false:=by simp;omega
      have hmz:(m:Int)≤57:=by omega
      have hmz0:(48:Int)≤(m:Int):=by omega
      have haz0:(0:Int)≤(acc:Int):=by omega
      have haz:(acc:Int)≤1000000:=by omega
      have hacc2:10*acc+(m - 48) < 10 ^ (k+1):=by have:=Hacc.out;rw [Nat.pow_succ];omega
      have hp6:10 ^ (k+1)≤10 ^ 6:=Nat.pow_le_pow_right (by omega) (by omega)
      have Ha2:=zh hacc2
      have hb6:10*acc+(m - 48)≤1000000:=by omega
      have HN:Hid (wd=1∧yH ((x::l).drop (k+1)) (10*acc+(m - 48))=yH (x::l) 0):=by
       have h1:m=c.toNat∧wd=1:=by have:=Hmc.out;omega
       refine ⟨h1.2,?_⟩
       rw [←Hd.out,Hst.out,if_pos (by omega),h1.1]
      clear hacc2 hp6
      go_wp2_with fail
      go_roundw
      case rel =>
       obtain rfl:wd=1:=HN.out.1
       exact ⟨k+1,10*acc+(m - 48),rfl,by go_num,by omega,by omega,Ha2.out,HN.out.2⟩
      case measure=>obtain rfl:wd=1:=HN.out.1;simp;omega
   ·obtain rfl:k=l.length+1:=by omega
    have hnx:∀ty,(Instr.next (.pointer (some ⟨w.heap.size,0,none⟩)) true ty).run Tryz.prog (w.iter (bs (x::l)) (l.length+1))=.ok (.tuple #[.bool false]) (w.iter (bs (x::l)) (l.length+1)):=fun ty=>run_next_end w _ _ ty (by rw [hsz];omega)
    have HY:=zh (zGX (l:=x::l) (n:=acc) (by rw [HX.out,←Hd.out];simp [yH]))
    go_wp2_with fail
    go_ret2
    exact ⟨by rw [HY.out.1,HY.out.2];rfl,(Below.refl _ _).alloc (Nat.le_refl _) _⟩
theorem zGZ (l:zA) (w:World):Calls Tryz.prog 64 #[vs (bs l)] w (zAv l w):=by
 match l with
 | []=>exact zKg w
 | x::l =>
   by_cases h6:6 < l.length+1
   ·exact zKh x l h6 w
   ·by_cases h0:l.length=0
    ·exact zGY x l (by omega) (.inl h0) w
    ·by_cases hx:x=48
     ·subst hx;exact zKi l (by omega) (by omega) w
     ·exact zGY x l (by omega) (.inr ⟨by omega,hx⟩) w
theorem zKj (m:Nat) (hm:m≤2147483647) (w:World):Calls Tryz.prog 66 #[.int .i32 m] w fun e w'=>e=.returned (.bool (xK m))∧w=w':=by
 by_cases k0:m < 97
 ·have a1:decide (97≤m)=false:=decide_eq_false (by omega)
  have a2:decide ((97:Int)≤(m:Int))=false:=decide_eq_false (by omega)
  have b1:decide (m≤122)=true:=decide_eq_true (by omega)
  have c1:decide (945≤m)=false:=decide_eq_false (by omega)
  have c2:decide ((945:Int)≤(m:Int))=false:=decide_eq_false (by omega)
  have d1:decide (m≤969)=true:=decide_eq_true (by omega)
  have HR:Hid (xK m=false):=show _=_ by unfold xK;rw [a1,b1,c1,d1];rfl
  go_enter Tryz.func66,Tryz.ntmps66
  go_wp2_with fail
  go_ret
  exact ⟨by rw [HR.out];rfl,rfl⟩
 by_cases k1:m≤122
 ·have a1:decide (97≤m)=true:=decide_eq_true (by omega)
  have a2:decide ((97:Int)≤(m:Int))=true:=decide_eq_true (by omega)
  have b1:decide (m≤122)=true:=decide_eq_true (by omega)
  have b2:decide ((m:Int)≤122)=true:=decide_eq_true (by omega)
  have c1:decide (945≤m)=false:=decide_eq_false (by omega)
  have d1:decide (m≤969)=true:=decide_eq_true (by omega)
  have HR:Hid (xK m=true):=show _=_ by unfold xK;rw [a1,b1,c1,d1];rfl
  go_enter Tryz.func66,Tryz.ntmps66
  go_wp2_with fail
  go_ret
  exact ⟨by rw [HR.out];rfl,rfl⟩
 by_cases k2:m < 945
 ·have a1:decide (97≤m)=true:=decide_eq_true (by omega)
  have a2:decide ((97:Int)≤(m:Int))=true:=decide_eq_true (by omega)
  have b1:decide (m≤122)=false:=decide_eq_false (by omega)
  have b2:decide ((m:Int)≤122)=false:=decide_eq_false (by omega)
  have c1:decide (945≤m)=false:=decide_eq_false (by omega)
  have c2:decide ((945:Int)≤(m:Int))=false:=decide_eq_false (by omega)
  have d1:decide (m≤969)=true:=decide_eq_true (by omega)
  have HR:Hid (xK m=false):=show _=_ by unfold xK;rw [a1,b1,c1,d1];rfl
  go_enter Tryz.func66,Tryz.ntmps66
  go_wp2_with fail
  go_ret
  exact ⟨by rw [HR.out];rfl,rfl⟩
 by_cases k3:m≤969
 ·have a1:decide (97≤m)=true:=decide_eq_true (by omega)
  have a2:decide ((97:Int)≤(m:Int))=true:=decide_eq_true (by omega)
  have b1:decide (m≤122)=false:=decide_eq_false (by omega)
  have b2:decide ((m:Int)≤122)=false:=decide_eq_false (by omega)
  have c1:decide (945≤m)=true:=decide_eq_true (by omega)
  have c2:decide ((945:Int)≤(m:Int))=true:=decide_eq_true (by omega)
  have d1:decide (m≤969)=true:=decide_eq_true (by omega)
  have d2:decide ((m:Int)≤969)=true:=decide_eq_true (by omega)
  have HR:Hid (xK m=true):=show _=_ by unfold xK;rw [a1,b1,c1,d1];rfl
  go_enter Tryz.func66,Tryz.ntmps66
  go_wp2_with fail
  go_ret
  exact ⟨by rw [HR.out];rfl,rfl⟩
 have a1:decide (97≤m)=true:=decide_eq_true (by omega)
 have a2:decide ((97:Int)≤(m:Int))=true:=decide_eq_true (by omega)
 have b1:decide (m≤122)=false:=decide_eq_false (by omega)
 have b2:decide ((m:Int)≤122)=false:=decide_eq_false (by omega)
 have c1:decide (945≤m)=true:=decide_eq_true (by omega)
 have c2:decide ((945:Int)≤(m:Int))=true:=decide_eq_true (by omega)
 have d1:decide (m≤969)=false:=decide_eq_false (by omega)
 have d2:decide ((m:Int)≤969)=false:=decide_eq_false (by omega)
 have HR:Hid (xK m=false):=show _=_ by unfold xK;rw [a1,b1,c1,d1];rfl
 go_enter Tryz.func66,Tryz.ntmps66
 go_wp2_with fail
 go_ret
 exact ⟨by rw [HR.out];rfl,rfl⟩
theorem zKk (m:Nat) (hm:m≤2147483647) (w:World):Calls Tryz.prog 67 #[.int .i32 m] w fun e w'=>e=.returned (.bool (xL m))∧w=w':=by
 by_cases k0:m < 33
 ·have a1:decide (32 < m)=false:=decide_eq_false (by omega)
  have a2:decide ((32:Int) < (m:Int))=false:=decide_eq_false (by omega)
  have b1:decide (m≤126)=true:=decide_eq_true (by omega)
  have c1:decide (161≤m)=false:=decide_eq_false (by omega)
  have c2:decide ((161:Int)≤(m:Int))=false:=decide_eq_false (by omega)
  have d1:decide (m≤65535)=true:=decide_eq_true (by omega)
  have HR:Hid (xL m=false):=show _=_ by unfold xL;rw [a1,b1,c1,d1];rfl
  go_enter Tryz.func67,Tryz.ntmps67
  go_wp2_with fail
  go_ret
  exact ⟨by rw [HR.out];rfl,rfl⟩
 by_cases k1:m≤126
 ·have a1:decide (32 < m)=true:=decide_eq_true (by omega)
  have a2:decide ((32:Int) < (m:Int))=true:=decide_eq_true (by omega)
  have b1:decide (m≤126)=true:=decide_eq_true (by omega)
  have b2:decide ((m:Int)≤126)=true:=decide_eq_true (by omega)
  have c1:decide (161≤m)=false:=decide_eq_false (by omega)
  have d1:decide (m≤65535)=true:=decide_eq_true (by omega)
  have HR:Hid (xL m=true):=show _=_ by unfold xL;rw [a1,b1,c1,d1];rfl
  go_enter Tryz.func67,Tryz.ntmps67
  go_wp2_with fail
  go_ret
  exact ⟨by rw [HR.out];rfl,rfl⟩
 by_cases k2:m < 161
 ·have a1:decide (32 < m)=true:=decide_eq_true (by omega)
  have a2:decide ((32:Int) < (m:Int))=true:=decide_eq_true (by omega)
  have b1:decide (m≤126)=false:=decide_eq_false (by omega)
  have b2:decide ((m:Int)≤126)=false:=decide_eq_false (by omega)
  have c1:decide (161≤m)=false:=decide_eq_false (by omega)
  have c2:decide ((161:Int)≤(m:Int))=false:=decide_eq_false (by omega)
  have d1:decide (m≤65535)=true:=decide_eq_true (by omega)
  have HR:Hid (xL m=false):=show _=_ by unfold xL;rw [a1,b1,c1,d1];rfl
  go_enter Tryz.func67,Tryz.ntmps67
  go_wp2_with fail
  go_ret
  exact ⟨by rw [HR.out];rfl,rfl⟩
 by_cases k3:m≤65535
 ·have a1:decide (32 < m)=true:=decide_eq_true (by omega)
  have a2:decide ((32:Int) < (m:Int))=true:=decide_eq_true (by omega)
  have b1:decide (m≤126)=false:=decide_eq_false (by omega)
  have b2:decide ((m:Int)≤126)=false:=decide_eq_false (by omega)
  have c1:decide (161≤m)=true:=decide_eq_true (by omega)
  have c2:decide ((161:Int)≤(m:Int))=true:=decide_eq_true (by omega)
  have d1:decide (m≤65535)=true:=decide_eq_true (by omega)
  have d2:decide ((m:Int)≤65535)=true:=decide_eq_true (by omega)
  have HR:Hid (xL m=true):=show _=_ by unfold xL;rw [a1,b1,c1,d1];rfl
  go_enter Tryz.func67,Tryz.ntmps67
  go_wp2_with fail
  go_ret
  exact ⟨by rw [HR.out];rfl,rfl⟩
 have a1:decide (32 < m)=true:=decide_eq_true (by omega)
 have a2:decide ((32:Int) < (m:Int))=true:=decide_eq_true (by omega)
 have b1:decide (m≤126)=false:=decide_eq_false (by omega)
 have b2:decide ((m:Int)≤126)=false:=decide_eq_false (by omega)
 have c1:decide (161≤m)=true:=decide_eq_true (by omega)
 have c2:decide ((161:Int)≤(m:Int))=true:=decide_eq_true (by omega)
 have d1:decide (m≤65535)=false:=decide_eq_false (by omega)
 have d2:decide ((m:Int)≤65535)=false:=decide_eq_false (by omega)
 have HR:Hid (xL m=false):=show _=_ by unfold xL;rw [a1,b1,c1,d1];rfl
 go_enter Tryz.func67,Tryz.ntmps67
 go_wp2_with fail
 go_ret
 exact ⟨by rw [HR.out];rfl,rfl⟩
theorem zKl (s:ByteArray) (b k:Nat) (h:¬k < s.size):xy s b k=[]:=by
 cases b<;>simp [xy,h]
def U8T (w:World):Prop:=Lib.Utf8Tabs (Tryz.lays196_ren.g 3) (Tryz.lays196_ren.g 4) w
theorem zGa (l:zA) (hl:l.length≤1099511627776) (most:Nat) (hmost:most≤1000) (p:Nat→Bool) (fc:FuncId) (hent:∀(args:Array Value) (w:World),(callFunc fc args).run Tryz.prog w=.ok (.enter fc args) w)
 (hp:∀(m:Nat) (w:World),m≤2147483647→Calls Tryz.prog fc #[.int .i32 m] w fun e w'=>e=.returned (.bool (p m))∧w=w') (w:World) (hT:U8T w) :
 Calls Tryz.prog 65 #[vs (bs l),vi most,.func (.func fc) #[] #[]] w fun e w'=>e=.returned (.bool (xz l most p))∧Below w.heap.size w w':=by
 have hsz:(bs l).size=l.length:=yX _
 have htl:(bs l).toList=l:=yJ _
 have HV:=zh (Any.utf8_ValidString Tryz.lays196 (bs l) w (by rw [hsz];omega) hT)
 have HRC:=zh (fun w=>Tryz.utf8_RuneCountInString (bs l) w (by rw [hsz];omega))
 have Hp:=zh hp
 obtain ⟨vb,Hvb⟩:∃v,Hid (Lib.validD l=v):=⟨_,rfl⟩
 obtain ⟨rc,Hrc⟩:∃v,Hid (Lib.runeCount (bs l)=v):=⟨_,rfl⟩
 rw [show (bs l).data.toList=l from rfl,Hvb.out] at HV
 rw [Hrc.out] at HRC
 have hrcl:rc≤l.length:=by rw [←Hrc.out,←hsz];exact Lib.runeCount_le _
 have HR:Hid (xz l most p=(vb&&!l.isEmpty&&decide (rc≤most)&&(xy (bs l) l.length 0).all p)):=show _=_ by unfold xz;rw [Hvb.out,Hrc.out]
 have Hmost:=zh hmost
 clear hp hT
 go_enter Tryz.func65,Tryz.ntmps65
 go_wp2_with fail
 refine HV.out.mono ?_
 rintro e w1 ⟨rfl,hb1⟩
 have Hb1:=zh hb1
 clear hb1 HV
 cases vb with
 | false =>
   go_wp2_with fail
   go_ret
   exact ⟨by rw [HR.out];rfl,Hb1.out⟩
 | true =>
   cases l with
   | nil =>
     go_wp2_with fail
     go_ret
     exact ⟨by rw [HR.out];rfl,Hb1.out⟩
   | cons x l =>
     have ht2:(bs (x::l)).toList.isEmpty=false:=by rw [yJ];rfl
     go_wp2_with fail
     refine (HRC.out _).mono ?_
     rintro e w2 ⟨rfl,pos,rfl⟩
     by_cases hc:rc≤most
     ·have a1:decide (most < rc)=false:=decide_eq_false (by omega)
      have a2:decide ((most:Int) < (rc:Int))=false:=decide_eq_false (by omega)
      have HR2:Hid (xz (x::l) most p=(xy (bs (x::l)) (x::l).length 0).all p):=show _=_ by rw [HR.out,decide_eq_true hc];rfl
      have hB2:Hid (Below w.heap.size w (w1.iter (bs (x::l)) pos)):=Hb1.out.alloc Hb1.out.size _
      clear hc
      generalize w1.iter (bs (x::l)) pos=w2 at *
      go_wp2_with fail
      go_loopw [8] (fun _ wx=>∃k b:Nat,wx=w2.iter (bs (x::l)) k∧Hid ((x::l).length≤k+b)∧Hid ((xy (bs (x::l)) b k).all p=(xy (bs (x::l)) (x::l).length 0).all p)) (fun _ wx=>(x::l).length - wx.iterPos w2.heap.size)
      case atStart=>exact ⟨0,(x::l).length,rfl,Nat.le_add_left _ _,rfl⟩
      case round =>
       obtain ⟨k,b,rfl,Hkb,Hall⟩:=hrel
       by_cases hk:k < (bs (x::l)).size
       ·obtain ⟨m,wd,hdec⟩:∃m wd,Utf8.decode (bs (x::l)) k=(m,wd):=⟨_,_,rfl⟩
        have hwd:1≤wd:=by have:=Lib.decode_width_pos _ _ hk;rw [hdec] at this;exact this
        have hm:m≤2147483647:=by have:=decode_le (bs (x::l)) k;rw [hdec] at this;exact this
        have hnx:∀ty,(Instr.next (.pointer (some ⟨w2.heap.size,0,none⟩)) true ty).run Tryz.prog (w2.iter (bs (x::l)) k)=.ok (.tuple #[.bool true,.int .i64 k,.int .i32 m]) (w2.iter (bs (x::l)) (k+wd)):=fun ty=>by
         have:=run_next_any (P:=Tryz.prog) w2 (bs (x::l)) k ty hk
         rwa [hdec] at this
        have hkl:k < (x::l).length:=by rw [←hsz];exact hk
        obtain ⟨b,rfl⟩:∃b',b=b'+1:=⟨b - 1,by have:=Hkb.out;omega⟩
        have HS:Hid ((xy (bs (x::l)) (b+1) k).all p=(p m&&(xy (bs (x::l)) b (k+wd)).all p)):=show _=_ by
         simp only [xy,if_pos hk,hdec,List.all_cons]
        obtain ⟨q,hq⟩:∃q,Hid (p m=q):=⟨_,rfl⟩
        have HC:=zh (Hp.out m (w2.iter (bs (x::l)) (k+wd)) hm)
        rw [hq.out] at HC
        clear hdec hk
        go_wp2_with fail
        refine HC.out.mono ?_
        rintro e w3 ⟨rfl,rfl⟩
        cases q with
        | false =>
          have HF:Hid (xz (x::l) most p=false):=show _=_ by rw [HR2.out,←Hall.out,HS.out,hq.out];rfl
          go_wp2_with fail
          go_ret
          exact ⟨by rw [HF.out];rfl,hB2.out.alloc hB2.out.size _⟩
        | true =>
          go_wp2_with fail
          go_roundw
          case rel=>exact ⟨k+wd,b,rfl,by show _≤_;have:=Hkb.out;omega,by show _=_;rw [←Hall.out,HS.out,hq.out];simp⟩
          case measure=>simp at hkl ⊢;omega
       ·have hnx:∀ty,(Instr.next (.pointer (some ⟨w2.heap.size,0,none⟩)) true ty).run Tryz.prog (w2.iter (bs (x::l)) k)=.ok (.tuple #[.bool false]) (w2.iter (bs (x::l)) k):=fun ty=>run_next_end w2 _ k ty hk
        have HF:Hid (xz (x::l) most p=true):=show _=_ by rw [HR2.out,←Hall.out,zKl _ _ _ hk];rfl
        clear hk
        go_wp2_with fail
        go_ret
        exact ⟨by rw [HF.out];rfl,hB2.out.alloc hB2.out.size _⟩
     ·have a1:decide (most < rc)=true:=decide_eq_true (by omega)
      have a2:decide ((most:Int) < (rc:Int))=true:=decide_eq_true (by omega)
      have HR2:Hid (xz (x::l) most p=false):=show _=_ by rw [HR.out,decide_eq_false hc];simp
      clear hc
      go_wp2_with fail
      go_ret
      exact ⟨by rw [HR2.out];rfl,Hb1.out.alloc Hb1.out.size _⟩
def yq (k:zA):Option zA:=
 if k=kSub then some [105,116,120] else if k=kCan then some [105] else if k=yE then some [105,97,120] else if k=xB then some [105,97]
 else if k=xM∨k=xN∨k=xO then some [] else none
def zAb (k:zA) (w:World) (e:Ending) (w':World):Prop:=e=.returned (.tuple #[vs (bs ((yq k).getD [])),.bool (yq k).isSome])∧w=w'
theorem zKm (w:World):Calls Tryz.prog 63 #[vs (bs kSub)] w (zAb kSub w):=by
 have ht:(bs kSub).toList=[115,117,98]:=yJ _
 go_enter Tryz.func63,Tryz.ntmps63
 go_wp2_with fail
 go_ret2
 exact ⟨rfl,rfl⟩
theorem zKn (w:World):Calls Tryz.prog 63 #[vs (bs kCan)] w (zAb kCan w):=by
 have ht:(bs kCan).toList=[99,97,110]:=yJ _
 go_enter Tryz.func63,Tryz.ntmps63
 go_wp2_with fail
 go_ret2
 exact ⟨rfl,rfl⟩
theorem zKo (w:World):Calls Tryz.prog 63 #[vs (bs yE)] w (zAb yE w):=by
 have ht:(bs yE).toList=[100,111,110,101]:=yJ _
 go_enter Tryz.func63,Tryz.ntmps63
 go_wp2_with fail
 go_ret2
 exact ⟨rfl,rfl⟩
theorem zKp (w:World):Calls Tryz.prog 63 #[vs (bs xB)] w (zAb xB w):=by
 have ht:(bs xB).toList=[102,97,105,108]:=yJ _
 go_enter Tryz.func63,Tryz.ntmps63
 go_wp2_with fail
 go_ret2
 exact ⟨rfl,rfl⟩
theorem zKq (w:World):Calls Tryz.prog 63 #[vs (bs xM)] w (zAb xM w):=by
 have ht:(bs xM).toList=[112,117,108,108]:=yJ _
 go_enter Tryz.func63,Tryz.ntmps63
 go_wp2_with fail
 go_ret2
 exact ⟨rfl,rfl⟩
theorem zKr (w:World):Calls Tryz.prog 63 #[vs (bs xN)] w (zAb xN w):=by
 have ht:(bs xN).toList=[98,101,97,116]:=yJ _
 go_enter Tryz.func63,Tryz.ntmps63
 go_wp2_with fail
 go_ret2
 exact ⟨rfl,rfl⟩
theorem zKs (w:World):Calls Tryz.prog 63 #[vs (bs xO)] w (zAb xO w):=by
 have ht:(bs xO).toList=[100,114,97,105,110]:=yJ _
 go_enter Tryz.func63,Tryz.ntmps63
 go_wp2_with fail
 go_ret2
 exact ⟨rfl,rfl⟩
theorem zAw {a b:zA} (h:a≠b):(a==b)=false:=beq_eq_false_iff_ne.2 h
theorem zKt (k:zA) (h1:k≠kSub) (h2:k≠kCan) (h3:k≠yE) (h4:k≠xB) (h5:k≠xM) (h6:k≠xN) (h7:k≠xO) (w:World):Calls Tryz.prog 63 #[vs (bs k)] w (zAb k w):=by
 have ht:(bs k).toList=k:=yJ _
 have e1:(k==[115,117,98])=false:=zAw h1
 have e2:(k==[99,97,110])=false:=zAw h2
 have e3:(k==[100,111,110,101])=false:=zAw h3
 have e4:(k==[102,97,105,108])=false:=zAw h4
 have e5:(k==[112,117,108,108])=false:=zAw h5
 have e6:(k==[98,101,97,116])=false:=zAw h6
 have e7:(k==[100,114,97,105,110])=false:=zAw h7
 have HF:Hid (yq k=none):=show _=_ by unfold yq;rw [if_neg h1,if_neg h2,if_neg h3,if_neg h4,if_neg (by rintro (h | h | h);exact h5 h;exact h6 h;exact h7 h)]
 clear h1 h2 h3 h4 h5 h6 h7
 go_enter Tryz.func63,Tryz.ntmps63
 go_wp2_with fail
 go_ret2
 exact ⟨by rw [HF.out];rfl,rfl⟩
theorem zKu (k:zA) (w:World):Calls Tryz.prog 63 #[vs (bs k)] w (zAb k w):=by
 by_cases h1:k=kSub
 ·subst h1;exact zKm w
 by_cases h2:k=kCan
 ·subst h2;exact zKn w
 by_cases h3:k=yE
 ·subst h3;exact zKo w
 by_cases h4:k=xB
 ·subst h4;exact zKp w
 by_cases h5:k=xM
 ·subst h5;exact zKq w
 by_cases h6:k=xN
 ·subst h6;exact zKr w
 by_cases h7:k=xO
 ·subst h7;exact zKs w
 exact zKt k h1 h2 h3 h4 h5 h6 h7 w
end Go.Proofs.YtaejfobbogahmaaGreatDoor
