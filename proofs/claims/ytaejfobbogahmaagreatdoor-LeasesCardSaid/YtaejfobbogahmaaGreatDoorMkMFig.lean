/-
  MFig: a text of its own.
-/
import Derived.Test.YtaejfobbogahmaaGreatDoorMkRep
import Derived.Test.YtaejfobbogahmaaGreatDoorMkTable
import Derived.IntWalk
import Derived.Deep.RegionHeld3
import Derived.Deep.RegionLaw
set_option maxRecDepth 100000
set_option maxHeartbeats 16000000
set_option linter.all false
namespace Go.Proofs.YtaejfobbogahmaaGreatDoor
open Go Go.RowKit
theorem zQs (w:World) (b:UInt8):(convert 50 9 (.slice (some ⟨w.heap.size,0,none⟩) 1 1)).run Tryz.prog (w.alloc (.cells #[.int .u8 b.toNat] 5))=.ok (vs (bs [b])) (w.alloc (.cells #[.int .u8 b.toNat] 5)):=
 run_convert_bytes_back (w.alloc _) _ _ 5 ⟨w.heap.size,0,none⟩ 1 [b] Tryz.underlying50 Tryz.underlying5 Tryz.underlying9 (fun j hj=>by
  have:j=0:=by simp at hj;omega
  subst this
  rw [Addr.add_lit]
  exact zAA (zAD w) rfl)
theorem zWX (a b:Bytes):bs a++bs b=bs (a++b):=ByteArray.ext (by simp [bs])
theorem zQt {n:Nat} (h:n < 10):dec n=[UInt8.ofNat (48+n)]:=by
 unfold dec decF;rw [if_pos h]
theorem zUy {n:Nat} (h:¬n < 10) (h2:n < 1000000000000):dec n=dec (n / 10)++[UInt8.ofNat (48+n % 10)]:=by
 have key:∀(f n:Nat),n < 10 ^ (f+1)→decF f n=decF (f+1) n:=by
  intro f
  induction f with
  | zero=>intro n hn;simp at hn;simp [decF,hn,Nat.mod_eq_of_lt hn]
  | succ f ih =>
    intro n hn
    show decF (f+1) n=decF (f+2) n
    conv=>lhs;rw [decF]
    conv=>rhs;rw [decF]
    split
    ·rfl
    ·rw [ih (n / 10) (by rw [Nat.pow_succ] at hn;omega)]
 unfold dec
 conv=>lhs;rw [decF]
 rw [if_neg h,key 19 (n / 10) (by simp only [show (10:Nat) ^ (19+1)=100000000000000000000 from rfl];omega)]
theorem zJz {w:World} (n:Nat) (hn:n < 10) :
 Calls Tryz.prog 119 #[vi n] w fun e w'=>e=.returned (vs (bs (dec n)))∧Below w.heap.size w w':=by
 have h1:decide ((n:Int) < 10)=true:=decide_eq_true (by omega)
 have hn2:(n:Int) < 10:=by omega
 have hcv:=zQs w (UInt8.ofNat (48+n))
 have hb:((UInt8.ofNat (48+n)).toNat:Int)=48+n:=by simp;omega
 rw [hb,←zQt hn] at hcv
 clear hb
 go_enter Tryz.func119,Tryz.ntmps119
 go_wp2_with fail
 go_ret
 exact ⟨rfl,(Fr.refl (fun _=>False) w).alloc _ |>.below (Nat.le_refl _) (fun _ f=>f.elim)⟩
theorem zLk {w:World} (x m d:Int) (s t:ByteArray) (h1:decide (x < 10)=false) (hq:x.tdiv 10=m) (hr:x.tmod 10=d) (hq0:0≤m) (hq1:m≤1000000000000) (hd0:0≤d) (hd1:d < 10)
 (hx0:0≤x) (hx1:x≤1000000000000) (hst:¬9223372036854775807 < s.size+t.size)
 (ih:∀w1,Calls Tryz.prog 119 #[vi m] w1 fun e w'=>e=.returned (vs s)∧Below w1.heap.size w1 w')
 (hcv:∀(w':World) (B:Nat),w'.heap[B]?=some (.cells #[.int .u8 (48+d)] 5 (0,0))→(convert 50 9 (.slice (some ⟨B,0,none⟩) 1 1)).run Tryz.prog w'=.ok (vs t) w') :
 Calls Tryz.prog 119 #[vi x] w fun e w'=>e=.returned (vs (s++t))∧Below w.heap.size w w':=by
 have hw1d:(convert 50 9 (.slice (some ⟨w.heap.size,0,none⟩) 1 1)).run Tryz.prog (w.alloc (.cells #[.int .u8 (48+d)] 5)).drew=.ok (vs t) (w.alloc (.cells #[.int .u8 (48+d)] 5)).drew:=hcv _ _ (zAD w)
 have hw1:(convert 50 9 (.slice (some ⟨w.heap.size,0,none⟩) 1 1)).run Tryz.prog (w.alloc (.cells #[.int .u8 (48+d)] 5))=.ok (vs t) (w.alloc (.cells #[.int .u8 (48+d)] 5)):=hcv _ _ (zAD w)
 have hcv0:∀w1:World,(convert 50 9 (.slice (some ⟨w1.heap.size,0,none⟩) 1 1)).run Tryz.prog (w1.alloc (.cells #[.int .u8 (48+d)] 5))=.ok (vs t) (w1.alloc (.cells #[.int .u8 (48+d)] 5)):=fun w1=>hcv _ _ (zAD w1)
 have hcv1:∀w1:World,Below (w.alloc (.cells #[.int .u8 (48+d)] 5)).drew.heap.size (w.alloc (.cells #[.int .u8 (48+d)] 5)).drew w1→(convert 50 9 (.slice (some ⟨w.heap.size,0,none⟩) 1 1)).run Tryz.prog w1=.ok (vs t) w1:=fun w1 hb=>hcv _ _ ((hb.block _ (by show w.heap.size < (w.alloc _).heap.size;simp)).trans (zAD w))
 have IH:=Lib.hid ih
 have hs48:IntKind.i64.wrap (48+d)=48+d:=IntWalk.i64_in _ (by omega)
 have e8:∀n:Int,IntKind.u8.wrap n=n % 256:=fun n=>rfl
 have hs8:IntKind.u8.wrap (48+d)=48+d:=by rw [e8];omega
 clear e8
 clear hcv ih
 go_enter Tryz.func119,Tryz.ntmps119
 go_wp2_with fail
 have hwm:IntKind.i64.wrap m=m:=IntWalk.i64_in _ (by omega)
 have hwd:IntKind.i64.wrap d=d:=IntWalk.i64_in _ (by omega)
 go_region_law (first
  | (go_simp;go_at_call 119;refine (IH.out _).mono ?_;rintro e w1 ⟨rfl,hb⟩;have hcw2:=hcv1 w1 hb;have HB:Hid (Below w.heap.size w w1):=⟨hb.os,hb.tape,hb.output,Nat.le_trans (by show w.heap.size≤(w.alloc _).heap.size;simp) hb.size,fun i hi=>(hb.block i (by show i < (w.alloc _).heap.size;simp;omega)).trans (zAG w hi)⟩;clear hb)
  | (go_simp;go_at_call 119;refine (IH.out _).mono ?_;rintro e w1 ⟨rfl,hb⟩;have hcw:=hcv0 w1;have HB:Hid (Below w.heap.size w w1):=⟨hb.os,hb.tape,hb.output,hb.size,hb.block⟩;clear hb))
 all_goals
  go_wp2_with fail
  go_ret
  first
   | exact ⟨rfl,HB.out⟩
   | exact ⟨rfl,Below.trans HB.out (((Fr.refl (fun _=>False) w1).alloc _).below HB.out.size (fun _ f=>f.elim))⟩
theorem zJb:∀(f n:Nat),(decF f n).length≤f+1
 | 0,n=>by simp [decF]
 | f+1,n=>by
   unfold decF
   split
   ·simp
   ·rw [List.length_append];have:=zJb f (n / 10);simp;omega
theorem zKA:∀(n:Nat),n < 1000000000000→∀(w:World),Calls Tryz.prog 119 #[vi n] w fun e w'=>e=.returned (vs (bs (dec n)))∧Below w.heap.size w w':=by
 intro n
 induction n using Nat.strongRecOn with
 | _ n ih =>
   intro hn w
   by_cases h:n < 10
   ·exact zJz n h
   ·have hq:(n:Int).tdiv 10=((n / 10:Nat):Int):=by rw [Int.tdiv_eq_ediv_of_nonneg (by omega)];omega
    have hr:(n:Int).tmod 10=((n % 10:Nat):Int):=by rw [Int.tmod_eq_emod_of_nonneg (by omega)];omega
    have h20:=zJb 20 (n / 10)
    rw [zUy h hn,←zWX]
    refine zLk (n:Int) ((n / 10:Nat):Int) ((n % 10:Nat):Int) (bs (dec (n / 10))) (bs [UInt8.ofNat (48+n % 10)]) (decide_eq_false (by omega)) hq hr (by omega) (by omega) (by omega) (by omega) (by omega) (by omega) ?_ (fun w1=>ih (n / 10) (by omega) (by omega) w1) (fun w' B hB=>?_)
    ·have e1:(bs (dec (n / 10))).size=(dec (n / 10)).length:=by simp [bs,ByteArray.size]
     have e2:(bs [UInt8.ofNat (48+n % 10)]).size=1:=by simp [bs,ByteArray.size]
     rw [e1,e2]
     unfold dec
     omega
    ·refine run_convert_bytes_back w' _ _ 5 ⟨B,0,none⟩ 1 [UInt8.ofNat (48+n % 10)] Tryz.underlying50 Tryz.underlying5 Tryz.underlying9 (fun j hj=>?_)
     have:j=0:=by simp at hj;omega
     subst this
     rw [Addr.add_lit]
     have hb:((UInt8.ofNat (48+n % 10)).toNat:Int)=48+((n % 10:Nat):Int):=by simp;omega
     exact zAA hB (by show some _=some (Value.int _ _);rw [←hb];rfl)
end Go.Proofs.YtaejfobbogahmaaGreatDoor
