/-
  New: texts of their own, joined.
-/
import Derived.Test.YtaejfobbogahmaaGreatDoorMkHandle1
set_option maxRecDepth 100000
set_option maxHeartbeats 16000000
set_option linter.all false
namespace Go.Proofs.YtaejfobbogahmaaGreatDoor
open Go Go.RowKit
theorem zMZ (args:Array Value) (w:World):(callFunc 32 args).run Tryz.prog w=.ok (.enter 32 args) w:=by kernel_rfl
def xi (n yB most:Int):Bool:=decide (yB≤n)&&decide (n≤most)
theorem zCD (n yB most:Int) (w:World):Calls Tryz.prog 32 #[vi n,vi yB,vi most] w fun e w'=>e=.returned (.bool (xi n yB most))∧w=w':=by
 unfold xi
 by_cases h:yB≤n
 ·have h1:decide (yB≤n)=true:=decide_eq_true h
  have h2:decide (n≥yB)=true:=decide_eq_true h
  rw [h1]
  clear h
  go_enter Tryz.func32,Tryz.ntmps32
  go_wp2_with fail
  go_ret
  exact ⟨rfl,rfl⟩
 ·have h1:decide (yB≤n)=false:=decide_eq_false h
  have h2:decide (n≥yB)=false:=decide_eq_false h
  rw [h1]
  clear h
  go_enter Tryz.func32,Tryz.ntmps32
  go_wp2_with fail
  go_ret
  exact ⟨rfl,rfl⟩
def zAN (c:Cfg):Array Value:=#[vi c.lease,vi c.retries,vi c.cap,vi c.bound,vi c.hedge]
theorem zMa (c:Cfg):zAT c=(xi c.lease 1 20&&xi c.retries 0 5&&xi c.cap 1 5&&xi c.bound 1 8&&xi c.hedge 0 20):=by
 unfold zAT xi
 simp only [Bool.and_assoc]
def zMb (G:Nat) (c:Cfg) (w:World) (e:Ending) (w':World):Prop:=
 (zAT c=true→∃D ρ L,e=.returned (.tuple #[vp D,vi 0])∧RRep w' ρ G D L (rNew c)∧(∀b,Of ρ b→w.heap.size≤b))∧(zAT c=false→e=.returned (.tuple #[.pointer none,vi 1]))∧Below w.heap.size w w'
def xj (n:Nat):Nat→Role:=fun b=>if b=n+5 then zC else if b=n+1 then rMo else if b=n+2 then rMc else if b=n+3 then rMq else if b=n+4 then rMr else Role.none
def zBC (n:Nat):Lay:=⟨n+1,n+2,n+3,n+4,fun _=>0,fun _=>0,fun _=>0,.slice none 0 0,.slice none 0 0,.slice none 0 0,.slice none 0 0,fun _=>.slice none 0 0,fun _=>.slice none 0 0⟩
abbrev zHC (w:World) (c:Cfg):World:=
 (((((w.alloc (.cells (zAN c) 34)).alloc (.map #[] 0)).alloc (.map #[] 0)).alloc (.map #[] 0)).alloc (.map #[] 0)).alloc (.cells (yR (zBC w.heap.size) c 0 0) 81)
theorem zN.made' {K:Type} {enc:K→Value} {w:World} {n:Nat} (h:w.heap.size=n):zN enc (w.alloc (.map #[] 0)) n []:=by subst h;exact zN.made
theorem zN.later {K:Type} {enc:K→Value} {w:World} {n:Nat} {l:List (K×Value)} (h:zN enc w n l) (o:Obj):zN enc (w.alloc o) n l:=h.of_blk (zM w h.lt)
theorem zMc {G:Nat} (w:World) (c:Cfg) (hG:G≤w.heap.size):RRep (zHC w c) (xj w.heap.size) G (w.heap.size+5) (zBC w.heap.size) (rNew c):=by
 have s1:∀(o1 o2 o3 o4 o5 o6:Obj),((((((w.alloc o1).alloc o2).alloc o3).alloc o4).alloc o5).alloc o6).heap.size=w.heap.size+6:=fun _ _ _ _ _ _=>by simp
 refine ⟨?_,⟨?_,?_⟩,⟨?_,?_,List.nodup_nil,?_⟩,⟨?_,?_,List.nodup_nil,?_⟩,⟨?_,?_,List.nodup_nil,?_⟩,⟨?_,?_,List.nodup_nil⟩,SlAt.nil,SlAt.nil,⟨List.Pairwise.nil,[],List.Perm.refl _,?_,SlAt.nil,List.nodup_nil,?_⟩,SlAt.nil⟩
 ·intro b hb
  rw [s1]
  unfold xj at hb
  by_cases h1:b=w.heap.size+5∨b=w.heap.size+1∨b=w.heap.size+2∨b=w.heap.size+3∨b=w.heap.size+4
  ·omega
  ·rw [if_neg (by omega),if_neg (by omega),if_neg (by omega),if_neg (by omega),if_neg (by omega)] at hb
   exact absurd rfl hb
 ·unfold xj;rw [if_pos rfl]
 ·have:=zP (((((w.alloc (.cells (zAN c) 34)).alloc (.map #[] 0)).alloc (.map #[] 0)).alloc (.map #[] 0)).alloc (.map #[] 0)) (o:=.cells (yR (zBC w.heap.size) c 0 0) 81)
  simp only [World.size_alloc] at this
  exact this
 ·show xj w.heap.size (w.heap.size+1)=_;unfold xj;rw [if_neg (by omega),if_pos rfl]
 ·exact ((((zN.made' (by simp [zBC])).later _).later _).later _).later _
 ·intro id q h;cases h
 ·show xj w.heap.size (w.heap.size+2)=_;unfold xj;rw [if_neg (by omega),if_neg (by omega),if_pos rfl]
 ·exact (((zN.made' (by simp [zBC])).later _).later _).later _
 ·intro id q h;cases h
 ·show xj w.heap.size (w.heap.size+3)=_;unfold xj;rw [if_neg (by omega),if_neg (by omega),if_neg (by omega),if_pos rfl]
 ·exact ((zN.made' (by simp [zBC])).later _).later _
 ·intro id q h;cases h
 ·show xj w.heap.size (w.heap.size+4)=_;unfold xj;rw [if_neg (by omega),if_neg (by omega),if_neg (by omega),if_neg (by omega),if_pos rfl]
 ·exact (zN.made' (by simp [zBC])).later _
 ·intro i a b _ h;simp at h
 ·intro i a h;simp at h
theorem zMd (n b:Nat) (h:Of (xj n) b):n≤b:=by
 unfold Of xj at h
 by_cases h1:n≤b
 ·exact h1
 ·rw [if_neg (by omega),if_neg (by omega),if_neg (by omega),if_neg (by omega),if_neg (by omega)] at h
  exact absurd rfl h
theorem zMe {G:Nat} {w:World} (hG:G≤w.heap.size) (c:Cfg):Calls Tryz.prog 17 #[.agg (zAN c)] w (zMb G c w):=by
 have hent:=zMZ
 have hmm:=@run_makeMap Tryz.prog
 have HW:=zh (zMa c)
 have HR:=zh (zMc w c hG)
 have C1:=zh (fun w=>zCD c.lease 1 20 w)
 have C2:=zh (fun w=>zCD c.retries 0 5 w)
 have C3:=zh (fun w=>zCD c.cap 1 5 w)
 have C4:=zh (fun w=>zCD c.bound 1 8 w)
 have C5:=zh (fun w=>zCD c.hedge 0 20 w)
 have HB1:Hid (Below w.heap.size w (w.alloc (.cells (zAN c) 34))):=((Fr.refl (fun _=>False) w).alloc _).below (Nat.le_refl _) (fun _ f=>f.elim)
 have HB6:Hid (Below w.heap.size w (zHC w c)):=((((((((Fr.refl (fun _=>False) w).alloc _).alloc _).alloc _).alloc _).alloc _).alloc _)).below (Nat.le_refl _) (fun _ f=>f.elim)
 have HCC:=zh (show zAN c=#[vi c.lease,vi c.retries,vi c.cap,vi c.bound,vi c.hedge] from rfl)
 rw [HCC.out] at HB1 ⊢
 obtain ⟨c1,c2,c3,c4,c5⟩:=c
 simp only at *
 generalize xi c1 1 20=b1 at *
 generalize xi c2 0 5=b2 at *
 generalize xi c3 1 5=b3 at *
 generalize xi c4 1 8=b4 at *
 generalize xi c5 0 20=b5 at *
 clear hG
 cases b1 with
 | false =>
   go_enter Tryz.func17,Tryz.ntmps17
   go_wp2_with fail
   refine (C1.out _).mono ?_
   rintro e w1 ⟨rfl,rfl⟩
   go_wp2_with fail
   go_ret2
   exact ⟨fun h=>by rw [HW.out] at h;simp at h,fun _=>rfl,HB1.out⟩
 | true =>
   cases b2 with
   | false =>
     go_enter Tryz.func17,Tryz.ntmps17
     go_wp2_with fail
     refine (C1.out _).mono ?_
     rintro e w1 ⟨rfl,rfl⟩
     go_wp2_with fail
     refine (C2.out _).mono ?_
     rintro e w1 ⟨rfl,rfl⟩
     go_wp2_with fail
     go_ret2
     exact ⟨fun h=>by rw [HW.out] at h;simp at h,fun _=>rfl,HB1.out⟩
   | true =>
     cases b3 with
     | false =>
       go_enter Tryz.func17,Tryz.ntmps17
       go_wp2_with fail
       refine (C1.out _).mono ?_
       rintro e w1 ⟨rfl,rfl⟩
       go_wp2_with fail
       refine (C2.out _).mono ?_
       rintro e w1 ⟨rfl,rfl⟩
       go_wp2_with fail
       refine (C3.out _).mono ?_
       rintro e w1 ⟨rfl,rfl⟩
       go_wp2_with fail
       go_ret2
       exact ⟨fun h=>by rw [HW.out] at h;simp at h,fun _=>rfl,HB1.out⟩
     | true =>
       cases b4 with
       | false =>
         go_enter Tryz.func17,Tryz.ntmps17
         go_wp2_with fail
         refine (C1.out _).mono ?_
         rintro e w1 ⟨rfl,rfl⟩
         go_wp2_with fail
         refine (C2.out _).mono ?_
         rintro e w1 ⟨rfl,rfl⟩
         go_wp2_with fail
         refine (C3.out _).mono ?_
         rintro e w1 ⟨rfl,rfl⟩
         go_wp2_with fail
         refine (C4.out _).mono ?_
         rintro e w1 ⟨rfl,rfl⟩
         go_wp2_with fail
         go_ret2
         exact ⟨fun h=>by rw [HW.out] at h;simp at h,fun _=>rfl,HB1.out⟩
       | true =>
         cases b5 with
         | false =>
           go_enter Tryz.func17,Tryz.ntmps17
           go_wp2_with fail
           refine (C1.out _).mono ?_
           rintro e w1 ⟨rfl,rfl⟩
           go_wp2_with fail
           refine (C2.out _).mono ?_
           rintro e w1 ⟨rfl,rfl⟩
           go_wp2_with fail
           refine (C3.out _).mono ?_
           rintro e w1 ⟨rfl,rfl⟩
           go_wp2_with fail
           refine (C4.out _).mono ?_
           rintro e w1 ⟨rfl,rfl⟩
           go_wp2_with fail
           refine (C5.out _).mono ?_
           rintro e w1 ⟨rfl,rfl⟩
           go_wp2_with fail
           go_ret2
           exact ⟨fun h=>by rw [HW.out] at h;simp at h,fun _=>rfl,HB1.out⟩
         | true =>
           go_enter Tryz.func17,Tryz.ntmps17
           go_wp2_with fail
           refine (C1.out _).mono ?_
           rintro e w1 ⟨rfl,rfl⟩
           go_wp2_with fail
           refine (C2.out _).mono ?_
           rintro e w1 ⟨rfl,rfl⟩
           go_wp2_with fail
           refine (C3.out _).mono ?_
           rintro e w1 ⟨rfl,rfl⟩
           go_wp2_with fail
           refine (C4.out _).mono ?_
           rintro e w1 ⟨rfl,rfl⟩
           go_wp2_with fail
           refine (C5.out _).mono ?_
           rintro e w1 ⟨rfl,rfl⟩
           go_wp2_with fail
           go_ret2
           exact ⟨fun _=>⟨w.heap.size+5,_,_,rfl,HR.out,fun b hb=>zMd _ b hb⟩,fun h=>by rw [HW.out] at h;simp at h,HB6.out⟩
theorem zES {G:Nat} {w:World} (s:zA) (hs:s.length≤140737488351300):Calls Tryz.prog 19 #[vs (bs s)] w fun e w'=>e=.returned (vs (bs (zS s)))∧Below w.heap.size w w':=by
 have HC:=zh (zGo s (by omega) w)
 go_enter Tryz.func19,Tryz.ntmps19
 go_wp2_with fail
 refine HC.out.mono ?_
 rintro e w1 ⟨rfl,hb⟩
 have HB:=zh hb
 clear hb
 go_wp2_with fail
 go_ret
 exact ⟨rfl,HB.out⟩
end Go.Proofs.YtaejfobbogahmaaGreatDoor
