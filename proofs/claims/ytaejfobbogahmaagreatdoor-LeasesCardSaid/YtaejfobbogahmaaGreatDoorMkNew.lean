/-
  New: texts of their own, joined.
-/
import Derived.Test.YtaejfobbogahmaaGreatDoorMkHandle1
set_option maxRecDepth 100000
set_option maxHeartbeats 16000000
set_option linter.all false
namespace Go.Proofs.YtaejfobbogahmaaGreatDoor
open Go Go.RowKit
theorem zQr (args:Array Value) (w:World):(callFunc 32 args).run Tryz.prog w=.ok (.enter 32 args) w:=by kernel_rfl
def zCW (n least most:Int):Bool:=decide (least≤n)&&decide (n≤most)
theorem zEL (n least most:Int) (w:World):Calls Tryz.prog 32 #[vi n,vi least,vi most] w fun e w'=>e=.returned (.bool (zCW n least most))∧w=w':=by
 unfold zCW
 by_cases h:least≤n
 ·have h1:decide (least≤n)=true:=decide_eq_true h
  have h2:decide (n≥least)=true:=decide_eq_true h
  rw [h1]
  clear h
  go_enter Tryz.func32,Tryz.ntmps32
  go_wp2_with fail
  go_ret
  exact ⟨rfl,rfl⟩
 ·have h1:decide (least≤n)=false:=decide_eq_false h
  have h2:decide (n≥least)=false:=decide_eq_false h
  rw [h1]
  clear h
  go_enter Tryz.func32,Tryz.ntmps32
  go_wp2_with fail
  go_ret
  exact ⟨rfl,rfl⟩
def cfgCells (c:Cfg):Array Value:=#[vi c.lease,vi c.retries,vi c.cap,vi c.bound,vi c.hedge]
theorem zHy (c:Cfg):cfgOk c=(zCW c.lease 1 20&&zCW c.retries 0 5&&zCW c.cap 1 5&&zCW c.bound 1 8&&zCW c.hedge 0 20):=by
 unfold cfgOk zCW
 simp only [Bool.and_assoc]
def zSo (G:Nat) (c:Cfg) (w:World) (e:Ending) (w':World):Prop:=
 (cfgOk c=true→∃D ρ L,e=.returned (.tuple #[vp D,vi 0])∧RRep w' ρ G D L (rNew c)∧(∀b,Of ρ b→w.heap.size≤b))∧(cfgOk c=false→e=.returned (.tuple #[.pointer none,vi 1]))∧Below w.heap.size w w'
def zCp (n:Nat):Nat→Role:=fun b=>if b=n+5 then rDisp else if b=n+1 then rMo else if b=n+2 then rMc else if b=n+3 then rMq else if b=n+4 then rMr else Role.none
def zJa (n:Nat):Lay:=⟨n+1,n+2,n+3,n+4,fun _=>0,fun _=>0,fun _=>0,.slice none 0 0,.slice none 0 0,.slice none 0 0,.slice none 0 0,fun _=>.slice none 0 0,fun _=>.slice none 0 0⟩
abbrev zPh (w:World) (c:Cfg):World:=
 (((((w.alloc (.cells (cfgCells c) 34)).alloc (.map #[] 0)).alloc (.map #[] 0)).alloc (.map #[] 0)).alloc (.map #[] 0)).alloc (.cells (zAy (zJa w.heap.size) c 0 0) 81)
theorem MapAt.made' {K:Type} {enc:K→Value} {w:World} {n:Nat} (h:w.heap.size=n):MapAt enc (w.alloc (.map #[] 0)) n []:=by subst h;exact MapAt.made
theorem MapAt.later {K:Type} {enc:K→Value} {w:World} {n:Nat} {l:List (K×Value)} (h:MapAt enc w n l) (o:Obj):MapAt enc (w.alloc o) n l:=h.of_blk (zAG w h.lt)
theorem zWU {G:Nat} (w:World) (c:Cfg) (hG:G≤w.heap.size):RRep (zPh w c) (zCp w.heap.size) G (w.heap.size+5) (zJa w.heap.size) (rNew c):=by
 have s1:∀(o1 o2 o3 o4 o5 o6:Obj),((((((w.alloc o1).alloc o2).alloc o3).alloc o4).alloc o5).alloc o6).heap.size=w.heap.size+6:=fun _ _ _ _ _ _=>by simp
 refine ⟨?_,⟨?_,?_⟩,⟨?_,?_,List.nodup_nil,?_⟩,⟨?_,?_,List.nodup_nil,?_⟩,⟨?_,?_,List.nodup_nil,?_⟩,⟨?_,?_,List.nodup_nil⟩,SlAt.nil,SlAt.nil,⟨List.Pairwise.nil,[],List.Perm.refl _,?_,SlAt.nil,List.nodup_nil,?_⟩,SlAt.nil⟩
 ·intro b hb
  rw [s1]
  unfold zCp at hb
  by_cases h1:b=w.heap.size+5∨b=w.heap.size+1∨b=w.heap.size+2∨b=w.heap.size+3∨b=w.heap.size+4
  ·omega
  ·rw [if_neg (by omega),if_neg (by omega),if_neg (by omega),if_neg (by omega),if_neg (by omega)] at hb
   exact absurd rfl hb
 ·unfold zCp;rw [if_pos rfl]
 ·have:=zAD (((((w.alloc (.cells (cfgCells c) 34)).alloc (.map #[] 0)).alloc (.map #[] 0)).alloc (.map #[] 0)).alloc (.map #[] 0)) (o:=.cells (zAy (zJa w.heap.size) c 0 0) 81)
  simp only [World.size_alloc] at this
  exact this
 ·show zCp w.heap.size (w.heap.size+1)=_;unfold zCp;rw [if_neg (by omega),if_pos rfl]
 ·exact ((((MapAt.made' (by simp [zJa])).later _).later _).later _).later _
 ·intro id q h;cases h
 ·show zCp w.heap.size (w.heap.size+2)=_;unfold zCp;rw [if_neg (by omega),if_neg (by omega),if_pos rfl]
 ·exact (((MapAt.made' (by simp [zJa])).later _).later _).later _
 ·intro id q h;cases h
 ·show zCp w.heap.size (w.heap.size+3)=_;unfold zCp;rw [if_neg (by omega),if_neg (by omega),if_neg (by omega),if_pos rfl]
 ·exact ((MapAt.made' (by simp [zJa])).later _).later _
 ·intro id q h;cases h
 ·show zCp w.heap.size (w.heap.size+4)=_;unfold zCp;rw [if_neg (by omega),if_neg (by omega),if_neg (by omega),if_neg (by omega),if_pos rfl]
 ·exact (MapAt.made' (by simp [zJa])).later _
 ·intro i a b _ h;simp at h
 ·intro i a h;simp at h
theorem zWV (n b:Nat) (h:Of (zCp n) b):n≤b:=by
 unfold Of zCp at h
 by_cases h1:n≤b
 ·exact h1
 ·rw [if_neg (by omega),if_neg (by omega),if_neg (by omega),if_neg (by omega),if_neg (by omega)] at h
  exact absurd rfl h
theorem zNI {G:Nat} {w:World} (hG:G≤w.heap.size) (c:Cfg):Calls Tryz.prog 17 #[.agg (cfgCells c)] w (zSo G c w):=by
 have hent:=zQr
 have hmm:=@run_makeMap Tryz.prog
 have HW:=Lib.hid (zHy c)
 have HR:=Lib.hid (zWU w c hG)
 have C1:=Lib.hid (fun w=>zEL c.lease 1 20 w)
 have C2:=Lib.hid (fun w=>zEL c.retries 0 5 w)
 have C3:=Lib.hid (fun w=>zEL c.cap 1 5 w)
 have C4:=Lib.hid (fun w=>zEL c.bound 1 8 w)
 have C5:=Lib.hid (fun w=>zEL c.hedge 0 20 w)
 have HB1:Hid (Below w.heap.size w (w.alloc (.cells (cfgCells c) 34))):=((Fr.refl (fun _=>False) w).alloc _).below (Nat.le_refl _) (fun _ f=>f.elim)
 have HB6:Hid (Below w.heap.size w (zPh w c)):=((((((((Fr.refl (fun _=>False) w).alloc _).alloc _).alloc _).alloc _).alloc _).alloc _)).below (Nat.le_refl _) (fun _ f=>f.elim)
 have HCC:=Lib.hid (show cfgCells c=#[vi c.lease,vi c.retries,vi c.cap,vi c.bound,vi c.hedge] from rfl)
 rw [HCC.out] at HB1 ⊢
 obtain ⟨c1,c2,c3,c4,c5⟩:=c
 simp only at *
 generalize zCW c1 1 20=b1 at *
 generalize zCW c2 0 5=b2 at *
 generalize zCW c3 1 5=b3 at *
 generalize zCW c4 1 8=b4 at *
 generalize zCW c5 0 20=b5 at *
 clear hG
 cases b1 with
 | false =>
   go_enter Tryz.func17,Tryz.ntmps17
   go_wp2_with fail
   refine (C1.out _).mono ?_
   rintro e w1 ⟨rfl,rfl⟩
   go_wp2_with fail
   go_ret2
   exact ⟨fun h=>by rw [HW.out] at h;simp at h,fun _=>rfl,HB1.out⟩
 | true =>
   cases b2 with
   | false =>
     go_enter Tryz.func17,Tryz.ntmps17
     go_wp2_with fail
     refine (C1.out _).mono ?_
     rintro e w1 ⟨rfl,rfl⟩
     go_wp2_with fail
     refine (C2.out _).mono ?_
     rintro e w1 ⟨rfl,rfl⟩
     go_wp2_with fail
     go_ret2
     exact ⟨fun h=>by rw [HW.out] at h;simp at h,fun _=>rfl,HB1.out⟩
   | true =>
     cases b3 with
     | false =>
       go_enter Tryz.func17,Tryz.ntmps17
       go_wp2_with fail
       refine (C1.out _).mono ?_
       rintro e w1 ⟨rfl,rfl⟩
       go_wp2_with fail
       refine (C2.out _).mono ?_
       rintro e w1 ⟨rfl,rfl⟩
       go_wp2_with fail
       refine (C3.out _).mono ?_
       rintro e w1 ⟨rfl,rfl⟩
       go_wp2_with fail
       go_ret2
       exact ⟨fun h=>by rw [HW.out] at h;simp at h,fun _=>rfl,HB1.out⟩
     | true =>
       cases b4 with
       | false =>
         go_enter Tryz.func17,Tryz.ntmps17
         go_wp2_with fail
         refine (C1.out _).mono ?_
         rintro e w1 ⟨rfl,rfl⟩
         go_wp2_with fail
         refine (C2.out _).mono ?_
         rintro e w1 ⟨rfl,rfl⟩
         go_wp2_with fail
         refine (C3.out _).mono ?_
         rintro e w1 ⟨rfl,rfl⟩
         go_wp2_with fail
         refine (C4.out _).mono ?_
         rintro e w1 ⟨rfl,rfl⟩
         go_wp2_with fail
         go_ret2
         exact ⟨fun h=>by rw [HW.out] at h;simp at h,fun _=>rfl,HB1.out⟩
       | true =>
         cases b5 with
         | false =>
           go_enter Tryz.func17,Tryz.ntmps17
           go_wp2_with fail
           refine (C1.out _).mono ?_
           rintro e w1 ⟨rfl,rfl⟩
           go_wp2_with fail
           refine (C2.out _).mono ?_
           rintro e w1 ⟨rfl,rfl⟩
           go_wp2_with fail
           refine (C3.out _).mono ?_
           rintro e w1 ⟨rfl,rfl⟩
           go_wp2_with fail
           refine (C4.out _).mono ?_
           rintro e w1 ⟨rfl,rfl⟩
           go_wp2_with fail
           refine (C5.out _).mono ?_
           rintro e w1 ⟨rfl,rfl⟩
           go_wp2_with fail
           go_ret2
           exact ⟨fun h=>by rw [HW.out] at h;simp at h,fun _=>rfl,HB1.out⟩
         | true =>
           go_enter Tryz.func17,Tryz.ntmps17
           go_wp2_with fail
           refine (C1.out _).mono ?_
           rintro e w1 ⟨rfl,rfl⟩
           go_wp2_with fail
           refine (C2.out _).mono ?_
           rintro e w1 ⟨rfl,rfl⟩
           go_wp2_with fail
           refine (C3.out _).mono ?_
           rintro e w1 ⟨rfl,rfl⟩
           go_wp2_with fail
           refine (C4.out _).mono ?_
           rintro e w1 ⟨rfl,rfl⟩
           go_wp2_with fail
           refine (C5.out _).mono ?_
           rintro e w1 ⟨rfl,rfl⟩
           go_wp2_with fail
           go_ret2
           exact ⟨fun _=>⟨w.heap.size+5,_,_,rfl,HR.out,fun b hb=>zWV _ b hb⟩,fun h=>by rw [HW.out] at h;simp at h,HB6.out⟩
end Go.Proofs.YtaejfobbogahmaaGreatDoor
