/-
  MNew: texts of their own, joined.
-/
import Derived.Test.YtaejfobbogahmaaGreatDoorMkMLine
import Derived.Test.YtaejfobbogahmaaGreatDoorMkNew
set_option maxRecDepth 100000
set_option maxHeartbeats 16000000
set_option linter.all false
namespace Go.Proofs.YtaejfobbogahmaaGreatDoor
open Go Go.RowKit
theorem zEk (n a b:Int) (w:World):Calls Tryz.prog 113 #[vi n,vi a,vi b] w fun e w'=>e=.returned (.bool (xe n a b))∧w=w':=by
 refine (zSX n a b w).mono ?_
 rintro e w' ⟨rfl,rfl⟩
 exact ⟨by unfold xe;simp,rfl⟩
def zMf (G:Nat) (c:Cfg) (w:World) (e:Ending) (w':World):Prop:=
 (zAN c=true→∃M ρ L,e=.returned (.tuple #[vp M,.bool true])∧MRep w' ρ G M L (mNew c)∧∀b,Of ρ b→w.heap.size≤b)∧(zAN c=false→e=.returned (.tuple #[.pointer none,.bool false]))∧Below w.heap.size w w'
abbrev zMg (w:World) (c:Cfg):World:=(w.alloc (.cells (cfgCells c) 34)).alloc (.cells #[vi c.lease,vi c.retries,vi c.cap,vi c.bound,vi c.hedge,vi 0,.slice none 0 0,.slice none 0 0,.slice none 0 0,.slice none 0 0,.slice none 0 0,.slice none 0 0] 179)
def zEl (n:Nat):Nat→Role:=fun b=>if b=n+1 then rMod else Role.none
def zUO:MLay:=⟨.slice none 0 0,.slice none 0 0,.slice none 0 0,.slice none 0 0,.slice none 0 0,.slice none 0 0,fun _=>.slice none 0 0⟩
theorem zMh (n b:Nat) (h:Of (zEl n) b):n≤b:=by
 unfold Of zEl at h
 split at h
 ·omega
 ·exact absurd rfl h
theorem zUP {G:Nat} (w:World) (c:Cfg) (hG:G≤w.heap.size):MRep (zMg w c) (zEl w.heap.size) G (w.heap.size+1) zUO (mNew c):=by
 refine ⟨fun b hb=>?_,⟨by simp [zEl],?_⟩,SlAt.nil,SlAt.nil,SlAt.nil,(fun t l h=>by cases h),List.nodup_nil,SlAt.nil,SlAt.nil,SlAt.nil⟩
 ·have h1:=zMh _ _ hb
  have h2:b=w.heap.size+1:=by
   unfold zEl at hb
   split at hb
   ·assumption
   ·exact absurd rfl hb
  exact ⟨Nat.le_trans hG h1,by subst h2;simp⟩
 ·have:=zL (w.alloc (.cells (cfgCells c) 34)) (o:=.cells #[vi c.lease,vi c.retries,vi c.cap,vi c.bound,vi c.hedge,vi 0,.slice none 0 0,.slice none 0 0,.slice none 0 0,.slice none 0 0,.slice none 0 0,.slice none 0 0] 179)
  rw [World.size_alloc] at this
  exact this
theorem zMi {G:Nat} {w:World} (hG:G≤w.heap.size) (c:Cfg):Calls Tryz.prog 82 #[.agg (cfgCells c)] w (zMf G c w):=by
 have HW:=zh (zMb c)
 have HR:=zh (zUP w c hG)
 have C1:=zh (fun w=>zEk c.lease 1 20 w)
 have C2:=zh (fun w=>zEk c.retries 0 5 w)
 have C3:=zh (fun w=>zEk c.cap 1 5 w)
 have C4:=zh (fun w=>zEk c.bound 1 8 w)
 have C5:=zh (fun w=>zEk c.hedge 0 20 w)
 have HB1:Hid (Below w.heap.size w (w.alloc (.cells (cfgCells c) 34))):=((Fr.refl (fun _=>False) w).alloc _).below (Nat.le_refl _) (fun _ f=>f.elim)
 have HB6:Hid (Below w.heap.size w (zMg w c)):=(((Fr.refl (fun _=>False) w).alloc _).alloc _).below (Nat.le_refl _) (fun _ f=>f.elim)
 have HCC:=zh (show cfgCells c=#[vi c.lease,vi c.retries,vi c.cap,vi c.bound,vi c.hedge] from rfl)
 rw [HCC.out] at HB1 ⊢
 have hbk:(w.alloc (.cells #[vi c.lease,vi c.retries,vi c.cap,vi c.bound,vi c.hedge] 34)).heap[w.heap.size]?=some (.cells #[vi c.lease,vi c.retries,vi c.cap,vi c.bound,vi c.hedge] 34 (0,0)):=zL w
 obtain ⟨c1,c2,c3,c4,c5⟩:=c
 simp only at *
 have d0:=zB (off:=0) hbk rfl
 have d1:=zB (off:=1) hbk rfl
 have d2:=zB (off:=2) hbk rfl
 have d3:=zB (off:=3) hbk rfl
 have d4:=zB (off:=4) hbk rfl
 generalize xe c1 1 20=b1 at *
 generalize xe c2 0 5=b2 at *
 generalize xe c3 1 5=b3 at *
 generalize xe c4 1 8=b4 at *
 generalize xe c5 0 20=b5 at *
 clear hG hbk
 cases b1 with
 | false =>
   go_enter Tryz.func82,Tryz.ntmps82
   go_wp2_with fail
   refine (C1.out _).mono ?_
   rintro e w1 ⟨rfl,rfl⟩
   go_wp2_with fail
   go_ret2
   exact ⟨fun h=>by rw [HW.out] at h;simp at h,fun _=>rfl,HB1.out⟩
 | true =>
   cases b2 with
   | false =>
     go_enter Tryz.func82,Tryz.ntmps82
     go_wp2_with fail
     refine (C1.out _).mono ?_
     rintro e w1 ⟨rfl,rfl⟩
     go_wp2_with fail
     refine (C2.out _).mono ?_
     rintro e w1 ⟨rfl,rfl⟩
     go_wp2_with fail
     go_ret2
     exact ⟨fun h=>by rw [HW.out] at h;simp at h,fun _=>rfl,HB1.out⟩
   | true =>
     cases b3 with
     | false =>
       go_enter Tryz.func82,Tryz.ntmps82
       go_wp2_with fail
       refine (C1.out _).mono ?_
       rintro e w1 ⟨rfl,rfl⟩
       go_wp2_with fail
       refine (C2.out _).mono ?_
       rintro e w1 ⟨rfl,rfl⟩
       go_wp2_with fail
       refine (C3.out _).mono ?_
       rintro e w1 ⟨rfl,rfl⟩
       go_wp2_with fail
       go_ret2
       exact ⟨fun h=>by rw [HW.out] at h;simp at h,fun _=>rfl,HB1.out⟩
     | true =>
       cases b4 with
       | false =>
         go_enter Tryz.func82,Tryz.ntmps82
         go_wp2_with fail
         refine (C1.out _).mono ?_
         rintro e w1 ⟨rfl,rfl⟩
         go_wp2_with fail
         refine (C2.out _).mono ?_
         rintro e w1 ⟨rfl,rfl⟩
         go_wp2_with fail
         refine (C3.out _).mono ?_
         rintro e w1 ⟨rfl,rfl⟩
         go_wp2_with fail
         refine (C4.out _).mono ?_
         rintro e w1 ⟨rfl,rfl⟩
         go_wp2_with fail
         go_ret2
         exact ⟨fun h=>by rw [HW.out] at h;simp at h,fun _=>rfl,HB1.out⟩
       | true =>
         cases b5 with
         | false =>
           go_enter Tryz.func82,Tryz.ntmps82
           go_wp2_with fail
           refine (C1.out _).mono ?_
           rintro e w1 ⟨rfl,rfl⟩
           go_wp2_with fail
           refine (C2.out _).mono ?_
           rintro e w1 ⟨rfl,rfl⟩
           go_wp2_with fail
           refine (C3.out _).mono ?_
           rintro e w1 ⟨rfl,rfl⟩
           go_wp2_with fail
           refine (C4.out _).mono ?_
           rintro e w1 ⟨rfl,rfl⟩
           go_wp2_with fail
           refine (C5.out _).mono ?_
           rintro e w1 ⟨rfl,rfl⟩
           go_wp2_with fail
           go_ret2
           exact ⟨fun h=>by rw [HW.out] at h;simp at h,fun _=>rfl,HB1.out⟩
         | true =>
           go_enter Tryz.func82,Tryz.ntmps82
           go_wp2_with fail
           refine (C1.out _).mono ?_
           rintro e w1 ⟨rfl,rfl⟩
           go_wp2_with fail
           refine (C2.out _).mono ?_
           rintro e w1 ⟨rfl,rfl⟩
           go_wp2_with fail
           refine (C3.out _).mono ?_
           rintro e w1 ⟨rfl,rfl⟩
           go_wp2_with fail
           refine (C4.out _).mono ?_
           rintro e w1 ⟨rfl,rfl⟩
           go_wp2_with fail
           refine (C5.out _).mono ?_
           rintro e w1 ⟨rfl,rfl⟩
           go_wp2_with fail
           go_ret2
           exact ⟨fun _=>⟨w.heap.size+1,_,_,rfl,HR.out,fun b hb=>zMh _ b hb⟩,fun h=>by rw [HW.out] at h;simp at h,HB6.out⟩
end Go.Proofs.YtaejfobbogahmaaGreatDoor
