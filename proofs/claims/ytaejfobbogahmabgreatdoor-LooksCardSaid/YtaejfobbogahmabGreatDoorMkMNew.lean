/-
  The walk of dispatchref.New.
-/
import Derived.Test.YtaejfobbogahmabGreatDoorMkMLine
import Derived.Test.YtaejfobbogahmabGreatDoorMkNew
set_option maxRecDepth 100000
set_option maxHeartbeats 16000000
set_option linter.unusedVariables false
set_option linter.unusedSimpArgs false
namespace Go.Proofs.YtaejfobbogahmabGreatDoor
open Go Go.RowKit
theorem mwithin_calls (n a b:Int) (w:World):Calls Tryz.prog 35 #[vi n,vi a,vi b] w fun e w'=>e=.returned (.bool (within n a b))∧w=w':=by
 refine (within_calls n a b w).mono ?_
 rintro e w' ⟨rfl,rfl⟩
 exact ⟨by unfold within;simp,rfl⟩
def MNewPost (G:Nat) (c:Cfg) (w:World) (e:Ending) (w':World):Prop:=
 (cfgOk c=true→∃M ρ L,e=.returned (.tuple #[vp M,.bool true])∧MRep w' ρ G M L (mNew c)∧∀b,Of ρ b→w.heap.size≤b)∧(cfgOk c=false→e=.returned (.tuple #[.pointer none,.bool false]))∧Below w.heap.size w w'
abbrev mnewWorld (w:World) (c:Cfg):World:=(w.alloc (.cells (cfgCells c) 26)).alloc (.cells #[vi c.lease,vi c.retries,vi c.cap,vi c.bound,vi c.hedge,vi 0,.slice none 0 0,.slice none 0 0,.slice none 0 0,.slice none 0 0,.slice none 0 0,.slice none 0 0] 86)
def mnewRole (n:Nat):Nat→Role:=fun b=>if b=n+1 then rMod else Role.none
def mnewLay:MLay:=⟨.slice none 0 0,.slice none 0 0,.slice none 0 0,.slice none 0 0,.slice none 0 0,.slice none 0 0,fun _=>.slice none 0 0⟩
theorem mnew_own (n b:Nat) (h:Of (mnewRole n) b):n≤b:=by
 unfold Of mnewRole at h
 split at h
 ·omega
 ·exact absurd rfl h
theorem mnew_rep {G:Nat} (w:World) (c:Cfg) (hG:G≤w.heap.size):MRep (mnewWorld w c) (mnewRole w.heap.size) G (w.heap.size+1) mnewLay (mNew c):=by
 refine ⟨fun b hb=>?_,⟨by simp [mnewRole],?_⟩,SlAt.nil,SlAt.nil,SlAt.nil,(fun t l h=>by cases h),List.nodup_nil,SlAt.nil,SlAt.nil,SlAt.nil⟩
 ·have h1:=mnew_own _ _ hb
  have h2:b=w.heap.size+1:=by
   unfold mnewRole at hb
   split at hb
   ·assumption
   ·exact absurd rfl hb
  exact ⟨Nat.le_trans hG h1,by subst h2;simp⟩
 ·have:=blk_alloc_new (w.alloc (.cells (cfgCells c) 26)) (o:=.cells #[vi c.lease,vi c.retries,vi c.cap,vi c.bound,vi c.hedge,vi 0,.slice none 0 0,.slice none 0 0,.slice none 0 0,.slice none 0 0,.slice none 0 0,.slice none 0 0] 86)
  rw [World.size_alloc] at this
  exact this
theorem mnew_calls {G:Nat} {w:World} (hG:G≤w.heap.size) (c:Cfg):Calls Tryz.prog 16 #[.agg (cfgCells c)] w (MNewPost G c w):=by
 have HW:=Lib.hid (cfgOk_within c)
 have HR:=Lib.hid (mnew_rep w c hG)
 have C1:=Lib.hid (fun w=>mwithin_calls c.lease 1 20 w)
 have C2:=Lib.hid (fun w=>mwithin_calls c.retries 0 5 w)
 have C3:=Lib.hid (fun w=>mwithin_calls c.cap 1 5 w)
 have C4:=Lib.hid (fun w=>mwithin_calls c.bound 1 8 w)
 have C5:=Lib.hid (fun w=>mwithin_calls c.hedge 0 20 w)
 have HB1:Hid (Below w.heap.size w (w.alloc (.cells (cfgCells c) 26))):=((Fr.refl (fun _=>False) w).alloc _).below (Nat.le_refl _) (fun _ f=>f.elim)
 have HB6:Hid (Below w.heap.size w (mnewWorld w c)):=(((Fr.refl (fun _=>False) w).alloc _).alloc _).below (Nat.le_refl _) (fun _ f=>f.elim)
 have HCC:=Lib.hid (show cfgCells c=#[vi c.lease,vi c.retries,vi c.cap,vi c.bound,vi c.hedge] from rfl)
 rw [HCC.out] at HB1 ⊢
 have hbk:(w.alloc (.cells #[vi c.lease,vi c.retries,vi c.cap,vi c.bound,vi c.hedge] 26)).heap[w.heap.size]?=some (.cells #[vi c.lease,vi c.retries,vi c.cap,vi c.bound,vi c.hedge] 26 (0,0)):=blk_alloc_new w
 obtain ⟨c1,c2,c3,c4,c5⟩:=c
 simp only at *
 have d0:=cell_of_blk (off:=0) hbk rfl
 have d1:=cell_of_blk (off:=1) hbk rfl
 have d2:=cell_of_blk (off:=2) hbk rfl
 have d3:=cell_of_blk (off:=3) hbk rfl
 have d4:=cell_of_blk (off:=4) hbk rfl
 generalize within c1 1 20=b1 at *
 generalize within c2 0 5=b2 at *
 generalize within c3 1 5=b3 at *
 generalize within c4 1 8=b4 at *
 generalize within c5 0 20=b5 at *
 clear hG hbk
 cases b1 with
 | false =>
   go_enter Tryz.func16,Tryz.ntmps16
   go_wp2_with fail
   refine (C1.out _).mono ?_
   rintro e w1 ⟨rfl,rfl⟩
   go_wp2_with fail
   go_ret2
   exact ⟨fun h=>by rw [HW.out] at h;simp at h,fun _=>rfl,HB1.out⟩
 | true =>
   cases b2 with
   | false =>
     go_enter Tryz.func16,Tryz.ntmps16
     go_wp2_with fail
     refine (C1.out _).mono ?_
     rintro e w1 ⟨rfl,rfl⟩
     go_wp2_with fail
     refine (C2.out _).mono ?_
     rintro e w1 ⟨rfl,rfl⟩
     go_wp2_with fail
     go_ret2
     exact ⟨fun h=>by rw [HW.out] at h;simp at h,fun _=>rfl,HB1.out⟩
   | true =>
     cases b3 with
     | false =>
       go_enter Tryz.func16,Tryz.ntmps16
       go_wp2_with fail
       refine (C1.out _).mono ?_
       rintro e w1 ⟨rfl,rfl⟩
       go_wp2_with fail
       refine (C2.out _).mono ?_
       rintro e w1 ⟨rfl,rfl⟩
       go_wp2_with fail
       refine (C3.out _).mono ?_
       rintro e w1 ⟨rfl,rfl⟩
       go_wp2_with fail
       go_ret2
       exact ⟨fun h=>by rw [HW.out] at h;simp at h,fun _=>rfl,HB1.out⟩
     | true =>
       cases b4 with
       | false =>
         go_enter Tryz.func16,Tryz.ntmps16
         go_wp2_with fail
         refine (C1.out _).mono ?_
         rintro e w1 ⟨rfl,rfl⟩
         go_wp2_with fail
         refine (C2.out _).mono ?_
         rintro e w1 ⟨rfl,rfl⟩
         go_wp2_with fail
         refine (C3.out _).mono ?_
         rintro e w1 ⟨rfl,rfl⟩
         go_wp2_with fail
         refine (C4.out _).mono ?_
         rintro e w1 ⟨rfl,rfl⟩
         go_wp2_with fail
         go_ret2
         exact ⟨fun h=>by rw [HW.out] at h;simp at h,fun _=>rfl,HB1.out⟩
       | true =>
         cases b5 with
         | false =>
           go_enter Tryz.func16,Tryz.ntmps16
           go_wp2_with fail
           refine (C1.out _).mono ?_
           rintro e w1 ⟨rfl,rfl⟩
           go_wp2_with fail
           refine (C2.out _).mono ?_
           rintro e w1 ⟨rfl,rfl⟩
           go_wp2_with fail
           refine (C3.out _).mono ?_
           rintro e w1 ⟨rfl,rfl⟩
           go_wp2_with fail
           refine (C4.out _).mono ?_
           rintro e w1 ⟨rfl,rfl⟩
           go_wp2_with fail
           refine (C5.out _).mono ?_
           rintro e w1 ⟨rfl,rfl⟩
           go_wp2_with fail
           go_ret2
           exact ⟨fun h=>by rw [HW.out] at h;simp at h,fun _=>rfl,HB1.out⟩
         | true =>
           go_enter Tryz.func16,Tryz.ntmps16
           go_wp2_with fail
           refine (C1.out _).mono ?_
           rintro e w1 ⟨rfl,rfl⟩
           go_wp2_with fail
           refine (C2.out _).mono ?_
           rintro e w1 ⟨rfl,rfl⟩
           go_wp2_with fail
           refine (C3.out _).mono ?_
           rintro e w1 ⟨rfl,rfl⟩
           go_wp2_with fail
           refine (C4.out _).mono ?_
           rintro e w1 ⟨rfl,rfl⟩
           go_wp2_with fail
           refine (C5.out _).mono ?_
           rintro e w1 ⟨rfl,rfl⟩
           go_wp2_with fail
           go_ret2
           exact ⟨fun _=>⟨w.heap.size+1,_,_,rfl,HR.out,fun b hb=>mnew_own _ b hb⟩,fun h=>by rw [HW.out] at h;simp at h,HB6.out⟩
end Go.Proofs.YtaejfobbogahmabGreatDoor
