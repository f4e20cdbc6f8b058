/-
  The walk of Refuses.
-/
import Derived.Test.YtaejfobbogahmaaGreatDoorMkRef1
set_option linter.unusedVariables false
set_option linter.unusedSimpArgs false
namespace Go.Proofs.YtaejfobbogahmaaGreatDoor
open Go Go.RowKit

theorem lineCells_at (m : Nat) (x : RefLine) (h : refLines[m]? = some x) : lineCells[m * 3]? = some (vs (bs x.s)) ∧ lineCells[m * 3 + 1]? = some (.bool x.plain) ∧ lineCells[m * 3 + 2]? = some (vs (bs x.said)) := by
  have key : ∀ (l : List RefLine) (m : Nat), l[m]? = some x → (l.flatMap fun x => [vs (bs x.s), Value.bool x.plain, vs (bs x.said)])[m * 3]? = some (vs (bs x.s)) ∧ (l.flatMap fun x => [vs (bs x.s), Value.bool x.plain, vs (bs x.said)])[m * 3 + 1]? = some (.bool x.plain) ∧ (l.flatMap fun x => [vs (bs x.s), Value.bool x.plain, vs (bs x.said)])[m * 3 + 2]? = some (vs (bs x.said)) := by
    intro l
    induction l with
    | nil => intro m h; simp at h
    | cons y l ih =>
      intro m h
      cases m with
      | zero => simp at h; subst h; exact ⟨rfl, rfl, rfl⟩
      | succ m =>
        have := ih m (by simpa using h)
        rw [List.flatMap_cons, show (m + 1) * 3 = m * 3 + 3 from by omega]
        exact ⟨by simpa using this.1, by simpa using this.2.1, by simpa using this.2.2⟩
  unfold lineCells
  simpa using key refLines m h
theorem cfgRows_at (m : Nat) (c : Cfg) (h : refCfgs[m]? = some c) : cfgRows[m * 5]? = some (vi c.lease) ∧ cfgRows[m * 5 + 1]? = some (vi c.retries) ∧ cfgRows[m * 5 + 2]? = some (vi c.cap) ∧ cfgRows[m * 5 + 3]? = some (vi c.bound) ∧ cfgRows[m * 5 + 4]? = some (vi c.hedge) := by
  have key : ∀ (l : List Cfg) (m : Nat), l[m]? = some c → (l.flatMap fun c => [vi c.lease, vi c.retries, vi c.cap, vi c.bound, vi c.hedge])[m * 5]? = some (vi c.lease) ∧ (l.flatMap fun c => [vi c.lease, vi c.retries, vi c.cap, vi c.bound, vi c.hedge])[m * 5 + 1]? = some (vi c.retries) ∧ (l.flatMap fun c => [vi c.lease, vi c.retries, vi c.cap, vi c.bound, vi c.hedge])[m * 5 + 2]? = some (vi c.cap) ∧ (l.flatMap fun c => [vi c.lease, vi c.retries, vi c.cap, vi c.bound, vi c.hedge])[m * 5 + 3]? = some (vi c.bound) ∧ (l.flatMap fun c => [vi c.lease, vi c.retries, vi c.cap, vi c.bound, vi c.hedge])[m * 5 + 4]? = some (vi c.hedge) := by
    intro l
    induction l with
    | nil => intro m h; simp at h
    | cons y l ih =>
      intro m h
      cases m with
      | zero => simp at h; subst h; exact ⟨rfl, rfl, rfl, rfl, rfl⟩
      | succ m =>
        have := ih m (by simpa using h)
        rw [List.flatMap_cons, show (m + 1) * 5 = m * 5 + 5 from by omega]
        exact ⟨by simpa using this.1, by simpa using this.2.1, by simpa using this.2.2.1, by simpa using this.2.2.2.1, by simpa using this.2.2.2.2⟩
  unfold cfgRows
  simpa using key refCfgs m h

theorem Step.not_ofK {ρ ρ' : Nat → Role} {w w' : World} (h : Step ρ ρ' w w') {B : Nat} (hB : B < w.heap.size) (ho : ¬ Of ρ B) : ¬ Of ρ' B := fun hh => by
  rcases h.own B hh with h1 | h1
  · exact ho h1
  · omega
theorem OutPost.keep {w w' : World} {ρ : Nat → Role} {G D : Nat} {r : Raw} {e : Ending} (hp : OutPost w ρ G D r e w') {X : Nat} {o : Obj} (hX : w.heap[X]? = some o) (hn : ¬ Of ρ X) : w'.heap[X]? = some o := by
  obtain ⟨v, ρ', L', _, _, k2, _⟩ := hp
  exact (k2.fr.block X (blk_lt _ hX) hn).trans hX

/-- What is said to a line, as a list. -/
def saidL (x : RefLine) : List (Int × Bytes) := if x.said = [] then [] else [(-3, x.said)]
theorem ref_out {x : RefLine} (h : x ∈ refLines) : (rFeed (rNew cfgRef) (-3) (refText x)).out = seals [] ∧ (rFeed (rTold (rFeed (rNew cfgRef) (-3) (refText x))) (-3) [10]).out = seals (saidL x) := by
  have := ref_ok x h
  unfold refOk at this
  simp only [Bool.and_eq_true, decide_eq_true_eq] at this
  refine ⟨this.1, this.2.trans ?_⟩
  unfold saidL seals
  split <;> rfl
theorem ref_said : ∀ x ∈ refLines, x.said.length ≤ 100 := by decide +kernel
theorem nums_one (w : World) (n : Int) (o : Obj) : NumsAt ((w.alloc (.cells #[vi n] 3)).alloc o) (.slice (some ⟨w.heap.size, 0, none⟩) 1 1) [n] := by
  refine SlAt.of_blk (w := w.alloc (.cells #[vi n] 3)) (own := fun _ => True) ?_ (fun b _ hl => blk_alloc_lt _ hl) (fun _ h _ => h)
  exact .inr ⟨_, 0, 1, _, rfl, trivial, blk_alloc_new w, Nat.le_refl _, by unfold maxLen; omega, by simp, by simp, fun j v hj => by cases j with | zero => simp at hj; subst hj; rfl | succ j => simp at hj⟩
theorem strs_one (w : World) (s : Bytes) (o : Obj) : StrsAt ((w.alloc o).alloc (.cells #[vs (bs s)] 9)) (.slice (some ⟨w.heap.size + 1, 0, none⟩) 1 1) [s] := by
  have := blk_alloc_new (w.alloc o) (o := .cells #[vs (bs s)] 9)
  rw [World.size_alloc] at this
  exact .inr ⟨_, 0, 1, _, rfl, trivial, this, Nat.le_refl _, by unfold maxLen; omega, by simp, by simp, fun j v hj => by cases j with | zero => simp at hj; subst hj; rfl | succ j => simp at hj⟩
theorem refText_len {x : RefLine} (h : x ∈ refLines) : (refText x).length ≤ 100 := by
  have := ref_short x h
  unfold refText
  split
  · omega
  · rw [sealL_len]; omega

theorem tabs_calls (w : World) : Calls Tryz.prog 15 #[] (w.alloc (.cells lineCells 39)) fun e W => ∃ N1 N2, e = .returned (.tuple #[.slice (some ⟨N1, 0, none⟩) 13 13, .slice (some ⟨N2, 0, none⟩) 13 13]) ∧
    W.heap[w.heap.size]? = some (.cells lineCells 39 (0, 0)) ∧ W.heap[N1]? = some (.cells cfgRows 34 (0, 0)) ∧ W.heap[N2]? = some (.cells okRows 4 (0, 0)) ∧ Below w.heap.size w W := by
  refine (configs_calls _).mono ?_
  rintro e W ⟨rfl, rfl⟩
  refine ⟨_, _, rfl, ?_, ?_, ?_, ?_⟩
  · exact (blk_alloc_lt _ (by simp; omega)).trans ((blk_alloc_lt _ (by simp)).trans (blk_alloc_new w))
  · exact (blk_alloc_lt _ (by simp)).trans (blk_alloc_new _)
  · have := blk_alloc_new ((w.alloc (.cells lineCells 39)).alloc (.cells cfgRows 34)) (o := .cells okRows 4)
    rw [show ((w.alloc (.cells lineCells 39)).alloc (.cells cfgRows 34)).heap.size = (w.alloc (.cells lineCells 39)).heap.size + 1 from by simp] at this
    exact this
  · exact ((((Fr.refl (fun _ => False) w).alloc _).alloc _).alloc _).below (Nat.le_refl _) (fun _ f => f.elim)

set_option maxRecDepth 100000 in
set_option maxHeartbeats 4000000 in
theorem Refuses_calls {G : Nat} {w : World} (hE : Env G w) (hG : G ≤ w.heap.size) (k : Int) (hk : -9223372036854775808 ≤ k ∧ k ≤ 9223372036854775807) :
    Calls Tryz.prog 3 #[vi k] w fun e w' => e = .returned (.bool true) ∧ Below w.heap.size w w' := by
  have HPK := Lib.hid (fun w => pick_calls (w := w) k 83 hk (by omega) (by omega))
  have HE := Lib.hid hE
  have HG := Lib.hid hG
  have HCF := Lib.hid (tabs_calls w)
  clear hE hG hk
  go_enter Tryz.func3, Tryz.ntmps3
  go_wp2_with fail
  refine (lines_calls _).mono ?_
  rintro e w1 ⟨rfl, rfl⟩
  go_wp2_with fail
  refine HCF.out.mono ?_
  rintro e W ⟨N1, N2, rfl, hW1, hW2, hW3, hWB⟩
  have HW1 := Lib.hid hW1
  have HW2 := Lib.hid hW2
  have HW3 := Lib.hid hW3
  have HWB := Lib.hid hWB
  have HEW := Lib.hid (HE.out.grow hWB)
  clear hW1 hW2 hW3 hWB
  go_wp2_with fail
  refine (HPK.out _).mono ?_
  rintro e W' ⟨m, hm, rfl, rfl⟩
  have hm0 : (0 : Int) ≤ (m : Int) := by omega
  by_cases hml : m < 70
  · have hge : decide ((m : Int) ≥ 70) = false := decide_eq_false (by omega)
    have hml2 : (m : Int) < 70 := by omega
    obtain ⟨x, hx⟩ : ∃ x, refLines[m]? = some x := ⟨_, List.getElem?_eq_getElem (by rw [ref_len]; exact hml)⟩
    have HX := Lib.hid (List.mem_of_getElem? hx)
    have HXC := Lib.hid (lineCells_at m x hx)
    have HBG := Lib.hid (begin_calls HEW.out (by have := HWB.out.size; have := HG.out; omega) cfgRef rfl (w0 := w) HWB.out)
    clear hx hml
    go_wp2_with fail
    refine HBG.out.mono ?_
    rintro e w3 ⟨D, Wb, rfl, hk3, hb3⟩
    have hl3 := (hb3.block _ (blk_lt _ HW1.out)).trans HW1.out
    have d0 : w3.cell? ⟨w.heap.size, m * 3, none⟩ = some (vs (bs x.s)) := cell_of_blk hl3 HXC.out.1
    have d1 : w3.cell? ⟨w.heap.size, m * 3 + 1, none⟩ = some (.bool x.plain) := cell_of_blk hl3 HXC.out.2.1
    have d2 : w3.cell? ⟨w.heap.size, m * 3 + 2, none⟩ = some (vs (bs x.said)) := cell_of_blk hl3 HXC.out.2.2
    obtain ⟨ρ, L, r1, r2, r3⟩ := hk3.rep
    obtain ⟨X, hXe⟩ : ∃ X, w3.heap.size = X := ⟨_, rfl⟩
    have HXN : Hid (¬ Of ρ X) := fun ho => by have := (r1.dom _ ho).2; omega
    have HX4 := Lib.hid (show (w3.alloc (.cells #[vs (bs x.s), .bool x.plain, vs (bs x.said)] 39)).heap[X]? = some (.cells #[vs (bs x.s), .bool x.plain, vs (bs x.said)] 39 (0, 0)) by rw [← hXe]; exact blk_alloc_new w3)
    have HK4 := Lib.hid (hk3.grow (w' := w3.alloc (.cells #[vs (bs x.s), .bool x.plain, vs (bs x.said)] 39)) (((Fr.refl (fun _ => False) w3).alloc _).below (Nat.le_refl _) (fun _ f => f.elim)))
    have HR4 := Lib.hid (And.intro (r1.alloc (.cells #[vs (bs x.s), .bool x.plain, vs (bs x.said)] 39)) (And.intro r2 r3))
    have HO := Lib.hid (ref_out HX.out)
    have HLN := Lib.hid (refText_len HX.out)
    have HSL := Lib.hid (ref_short x HX.out)
    have HSD := Lib.hid (ref_said x HX.out)
    have hln := HLN.out
    clear hk3 hb3 hl3 r1 r2 r3
    cases hpl : x.plain with
    | true =>
      have HTX : Hid (refText x = x.s) := show _ = _ by unfold refText; rw [hpl]; rfl
      rw [hpl] at d1
      rw [hpl] at HX4 HK4 HR4
      have HXB := HX4
      have HKA := HK4
      have HRP := HR4
      have HFE : Hid (Calls Tryz.prog 20 #[vp D, vi (-3), vs (bs x.s)] (w3.alloc (.cells #[vs (bs x.s), .bool true, vs (bs x.said)] 39)) (OutPost (w3.alloc (.cells #[vs (bs x.s), .bool true, vs (bs x.said)] 39)) ρ G D (rFeed (rNew cfgRef) (-3) (refText x)))) := by
        have h0 := Feed_calls (r := rNew cfgRef) HRP.out.1 HKA.out.env (Inv.init (c := cfgRef) rfl) (Few.init cfgRef) (-3) (refText x) (by unfold NB; omega) (by unfold NB; omega)
        rw [show bs (refText x) = bs x.s from congrArg bs HTX.out] at h0
        exact h0
      have cWa : (w3.alloc (.cells #[vs (bs x.s), .bool true, vs (bs x.said)] 39)).cell? ⟨Wb, 0, none⟩ = some (vp D) := cell_of_blk HKA.out.box rfl
      go_wp2_with fail
      refine HFE.out.mono ?_
      intro e w6 hp
      have HX6 := Lib.hid (hp.keep HXB.out HXN.out)
      obtain ⟨v6, hv6, k6, o6⟩ := HKA.out.told HG.out HRP.out.1 HRP.out.2.1 HRP.out.2.2 hp (x := []) HO.out.1
      obtain ⟨v6', ρ6, L6, he6, g1, g2, _⟩ := hp
      subst hv6
      obtain ⟨va6, vc6, hv6, _, _⟩ := SlAt.form' o6
      subst hv6
      have HK6 := Lib.hid k6
      have HN6 : Hid (¬ Of ρ6 X ∧ ¬ Of ρ6 Wb ∧ ∀ b, Of ρ6 b → w.heap.size ≤ b) := ⟨g2.not_ofK (blk_lt _ HXB.out) HXN.out, g2.not_ofK (blk_lt _ HKA.out.box) HRP.out.2.2, fun b hb => by
        rcases g2.own b hb with h8 | h8
        · exact HRP.out.2.1 b h8
        · have := HKA.out.below.size; omega⟩
      have cW6 : w6.cell? ⟨Wb, 0, none⟩ = some (vp D) := cell_of_blk k6.box rfl
      have HR6 := Lib.hid g1
      have HF2 := Lib.hid (Feed_calls HR6.out HK6.out.env ((Inv.init (c := cfgRef) rfl).feed (-3) (refText x)).told ((Few.init cfgRef).feed (-3) (refText x)).told (-3) [10] (by unfold NB; simp; omega) (by unfold NB; simp; omega))
      clear k6 o6 he6 g1 g2 cWa
      go_wp2_with fail
      refine HF2.out.mono ?_
      intro e w7 hp
      have hX7 := hp.keep HX6.out HN6.out.1
      obtain ⟨v7, hv7, k7, o7⟩ := HK6.out.told HG.out HR6.out HN6.out.2.2 HN6.out.2.1 hp HO.out.2
      subst hv7
      obtain ⟨va7, vc7, hv7, _, _⟩ := SlAt.form' o7
      subst hv7
      have HO7 := Lib.hid o7
      have HB7 := Lib.hid k7.below
      have x27 : w7.cell? ⟨X, 2, none⟩ = some (vs (bs x.said)) := cell_of_blk hX7 rfl
      have n27 := World.new_ne w7 ⟨X, 2, none⟩ x27
      have x27b : (w7.alloc (.cells #[vi (-3)] 3)).cell? ⟨X, 2, none⟩ = some (vs (bs x.said)) := cell_of_blk ((blk_alloc_lt w7 (blk_lt _ hX7)).trans hX7) rfl
      clear hp k7 o7 cW6 hX7
      by_cases hsd : x.said = []
      · have HSL : Hid (saidL x = []) := show _ = _ by unfold saidL; rw [if_pos hsd]
        have ht : (bs x.said).toList = [] := by rw [hsd]; exact bs_toList []
        rw [HSL.out]
        clear hsd
        go_wp2_with fail
        go_ret
        exact ⟨rfl, HB7.out⟩
      · have HSL : Hid (saidL x = [(-3, x.said)]) := show _ = _ by unfold saidL; rw [if_neg hsd]
        have ht : (bs x.said).toList = x.said := bs_toList _
        have hbe : (x.said == []) = false := by cases hq : x.said with | nil => exact absurd hq hsd | cons a b => rfl
        rw [HSL.out] at HO7 ⊢
        have HIS := Lib.hid (is_calls (w := (w7.alloc (.cells #[vi (-3)] 3)).alloc (.cells #[vs (bs x.said)] 9)) (v := .slice va7 1 vc7) (vc := .slice (some ⟨w7.heap.size, 0, none⟩) 1 1) (vt := .slice (some ⟨w7.heap.size + 1, 0, none⟩) 1 1) [(-3, x.said)] (HO7.out.below (((Fr.refl (fun _ => False) w7).alloc _).alloc _ |>.below (Nat.le_refl _) (fun _ f => f.elim))) (nums_one w7 (-3) _) (strs_one w7 (x.said) _) (fun p hp => by simp at hp; subst hp; show x.said.length ≤ 1000000; have := HSD.out; omega))
        have HB9 : Hid (Below w.heap.size w ((w7.alloc (.cells #[vi (-3)] 3)).alloc (.cells #[vs (bs x.said)] 9))) := Below.trans HB7.out (((Fr.refl (fun _ => False) w7).alloc _).alloc _ |>.below HB7.out.size (fun _ f => f.elim))
        clear hsd
        go_wp2_with fail
        refine HIS.out.mono ?_
        rintro e w8 ⟨rfl, hb⟩
        have HB8 := Lib.hid (Below.trans HB9.out (hb.mono HB9.out.size))
        clear hb
        go_wp2_with fail
        go_ret
        exact ⟨rfl, HB8.out⟩
    | false =>
      have HTX : Hid (refText x = sealL x.s) := show _ = _ by unfold refText; rw [hpl]; rfl
      rw [hpl] at d1
      rw [hpl] at HX4 HK4 HR4
      have HSE := Lib.hid (Seal_calls (G := 0) (w := w3.alloc (.cells #[vs (bs x.s), .bool false, vs (bs x.said)] 39)) x.s (by have := HSL.out; omega))
      go_wp2_with fail
      refine HSE.out.mono ?_
      rintro e w5 ⟨rfl, hb5⟩
      have HXB := Lib.hid ((hb5.block _ (blk_lt _ HX4.out)).trans HX4.out)
      have HKA := Lib.hid (HK4.out.grow hb5)
      have HRP := Lib.hid (And.intro (HR4.out.1.of_fr (Fr.of_below (S := fun _ => False) hb5) (fun _ f => f.elim)) HR4.out.2)
      clear hb5
      have HFE : Hid (Calls Tryz.prog 20 #[vp D, vi (-3), vs (bs (sealL x.s))] w5 (OutPost w5 ρ G D (rFeed (rNew cfgRef) (-3) (refText x)))) := by
        have h0 := Feed_calls (r := rNew cfgRef) HRP.out.1 HKA.out.env (Inv.init (c := cfgRef) rfl) (Few.init cfgRef) (-3) (refText x) (by unfold NB; omega) (by unfold NB; omega)
        rw [show bs (refText x) = bs (sealL x.s) from congrArg bs HTX.out] at h0
        exact h0
      have cW5 : w5.cell? ⟨Wb, 0, none⟩ = some (vp D) := cell_of_blk HKA.out.box rfl
      go_wp2_with fail
      refine HFE.out.mono ?_
      intro e w6 hp
      have HX6 := Lib.hid (hp.keep HXB.out HXN.out)
      obtain ⟨v6, hv6, k6, o6⟩ := HKA.out.told HG.out HRP.out.1 HRP.out.2.1 HRP.out.2.2 hp (x := []) HO.out.1
      obtain ⟨v6', ρ6, L6, he6, g1, g2, _⟩ := hp
      subst hv6
      obtain ⟨va6, vc6, hv6, _, _⟩ := SlAt.form' o6
      subst hv6
      have HK6 := Lib.hid k6
      have HN6 : Hid (¬ Of ρ6 X ∧ ¬ Of ρ6 Wb ∧ ∀ b, Of ρ6 b → w.heap.size ≤ b) := ⟨g2.not_ofK (blk_lt _ HXB.out) HXN.out, g2.not_ofK (blk_lt _ HKA.out.box) HRP.out.2.2, fun b hb => by
        rcases g2.own b hb with h8 | h8
        · exact HRP.out.2.1 b h8
        · have := HKA.out.below.size; omega⟩
      have cW6 : w6.cell? ⟨Wb, 0, none⟩ = some (vp D) := cell_of_blk k6.box rfl
      have HR6 := Lib.hid g1
      have HF2 := Lib.hid (Feed_calls HR6.out HK6.out.env ((Inv.init (c := cfgRef) rfl).feed (-3) (refText x)).told ((Few.init cfgRef).feed (-3) (refText x)).told (-3) [10] (by unfold NB; simp; omega) (by unfold NB; simp; omega))
      clear k6 o6 he6 g1 g2 cW5
      go_wp2_with fail
      refine HF2.out.mono ?_
      intro e w7 hp
      have hX7 := hp.keep HX6.out HN6.out.1
      obtain ⟨v7, hv7, k7, o7⟩ := HK6.out.told HG.out HR6.out HN6.out.2.2 HN6.out.2.1 hp HO.out.2
      subst hv7
      obtain ⟨va7, vc7, hv7, _, _⟩ := SlAt.form' o7
      subst hv7
      have HO7 := Lib.hid o7
      have HB7 := Lib.hid k7.below
      have x27 : w7.cell? ⟨X, 2, none⟩ = some (vs (bs x.said)) := cell_of_blk hX7 rfl
      have n27 := World.new_ne w7 ⟨X, 2, none⟩ x27
      have x27b : (w7.alloc (.cells #[vi (-3)] 3)).cell? ⟨X, 2, none⟩ = some (vs (bs x.said)) := cell_of_blk ((blk_alloc_lt w7 (blk_lt _ hX7)).trans hX7) rfl
      clear hp k7 o7 cW6 hX7
      by_cases hsd : x.said = []
      · have HSL : Hid (saidL x = []) := show _ = _ by unfold saidL; rw [if_pos hsd]
        have ht : (bs x.said).toList = [] := by rw [hsd]; exact bs_toList []
        rw [HSL.out]
        clear hsd
        go_wp2_with fail
        go_ret
        exact ⟨rfl, HB7.out⟩
      · have HSL : Hid (saidL x = [(-3, x.said)]) := show _ = _ by unfold saidL; rw [if_neg hsd]
        have ht : (bs x.said).toList = x.said := bs_toList _
        have hbe : (x.said == []) = false := by cases hq : x.said with | nil => exact absurd hq hsd | cons a b => rfl
        rw [HSL.out] at HO7 ⊢
        have HIS := Lib.hid (is_calls (w := (w7.alloc (.cells #[vi (-3)] 3)).alloc (.cells #[vs (bs x.said)] 9)) (v := .slice va7 1 vc7) (vc := .slice (some ⟨w7.heap.size, 0, none⟩) 1 1) (vt := .slice (some ⟨w7.heap.size + 1, 0, none⟩) 1 1) [(-3, x.said)] (HO7.out.below (((Fr.refl (fun _ => False) w7).alloc _).alloc _ |>.below (Nat.le_refl _) (fun _ f => f.elim))) (nums_one w7 (-3) _) (strs_one w7 (x.said) _) (fun p hp => by simp at hp; subst hp; show x.said.length ≤ 1000000; have := HSD.out; omega))
        have HB9 : Hid (Below w.heap.size w ((w7.alloc (.cells #[vi (-3)] 3)).alloc (.cells #[vs (bs x.said)] 9))) := Below.trans HB7.out (((Fr.refl (fun _ => False) w7).alloc _).alloc _ |>.below HB7.out.size (fun _ f => f.elim))
        clear hsd
        go_wp2_with fail
        refine HIS.out.mono ?_
        rintro e w8 ⟨rfl, hb⟩
        have HB8 := Lib.hid (Below.trans HB9.out (hb.mono HB9.out.size))
        clear hb
        go_wp2_with fail
        go_ret
        exact ⟨rfl, HB8.out⟩
  · have hge : decide ((m : Int) ≥ 70) = true := decide_eq_true (by omega)
    obtain ⟨j, rfl⟩ : ∃ j, m = j + 70 := ⟨m - 70, by omega⟩
    have hj : j < 13 := by omega
    have hge2 : ¬ ((j + 70 : Nat) : Int) < 70 := by omega
    have hge3 : (70 : Int) ≤ (j : Int) + 70 := by omega
    have hsub : (j : Int) + 70 - 70 = (j : Int) := by omega
    have hj0 : (0 : Int) ≤ (j : Int) := by omega
    have hj1 : (j : Int) < 13 := by omega
    have hcast : ((j + 70 : Nat) : Int) = (j : Int) + 70 := by omega
    have hwr : IntKind.i64.wrap ((j : Int) + 70 - 70) = (j : Int) := by rw [hsub]; exact IntWalk.i64_in _ (by omega)
    have hcl : refCfgs.length = 13 := by decide
    obtain ⟨c, hc⟩ : ∃ c, refCfgs[j]? = some c := ⟨_, List.getElem?_eq_getElem (by rw [hcl]; exact hj)⟩
    have hck := cfgs_ok j hj
    rw [hc] at hck
    have hck2 : cfgOk c = decide (j < 2) := by simpa using hck
    have HCK := Lib.hid hck2
    clear hck2
    obtain ⟨q0, q1, q2, q3, q4⟩ := cfgRows_at j c hc
    have e0 : W.cell? ⟨N1, j * 5, none⟩ = some (vi c.lease) := cell_of_blk HW2.out q0
    have e1 : W.cell? ⟨N1, j * 5 + 1, none⟩ = some (vi c.retries) := cell_of_blk HW2.out q1
    have e2 : W.cell? ⟨N1, j * 5 + 2, none⟩ = some (vi c.cap) := cell_of_blk HW2.out q2
    have e3 : W.cell? ⟨N1, j * 5 + 3, none⟩ = some (vi c.bound) := cell_of_blk HW2.out q3
    have e4 : W.cell? ⟨N1, j * 5 + 4, none⟩ = some (vi c.hedge) := cell_of_blk HW2.out q4
    have HNW := Lib.hid (New_calls (G := G) (w := W) (by have := HWB.out.size; have := HG.out; omega) c)
    have HCC := Lib.hid (show cfgCells c = #[vi c.lease, vi c.retries, vi c.cap, vi c.bound, vi c.hedge] from rfl)
    rw [HCC.out] at HNW
    have hor : okRows[j]? = some (.bool (decide (j < 2))) := by unfold okRows; simp [hj]
    clear hc hck q0 q1 q2 q3 q4 hm hml hcl
    rw [hcast]
    by_cases hj2 : j < 2
    · have hd : decide (j < 2) = true := decide_eq_true hj2
      rw [hd] at HCK hor
      clear hd hj2
      go_wp2_with fail
      refine HNW.out.mono ?_
      rintro e w3 ⟨hp1, _, hb⟩
      obtain ⟨D, ρ, L, rfl, _, _⟩ := hp1 HCK.out
      have okc : w3.cell? ⟨N2, j, none⟩ = some (.bool true) := cell_of_blk ((hb.block _ (blk_lt _ HW3.out)).trans HW3.out) hor
      have HB3 := Lib.hid (Below.trans HWB.out (hb.mono HWB.out.size))
      clear hp1 hb
      go_wp2_with fail
      go_ret
      exact ⟨rfl, HB3.out⟩
    · have hd : decide (j < 2) = false := decide_eq_false hj2
      rw [hd] at HCK hor
      clear hd hj2
      go_wp2_with fail
      refine HNW.out.mono ?_
      rintro e w3 ⟨_, hp2, hb⟩
      obtain rfl := hp2 HCK.out
      have okc : w3.cell? ⟨N2, j, none⟩ = some (.bool false) := cell_of_blk ((hb.block _ (blk_lt _ HW3.out)).trans HW3.out) hor
      have HB3 := Lib.hid (Below.trans HWB.out (hb.mono HWB.out.size))
      clear hp2 hb
      go_wp2_with fail
      go_ret
      exact ⟨rfl, HB3.out⟩
end Go.Proofs.YtaejfobbogahmaaGreatDoor
