/-
  The walk of dispatchlaw.World's step: New.
-/
import Derived.Test.YtaejfobbogahmabGreatDoorMkLaw1
import Derived.Test.YtaejfobbogahmabGreatDoorMkPlayed
set_option linter.unusedVariables false
set_option linter.unusedSimpArgs false
namespace Go.Proofs.YtaejfobbogahmabGreatDoor
open Go Go.RowKit

def LawAt (G : Nat) (w0 : World) (V : Nat) (ps : List DP) (k : Nat) (w : World) : Prop := ∃ tg dsv lsv lss, LawC G w0 w tg V dsv lsv lss ps ∧ lss.length = k
theorem info_pair : (Tryz.prog.info? 51).map (fun i => (i.zero, i.size, i.bytes)) = some (some (.agg #[.pointer none, .pointer none]), 2, 16) := by kernel_rfl
theorem elem_pair : ElemTy Tryz.prog 30 51 2 16 := ElemTy.of_parts Tryz.underlying30 info_pair rfl (by decide)
section
variable {G V k : Nat} {w0 w w' : World} {ps : List DP}
theorem LawAt.grow (h : LawAt G w0 V ps k w) (hb : Below w.heap.size w w') : LawAt G w0 V ps k w' := by
  obtain ⟨tg, dsv, lsv, lss, h1, h2⟩ := h
  exact ⟨tg, dsv, lsv, lss, h1.grow hb, h2⟩
theorem opKeep {n : Nat} {w W W' : World} {X : Obj} (h : Below n w W ∧ W.heap[n]? = some X) (hb : Below W.heap.size W W') : Below n w W' ∧ W'.heap[n]? = some X :=
  ⟨h.1.trans (hb.mono (Nat.le_of_lt (blk_lt _ h.2))), (hb.block _ (blk_lt _ h.2)).trans h.2⟩

set_option maxRecDepth 100000 in
set_option maxHeartbeats 4000000 in
theorem step_new_bad (h : LawAt G w0 V ps k w) (o : OpD) (hk : o.kind = 1) (hc : cfgOk o.c = false) :
    Calls Tryz.prog 10 #[vp V, .agg (opCells o)] w fun e w' => e = .returned (.bool true) ∧ LawAt G w0 V ps k w' := by
  have h0 : (opBlk w o).heap[w.heap.size]? = some (.cells (opCells o) 28) := blk_alloc_new w
  have HV : Hid (Below w.heap.size w (opBlk w o) ∧ (opBlk w o).heap[w.heap.size]? = some (.cells (opCells o) 28)) := ⟨(Below.refl _ w).alloc (Nat.le_refl _) _, h0⟩
  have HN1 := Lib.hid (fun w => New_calls (G := 0) (w := w) (Nat.zero_le _) o.c)
  have HN2 := Lib.hid (fun w => mnew_calls (G := 0) (w := w) (Nat.zero_le _) o.c)
  have HC := Lib.hid hc
  have HH := Lib.hid h
  have d0 : (opBlk w o).cell? ⟨w.heap.size, 0, none⟩ = some (vi o.kind) := cell_of_blk h0 rfl
  have d3 : (opBlk w o).cell? ⟨w.heap.size, 3, none⟩ = some (vi o.c.lease) := cell_of_blk h0 rfl
  have d4 : (opBlk w o).cell? ⟨w.heap.size, 4, none⟩ = some (vi o.c.retries) := cell_of_blk h0 rfl
  have d5 : (opBlk w o).cell? ⟨w.heap.size, 5, none⟩ = some (vi o.c.cap) := cell_of_blk h0 rfl
  have d6 : (opBlk w o).cell? ⟨w.heap.size, 6, none⟩ = some (vi o.c.bound) := cell_of_blk h0 rfl
  have d7 : (opBlk w o).cell? ⟨w.heap.size, 7, none⟩ = some (vi o.c.hedge) := cell_of_blk h0 rfl
  obtain ⟨kd, a, b, ⟨c1, c2, c3, c4, c5⟩, s⟩ := o
  simp only [opCells, opBlk, cfgCells] at *
  subst hk
  clear h0 h hc
  go_enter Tryz.func10, Tryz.ntmps10
  go_wp2_with fail
  refine (HN1.out _).mono ?_
  rintro e w1 ⟨_, hp2, hb1⟩
  obtain rfl := hp2 HC.out
  have HV1 := Lib.hid (opKeep HV.out hb1)
  have b1 := HV1.out.2
  have d3 := cell_of_blk (off := 3) b1 rfl
  have d4 := cell_of_blk (off := 4) b1 rfl
  have d5 := cell_of_blk (off := 5) b1 rfl
  have d6 := cell_of_blk (off := 6) b1 rfl
  have d7 := cell_of_blk (off := 7) b1 rfl
  clear b1 hp2 hb1
  go_wp2_with fail
  refine (HN2.out _).mono ?_
  rintro e w2 ⟨_, hp2, hb2⟩
  obtain rfl := hp2 HC.out
  have HV2 := Lib.hid (opKeep HV1.out hb2)
  clear hp2 hb2
  go_wp2_with fail
  go_ret
  exact ⟨rfl, HH.out.grow HV2.out.1⟩
set_option maxRecDepth 100000 in
set_option maxHeartbeats 4000000 in
theorem step_new_ok (h : LawAt G w0 V ps k w) (hn : ps.length ≤ 100000000000) (o : OpD) (hk : o.kind = 1) (hc : cfgOk o.c = true) :
    Calls Tryz.prog 10 #[vp V, .agg (opCells o)] w fun e w' => e = .returned (.bool true) ∧ ∃ D M, LawAt G w0 V (ps ++ [⟨D, M, rNew o.c, mNew o.c⟩]) k w' := by
  have h0 : (opBlk w o).heap[w.heap.size]? = some (.cells (opCells o) 28) := blk_alloc_new w
  have HV : Hid (Below w.heap.size w (opBlk w o) ∧ (opBlk w o).heap[w.heap.size]? = some (.cells (opCells o) 28)) := ⟨(Below.refl _ w).alloc (Nat.le_refl _) _, h0⟩
  obtain ⟨tg, dsv, lsv, lss, hL, hlk⟩ := h
  have hGw : G ≤ w.heap.size := Nat.le_trans hL.hG hL.below.size
  have HN1 := Lib.hid (fun (W : World) (hW : w.heap.size ≤ W.heap.size) => New_calls (G := G) (w := W) (Nat.le_trans hGw hW) o.c)
  have HN2 := Lib.hid (fun (W : World) (hW : w.heap.size ≤ W.heap.size) => mnew_calls (G := G) (w := W) (Nat.le_trans hGw hW) o.c)
  have HC := Lib.hid hc
  have HL := Lib.hid hL
  have HLK := Lib.hid hlk
  have HOC : Hid (rNew o.c = rNew o.c) := rfl
  have d0 : (opBlk w o).cell? ⟨w.heap.size, 0, none⟩ = some (vi o.kind) := cell_of_blk h0 rfl
  have d3 : (opBlk w o).cell? ⟨w.heap.size, 3, none⟩ = some (vi o.c.lease) := cell_of_blk h0 rfl
  have d4 : (opBlk w o).cell? ⟨w.heap.size, 4, none⟩ = some (vi o.c.retries) := cell_of_blk h0 rfl
  have d5 : (opBlk w o).cell? ⟨w.heap.size, 5, none⟩ = some (vi o.c.cap) := cell_of_blk h0 rfl
  have d6 : (opBlk w o).cell? ⟨w.heap.size, 6, none⟩ = some (vi o.c.bound) := cell_of_blk h0 rfl
  have d7 : (opBlk w o).cell? ⟨w.heap.size, 7, none⟩ = some (vi o.c.hedge) := cell_of_blk h0 rfl
  obtain ⟨rr, hrr⟩ : ∃ rr, rNew o.c = rr := ⟨_, rfl⟩
  obtain ⟨mm, hmm⟩ : ∃ mm, mNew o.c = mm := ⟨_, rfl⟩
  rw [hrr, hmm]
  unfold NewPost at HN1
  unfold MNewPost at HN2
  simp only [hrr] at HN1
  simp only [hmm] at HN2
  obtain ⟨kd, a, b, ⟨c1, c2, c3, c4, c5⟩, s⟩ := o
  simp only [opCells, opBlk, cfgCells] at *
  subst hk
  clear h0 hL hc hGw hlk HOC hrr hmm
  go_enter Tryz.func10, Tryz.ntmps10
  go_wp2_with fail
  refine (HN1.out _ HV.out.1.size).mono ?_
  rintro e w1 ⟨hp1, _, hb1⟩
  obtain ⟨D, ρ, L, rfl, hR, ho⟩ := hp1 HC.out
  have HV1 := Lib.hid (opKeep HV.out hb1)
  have HR := Lib.hid hR
  have HO : Hid (∀ b, Of ρ b → w.heap.size ≤ b) := fun b hb => Nat.le_trans HV.out.1.size (ho b hb)
  have b1 := HV1.out.2
  have d3 := cell_of_blk (off := 3) b1 rfl
  have d4 := cell_of_blk (off := 4) b1 rfl
  have d5 := cell_of_blk (off := 5) b1 rfl
  have d6 := cell_of_blk (off := 6) b1 rfl
  have d7 := cell_of_blk (off := 7) b1 rfl
  clear b1 hp1 hb1 hR ho
  go_wp2_with fail
  refine (HN2.out _ HV1.out.1.size).mono ?_
  rintro e w2 ⟨hp2, _, hb2⟩
  obtain ⟨M, σ, ML, rfl, hM, hs⟩ := hp2 HC.out
  have HV2 := Lib.hid (opKeep HV1.out hb2)
  have HM := Lib.hid hM
  have HR2 := Lib.hid (HR.out.of_fr (S := fun _ => False) (Fr.of_below hb2) (fun _ f => f.elim))
  have HS : Hid (∀ b, Of σ b → w.heap.size ≤ b ∧ ¬ Of ρ b) := fun b hb => ⟨Nat.le_trans HV1.out.1.size (hs b hb), fun h1 => by have := (HR.out.dom b h1).2; have := hs b hb; omega⟩
  have HL2 := Lib.hid (HL.out.grow HV2.out.1)
  obtain ⟨da, dc, hdv, hd2, hd3⟩ := HL2.out.ds.form'
  have HDV := Lib.hid hdv
  have hvb := HL2.out.vb.2
  rw [hdv] at hvb
  have v0 : w2.cell? ⟨V, 0, none⟩ = some (.slice da ps.length dc) := cell_of_blk hvb rfl
  obtain ⟨n, hnn⟩ : ∃ n, ps.length = n := ⟨_, rfl⟩
  rw [hnn] at v0 hn
  have HNN := Lib.hid hnn
  have HSA := Lib.hid (HL2.out.ds.of_blk (w' := w2.alloc (.cells #[vp D, vp M] 51)) (own' := fun b => tg b = (2, 0)) (fun b _ hl => blk_alloc_lt w2 hl) (fun _ h _ => h))
  rw [hdv, hnn] at HSA
  have HBD := Lib.hid (show n + 1 ≤ maxLen ∧ (n + 1) * 16 ≤ 140737488355328 by unfold maxLen; omega)
  clear hp2 hb2 hM hs hdv hd2 hd3 hvb hnn
  go_wp2_with (at_builtin; refine wpList_append_at _ rfl _ _ _ _ rfl elem_pair rfl HSA.out rfl (src_new w2 Tryz.underlying30 [vp D, vp M] (by rfl) (by simp [Value.oneCell']) w2.heap.size (by simp)) (by omega) HBD.out.1 HBD.out.2 ?_; intro g goff gcap w3 hg3 hs3 hf3 hlt3 _ _; obtain ⟨k1, k2⟩ := HL2.out.add_mid hg3 hf3; have c3 : w3.cell? ⟨V, 0, none⟩ = some dsv := cell_of_blk k1 rfl; have f3 : w3.frozen? ⟨V, 0, none⟩ = false := frozen_of_blk k1; have HS3 := Lib.hid hs3; have HG3 := Lib.hid hg3; have HF3 := Lib.hid hf3; have HLT3 := Lib.hid hlt3; clear hs3 hf3 hg3 hlt3 k1 k2)
  go_ret
  have hz : ∀ b, w.heap.size ≤ b → tg b = (0, 0) := fun b hb => Classical.byContradiction fun h1 => by have := (HL.out.dom b h1).2; omega
  have hws := HL.out.below.size
  have hs3 := HS3.out
  have hnn := HNN.out
  subst hnn
  obtain ⟨tg', hfin⟩ := HL2.out.add (r := rr) (m := mm) HR2.out HM.out (fun b hb => ⟨hz b (HO.out b hb), Nat.le_trans hws (HO.out b hb), fun h1 => (HS.out b h1).2 hb⟩) (fun b hb => ⟨hz b (HS.out b hb).1, Nat.le_trans hws (HS.out b hb).1⟩) HG3.out HF3.out HLT3.out hs3
  exact ⟨rfl, D, M, tg', _, lsv, lss, hfin, HLK.out⟩
end
end Go.Proofs.YtaejfobbogahmabGreatDoor
