/-
  The walk of dispatchlaw.Seals: a script of which only Seal is played.
-/
import Derived.Test.YtaejfobbogahmabGreatDoorMkRSeal
import Derived.Test.YtaejfobbogahmabGreatDoorMkPlayed
import Derived.Deep.RegionLaw
set_option linter.unusedVariables false
set_option linter.unusedSimpArgs false
namespace Go.Proofs.YtaejfobbogahmabGreatDoor
open Go Go.RowKit

namespace seals
set_option maxRecDepth 100000 in
theorem Seal_calls {w : World} (s : Bytes) (hs : s.length ≤ 1000000000000) : Calls Tryz.prog 17 #[vs (bs s)] w fun e w' => e = .returned (vs (bs (sealL s))) ∧ Below w.heap.size w w' := by
  have HC := Lib.hid (Sealed_calls s hs w)
  go_enter Tryz.func17, Tryz.ntmps17
  go_wp2_with fail
  refine HC.out.mono ?_
  rintro e w1 ⟨rfl, hb⟩
  have HB := Lib.hid hb
  clear hb
  go_wp2_with fail
  go_ret
  exact ⟨rfl, HB.out⟩

theorem keepOp {n : Nat} {w W W' : World} {X : Obj} (h : Below n w W ∧ W.heap[n]? = some X) (hb : Below W.heap.size W W') : Below n w W' ∧ W'.heap[n]? = some X :=
  ⟨h.1.trans (hb.mono (Nat.le_of_lt (blk_lt _ h.2))), (hb.block _ (blk_lt _ h.2)).trans h.2⟩
theorem keepOp_drew {n : Nat} {w W W' : World} {X : Obj} (h : Below n w W ∧ W.heap[n]? = some X) (hb : Below W.drew.heap.size W.drew W') : Below n w W' ∧ W'.heap[n]? = some X := keepOp (W := W.drew) ⟨below_drewN h.1 1, h.2⟩ hb

set_option maxRecDepth 100000 in
set_option maxHeartbeats 4000000 in
theorem step_seal (w : World) (p : Value) (o : OpD) (hk : o.kind = 2) (hs : o.s.length ≤ 1000000000000) :
    Calls Tryz.prog 10 #[p, .agg (opCells o)] w fun e w' => e = .returned (.bool true) ∧ Below w.heap.size w w' := by
  have h0 : (opBlk w o).heap[w.heap.size]? = some (.cells (opCells o) 28) := blk_alloc_new w
  have HBK := Lib.hid h0
  have HB : Hid (Below w.heap.size w (opBlk w o)) := (Below.refl _ w).alloc (Nat.le_refl _) _
  have HS1 := Lib.hid (fun w : World => Seal_calls (w := w) o.s hs)
  have HS2 := Lib.hid (fun w : World => RSealed_calls o.s hs w)
  obtain ⟨z, hz⟩ : ∃ z, sealL o.s = z := ⟨_, rfl⟩
  rw [hz] at HS1 HS2
  have HV : Hid (Below w.heap.size w (opBlk w o) ∧ (opBlk w o).heap[w.heap.size]? = some (.cells (opCells o) 28)) := ⟨HB.out, h0⟩
  have c0 : (opBlk w o).cell? ⟨w.heap.size, 0, none⟩ = some (vi o.kind) := cell_of_blk h0 rfl
  have c8 : (opBlk w o).cell? ⟨w.heap.size, 8, none⟩ = some (vs (bs o.s)) := cell_of_blk h0 rfl
  obtain ⟨kd, a, b, ⟨d1, d2, d3, d4, d5⟩, s⟩ := o
  simp only [opCells, opBlk] at *
  subst hk
  clear h0 hz hs
  go_enter Tryz.func10, Tryz.ntmps10
  go_wp2_with fail
  go_region_law (first
    | (go_simp; go_at_call 17; refine (HS1.out _).mono ?_; rintro e w2 ⟨rfl, hb⟩; first | (have HV2 := Lib.hid (keepOp HV1.out hb)) | (have HV1 := Lib.hid (keepOp_drew HV.out hb); have c81 := cell_of_blk (off := 8) HV1.out.2 rfl); clear hb)
    | (go_simp; go_at_call 18; refine (HS2.out _).mono ?_; rintro e w2 ⟨rfl, hb⟩; first | (have HV2 := Lib.hid (keepOp HV1.out hb)) | (have HV1 := Lib.hid (keepOp_drew HV.out hb); have c81 := cell_of_blk (off := 8) HV1.out.2 rfl); clear hb))
  all_goals
    go_wp2_with fail
    go_ret
    exact ⟨rfl, HV2.out.1⟩

/-- The script's world: what a caller has, all empty. -/
abbrev lawWorld (w : World) : World := w.alloc (.cells #[.slice none 0 0, .slice none 0 0, .bool false] 33)

set_option maxRecDepth 100000 in
set_option maxHeartbeats 4000000 in
theorem UpTo_seals {w : World} {a : Option Addr} {cap : Nat} (ops : List OpD) (h : OpsIn w a ops) (hn : ops.length ≤ 140737488351232) (hs : ∀ o ∈ ops, o.s.length ≤ 1048576) :
    Calls Tryz.prog 8 #[.slice a ops.length cap, vi 1] w fun e w' => e = .returned (vi (-1)) ∧ Below w.heap.size w w' := by
  have HO := Lib.hid h
  have HS := Lib.hid hs
  obtain ⟨n, hnn⟩ : ∃ n, ops.length = n := ⟨_, rfl⟩
  rw [hnn] at hn ⊢
  have HN := Lib.hid hnn
  clear h hs hnn
  go_enter Tryz.func8, Tryz.ntmps8
  go_wp2_with fail
  go_loopw [6, 7, 8, 13] (fun _ _ _ s13 wr => ∃ k : Nat, s13 = .int .i64 k ∧ k ≤ n ∧ Hid (Below w.heap.size w wr)) (fun _ _ _ s13 _ => n - (intOf s13).toNat)
  case atStart => exact ⟨0, by go_num, Nat.zero_le _, (Below.refl _ w).alloc (Nat.le_refl _) _⟩
  case round =>
    obtain ⟨k, rfl, hk, HB⟩ := hrel
    by_cases hkl : k < n
    · have hlt : decide ((k : Int) < (n : Int)) = true := decide_eq_true (by omega)
      obtain ⟨o, hko⟩ : ∃ o, ops[k]? = some o := ⟨_, List.getElem?_eq_getElem (by rw [HN.out]; exact hkl)⟩
      obtain ⟨b, off, hae, c0, c1, c2, c3, c4, c5, c6, c7, c8⟩ := (HO.out.below HB.out).cells hko
      subst hae
      have hsl := HS.out o (List.mem_of_getElem? hko)
      have hk0 : (0 : Int) ≤ (k : Int) := by omega
      have hk1 : (k : Int) < (n : Int) := by omega
      have HPL := Lib.hid (played_seal (opBlk wr o) o (by omega))
      have HV : Hid (Below w.heap.size w (opBlk wr o) ∧ wr.heap.size < (opBlk wr o).heap.size ∧ (opBlk wr o).heap[wr.heap.size]? = some (.cells (opCells o) 28)) := ⟨HB.out.alloc HB.out.size _, by simp, blk_alloc_new wr⟩
      have HST := Lib.hid (fun (W : World) (p : Value) (h : o.kind = 2) => step_seal W p o h (by omega))
      obtain ⟨kd, a', b', ⟨d1, d2, d3, d4, d5⟩, s⟩ := o
      simp only [opCells, opBlk] at *
      clear hko hsl
      go_wp2_with fail
      refine HPL.out.mono ?_
      rintro e w1 ⟨rfl, hb1⟩
      have hb : w1.heap[wr.heap.size]? = some (.cells #[vi kd, vi a', vi b', vi d1, vi d2, vi d3, vi d4, vi d5, vs (bs s)] 28 (0, 0)) := (hb1.block _ HV.out.2.1).trans HV.out.2.2
      have HB1 : Hid (Below w.heap.size w w1) := HV.out.1.trans (hb1.mono HV.out.1.size)
      clear hb1 c0 c1 c2 c3 c4 c5 c6 c7 c8
      by_cases hk2 : kd = 2
      · subst hk2
        have c0 := cell_of_blk (off := 0) hb rfl
        have c1 := cell_of_blk (off := 1) hb rfl
        have c2 := cell_of_blk (off := 2) hb rfl
        have c3 := cell_of_blk (off := 3) hb rfl
        have c4 := cell_of_blk (off := 4) hb rfl
        have c5 := cell_of_blk (off := 5) hb rfl
        have c6 := cell_of_blk (off := 6) hb rfl
        have c7 := cell_of_blk (off := 7) hb rfl
        have c8 := cell_of_blk (off := 8) hb rfl
        clear hb
        go_wp2_with fail
        refine (HST.out _ _ (by first | trivial | rfl)).mono ?_
        rintro e w2 ⟨rfl, hb2⟩
        have HB2 : Hid (Below w.heap.size w w2) := HB1.out.trans (hb2.mono HB1.out.size)
        clear hb2 c0 c1 c2 c3 c4 c5 c6 c7 c8
        go_wp2_with fail
        go_roundw
        case rel => exact ⟨k + 1, by go_num, by omega, HB2.out⟩
        case measure => simp [intOf]; omega
      · have hk3 : (kd == 2) = false := beq_eq_false_iff_ne.2 hk2
        have hk4 : decide (kd = 2) = false := decide_eq_false hk2
        clear hb
        go_wp2_with fail
        go_roundw
        case rel => exact ⟨k + 1, by go_num, by omega, HB1.out⟩
        case measure => simp [intOf]; omega
    · obtain rfl : k = n := by omega
      have hlt : decide ((k : Int) < (k : Int)) = false := by simp
      go_wp2_with fail
      go_ret
      exact ⟨rfl, HB.out⟩

theorem size_le : ∀ (ops : List OpD) (n m : Nat), sizeOps n ops = some m → ∀ o ∈ ops, o.s.length ≤ 1048576
  | [], _, _, _, o, ho => by cases ho
  | o :: l, n, m, h, q, hq => by
    unfold sizeOps at h
    by_cases h1 : 1048576 < n + o.s.length
    · rw [if_pos h1] at h; cases h
    · rw [if_neg h1] at h
      rcases List.mem_cons.1 hq with rfl | h2
      · omega
      · exact size_le l _ _ h q h2
theorem small_le {ops : List OpD} (h : smallOps ops = true) : ∀ o ∈ ops, o.s.length ≤ 1048576 := by
  unfold smallOps at h
  cases hs : sizeOps ops.length ops with
  | none => rw [hs] at h; cases h
  | some m => exact size_le ops _ _ hs

set_option maxRecDepth 100000 in
set_option maxHeartbeats 4000000 in
theorem Seals_calls {w : World} {a : Option Addr} {cap : Nat} (ops : List OpD) (h : OpsIn w a ops) (hn : ops.length ≤ 140737488351232) (hs : ∀ o ∈ ops, o.s.length ≤ 140737488351232) :
    Calls Tryz.prog 3 #[.slice a ops.length cap] w fun e w' => e = .returned (.bool true) ∧ Below w.heap.size w w' := by
  have HSM := Lib.hid (small_calls (cap := cap) ops h hn hs)
  have HO := Lib.hid h
  have HN := Lib.hid hn
  have HUP := Lib.hid (fun (W : World) (hb : Below w.heap.size w W) (hsm : smallOps ops = true) => UpTo_seals (cap := cap) ops (h.below hb) hn (small_le hsm))
  obtain ⟨b, hb⟩ : ∃ b, smallOps ops = b := ⟨_, rfl⟩
  rw [hb] at HSM HUP
  clear h hn hs
  cases b with
  | false =>
    go_enter Tryz.func3, Tryz.ntmps3
    go_wp2_with fail
    refine HSM.out.mono ?_
    rintro e w1 ⟨rfl, hb1⟩
    have HB := Lib.hid hb1
    clear hb1
    go_wp2_with fail
    go_ret
    exact ⟨rfl, HB.out⟩
  | true =>
    go_enter Tryz.func3, Tryz.ntmps3
    go_wp2_with fail
    refine HSM.out.mono ?_
    rintro e w1 ⟨rfl, hb1⟩
    have HB := Lib.hid hb1
    clear hb1
    go_wp2_with fail
    refine (HUP.out _ HB.out (by first | trivial | rfl)).mono ?_
    rintro e w2 ⟨rfl, hb2⟩
    have HB2 := Lib.hid (HB.out.trans (hb2.mono HB.out.size))
    clear hb2
    go_wp2_with fail
    go_ret
    exact ⟨rfl, HB2.out⟩
end seals
end Go.Proofs.YtaejfobbogahmabGreatDoor
