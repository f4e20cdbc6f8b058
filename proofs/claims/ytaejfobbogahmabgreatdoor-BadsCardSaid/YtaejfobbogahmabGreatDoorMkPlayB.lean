/-
  The walk of dispatchlaw.played where no message is played.
-/
import Derived.Test.YtaejfobbogahmabGreatDoorMkPlayed
import Derived.Test.YtaejfobbogahmabGreatDoorMkLawS
import Derived.Test.YtaejfobbogahmabGreatDoorMkRNum
set_option linter.unusedVariables false
set_option linter.unusedSimpArgs false
namespace Go.Proofs.YtaejfobbogahmabGreatDoor
open Go Go.RowKit

def playBad (o : OpD) : Prop := o.kind = 1 ∨ (o.kind = 4 ∧ noLet o.s) ∨ (o.kind = 3 ∧ readMsg o.s = none ∧ ∀ c ∈ o.s, c ≠ 10)
def PlayPost (o : OpD) (w : World) (e : Ending) (w' : World) : Prop := ∃ b, e = .returned (.bool b) ∧ (b = true → playBad o) ∧ Below w.heap.size w w'
set_option maxRecDepth 100000 in
set_option maxHeartbeats 8000000 in
theorem played_bads (w : World) (o : OpD) (hs : o.s.length ≤ 1000000000) : Calls Tryz.prog 9 #[.agg (opCells o), vi 2] w (PlayPost o w) := by
  have h0 : (opBlk w o).heap[w.heap.size]? = some (.cells (opCells o) 28) := blk_alloc_new w
  have HBK := Lib.hid h0
  have c0 : (opBlk w o).cell? ⟨w.heap.size, 0, none⟩ = some (vi o.kind) := cell_of_blk h0 rfl
  have c1 : (opBlk w o).cell? ⟨w.heap.size, 1, none⟩ = some (vi o.a) := cell_of_blk h0 rfl
  have c2 : (opBlk w o).cell? ⟨w.heap.size, 2, none⟩ = some (vi o.b) := cell_of_blk h0 rfl
  have c3 : (opBlk w o).cell? ⟨w.heap.size, 3, none⟩ = some (vi o.c.lease) := cell_of_blk h0 rfl
  have c4 : (opBlk w o).cell? ⟨w.heap.size, 4, none⟩ = some (vi o.c.retries) := cell_of_blk h0 rfl
  have c5 : (opBlk w o).cell? ⟨w.heap.size, 5, none⟩ = some (vi o.c.cap) := cell_of_blk h0 rfl
  have c6 : (opBlk w o).cell? ⟨w.heap.size, 6, none⟩ = some (vi o.c.bound) := cell_of_blk h0 rfl
  have c7 : (opBlk w o).cell? ⟨w.heap.size, 7, none⟩ = some (vi o.c.hedge) := cell_of_blk h0 rfl
  have c8 : (opBlk w o).cell? ⟨w.heap.size, 8, none⟩ = some (vs (bs o.s)) := cell_of_blk h0 rfl
  have HB : Hid (Below w.heap.size w (opBlk w o)) := (Below.refl _ w).alloc (Nat.le_refl _) _
  have HHC := Lib.hid (head_calls (opBlk w o) o (by omega))
  have HRD := Lib.hid (fun W => rread_calls o.s (by omega) W)
  have HSD := Lib.hid (fun W => sealed_calls o.s hs W)
  have HS := Lib.hid hs
  have hz : (bs o.s).size = o.s.length := ops_size _
  have HH : Hid (headOf o = if o.kind = 3 then o.s.takeWhile (· != 32) else []) := show _ = _ from rfl
  have HY : Hid (∀ b : Bool, ∀ W : World, (b = true → playBad o) → Below w.heap.size w W → PlayPost o w (.returned (.bool b)) W) := fun b W h1 h2 => ⟨b, rfl, h1, h2⟩
  obtain ⟨kd, a, b, ⟨d1, d2, d3, d4, d5⟩, s⟩ := o
  simp only [opCells, opBlk] at *
  obtain ⟨H, hH⟩ : ∃ H, headOf ⟨kd, a, b, ⟨d1, d2, d3, d4, d5⟩, s⟩ = H := ⟨_, rfl⟩
  rw [hH] at HH HHC
  clear h0 hH
  go_enter Tryz.func9, Tryz.ntmps9
  go_wp2_with fail
  refine HHC.out.mono ?_
  rintro e w1 ⟨rfl, hb1⟩
  rw [World.size_alloc] at hb1
  have hblk := (hb1.block _ (Nat.lt_succ_self _)).trans HBK.out
  have HB1 := Lib.hid (HB.out.trans (hb1.mono (Nat.le_succ _)))
  have HBL := Lib.hid hblk
  clear c0 c1 c2 c3 c4 c5 c6 c7 c8 hb1 HHC HBK HB
  have c0 : w1.cell? ⟨w.heap.size, 0, none⟩ = some (vi kd) := cell_of_blk hblk rfl
  have c8 : w1.cell? ⟨w.heap.size, 8, none⟩ = some (vs (bs s)) := cell_of_blk hblk rfl
  have ht : (bs H).toList = H := by rw [ByteArray.toList_eq]; rfl
  clear hblk
  by_cases hk3 : kd = 3
  · subst hk3
    go_wp2_with fail
    go_loop [6] (fun s6 => ∃ k : Nat, s6 = .int .i64 k ∧ k ≤ s.length ∧ Hid (∀ (j : Nat) c, j < k → s[j]? = some c → c ≠ 10)) (fun s6 => s.length - (intOf s6).toNat)
    case atStart => exact ⟨0, by go_num, Nat.zero_le _, fun j c hj => by omega⟩
    case round =>
      obtain ⟨k, rfl, hkn, HA⟩ := hrel
      by_cases hkl : k < s.length
      · have hlt : decide ((k : Int) < (s.length : Int)) = true := decide_eq_true (by omega)
        obtain ⟨c, hkc⟩ : ∃ c, s[k]? = some c := ⟨_, List.getElem?_eq_getElem hkl⟩
        have hkz : k < (bs s).size := by rw [hz]; exact hkl
        have hget : (bs s)[k]'hkz = c := ops_get hkc
        have hk0 : (0 : Int) ≤ (k : Int) := by omega
        have hk1 : (k : Int) < (s.length : Int) := by omega
        have HKC := Lib.hid hkc
        clear hkc
        by_cases hc : c = 10
        · subst hc
          go_wp2_with fail
          go_ret
          exact HY.out _ _ (fun h => by cases h) HB1.out
        · have hcb : (c == 10) = false := by simp [hc]
          have hc1 : c.toNat ≠ 10 := fun h => hc (UInt8.toNat_inj.1 (by simpa using h))
          have hc2 : decide ((c.toNat : Int) = 10) = false := decide_eq_false (by omega)
          have hc3 : ((c.toNat : Int) == 10) = false := beq_eq_false_iff_ne.2 (by omega)
          have HN : Hid (∀ (j : Nat) c', j < k + 1 → s[j]? = some c' → c' ≠ 10) := fun j c' hj hc' => by
            by_cases e : j = k
            · subst e; rw [HKC.out] at hc'; cases hc'; exact hc
            · exact HA.out j c' (by omega) hc'
          go_wp2_with fail
          go_round
          case rel => exact ⟨k + 1, by go_num, by omega, HN.out⟩
          case measure => simp [intOf]; omega
      · obtain rfl : k = s.length := by omega
        have hlt : decide ((s.length : Int) < (s.length : Int)) = false := by simp
        have HNL : Hid (∀ c ∈ s, c ≠ 10) := fun c hc => by
          obtain ⟨j, hj, rfl⟩ := List.getElem_of_mem hc
          exact HA.out j _ hj (List.getElem?_eq_getElem hj)
        go_wp2_with fail
        all_goals
          refine (HRD.out _).mono ?_
          rintro e w2 ⟨mm, ok, rfl, hrd, hb2⟩
          have HB2 := Lib.hid (HB1.out.trans (hb2.mono HB1.out.size))
          have HOK : Hid (ok = false → readMsg s = none) := fun h => by rw [h] at hrd; simpa using hrd
          have hblk2 := (hb2.block _ (blk_lt _ HBL.out)).trans HBL.out
          obtain ⟨k1, k2, k3, k4, k5⟩ := mm
          simp only [msgCells]
          have c0 : (w2.alloc (.cells #[vs (bs k1), vi k2, vi k3, vs (bs k4), vs (bs k5)] 39)).cell? ⟨w.heap.size, 0, none⟩ = some (vi 3) := cell_of_blk ((blk_alloc_lt _ (blk_lt _ hblk2)).trans hblk2) rfl
          have c8 : (w2.alloc (.cells #[vs (bs k1), vi k2, vi k3, vs (bs k4), vs (bs k5)] 39)).cell? ⟨w.heap.size, 8, none⟩ = some (vs (bs s)) := cell_of_blk ((blk_alloc_lt _ (blk_lt _ hblk2)).trans hblk2) rfl
          clear hrd hb2 hblk2
          go_wp2_with fail
          go_ret
          refine HY.out _ _ (fun h => .inr (.inr ⟨rfl, HOK.out (by simpa using h), HNL.out⟩)) (Below.alloc HB2.out HB2.out.size _)
  · have hk1 : (kd == 3) = false := beq_eq_false_iff_ne.2 hk3
    have hk2 : decide (kd = 3) = false := decide_eq_false hk3
    obtain rfl : H = [] := by rw [HH.out, if_neg hk3]
    by_cases hk4 : kd = 4
    · subst hk4
      go_wp2_with fail
      refine (HRD.out _).mono ?_
      rintro e w2 ⟨mm, ok, rfl, hrd, hb2⟩
      have HB2 := Lib.hid (HB1.out.trans (hb2.mono HB1.out.size))
      have hblk2 := (hb2.block _ (blk_lt _ HBL.out)).trans HBL.out
      obtain ⟨k1, k2, k3, k4, k5⟩ := mm
      simp only [msgCells]
      have c0 : (w2.alloc (.cells #[vs (bs k1), vi k2, vi k3, vs (bs k4), vs (bs k5)] 39)).cell? ⟨w.heap.size, 0, none⟩ = some (vi 4) := cell_of_blk ((blk_alloc_lt _ (blk_lt _ hblk2)).trans hblk2) rfl
      have c8 : (w2.alloc (.cells #[vs (bs k1), vi k2, vi k3, vs (bs k4), vs (bs k5)] 39)).cell? ⟨w.heap.size, 8, none⟩ = some (vs (bs s)) := cell_of_blk ((blk_alloc_lt _ (blk_lt _ hblk2)).trans hblk2) rfl
      have HBL2 := Lib.hid ((blk_alloc_lt w2 (o := .cells #[vs (bs k1), vi k2, vi k3, vs (bs k4), vs (bs k5)] 39) (blk_lt _ hblk2)).trans hblk2)
      clear hrd hb2 hblk2
      go_wp2_with fail
      refine (HSD.out _).mono ?_
      rintro e w3 ⟨q, rfl, hq, hb3⟩
      have HQ := Lib.hid hq
      have HB3 := Lib.hid ((Below.alloc HB2.out HB2.out.size _).trans (hb3.mono (by simp; exact Nat.le_succ_of_le HB2.out.size)))
      have hblk3 := (hb3.block _ (blk_lt _ HBL2.out)).trans HBL2.out
      have c0 := cell_of_blk (off := 0) hblk3 rfl
      clear hq hb3 hblk3
      cases q with
      | true =>
        go_wp2_with fail
        go_ret
        exact HY.out _ _ (fun h => by cases h) HB3.out
      | false =>
        go_wp2_with fail
        go_ret
        exact HY.out _ _ (fun _ => .inr (.inl ⟨rfl, HQ.out (by first | trivial | rfl)⟩)) HB3.out
    · have hk5 : (kd == 4) = false := beq_eq_false_iff_ne.2 hk4
      have hk6 : decide (kd = 4) = false := decide_eq_false hk4
      go_wp2_with fail
      all_goals
        refine (HRD.out _).mono ?_
        rintro e w2 ⟨mm, ok, rfl, hrd, hb2⟩
        have HB2 := Lib.hid (HB1.out.trans (hb2.mono HB1.out.size))
        have hblk2 := (hb2.block _ (blk_lt _ HBL.out)).trans HBL.out
        obtain ⟨k1, k2, k3, k4, k5⟩ := mm
        simp only [msgCells]
        have c0 := cell_of_blk (off := 0) ((blk_alloc_lt w2 (o := .cells #[vs (bs k1), vi k2, vi k3, vs (bs k4), vs (bs k5)] 39) (blk_lt _ hblk2)).trans hblk2) rfl
        clear hrd hb2 hblk2
        go_wp2_with fail
        all_goals
          go_ret
          refine HY.out _ _ (fun h => .inl ?_) (Below.alloc HB2.out HB2.out.size _)
          first | assumption | (simp at h; done) | (simpa using h) | (simp_all; done)
end Go.Proofs.YtaejfobbogahmabGreatDoor
