/-
  The walks of dispatchlaw.head, and of dispatchlaw.played where only Seal is played.
-/
import Derived.Test.YtaejfobbogahmabGreatDoorMkOps
import Derived.Deep.DeepCutAuto
set_option linter.unusedVariables false
set_option linter.unusedSimpArgs false
namespace Go.Proofs.YtaejfobbogahmabGreatDoor
open Go Go.RowKit

def headOf (o : OpD) : Bytes := if o.kind = 3 then o.s.takeWhile (· != 32) else []
abbrev opBlk (w : World) (o : OpD) : World := w.alloc (.cells (opCells o) 28)
theorem ops_get {l : Bytes} {k : Nat} {c : UInt8} (h : l[k]? = some c) {hh : k < (bs l).size} : (bs l)[k]'hh = c := by
  obtain ⟨h1, h2⟩ := List.getElem?_eq_some_iff.1 h
  simpa [bs, ByteArray.getElem_eq_getElem_data] using h2
theorem ops_take (l : Bytes) (n : Nat) : (bs l).extract 0 n = bs (l.take n) := ByteArray.ext (by simp [bs])
theorem takeWhile_stop {l : Bytes} {k : Nat} {c : UInt8} {p : UInt8 → Bool} (h : l[k]? = some c) (hc : p c = false) (ha : ∀ (j : Nat) (x : UInt8), j < k → l[j]? = some x → p x = true) : l.takeWhile p = l.take k := by
  induction l generalizing k with
  | nil => simp at h
  | cons a l ih =>
    match k with
    | 0 =>
      simp at h; subst h
      simp [List.takeWhile_cons, hc]
    | k + 1 =>
      have := ha 0 a (by omega) rfl
      rw [List.takeWhile_cons, if_pos this, List.take_succ_cons, ih (by simpa using h) (fun j x hj hx => ha (j + 1) x (by omega) (by simpa using hx))]
theorem takeWhile_all {l : Bytes} {p : UInt8 → Bool} (ha : ∀ (j : Nat) (x : UInt8), l[j]? = some x → p x = true) : l.takeWhile p = l := by
  induction l with
  | nil => rfl
  | cons a l ih => rw [List.takeWhile_cons, if_pos (ha 0 a rfl), ih fun j x hx => ha (j + 1) x (by simpa using hx)]

set_option maxRecDepth 100000 in
set_option maxHeartbeats 2000000 in
theorem head_calls (w : World) (o : OpD) (hs : o.s.length ≤ 140737488351232) :
    Calls Tryz.prog 12 #[.agg (opCells o)] w fun e w' => e = .returned (vs (bs (headOf o))) ∧ Below w.heap.size w w' := by
  have h0 : (opBlk w o).heap[w.heap.size]? = some (.cells (opCells o) 28) := blk_alloc_new w
  have c0 : (opBlk w o).cell? ⟨w.heap.size, 0, none⟩ = some (vi o.kind) := cell_of_blk h0 rfl
  have c8 : (opBlk w o).cell? ⟨w.heap.size, 8, none⟩ = some (vs (bs o.s)) := cell_of_blk h0 rfl
  have HB : Hid (Below w.heap.size w (opBlk w o)) := (Below.refl _ w).alloc (Nat.le_refl _) _
  have hz : (bs o.s).size = o.s.length := ops_size _
  have HH : Hid (headOf o = if o.kind = 3 then o.s.takeWhile (· != 32) else []) := show _ = _ from rfl
  obtain ⟨kd, a, b, ⟨d1, d2, d3, d4, d5⟩, s⟩ := o
  simp only [opCells, opBlk] at *
  obtain ⟨H, hH⟩ : ∃ H, headOf ⟨kd, a, b, ⟨d1, d2, d3, d4, d5⟩, s⟩ = H := ⟨_, rfl⟩
  rw [hH] at HH ⊢
  clear h0 hH
  by_cases hk : kd = 3
  · subst hk
    have HH2 : Hid (H = s.takeWhile (· != 32)) := show _ = _ by rw [HH.out, if_pos rfl]
    clear HH
    go_enter Tryz.func12, Tryz.ntmps12
    go_wp2_with fail
    go_loop [3] (fun s3 => ∃ k : Nat, s3 = .int .i64 k ∧ k ≤ s.length ∧ Hid (∀ (j : Nat) (x : UInt8), j < k → s[j]? = some x → (x != 32) = true)) (fun s3 => s.length - (intOf s3).toNat)
    case atStart => exact ⟨0, by go_num, Nat.zero_le _, fun j x hj => by omega⟩
    case round =>
      obtain ⟨k, rfl, hkn, HA⟩ := hrel
      by_cases hkl : k < s.length
      · have hlt : decide ((k : Int) < (s.length : Int)) = true := decide_eq_true (by omega)
        obtain ⟨c, hkc⟩ : ∃ c, s[k]? = some c := ⟨_, List.getElem?_eq_getElem hkl⟩
        have hkz : k < (bs s).size := by rw [hz]; exact hkl
        have hget : (bs s)[k]'hkz = c := ops_get hkc
        have hk0 : (0 : Int) ≤ (k : Int) := by omega
        have hk1 : (k : Int) < (s.length : Int) := by omega
        have HKC := Lib.hid hkc
        clear hkc
        by_cases hc : c = 32
        · subst hc
          have HR : Hid (s.takeWhile (· != 32) = s.take k) := takeWhile_stop HKC.out (by decide) HA.out
          have hex : (bs s).extract 0 k = bs (s.take k) := ops_take s k
          go_wp2_with fail
          go_ret
          exact ⟨by rw [HH2.out, HR.out]; rfl, HB.out⟩
        · have hcb : (c == 32) = false := by simp [hc]
          have hc1 : c.toNat ≠ 32 := fun h => hc (UInt8.toNat_inj.1 (by simpa using h))
          have hc2 : decide ((c.toNat : Int) = 32) = false := decide_eq_false (by omega)
          have hc3 : ((c.toNat : Int) == 32) = false := beq_eq_false_iff_ne.2 (by omega)
          have HN : Hid (∀ (j : Nat) (x : UInt8), j < k + 1 → s[j]? = some x → (x != 32) = true) := fun j x hj hx => by
            rcases Nat.lt_succ_iff_lt_or_eq.1 hj with h | rfl
            · exact HA.out j x h hx
            · have := HKC.out.symm.trans hx
              cases this; simp [hc]
          go_wp2_with fail
          go_round
          case rel => exact ⟨k + 1, by go_num, by omega, HN⟩
          case measure => simp [intOf]; omega
      · obtain rfl : k = s.length := by omega
        have hlt : decide ((s.length : Int) < (s.length : Int)) = false := by simp
        have HR : Hid (s.takeWhile (· != 32) = s) := takeWhile_all fun j x hx => HA.out j x (List.getElem?_eq_some_iff.1 hx).1 hx
        go_wp2_with fail
        go_ret
        exact ⟨by rw [HH2.out, HR.out]; rfl, HB.out⟩
  · have hk1 : (kd == 3) = false := beq_eq_false_iff_ne.2 hk
    have hk2 : decide (kd = 3) = false := decide_eq_false hk
    have HH2 : Hid (H = []) := show _ = _ by rw [HH.out, if_neg hk]
    clear HH
    go_enter Tryz.func12, Tryz.ntmps12
    go_wp2_with fail
    go_ret
    exact ⟨by rw [HH2.out]; rfl, HB.out⟩

def isLate (o : OpD) : Bool := headOf o == "beat".toUTF8.data.toList || headOf o == "fail".toUTF8.data.toList || headOf o == "drain".toUTF8.data.toList || o.kind == 5 || o.kind == 6

set_option maxRecDepth 100000 in
set_option maxHeartbeats 4000000 in
theorem played_seal (w : World) (o : OpD) (hs : o.s.length ≤ 140737488351232) :
    Calls Tryz.prog 9 #[.agg (opCells o), vi 1] w fun e w' => e = .returned (.bool (decide (o.kind = 2))) ∧ Below w.heap.size w w' := by
  have h0 : (opBlk w o).heap[w.heap.size]? = some (.cells (opCells o) 28) := blk_alloc_new w
  have HBK := Lib.hid h0
  have c0 : (opBlk w o).cell? ⟨w.heap.size, 0, none⟩ = some (vi o.kind) := cell_of_blk h0 rfl
  have c1 : (opBlk w o).cell? ⟨w.heap.size, 1, none⟩ = some (vi o.a) := cell_of_blk h0 rfl
  have c2 : (opBlk w o).cell? ⟨w.heap.size, 2, none⟩ = some (vi o.b) := cell_of_blk h0 rfl
  have c3 : (opBlk w o).cell? ⟨w.heap.size, 3, none⟩ = some (vi o.c.lease) := cell_of_blk h0 rfl
  have c4 : (opBlk w o).cell? ⟨w.heap.size, 4, none⟩ = some (vi o.c.retries) := cell_of_blk h0 rfl
  have c5 : (opBlk w o).cell? ⟨w.heap.size, 5, none⟩ = some (vi o.c.cap) := cell_of_blk h0 rfl
  have c6 : (opBlk w o).cell? ⟨w.heap.size, 6, none⟩ = some (vi o.c.bound) := cell_of_blk h0 rfl
  have c7 : (opBlk w o).cell? ⟨w.heap.size, 7, none⟩ = some (vi o.c.hedge) := cell_of_blk h0 rfl
  have c8 : (opBlk w o).cell? ⟨w.heap.size, 8, none⟩ = some (vs (bs o.s)) := cell_of_blk h0 rfl
  have HB : Hid (Below w.heap.size w (opBlk w o)) := (Below.refl _ w).alloc (Nat.le_refl _) _
  have HHC := Lib.hid (head_calls (opBlk w o) o hs)
  have HS := Lib.hid hs
  have hz : (bs o.s).size = o.s.length := ops_size _
  have HH : Hid (headOf o = if o.kind = 3 then o.s.takeWhile (· != 32) else []) := show _ = _ from rfl
  obtain ⟨kd, a, b, ⟨d1, d2, d3, d4, d5⟩, s⟩ := o
  simp only [opCells, opBlk] at *
  obtain ⟨H, hH⟩ : ∃ H, headOf ⟨kd, a, b, ⟨d1, d2, d3, d4, d5⟩, s⟩ = H := ⟨_, rfl⟩
  rw [hH] at HH HHC
  clear h0 hH
  go_enter Tryz.func9, Tryz.ntmps9
  go_wp2_with fail
  refine HHC.out.mono ?_
  rintro e w1 ⟨rfl, hb1⟩
  rw [World.size_alloc] at hb1
  have hblk := (hb1.block _ (Nat.lt_succ_self _)).trans HBK.out
  have HB1 := Lib.hid (HB.out.trans (hb1.mono (Nat.le_succ _)))
  clear c0 c1 c2 c3 c4 c5 c6 c7 c8 hb1 HHC HBK HB
  have c0 : w1.cell? ⟨w.heap.size, 0, none⟩ = some (vi kd) := cell_of_blk hblk rfl
  have c8 : w1.cell? ⟨w.heap.size, 8, none⟩ = some (vs (bs s)) := cell_of_blk hblk rfl
  have ht : (bs H).toList = H := by rw [ByteArray.toList_eq]; rfl
  clear hblk
  by_cases hk3 : kd = 3
  · subst hk3
    go_wp2_with fail
    go_loop [6] (fun s6 => ∃ k : Nat, s6 = .int .i64 k ∧ k ≤ s.length) (fun s6 => s.length - (intOf s6).toNat)
    case atStart => exact ⟨0, by go_num, Nat.zero_le _⟩
    case round =>
      obtain ⟨k, rfl, hkn⟩ := hrel
      by_cases hkl : k < s.length
      · have hlt : decide ((k : Int) < (s.length : Int)) = true := decide_eq_true (by omega)
        obtain ⟨c, hkc⟩ : ∃ c, s[k]? = some c := ⟨_, List.getElem?_eq_getElem hkl⟩
        have hkz : k < (bs s).size := by rw [hz]; exact hkl
        have hget : (bs s)[k]'hkz = c := ops_get hkc
        have hk0 : (0 : Int) ≤ (k : Int) := by omega
        have hk1 : (k : Int) < (s.length : Int) := by omega
        clear hkc
        by_cases hc : c = 10
        · subst hc
          go_wp2_with fail
          go_ret
          exact ⟨rfl, HB1.out⟩
        · have hcb : (c == 10) = false := by simp [hc]
          have hc1 : c.toNat ≠ 10 := fun h => hc (UInt8.toNat_inj.1 (by simpa using h))
          have hc2 : decide ((c.toNat : Int) = 10) = false := decide_eq_false (by omega)
          have hc3 : ((c.toNat : Int) == 10) = false := beq_eq_false_iff_ne.2 (by omega)
          go_wp2_with fail
          go_round
          case rel => exact ⟨k + 1, by go_num, by omega⟩
          case measure => simp [intOf]; omega
      · obtain rfl : k = s.length := by omega
        have hlt : decide ((s.length : Int) < (s.length : Int)) = false := by simp
        go_wp2_with fail
        all_goals
          go_ret
          exact ⟨rfl, HB1.out⟩
  · have hk1 : (kd == 3) = false := beq_eq_false_iff_ne.2 hk3
    have hk2 : decide (kd = 3) = false := decide_eq_false hk3
    go_wp2_with fail
    all_goals
      go_ret
      refine ⟨?_, HB1.out⟩
      first | rfl | (simp; done) | (simp; omega) | (simp; assumption)
end Go.Proofs.YtaejfobbogahmabGreatDoor
