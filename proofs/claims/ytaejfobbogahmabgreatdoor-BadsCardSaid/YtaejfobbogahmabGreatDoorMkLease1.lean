/-
  The walks of the heap's own methods: Len, Less, Swap, Push, Pop of lease.order.
  The walks of container/heap over lease.order: up, down, Fix, Push, Remove.
-/
import Derived.Test.YtaejfobbogahmabGreatDoorMkRep
import Derived.Deep.RegionHeld3
import Derived.BigRegion
set_option linter.unusedVariables false
set_option linter.unusedSimpArgs false
namespace Go.Proofs.YtaejfobbogahmabGreatDoor
open Go Go.RowKit

/-- A method row of the program's table: no path; the function and whether its receiver is a pointer. -/
def MRow (t : TypeId) (name : String) (f : FuncId) (ptr : Bool) : Prop := (Tryz.prog.info? t).bind (fun i => (i.methods.find? (·.name == name)).map (fun m => (m.path, m.func))) = some (#[], some (f, ptr))
theorem row_less : MRow 171 "Less" 191 false := by unfold MRow; kernel_rfl
theorem row_len : MRow 171 "Len" 190 false := by unfold MRow; kernel_rfl
theorem row_swap : MRow 171 "Swap" 192 false := by unfold MRow; kernel_rfl
theorem row_push : MRow 171 "Push" 196 true := by unfold MRow; kernel_rfl
theorem row_pop : MRow 171 "Pop" 195 true := by unfold MRow; kernel_rfl
theorem wrapChk (ts : Array TypeId) (ty : TypeId) (a : Addr) (x y : String) : Builtin.ssaWrapNilChk_ ts ty #[.pointer (some a), strVal x, strVal y] = pure (.pointer (some a)) := rfl
theorem meth_val {name : String} {f : FuncId} (hr : MRow 171 name f false) {a : Addr} {v : Value} {w : World} (h : w.cell? a = some v) (n : Nat) : (method (n + 1) 171 (.pointer (some a)) name).run Tryz.prog w = .ok (f, v) w := by
  obtain ⟨i, hi, hm⟩ := Option.bind_eq_some_iff.1 hr
  obtain ⟨m, hm1, hm2⟩ := Option.map_eq_some_iff.1 hm
  simp only [Prod.mk.injEq] at hm2
  have hu := Tryz.underlying171
  simp [method, typeInfo, hi, hm1, hm2.1, hm2.2, follow, receiverAt, run_underlying hu, wrapChk, Place.get, go_sem, h]
theorem meth_ptr {name : String} {f : FuncId} (hr : MRow 171 name f true) {a : Addr} {w : World} (n : Nat) : (method (n + 1) 171 (.pointer (some a)) name).run Tryz.prog w = .ok (f, .pointer (some a)) w := by
  obtain ⟨i, hi, hm⟩ := Option.bind_eq_some_iff.1 hr
  obtain ⟨m, hm1, hm2⟩ := Option.map_eq_some_iff.1 hm
  simp only [Prod.mk.injEq] at hm2
  have hu := Tryz.underlying171
  simp [method, typeInfo, hi, hm1, hm2.1, hm2.2, follow, receiverAt, run_underlying hu, Place.get, go_sem]

set_option maxRecDepth 100000 in
set_option maxHeartbeats 400000 in
theorem Len_calls {a : Option Addr} {n cap : Nat} {w : World} (_hn : n ≤ maxLen) :
    Calls Tryz.prog 190 #[.slice a n cap] w fun e w' => e = .returned (vi n) ∧ w = w' := by
  go_enter Tryz.func190, Tryz.ntmps190
  go_wp2
  go_ret
  exact ⟨rfl, rfl⟩

/-- What the heap's cells say of place i. -/
theorem HeapC.at_ {w : World} {ρ : Nat → Role} {v : Value} {att : Int → Nat} {hp : List Att} (h : HeapC w ρ v att hp) {i : Nat} (hi : i < hp.length) :
    w.heap[att (hg hp i).seq]? = some (.cells (attCells (hg hp i) i) 110 (0, 0)) := (h.2.2 i _ (getElem?_hg hi)).2

set_option maxRecDepth 100000 in
set_option maxHeartbeats 1000000 in
theorem Less_calls {w : World} {ρ : Nat → Role} {v : Value} {att : Int → Nat} {hp : List Att} (h : HeapC w ρ v att hp) {i j : Nat} (hi : i < hp.length) (hj : j < hp.length) :
    Calls Tryz.prog 191 #[v, vi i, vi j] w fun e w' => ∃ k, e = .returned (.bool (better (hg hp i) (hg hp j))) ∧ w' = w.drewN k := by
  obtain ⟨b, off, cap, rfl, _, _, hc1, hc2, hc, _⟩ := h.1.form (by omega)
  have ci := hc i (vp (att (hg hp i).seq)) (by simp [getElem?_hg hi])
  have cj := hc j (vp (att (hg hp j).seq)) (by simp [getElem?_hg hj])
  have bi := h.at_ hi
  have bj := h.at_ hj
  have ti : w.cell? ⟨att (hg hp i).seq, 4, none⟩ = some (vi (hg hp i).till) := cell_of_blk bi rfl
  have tj : w.cell? ⟨att (hg hp j).seq, 4, none⟩ = some (vi (hg hp j).till) := cell_of_blk bj rfl
  have si : w.cell? ⟨att (hg hp i).seq, 5, none⟩ = some (vi (hg hp i).seq) := cell_of_blk bi rfl
  have sj : w.cell? ⟨att (hg hp j).seq, 5, none⟩ = some (vi (hg hp j).seq) := cell_of_blk bj rfl
  clear bi bj hc h
  unfold maxLen at hc2
  have i0 : (0 : Int) ≤ i := by omega
  have j0 : (0 : Int) ≤ j := by omega
  have i1 : (i : Int) < (hp.length : Int) := by omega
  have j1 : (j : Int) < (hp.length : Int) := by omega
  by_cases ht : (hg hp i).till = (hg hp j).till
  · have hne : ((hg hp i).till != (hg hp j).till) = false := by simp [ht]
    have hb := Lib.hid (show decide ((hg hp i).seq < (hg hp j).seq) = better (hg hp i) (hg hp j) by unfold better; simp [ht])
    clear ht
    go_enter Tryz.func191, Tryz.ntmps191
    go_wp2
    go_quiet (fail)
    go_wp2
    go_quiet (fail)
    go_wp2
    go_ret
    exact ⟨_, congrArg (fun b => Ending.returned (.bool b)) hb.out, by rw [World.drewN_drewN]⟩
  · have hne : ((hg hp i).till != (hg hp j).till) = true := by simp [ht]
    have hb := Lib.hid (show decide ((hg hp i).till < (hg hp j).till) = better (hg hp i) (hg hp j) by unfold better; simp [ht])
    clear ht
    go_enter Tryz.func191, Tryz.ntmps191
    go_wp2
    go_quiet (fail)
    go_wp2
    go_quiet (fail)
    go_wp2
    go_ret
    exact ⟨_, congrArg (fun b => Ending.returned (.bool b)) hb.out, by rw [World.drewN_drewN]⟩


theorem HeapC.drew2 {w : World} {ρ : Nat → Role} {v : Value} {att : Int → Nat} {hp : List Att} (h : HeapC w ρ v att hp) : HeapC w.drew.drew ρ v att hp := h
/-- What a heap method may turn: the array and the attempts. -/
def HpB (ρ : Nat → Role) : Nat → Prop := fun b => (ρ b).tag = 8 ∨ (ρ b).tag = 11

theorem HeapC.seq_ne {w : World} {ρ : Nat → Role} {v : Value} {att : Int → Nat} {hp : List Att} (h : HeapC w ρ v att hp) {i j : Nat} (hi : i < hp.length) (hj : j < hp.length) (hij : i ≠ j) : (hg hp i).seq ≠ (hg hp j).seq := fun e => hij (by
    have h1 : (hp.map (·.seq))[i]? = some (hg hp i).seq := by simp [getElem?_hg hi]
    have h2 : (hp.map (·.seq))[j]? = some (hg hp j).seq := by simp [getElem?_hg hj]
    exact (List.getElem?_inj (by simpa using hi) h.2.1).1 (by rw [h1, h2, e]))

theorem HeapC.role {w : World} {ρ : Nat → Role} {v : Value} {att : Int → Nat} {hp : List Att} (h : HeapC w ρ v att hp) {i : Nat} (hi : i < hp.length) : ρ (att (hg hp i).seq) = rAttB (hg hp i).seq := (h.2.2 i _ (getElem?_hg hi)).1

theorem HeapC.att_ne {w : World} {ρ : Nat → Role} {v : Value} {att : Int → Nat} {hp : List Att} (h : HeapC w ρ v att hp) {i j : Nat} (hi : i < hp.length) (hj : j < hp.length) (hij : i ≠ j) : att (hg hp i).seq ≠ att (hg hp j).seq := fun e => by
  have h1 := h.role hi
  have h2 := h.role hj
  rw [e, h2] at h1
  simp only [rAttB, Role.mk.injEq, true_and, and_true] at h1
  exact h.seq_ne hi hj hij h1.symm

theorem swap_rep {w : World} {ρ : Nat → Role} {b off n cap : Nat} {att : Int → Nat} {hp : List Att} (h : HeapC w ρ (.slice (some ⟨b, off, none⟩) n cap) att hp) {i j : Nat} (hi : i < hp.length) (hj : j < hp.length) (hij : i ≠ j) :
    HeapC ((((w.setCell ⟨b, off + i, none⟩ (vp (att (hg hp j).seq))).setCell ⟨b, off + j, none⟩ (vp (att (hg hp i).seq))).setCell ⟨att (hg hp j).seq, 6, none⟩ (vi i)).setCell ⟨att (hg hp i).seq, 6, none⟩ (vi j)) ρ (.slice (some ⟨b, off, none⟩) n cap) att (swapL hp i j) ∧
    Fr (HpB ρ) w ((((w.setCell ⟨b, off + i, none⟩ (vp (att (hg hp j).seq))).setCell ⟨b, off + j, none⟩ (vp (att (hg hp i).seq))).setCell ⟨att (hg hp j).seq, 6, none⟩ (vi i)).setCell ⟨att (hg hp i).seq, 6, none⟩ (vi j)) := by
  have hij' := h.att_ne hi hj hij
  have ri := h.role hi
  have rj := h.role hj
  have bi := h.at_ hi
  have bj := h.at_ hj
  obtain ⟨h1, h2, h3⟩ := h
  rcases h1 with ⟨h1, _⟩ | ⟨b', off', cap', cs, e, hb, hblk, hc1, hc2, hsz, hlen, hcell⟩
  · cases h1
  injection e with e1 e2 e3
  injection e1 with e1
  injection e1 with e4 e5
  subst e4; subst e5; subst e3; subst e2
  have n3 : b ≠ att (hg hp i).seq := fun e => by rw [← e, hb] at ri; simp [rHeap, rAttB] at ri
  have n4 : b ≠ att (hg hp j).seq := fun e => by rw [← e, hb] at rj; simp [rHeap, rAttB] at rj
  have hcs : off + i < cs.size ∧ off + j < cs.size := by omega
  have hB : ((((w.setCell ⟨b, off + i, none⟩ (vp (att (hg hp j).seq))).setCell ⟨b, off + j, none⟩ (vp (att (hg hp i).seq))).setCell ⟨att (hg hp j).seq, 6, none⟩ (vi i)).setCell ⟨att (hg hp i).seq, 6, none⟩ (vi j)).heap[b]? =
      some (.cells ((cs.setIfInBounds (off + i) (vp (att (hg hp j).seq))).setIfInBounds (off + j) (vp (att (hg hp i).seq))) 107 (0, 0)) := by
    rw [blk_setCell_ne _ n3, blk_setCell_ne _ n4]
    exact blk_setCell _ (blk_setCell _ hblk)
  have hO : ∀ x, x ≠ b → x ≠ att (hg hp i).seq → x ≠ att (hg hp j).seq → ((((w.setCell ⟨b, off + i, none⟩ (vp (att (hg hp j).seq))).setCell ⟨b, off + j, none⟩ (vp (att (hg hp i).seq))).setCell ⟨att (hg hp j).seq, 6, none⟩ (vi i)).setCell ⟨att (hg hp i).seq, 6, none⟩ (vi j)).heap[x]? = w.heap[x]? := by
    intro x x1 x2 x3
    rw [blk_setCell_ne _ x2, blk_setCell_ne _ x3, blk_setCell_ne _ x1, blk_setCell_ne _ x1]
  have hI : ((((w.setCell ⟨b, off + i, none⟩ (vp (att (hg hp j).seq))).setCell ⟨b, off + j, none⟩ (vp (att (hg hp i).seq))).setCell ⟨att (hg hp j).seq, 6, none⟩ (vi i)).setCell ⟨att (hg hp i).seq, 6, none⟩ (vi j)).heap[att (hg hp i).seq]? =
      some (.cells (attCells (hg hp i) j) 110 (0, 0)) := by
    have : ((w.setCell ⟨b, off + i, none⟩ (vp (att (hg hp j).seq))).setCell ⟨b, off + j, none⟩ (vp (att (hg hp i).seq))).heap[att (hg hp i).seq]? = some (.cells (attCells (hg hp i) i) 110 (0, 0)) := by
      rw [blk_setCell_ne _ n3.symm, blk_setCell_ne _ n3.symm]; exact bi
    exact blk_setCell _ ((blk_setCell_ne _ hij').trans this)
  have hJ : ((((w.setCell ⟨b, off + i, none⟩ (vp (att (hg hp j).seq))).setCell ⟨b, off + j, none⟩ (vp (att (hg hp i).seq))).setCell ⟨att (hg hp j).seq, 6, none⟩ (vi i)).setCell ⟨att (hg hp i).seq, 6, none⟩ (vi j)).heap[att (hg hp j).seq]? =
      some (.cells (attCells (hg hp j) i) 110 (0, 0)) := by
    have : ((w.setCell ⟨b, off + i, none⟩ (vp (att (hg hp j).seq))).setCell ⟨b, off + j, none⟩ (vp (att (hg hp i).seq))).heap[att (hg hp j).seq]? = some (.cells (attCells (hg hp j) j) 110 (0, 0)) := by
      rw [blk_setCell_ne _ n4.symm, blk_setCell_ne _ n4.symm]; exact bj
    rw [blk_setCell_ne _ hij'.symm]
    exact blk_setCell _ this
  refine ⟨⟨.inr ⟨b, off, cap, _, by rw [swapL_length], hb, hB, by rw [swapL_length]; exact hc1, hc2, by simpa using hsz, by simp [swapL_length], ?_⟩, ?_, ?_⟩, ?_⟩
  · intro k u hk
    have hkl : k < hp.length := by
      have := (List.getElem?_eq_some_iff.1 hk).1
      simpa [swapL_length] using this
    rw [List.getElem?_map, getElem?_hg (by rw [swapL_length]; exact hkl)] at hk
    simp only [Option.map_some, Option.some.injEq] at hk
    rw [hg_swapL hp i j k hi hj] at hk
    rw [Array.getElem?_setIfInBounds]
    by_cases e1 : off + j = off + k
    · rw [if_pos e1, if_pos (by simp; omega)]
      rw [if_pos (by omega)] at hk
      rw [hk]
    · rw [if_neg e1, Array.getElem?_setIfInBounds]
      rw [if_neg (by omega)] at hk
      by_cases e2 : off + i = off + k
      · rw [if_pos e2, if_pos (by omega)]
        rw [if_pos (by omega)] at hk
        rw [hk]
      · rw [if_neg e2]
        rw [if_neg (by omega)] at hk
        exact hcell k u (by rw [List.getElem?_map, getElem?_hg hkl]; simpa using hk)
  · have := (swapL_perm hp i j hi hj).map (·.seq)
    exact this.nodup_iff.2 h2
  · intro k a hk
    have hkl : k < hp.length := by
      have := (List.getElem?_eq_some_iff.1 hk).1
      simpa [swapL_length] using this
    have ha := hg_of hk
    rw [hg_swapL hp i j k hi hj] at ha
    by_cases e1 : k = j
    · subst e1
      rw [if_pos rfl] at ha
      subst ha
      exact ⟨ri, hI⟩
    · rw [if_neg e1] at ha
      by_cases e2 : k = i
      · subst e2
        rw [if_pos rfl] at ha
        subst ha
        exact ⟨rj, hJ⟩
      · rw [if_neg e2] at ha
        subst ha
        have hh : HeapC w ρ (.slice (some ⟨b, off, none⟩) hp.length cap) att hp := ⟨.inr ⟨b, off, cap, cs, rfl, hb, hblk, hc1, hc2, hsz, hlen, hcell⟩, h2, h3⟩
        have rk := hh.role hkl
        refine ⟨rk, (hO _ (fun e => ?_) (hh.att_ne hkl hi e2) (hh.att_ne hkl hj e1)).trans (hh.at_ hkl)⟩
        rw [e, hb] at rk; simp [rHeap, rAttB] at rk
  · have f1 : HpB ρ b := .inr (by rw [hb]; rfl)
    have f2 : HpB ρ (att (hg hp i).seq) := .inl (by rw [ri]; rfl)
    have f3 : HpB ρ (att (hg hp j).seq) := .inl (by rw [rj]; rfl)
    exact ((((Fr.refl _ w).setCell _ _ (.inl f1)).setCell _ _ (.inl f1)).setCell _ _ (.inl f3)).setCell _ _ (.inl f2)

set_option maxRecDepth 100000 in
set_option maxHeartbeats 1000000 in
theorem Swap_calls {w : World} {ρ : Nat → Role} {v : Value} {att : Int → Nat} {hp : List Att} (h : HeapC w ρ v att hp) {i j : Nat} (hi : i < hp.length) (hj : j < hp.length) (hij : i ≠ j) :
    Calls Tryz.prog 192 #[v, vi i, vi j] w fun e w' => e = .returned (.tuple #[]) ∧ HeapC w' ρ v att (swapL hp i j) ∧ Fr (HpB ρ) w w'  := by
  obtain ⟨b, off, cap, rfl, hb1, _, hc1, hc2, hc, hfz⟩ := h.1.form (by omega)
  have hrep := Lib.hid (swap_rep h hi hj hij)
  have ci := hc i (vp (att (hg hp i).seq)) (by simp [getElem?_hg hi])
  have cj := hc j (vp (att (hg hp j).seq)) (by simp [getElem?_hg hj])
  have bi := h.at_ hi
  have bj := h.at_ hj
  have ri := h.role hi
  have rj := h.role hj
  have ti : w.cell? ⟨att (hg hp i).seq, 6, none⟩ = some (vi i) := cell_of_blk bi rfl
  have tj : w.cell? ⟨att (hg hp j).seq, 6, none⟩ = some (vi j) := cell_of_blk bj rfl
  have fi : w.frozen? ⟨att (hg hp i).seq, 6, none⟩ = false := frozen_of_blk bi
  have fj : w.frozen? ⟨att (hg hp j).seq, 6, none⟩ = false := frozen_of_blk bj
  have gi := hfz (off + i)
  have gj := hfz (off + j)
  unfold maxLen at hc2
  have i0 : (0 : Int) ≤ i := by omega
  have j0 : (0 : Int) ≤ j := by omega
  have i1 : (i : Int) < (hp.length : Int) := by omega
  have j1 : (j : Int) < (hp.length : Int) := by omega
  have n1 : off + i ≠ off + j := by omega
  have n2 : off + j ≠ off + i := by omega
  have n3 : att (hg hp i).seq ≠ b := fun e => by rw [e, hb1] at ri; simp [rHeap, rAttB] at ri
  have n4 : att (hg hp j).seq ≠ b := fun e => by rw [e, hb1] at rj; simp [rHeap, rAttB] at rj
  have n5 := h.att_ne hi hj hij
  have n6 : att (hg hp j).seq ≠ att (hg hp i).seq := fun e => n5 e.symm
  clear bi bj hc h hfz
  go_enter Tryz.func192, Tryz.ntmps192
  go_wp2
  go_region
  go_wp2
  go_region
  go_end0
  exact ⟨rfl, hrep.out.1.drew2, hrep.out.2.drew.drew⟩

end Go.Proofs.YtaejfobbogahmabGreatDoor
namespace Go.Proofs.YtaejfobbogahmabGreatDoor
open Go Go.RowKit

abbrev hI (D : Nat) : Value := .iface 171 (.pointer (some ⟨D, 12, none⟩))

theorem HeapC.drewN {w : World} {ρ : Nat → Role} {v : Value} {att : Int → Nat} {hp : List Att} (h : HeapC w ρ v att hp) (k : Nat) : HeapC (w.drewN k) ρ v att hp := h
theorem Fr.drewN {S : Nat → Prop} {a b : World} (h : Fr S a b) (k : Nat) : Fr S a (b.drewN k) := ⟨h.os, h.tape, h.output, h.size, h.block⟩
theorem Fr.ofDrewN {S : Nat → Prop} {a b : World} {k : Nat} (h : Fr S (a.drewN k) b) : Fr S a b := ⟨h.os, h.tape, h.output, h.size, h.block⟩
theorem Fr.cell {S : Nat → Prop} {a b : World} (h : Fr S a b) {p : Addr} {v : Value} (hp : ¬ S p.block) (hc : a.cell? p = some v) : b.cell? p = some v := by
  rw [World.cell?_of_block (h.block p.block (World.block_lt_of_cell? a p hc) hp)]; exact hc
theorem Fr.froz {S : Nat → Prop} {a b : World} (h : Fr S a b) {p : Addr} (hl : p.block < a.heap.size) (hp : ¬ S p.block) (hc : a.frozen? p = false) : b.frozen? p = false := by
  rw [World.frozen?_of_block (h.block p.block hl hp)]; exact hc

theorem upF_step {f : Nat} {l : List Att} {j : Nat} (h1 : (j - 1) / 2 ≠ j) (h2 : better (hg l j) (hg l ((j - 1) / 2)) = true) : upF (f + 1) l j = upF f (swapL l ((j - 1) / 2) j) ((j - 1) / 2) := by
  rw [upF, if_neg (by simp [h1, h2])]
theorem upF_stop {f : Nat} {l : List Att} {j : Nat} (h : better (hg l j) (hg l ((j - 1) / 2)) = false) : upF f l j = l := by
  cases f with
  | zero => rfl
  | succ f => rw [upF, if_pos (.inr h)]
theorem upF_zero {f : Nat} {l : List Att} : upF f l 0 = l := by
  cases f with
  | zero => rfl
  | succ f => rw [upF, if_pos (.inl (by omega))]

def UpPost (w : World) (ρ : Nat → Role) (v : Value) (att : Int → Nat) (l : List Att) (w' : World) : Prop := HeapC w' ρ v att l ∧ Fr (HpB ρ) w w'

set_option maxRecDepth 100000 in
set_option maxHeartbeats 1000000 in
theorem up_calls {D : Nat} {w : World} {ρ : Nat → Role} {v : Value} {att : Int → Nat} {hp : List Att} (hD : ¬ HpB ρ D) (hv : w.cell? ⟨D, 12, none⟩ = some v) (h : HeapC w ρ v att hp) {j : Nat} (hj : j < hp.length) :
    Calls Tryz.prog 143 #[hI D, vi j] w fun e w' => e = .returned (.tuple #[]) ∧ UpPost w ρ v att (upF hp.length hp j) w' := by
  have hlen : hp.length ≤ maxLen := by obtain ⟨a, cap, _, h1, h2⟩ := h.1.form'; omega
  unfold maxLen at hlen
  go_enter Tryz.func143, Tryz.ntmps143
  go_wp2_with fail
  go_loopw [1, 4] (fun s1 _ wr => ∃ (jn f : Nat) (l : List Att), s1 = .int .i64 jn ∧ jn < l.length ∧ jn ≤ f ∧ Hid (upF hp.length hp j = upF f l jn) ∧ Hid (HeapC wr ρ v att l) ∧ Hid (Fr (HpB ρ) w wr) ∧ Hid (l.length = hp.length)) (fun s1 _ _ => (intOf s1).toNat)
  case atStart => exact ⟨j, hp.length, hp, rfl, hj, by omega, rfl, h, Fr.refl _ _, rfl⟩
  case round =>
    obtain ⟨jn, f, l, rfl, hjn, hjf, hup, hH, hF, hL⟩ := hrel
    have hc := hF.out.cell hD hv
    have hmL : (method 341 171 (.pointer (some ⟨D, 12, none⟩)) "Less").run Tryz.prog wr = .ok (191, v) wr := meth_val row_less hc _
    have hlr : l.length ≤ 9223372036854775807 := by have := hL.out; omega
    by_cases h0 : jn = 0
    · subst h0
      clear hmL hc
      go_wp2
      go_end0
      exact ⟨rfl, by rw [hup.out, upF_zero]; exact ⟨hH.out, hF.out⟩⟩
    · obtain ⟨ip, hip⟩ : ∃ ip : Nat, Hid (ip = (jn - 1) / 2) := ⟨_, rfl⟩
      have hq : ((jn : Int) - 1) / 2 = (ip : Int) := by have := hip.out; omega
      have hne : ((ip : Int) == (jn : Int)) = false := by have := hip.out; rw [beq_eq_false_iff_ne]; omega
      have hil : ip < l.length := by have := hip.out; omega
      have hj1 : (1 : Int) ≤ (jn : Int) := by omega
      have hf0 : 0 < f := by omega
      have hne' : Hid (ip ≠ jn) := by have := hip.out; show ip ≠ jn; omega
      obtain ⟨b, hb⟩ : ∃ b : Bool, Hid (better (hg l jn) (hg l ip) = b) := ⟨_, rfl⟩
      cases b with
      | false =>
        go_wp2_with fail
        refine (Less_calls hH.out hjn hil).mono ?_
        rintro e w1 ⟨k, rfl, rfl⟩
        rw [hb.out]
        go_wp2_with fail
        go_end0
        refine ⟨rfl, ?_⟩
        rw [hup.out, upF_stop (by rw [← hip.out]; exact hb.out)]
        exact ⟨hH.out.drewN _, hF.out.drewN _⟩
      | true =>
        have hmS : ∀ k, (method 341 171 (.pointer (some ⟨D, 12, none⟩)) "Swap").run Tryz.prog (wr.drewN k) = .ok (192, v) (wr.drewN k) := fun k => meth_val row_swap (w := wr.drewN k) hc _
        go_wp2_with fail
        refine (Less_calls hH.out hjn hil).mono ?_
        rintro e w1 ⟨k, rfl, rfl⟩
        rw [hb.out]
        go_wp2_with fail
        refine (Swap_calls (hH.out.drewN k) hil hjn hne'.out).mono ?_
        rintro e w1 ⟨rfl, hH1, hF1⟩
        have HH1 := Lib.hid hH1
        have HF1 := Lib.hid hF1
        clear hH1 hF1
        go_wp2_with fail
        go_roundw
        case rel =>
          refine ⟨ip, f - 1, swapL l ip jn, rfl, by rw [swapL_length]; exact hil, by have := hip.out; omega, ?_, HH1.out, hF.out.trans HF1.out.ofDrewN (fun x hx => .inl hx), ?_⟩
          · have := hup.out
            have e := upF_step (f := f - 1) (l := l) (j := jn) (by rw [← hip.out]; exact hne'.out) (by rw [← hip.out]; exact hb.out)
            rw [show f - 1 + 1 = f by omega, ← hip.out] at e
            exact this.trans e
          · show (swapL l ip jn).length = _
            rw [swapL_length]; exact hL.out
        case measure => simp [intOf]; have := hip.out; omega

end Go.Proofs.YtaejfobbogahmabGreatDoor
