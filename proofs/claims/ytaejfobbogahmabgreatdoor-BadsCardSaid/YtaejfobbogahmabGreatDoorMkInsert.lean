/-
  slices.Insert at []int, in front: the shelf's contracts in the words of SlAt.
-/
import Derived.Test.YtaejfobbogahmabGreatDoorMkWithoutS
import Derived.Test.YtaejfobbogahmabGreatDoorMkShelf
set_option linter.unusedVariables false
set_option linter.unusedSimpArgs false
namespace Go.Proofs.YtaejfobbogahmabGreatDoor
open Go Go.RowKit

def InsPost (own : Nat → Prop) (x : Int) (l : List Int) (w : World) (e : Ending) (w' : World) : Prop :=
  ∃ g off cap, e = .returned (.slice (some ⟨g, off, none⟩) (l.length + 1) cap) ∧ (own g ∨ g = w.heap.size) ∧ SlAt w' 3 1 (fun b => b = g) (.slice (some ⟨g, off, none⟩) (l.length + 1) cap) (l.length + 1) ((x :: l).map encI) ∧ Fr (fun b => b = g) w w' ∧ g < w'.heap.size

theorem one_encI (l : List Int) : ∀ v ∈ l.map encI, v.oneCell' = true := by
  intro v hv
  obtain ⟨n, _, rfl⟩ := List.mem_map.1 hv
  rfl
theorem one_x (x : Int) : ∀ v ∈ [vi x], v.oneCell' = true := by
  intro v hv
  simp at hv; subst hv; rfl

theorem size_setCells (b : Nat) : ∀ (vs : List Value) (o : Nat) (w : World), (w.setCells b o vs).heap.size = w.heap.size
  | [], _, _ => rfl
  | u :: vs, o, w => by rw [World.setCells, size_setCells b vs]; simp

/-- A row written into a block from its place on: the block then reads so. -/
theorem row_of_cells {w' : World} {g off cap n : Nat} {cs' : Array Value} {x : Int} {l : List Int} (h1 : w'.heap[g]? = some (.cells cs' 3 (0, 0))) (hn : n = l.length) (hcap : n + 1 ≤ cap) (hcm : cap ≤ maxLen) (hsz : off + cap * 1 ≤ cs'.size)
    (h0 : cs'[off]? = some (vi x)) (hr : ∀ (j : Nat) u, (l.map encI)[j]? = some u → cs'[off + (1 + j)]? = some u) :
    SlAt w' 3 1 (fun b => b = g) (.slice (some ⟨g, off, none⟩) (l.length + 1) cap) (l.length + 1) ((x :: l).map encI) := by
  subst hn
  refine .inr ⟨g, off, cap, cs', rfl, rfl, h1, hcap, hcm, hsz, by simp, ?_⟩
  intro j u hj
  cases j with
  | zero => simp at hj; subst hj; exact h0
  | succ j =>
    have := hr j u (by simpa using hj)
    rwa [show off + (1 + j) = off + (j + 1) by omega] at this

theorem Insert_calls {w : World} {own : Nat → Prop} {v : Value} {l : List Int} (hs : SlAt w 3 1 own v l.length (l.map encI)) {B : Nat} {x : Int} {TB : TypeId} (hB : w.heap[B]? = some (.cells #[vi x] TB (0, 0))) (hBo : ¬ own B) (hl : l.length ≤ 1000000000000) :
    Calls Tryz.prog 100 #[v, vi 0, .slice (some ⟨B, 0, none⟩) 1 1] w (InsPost own x l w) := by
  have hBc : ∀ (j : Nat) u, [vi x][j]? = some u → w.cell? ⟨B, 0 + j, none⟩ = some u := fun j u hj => by
    cases j with
    | zero => simp at hj; subst hj; exact cell_of_blk hB rfl
    | succ j => simp at hj
  have hgrow0 : ∀ (base : Option Addr) (c : Nat), l = [] → c = 0 → (base = none → (0 : Nat) = 0) → Calls Tryz.prog 100 #[.slice base 0 c, vi 0, .slice (some ⟨B, 0, none⟩) 1 1] w (InsPost own x l w) := by
    intro base c hl0 hc hnil
    subst hl0; subst hc
    refine (Any2.slices_Insert_int_end_grow Tryz.lays2x21 base 0 0 B 0 1 1 [] [vi x] w (by omega) (by omega) (by omega) (by omega) rfl rfl hnil (by simp) hBc (one_x x)).mono ?_
    rintro e w' ⟨rfl, rfl⟩
    have hcm : grownCap w (0 + 1) 0 3 ≤ maxLen := grownCap_le_maxLen w (0 + 1) 0 3 (by unfold maxLen; omega)
    have hge := grownCap_ge w (0 + 1) 0 3
    refine ⟨w.heap.size, 0, grownCap w (0 + 1) 0 3, rfl, .inr rfl, ?_, (Fr.refl _ w).drew.alloc _, by simp⟩
    refine row_of_cells (n := 0) (blk_alloc_new w.drew) rfl hge hcm ?_ ?_ (by simp)
    · rw [Array.size_append, size_zeroCells]
      show 0 + grownCap w (0 + 1) 0 3 * 1 ≤ 1 + (grownCap w (0 + 1) 0 3 - (0 + 1)) * 1
      omega
    · rw [Array.getElem?_append_left (by simp)]
      rfl
  rcases hs with ⟨rfl, hn, hxs⟩ | ⟨b, off, cap, cs, rfl, h2, h3, h4, h5, h6, h7, h8⟩
  · have hl0 : l = [] := by simpa using hxs
    have := hgrow0 none 0 hl0 rfl (fun _ => rfl)
    rw [hl0] at this ⊢
    exact this
  · have hBb : B ≠ b := fun e => hBo (e ▸ h2)
    have hcell : ∀ (j : Nat) u, (l.map encI)[j]? = some u → w.cell? ⟨b, off + j, none⟩ = some u := fun j u hj => cell_of_blk h3 (h8 j u hj)
    have hsome : ∀ j, j < cap → (w.cell? ⟨b, off + j, none⟩).isSome = true := fun j hj => by
      rw [cell_of_blk' h3]; simp; omega
    by_cases hroom : l.length + 1 ≤ cap
    · by_cases hpos : 0 < l.length
      · refine (Any2.slices_Insert_int_shift Tryz.lays2x21 b off l.length cap 0 B 0 1 1 (l.map encI) [vi x] w hpos (by omega) hroom (by unfold maxLen at h5; omega) hBb (by simp) rfl hcell (fun j hj => hsome j (by omega)) (fun j hj => frozen_of_blk h3) hBc (one_encI l) (one_x x)
          TB 3 1 cs.size (by simp [World.shape?, hB]) (by simp [World.shape?, h3]) (by omega) (frozen_of_blk hB) (frozen_of_blk hB)).mono ?_
        rintro e w' ⟨rfl, rfl⟩
        obtain ⟨c1, a1, a2, a3, a4⟩ := blk_setCells (l.map encI) (off + 1) w.drew cs h3 (by simp; omega)
        obtain ⟨c2, b1, b2, b3, b4⟩ := blk_setCells [vi x] off (w.drew.setCells b (off + 1) (l.map encI)) c1 a1 (by simp; omega)
        refine ⟨b, off, cap, rfl, .inl h2, ?_, ?_, ?_⟩
        · refine row_of_cells (n := l.length) b1 rfl hroom h5 (by omega) (b3 0 _ rfl) ?_
          intro j u hj
          rw [b4 _ (by simp; try omega)]
          have := a3 j u hj
          rwa [show off + 1 + j = off + (1 + j) by omega] at this
        · exact fr_setCells _ _ _ _ (fr_setCells _ _ _ _ (Fr.refl _ w).drew (.inl rfl)) (.inl rfl)
        · rw [size_setCells, size_setCells]; exact blk_lt w h3
      · have hl0 : l = [] := List.length_eq_zero_iff.1 (by omega)
        subst hl0
        refine (Any2.slices_Insert_int_end_room Tryz.lays2x21 b off 0 cap B 0 1 1 [vi x] w (by omega) hroom (by unfold maxLen at h5; omega) rfl (fun j hj => hsome _ (by omega)) (fun j hj => frozen_of_blk h3) hBc (one_x x)).mono ?_
        rintro e w' ⟨rfl, rfl⟩
        obtain ⟨c2, b1, b2, b3, b4⟩ := blk_setCells [vi x] (off + 0) w cs h3 (by simp at hroom ⊢; omega)
        refine ⟨b, off, cap, rfl, .inl h2, ?_, ?_, ?_⟩
        · exact row_of_cells (n := 0) b1 rfl hroom h5 (by omega) (b3 0 _ rfl) (by simp)
        · exact fr_setCells _ _ _ _ (Fr.refl _ w) (.inl rfl)
        · rw [size_setCells]; exact blk_lt w h3
    · have hcl : cap = l.length := by omega
      by_cases hpos : 0 < l.length
      · refine (Any2.slices_Insert_int_grow Tryz.lays2x21 b off l.length cap 0 B 0 1 1 (l.map encI) [vi x] w hpos (by omega) (by omega) (by omega) (by omega) (by simp) rfl hcell hBc (one_encI l) (one_x x)).mono ?_
        rintro e w' ⟨rfl, rfl⟩
        have hcm : grownCap w (l.length + 1) cap 3 ≤ maxLen := grownCap_le_maxLen w (l.length + 1) cap 3 (by unfold maxLen; omega)
        have hge := grownCap_ge w (l.length + 1) cap 3
        generalize hgc : grownCap w (l.length + 1) cap 3 = gc at hcm hge
        have hgc2 : grownCap w (l.length + 1) cap (Tryz.lays2x21_ren.t 3) = gc := hgc
        rw [hgc2]
        obtain ⟨c0, hc0⟩ : ∃ c0 : Array Value, c0 = (List.take 0 (l.map encI)).toArray ++ Builtin.zeroCells (Value.int .i64 0).cells (l.length + 1 - 0) ++ Builtin.zeroCells (Value.int .i64 0).cells (gc - (l.length + 1)) := ⟨_, rfl⟩
        rw [← hc0]
        have hc0s : c0.size = gc := by
          rw [hc0, Array.size_append, Array.size_append, size_zeroCells, size_zeroCells]
          show 0 + _ * 1 + _ * 1 = _
          omega
        obtain ⟨c1, a1, a2, a3, a4⟩ := blk_setCells [vi x] 0 (w.alloc (.cells c0 3)).drew c0 (blk_alloc_new w) (by simp; omega)
        obtain ⟨c2, b1, b2, b3, b4⟩ := blk_setCells (l.map encI) 1 ((w.alloc (.cells c0 3)).drew.setCells w.heap.size 0 [vi x]).drew c1 a1 (by simp; omega)
        refine ⟨w.heap.size, 0, gc, rfl, .inr rfl, ?_, ?_, ?_⟩
        · refine row_of_cells (n := l.length) b1 rfl hge hcm (by omega) ?_ ?_
          · rw [b4 _ (by omega)]; exact a3 0 _ rfl
          · intro j u hj
            have := b3 j u hj
            rwa [show 1 + j = 0 + (1 + j) by omega] at this
        · exact fr_setCells (S := fun b => b = w.heap.size) _ _ _ _ (fr_setCells (S := fun b => b = w.heap.size) _ _ _ _ ((Fr.refl _ w).alloc _).drew (.inl rfl)).drew (.inl rfl)
        · exact blk_lt _ b1
      · have hl0 : l = [] := List.length_eq_zero_iff.1 (by omega)
        have := hgrow0 (some ⟨b, off, none⟩) cap hl0 (by rw [hl0] at hcl; exact hcl) (fun e => by cases e)
        rw [hl0] at this ⊢
        exact this
end Go.Proofs.YtaejfobbogahmabGreatDoor
