/-
  Two dispatchers beside one another; blocks that are the caller's.
-/
import Derived.Test.YtaejfobbogahmaaGreatDoorMkStep
set_option linter.unusedVariables false
set_option linter.unusedSimpArgs false
namespace Go.Proofs.YtaejfobbogahmaaGreatDoor
open Go Go.RowKit

/-- D1 in r1, D2 in r2; the blocks of F are neither's. -/
structure TwoAt (F : Nat → Prop) (G : Nat) (w0 : World) (D1 : Nat) (r1 : Raw) (D2 : Nat) (r2 : Raw) (w : World) : Prop where
  rep : ∃ ρ1 L1 ρ2 L2, RRep w ρ1 G D1 L1 r1 ∧ RRep w ρ2 G D2 L2 r2 ∧ (∀ b, Of ρ1 b → w0.heap.size ≤ b ∧ ¬ Of ρ2 b) ∧ (∀ b, Of ρ2 b → w0.heap.size ≤ b) ∧ ∀ b, F b → b < w.heap.size ∧ ¬ Of ρ1 b ∧ ¬ Of ρ2 b
  below : Below w0.heap.size w0 w
  env : Env G w
section
variable {F : Nat → Prop} {G D1 D2 : Nat} {w0 w w' : World} {r1 r2 : Raw}
theorem TwoAt.swap (h : TwoAt F G w0 D1 r1 D2 r2 w) : TwoAt F G w0 D2 r2 D1 r1 w := by
  obtain ⟨⟨ρ1, L1, ρ2, L2, h1, h2, h3, h4, h5⟩, h6, h7⟩ := h
  exact ⟨⟨ρ2, L2, ρ1, L1, h2, h1, fun b hb => ⟨h4 b hb, fun h => (h3 b h).2 hb⟩, fun b hb => (h3 b hb).1, fun b hb => ⟨(h5 b hb).1, (h5 b hb).2.2, (h5 b hb).2.1⟩⟩, h6, h7⟩
theorem TwoAt.mono {F' : Nat → Prop} (h : TwoAt F G w0 D1 r1 D2 r2 w) (hF : ∀ b, F' b → F b) : TwoAt F' G w0 D1 r1 D2 r2 w := by
  obtain ⟨⟨ρ1, L1, ρ2, L2, h1, h2, h3, h4, h5⟩, h6, h7⟩ := h
  exact ⟨⟨ρ1, L1, ρ2, L2, h1, h2, h3, h4, fun b hb => h5 b (hF b hb)⟩, h6, h7⟩
/-- Blocks of the caller's turn, or new ones are laid: these are the caller's. -/
theorem TwoAt.fr {S : Nat → Prop} (h : TwoAt F G w0 D1 r1 D2 r2 w) (hG : G ≤ w0.heap.size) (hf : Fr S w w') (hS : ∀ b, S b → (F b ∨ w.heap.size ≤ b) ∧ w0.heap.size ≤ b) : TwoAt (fun b => F b ∨ (w.heap.size ≤ b ∧ b < w'.heap.size)) G w0 D1 r1 D2 r2 w' := by
  obtain ⟨⟨ρ1, L1, ρ2, L2, h1, h2, h3, h4, h5⟩, h6, h7⟩ := h
  have hn : ∀ b, S b → ¬ Of ρ1 b ∧ ¬ Of ρ2 b := fun b hb => by
    rcases (hS b hb).1 with h8 | h8
    · exact (h5 b h8).2
    · exact ⟨fun ho => by have := (h1.dom _ ho).2; omega, fun ho => by have := (h2.dom _ ho).2; omega⟩
  refine ⟨⟨ρ1, L1, ρ2, L2, h1.of_fr hf (fun b hb => (hn b hb).1), h2.of_fr hf (fun b hb => (hn b hb).2), h3, h4, fun b hb => ?_⟩, Below.trans h6 (hf.below h6.size (fun b hb => (hS b hb).2)), h7.fr hf (fun b hb => Nat.le_trans hG (hS b hb).2)⟩
  rcases hb with hb | ⟨hb1, hb2⟩
  · have := h5 b hb
    exact ⟨Nat.lt_of_lt_of_le this.1 hf.size, this.2⟩
  · exact ⟨hb2, fun ho => by have := (h1.dom _ ho).2; omega, fun ho => by have := (h2.dom _ ho).2; omega⟩
theorem TwoAt.grow (h : TwoAt F G w0 D1 r1 D2 r2 w) (hG : G ≤ w0.heap.size) (hb : Below w.heap.size w w') : TwoAt (fun b => F b ∨ (w.heap.size ≤ b ∧ b < w'.heap.size)) G w0 D1 r1 D2 r2 w' :=
  h.fr hG (Fr.of_below (S := fun _ => False) hb) (fun _ f => f.elim)
/-- Behind a call on D1 that hands out what was said: the list is the caller's, in blocks of its own. -/
theorem TwoAt.told {r' : Raw} {e : Ending} {ρ1 ρ2 : Nat → Role} {L1 L2 : Lay} (h1 : RRep w ρ1 G D1 L1 r1) (h2 : RRep w ρ2 G D2 L2 r2) (h3 : ∀ b, Of ρ1 b → w0.heap.size ≤ b ∧ ¬ Of ρ2 b) (h4 : ∀ b, Of ρ2 b → w0.heap.size ≤ b) (h5 : ∀ b, F b → b < w.heap.size ∧ ¬ Of ρ1 b ∧ ¬ Of ρ2 b) (h6 : Below w0.heap.size w0 w) (h7 : Env G w) (hG : G ≤ w0.heap.size) (hp : OutPost w ρ1 G D1 r' e w') :
    ∃ v E, e = .returned v ∧ TwoAt (fun b => F b ∨ E b) G w0 D1 (rTold r') D2 r2 w' ∧ SlAt w' 59 2 E v r'.out.length (outCells r'.out) ∧ (∀ b, E b → ¬ F b ∧ w0.heap.size ≤ b) ∧ ∀ b, F b → w'.heap[b]? = w.heap[b]? := by
  obtain ⟨v, ρ', L', rfl, k1, k2, k3⟩ := hp
  have hof : ∀ b, Of ρ' b → w0.heap.size ≤ b ∧ ¬ Of ρ2 b := fun b hb => by
    rcases k2.own b hb with h8 | h8
    · exact h3 b h8
    · exact ⟨by have := h6.size; omega, fun ho => by have := (h2.dom _ ho).2; omega⟩
  have hE : ∃ E : Nat → Prop, SlAt w' 59 2 E v r'.out.length (outCells r'.out) ∧ ∀ b, E b → b < w'.heap.size ∧ (Of ρ1 b ∨ w.heap.size ≤ b) ∧ ¬ Of ρ' b := by
    rcases k3 with k3 | ⟨b, off, cap, cs, q1, q2, q3, q4⟩
    · exact ⟨fun _ => False, .inl k3, fun b hb => hb.elim⟩
    · exact ⟨fun x => x = b, .inr ⟨b, off, cap, cs, q1, rfl, q3, q4⟩, fun x hx => by subst hx; exact ⟨blk_lt _ q3, q2⟩⟩
  obtain ⟨E, e1, e2⟩ := hE
  have hkeep : ∀ b, F b → w'.heap[b]? = w.heap[b]? := fun b hb => k2.fr.block b (h5 b hb).1 (h5 b hb).2.1
  refine ⟨v, E, rfl, ⟨⟨ρ', L', ρ2, L2, k1, h2.of_fr k2.fr (fun b hb => (h3 b hb).2), hof, h4, fun b hb => ?_⟩, Below.trans h6 (k2.fr.below h6.size (fun b hb => (h3 b hb).1)), h7.fr k2.fr (fun b hb => Nat.le_trans hG (h3 b hb).1)⟩, e1, fun b hb => ⟨fun hf => ?_, ?_⟩, hkeep⟩
  · rcases hb with hb | hb
    · obtain ⟨f1, f2, f3⟩ := h5 b hb
      exact ⟨Nat.lt_of_lt_of_le f1 k2.fr.size, fun ho => (k2.own b ho).elim f2 (fun h8 => by omega), f3⟩
    · obtain ⟨f1, f2, f3⟩ := e2 b hb
      refine ⟨f1, f3, ?_⟩
      rcases f2 with f2 | f2
      · exact (h3 b f2).2
      · exact fun ho => by have := (h2.dom _ ho).2; omega
  · obtain ⟨f1, f2, _⟩ := e2 b hb
    have := h5 b hf
    rcases f2 with f2 | f2
    · exact this.2.1 f2
    · omega
  · obtain ⟨_, f2, _⟩ := e2 b hb
    rcases f2 with f2 | f2
    · exact (h3 b f2).1
    · have := h6.size; omega
/-- What a call on D1 leaves that hands out x. -/
def GivePost (F : Nat → Prop) (G : Nat) (w0 : World) (D1 : Nat) (r1' : Raw) (D2 : Nat) (r2 : Raw) (w : World) (x : List (Int × Bytes)) (e : Ending) (w' : World) : Prop :=
  ∃ va vc E, e = .returned (.slice va x.length vc) ∧ TwoAt (fun b => F b ∨ E b) G w0 D1 r1' D2 r2 w' ∧ SlAt w' 59 2 E (.slice va x.length vc) x.length (outCells x) ∧ (∀ b, E b → ¬ F b ∧ w0.heap.size ≤ b) ∧ ∀ b, F b → w'.heap[b]? = w.heap[b]?
theorem feed_two (h : TwoAt F G w0 D1 r1 D2 r2 w) (hG : G ≤ w0.heap.size) {N P : Nat} (hI : Inv N P r1) (hF : Few r1) (c : Int) (b : Bytes) (hN : N + b.length + 200 ≤ NB) (hP : P + 4 * b.length + 200 ≤ NB) :
    Calls Tryz.prog 20 #[vp D1, vi c, vs (bs b)] w (GivePost F G w0 D1 (rTold (rFeed r1 c b)) D2 r2 w (rFeed r1 c b).out) := by
  obtain ⟨⟨ρ1, L1, ρ2, L2, h1, h2, h3, h4, h5⟩, h6, h7⟩ := h
  refine (Feed_calls h1 h7 hI hF c b (by omega) (by omega)).mono ?_
  intro e w' hp
  obtain ⟨v, E, rfl, k, o, n, kk⟩ := TwoAt.told h1 h2 h3 h4 h5 h6 h7 hG hp
  obtain ⟨va, vc, rfl, _, _⟩ := SlAt.form' o
  exact ⟨va, vc, E, rfl, k, o, n, kk⟩
theorem look_two (h : TwoAt F G w0 D1 r1 D2 r2 w) (hG : G ≤ w0.heap.size) {N P : Nat} (hI : Inv N P r1) (hN : N ≤ NB) :
    Calls Tryz.prog 24 #[vp D1] w fun e w' => e = .returned (.agg (lookCells r1)) ∧ TwoAt F G w0 D1 r1 D2 r2 w' ∧ Below w.heap.size w w' := by
  obtain ⟨ρ1, L1, ρ2, L2, h1, h2, h3, h4, h5⟩ := h.rep
  refine (Look_calls h1 hI.q (by have := hI.n.reqs; unfold NB at hN; omega)).mono ?_
  rintro e w' ⟨rfl, hb⟩
  exact ⟨rfl, (h.grow hG hb).mono (fun _ h => .inl h), hb⟩
/-- A message. -/
theorem say_two {V : Nat} (h : TwoAt F G w0 D1 r1 D2 r2 w) (hG : G ≤ w0.heap.size) (hV : F V) (hB : w.heap[V]? = some (.cells #[vp D1] 43 (0, 0))) {N P : Nat} (hI : Inv N P r1) (hF : Few r1) (c : Int) (s : Bytes) (hs : s.length ≤ 1000) (hN : N + 2000 ≤ NB) (hP : P + 6000 ≤ NB) :
    Calls Tryz.prog 22 #[vp V, vi c, vs (bs s)] w (GivePost F G w0 D1 (rTold (rFeed r1 c (lineOf s))) D2 r2 w (rFeed r1 c (lineOf s)).out) := by
  have key := wsay_walk (D := D1) (Wb := V) (w := w) (c := c) (s := s) (y := lineOf s) (z := sealL s) (Kp := fun v w' => GivePost F G w0 D1 (rTold (rFeed r1 c (lineOf s))) D2 r2 w (rFeed r1 c (lineOf s)).out (.returned v) w') (cell_of_blk hB rfl) ?_ (fun w' hb => ?_) (bs_append (sealL s) [10]) (by rw [sealL_len]; omega)
  · refine key.mono ?_
    rintro e w1 ⟨v, rfl, hk⟩
    exact hk
  · refine (Seal_calls (G := 0) (w := w.drew) s (by omega)).mono ?_
    rintro e w1 ⟨rfl, hb⟩
    exact ⟨rfl, ⟨hb.os, hb.tape, hb.output, hb.size, hb.block⟩⟩
  · have h' : TwoAt F G w0 D1 r1 D2 r2 w' := (h.grow hG hb).mono (fun _ h => .inl h)
    have hlt : ∀ b, F b → b < w.heap.size := fun b hf => by
      obtain ⟨ρ1, L1, ρ2, L2, _, _, _, _, h5⟩ := h.rep
      exact (h5 b hf).1
    refine (feed_two h' hG hI hF c (lineOf s) (by rw [lineOf_len]; omega) (by rw [lineOf_len]; omega)).mono ?_
    rintro e w2 ⟨va, vc, E, rfl, k, o, n, kk⟩
    have hkk : ∀ b, F b → w2.heap[b]? = w.heap[b]? := fun b hf => (kk b hf).trans (hb.block b (hlt b hf))
    exact ⟨_, rfl, ⟨va, vc, E, rfl, k, o, n, hkk⟩, cell_of_blk ((hkk V hV).trans hB) rfl⟩
/-- A second dispatcher beside a first one. -/
theorem TwoAt.start {V : Nat} {w1 : World} {V2 : Nat} (h1 : KAt G w0 D1 V r1 w) (h2 : KAt G w D2 V2 r2 w1) : TwoAt (fun b => b = V ∨ b = V2) G w0 D1 r1 D2 r2 w1 ∧ w1.heap[V]? = some (.cells #[vp D1] 43 (0, 0)) ∧ w1.heap[V2]? = some (.cells #[vp D2] 43 (0, 0)) ∧ V ≠ V2 := by
  obtain ⟨⟨ρ1, L1, a1, a2, a3⟩, a4, a5, a6, a7⟩ := h1
  obtain ⟨⟨ρ2, L2, b1, b2, b3⟩, b4, b5, b6, b7⟩ := h2
  have hV := blk_lt _ a4
  have hlt : ∀ b, Of ρ1 b → b < w.heap.size := fun b hb => (a1.dom b hb).2
  refine ⟨⟨⟨ρ1, L1, ρ2, L2, a1.of_fr (Fr.of_below (S := fun _ => False) b6) (fun _ f => f.elim), b1, fun b hb => ⟨a2 b hb, fun ho => by have := hlt b hb; have := b2 b ho; omega⟩, fun b hb => Nat.le_trans a6.size (b2 b hb), fun b hb => ?_⟩, Below.trans a6 (b6.mono a6.size), b7⟩, (b6.block V hV).trans a4, b4, by omega⟩
  rcases hb with rfl | rfl
  · exact ⟨Nat.lt_of_lt_of_le hV b6.size, a3, fun ho => by have := b2 b ho; omega⟩
  · exact ⟨blk_lt _ b4, fun ho => by have := hlt b ho; omega, b3⟩
end
end Go.Proofs.YtaejfobbogahmaaGreatDoor
