/-
  Scripts, with blocks that stay the caller's: a dispatcher behind a part of a script; what is kept.
-/
import Derived.Test.YtaejfobbogahmaaGreatDoorMkStep
import Derived.Test.YtaejfobbogahmaaGreatDoorMkRef2
set_option linter.unusedVariables false
set_option linter.unusedSimpArgs false
namespace Go.Proofs.YtaejfobbogahmaaGreatDoor
open Go Go.RowKit

/-- As RAt; besides the blocks of K are not the dispatcher's. -/
structure RAtK (K : Nat → Prop) (G : Nat) (w0 : World) (D Wb : Nat) (cfg : Cfg) (l rest : Script) (w : World) : Prop where
  rep : ∃ ρ L, RRep w ρ G D L (stRest cfg l rest) ∧ (∀ b, Of ρ b → w0.heap.size ≤ b) ∧ ¬ Of ρ Wb ∧ ∀ b, K b → b < w.heap.size ∧ ¬ Of ρ b
  box : w.heap[Wb]? = some (.cells #[vp D] 43 (0, 0))
  new : w0.heap.size ≤ Wb
  below : Below w0.heap.size w0 w
  env : Env G w
  left : l.drop (l.length - rest.length) = rest
section
variable {K : Nat → Prop} {G D Wb : Nat} {w0 w w' : World} {cfg : Cfg} {l rest : Script}
theorem RAt.toK (h : RAt G w0 D Wb cfg l rest w) : RAtK (fun _ => False) G w0 D Wb cfg l rest w := by
  obtain ⟨⟨⟨ρ, L, h1, h2, h3⟩, h4, h5, h6, h7⟩, h8⟩ := h
  exact ⟨⟨ρ, L, h1, h2, h3, fun b hb => hb.elim⟩, h4, h5, h6, h7, h8⟩
theorem RAtK.toR (h : RAtK K G w0 D Wb cfg l rest w) : RAt G w0 D Wb cfg l rest w := by
  obtain ⟨⟨ρ, L, h1, h2, h3, _⟩, h4, h5, h6, h7, h8⟩ := h
  exact ⟨⟨⟨ρ, L, h1, h2, h3⟩, h4, h5, h6, h7⟩, h8⟩
theorem RAtK.mono {K' : Nat → Prop} (h : RAtK K G w0 D Wb cfg l rest w) (hk : ∀ b, K' b → K b) : RAtK K' G w0 D Wb cfg l rest w := by
  obtain ⟨⟨ρ, L, h1, h2, h3, h9⟩, h4, h5, h6, h7, h8⟩ := h
  exact ⟨⟨ρ, L, h1, h2, h3, fun b hb => h9 b (hk b hb)⟩, h4, h5, h6, h7, h8⟩
theorem RAtK.cast {rest2 : Script} (h : RAtK K G w0 D Wb cfg l rest w) (e : rest = rest2) : RAtK K G w0 D Wb cfg l rest2 w := e ▸ h
/-- New blocks are the caller's. -/
theorem RAtK.add (h : RAtK K G w0 D Wb cfg l rest w) (hb : Below w.heap.size w w') : RAtK (fun b => K b ∨ (w.heap.size ≤ b ∧ b < w'.heap.size)) G w0 D Wb cfg l rest w' := by
  obtain ⟨⟨ρ, L, h1, h2, h3, h9⟩, h4, h5, h6, h7, h8⟩ := h
  refine ⟨⟨ρ, L, h1.of_fr (Fr.of_below (S := fun _ => False) hb) (fun _ f => f.elim), h2, h3, fun b hk => ?_⟩, (hb.block _ (blk_lt _ h4)).trans h4, h5, Below.trans h6 (hb.mono h6.size), h7.grow hb, h8⟩
  rcases hk with hk | ⟨hk, hk2⟩
  · have := h9 b hk
    exact ⟨Nat.lt_of_lt_of_le this.1 hb.size, this.2⟩
  · exact ⟨hk2, fun ho => by have := (h1.dom _ ho).2; omega⟩
theorem RAtK.grow (h : RAtK K G w0 D Wb cfg l rest w) (hb : Below w.heap.size w w') : RAtK K G w0 D Wb cfg l rest w' := (h.add hb).mono (fun _ h => .inl h)
theorem RAtK.cell (h : RAtK K G w0 D Wb cfg l rest w) : w.cell? ⟨Wb, 0, none⟩ = some (vp D) := cell_of_blk h.box rfl
theorem RAtK.told {r' : Raw} {e : Ending} {e1 : E1} (h : RAtK K G w0 D Wb cfg l (e1 :: rest) w) (hG : G ≤ w0.heap.size) {ρ : Nat → Role} {L : Lay} (h1 : RRep w ρ G D L (stRest cfg l (e1 :: rest))) (h2 : ∀ b, Of ρ b → w0.heap.size ≤ b) (h3 : ¬ Of ρ Wb) (h9 : ∀ b, K b → b < w.heap.size ∧ ¬ Of ρ b)
    (hr : stRest cfg l rest = rTold r') (hp : OutPost w ρ G D r' e w') {x : List (Int × Bytes)} (hx : r'.out = seals x) : ∃ v, e = .returned v ∧ RAtK K G w0 D Wb cfg l rest w' ∧ OutsAt w' v x ∧ ∀ b, K b → w'.heap[b]? = w.heap[b]? := by
  have hk : KAt G w0 D Wb (stRest cfg l (e1 :: rest)) w := ⟨⟨ρ, L, h1, h2, h3⟩, h.box, h.new, h.below, h.env⟩
  have hk2 := hk.told hG h1 h2 h3 hp hx
  obtain ⟨v, hv, k, o⟩ := hk2
  obtain ⟨v', ρ', L', hv', g1, g2, _⟩ := hp
  have hof : ∀ b, Of ρ' b → w0.heap.size ≤ b := fun b hb => by
    rcases g2.own b hb with h8 | h8
    · exact h2 b h8
    · have := h.below.size; omega
  refine ⟨v, hv, ⟨⟨ρ', L', by rw [hr]; exact g1, hof, fun hh => (g2.own Wb hh).elim h3 (fun h8 => by have := blk_lt _ h.box; omega), fun b hb => ?_⟩, k.box, k.new, k.below, k.env, (left_cons h.left).2.2⟩, o, fun b hb => g2.fr.block b (h9 b hb).1 (h9 b hb).2⟩
  obtain ⟨h10, h11⟩ := h9 b hb
  exact ⟨Nat.lt_of_lt_of_le h10 g2.fr.size, fun hh => (g2.own b hh).elim h11 (fun h8 => by omega)⟩
theorem say_k (hG : G ≤ w0.heap.size) (hg : Good cfg l) {c : Int} {s : Bytes} {x : List (Int × Bytes)} {n : Nat} (hn : x.length = n) (h : RAtK K G w0 D Wb cfg l ((.say c s, x) :: rest) w) :
    Calls Tryz.prog 22 #[vp Wb, vi c, vs (bs s)] w fun e w' => ∃ va vc, e = .returned (.slice va n vc) ∧ RAtK K G w0 D Wb cfg l rest w' ∧ OutsAt w' (.slice va n vc) x ∧ ∀ b, K b → w'.heap[b]? = w.heap[b]? := by
  obtain ⟨h1, h2, h3⟩ := left_cons h.left
  have hs := hg.isShort _ (List.mem_of_getElem? h1)
  have hs : s.length + 10 ≤ 100 := hs
  have hl : l.length - (((.say c s, x) : E1) :: rest).length ≤ 100000 := by have := hg.isFew; omega
  have hr : stRest cfg l rest = rTold (rFeed (stRest cfg l ((.say c s, x) :: rest)) c (lineOf s)) := by
    unfold stRest
    rw [← h2, st_next h1]; rfl
  have hx : (rFeed (stRest cfg l ((.say c s, x) :: rest)) c (lineOf s)).out = seals x := ok_at hg.isOk h1
  have key := wsay_walk (D := D) (Wb := Wb) (w := w) (c := c) (s := s) (y := lineOf s) (z := sealL s) (Kp := fun v w' => RAtK K G w0 D Wb cfg l rest w' ∧ OutsAt w' v x ∧ ∀ b, K b → w'.heap[b]? = w.heap[b]?) h.cell ?_ (fun w' hb => ?_) (bs_append (sealL s) [10]) (by rw [sealL_len]; omega)
  · refine key.mono ?_
    rintro e w1 ⟨v, rfl, k, o, kk⟩
    obtain ⟨va, vc, rfl, _, _⟩ := SlAt.form' o
    subst hn
    exact ⟨va, vc, rfl, k, o, kk⟩
  · refine (Seal_calls (G := 0) (w := w.drew) s (by omega)).mono ?_
    rintro e w1 ⟨rfl, hb⟩
    exact ⟨rfl, ⟨hb.os, hb.tape, hb.output, hb.size, hb.block⟩⟩
  · have h' := h.grow hb
    obtain ⟨ρ, L, r1, r2, r3, r4⟩ := h'.rep
    obtain ⟨r4', _⟩ : (∀ b, K b → b < w.heap.size) ∧ True := by
      obtain ⟨ρ0, L0, _, _, _, q4⟩ := h.rep
      exact ⟨fun b hb => (q4 b hb).1, trivial⟩
    obtain ⟨hI, hF, ho⟩ := st_inv hg.isCfg hg.isShort (l.length - (((.say c s, x) : E1) :: rest).length)
    refine (Feed_calls r1 h'.env hI hF c (lineOf s) (by rw [lineOf_len]; unfold NB; omega) (by rw [lineOf_len]; unfold NB; omega)).mono ?_
    intro e w2 hp
    obtain ⟨v, hv, k, o, kk⟩ := h'.told hG r1 r2 r3 r4 hr hp hx
    exact ⟨v, hv, ⟨k, o, fun b hb2 => (kk b hb2).trans (hb.block b (r4' b hb2))⟩, cell_of_blk k.box rfl⟩
theorem tick_k (hG : G ≤ w0.heap.size) (hg : Good cfg l) {x : List (Int × Bytes)} {n : Nat} (hn : x.length = n) (h : RAtK K G w0 D Wb cfg l ((.tick, x) :: rest) w) :
    Calls Tryz.prog 27 #[vp D] w fun e w' => ∃ va vc, e = .returned (.slice va n vc) ∧ RAtK K G w0 D Wb cfg l rest w' ∧ OutsAt w' (.slice va n vc) x ∧ ∀ b, K b → w'.heap[b]? = w.heap[b]? := by
  obtain ⟨h1, h2, h3⟩ := left_cons h.left
  have hl : l.length - (((.tick, x) : E1) :: rest).length ≤ 100000 := by have := hg.isFew; omega
  have hr : stRest cfg l rest = rTold (rTick (stRest cfg l ((.tick, x) :: rest))) := by
    unfold stRest
    rw [← h2, st_next h1]; rfl
  have hx : (rTick (stRest cfg l ((.tick, x) :: rest))).out = seals x := ok_at hg.isOk h1
  obtain ⟨ρ, L, r1, r2, r3, r4⟩ := h.rep
  obtain ⟨hI, hF, ho⟩ := st_inv hg.isCfg hg.isShort (l.length - (((.tick, x) : E1) :: rest).length)
  refine (Tick_calls r1 h.env hI (by unfold NB; omega) (by unfold NB; omega)).mono ?_
  intro e w2 hp
  obtain ⟨v, rfl, k, o, kk⟩ := h.told hG r1 r2 r3 r4 hr hp hx
  obtain ⟨va, vc, rfl, _, _⟩ := SlAt.form' o
  subst hn
  exact ⟨va, vc, rfl, k, o, kk⟩
end
end Go.Proofs.YtaejfobbogahmaaGreatDoor
