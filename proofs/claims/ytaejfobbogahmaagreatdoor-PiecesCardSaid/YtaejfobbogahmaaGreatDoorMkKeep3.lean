/-
  One step of a script: a tick, a look.
-/
import Derived.Test.YtaejfobbogahmaaGreatDoorMkKeep
import Derived.Test.YtaejfobbogahmaaGreatDoorMkTick
import Derived.Test.YtaejfobbogahmaaGreatDoorMkLook
set_option linter.unusedVariables false
set_option linter.unusedSimpArgs false
namespace Go.Proofs.YtaejfobbogahmaaGreatDoor
open Go Go.RowKit

theorem tick_at {G D Wb : Nat} {w0 w : World} (hG : G ≤ w0.heap.size) {cfg : Cfg} {l : Script} (hc : cfgOk cfg = true) (hl : Short l) (hok : okRun cfg l = true) {n : Nat} (hn : n ≤ 100000) {x : List (Int × Bytes)} (he : l[n]? = some (.tick, x)) (h : KAt G w0 D Wb (stAt cfg l n) w) :
    Calls Tryz.prog 27 #[vp D] w fun e w' => ∃ v, e = .returned v ∧ KAt G w0 D Wb (stAt cfg l (n + 1)) w' ∧ OutsAt w' v x := by
  obtain ⟨hI, hF, ho⟩ := st_inv hc hl n
  obtain ⟨ρ, L, h1, h2, h3⟩ := h.rep
  refine (Tick_calls h1 h.env hI (by unfold NB; omega) (by unfold NB; omega)).mono ?_
  intro e w' hp
  have hx : (rTick (stAt cfg l n)).out = seals x := ok_at hok he
  rw [st_next he]
  exact h.told hG h1 h2 h3 hp hx
theorem look_at {G D Wb : Nat} {w0 w : World} {cfg : Cfg} {l : Script} (hc : cfgOk cfg = true) (hl : Short l) {n : Nat} (hn : n ≤ 100000) (h : KAt G w0 D Wb (stAt cfg l n) w) :
    Calls Tryz.prog 24 #[vp D] w fun e w' => e = .returned (.agg (lookCells (stAt cfg l n))) ∧ KAt G w0 D Wb (stAt cfg l n) w' := by
  obtain ⟨hI, hF, ho⟩ := st_inv hc hl n
  obtain ⟨ρ, L, h1, h2, h3⟩ := h.rep
  refine (Look_calls h1 hI.q (Nat.le_trans hI.n.reqs (by omega))).mono ?_
  rintro e w' ⟨rfl, hb⟩
  exact ⟨rfl, h.grow hb⟩
end Go.Proofs.YtaejfobbogahmaaGreatDoor
