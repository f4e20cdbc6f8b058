/-
  The runs of Turns, by the kernel.
-/
import Derived.Test.YtaejfobbogahmaaGreatDoorMkEval
set_option linter.unusedVariables false
set_option linter.unusedSimpArgs false
namespace Go.Proofs.YtaejfobbogahmaaGreatDoor
open Go
set_option maxRecDepth 1000000 in
theorem turns_ok1 : ∀ t < 5, ∀ e < 3, turnsOk (t + 1) (e + 1) = true := by decide +kernel
set_option maxRecDepth 1000000 in
theorem turns_ok2 : ∀ t < 5, ∀ e < 2, turnsOk (t + 1) (e + 4) = true := by decide +kernel
theorem turns_ok (t e : Nat) (ht : t < 5) (he : e < 5) : turnsOk (t + 1) (e + 1) = true := by
  by_cases h : e < 3
  · exact turns_ok1 t ht e h
  · have : e = (e - 3) + 3 := by omega
    rw [this]
    exact turns_ok2 t ht (e - 3) (by omega)
end Go.Proofs.YtaejfobbogahmaaGreatDoor
