/-
  The walks of lines and configs, the tables of Refuses.
-/
import Derived.Test.YtaejfobbogahmaaGreatDoorMkKeep
import Derived.Test.YtaejfobbogahmaaGreatDoorMkFig
import Derived.Test.YtaejfobbogahmaaGreatDoorMkEval
import Derived.Test.YtaejfobbogahmaaGreatDoorMkBase
import Derived.Deep.Cut
set_option linter.unusedVariables false
set_option linter.unusedSimpArgs false
namespace Go.Proofs.YtaejfobbogahmaaGreatDoor
open Go Go.RowKit

def lineCells : Array Value := (refLines.flatMap fun x => [vs (bs x.s), .bool x.plain, vs (bs x.said)]).toArray
def longS (k : Nat) : Bytes := [115, 117, 98, 32, 49, 32, 97, 32] ++ List.replicate k 120

set_option maxRecDepth 100000 in
set_option maxHeartbeats 4000000 in
theorem lines_calls (w : World) : Calls Tryz.prog 14 #[] w fun e w' => e = .returned (.slice (some ⟨w.heap.size, 0, none⟩) 70 70) ∧ w' = w.alloc (.cells lineCells 39) := by
  go_enter Tryz.func14, Tryz.ntmps14
  go_wp2_with fail
  go_loop [1] (fun s1 => ∃ k : Nat, s1 = vs (bs (longS k)) ∧ k ≤ 64) (fun s1 => 64 - (match s1 with | .string s => s.size - 8 | _ => 0))
  case atStart => exact ⟨0, rfl, by omega⟩
  case round =>
    obtain ⟨k, rfl, hk⟩ := hrel
    have hsz : (bs (longS k)).size = k + 8 := by rw [bs_size]; unfold longS; simp
    have hadd : bs (longS k) ++ (⟨#[120]⟩ : ByteArray) = bs (longS (k + 1)) := by
      rw [show (⟨#[120]⟩ : ByteArray) = bs [120] from rfl, bs_append]
      congr 1
      unfold longS
      rw [List.append_assoc, ← List.replicate_succ']
    by_cases hk2 : k < 64
    · have hlt : decide (((k + 8 : Nat) : Int) < 72) = true := decide_eq_true (by omega)
      have hlt2 : decide ((k : Int) + 8 < 72) = true := decide_eq_true (by omega)
      have hl2 : ¬ 9223372036854775807 < k + 8 + 1 := by omega
      go_wp2_with fail
      go_round
      case rel => exact ⟨k + 1, rfl, by omega⟩
      case measure =>
        have : (bs (longS (k + 1))).size = k + 1 + 8 := by rw [bs_size]; unfold longS; simp
        simp [hsz, this]; omega
    · obtain rfl : k = 64 := by omega
      have hlt : decide (((64 + 8 : Nat) : Int) < 72) = false := by decide
      go_upto_region 4 with fail
      refine wp_region_run (t := 0) (v := .slice (some ⟨w.heap.size, 0, none⟩) 70 70) (w' := w.alloc (.cells lineCells 39)) (by kernel_rfl) (fun a' h1 h2 => ?_)
      simp only [Exit.then]
      go_at_K
      go_wp2_with fail
      refine bodyPost_ret (v := .slice (some ⟨w.heap.size, 0, none⟩) 70 70) ((results_tmp (fn := Tryz.f14) (t := 0) (by kernel_rfl) a'.tmps _ _).trans ?_) h2 ⟨rfl, rfl⟩
      rw [Array.getD_eq_getD_getElem?, h1]; rfl

/-! ### configs -/
def cfgRows : Array Value := (refCfgs.flatMap fun c => [vi c.lease, vi c.retries, vi c.cap, vi c.bound, vi c.hedge]).toArray
def okRows : Array Value := ((List.range 13).map fun k => Value.bool (decide (k < 2))).toArray
theorem mk13 (w : World) : (Instr.makeSlice 25 (.int .i64 13) (.int .i64 13)).run Tryz.prog w = .ok (.slice (some ⟨w.heap.size, 0, none⟩) 13 13) (w.alloc (.cells #[.bool false, .bool false, .bool false, .bool false, .bool false, .bool false, .bool false, .bool false, .bool false, .bool false, .bool false, .bool false, .bool false] 4)) := by kernel_rfl

set_option maxRecDepth 100000 in
set_option maxHeartbeats 1000000 in
theorem configs_calls (w : World) : Calls Tryz.prog 15 #[] w fun e w' => e = .returned (.tuple #[.slice (some ⟨w.heap.size, 0, none⟩) 13 13, .slice (some ⟨w.heap.size + 1, 0, none⟩) 13 13]) ∧ w' = (w.alloc (.cells cfgRows 34)).alloc (.cells okRows 4) := by
  have hmk := mk13
  go_enter Tryz.func15, Tryz.ntmps15
  go_wp2_with fail
  go_ret2
  exact ⟨rfl, by kernel_rfl⟩
end Go.Proofs.YtaejfobbogahmaaGreatDoor
