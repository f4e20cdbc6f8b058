/-
  The walk of dispatchlaw.Bads: a script without messages.
-/
import Derived.Test.YtaejfobbogahmabGreatDoorMkBadE
set_option linter.unusedVariables false
set_option linter.unusedSimpArgs false
namespace Go.Proofs.YtaejfobbogahmabGreatDoor
open Go Go.RowKit

namespace bads
set_option maxRecDepth 100000 in
set_option maxHeartbeats 4000000 in
theorem Bads_calls {G : Nat} {w : World} (hE : Env G w) (hG : G ≤ w.heap.size) {a : Option Addr} {cap : Nat} (ops : List OpD) (h : OpsIn w a ops) (hn : ops.length ≤ 140737488351232) (hs : ∀ o ∈ ops, o.s.length ≤ 140737488351232) (hw : ∀ o ∈ ops, wfOp o) :
    Calls Tryz.prog 4 #[.slice a ops.length cap] w fun e w' => e = .returned (.bool true) ∧ Below w.heap.size w w' := by
  have HSM := Lib.hid (small_calls (cap := cap) ops h hn hs)
  have HUP := Lib.hid (fun (W : World) (hb : Below w.heap.size w W) (hsm : smallOps ops = true) => UpTo_bads (cap := cap) (hE.grow hb) (Nat.le_trans hG hb.size) ops (h.below hb) (small_sum hsm) hw)
  obtain ⟨b, hb⟩ : ∃ b, smallOps ops = b := ⟨_, rfl⟩
  rw [hb] at HSM HUP
  clear h hn hs hw hE hG
  cases b with
  | false =>
    go_enter Tryz.func4, Tryz.ntmps4
    go_wp2_with fail
    refine HSM.out.mono ?_
    rintro e w1 ⟨rfl, hb1⟩
    have HB := Lib.hid hb1
    clear hb1
    go_wp2_with fail
    go_ret
    exact ⟨rfl, HB.out⟩
  | true =>
    go_enter Tryz.func4, Tryz.ntmps4
    go_wp2_with fail
    refine HSM.out.mono ?_
    rintro e w1 ⟨rfl, hb1⟩
    have HB := Lib.hid hb1
    clear hb1
    go_wp2_with fail
    refine (HUP.out _ HB.out (by first | trivial | rfl)).mono ?_
    rintro e w2 ⟨rfl, hb2⟩
    have HB2 := Lib.hid (HB.out.trans (hb2.mono HB.out.size))
    clear hb2
    go_wp2_with fail
    go_ret
    exact ⟨rfl, HB2.out⟩
end bads
end Go.Proofs.YtaejfobbogahmabGreatDoor
