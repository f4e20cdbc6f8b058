/-
  Scripts: lists of steps that came in; the walk of dispatchlaw.small.
-/
import Derived.Test.YtaejfobbogahmabGreatDoorMkRep
set_option linter.unusedVariables false
set_option linter.unusedSimpArgs false
namespace Go.Proofs.YtaejfobbogahmabGreatDoor
open Go Go.RowKit

/-- One step, in plain words. -/
structure OpD where
  kind : Int
  a : Int
  b : Int
  c : Cfg
  s : Bytes
def opCells (o : OpD) : Array Value := #[vi o.kind, vi o.a, vi o.b, vi o.c.lease, vi o.c.retries, vi o.c.cap, vi o.c.bound, vi o.c.hedge, vs (bs o.s)]
/-- A list of steps that came in. -/
def OpsIn (w : World) (a : Option Addr) (ops : List OpD) : Prop := ∀ j o, ops[j]? = some o → ∃ b off, a = some ⟨b, off, none⟩ ∧ ∀ k v, (opCells o)[k]? = some v → w.cell? ⟨b, off + j * 9 + k, none⟩ = some v
theorem ops_lt {w : World} {a : Addr} {v : Value} (h : w.cell? a = some v) : a.block < w.heap.size := by
  rcases Nat.lt_or_ge a.block w.heap.size with h1 | h1
  · exact h1
  · rw [World.cell?, Array.getElem?_eq_none h1] at h; simp at h
theorem OpsIn.below {w w' : World} {a : Option Addr} {ops : List OpD} (h : OpsIn w a ops) (hb : Below w.heap.size w w') : OpsIn w' a ops := fun j o hj => by
  obtain ⟨b, off, he, hc⟩ := h j o hj
  refine ⟨b, off, he, fun k v hk => ?_⟩
  have h1 := hc k v hk
  rw [hb.cell (ops_lt h1)]
  exact h1
theorem OpsIn.cells {w : World} {a : Option Addr} {ops : List OpD} (h : OpsIn w a ops) {k : Nat} {o : OpD} (hk : ops[k]? = some o) : ∃ b off, a = some ⟨b, off, none⟩ ∧
    w.cell? ⟨b, off + k * 9, none⟩ = some (vi o.kind) ∧ w.cell? ⟨b, off + k * 9 + 1, none⟩ = some (vi o.a) ∧ w.cell? ⟨b, off + k * 9 + 2, none⟩ = some (vi o.b) ∧ w.cell? ⟨b, off + k * 9 + 3, none⟩ = some (vi o.c.lease) ∧ w.cell? ⟨b, off + k * 9 + 4, none⟩ = some (vi o.c.retries) ∧ w.cell? ⟨b, off + k * 9 + 5, none⟩ = some (vi o.c.cap) ∧ w.cell? ⟨b, off + k * 9 + 6, none⟩ = some (vi o.c.bound) ∧ w.cell? ⟨b, off + k * 9 + 7, none⟩ = some (vi o.c.hedge) ∧ w.cell? ⟨b, off + k * 9 + 8, none⟩ = some (vs (bs o.s)) := by
  obtain ⟨b, off, he, hc⟩ := h k o hk
  exact ⟨b, off, he, hc 0 _ rfl, hc 1 _ rfl, hc 2 _ rfl, hc 3 _ rfl, hc 4 _ rfl, hc 5 _ rfl, hc 6 _ rfl, hc 7 _ rfl, hc 8 _ rfl⟩

theorem ops_size (l : Bytes) : (bs l).size = l.length := by simp [bs, ByteArray.size]
/-- The sum of a script: its steps and the bytes of their texts; none: more than is claimed. -/
def sizeOps : Nat → List OpD → Option Nat
  | n, [] => some n
  | n, o :: l => if 1048576 < n + o.s.length then none else sizeOps (n + o.s.length) l
def smallOps (ops : List OpD) : Bool := match sizeOps ops.length ops with
  | none => false
  | some n => decide (n ≤ 1048576)

set_option maxRecDepth 100000 in
set_option maxHeartbeats 2000000 in
theorem small_calls {w : World} {a : Option Addr} {cap : Nat} (ops : List OpD) (h : OpsIn w a ops) (hn : ops.length ≤ 140737488351232) (hs : ∀ o ∈ ops, o.s.length ≤ 140737488351232) :
    Calls Tryz.prog 7 #[.slice a ops.length cap] w fun e w' => e = .returned (.bool (smallOps ops)) ∧ Below w.heap.size w w' := by
  have HO := Lib.hid h
  have HS := Lib.hid hs
  obtain ⟨n, hnn⟩ : ∃ n, ops.length = n := ⟨_, rfl⟩
  rw [hnn] at hn ⊢
  have HN := Lib.hid hnn
  clear h hs hnn
  go_enter Tryz.func7, Tryz.ntmps7
  go_wp2_with fail
  go_loopw [3, 5, 10] (fun s3 _ s10 wr => ∃ k m : Nat, s10 = .int .i64 k ∧ s3 = .int .i64 m ∧ k ≤ n ∧ m ≤ 140737488351232 ∧ Hid (smallOps ops = (match sizeOps m (ops.drop k) with | none => false | some x => decide (x ≤ 1048576)) ∧ Below w.heap.size w wr)) (fun _ _ s10 _ => n - (intOf s10).toNat)
  case atStart => exact ⟨0, n, by go_num, rfl, Nat.zero_le _, hn, (by rw [← HN.out]; rfl), Below.refl _ _⟩
  case round =>
    obtain ⟨k, m, rfl, rfl, hk, hm, HI⟩ := hrel
    by_cases hkl : k < n
    · have hlt : decide ((k : Int) < (n : Int)) = true := decide_eq_true (by omega)
      obtain ⟨o, hko⟩ : ∃ o, ops[k]? = some o := ⟨_, List.getElem?_eq_getElem (by rw [HN.out]; exact hkl)⟩
      obtain ⟨b, off, hae, c0, c1, c2, c3, c4, c5, c6, c7, c8⟩ := (HO.out.below (HI.out.2)).cells hko
      subst hae
      have hk0 : (0 : Int) ≤ (k : Int) := by omega
      have hk1 : (k : Int) < (n : Int) := by omega
      have hsl : o.s.length ≤ 140737488351232 := HS.out o (List.mem_of_getElem? hko)
      have hzs : (bs o.s).size = o.s.length := ops_size o.s
      have hdr : ops.drop k = o :: ops.drop (k + 1) := by
        have hx := List.getElem?_eq_some_iff.1 hko
        rw [List.drop_eq_getElem_cons hx.1, hx.2]
      have HD := Lib.hid hdr
      clear hdr hko
      by_cases hst : 1048576 < m + o.s.length
      · have hst1 : decide ((m : Int) + (o.s.length : Int) > 1048576) = true := decide_eq_true (by omega)
        have HF : Hid (smallOps ops = false) := show _ = _ by rw [HI.out.1, HD.out, sizeOps, if_pos hst]
        have HB := Lib.hid HI.out.2
        clear HI HD hst
        go_wp2_with fail
        go_ret
        exact ⟨by rw [HF.out]; rfl, HB.out.alloc HB.out.size _⟩
      · have hst1 : decide ((m : Int) + (o.s.length : Int) > 1048576) = false := decide_eq_false (by omega)
        have HF : Hid (smallOps ops = (match sizeOps (m + o.s.length) (ops.drop (k + 1)) with | none => false | some x => decide (x ≤ 1048576))) := show _ = _ by rw [HI.out.1, HD.out, sizeOps, if_neg hst]
        have HB := Lib.hid HI.out.2
        clear HI HD
        go_wp2_with fail
        go_roundw
        case rel => exact ⟨k + 1, m + o.s.length, by go_num, by go_num, by omega, by omega, HF.out, HB.out.alloc HB.out.size _⟩
        case measure => simp [intOf]; omega
    · obtain rfl : k = n := by omega
      have hlt : decide ((k : Int) < (k : Int)) = false := by simp
      have HF : Hid (smallOps ops = decide (m ≤ 1048576)) := show _ = _ by
        rw [HI.out.1, show k = ops.length from HN.out.symm, List.drop_length]; rfl
      have HB := Lib.hid HI.out.2
      have hd : decide ((m : Int) ≤ 1048576) = decide (m ≤ 1048576) := by rw [decide_eq_decide]; omega
      clear HI
      go_wp2_with fail
      go_ret
      exact ⟨by rw [HF.out]; rfl, HB.out⟩
end Go.Proofs.YtaejfobbogahmabGreatDoor
