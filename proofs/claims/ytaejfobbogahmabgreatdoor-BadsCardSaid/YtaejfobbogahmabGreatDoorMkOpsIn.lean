/-
  Scripts that come in as arguments: opened to plain words.
-/
import Derived.Test.YtaejfobbogahmabGreatDoorMkOps
import Derived.Deep.Slices
import Derived.Deep.Fields
import Derived.ChangeSame
import Derived.SizedLaws
set_option linter.unusedVariables false
set_option linter.unusedSimpArgs false
namespace Go.Proofs.YtaejfobbogahmabGreatDoor
open Go Go.RowKit Go.ChangeShapes Go.WideShapes Go.Deep

/-- A step as a datum. -/
def opData {H : Type} (o : OpD) : DataW H := .agg [.lit (.int .i64 o.kind), .lit (.int .i64 o.a), .lit (.int .i64 o.b), .agg [.lit (.int .i64 o.c.lease), .lit (.int .i64 o.c.retries), .lit (.int .i64 o.c.cap), .lit (.int .i64 o.c.bound), .lit (.int .i64 o.c.hedge)], .lit (.string o.s)]
def wfI (n : Int) : Prop := -9223372036854775808 ≤ n ∧ n ≤ 9223372036854775807
/-- The numbers of a step are those of an int. -/
def wfOp (o : OpD) : Prop := wfI o.kind ∧ wfI o.a ∧ wfI o.b ∧ wfI o.c.lease ∧ wfI o.c.retries ∧ wfI o.c.cap ∧ wfI o.c.bound ∧ wfI o.c.hedge
theorem wfI_of {n : Int} (h : (Lit.int .i64 n).wf = true) : wfI n := by
  simp only [Lit.wf, Bool.and_eq_true, decide_eq_true_eq] at h
  exact h

section
variable {H : Type} {enc : TypeId × Value → H} {w : World} {base : Nat} {spare : Nat → Bool} {held : Bool}
theorem ops_struct5 {t : TypeId} {f0 f1 f2 f3 f4 : Field} {fuel : Nat} {cs : List Value} {x : DataW H × List MemPlace} (ht : Tryz.prog.underlying t = some (.struct #[f0, f1, f2, f3, f4])) (h : DataW.trod enc Tryz.prog w base spare held fuel t cs = some x) :
    ∃ (y0 y1 y2 y3 y4 : DataW H × List MemPlace) (n : Nat), x.1 = .agg [y0.1, y1.1, y2.1, y3.1, y4.1] ∧ cs.length = Tryz.prog.cellsOf t ∧
      DataW.trod enc Tryz.prog w base spare held n f0.type ((cs.drop f0.offset).take (Tryz.prog.cellsOf f0.type)) = some y0 ∧
      DataW.trod enc Tryz.prog w base spare held n f1.type ((cs.drop f1.offset).take (Tryz.prog.cellsOf f1.type)) = some y1 ∧
      DataW.trod enc Tryz.prog w base spare held n f2.type ((cs.drop f2.offset).take (Tryz.prog.cellsOf f2.type)) = some y2 ∧
      DataW.trod enc Tryz.prog w base spare held n f3.type ((cs.drop f3.offset).take (Tryz.prog.cellsOf f3.type)) = some y3 ∧
      DataW.trod enc Tryz.prog w base spare held n f4.type ((cs.drop f4.offset).take (Tryz.prog.cellsOf f4.type)) = some y4 := by
  obtain ⟨xs, n, _, rfl, hl, hlen, hf⟩ := DataW.trod_struct ht h
  match xs, hlen with
  | [y0, y1, y2, y3, y4], _ => exact ⟨y0, y1, y2, y3, y4, n, by simp, hl, by simpa using hf 0 f0 rfl, by simpa using hf 1 f1 rfl, by simpa using hf 2 f2 rfl, by simpa using hf 3 f3 rfl, by simpa using hf 4 f4 rfl⟩
theorem open_cfg {fuel : Nat} {v0 v1 v2 v3 v4 : Value} {y : DataW H × List MemPlace} (h : DataW.trod enc Tryz.prog w base spare held fuel 26 [v0, v1, v2, v3, v4] = some y) :
    ∃ c : Cfg, v0 = vi c.lease ∧ v1 = vi c.retries ∧ v2 = vi c.cap ∧ v3 = vi c.bound ∧ v4 = vi c.hedge ∧ y.1 = .agg [.lit (.int .i64 c.lease), .lit (.int .i64 c.retries), .lit (.int .i64 c.cap), .lit (.int .i64 c.bound), .lit (.int .i64 c.hedge)] ∧
      wfI c.lease ∧ wfI c.retries ∧ wfI c.cap ∧ wfI c.bound ∧ wfI c.hedge := by
  obtain ⟨x0, x1, x2, x3, x4, n, hx, _, g0, g1, g2, g3, g4⟩ := ops_struct5 Tryz.underlying26 h
  have hk : Tryz.prog.cellsOf 3 = 1 := by kernel_rfl
  simp only [hk, List.drop_zero, List.drop_succ_cons, List.take_succ_cons, List.take_zero] at g0 g1 g2 g3 g4
  obtain ⟨z0, e0, f0, u0⟩ := DataW.trod_int Tryz.underlying3 g0
  obtain ⟨z1, e1, f1, u1⟩ := DataW.trod_int Tryz.underlying3 g1
  obtain ⟨z2, e2, f2, u2⟩ := DataW.trod_int Tryz.underlying3 g2
  obtain ⟨z3, e3, f3, u3⟩ := DataW.trod_int Tryz.underlying3 g3
  obtain ⟨z4, e4, f4, u4⟩ := DataW.trod_int Tryz.underlying3 g4
  simp only [List.cons.injEq, and_true] at e0 e1 e2 e3 e4
  exact ⟨⟨z0, z1, z2, z3, z4⟩, e0, e1, e2, e3, e4, by rw [hx, f0, f1, f2, f3, f4], wfI_of u0, wfI_of u1, wfI_of u2, wfI_of u3, wfI_of u4⟩
set_option maxRecDepth 100000 in
theorem open_op {fuel : Nat} {cs : List Value} {y : DataW H × List MemPlace} (h : DataW.trod enc Tryz.prog w base spare held fuel 28 cs = some y) :
    ∃ o : OpD, cs = (opCells o).toList ∧ y.1 = opData o ∧ wfOp o := by
  obtain ⟨x0, x1, x2, x3, x4, n, hx, hl, g0, g1, g2, g3, g4⟩ := ops_struct5 Tryz.underlying28 h
  have hk : Tryz.prog.cellsOf 3 = 1 := by kernel_rfl
  have hks : Tryz.prog.cellsOf 9 = 1 := by kernel_rfl
  have hkc : Tryz.prog.cellsOf 26 = 5 := by kernel_rfl
  have hko : Tryz.prog.cellsOf 28 = 9 := by kernel_rfl
  rw [hko] at hl
  match cs, hl with
  | [v0, v1, v2, v3, v4, v5, v6, v7, v8], _ =>
    simp only [hk, hks, hkc, List.drop_zero, List.drop_succ_cons, List.take_succ_cons, List.take_zero] at g0 g1 g2 g3 g4
    obtain ⟨z0, e0, f0, u0⟩ := DataW.trod_int Tryz.underlying3 g0
    obtain ⟨z1, e1, f1, u1⟩ := DataW.trod_int Tryz.underlying3 g1
    obtain ⟨z2, e2, f2, u2⟩ := DataW.trod_int Tryz.underlying3 g2
    obtain ⟨c, k0, k1, k2, k3, k4, f3, u3, u4, u5, u6, u7⟩ := open_cfg g3
    obtain ⟨s, e4, f4, _⟩ := DataW.trod_string Tryz.underlying9 g4
    simp only [List.cons.injEq, and_true] at e0 e1 e2 e4
    refine ⟨⟨z0, z1, z2, c, s.data.toList⟩, ?_, ?_, wfI_of u0, wfI_of u1, wfI_of u2, u3, u4, u5, u6, u7⟩
    · rw [e0, e1, e2, k0, k1, k2, k3, k4, e4]
      show _ = [vi z0, vi z1, vi z2, vi c.lease, vi c.retries, vi c.cap, vi c.bound, vi c.hedge, vs (bs s.data.toList)]
      rw [show bs s.data.toList = s by cases s; simp [bs]]
    · rw [hx, f0, f1, f2, f3, f4]
      rfl
end

instance : Inhabited OpD := ⟨⟨0, 0, 0, ⟨0, 0, 0, 0, 0⟩, []⟩⟩
/-- A script that came in, nil or not. -/
theorem open_ops {H : Type} {enc : TypeId × Value → H} {W : World} {a0 : Option Addr} {len cap fuel : Nat} {x : DataW H × List MemPlace}
    (hf : DataW.trod enc Tryz.prog W 0 (fun _ => true) true fuel 22 [.slice a0 len cap] = some x) :
    ∃ ops : List OpD, OpsIn W a0 ops ∧ ops.length = len ∧ (∀ o ∈ ops, wfOp o) ∧ (ops = [] ∨ ∃ spare, x.1 = .slice (ops.map opData) spare) := by
  have hko : Tryz.prog.cellsOf 28 = 9 := by kernel_rfl
  rcases open_slice Tryz.underlying22 hf with ⟨hcs, hx⟩ | ⟨a, len', cap', m, n, D, Pl, hcs, _, hl, hm, hmm, hx, hi⟩
  · simp at hcs
    obtain ⟨rfl, rfl, rfl⟩ := hcs
    refine ⟨[], fun j t h => by simp at h, rfl, fun o ho => ?_, Or.inl rfl⟩
    cases ho
  · simp at hcs
    obtain ⟨rfl, rfl, rfl⟩ := hcs
    simp only [if_true] at hmm
    subst hmm
    rw [hko] at hi
    obtain ⟨O, hO⟩ := choose_lt (α := OpD) (n := len) (p := fun i o => W.cells? 0 (a.add (i * 9)) 9 = some (opCells o).toList ∧ D i = opData o ∧ wfOp o) (fun i hil => by
      obtain ⟨cs', h1, h2⟩ := hi i (by omega)
      obtain ⟨o, rfl, h4, h5⟩ := open_op h2
      exact ⟨o, h1, h4, h5⟩)
    refine ⟨(List.range len).map O, fun j o hj => ?_, by simp, fun o ho => ?_, Or.inr ?_⟩
    · rw [List.getElem?_map, Option.map_eq_some_iff] at hj
      obtain ⟨i, hi', rfl⟩ := hj
      have hjl : j < len := by
        have := (List.getElem?_eq_some_iff.1 hi').1
        simpa using this
      have hij : i = j := by
        have h1 := (List.getElem?_eq_some_iff.1 hi').2
        simpa using h1.symm
      subst hij
      have hil := hjl
      obtain ⟨_, _, hat⟩ := World.cells?_some (hO i hil).1
      obtain ⟨b, off, spot⟩ := a
      obtain ⟨_, _, hat0⟩ := World.cells?_some (hO 0 (by omega)).1
      have h0 := hat0 0 (by omega)
      have hspot : spot = none := by simpa [Addr.add] using World.cell?_spot h0
      subst hspot
      refine ⟨b, off, rfl, fun k v hk => ?_⟩
      have hk9 : k < 9 := (Array.getElem?_eq_some_iff.1 hk).1
      have h1 := hat k hk9
      rw [WideShapes.add_plain, WideShapes.add_plain] at h1
      rw [h1, Array.getElem?_toList]
      exact hk
    · simp only [List.mem_map, List.mem_range] at ho
      obtain ⟨i, hi', rfl⟩ := ho
      exact (hO i hi').2.2
    · rw [hx, List.map_map]
      refine ⟨_, congrArg (fun l => DataW.slice l _) ?_⟩
      exact List.map_congr_left fun i hi' => (hO i (by simpa using hi')).2.1
end Go.Proofs.YtaejfobbogahmabGreatDoor
