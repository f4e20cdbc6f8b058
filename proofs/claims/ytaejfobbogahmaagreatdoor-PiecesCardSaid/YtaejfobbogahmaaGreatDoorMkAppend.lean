/-
  append of a whole list of Outs, empty or not.
-/
import Derived.Test.YtaejfobbogahmaaGreatDoorMkTwo
set_option linter.unusedVariables false
set_option linter.unusedSimpArgs false
namespace Go.Proofs.YtaejfobbogahmaaGreatDoor
open Go Go.RowKit

theorem src_slat {w : World} {own : Nat → Prop} {ya : Option Addr} {m yc : Nat} {ys : List Value} (h : SlAt w 59 2 own (.slice ya m yc) m ys) (h1 : ∀ u ∈ ys, u.oneCell' = true) : Src Tryz.prog 2 41 (.slice ya m yc) m ys w := by
  rcases h with ⟨hv, h0, hx⟩ | ⟨b, off, cap, cs, hv, h2, h3, h4, h5, h6, h7, h8⟩
  · injection hv with e1 e2 e3
    subst e1; subst e2; subst hx
    exact Src.ofNil w Tryz.underlying41 yc
  · injection hv with e1 e2 e3
    subst e1
    exact Src.ofSlice w Tryz.underlying41 ⟨b, off, none⟩ m yc ys h7 (fun j u hj => by rw [Addr.add_lit]; exact cell_of_blk h3 (h8 j u hj)) h1
set_option maxRecDepth 100000 in
theorem append_nothing {w : World} {own : Nat → Prop} {va : Option Addr} {n vc : Nat} {xs : List Value} (h : SlAt w 59 2 own (.slice va n vc) n xs) {y : Value} (hs : Src Tryz.prog 2 41 y 0 [] w) (ty : TypeId) :
    (Builtin.append_ #[41, 41] ty #[.slice va n vc, y]).run Tryz.prog w = .ok (.slice va n vc) w := by
  obtain ⟨i, e1, e2⟩ := Option.map_eq_some_iff.1 info_out
  have e3 : i.size = 2 := congrArg (fun x => x.2.1) e2
  clear e2
  rcases h with ⟨hv, h0, hx⟩ | ⟨b, off, cap, cs, hv, h2, h3, h4, h5, h6, h7, h8⟩
  · injection hv with f1 f2 f3
    subst f1; subst f2; subst f3
    have hc := hs.cells
    rcases hs.kind with ⟨e', hk⟩ | hk <;> simp [Builtin.append_, run_underlying Tryz.underlying41, sizeOf, typeInfo, e1, e3, hs.len, hc]
  · injection hv with f1 f2 f3
    subst f1; subst f3
    have := run_append_room_src (P := Tryz.prog) w 41 41 ty 59 i Tryz.underlying41 e1 b off n vc y 0 [] (by rw [e3]; exact hs) (by omega) (by simp) (by simp)
    simpa [World.setCells] using this
theorem wp_append_out {w : World} {o : Oper} {a : Act} {K : Act → World → Prop} {Q : Exit → Act → World → Prop} (s x : Operand)
    (hop : o.op = Op.call { callee := Callee.builtin Builtin.append, args := #[s, x], argTypes := #[41, 41] }) {own own2 : Nat → Prop} {va ya : Option Addr} {n vc m yc : Nat} {xs ys : List Value}
    (hs : a.eval s = .slice va n vc) (h : SlAt w 59 2 own (.slice va n vc) n xs) (hx : a.eval x = .slice ya m yc) (hy : SlAt w 59 2 own2 (.slice ya m yc) m ys) (h1 : ∀ u ∈ ys, u.oneCell' = true) (h63 : n + m ≤ maxLen) (hbytes : (n + m) * 24 ≤ 140737488355328)
    (hK : ∀ va' vc' w' E', (∀ b, E' b → own b ∨ b = w.heap.size) → Fr E' w w' → (∀ b, E' b → b < w'.heap.size) → SlAt w' 59 2 E' (.slice va' (n + m) vc') (n + m) (xs ++ ys) → K (a.put o.dst (.slice va' (n + m) vc')) w') : o.wp Tryz.prog a w K Q := by
  have hsrc := src_slat hy h1
  by_cases hm : m = 0
  · subst hm
    have hys : ys = [] := List.eq_nil_of_length_eq_zero (by have := hy.length; simpa using this)
    subst hys
    have hr := append_nothing h hsrc o.type
    unfold Oper.wp
    simp [execOp, hop, resolve, invoke, builtin, hs, hx, hr, Result.andThen]
    have hE : ∃ E' : Nat → Prop, (∀ b, E' b → own b) ∧ (∀ b, E' b → b < w.heap.size) ∧ SlAt w 59 2 E' (.slice va n vc) n xs := by
      rcases h with h | ⟨b, off, cap, cs, q1, q2, q3, q4⟩
      · exact ⟨fun _ => False, fun _ f => f.elim, fun _ f => f.elim, .inl h⟩
      · exact ⟨fun z => z = b, fun z hz => by rw [hz]; exact q2, fun z hz => by rw [hz]; exact blk_lt _ q3, .inr ⟨b, off, cap, cs, q1, rfl, q3, q4⟩⟩
    obtain ⟨E', g1, g2, g3⟩ := hE
    exact hK va vc w E' (fun b hb => .inl (g1 b hb)) (Fr.refl _ _) g2 (by rw [List.append_nil, Nat.add_zero]; exact g3)
  · refine wp_append_at w s x _ _ hop elem_out hs h hx hsrc (by omega) h63 hbytes (fun g off cap w' h1 h2 h3 h4 h5 h6 => ?_)
    exact hK _ _ w' (fun b => b = g) (fun b hb => by rw [show b = g from hb]; exact h1) h3 (fun b hb => by rw [show b = g from hb]; exact h4) h2
theorem step_append_out {w : World} {ops : Array Oper} {o : Oper} {a : Act} {K : Act → World → Prop} {Q : Exit → Act → World → Prop} {EE : Prop} (hg : o.guard = none) (s x : Operand)
    (hop : o.op = Op.call { callee := Callee.builtin Builtin.append, args := #[s, x], argTypes := #[41, 41] }) {own own2 : Nat → Prop} {va ya : Option Addr} {n vc m yc : Nat} {xs ys : List Value}
    (hs : a.eval s = .slice va n vc) (h : SlAt w 59 2 own (.slice va n vc) n xs) (hx : a.eval x = .slice ya m yc) (hy : SlAt w 59 2 own2 (.slice ya m yc) m ys) (h1 : ∀ u ∈ ys, u.oneCell' = true) (h63 : n + m ≤ maxLen) (hbytes : (n + m) * 24 ≤ 140737488355328)
    (hK : ∀ va' vc' w' E', (∀ b, E' b → own b ∨ b = w.heap.size) → Fr E' w w' → (∀ b, E' b → b < w'.heap.size) → SlAt w' 59 2 E' (.slice va' (n + m) vc') (n + m) (xs ++ ys) → K (a.put o.dst (.slice va' (n + m) vc')) w') :
    if Region.wanted o (yielded ops a.tmps) = true then Oper.wp Tryz.prog o a w K Q else EE := by
  have hw : Region.wanted o (yielded ops a.tmps) = true := by simp [Region.wanted, hg]
  rw [if_pos hw]
  exact wp_append_out s x hop hs h hx hy h1 h63 hbytes hK
theorem outCells_one : ∀ (l : List (Int × Bytes)), ∀ u ∈ outCells l, u.oneCell' = true
  | [], u, h => by simp [outCells] at h
  | p :: l, u, h => by
    have e : outCells (p :: l) = vi p.1 :: vs (bs p.2) :: outCells l := rfl
    rw [e] at h
    rcases List.mem_cons.1 h with rfl | h
    · rfl
    · rcases List.mem_cons.1 h with rfl | h
      · rfl
      · exact outCells_one l u h
theorem outCells_app (a b : List (Int × Bytes)) : outCells (a ++ b) = outCells a ++ outCells b := by unfold outCells; rw [List.flatMap_append]
end Go.Proofs.YtaejfobbogahmaaGreatDoor
