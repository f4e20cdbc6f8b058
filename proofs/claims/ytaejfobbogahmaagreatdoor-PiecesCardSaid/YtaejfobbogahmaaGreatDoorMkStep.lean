/-
  Scripts by what is left of them: a dispatcher behind a part of a script; a message, a tick, a look. Lists of numbers and of strings as literals.
-/
import Derived.Test.YtaejfobbogahmaaGreatDoorMkKeep3
import Derived.Test.YtaejfobbogahmaaGreatDoorMkFig
set_option linter.unusedVariables false
set_option linter.unusedSimpArgs false
namespace Go.Proofs.YtaejfobbogahmaaGreatDoor
open Go Go.RowKit

/-- The dispatcher's state when of a script only 'rest' is left. -/
def stRest (cfg : Cfg) (l rest : Script) : Raw := stAt cfg l (l.length - rest.length)
structure RAt (G : Nat) (w0 : World) (D Wb : Nat) (cfg : Cfg) (l rest : Script) (w : World) : Prop where
  at_ : KAt G w0 D Wb (stRest cfg l rest) w
  left : l.drop (l.length - rest.length) = rest
/-- What holds of a script. -/
structure Good (cfg : Cfg) (l : Script) : Prop where
  isCfg : cfgOk cfg = true
  isShort : Short l
  isOk : okRun cfg l = true
  isFew : l.length ≤ 100000
section
variable {G D Wb : Nat} {w0 w w' : World} {cfg : Cfg} {l rest : Script}
theorem RAt.start (h : KAt G w0 D Wb (rNew cfg) w) : RAt G w0 D Wb cfg l l w :=
  ⟨by unfold stRest; rw [Nat.sub_self, show stAt cfg l 0 = rNew cfg from by simp [stAt]]; exact h, by simp⟩
theorem RAt.grow (h : RAt G w0 D Wb cfg l rest w) (hb : Below w.heap.size w w') : RAt G w0 D Wb cfg l rest w' := ⟨h.at_.grow hb, h.left⟩
theorem RAt.cast {rest2 : Script} (h : RAt G w0 D Wb cfg l rest w) (e : rest = rest2) : RAt G w0 D Wb cfg l rest2 w := e ▸ h
theorem RAt.cell (h : RAt G w0 D Wb cfg l rest w) : w.cell? ⟨Wb, 0, none⟩ = some (vp D) := cell_of_blk h.at_.box rfl
theorem left_cons {e : E1} (h : l.drop (l.length - (e :: rest).length) = e :: rest) : l[l.length - (e :: rest).length]? = some e ∧ l.length - (e :: rest).length + 1 = l.length - rest.length ∧ l.drop (l.length - rest.length) = rest := by
  have hlen := congrArg List.length h
  rw [List.length_drop, List.length_cons] at hlen
  have e1 : l.length - (e :: rest).length + 1 = l.length - rest.length := by
    rw [List.length_cons]; omega
  refine ⟨?_, e1, ?_⟩
  · have := congrArg (fun x => x[0]?) h
    simpa using this
  · rw [← e1, ← List.drop_drop, h]; rfl
theorem RAt.len {e : E1} (h : RAt G w0 D Wb cfg l (e :: rest) w) : l.length - (e :: rest).length + 1 = l.length - rest.length := (left_cons h.left).2.1

theorem rsay_calls (hG : G ≤ w0.heap.size) (hg : Good cfg l) {c : Int} {s : Bytes} {x : List (Int × Bytes)} (h : RAt G w0 D Wb cfg l ((.say c s, x) :: rest) w) :
    Calls Tryz.prog 22 #[vp Wb, vi c, vs (bs s)] w fun e w' => ∃ v, e = .returned v ∧ RAt G w0 D Wb cfg l rest w' ∧ OutsAt w' v x := by
  obtain ⟨h1, h2, h3⟩ := left_cons h.left
  refine (wsay_calls hG hg.isCfg hg.isShort hg.isOk (by have := hg.isFew; omega) h1 h.at_).mono ?_
  rintro e w1 ⟨v, rfl, k, o⟩
  rw [h2] at k
  exact ⟨v, rfl, ⟨k, h3⟩, o⟩
theorem rtick_calls (hG : G ≤ w0.heap.size) (hg : Good cfg l) {x : List (Int × Bytes)} (h : RAt G w0 D Wb cfg l ((.tick, x) :: rest) w) :
    Calls Tryz.prog 27 #[vp D] w fun e w' => ∃ v, e = .returned v ∧ RAt G w0 D Wb cfg l rest w' ∧ OutsAt w' v x := by
  obtain ⟨h1, h2, h3⟩ := left_cons h.left
  refine (tick_at hG hg.isCfg hg.isShort hg.isOk (by have := hg.isFew; omega) h1 h.at_).mono ?_
  rintro e w1 ⟨v, rfl, k, o⟩
  rw [h2] at k
  exact ⟨v, rfl, ⟨k, h3⟩, o⟩
theorem rlook_calls (hg : Good cfg l) (h : RAt G w0 D Wb cfg l rest w) {a : Int} {b c d : Nat} (hl : lookOf (stRest cfg l rest) = (a, b, c, d)) :
    Calls Tryz.prog 24 #[vp D] w fun e w' => e = .returned (.agg #[vi a, vi b, vi c, vi d]) ∧ RAt G w0 D Wb cfg l rest w' := by
  refine (look_at hg.isCfg hg.isShort (by have := hg.isFew; omega) h.at_).mono ?_
  rintro e w1 ⟨rfl, k⟩
  refine ⟨?_, ⟨k, h.left⟩⟩
  unfold lookOf at hl
  simp only [Prod.mk.injEq] at hl
  obtain ⟨h1, h2, h3, h4⟩ := hl
  show Ending.returned (.agg (lookCells (stRest cfg l rest))) = _
  unfold lookCells
  rw [h1, h2, h3, h4]
end

/-! ### Literals -/
theorem nums_lit {w : World} {b n : Nat} {l : List Int} {cs : Array Value} (h : w.heap[b]? = some (.cells cs 3 (0, 0))) (hc : cs = (l.map encI).toArray) (hn : l.length = n) (h0 : 0 < n) (h1 : n ≤ 1000) : NumsAt w (.slice (some ⟨b, 0, none⟩) n n) l := by
  subst hc; subst hn
  exact .inr ⟨b, 0, l.length, _, rfl, trivial, h, Nat.le_refl _, by unfold maxLen; omega, by simp, by simp, fun j v hj => by simpa using hj⟩
theorem strs_lit {w : World} {b n : Nat} {l : List Bytes} {cs : Array Value} (h : w.heap[b]? = some (.cells cs 9 (0, 0))) (hc : cs = (l.map fun s => vs (bs s)).toArray) (hn : l.length = n) (h0 : 0 < n) (h1 : n ≤ 1000) : StrsAt w (.slice (some ⟨b, 0, none⟩) n n) l := by
  subst hc; subst hn
  exact .inr ⟨b, 0, l.length, _, rfl, trivial, h, Nat.le_refl _, by unfold maxLen; omega, by simp, by simp, fun j v hj => by simpa using hj⟩

/-! ### Steps of a walk -/
theorem begin_at {G : Nat} {w : World} (hE : Env G w) (hG : G ≤ w.heap.size) {cfg : Cfg} {l : Script} (hg : Good cfg l) :
    Calls Tryz.prog 18 #[.agg (cfgCells cfg)] w fun e w' => ∃ D Wb, e = .returned (.tuple #[vp Wb, .bool true]) ∧ RAt G w D Wb cfg l l w' := by
  refine (begin_calls hE hG cfg hg.isCfg (w0 := w) (Below.refl _ _)).mono ?_
  rintro e w1 ⟨D, Wb, rfl, hk, _⟩
  exact ⟨D, Wb, rfl, RAt.start hk⟩
theorem say_at {G D Wb : Nat} {w0 w : World} {cfg : Cfg} {l rest : Script} (hG : G ≤ w0.heap.size) (hg : Good cfg l) {c : Int} {s : Bytes} {x : List (Int × Bytes)} {n : Nat} (hn : x.length = n) (h : RAt G w0 D Wb cfg l ((.say c s, x) :: rest) w) :
    Calls Tryz.prog 22 #[vp Wb, vi c, vs (bs s)] w fun e w' => ∃ va vc, e = .returned (.slice va n vc) ∧ RAt G w0 D Wb cfg l rest w' ∧ OutsAt w' (.slice va n vc) x := by
  refine (rsay_calls hG hg h).mono ?_
  rintro e w1 ⟨v, rfl, k, o⟩
  obtain ⟨va, vc, rfl, _, _⟩ := SlAt.form' o
  subst hn
  exact ⟨va, vc, rfl, k, o⟩
theorem tick_is {G D Wb : Nat} {w0 w : World} {cfg : Cfg} {l rest : Script} (hG : G ≤ w0.heap.size) (hg : Good cfg l) {x : List (Int × Bytes)} {n : Nat} (hn : x.length = n) (h : RAt G w0 D Wb cfg l ((.tick, x) :: rest) w) :
    Calls Tryz.prog 27 #[vp D] w fun e w' => ∃ va vc, e = .returned (.slice va n vc) ∧ RAt G w0 D Wb cfg l rest w' ∧ OutsAt w' (.slice va n vc) x := by
  refine (rtick_calls hG hg h).mono ?_
  rintro e w1 ⟨v, rfl, k, o⟩
  obtain ⟨va, vc, rfl, _, _⟩ := SlAt.form' o
  subst hn
  exact ⟨va, vc, rfl, k, o⟩
theorem is_one {G D Wb : Nat} {w0 w : World} {cfg : Cfg} {l rest : Script} {v : Value} {c : Int} {s : Bytes} (hr : RAt G w0 D Wb cfg l rest w) (h : OutsAt w v [(c, s)]) (hl : s.length ≤ 1000) :
    Calls Tryz.prog 21 #[v, .slice (some ⟨w.heap.size, 0, none⟩) 1 1, .slice (some ⟨w.heap.size + 1, 0, none⟩) 1 1] ((w.alloc (.cells #[vi c] 3)).alloc (.cells #[vs (bs s)] 9))
      fun e w' => e = .returned (.bool true) ∧ RAt G w0 D Wb cfg l rest w' := by
  have hb : Below w.heap.size w ((w.alloc (.cells #[vi c] 3)).alloc (.cells #[vs (bs s)] 9)) := (((Fr.refl (fun _ => False) w).alloc _).alloc _).below (Nat.le_refl _) (fun _ f => f.elim)
  refine (is_calls [(c, s)] (h.below hb) (nums_lit (l := [c]) ((blk_alloc_lt _ (by simp)).trans (blk_alloc_new w)) rfl rfl (by simp) (by simp))
    (strs_lit (l := [s]) (by have := blk_alloc_new (w.alloc (.cells #[vi c] 3)) (o := .cells #[vs (bs s)] 9); rw [World.size_alloc] at this; exact this) rfl rfl (by simp) (by simp)) (fun p hp => by simp at hp; subst hp; show s.length ≤ 1000000; omega)).mono ?_
  rintro e w1 ⟨rfl, b⟩
  exact ⟨rfl, hr.grow (Below.trans hb (b.mono hb.size))⟩
theorem is_two {G D Wb : Nat} {w0 w : World} {cfg : Cfg} {l rest : Script} {v : Value} {c d : Int} {s t : Bytes} (hr : RAt G w0 D Wb cfg l rest w) (h : OutsAt w v [(c, s), (d, t)]) (hl : s.length ≤ 1000) (hl2 : t.length ≤ 1000) :
    Calls Tryz.prog 21 #[v, .slice (some ⟨w.heap.size, 0, none⟩) 2 2, .slice (some ⟨w.heap.size + 1, 0, none⟩) 2 2] ((w.alloc (.cells #[vi c, vi d] 3)).alloc (.cells #[vs (bs s), vs (bs t)] 9))
      fun e w' => e = .returned (.bool true) ∧ RAt G w0 D Wb cfg l rest w' := by
  have hb : Below w.heap.size w ((w.alloc (.cells #[vi c, vi d] 3)).alloc (.cells #[vs (bs s), vs (bs t)] 9)) := (((Fr.refl (fun _ => False) w).alloc _).alloc _).below (Nat.le_refl _) (fun _ f => f.elim)
  refine (is_calls [(c, s), (d, t)] (h.below hb) (nums_lit (l := [c, d]) ((blk_alloc_lt _ (by simp)).trans (blk_alloc_new w)) rfl rfl (by simp) (by simp))
    (strs_lit (l := [s, t]) (by have := blk_alloc_new (w.alloc (.cells #[vi c, vi d] 3)) (o := .cells #[vs (bs s), vs (bs t)] 9); rw [World.size_alloc] at this; exact this) rfl rfl (by simp) (by simp)) (fun p hp => by simp at hp; rcases hp with rfl | rfl <;> (simp only; omega))).mono ?_
  rintro e w1 ⟨rfl, b⟩
  exact ⟨rfl, hr.grow (Below.trans hb (b.mono hb.size))⟩

theorem blk_below {w w' : World} {b : Nat} {o : Obj} (hb : Below w.heap.size w w') (h : w.heap[b]? = some o) : w'.heap[b]? = some o := (hb.block b (blk_lt _ h)).trans h
theorem blk_alloc_of {w : World} {b : Nat} {o o' : Obj} (h : w.heap[b]? = some o) : (w.alloc o').heap[b]? = some o := (blk_alloc_lt _ (blk_lt _ h)).trans h
theorem below_alloc {w w' : World} {o : Obj} (h : Below w.heap.size w w') : Below w.heap.size w (w'.alloc o) := Below.trans h (((Fr.refl (fun _ => False) w').alloc o).below h.size (fun _ f => f.elim))
theorem below_grow {w w' w2 : World} (h : Below w.heap.size w w') (h2 : Below w'.heap.size w' w2) : Below w.heap.size w w2 := Below.trans h (h2.mono h.size)
theorem is_lits {G D Wb : Nat} {w0 w cur : World} {cfg : Cfg} {l rest : Script} {v : Value} (x : List (Int × Bytes)) {n b1 b2 : Nat} {cs1 cs2 : Array Value} (hr : RAt G w0 D Wb cfg l rest w) (h : OutsAt w v x) (hb : Below w.heap.size w cur)
    (h1 : cur.heap[b1]? = some (.cells cs1 3 (0, 0))) (e1 : cs1 = ((x.map (·.1)).map encI).toArray) (h2 : cur.heap[b2]? = some (.cells cs2 9 (0, 0))) (e2 : cs2 = ((x.map (·.2)).map fun s => vs (bs s)).toArray)
    (hn : x.length = n) (hn0 : 0 < n) (hn1 : n ≤ 1000) (hl : ∀ p ∈ x, p.2.length ≤ 1000) :
    Calls Tryz.prog 21 #[v, .slice (some ⟨b1, 0, none⟩) n n, .slice (some ⟨b2, 0, none⟩) n n] cur fun e w' => e = .returned (.bool true) ∧ RAt G w0 D Wb cfg l rest w' := by
  refine (is_calls x (h.below hb) (nums_lit h1 e1 (by rw [List.length_map]; exact hn) hn0 hn1) (strs_lit h2 e2 (by rw [List.length_map]; exact hn) hn0 hn1) (fun p hp => Nat.le_trans (hl p hp) (by omega))).mono ?_
  rintro e w1 ⟨rfl, b⟩
  exact ⟨rfl, hr.grow (below_grow hb b)⟩
/-- A figure. -/
def fg (n : Nat) : UInt8 := UInt8.ofNat (48 + n)
theorem figures_fg (n : Nat) (hn : n < 10) (w : World) : Calls Tryz.prog 23 #[vi n] w fun e w' => e = .returned (vs (bs [fg n])) ∧ Below w.heap.size w w' := by
  rw [show ([fg n] : Bytes) = dec n from (dec_small hn).symm]; exact figures_calls n (by omega) w
/-- A look's numbers. -/
theorem look_field1 (n q r u : Int) (w : World) : (Instr.field 52 (.agg #[vi n, vi q, vi r, vi u]) 1).run Tryz.prog w = .ok (vi q) w := by kernel_rfl
theorem look_field2 (n q r u : Int) (w : World) : (Instr.field 52 (.agg #[vi n, vi q, vi r, vi u]) 2).run Tryz.prog w = .ok (vi r) w := by kernel_rfl
theorem look_field3 (n q r u : Int) (w : World) : (Instr.field 52 (.agg #[vi n, vi q, vi r, vi u]) 3).run Tryz.prog w = .ok (vi u) w := by kernel_rfl
theorem figures_lit (n : Nat) (s : Bytes) (hs : dec n = s) (hn : n < 1000000000000) (w : World) : Calls Tryz.prog 23 #[vi n] w fun e w' => e = .returned (vs (bs s)) ∧ Below w.heap.size w w' := by
  subst hs; exact figures_calls n hn w

set_option maxRecDepth 100000 in
set_option maxHeartbeats 400000 in
/-- pick: one number, in whatever world. -/
theorem pick_fix (c : Int) (n : Nat) (hc : -9223372036854775808 ≤ c ∧ c ≤ 9223372036854775807) (hn : 0 < n) (hn2 : n ≤ 1000) :
    ∃ m : Nat, m < n ∧ ∀ w : World, Calls Tryz.prog 16 #[vi c, vi n] w fun e w' => e = .returned (vi m) ∧ w = w' := by
  have hn0 : (n : Int) ≠ 0 := by omega
  by_cases h : c < 0
  · have h1 : decide (c < 0) = true := decide_eq_true h
    have e1 : IntKind.i64.wrap (c + 1) = c + 1 := IntWalk.i64_in _ (by omega)
    have e2 : IntKind.i64.wrap (-(c + 1)) = -(c + 1) := IntWalk.i64_in _ (by omega)
    obtain ⟨a, ha⟩ : ∃ a : Nat, -(c + 1) = a := ⟨(-(c + 1)).toNat, by omega⟩
    have e3 : (a : Int).tmod n = ((a % n : Nat) : Int) := (Int.ofNat_tmod a n).symm ▸ rfl
    have hm : a % n < n := Nat.mod_lt _ hn
    rw [ha] at e2
    clear h
    refine ⟨a % n, hm, fun w => ?_⟩
    go_enter Tryz.func16, Tryz.ntmps16
    go_wp2_with fail
    go_ret
    exact ⟨by rw [Int.natCast_emod]; rfl, rfl⟩
  · have h1 : decide (c < 0) = false := decide_eq_false h
    obtain ⟨a, ha⟩ : ∃ a : Nat, c = a := ⟨c.toNat, by omega⟩
    subst ha
    have e3 : (a : Int).tmod n = ((a % n : Nat) : Int) := (Int.ofNat_tmod a n).symm ▸ rfl
    have hm : a % n < n := Nat.mod_lt _ hn
    clear h
    refine ⟨a % n, hm, fun w => ?_⟩
    go_enter Tryz.func16, Tryz.ntmps16
    go_wp2_with fail
    go_ret
    exact ⟨by rw [Int.natCast_emod]; rfl, rfl⟩
end Go.Proofs.YtaejfobbogahmaaGreatDoor
