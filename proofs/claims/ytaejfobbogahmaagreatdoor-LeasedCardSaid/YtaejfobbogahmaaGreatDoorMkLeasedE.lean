/-
  The runs of Leased: ticks, beats, leases that end; states written out. No program in sight.
-/
import Derived.Test.YtaejfobbogahmaaGreatDoorMkEval
set_option linter.unusedVariables false
set_option linter.unusedSimpArgs false
namespace Go.Proofs.YtaejfobbogahmaaGreatDoor
open Go

/-- From r the script is said as it stands, and leads to r'. -/
def Run (r : Raw) (l : Script) (r' : Raw) : Prop := okFrom r l = true ∧ l.foldl evTold r = r'
theorem Run.nil (r : Raw) : Run r [] r := ⟨rfl, rfl⟩
theorem Run.cons {r r1 r2 : Raw} {e : E1} {l : Script} (h1 : (evRun r e.1).out = seals e.2) (h2 : rTold (evRun r e.1) = r1) (h : Run r1 l r2) : Run r (e :: l) r2 := by
  subst h2
  exact ⟨by simp only [okFrom, Bool.and_eq_true, decide_eq_true_eq]; exact ⟨h1, h.1⟩, h.2⟩
theorem Run.app {r r1 r2 : Raw} {l k : Script} (h1 : Run r l r1) (h2 : Run r1 k r2) : Run r (l ++ k) r2 := by
  induction l generalizing r with
  | nil => obtain ⟨_, e⟩ := h1; simp at e; subst e; exact h2
  | cons e l ih =>
    obtain ⟨a, b⟩ := h1
    simp only [okFrom, Bool.and_eq_true, decide_eq_true_eq] at a
    exact Run.cons a.1 rfl (ih ⟨a.2, b⟩)
theorem Run.one {r r1 : Raw} {e : E1} (h1 : (evRun r e.1).out = seals e.2) (h2 : rTold (evRun r e.1) = r1) : Run r [e] r1 := Run.cons h1 h2 (Run.nil _)

def lCfg (lease retries : Nat) : Cfg := ⟨lease, retries, 1, 1, 0⟩
def lCn : List (Int × Cn) := [(1, ⟨[], false, false⟩), (2, ⟨[], false, false⟩)]
/-- One attempt runs, the n-th; so many are left. -/
def lSt (c : Cfg) (now since till : Int) (n left : Nat) : Raw :=
  ⟨c, now, [(7, ⟨1, bs [116], bs [120], n, left, false, false⟩)], lCn, [], [(bs [116], 1)], [], [], [⟨7, n, 2, since, till, n⟩], n, []⟩
/-- The n-th has ended; it waits. -/
def lWt (c : Cfg) (now : Int) (n left : Nat) : Raw :=
  ⟨c, now, [(7, ⟨1, bs [116], bs [120], n, left, false, true⟩)], lCn, [(bs [116], [7])], [], [bs [116]], [], [], n, []⟩
/-- It is no more. -/
def lEnd (c : Cfg) (now : Int) (n : Nat) : Raw := ⟨c, now, [], lCn, [], [], [], [], [], n, []⟩

theorem l_tick {c : Cfg} (hc : c.hedge = 0) {now since till : Int} {n left : Nat} (h : now + 1 < till) : rTick (lSt c now since till n left) = lSt c (now + 1) since till n left := by
  have hd : ¬ till ≤ now + 1 := by omega
  unfold rTick
  have e1 : rDue { lSt c now since till n left with now := now + 1 } = none := by
    unfold rDue
    show (match least [⟨7, n, 2, since, till, n⟩] with | none => none | some a => if a.till ≤ now + 1 then some a else none) = none
    show (if till ≤ now + 1 then _ else _) = none
    rw [if_neg hd]
  have e2 : rDueAll 1 { lSt c now since till n left with now := now + 1 } = { lSt c now since till n left with now := now + 1 } := by
    unfold rDueAll; rw [e1]
  show rServe (rHedge (rDueAll 1 { lSt c now since till n left with now := now + 1 })) = _
  rw [e2]
  have e3 : rHedge { lSt c now since till n left with now := now + 1 } = { lSt c now since till n left with now := now + 1 } := by
    unfold rHedge
    show (if 0 < c.hedge then _ else _) = _
    rw [hc, if_neg (by omega)]
  rw [e3]
  rfl
theorem l_ticks {c : Cfg} (hc : c.hedge = 0) {since till : Int} {n left : Nat} : ∀ (k : Nat) (now : Int), now + k < till → Run (lSt c now since till n left) (List.replicate k (.tick, [])) (lSt c (now + k) since till n left)
  | 0, now, _ => by
    rw [show now + ((0 : Nat) : Int) = now by omega]; exact Run.nil _
  | k + 1, now, h => by
    have h1 := l_tick (c := c) hc (now := now) (since := since) (till := till) (n := n) (left := left) (by omega)
    rw [List.replicate_succ]
    refine Run.cons (r1 := lSt c (now + 1) since till n left) ?_ ?_ ?_
    · show (rTick _).out = []
      rw [h1]; rfl
    · show rTold (rTick _) = _
      rw [h1]; rfl
    · have := l_ticks hc (since := since) (till := till) (n := n) (left := left) k (now + 1) (by omega)
      rw [show now + ((k + 1 : Nat) : Int) = now + 1 + (k : Int) by omega]
      exact this
theorem l_beat {c : Cfg} {now since till : Int} {n left : Nat} (hn : n = 1) : Run (lSt c now since till n left) [(.say 2 [98, 101, 97, 116], [])] (lSt c now since (now + c.lease) n left) := by
  subst hn
  exact Run.one (by kernel_rfl) (by kernel_rfl)

/-- What is said when the n-th attempt's lease ends. -/
def wStopN (n : Nat) : Bytes := [115, 116, 111, 112, 32, 55, 32, UInt8.ofNat (48 + n)]
def wRunN (n : Nat) : Bytes := [114, 117, 110, 32, 55, 32, UInt8.ofNat (48 + n), 32, 116, 32, 120]
def wDoneN (n : Nat) : Bytes := [100, 111, 110, 101, 32, 55, 32, UInt8.ofNat (48 + n), 32, 121]
theorem l_due {c : Cfg} {now since : Int} {n left : Nat} : rDueAll 1 { lSt c now since (now + 1) n left with now := now + 1 } = rAgain (rStop { lSt c now since (now + 1) n left with now := now + 1 } ⟨7, n, 2, since, now + 1, n⟩) 7 true := by
  have e1 : rDue { lSt c now since (now + 1) n left with now := now + 1 } = some ⟨7, n, 2, since, now + 1, n⟩ := by
    unfold rDue
    show (if now + 1 ≤ now + 1 then _ else _) = _
    rw [if_pos (Int.le_refl _)]
  unfold rDueAll; rw [e1]; rfl
theorem l_tick_due {c : Cfg} {now since : Int} {n left : Nat} : rTick (lSt c now since (now + 1) n left) = rServe (rHedge (rAgain (rStop { lSt c now since (now + 1) n left with now := now + 1 } ⟨7, n, 2, since, now + 1, n⟩) 7 true)) := by
  show rServe (rHedge (rDueAll 1 { lSt c now since (now + 1) n left with now := now + 1 })) = _
  rw [l_due]

theorem l_expire (lease retries : Nat) (now since : Int) {n left : Nat} (h1 : 1 ≤ n) (h2 : n ≤ 6) (h3 : left ≤ 4) : Run (lSt (lCfg lease retries) now since (now + 1) n (left + 1)) [(.tick, [(2, wStopN n)])] (lWt (lCfg lease retries) (now + 1) n left) := by
  refine Run.one ?_ ?_
  · show (rTick _).out = _
    rw [l_tick_due]
    rcases (by omega : n = 1 ∨ n = 2 ∨ n = 3 ∨ n = 4 ∨ n = 5 ∨ n = 6) with rfl | rfl | rfl | rfl | rfl | rfl <;> (rcases (by omega : left = 0 ∨ left = 1 ∨ left = 2 ∨ left = 3 ∨ left = 4) with rfl | rfl | rfl | rfl | rfl <;> kernel_rfl)
  · show rTold (rTick _) = _
    rw [l_tick_due]
    rcases (by omega : n = 1 ∨ n = 2 ∨ n = 3 ∨ n = 4 ∨ n = 5 ∨ n = 6) with rfl | rfl | rfl | rfl | rfl | rfl <;> (rcases (by omega : left = 0 ∨ left = 1 ∨ left = 2 ∨ left = 3 ∨ left = 4) with rfl | rfl | rfl | rfl | rfl <;> kernel_rfl)
theorem l_over (lease retries : Nat) (now since : Int) {n : Nat} (h1 : 1 ≤ n) (h2 : n ≤ 6) : Run (lSt (lCfg lease retries) now since (now + 1) n 0) [(.tick, [(2, wStopN n), (1, [101, 114, 114, 32, 55])])] (lEnd (lCfg lease retries) (now + 1) n) := by
  refine Run.one ?_ ?_
  · show (rTick _).out = _
    rw [l_tick_due]
    rcases (by omega : n = 1 ∨ n = 2 ∨ n = 3 ∨ n = 4 ∨ n = 5 ∨ n = 6) with rfl | rfl | rfl | rfl | rfl | rfl <;> kernel_rfl
  · show rTold (rTick _) = _
    rw [l_tick_due]
    rcases (by omega : n = 1 ∨ n = 2 ∨ n = 3 ∨ n = 4 ∨ n = 5 ∨ n = 6) with rfl | rfl | rfl | rfl | rfl | rfl <;> kernel_rfl
theorem l_late (lease retries : Nat) (now : Int) {n left : Nat} (h1 : 1 ≤ n) (h2 : n ≤ 6) : Run (lWt (lCfg lease retries) now n left) [(.say 2 (wDoneN n), [])] (lWt (lCfg lease retries) now n left) := by
  rcases (by omega : n = 1 ∨ n = 2 ∨ n = 3 ∨ n = 4 ∨ n = 5 ∨ n = 6) with rfl | rfl | rfl | rfl | rfl | rfl <;> exact Run.one (by kernel_rfl) (by kernel_rfl)
theorem l_late2 (lease retries : Nat) (now : Int) {n : Nat} (h1 : 1 ≤ n) (h2 : n ≤ 6) : Run (lEnd (lCfg lease retries) now n) [(.say 2 (wDoneN n), [])] (lEnd (lCfg lease retries) now n) := by
  rcases (by omega : n = 1 ∨ n = 2 ∨ n = 3 ∨ n = 4 ∨ n = 5 ∨ n = 6) with rfl | rfl | rfl | rfl | rfl | rfl <;> exact Run.one (by kernel_rfl) (by kernel_rfl)
theorem l_pull (lease retries : Nat) (now : Int) {n left : Nat} (h1 : 1 ≤ n) (h2 : n ≤ 6) : Run (lWt (lCfg lease retries) now n left) [(.say 2 [112, 117, 108, 108], [(2, wRunN (n + 1))])] (lSt (lCfg lease retries) now now (now + lease) (n + 1) left) := by
  rcases (by omega : n = 1 ∨ n = 2 ∨ n = 3 ∨ n = 4 ∨ n = 5 ∨ n = 6) with rfl | rfl | rfl | rfl | rfl | rfl <;> exact Run.one (by kernel_rfl) (by kernel_rfl)
theorem l_first (lease retries : Nat) : Run (rNew (lCfg lease retries)) [(.say 1 [115, 117, 98, 32, 55, 32, 116, 32, 120], [(1, [97, 99, 99, 32, 55])]), (.say 2 [112, 117, 108, 108], [(2, wRunN 1)])] (lSt (lCfg lease retries) 0 0 (0 + lease) 1 retries) :=
  Run.cons (r1 := rTold (rFeed (rNew (lCfg lease retries)) 1 (lineOf [115, 117, 98, 32, 55, 32, 116, 32, 120]))) (by kernel_rfl) rfl (Run.one (by kernel_rfl) (by kernel_rfl))

/-! ### The script -/
def lTicks (lease : Nat) : Script := List.replicate (lease - 1) (.tick, [])
def lBeats (lease : Nat) : Nat → Script
  | 0 => []
  | k + 1 => lTicks lease ++ (.say 2 [98, 101, 97, 116], []) :: lBeats lease k
/-- From the n-th attempt on, as many are left: all but the last word. -/
def lTail (lease : Nat) : Nat → Nat → Script
  | n, 0 => lTicks lease ++ [(.tick, [(2, wStopN n), (1, [101, 114, 114, 32, 55])])]
  | n, left + 1 => lTicks lease ++ (.tick, [(2, wStopN n)]) :: (.say 2 (wDoneN n), []) :: (.say 2 [112, 117, 108, 108], [(2, wRunN (n + 1))]) :: lTail lease (n + 1) left
def lFirst : Script := [(.say 1 [115, 117, 98, 32, 55, 32, 116, 32, 120], [(1, [97, 99, 99, 32, 55])]), (.say 2 [112, 117, 108, 108], [(2, wRunN 1)])]
def lLast (retries : Nat) : Script := [(.say 2 (wDoneN (retries + 1)), [])]
def lScript (lease retries beats : Nat) : Script := (lFirst ++ (lBeats lease beats ++ lTail lease 1 retries)) ++ lLast retries

theorem run_ticks {lease retries n left : Nat} (hl : 1 ≤ lease) (now since : Int) : Run (lSt (lCfg lease retries) now since (now + lease) n left) (lTicks lease) (lSt (lCfg lease retries) (now + lease - 1) since (now + lease - 1 + 1) n left) := by
  have := l_ticks (c := lCfg lease retries) rfl (since := since) (till := now + lease) (n := n) (left := left) (lease - 1) now (by omega)
  rw [show now + ((lease - 1 : Nat) : Int) = now + lease - 1 by omega] at this
  rw [show now + (lease : Int) - 1 + 1 = now + lease by omega]
  exact this
theorem l_beat2 (lease retries : Nat) (now since till : Int) (left : Nat) : Run (lSt (lCfg lease retries) now since till 1 left) [(.say 2 [98, 101, 97, 116], [])] (lSt (lCfg lease retries) now since (now + lease) 1 left) := l_beat rfl
theorem run_beats {lease retries left : Nat} (hl : 1 ≤ lease) : ∀ (k : Nat) (now since : Int), ∃ now', Run (lSt (lCfg lease retries) now since (now + lease) 1 left) (lBeats lease k) (lSt (lCfg lease retries) now' since (now' + lease) 1 left)
  | 0, now, since => ⟨now, Run.nil _⟩
  | k + 1, now, since => by
    obtain ⟨now', h⟩ := run_beats (retries := retries) (left := left) hl k (now + lease - 1) since
    refine ⟨now', ?_⟩
    show Run _ (lTicks lease ++ ([(.say 2 [98, 101, 97, 116], [])] ++ lBeats lease k)) _
    exact Run.app (run_ticks hl now since) (Run.app (l_beat2 lease retries _ since _ left) h)
theorem run_tail {lease retries : Nat} (hl : 1 ≤ lease) : ∀ (left n : Nat) (now since : Int), 1 ≤ n → n + left ≤ 6 → ∃ now', Run (lSt (lCfg lease retries) now since (now + lease) n left) (lTail lease n left) (lEnd (lCfg lease retries) now' (n + left))
  | 0, n, now, since, h1, h2 => by
    refine ⟨now + lease - 1 + 1, ?_⟩
    show Run _ (lTicks lease ++ [(.tick, [(2, wStopN n), (1, [101, 114, 114, 32, 55])])]) _
    exact Run.app (run_ticks hl now since) (l_over lease retries _ since h1 h2)
  | left + 1, n, now, since, h1, h2 => by
    obtain ⟨now', h⟩ := run_tail (retries := retries) hl left (n + 1) (now + lease - 1 + 1) (now + lease - 1 + 1) (by omega) (by omega)
    rw [show n + 1 + left = n + (left + 1) from by omega] at h
    refine ⟨now', ?_⟩
    show Run _ (lTicks lease ++ ([(.tick, [(2, wStopN n)])] ++ ([(.say 2 (wDoneN n), [])] ++ ([(.say 2 [112, 117, 108, 108], [(2, wRunN (n + 1))])] ++ lTail lease (n + 1) left)))) _
    exact Run.app (run_ticks hl now since) (Run.app (l_expire lease retries _ since h1 (by omega) (by omega)) (Run.app (l_late lease retries _ h1 (by omega)) (Run.app (l_pull lease retries _ h1 (by omega)) h)))
theorem run_leased {lease retries beats : Nat} (hl : 1 ≤ lease) (hr : retries ≤ 5) : ∃ now, Run (rNew (lCfg lease retries)) (lFirst ++ (lBeats lease beats ++ lTail lease 1 retries)) (lEnd (lCfg lease retries) now (1 + retries)) := by
  obtain ⟨n1, h1⟩ := run_beats (retries := retries) (left := retries) hl beats 0 0
  obtain ⟨n2, h2⟩ := run_tail (retries := retries) hl retries 1 n1 0 (by omega) (by omega)
  exact ⟨n2, Run.app (l_first lease retries) (Run.app h1 h2)⟩
theorem leased_ok {lease retries beats : Nat} (hl : 1 ≤ lease) (hr : retries ≤ 5) : okRun (lCfg lease retries) (lScript lease retries beats) = true := by
  obtain ⟨n, h⟩ := run_leased (beats := beats) hl hr
  have := Run.app h (l_late2 lease retries n (n := 1 + retries) (by omega) (by omega))
  have h2 := this.1
  unfold okRun lScript lLast
  rw [show retries + 1 = 1 + retries from by omega]
  exact h2
theorem ticks_short (lease : Nat) : Short (lTicks lease) := by
  intro e he
  unfold lTicks at he
  rw [List.eq_of_mem_replicate he]; decide
theorem beats_short (lease : Nat) : ∀ k, Short (lBeats lease k)
  | 0 => fun e he => by cases he
  | k + 1 => fun e he => by
    unfold lBeats at he
    rcases List.mem_append.1 he with h | h
    · exact ticks_short lease e h
    · rcases List.mem_cons.1 h with rfl | h
      · decide
      · exact beats_short lease k e h
theorem tail_short (lease : Nat) : ∀ left n, Short (lTail lease n left)
  | 0, n => fun e he => by
    unfold lTail at he
    rcases List.mem_append.1 he with h | h
    · exact ticks_short lease e h
    · rw [List.mem_singleton] at h; subst h; show 1 ≤ 100; omega
  | left + 1, n => fun e he => by
    unfold lTail at he
    rcases List.mem_append.1 he with h | h
    · exact ticks_short lease e h
    · rcases List.mem_cons.1 h with rfl | h
      · show 1 ≤ 100; omega
      · rcases List.mem_cons.1 h with rfl | h
        · show (wDoneN n).length + 10 ≤ 100; simp [wDoneN]
        · rcases List.mem_cons.1 h with rfl | h
          · show 4 + 10 ≤ 100; omega
          · exact tail_short lease left (n + 1) e h
theorem leased_short (lease retries beats : Nat) : Short (lScript lease retries beats) := by
  intro e he
  unfold lScript at he
  simp only [List.mem_append] at he
  rcases he with (h | h | h) | h
  · revert e; decide
  · exact beats_short lease beats e h
  · exact tail_short lease retries 1 e h
  · unfold lLast at h
    rw [List.mem_singleton] at h; subst h
    show (wDoneN _).length + 10 ≤ 100; simp [wDoneN]
theorem beats_len {lease : Nat} (hl : lease ≤ 20) : ∀ k, (lBeats lease k).length ≤ 20 * k
  | 0 => by simp [lBeats]
  | k + 1 => by
    have := beats_len hl k
    unfold lBeats lTicks
    simp; omega
theorem tail_len {lease : Nat} (hl : lease ≤ 20) : ∀ left n, (lTail lease n left).length ≤ 23 * left + 20
  | 0, n => by unfold lTail lTicks; simp; omega
  | left + 1, n => by
    have := tail_len hl left (n + 1)
    unfold lTail lTicks
    simp; omega
theorem leased_len {lease retries beats : Nat} (hl : lease ≤ 20) (hr : retries ≤ 5) (hb : beats ≤ 30) : (lScript lease retries beats).length ≤ 100000 := by
  have h1 := beats_len hl beats
  have h2 := tail_len hl retries 1
  unfold lScript lFirst lLast
  simp; omega
theorem leased_last {lease retries beats : Nat} (hl : 1 ≤ lease) (hr : retries ≤ 5) : (stAt (lCfg lease retries) (lScript lease retries beats) ((lScript lease retries beats).length - (lLast retries).length)).atts.length = 0 := by
  obtain ⟨n, h⟩ := run_leased (beats := beats) hl hr
  have e : (lScript lease retries beats).take ((lScript lease retries beats).length - (lLast retries).length) = lFirst ++ (lBeats lease beats ++ lTail lease 1 retries) := by
    unfold lScript
    rw [List.length_append, Nat.add_sub_cancel, List.take_left']
    rfl
  unfold stAt
  rw [e, h.2]
  rfl
end Go.Proofs.YtaejfobbogahmaaGreatDoor
