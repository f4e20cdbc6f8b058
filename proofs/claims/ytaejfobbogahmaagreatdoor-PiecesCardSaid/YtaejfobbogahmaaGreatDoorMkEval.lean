/-
  Scripts: what is done to a dispatcher, and what is said to it; the known runs, by the kernel. No program in sight.
  The runs of Known and Refuses, by the kernel.
-/
import Derived.Test.YtaejfobbogahmaaGreatDoorMkPure
set_option linter.unusedVariables false
set_option linter.unusedSimpArgs false
namespace Go.Proofs.YtaejfobbogahmaaGreatDoor
open Go

inductive Ev where
  | say (c : Int) (s : Bytes)
  | tick
  | close (c : Int)

/-- The bytes of a message: a text as a line. -/
def lineOf (s : Bytes) : Bytes := sealL s ++ [10]
def evRun (r : Raw) : Ev → Raw
  | .say c s => rFeed r c (lineOf s)
  | .tick => rTick r
  | .close c => rClose r c
abbrev Script := List (Ev × List (Int × Bytes))
def evTold (r : Raw) (e : Ev × List (Int × Bytes)) : Raw := rTold (evRun r e.1)
/-- The state behind n steps. -/
def stAt (cfg : Cfg) (l : Script) (n : Nat) : Raw := (l.take n).foldl evTold (rNew cfg)
def seals (x : List (Int × Bytes)) : List (Int × Bytes) := x.map fun p => (p.1, sealL p.2)
def okFrom : Raw → Script → Bool
  | _, [] => true
  | r, e :: l => decide ((evRun r e.1).out = seals e.2) && okFrom (rTold (evRun r e.1)) l
def okRun (cfg : Cfg) (l : Script) : Bool := okFrom (rNew cfg) l

theorem ok_from : ∀ (l : Script) (r : Raw) (n : Nat) (e : Ev × List (Int × Bytes)), okFrom r l = true → l[n]? = some e → (evRun ((l.take n).foldl evTold r) e.1).out = seals e.2
  | [], r, n, e, _, h => by simp at h
  | a :: l, r, 0, e, h, h2 => by
    simp at h2; subst h2
    simp only [okFrom, Bool.and_eq_true, decide_eq_true_eq] at h
    exact h.1
  | a :: l, r, n + 1, e, h, h2 => by
    simp only [okFrom, Bool.and_eq_true] at h
    exact ok_from l _ n e h.2 (by simpa using h2)
theorem ok_at {cfg : Cfg} {l : Script} (h : okRun cfg l = true) {n : Nat} {e : Ev × List (Int × Bytes)} (he : l[n]? = some e) : (evRun (stAt cfg l n) e.1).out = seals e.2 := ok_from l _ n e h he
theorem st_next {cfg : Cfg} {l : Script} {n : Nat} {e : Ev × List (Int × Bytes)} (he : l[n]? = some e) : stAt cfg l (n + 1) = rTold (evRun (stAt cfg l n) e.1) := by
  unfold stAt
  rw [List.take_add_one, he]
  simp [evTold]
theorem sealL_len (s : Bytes) : (sealL s).length = s.length + 9 := by
  unfold sealL sumHex hex2; simp

def evLen : Ev → Nat
  | .say _ s => s.length + 10
  | _ => 1
theorem lineOf_len (s : Bytes) : (lineOf s).length = s.length + 10 := by unfold lineOf; rw [List.length_append, sealL_len]; simp
theorem Inv.ev {N P : Nat} {r : Raw} (h : Inv N P r) (e : Ev) : Inv (N + evLen e) (P + 4 * evLen e) (evRun r e) := by
  cases e with
  | say c s =>
    have := h.feed c (lineOf s)
    rw [lineOf_len] at this
    exact this
  | tick => exact h.tick.mono (Nat.le_refl _) (by simp [evLen])
  | close c => exact (h.close c).mono (by simp [evLen]) (by simp [evLen])
theorem Few.ev {r : Raw} (h : Few r) (e : Ev) : Few (evRun r e) := by
  cases e with
  | say c s => exact h.feed c _
  | tick => exact h.tick
  | close c => exact h.close c
/-- All texts are short. -/
def Short (l : Script) : Prop := ∀ e ∈ l, evLen e.1 ≤ 100
theorem st_inv {cfg : Cfg} (hc : cfgOk cfg = true) {l : Script} (hl : Short l) : ∀ n, Inv (100 * n) (400 * n) (stAt cfg l n) ∧ Few (stAt cfg l n) ∧ (stAt cfg l n).out = []
  | 0 => ⟨Inv.init hc, Few.init cfg, rfl⟩
  | n + 1 => by
    obtain ⟨h1, h2, h3⟩ := st_inv hc hl n
    cases he : l[n]? with
    | none =>
      have : stAt cfg l (n + 1) = stAt cfg l n := by unfold stAt; rw [List.take_add_one, he]; simp
      rw [this]
      exact ⟨h1.mono (by omega) (by omega), h2, h3⟩
    | some e =>
      rw [st_next he]
      have hs := hl e (List.mem_of_getElem? he)
      exact ⟨((h1.ev e.1).told).mono (by omega) (by omega), (h2.ev e.1).told, rfl⟩

/-! ### Words -/
def dc (n : Nat) : Bytes := dec n
def letA (t : Nat) : Bytes := [UInt8.ofNat (97 + t)]
def sp (l : List Bytes) : Bytes := words l
def oT : Bytes := [116]
def oX : Bytes := [120]
def oY : Bytes := [121]
def oZ : Bytes := [122]
def o1 : Bytes := [49]

abbrev E1 := Ev × List (Int × Bytes)
def ev (c : Nat) (s : Bytes) (l : List (Nat × Bytes)) : E1 := (.say c s, l.map fun p => ((p.1 : Int), p.2))
def tk (l : List (Nat × Bytes)) : E1 := (.tick, l.map fun p => ((p.1 : Int), p.2))
def cl (c : Nat) (l : List (Nat × Bytes)) : E1 := (.close c, l.map fun p => ((p.1 : Int), p.2))
def lookOf (r : Raw) : Int × Nat × Nat × Nat := (r.now, sumLens r.queues, r.atts.length, r.waiting.length)

/-! ### Turns -/
def cfgTurns : Cfg := ⟨9, 0, 5, 8, 0⟩
def turnSub (t k : Nat) : E1 := ev 1 (sp [kSub, dc (10 * t + k), letA t, 112 :: dc (10 * t + k)]) [(1, sp [wAcc, dc (10 * t + k)])]
def turnPull (t k : Nat) : E1 := ev 2 kPull [(2, sp [wRun, dc (10 * t + k), o1, letA t, 112 :: dc (10 * t + k)])]
def turnDone (t k : Nat) : E1 := ev 2 (sp [kDone, dc (10 * t + k), o1, 118 :: dc (10 * t + k)]) [(1, sp [wVal, dc (10 * t + k), 118 :: dc (10 * t + k)])]
def turnRound (t k : Nat) : Script := if (k + t) % 2 = 0 then [turnPull t k, turnDone t k] else [turnPull t k]
def turnScript (ts es : Nat) : Script :=
  ((List.range ts).flatMap fun t => (List.range es).map fun k => turnSub t k) ++ (((List.range es).flatMap fun k => (List.range ts).flatMap fun t => turnRound t k) ++ [ev 2 kPull []])
def turnsOk (ts es : Nat) : Bool :=
  okRun cfgTurns (turnScript ts es) && decide (lookOf (stAt cfgTurns (turnScript ts es) (ts * es)) = (0, ts * es, 0, 0)) &&
    decide ((stAt cfgTurns (turnScript ts es) (turnScript ts es).length).waiting.length = 1) && decide (sumLens (stAt cfgTurns (turnScript ts es) (turnScript ts es).length).queues = 0)

/-! ### Capped -/
def cfgCapped (l : Nat) : Cfg := ⟨20, 0, l, 8, 0⟩
def cappedScript (l m : Nat) : Script :=
  ((List.range (l + m)).map fun id => ev 1 (sp [kSub, dc id, oT, oX]) [(1, sp [wAcc, dc id])]) ++
  (((List.range (l + m)).map fun id => ev (2 + id) kPull (if id < l then [(2 + id, sp [wRun, dc id, o1, oT, oX])] else [])) ++
  ((List.range m).map fun k => ev (2 + k) (sp [kDone, dc k, o1, oY]) [(1, sp [wVal, dc k, oY]), (2 + l + k, sp [wRun, dc (l + k), o1, oT, oX])]))
def cappedOk (l m : Nat) : Bool :=
  okRun (cfgCapped l) (cappedScript l m) && decide (lookOf (stAt (cfgCapped l) (cappedScript l m) (2 * (l + m))) = (0, m, l, m)) &&
    decide (lookOf (stAt (cfgCapped l) (cappedScript l m) (2 * (l + m) + m)) = (0, 0, l, 0))

/-! ### Hedged -/
def cfgHedged (h : Nat) : Cfg := ⟨20, 0, 2, 1, h⟩
def hedgedScript (h a : Nat) : Script :=
  ev 1 (sp [kSub, dc 7, oT, oX]) [(1, sp [wAcc, dc 7])] :: ev 2 kPull [(2, sp [wRun, dc 7, o1, oT, oX])] :: ev 3 kPull [] ::
  (List.replicate (h - 1) (tk []) ++ [tk [(3, sp [wRun, dc 7, dc 2, oT, oX])], ev 4 kPull [], tk [],
    ev (2 + a) (sp [kDone, dc 7, dc (1 + a), oY]) [(1, sp [wVal, dc 7, oY]), (3 - a, sp [wStop, dc 7, dc (2 - a)])], ev (3 - a) (sp [kDone, dc 7, dc (2 - a), oZ]) []])
def hedgedOk (h a : Nat) : Bool := okRun (cfgHedged h) (hedgedScript h a) && decide ((stAt (cfgHedged h) (hedgedScript h a) (h + 6)).atts.length = 0)

/-! ### Drained -/
def cfgDrained : Cfg := ⟨20, 0, 5, 8, 0⟩
def wBye : Bytes := [98, 121, 101]
def drainedHead (n : Nat) : Script :=
  ((List.range (n + 1)).map fun id => ev 1 (sp [kSub, dc id, oT, oX]) [(1, sp [wAcc, dc id])]) ++
  ((List.range n).map fun id => ev 2 kPull [(2, sp [wRun, dc id, o1, oT, oX])])
def drainedTail (n : Nat) (close : Bool) : Script :=
  if n = 0 then [ev 2 kDrain [(2, wBye)], ev 2 kPull [], ev 2 kDrain []] else
    ev 2 kDrain [] :: ev 2 kPull [] :: ev 3 kPull [(3, sp [wRun, dc n, o1, oT, oX])] ::
    (if close then [cl 2 [], ev 2 kPull [(2, sp [wRun, dc (n - 1), dc 2, oT, oX])]] else
      ((List.range n).map fun id => ev 2 (sp [kDone, dc id, o1, oY]) ((1, sp [wVal, dc id, oY]) :: if id = n - 1 then [(2, wBye)] else [])) ++ [ev 2 kDrain [], ev 2 kPull []])
def drainedScript (n : Nat) (close : Bool) : Script := drainedHead n ++ drainedTail n close
def drainedOk (n : Nat) (close : Bool) : Bool :=
  okRun cfgDrained (drainedScript n close) && (n == 0 || !close || decide (sumLens (stAt cfgDrained (drainedScript n close) (2 * n + 5)).queues = n))
set_option maxRecDepth 1000000 in
theorem hedged_ok : ∀ h < 9, ∀ a < 2, hedgedOk (h + 1) a = true := by decide +kernel
set_option maxRecDepth 1000000 in
theorem drained_ok : ∀ n < 5, ∀ c, drainedOk n c = true := by decide +kernel
set_option maxRecDepth 1000000 in
theorem capped_ok : ∀ l < 5, ∀ m < 3, cappedOk (l + 1) (m + 1) = true := by decide +kernel
end Go.Proofs.YtaejfobbogahmaaGreatDoor
namespace Go.Proofs.YtaejfobbogahmaaGreatDoor
open Go
def cfgKnown : Cfg := ⟨3, 1, 1, 2, 2⟩
def knownScript : Script := [
  ev 1 [115, 117, 98, 32, 49, 32, 97, 32, 112] [(1, [97, 99, 99, 32, 49])],
  ev 1 [115, 117, 98, 32, 49, 32, 98, 32, 112] [(1, [114, 101, 106, 32, 49, 32, 100, 117, 112])],
  ev 2 [115, 117, 98, 32, 50, 32, 97, 32, 113] [(2, [97, 99, 99, 32, 50])],
  ev 1 [115, 117, 98, 32, 51, 32, 97, 32, 114] [(1, [114, 101, 106, 32, 51, 32, 102, 117, 108, 108])],
  ev 1 [115, 117, 98, 32, 51, 32, 98, 32, 114] [(1, [97, 99, 99, 32, 51])],
  ev 2 [99, 97, 110, 32, 49] [(2, [110, 111, 110, 101, 32, 49])],
  ev 5 [112, 117, 108, 108] [(5, [114, 117, 110, 32, 49, 32, 49, 32, 97, 32, 112])],
  ev 5 [112, 117, 108, 108] [(5, [114, 117, 110, 32, 51, 32, 49, 32, 98, 32, 114])],
  ev 5 [112, 117, 108, 108] [],
  ev 6 [112, 117, 108, 108] [],
  ev 6 [100, 111, 110, 101, 32, 49, 32, 49, 32, 118] [],
  ev 5 [100, 111, 110, 101, 32, 49, 32, 50, 32, 118] [],
  ev 5 [102, 97, 105, 108, 32, 49, 32, 49] [(5, [114, 117, 110, 32, 49, 32, 50, 32, 97, 32, 112])],
  ev 5 [102, 97, 105, 108, 32, 49, 32, 50] [(1, [101, 114, 114, 32, 49]), (6, [114, 117, 110, 32, 50, 32, 49, 32, 97, 32, 113])],
  tk [],
  tk [],
  ev 5 [112, 117, 108, 108] [],
  tk [(5, [115, 116, 111, 112, 32, 51, 32, 49]), (6, [115, 116, 111, 112, 32, 50, 32, 49]), (5, [114, 117, 110, 32, 51, 32, 50, 32, 98, 32, 114])]]
set_option maxRecDepth 1000000 in
theorem known_ok : okRun cfgKnown knownScript = true := by decide +kernel
theorem known_short : Short knownScript := by
  intro e he
  revert e
  decide +kernel

structure RefLine where
  s : Bytes
  plain : Bool
  said : Bytes
def longL : Bytes := [115, 117, 98, 32, 49, 32, 97, 32] ++ List.replicate 64 120
def refLines : List RefLine := [
  ⟨[115, 117, 98, 32, 48, 32, 97, 32, 120], false, [97, 99, 99, 32, 48]⟩,
  ⟨[115, 117, 98, 32, 57, 57, 57, 57, 57, 57, 32, 97, 98, 99, 100, 101, 102, 32, 49, 50, 51, 52, 53, 54, 55, 56, 57, 48, 49, 50], false, [97, 99, 99, 32, 57, 57, 57, 57, 57, 57]⟩,
  ⟨[115, 117, 98, 32, 49, 32, 206, 177, 207, 137, 32, 126, 33, 194, 161, 239, 191, 191], false, [97, 99, 99, 32, 49]⟩,
  ⟨[115, 117, 98, 32, 49, 32, 97, 98, 99, 206, 177, 206, 178, 206, 179, 32, 195, 169, 195, 169, 195, 169, 195, 169, 195, 169, 195, 169, 195, 169, 195, 169, 195, 169, 195, 169, 195, 169, 195, 169], false, [97, 99, 99, 32, 49]⟩,
  ⟨[99, 97, 110, 32, 49], false, [110, 111, 110, 101, 32, 49]⟩,
  ⟨[112, 117, 108, 108], false, []⟩,
  ⟨[98, 101, 97, 116], false, []⟩,
  ⟨[100, 114, 97, 105, 110], false, [98, 121, 101]⟩,
  ⟨[100, 111, 110, 101, 32, 49, 32, 49, 32, 120], false, []⟩,
  ⟨[102, 97, 105, 108, 32, 49, 32, 49], false, []⟩,
  ⟨[100, 111, 110, 101, 32, 48, 32, 48, 32, 120], false, []⟩,
  ⟨[115, 117, 98, 32, 48, 49, 32, 97, 32, 120], false, [98, 97, 100]⟩,
  ⟨[115, 117, 98, 32, 49, 48, 48, 48, 48, 48, 48, 32, 97, 32, 120], false, [98, 97, 100]⟩,
  ⟨[115, 117, 98, 32, 45, 49, 32, 97, 32, 120], false, [98, 97, 100]⟩,
  ⟨[115, 117, 98, 32, 32, 97, 32, 120], false, [98, 97, 100]⟩,
  ⟨[115, 117, 98, 32, 49, 32, 97, 98, 99, 100, 101, 102, 103, 32, 120], false, [98, 97, 100]⟩,
  ⟨[115, 117, 98, 32, 49, 32, 206, 177, 206, 178, 206, 179, 206, 180, 206, 181, 206, 182, 206, 183, 32, 120], false, [98, 97, 100]⟩,
  ⟨[115, 117, 98, 32, 49, 32, 65, 32, 120], false, [98, 97, 100]⟩,
  ⟨[115, 117, 98, 32, 49, 32, 97, 49, 32, 120], false, [98, 97, 100]⟩,
  ⟨[115, 117, 98, 32, 49, 32, 206, 172, 32, 120], false, [98, 97, 100]⟩,
  ⟨[115, 117, 98, 32, 49, 32, 97, 32, 49, 50, 51, 52, 53, 54, 55, 56, 57, 48, 49, 50, 51], false, [98, 97, 100]⟩,
  ⟨[115, 117, 98, 32, 49, 32, 97, 32, 195, 169, 195, 169, 195, 169, 195, 169, 195, 169, 195, 169, 195, 169, 195, 169, 195, 169, 195, 169, 195, 169, 195, 169, 195, 169, 195, 169], false, [98, 97, 100]⟩,
  ⟨[115, 117, 98, 32, 49, 32, 97], false, [98, 97, 100]⟩,
  ⟨[115, 117, 98, 32, 49, 32, 97, 32, 120, 32, 121], false, [98, 97, 100]⟩,
  ⟨[115, 117, 98, 32, 49, 32, 97, 32], false, [98, 97, 100]⟩,
  ⟨[115, 117, 98, 32, 49, 32, 32, 120], false, [98, 97, 100]⟩,
  ⟨[115, 117, 98, 32, 49, 32, 97, 32, 127], false, [98, 97, 100]⟩,
  ⟨[115, 117, 98, 32, 49, 32, 97, 32, 194, 160], false, [98, 97, 100]⟩,
  ⟨[115, 117, 98, 32, 49, 32, 97, 32, 9], false, [98, 97, 100]⟩,
  ⟨[115, 117, 98, 32, 49, 32, 97, 32, 128], false, [98, 97, 100]⟩,
  ⟨[115, 117, 98, 32, 49, 32, 97, 32, 195], false, [98, 97, 100]⟩,
  ⟨[115, 117, 98, 32, 49, 32, 97, 32, 192, 161], false, [98, 97, 100]⟩,
  ⟨[115, 117, 98, 32, 49, 32, 97, 32, 237, 160, 128], false, [98, 97, 100]⟩,
  ⟨[115, 117, 98, 32, 49, 32, 97, 32, 240, 159, 152, 128], false, [98, 97, 100]⟩,
  ⟨[115, 117, 98, 32, 49, 32, 97, 32, 224, 128, 161], false, [98, 97, 100]⟩,
  ⟨longL, false, [98, 97, 100]⟩,
  ⟨[], false, [98, 97, 100]⟩,
  ⟨[32], false, [98, 97, 100]⟩,
  ⟨[112, 117, 108, 108, 32], false, [98, 97, 100]⟩,
  ⟨[32, 112, 117, 108, 108], false, [98, 97, 100]⟩,
  ⟨[112, 117, 108, 108, 32, 49], false, [98, 97, 100]⟩,
  ⟨[80, 117, 108, 108], false, [98, 97, 100]⟩,
  ⟨[112, 117, 108, 108, 115], false, [98, 97, 100]⟩,
  ⟨[99, 97, 110], false, [98, 97, 100]⟩,
  ⟨[99, 97, 110, 32, 120], false, [98, 97, 100]⟩,
  ⟨[99, 97, 110, 32, 49, 32, 50], false, [98, 97, 100]⟩,
  ⟨[102, 97, 105, 108, 32, 49], false, [98, 97, 100]⟩,
  ⟨[102, 97, 105, 108, 32, 49, 32, 120], false, [98, 97, 100]⟩,
  ⟨[102, 97, 105, 108, 32, 49, 32, 48, 50], false, [98, 97, 100]⟩,
  ⟨[100, 111, 110, 101, 32, 49, 32, 49], false, [98, 97, 100]⟩,
  ⟨[100, 111, 110, 101, 32, 49, 32, 49, 32, 120, 32, 121], false, [98, 97, 100]⟩,
  ⟨[98, 101, 97, 116, 32, 49], false, [98, 97, 100]⟩,
  ⟨[100, 114, 97, 105, 110, 32, 49], false, [98, 97, 100]⟩,
  ⟨[], true, [98, 97, 100]⟩,
  ⟨[112, 117, 108, 108], true, [98, 97, 100]⟩,
  ⟨[112, 117, 108, 108, 32, 48, 48, 48, 48, 48, 48, 48, 48], true, [98, 97, 100]⟩,
  ⟨[112, 117, 108, 108, 32, 55, 48, 55, 53, 54, 99, 54, 99, 32], true, [98, 97, 100]⟩,
  ⟨[32, 112, 117, 108, 108, 32, 55, 48, 55, 53, 54, 99, 54, 99], true, [98, 97, 100]⟩,
  ⟨[112, 117, 108, 108, 32, 55, 48, 55, 53, 54, 99, 54], true, [98, 97, 100]⟩,
  ⟨[112, 117, 108, 108, 55, 48, 55, 53, 54, 99, 54, 99], true, [98, 97, 100]⟩,
  ⟨[112, 117, 108, 108, 32, 55, 48, 55, 53, 54, 99, 54, 99, 13], true, [98, 97, 100]⟩,
  ⟨[112, 117, 108, 108, 32, 55, 48, 55, 53, 54, 67, 54, 67], true, [98, 97, 100]⟩,
  ⟨[112, 117, 108, 108, 32, 55, 48, 55, 53, 54, 99, 54, 100], true, [98, 97, 100]⟩,
  ⟨[112, 117, 108, 108, 32, 55, 48, 55, 53, 54, 100, 54, 99], true, [98, 97, 100]⟩,
  ⟨[112, 117, 108, 108, 32, 55, 48, 55, 54, 54, 99, 54, 99], true, [98, 97, 100]⟩,
  ⟨[112, 117, 108, 108, 32, 55, 49, 55, 53, 54, 99, 54, 99], true, [98, 97, 100]⟩,
  ⟨[97, 98, 48, 48, 48, 48, 48, 48], true, [98, 97, 100]⟩,
  ⟨[32, 48, 48, 48, 48, 48, 48, 48, 48], true, [98, 97, 100]⟩,
  ⟨[112, 117, 108, 108, 32, 55, 48, 55, 53, 54, 99, 54, 99], true, []⟩,
  ⟨[115, 117, 98, 32, 49, 32, 97, 32, 120, 32, 49, 54, 55, 102, 56, 55, 56, 48], true, [97, 99, 99, 32, 49]⟩]
def cfgRef : Cfg := ⟨5, 0, 1, 1, 0⟩
def refText (x : RefLine) : Bytes := if x.plain then x.s else sealL x.s
def refOk (x : RefLine) : Bool :=
  decide ((rFeed (rNew cfgRef) (-3) (refText x)).out = []) && decide ((rFeed (rTold (rFeed (rNew cfgRef) (-3) (refText x))) (-3) [10]).out = if x.said = [] then [] else [(-3, sealL x.said)])
set_option maxRecDepth 1000000 in
theorem ref_ok : ∀ x ∈ refLines, refOk x = true := by decide +kernel
theorem ref_len : refLines.length = 70 := by decide +kernel
theorem ref_short : ∀ x ∈ refLines, x.s.length ≤ 80 := by decide +kernel
def refCfgs : List Cfg := [⟨1, 0, 1, 1, 0⟩, ⟨20, 5, 5, 8, 20⟩, ⟨0, 0, 0, 0, 0⟩, ⟨0, 0, 1, 1, 0⟩, ⟨21, 0, 1, 1, 0⟩, ⟨1, -1, 1, 1, 0⟩, ⟨1, 6, 1, 1, 0⟩, ⟨1, 0, 0, 1, 0⟩, ⟨1, 0, 6, 1, 0⟩, ⟨1, 0, 1, 0, 0⟩, ⟨1, 0, 1, 9, 0⟩, ⟨1, 0, 1, 1, -1⟩, ⟨1, 0, 1, 1, 21⟩]
theorem cfgs_ok : ∀ k < 13, (refCfgs[k]?).map cfgOk = some (decide (k < 2)) := by decide +kernel
end Go.Proofs.YtaejfobbogahmaaGreatDoor
