/-
  Bytes in pieces: what a dispatcher says to them, piece by piece. No program in sight.
-/
import Derived.Test.YtaejfobbogahmaaGreatDoorMkEval
set_option linter.unusedVariables false
set_option linter.unusedSimpArgs false
namespace Go.Proofs.YtaejfobbogahmaaGreatDoor
open Go

/-- Of bytes s a part is said already, in pieces: q is the state now, acc what has been said. -/
def Said (ra q : Raw) (acc : List (Int × Bytes)) (part : Bytes) : Prop :=
  ∀ b, rFeed ra 1 (part ++ b) = { rFeed q 1 b with out := acc ++ (rFeed q 1 b).out }
theorem Said.start (ra : Raw) : Said ra ra [] [] := fun b => by
  rw [List.nil_append, List.nil_append]
theorem Said.next {N P : Nat} {ra q : Raw} {acc : List (Int × Bytes)} {part : Bytes} (h : Said ra q acc part) (hI : Inv N P q) (p : Bytes) : Said ra (rTold (rFeed q 1 p)) (acc ++ (rFeed q 1 p).out) (part ++ p) := fun b => by
  rw [List.append_assoc, h (p ++ b), rFeed_app hI, rFeed_out (hI.feed 1 p) 1 b]
  simp [List.append_assoc]
theorem feed_nil (q : Raw) : (rFeed q 1 []).out = q.out ∧ lookOf (rFeed q 1 []) = lookOf q := by
  have h1 : ∀ (r : Raw) (b : Bytes), (rRest r 1 b).out = r.out ∧ lookOf (rRest r 1 b) = lookOf r := fun r b => by
    unfold rRest
    split
    · exact ⟨rfl, rfl⟩
    · exact ⟨rfl, rfl⟩
  have h2 : (rConn q 1).out = q.out ∧ lookOf (rConn q 1) = lookOf q := by
    unfold rConn
    split
    · exact ⟨rfl, rfl⟩
    · exact ⟨rfl, rfl⟩
  have e : rFeed q 1 [] = rRest (rConn q 1) 1 (restOf (rConn q 1) 1) := rfl
  rw [e]
  exact ⟨(h1 _ _).1.trans h2.1, (h1 _ _).2.trans h2.2⟩
/-- When all is said. -/
theorem Said.all {ra q : Raw} {acc : List (Int × Bytes)} {s : Bytes} (h : Said ra q acc s) (hq : q.out = []) : (rFeed ra 1 s).out = acc ∧ lookOf (rFeed ra 1 s) = lookOf q := by
  have := h []
  rw [List.append_nil] at this
  rw [this]
  obtain ⟨h1, h2⟩ := feed_nil q
  refine ⟨?_, ?_⟩
  · show acc ++ (rFeed q 1 []).out = acc
    rw [h1, hq, List.append_nil]
  · rw [← h2]; rfl

def cfgPieces : Cfg := ⟨3, 1, 2, 3, 2⟩
def pText : Bytes := [115, 117, 98, 32, 57, 57, 57, 57, 57, 57, 32, 97, 32, 97]
def pAcc : Bytes := [97, 99, 99, 32, 57, 57, 57, 57, 57, 57]
/-- Both behind their first line. -/
def rPiece : Raw := rTold (rFeed (rNew cfgPieces) 9 (lineOf pText))
theorem piece_first : (rFeed (rNew cfgPieces) 9 (lineOf pText)).out = seals [(9, pAcc)] := by decide +kernel
/-- The bytes of the texts: as many as fit. -/
def pLine (k : Nat) (t : Bytes) : Bytes := (if k % 5 = 4 then t else sealL t) ++ [10]
def pBytes : Nat → List Bytes → Bytes → Bytes
  | _, [], s => s
  | k, t :: l, s => if 4096 < s.length + t.length then s else pBytes (k + 1) l (s ++ pLine k t)
theorem pLine_len (k : Nat) (t : Bytes) : (pLine k t).length ≤ t.length + 10 := by
  unfold pLine
  rw [List.length_append]
  split
  · simp
  · rw [sealL_len]; simp
theorem pBytes_len : ∀ (l : List Bytes) (k : Nat) (s : Bytes), s.length ≤ 4106 → (pBytes k l s).length ≤ 4106
  | [], _, _, h => h
  | t :: l, k, s, h => by
    unfold pBytes
    split
    · exact h
    · refine pBytes_len l (k + 1) _ ?_
      have := pLine_len k t
      rw [List.length_append]; omega
theorem piece_inv : Inv 100 400 rPiece ∧ Few rPiece ∧ rPiece.out = [] := by
  have h := ((Inv.init (c := cfgPieces) rfl).feed 9 (lineOf pText)).told
  exact ⟨h.mono (by decide) (by decide), ((Few.init cfgPieces).feed 9 _).told, rfl⟩
end Go.Proofs.YtaejfobbogahmaaGreatDoor
