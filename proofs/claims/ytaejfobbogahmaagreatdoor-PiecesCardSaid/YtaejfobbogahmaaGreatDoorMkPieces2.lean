/-
  Pieces: the list that is gathered while bytes are fed piece by piece.
-/
import Derived.Test.YtaejfobbogahmaaGreatDoorMkAppend
import Derived.Test.YtaejfobbogahmaaGreatDoorMkPiecesE
set_option linter.unusedVariables false
set_option linter.unusedSimpArgs false
namespace Go.Proofs.YtaejfobbogahmaaGreatDoor
open Go Go.RowKit

/-- i bytes of S have been fed to D2; v holds what was said. W: the world in which the first list was handed out; F: blocks that stay as they were there. -/
def AllAt (F : Nat → Prop) (G : Nat) (w0 : World) (D1 : Nat) (r1 : Raw) (D2 : Nat) (W : World) (S : Bytes) (i : Nat) (v : Value) (w : World) : Prop :=
  ∃ (q : Raw) (acc : List (Int × Bytes)) (E : Nat → Prop), Said rPiece q acc (S.take i) ∧ Inv (100 + i) (400 + 4 * i) q ∧ Few q ∧ q.out = [] ∧ TwoAt (fun b => F b ∨ E b) G w0 D1 r1 D2 q w ∧
    SlAt w 59 2 E v acc.length (outCells acc) ∧ (∀ b, E b → ¬ F b ∧ w0.heap.size ≤ b) ∧ ∀ b, F b → w.heap[b]? = W.heap[b]?
/-- A piece has been fed: its list lies beside what was gathered. -/
def MidAt (F : Nat → Prop) (G : Nat) (w0 : World) (D1 : Nat) (r1 : Raw) (D2 : Nat) (W : World) (S : Bytes) (i j : Nat) (v y : Value) (w : World) : Prop :=
  ∃ (q : Raw) (acc l : List (Int × Bytes)) (E E2 : Nat → Prop), Said rPiece q (acc ++ l) (S.take j) ∧ Inv (100 + j) (400 + 4 * j) q ∧ Few q ∧ q.out = [] ∧ TwoAt (fun b => (F b ∨ E b) ∨ E2 b) G w0 D1 r1 D2 q w ∧
    SlAt w 59 2 E v acc.length (outCells acc) ∧ SlAt w 59 2 E2 y l.length (outCells l) ∧ (∀ b, E b → ¬ F b ∧ w0.heap.size ≤ b) ∧ (∀ b, F b → w.heap[b]? = W.heap[b]?) ∧ i ≤ j
section
variable {F : Nat → Prop} {G D1 D2 : Nat} {w0 w w' W : World} {r1 : Raw} {S : Bytes} {i j : Nat} {v y : Value}
theorem AllAt.form (h : AllAt F G w0 D1 r1 D2 W S i v w) : ∃ va m vc, v = .slice va m vc := by
  obtain ⟨q, acc, E, _, _, _, _, _, h6, _⟩ := h
  obtain ⟨a, c, rfl, _, _⟩ := SlAt.form' h6
  exact ⟨a, _, c, rfl⟩
theorem AllAt.drew (hG : G ≤ w0.heap.size) (h : AllAt F G w0 D1 r1 D2 W S i v w) : AllAt F G w0 D1 r1 D2 W S i v w.drew := by
  obtain ⟨q, acc, E, h1, h2, h3, h4, h5, h6, h7, h8⟩ := h
  exact ⟨q, acc, E, h1, h2, h3, h4, (h5.grow hG (w' := w.drew) ⟨rfl, rfl, rfl, Nat.le_refl _, fun _ _ => rfl⟩).mono (fun _ h => .inl h), h6.of_blk (fun _ _ _ => rfl) (fun _ h _ => h), h7, h8⟩
theorem all_feed (hG : G ≤ w0.heap.size) (h : AllAt F G w0 D1 r1 D2 W S i v w) {p : Bytes} (hp : S.take j = S.take i ++ p) (hj : j = i + p.length) (hS : j ≤ 4106) :
    Calls Tryz.prog 20 #[vp D2, vi 1, vs (bs p)] w fun e w' => ∃ ya m yc, e = .returned (.slice ya m yc) ∧ MidAt F G w0 D1 r1 D2 W S i j v (.slice ya m yc) w' := by
  obtain ⟨q, acc, E, h1, h2, h3, h4, h5, h6, h7, h8⟩ := h
  refine (feed_two h5.swap hG h2 h3 1 p (by unfold NB; omega) (by unfold NB; omega)).mono ?_
  rintro e w' ⟨ya, yc, E2, rfl, k1, k2, k3, k4⟩
  refine ⟨ya, _, yc, rfl, rTold (rFeed q 1 p), acc, (rFeed q 1 p).out, E, E2, ?_, ?_, (h3.feed 1 p).told, rfl, k1.swap, ?_, k2, h7, fun b hb => (k4 b (.inl hb)).trans (h8 b hb), by omega⟩
  · rw [hp]; exact h1.next h2 p
  · have := (h2.feed 1 p).told
    exact this.mono (by omega) (by omega)
  · exact h6.of_blk (fun b hb _ => k4 b (.inr hb)) (fun _ h _ => h)
theorem MidAt.lens (h : MidAt F G w0 D1 r1 D2 W S i j v y w) (hj : j ≤ 4106) : ∃ va vc ya yc n m, v = .slice va n vc ∧ y = .slice ya m yc ∧ n + m ≤ maxLen ∧ (n + m) * 24 ≤ 140737488355328 := by
  obtain ⟨q, acc, l, E, E2, h1, h2, h3, h4, h5, h6, h7, h8, h9, h10⟩ := h
  obtain ⟨a, c, rfl, _, _⟩ := SlAt.form' h6
  obtain ⟨a2, c2, rfl, _, _⟩ := SlAt.form' h7
  have hl := (piece_inv.1.feed 1 (S.take j)).lim (by unfold NB; have := List.length_take_le j S; omega)
  have ho := h1 []
  rw [List.append_nil] at ho
  have hlen : acc.length + l.length ≤ 1000000000000 := by
    have h9 := hl.out
    rw [ho] at h9
    have h9 : ((acc ++ l) ++ (rFeed q 1 []).out).length ≤ 1000000000000 := h9
    rw [List.length_append, List.length_append] at h9
    omega
  exact ⟨a, c, a2, c2, _, _, rfl, rfl, by unfold maxLen; omega, by omega⟩
/-- What lies beside, and what is gathered when it has been appended. -/
theorem MidAt.parts {va : Option Addr} {n vc : Nat} {ya : Option Addr} {m yc : Nat} (hG : G ≤ w0.heap.size) (h : MidAt F G w0 D1 r1 D2 W S i j (.slice va n vc) (.slice ya m yc) w) :
    ∃ (E E2 : Nat → Prop) (xs ys : List Value), SlAt w 59 2 E (.slice va n vc) n xs ∧ SlAt w 59 2 E2 (.slice ya m yc) m ys ∧ (∀ u ∈ ys, u.oneCell' = true) ∧
      ∀ va' vc' w' E', (∀ b, E' b → E b ∨ b = w.heap.size) → Fr E' w w' → (∀ b, E' b → b < w'.heap.size) → SlAt w' 59 2 E' (.slice va' (n + m) vc') (n + m) (xs ++ ys) → AllAt F G w0 D1 r1 D2 W S j (.slice va' (n + m) vc') w' := by
  obtain ⟨q, acc, l, E, E2, h1, h2, h3, h4, h5, h6, h7, h8, h9, h10⟩ := h
  have en : n = acc.length := by
    obtain ⟨a, c, e, _⟩ := SlAt.form' h6
    injection e
  have em : m = l.length := by
    obtain ⟨a, c, e, _⟩ := SlAt.form' h7
    injection e
  subst en; subst em
  refine ⟨E, E2, _, _, h6, h7, outCells_one l, fun va' vc' w' E' g1 g2 g3 g4 => ?_⟩
  have hsz : w0.heap.size ≤ w.heap.size := h5.below.size
  have hFlt : ∀ b, F b → b < w.heap.size := fun b hb => by
    obtain ⟨ρ1, L1, ρ2, L2, _, _, _, _, q5⟩ := h5.rep
    exact (q5 b (.inl (.inl hb))).1
  have hEF : ∀ b, E' b → ¬ F b ∧ w0.heap.size ≤ b := fun b hb => by
    rcases g1 b hb with h | h
    · exact h8 b h
    · exact ⟨fun hf => by have := hFlt b hf; omega, by omega⟩
  refine ⟨q, acc ++ l, E', h1, h2, h3, h4, (h5.fr hG g2 (fun b hb => ⟨?_, (hEF b hb).2⟩)).mono (fun b hb => ?_), by rw [List.length_append, outCells_app]; exact g4, hEF, fun b hb => (g2.block b (hFlt b hb) (fun he => (hEF b he).1 hb)).trans (h9 b hb)⟩
  · rcases g1 b hb with h | h
    · exact .inl (.inl (.inr h))
    · exact .inr (by omega)
  · rcases hb with hb | hb
    · exact .inl (.inl (.inl hb))
    · rcases g1 b hb with h | h
      · exact .inl (.inl (.inr h))
      · exact .inr ⟨by omega, g3 b hb⟩
theorem AllAt.done {x : List (Int × Bytes)} (h : AllAt F G w0 D1 r1 D2 W S S.length v w) (hx : (rFeed rPiece 1 S).out = x) (hr : rTold (rFeed rPiece 1 S) = r1) (hS : S.length ≤ 4106) :
    ∃ (q : Raw) (E : Nat → Prop) (va : Option Addr) (vc : Nat), TwoAt F G w0 D1 r1 D2 q w ∧ lookCells q = lookCells r1 ∧ v = .slice va x.length vc ∧ SlAt w 59 2 E (.slice va x.length vc) x.length (outCells x) ∧ Inv 5000 50000 q ∧ ∀ b, F b → w.heap[b]? = W.heap[b]? := by
  obtain ⟨q, acc, E, h1, h2, h3, h4, h5, h6, h7, h8⟩ := h
  rw [List.take_length] at h1
  obtain ⟨e1, e2⟩ := h1.all h4
  rw [hx] at e1
  subst e1
  obtain ⟨va, vc, rfl, _, _⟩ := SlAt.form' h6
  refine ⟨q, E, va, vc, h5.mono (fun _ h => .inl h), ?_, rfl, h6, h2.mono (by omega) (by omega), h8⟩
  rw [← hr]
  have e3 : lookOf (rTold (rFeed rPiece 1 S)) = lookOf q := e2
  unfold lookOf at e3
  simp only [Prod.mk.injEq] at e3
  obtain ⟨q1, q2, q3, q4⟩ := e3
  unfold lookCells
  rw [q1, q2, q3, q4]
theorem AllAt.start {r2 : Raw} (hr : r2 = rPiece) (h : TwoAt F G w0 D1 r1 D2 r2 w) : AllAt F G w0 D1 r1 D2 w S 0 (.slice none 0 0) w := by
  subst hr
  exact ⟨rPiece, [], fun _ => False, by rw [List.take_zero]; exact Said.start _, piece_inv.1, piece_inv.2.1, piece_inv.2.2, h.mono (fun b hb => hb.elim id (fun f => f.elim)), .inl ⟨rfl, rfl, rfl⟩, fun _ f => f.elim, fun _ _ => rfl⟩
theorem bs_extract (S : Bytes) (i j : Nat) : (bs S).extract i j = bs ((S.drop i).take (j - i)) := by
  apply ByteArray.ext
  rw [ByteArray.data_extract]
  show S.toArray.extract i j = ((S.drop i).take (j - i)).toArray
  rw [List.extract_toArray]
theorem take_more (S : Bytes) {i j : Nat} (h : i ≤ j) (hj : j ≤ S.length) : S.take j = S.take i ++ (S.drop i).take (j - i) ∧ j = i + ((S.drop i).take (j - i)).length := by
  refine ⟨?_, ?_⟩
  · have := List.take_append_drop i (S.take j)
    rw [List.take_take, Nat.min_eq_left h, List.drop_take] at this
    exact this.symm
  · rw [List.length_take, List.length_drop]; omega
end
end Go.Proofs.YtaejfobbogahmaaGreatDoor
