/-
  The walk of Known.
-/
import Derived.Test.YtaejfobbogahmaaGreatDoorMkStepK
set_option linter.unusedVariables false
set_option linter.unusedSimpArgs false
namespace Go.Proofs.YtaejfobbogahmaaGreatDoor
open Go Go.RowKit

theorem seal_lit (s z : Bytes) (hz : sealL s = z) (hs : s.length ≤ 1000000000000) (w : World) : Calls Tryz.prog 19 #[vs (bs s)] w fun e w' => e = .returned (vs (bs z)) ∧ Below w.heap.size w w' := by
  subst hz; exact Seal_calls (G := 0) s hs
theorem known_good : Good cfgKnown knownScript := ⟨by decide, known_short, known_ok, by decide⟩

/-! ### The table -/
def allocs (w : World) (l : List Obj) : World := l.foldl World.alloc w
theorem allocs_size : ∀ (l : List Obj) (w : World), (allocs w l).heap.size = w.heap.size + l.length
  | [], _ => rfl
  | o :: l, w => by
    show (allocs (w.alloc o) l).heap.size = _
    rw [allocs_size l, World.size_alloc, List.length_cons]; omega
theorem allocs_old : ∀ (l : List Obj) (w : World) (b : Nat), b < w.heap.size → (allocs w l).heap[b]? = w.heap[b]?
  | [], _, _, _ => rfl
  | o :: l, w, b, h => by
    show (allocs (w.alloc o) l).heap[b]? = _
    rw [allocs_old l _ b (by rw [World.size_alloc]; omega)]
    exact blk_alloc_lt w h
theorem allocs_get : ∀ (l : List Obj) (w : World) (i : Nat) (o : Obj), l[i]? = some o → (allocs w l).heap[w.heap.size + i]? = some o
  | [], _, _, _, h => by simp at h
  | o :: l, w, 0, p, h => by
    simp at h; subst h
    show (allocs (w.alloc o) l).heap[w.heap.size + 0]? = _
    rw [allocs_old l _ _ (by rw [World.size_alloc]; omega)]
    exact blk_alloc_new w
  | o :: l, w, i + 1, p, h => by
    show (allocs (w.alloc o) l).heap[w.heap.size + (i + 1)]? = _
    have := allocs_get l (w.alloc o) i p (by simpa using h)
    rw [World.size_alloc] at this
    rw [show w.heap.size + (i + 1) = w.heap.size + 1 + i from by omega]
    exact this
theorem allocs_below : ∀ (l : List Obj) (w : World), Below w.heap.size w (allocs w l)
  | [], _ => Below.refl _ _
  | o :: l, w => by
    have h1 : Below w.heap.size w (w.alloc o) := below_alloc (Below.refl _ _)
    exact below_grow h1 (allocs_below l (w.alloc o))

def evC : Ev → Int
  | .say c _ => c
  | _ => 0
def evS : Ev → Bytes
  | .say _ s => s
  | _ => [116, 105, 99, 107]
def tabObjs : Script → List Obj
  | [] => []
  | e :: l => if e.2.length = 0 then tabObjs l else .cells ((e.2.map (·.1)).map encI).toArray 3 :: .cells ((e.2.map (·.2)).map fun s => vs (bs s)).toArray 9 :: tabObjs l
def tabCells : Nat → Script → List Value
  | _, [] => []
  | n, e :: l => vi (evC e.1) :: vs (bs (evS e.1)) :: (if e.2.length = 0 then .slice none 0 0 :: .slice none 0 0 :: tabCells n l
    else .slice (some ⟨n, 0, none⟩) e.2.length e.2.length :: .slice (some ⟨n + 1, 0, none⟩) e.2.length e.2.length :: tabCells (n + 2) l)
theorem tab_at : ∀ (l : Script) (n : Nat), (∀ e ∈ l, e.2.length ≤ 1000) → ∀ (k : Nat) (e : E1), l[k]? = some e →
    ∃ va vb a b, (tabCells n l)[k * 4]? = some (vi (evC e.1)) ∧ (tabCells n l)[k * 4 + 1]? = some (vs (bs (evS e.1))) ∧ (tabCells n l)[k * 4 + 2]? = some (.slice va a a) ∧ (tabCells n l)[k * 4 + 3]? = some (.slice vb b b) ∧
      ∀ W : World, (∀ i o, (tabObjs l)[i]? = some o → W.heap[n + i]? = some o) → NumsAt W (.slice va a a) (e.2.map (·.1)) ∧ StrsAt W (.slice vb b b) (e.2.map (·.2))
  | [], _, _, k, e, h => by simp at h
  | p :: l, n, hl, 0, e, h => by
    simp at h; subst h
    by_cases h0 : p.2.length = 0
    · have hx : p.2 = [] := List.length_eq_zero_iff.1 h0
      refine ⟨none, none, 0, 0, rfl, rfl, ?_, ?_, fun W ho => ⟨?_, ?_⟩⟩
      · unfold tabCells; rw [if_pos h0]; rfl
      · unfold tabCells; rw [if_pos h0]; rfl
      · rw [hx]; exact .inl ⟨rfl, rfl, rfl⟩
      · rw [hx]; exact .inl ⟨rfl, rfl, rfl⟩
    · refine ⟨some ⟨n, 0, none⟩, some ⟨n + 1, 0, none⟩, p.2.length, p.2.length, rfl, rfl, ?_, ?_, fun W ho => ⟨?_, ?_⟩⟩
      · unfold tabCells; rw [if_neg h0]; rfl
      · unfold tabCells; rw [if_neg h0]; rfl
      · exact nums_lit (ho 0 _ (by unfold tabObjs; rw [if_neg h0]; rfl)) rfl (by simp) (by omega) (hl p (by simp))
      · exact strs_lit (ho 1 _ (by unfold tabObjs; rw [if_neg h0]; rfl)) rfl (by simp) (by omega) (hl p (by simp))
  | p :: l, n, hl, k + 1, e, h => by
    have e4 : (k + 1) * 4 = k * 4 + 1 + 1 + 1 + 1 := by omega
    rw [e4]
    by_cases h0 : p.2.length = 0
    · obtain ⟨va, vb, a, b, h1, h2, h3, h4, h5⟩ := tab_at l n (fun e he => hl e (by simp [he])) k e (by simpa using h)
      refine ⟨va, vb, a, b, ?_, ?_, ?_, ?_, fun W ho => h5 W (fun i o hi => ho i o (by unfold tabObjs; rw [if_pos h0]; exact hi))⟩ <;> (unfold tabCells; rw [if_pos h0])
      · simpa using h1
      · simpa [Nat.add_right_comm] using h2
      · simpa [Nat.add_right_comm] using h3
      · simpa [Nat.add_right_comm] using h4
    · obtain ⟨va, vb, a, b, h1, h2, h3, h4, h5⟩ := tab_at l (n + 2) (fun e he => hl e (by simp [he])) k e (by simpa using h)
      refine ⟨va, vb, a, b, ?_, ?_, ?_, ?_, fun W ho => h5 W (fun i o hi => by
        have := ho (i + 1 + 1) o (by unfold tabObjs; rw [if_neg h0]; simpa using hi)
        rw [show n + 2 + i = n + (i + 1 + 1) from by omega]; exact this)⟩ <;> (unfold tabCells; rw [if_neg h0])
      · simpa using h1
      · simpa [Nat.add_right_comm] using h2
      · simpa [Nat.add_right_comm] using h3
      · simpa [Nat.add_right_comm] using h4
theorem wp_world {P : Program} {s : Code} {Q : Exit → Act → World → Prop} {a : Act} {w w' : World} (h : w = w') (h2 : s.wp P Q a w') : s.wp P Q a w := h ▸ h2
def evOk : Ev → Bool
  | .say _ s => decide (s ≠ [116, 105, 99, 107])
  | .tick => true
  | .close _ => false
theorem known_kinds : ∀ e ∈ knownScript, evOk e.1 = true := by decide +kernel
theorem known_short2 : ∀ e ∈ knownScript, ∀ p ∈ e.2, p.2.length ≤ 1000000 := by decide +kernel
theorem drop_cons {l : Script} {k : Nat} {e : E1} (h : l[k]? = some e) : l.drop k = e :: l.drop (k + 1) := by
  have hk := (List.getElem?_eq_some_iff.1 h)
  rw [List.drop_eq_getElem_cons hk.1, hk.2]
/-- The table in a world: its cells, and what its slices hold. -/
structure TabW (n T : Nat) (w : World) : Prop where
  tab : w.heap[T]? = some (.cells (tabCells n knownScript).toArray 61 (0, 0))
  obj : ∀ i o, (tabObjs knownScript)[i]? = some o → w.heap[n + i]? = some o
theorem tabObjs_len : (tabObjs knownScript).length = 22 := by decide +kernel
theorem TabW.start (w : World) : TabW w.heap.size (w.heap.size + 22) (allocs w (tabObjs knownScript ++ [.cells (tabCells w.heap.size knownScript).toArray 61])) := by
  refine ⟨?_, fun i o hi => ?_⟩
  · refine allocs_get _ w 22 _ ?_
    rw [List.getElem?_append_right (by rw [tabObjs_len]; omega), tabObjs_len]; rfl
  · refine allocs_get _ w i o ?_
    rw [List.getElem?_append_left (List.getElem?_eq_some_iff.1 hi).1]
    exact hi
theorem TabW.keep {n : Nat} {w w' : World} (h : TabW n (n + 22) w) (hk : ∀ b, n ≤ b ∧ b < n + 23 → w'.heap[b]? = w.heap[b]?) : TabW n (n + 22) w' := by
  refine ⟨(hk _ (by omega)).trans h.tab, fun i o hi => (hk _ ?_).trans (h.obj i o hi)⟩
  have := (List.getElem?_eq_some_iff.1 hi).1
  rw [tabObjs_len] at this
  omega
theorem known_len : knownScript.length = 18 := by decide
theorem known_small : ∀ e ∈ knownScript, e.2.length ≤ 1000 := by decide +kernel

set_option maxRecDepth 100000 in
set_option maxHeartbeats 4000000 in
theorem Known_walk {G : Nat} {w : World} (hE : Env G w) (hG : G ≤ w.heap.size) :
    Calls Tryz.prog 9 #[] w fun e w' => e = .returned (.bool true) ∧ Below w.heap.size w w' := by
  have HG := Lib.hid hG
  have HE := Lib.hid hE
  clear hE hG
  go_enter Tryz.func9, Tryz.ntmps9
  go_wp2_with fail
  refine (seal_lit [] [32, 48, 48, 48, 48, 48, 48, 48, 48] (by decide +kernel) (by simp) _).mono ?_
  rintro e w1 ⟨rfl, hb1⟩
  have HB1 := Lib.hid hb1
  have e1 : bs [32, 48, 48, 48, 48, 48, 48, 48, 48] = ⟨#[32, 48, 48, 48, 48, 48, 48, 48, 48]⟩ := rfl
  clear hb1
  go_wp2_with fail
  refine (seal_lit [112, 117, 108, 108] [112, 117, 108, 108, 32, 55, 48, 55, 53, 54, 99, 54, 99] (by decide +kernel) (by simp) _).mono ?_
  rintro e w2 ⟨rfl, hb2⟩
  have HB2 := Lib.hid (below_grow HB1.out hb2)
  have e2 : bs [112, 117, 108, 108, 32, 55, 48, 55, 53, 54, 99, 54, 99] = ⟨#[112, 117, 108, 108, 32, 55, 48, 55, 53, 54, 99, 54, 99]⟩ := rfl
  clear hb2
  go_wp2_with fail
  refine (seal_lit [115, 117, 98, 32, 49, 32, 97, 32, 120] [115, 117, 98, 32, 49, 32, 97, 32, 120, 32, 49, 54, 55, 102, 56, 55, 56, 48] (by decide +kernel) (by simp) _).mono ?_
  rintro e w3 ⟨rfl, hb3⟩
  have HB3 := Lib.hid (below_grow HB2.out hb3)
  have e3 : bs [115, 117, 98, 32, 49, 32, 97, 32, 120, 32, 49, 54, 55, 102, 56, 55, 56, 48] = ⟨#[115, 117, 98, 32, 49, 32, 97, 32, 120, 32, 49, 54, 55, 102, 56, 55, 56, 48]⟩ := rfl
  have HBG := Lib.hid (begin_at (HE.out.grow HB3.out) (Nat.le_trans HG.out HB3.out.size) known_good)
  have HG3 := Lib.hid (Nat.le_trans HG.out HB3.out.size)
  clear hb3
  go_wp2_with fail
  refine HBG.out.mono ?_
  rintro e w4 ⟨D, Wb, rfl, hk⟩
  have HK4 := Lib.hid hk
  clear hk e1 e2 e3 HBG HB1 HB2
  go_wp2_with fail
  obtain ⟨T, hT⟩ : ∃ T, T = w4.heap.size + 22 := ⟨_, rfl⟩
  have hbW := allocs_below (tabObjs knownScript ++ [.cells (tabCells w4.heap.size knownScript).toArray 61]) w4
  have hsW := allocs_size (tabObjs knownScript ++ [.cells (tabCells w4.heap.size knownScript).toArray 61]) w4
  have htW := TabW.start w4
  obtain ⟨W, hW⟩ : ∃ W, W = allocs w4 (tabObjs knownScript ++ [.cells (tabCells w4.heap.size knownScript).toArray 61]) := ⟨_, rfl⟩
  rw [show w4.heap.size + 1 + 1 + 1 + 1 + 1 + 1 + 1 + 1 + 1 + 1 + 1 + 1 + 1 + 1 + 1 + 1 + 1 + 1 + 1 + 1 + 1 + 1 = T from hT.symm]
  refine wp_world (w' := W) (Eq.trans (by kernel_rfl) hW.symm) ?_
  rw [← hW] at hbW hsW htW
  rw [List.length_append, tabObjs_len, List.length_singleton] at hsW
  obtain ⟨n, hn⟩ : ∃ n, n = w4.heap.size := ⟨_, rfl⟩
  have HKW : Hid (RAtK (fun b => n ≤ b ∧ b < n + 23) G w3 D Wb cfgKnown knownScript knownScript W) := (HK4.out.toK.add hbW).mono (fun b hb => .inr ⟨by omega, by omega⟩)
  have HTE : Hid (T = n + 22) := show T = n + 22 by rw [hn, hT]
  have HTW : Hid (TabW n T W) := show TabW _ _ _ by rw [hn, hT]; exact htW
  clear hbW hsW htW hW HK4 hT hn
  go_loopw [5, 6, 67] (fun _ _ s67 wr => ∃ k : Nat, s67 = .int .i64 k ∧ k ≤ 18 ∧ Hid (RAtK (fun b => n ≤ b ∧ b < n + 23) G w3 D Wb cfgKnown knownScript (knownScript.drop k) wr ∧ TabW n T wr)) (fun _ _ s67 _ => 18 - (intOf s67).toNat)
  case atStart => exact ⟨0, by go_num, by omega, HKW.out, HTW.out⟩
  case round =>
    obtain ⟨k, rfl, hk, HK⟩ := hrel
    by_cases hkl : k < 18
    · have hlt : decide ((k : Int) < 18) = true := decide_eq_true (by omega)
      have hk0 : (0 : Int) ≤ (k : Int) := by omega
      have hk1 : (k : Int) < 18 := by omega
      obtain ⟨e, he⟩ : ∃ e, knownScript[k]? = some e := ⟨_, List.getElem?_eq_getElem (by rw [known_len]; exact hkl)⟩
      obtain ⟨va, vb, na, nb, c0, c1, c2, c3, hns⟩ := tab_at knownScript n known_small k e he
      have d0 : wr.cell? ⟨T, k * 4, none⟩ = some (vi (evC e.1)) := cell_of_blk HK.out.2.tab (by simpa using c0)
      have d1 : wr.cell? ⟨T, k * 4 + 1, none⟩ = some (vs (bs (evS e.1))) := cell_of_blk HK.out.2.tab (by simpa using c1)
      have d2 : wr.cell? ⟨T, k * 4 + 2, none⟩ = some (.slice va na na) := cell_of_blk HK.out.2.tab (by simpa using c2)
      have d3 : wr.cell? ⟨T, k * 4 + 3, none⟩ = some (.slice vb nb nb) := cell_of_blk HK.out.2.tab (by simpa using c3)
      have HNS := Lib.hid hns
      have HE1 := Lib.hid (List.mem_of_getElem? he)
      have HKD := Lib.hid (HK.out.1.cast (drop_cons he))
      have HTR := Lib.hid HK.out.2
      clear he c0 c1 c2 c3 hns HK
      obtain ⟨ev1, x⟩ := e
      have hko := known_kinds _ HE1.out
      cases ev1 with
      | close c => exact absurd hko (by simp [evOk])
      | tick =>
        replace d0 : wr.cell? ⟨T, k * 4, none⟩ = some (vi 0) := d0
        replace d1 : wr.cell? ⟨T, k * 4 + 1, none⟩ = some (.string ⟨#[116, 105, 99, 107]⟩) := d1
        clear hko
        obtain ⟨W2, hW2⟩ : ∃ W2, W2 = wr.alloc (.cells #[vi 0, .string ⟨#[116, 105, 99, 107]⟩, .slice va na na, .slice vb nb nb] 61) := ⟨_, rfl⟩
        obtain ⟨X, hX⟩ : ∃ X, X = wr.heap.size := ⟨_, rfl⟩
        have hbA : Below wr.heap.size wr W2 := by rw [hW2]; exact below_alloc (Below.refl _ _)
        have hxb : W2.heap[X]? = some (.cells #[vi 0, .string ⟨#[116, 105, 99, 107]⟩, .slice va na na, .slice vb nb nb] 61 (0, 0)) := by rw [hW2, hX]; exact blk_alloc_new wr
        have hxs : W2.heap.size = X + 1 := by rw [hW2, hX]; simp
        have HKA := Lib.hid (HKD.out.add hbA)
        have HXB := Lib.hid hxb
        have HXS : Hid (X < W2.heap.size ∧ wr.heap.size ≤ X) := ⟨by omega, by omega⟩
        have HTA : Hid (TabW n T W2) := show TabW n T W2 by
          have h1 := HTR.out
          rw [HTE.out] at h1 ⊢
          obtain ⟨ρ, L, _, _, _, q4⟩ := HKD.out.rep
          exact h1.keep (fun b hb => hbA.block b (q4 b hb).1)
        have cWA := HKA.out.cell
        have x0 := cell_of_blk (off := 0) hxb rfl
        have x1 := cell_of_blk (off := 1) hxb rfl
        have x2 := cell_of_blk (off := 2) hxb rfl
        have x3 := cell_of_blk (off := 3) hxb rfl
        clear hbA hxb hxs
        go_upto_region 10 with fail
        rw [← hW2, ← hX]
        clear hW2 hX d0 d1 d2 d3
        go_wp2_with fail
        refine (tick_k HG3.out known_good (n := x.length) rfl HKA.out).mono ?_
        rintro e w6 ⟨va6, vc6, rfl, hk6, ho, hkp⟩
        have hx6 := (hkp X (.inr ⟨HXS.out.2, HXS.out.1⟩)).trans HXB.out
        have y2 := cell_of_blk (off := 2) hx6 rfl
        have y3 := cell_of_blk (off := 3) hx6 rfl
        have HT6 : Hid (TabW n T w6) := show TabW n T w6 by
          have h1 := HTA.out
          rw [HTE.out] at h1 ⊢
          exact h1.keep (fun b hb => hkp b (.inl hb))
        have HN6 := Lib.hid (HNS.out w6 HT6.out.obj)
        have HK6 := Lib.hid hk6
        have HO6 := Lib.hid ho
        clear hx6 hkp hk6 ho x0 x1 x2 x3 cWA
        go_wp2_with fail
        refine (is_calls x HO6.out HN6.out.1 HN6.out.2 (known_short2 _ HE1.out)).mono ?_
        rintro e w7 ⟨rfl, hb⟩
        have HK7 := Lib.hid ((HK6.out.grow hb).mono (fun b (hb : n ≤ b ∧ b < n + 23) => .inl hb))
        have HT7 : Hid (TabW n T w7) := show TabW n T w7 by
          have h1 := HT6.out
          have h2 := HK6.out
          rw [HTE.out] at h1 ⊢
          obtain ⟨ρ, L, _, _, _, q4⟩ := h2.rep
          exact h1.keep (fun b hb2 => hb.block b (q4 b (.inl hb2)).1)
        clear hb y2 y3 HK6 HO6 HN6 HT6
        go_wp2_with fail
        go_roundw
        case rel => exact ⟨k + 1, by go_num, by omega, HK7.out, HT7.out⟩
        case measure => simp [intOf]; omega
      | say c s =>
        have hs : s ≠ [116, 105, 99, 107] := by simpa [evOk] using hko
        have ht : (bs s).toList = s := bs_toList _
        have hbe : (s == [116, 105, 99, 107]) = false := by simpa using hs
        replace d0 : wr.cell? ⟨T, k * 4, none⟩ = some (vi c) := d0
        replace d1 : wr.cell? ⟨T, k * 4 + 1, none⟩ = some (vs (bs s)) := d1
        clear hs hko
        obtain ⟨W2, hW2⟩ : ∃ W2, W2 = wr.alloc (.cells #[vi c, vs (bs s), .slice va na na, .slice vb nb nb] 61) := ⟨_, rfl⟩
        obtain ⟨X, hX⟩ : ∃ X, X = wr.heap.size := ⟨_, rfl⟩
        have hbA : Below wr.heap.size wr W2 := by rw [hW2]; exact below_alloc (Below.refl _ _)
        have hxb : W2.heap[X]? = some (.cells #[vi c, vs (bs s), .slice va na na, .slice vb nb nb] 61 (0, 0)) := by rw [hW2, hX]; exact blk_alloc_new wr
        have hxs : W2.heap.size = X + 1 := by rw [hW2, hX]; simp
        have HKA := Lib.hid (HKD.out.add hbA)
        have HXB := Lib.hid hxb
        have HXS : Hid (X < W2.heap.size ∧ wr.heap.size ≤ X) := ⟨by omega, by omega⟩
        have HTA : Hid (TabW n T W2) := show TabW n T W2 by
          have h1 := HTR.out
          rw [HTE.out] at h1 ⊢
          obtain ⟨ρ, L, _, _, _, q4⟩ := HKD.out.rep
          exact h1.keep (fun b hb => hbA.block b (q4 b hb).1)
        have x0 := cell_of_blk (off := 0) hxb rfl
        have x1 := cell_of_blk (off := 1) hxb rfl
        clear hbA hxb hxs
        go_upto_region 10 with fail
        rw [← hW2, ← hX]
        clear hW2 hX d0 d1 d2 d3
        go_wp2_with fail
        refine (say_k HG3.out known_good (n := x.length) rfl HKA.out).mono ?_
        rintro e w6 ⟨va6, vc6, rfl, hk6, ho, hkp⟩
        have hx6 := (hkp X (.inr ⟨HXS.out.2, HXS.out.1⟩)).trans HXB.out
        have y2 := cell_of_blk (off := 2) hx6 rfl
        have y3 := cell_of_blk (off := 3) hx6 rfl
        have HT6 : Hid (TabW n T w6) := show TabW n T w6 by
          have h1 := HTA.out
          rw [HTE.out] at h1 ⊢
          exact h1.keep (fun b hb => hkp b (.inl hb))
        have HN6 := Lib.hid (HNS.out w6 HT6.out.obj)
        have HK6 := Lib.hid hk6
        have HO6 := Lib.hid ho
        clear hx6 hkp hk6 ho x0 x1
        go_wp2_with fail
        refine (is_calls x HO6.out HN6.out.1 HN6.out.2 (known_short2 _ HE1.out)).mono ?_
        rintro e w7 ⟨rfl, hb⟩
        have HK7 := Lib.hid ((HK6.out.grow hb).mono (fun b (hb : n ≤ b ∧ b < n + 23) => .inl hb))
        have HT7 : Hid (TabW n T w7) := show TabW n T w7 by
          have h1 := HT6.out
          have h2 := HK6.out
          rw [HTE.out] at h1 ⊢
          obtain ⟨ρ, L, _, _, _, q4⟩ := h2.rep
          exact h1.keep (fun b hb2 => hb.block b (q4 b (.inl hb2)).1)
        clear hb y2 y3 HK6 HO6 HN6 HT6
        go_wp2_with fail
        go_roundw
        case rel => exact ⟨k + 1, by go_num, by omega, HK7.out, HT7.out⟩
        case measure => simp [intOf]; omega
    · obtain rfl : k = 18 := by omega
      have HB := Lib.hid (below_grow HB3.out HK.out.1.below)
      clear HK
      go_wp2_with fail
      go_ret
      exact ⟨rfl, HB.out⟩
end Go.Proofs.YtaejfobbogahmaaGreatDoor
