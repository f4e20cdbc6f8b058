/-
  The walks of the statements' own functions: is, begin, world.say, over scripts.
  The walks of begin and world.say.
-/
import Derived.Test.YtaejfobbogahmaaGreatDoorMkNew
import Derived.Test.YtaejfobbogahmaaGreatDoorMkEval
import Derived.Deep.RegionHeld3
set_option linter.unusedVariables false
set_option linter.unusedSimpArgs false
namespace Go.Proofs.YtaejfobbogahmaaGreatDoor
open Go Go.RowKit

/-- A list that was handed out: who, and the text. -/
def OutsAt (w : World) (v : Value) (x : List (Int × Bytes)) : Prop := SlAt w 59 2 (fun _ => True) v x.length (outCells (seals x))
def NumsAt (w : World) (v : Value) (x : List Int) : Prop := SlAt w 3 1 (fun _ => True) v x.length (x.map encI)
def StrsAt (w : World) (v : Value) (x : List Bytes) : Prop := SlAt w 9 1 (fun _ => True) v x.length (x.map fun s => vs (bs s))
theorem OutsAt.below {w w' : World} {v : Value} {x : List (Int × Bytes)} (h : OutsAt w v x) (hb : Below w.heap.size w w') : OutsAt w' v x := SlAt.of_blk h (fun b _ hl => hb.block b hl) (fun _ h _ => h)
theorem NumsAt.below {w w' : World} {v : Value} {x : List Int} (h : NumsAt w v x) (hb : Below w.heap.size w w') : NumsAt w' v x := SlAt.of_blk h (fun b _ hl => hb.block b hl) (fun _ h _ => h)
theorem StrsAt.below {w w' : World} {v : Value} {x : List Bytes} (h : StrsAt w v x) (hb : Below w.heap.size w w') : StrsAt w' v x := SlAt.of_blk h (fun b _ hl => hb.block b hl) (fun _ h _ => h)

theorem outCells_at : ∀ (l : List (Int × Bytes)) (k : Nat) (p : Int × Bytes), l[k]? = some p → (outCells l)[2 * k]? = some (vi p.1) ∧ (outCells l)[2 * k + 1]? = some (vs (bs p.2))
  | [], k, p, h => by simp at h
  | q :: l, 0, p, h => by
    simp at h; subst h
    exact ⟨rfl, rfl⟩
  | q :: l, k + 1, p, h => by
    have := outCells_at l k p (by simpa using h)
    have e : outCells (q :: l) = vi q.1 :: vs (bs q.2) :: outCells l := rfl
    rw [e]
    exact ⟨by rw [show 2 * (k + 1) = 2 * k + 1 + 1 from by omega]; simpa using this.1, by rw [show 2 * (k + 1) + 1 = 2 * k + 1 + 1 + 1 from by omega]; simpa using this.2⟩

theorem cell_below {w w' : World} {a : Addr} {v : Value} (hb : Below w.heap.size w w') (h : w.cell? a = some v) : w'.cell? a = some v := by
  have hl : a.block < w.heap.size := by
    rcases Nat.lt_or_ge a.block w.heap.size with h1 | h1
    · exact h1
    · unfold World.cell? at h
      rw [Array.getElem?_eq_none h1] at h
      cases h
  rw [World.cell?_of_block (hb.block _ hl)]; exact h

set_option maxRecDepth 100000 in
set_option maxHeartbeats 2000000 in
theorem is_calls {w : World} {v vc vt : Value} (x : List (Int × Bytes)) (h : OutsAt w v x) (hc : NumsAt w vc (x.map (·.1))) (ht : StrsAt w vt (x.map (·.2))) (hl : ∀ p ∈ x, p.2.length ≤ 1000000) :
    Calls Tryz.prog 21 #[v, vc, vt] w fun e w' => e = .returned (.bool true) ∧ Below w.heap.size w w' := by
  obtain ⟨la, lc, e1, e2, e3⟩ := SlAt.form' h
  obtain ⟨ca, cc, e4, e5, e6⟩ := SlAt.form' hc
  obtain ⟨ta, tc, e7, e8, e9⟩ := SlAt.form' ht
  rw [List.length_map] at e4 e7
  subst e1; subst e4; subst e7
  have H := Lib.hid h
  have HC := Lib.hid hc
  have HT := Lib.hid ht
  have HL := Lib.hid hl
  have hxl : x.length ≤ 9223372036854775807 := by unfold maxLen at e3; omega
  clear h hc ht hl e2 e3 e5 e6 e8 e9
  have hne : (((x.length : Nat) : Int) != ((x.length : Nat) : Int)) = false := by simp
  go_enter Tryz.func21, Tryz.ntmps21
  go_wp2_with fail
  go_loopw [7, 15] (fun _ s15 wr => ∃ k : Nat, s15 = .int .i64 k ∧ k ≤ x.length ∧ Hid (Below w.heap.size w wr)) (fun _ s15 _ => x.length - (intOf s15).toNat)
  case atStart => exact ⟨0, by go_num, Nat.zero_le _, Below.refl _ _⟩
  case round =>
    obtain ⟨k, rfl, hk, HB⟩ := hrel
    by_cases hkl : k < x.length
    · have hlt : decide ((k : Int) < (x.length : Int)) = true := decide_eq_true (by omega)
      obtain ⟨p, hp⟩ : ∃ p, x[k]? = some p := ⟨_, List.getElem?_eq_getElem hkl⟩
      have hk0 : (0 : Int) ≤ (k : Int) := by omega
      have hk1 : (k : Int) < (x.length : Int) := by omega
      have h1 := H.out.below HB.out
      have h2 := HC.out.below HB.out
      have h3 := HT.out.below HB.out
      obtain ⟨b1, o1, cap1, hv1, _, _, _, _, c1, _⟩ := SlAt.form h1 (by omega)
      obtain ⟨b2, o2, cap2, hv2, _, _, _, _, c2, _⟩ := SlAt.form h2 (by rw [List.length_map]; omega)
      obtain ⟨b3, o3, cap3, hv3, _, _, _, _, c3, _⟩ := SlAt.form h3 (by rw [List.length_map]; omega)
      obtain ⟨rfl, rfl⟩ : la = some ⟨b1, o1, none⟩ ∧ lc = cap1 := by injection hv1 with e1 e2 e3; exact ⟨e1, e3⟩
      obtain ⟨rfl, rfl⟩ : ca = some ⟨b2, o2, none⟩ ∧ cc = cap2 := by injection hv2 with e1 e2 e3; exact ⟨e1, e3⟩
      obtain ⟨rfl, rfl⟩ : ta = some ⟨b3, o3, none⟩ ∧ tc = cap3 := by injection hv3 with e1 e2 e3; exact ⟨e1, e3⟩
      obtain ⟨q1, q2⟩ := outCells_at (seals x) k (p.1, sealL p.2) (by unfold seals; simp [hp])
      have d1 : wr.cell? ⟨b1, o1 + k * 2, none⟩ = some (vi p.1) := by rw [Nat.mul_comm]; exact c1 _ _ q1
      have d2 : wr.cell? ⟨b1, o1 + k * 2 + 1, none⟩ = some (vs (bs (sealL p.2))) := by rw [Nat.mul_comm, Nat.add_assoc]; exact c1 _ _ q2
      have d3 : wr.cell? ⟨b2, o2 + k, none⟩ = some (vi p.1) := c2 k _ (by simp [hp])
      have d4 : wr.cell? ⟨b3, o3 + k, none⟩ = some (vs (bs p.2)) := c3 k _ (by simp [hp])
      have hsz : p.2.length ≤ 1000000 := HL.out p (List.mem_of_getElem? hp)
      have HS := Lib.hid (fun n => Seal_calls (G := 0) (w := wr.drewN n) p.2 (by omega))
      have hb1 : (p.1 != p.1) = false := by simp
      clear h1 h2 h3 c1 c2 c3 q1 q2 hv1 hv2 hv3 hp
      go_wp2_with fail
      go_region_held3 (fun w' => w'.cell? ⟨b1, o1 + k * 2, none⟩ = some (vi p.1) ∧ w'.cell? ⟨b1, o1 + k * 2 + 1, none⟩ = some (vs (bs (sealL p.2))) ∧ w'.cell? ⟨b2, o2 + k, none⟩ = some (vi p.1) ∧ w'.cell? ⟨b3, o3 + k, none⟩ = some (vs (bs p.2))) (go_keep) ((go_at_call 19; refine (HS.out 1).mono ?_; rintro e w2 ⟨rfl, hb⟩; have HB2 : Hid (Below w.heap.size w w2) := Below.trans (below_drewN HB.out 1) (hb.mono (by have := HB.out.size; simpa using this)); have d1b := cell_below hb d1; have d2b := cell_below hb d2; have d3b := cell_below hb d3; have d4b := cell_below hb d4; clear hb))
      all_goals
        go_wp2_with fail
        go_roundw
        case rel => exact ⟨k + 1, by go_num, by omega, HB2.out⟩
        case measure => simp [intOf]; omega
    · obtain rfl : k = x.length := by omega
      have hlt : decide ((x.length : Int) < (x.length : Int)) = false := by simp
      go_wp2_with fail
      go_ret
      exact ⟨rfl, HB.out⟩

/-! ### A dispatcher in a statement's own run -/
/-- The dispatcher (its world block Wb) is in the state r; only new blocks have turned since w0. -/
structure KAt (G : Nat) (w0 : World) (D Wb : Nat) (r : Raw) (w : World) : Prop where
  rep : ∃ ρ L, RRep w ρ G D L r ∧ (∀ b, Of ρ b → w0.heap.size ≤ b) ∧ ¬ Of ρ Wb
  box : w.heap[Wb]? = some (.cells #[vp D] 43 (0, 0))
  new : w0.heap.size ≤ Wb
  below : Below w0.heap.size w0 w
  env : Env G w
section
variable {G D Wb : Nat} {w0 w w' : World} {r : Raw}
theorem KAt.grow (h : KAt G w0 D Wb r w) (hb : Below w.heap.size w w') : KAt G w0 D Wb r w' := by
  obtain ⟨⟨ρ, L, h1, h2, h3⟩, h4, h5, h6, h7⟩ := h
  exact ⟨⟨ρ, L, h1.of_fr (Fr.of_below (S := fun _ => False) hb) (fun _ f => f.elim), h2, h3⟩, (hb.block _ (blk_lt _ h4)).trans h4, h5, Below.trans h6 (hb.mono h6.size), h7.grow hb⟩
/-- Behind a call that hands out what was said. -/
theorem KAt.told (h : KAt G w0 D Wb r w) (hG : G ≤ w0.heap.size) {r' : Raw} {e : Ending} {ρ : Nat → Role} {L : Lay} (h1 : RRep w ρ G D L r) (h2 : ∀ b, Of ρ b → w0.heap.size ≤ b) (h3 : ¬ Of ρ Wb) (hp : OutPost w ρ G D r' e w') {x : List (Int × Bytes)} (hx : r'.out = seals x) :
    ∃ v, e = .returned v ∧ KAt G w0 D Wb (rTold r') w' ∧ OutsAt w' v x := by
  obtain ⟨_, h4, h5, h6, h7⟩ := h
  obtain ⟨v, ρ', L', rfl, k1, k2, k3⟩ := hp
  have hof : ∀ b, Of ρ' b → w0.heap.size ≤ b := fun b hb => by
    rcases k2.own b hb with h8 | h8
    · exact h2 b h8
    · have := h6.size; omega
  refine ⟨v, rfl, ⟨⟨ρ', L', k1, hof, fun hh => (k2.own Wb hh).elim h3 (fun h8 => by have := blk_lt _ h4; omega)⟩, (k2.fr.block _ (blk_lt _ h4) h3).trans h4, h5, Below.trans h6 (k2.fr.below h6.size h2), h7.fr k2.fr (fun b hb => Nat.le_trans hG (h2 b hb))⟩, ?_⟩
  unfold OutsAt
  rw [← hx]
  have : x.length = r'.out.length := by rw [hx]; simp [seals]
  rw [this]
  exact SlAt.of_blk k3 (fun _ _ _ => rfl) (fun _ _ _ => trivial)
end

/-- In a script: n steps are done. -/
theorem feed_at {G D Wb : Nat} {w0 w : World} (hG : G ≤ w0.heap.size) {cfg : Cfg} {l : Script} (hc : cfgOk cfg = true) (hl : Short l) (hok : okRun cfg l = true) {n : Nat} (hn : n ≤ 100000) {c : Int} {s : Bytes} {x : List (Int × Bytes)} (he : l[n]? = some (.say c s, x)) (h : KAt G w0 D Wb (stAt cfg l n) w) :
    ∃ ρ L, RRep w ρ G D L (stAt cfg l n) ∧ Calls Tryz.prog 20 #[vp D, vi c, vs (bs (lineOf s))] w fun e w' => ∃ v, e = .returned v ∧ KAt G w0 D Wb (stAt cfg l (n + 1)) w' ∧ OutsAt w' v x := by
  obtain ⟨hI, hF, ho⟩ := st_inv hc hl n
  obtain ⟨ρ, L, h1, h2, h3⟩ := h.rep
  have hs := hl _ (List.mem_of_getElem? he)
  have hs : s.length + 10 ≤ 100 := hs
  refine ⟨ρ, L, h1, ?_⟩
  refine (Feed_calls h1 h.env hI hF c (lineOf s) (by rw [lineOf_len]; unfold NB; omega) (by rw [lineOf_len]; unfold NB; omega)).mono ?_
  intro e w' hp
  have hx : (rFeed (stAt cfg l n) c (lineOf s)).out = seals x := ok_at hok he
  rw [st_next he]
  exact h.told hG h1 h2 h3 hp hx
end Go.Proofs.YtaejfobbogahmaaGreatDoor
namespace Go.Proofs.YtaejfobbogahmaaGreatDoor
open Go Go.RowKit

set_option maxRecDepth 100000 in
set_option maxHeartbeats 1000000 in
theorem begin_calls {G : Nat} {w : World} (hE : Env G w) (hG : G ≤ w.heap.size) (c : Cfg) (hc : cfgOk c = true) {w0 : World} (hw : Below w0.heap.size w0 w) :
    Calls Tryz.prog 18 #[.agg (cfgCells c)] w fun e w' => ∃ D Wb, e = .returned (.tuple #[vp Wb, .bool true]) ∧ KAt G w0 D Wb (rNew c) w' ∧ Below w.heap.size w w' := by
  have HCC := Lib.hid (show cfgCells c = #[vi c.lease, vi c.retries, vi c.cap, vi c.bound, vi c.hedge] from rfl)
  have HN := Lib.hid (New_calls (G := G) (w := w.alloc (.cells (cfgCells c) 34)) (by simp; omega) c)
  have HB : Hid (Below w.heap.size w (w.alloc (.cells (cfgCells c) 34))) := ((Fr.refl (fun _ => False) w).alloc _).below (Nat.le_refl _) (fun _ f => f.elim)
  have HE := Lib.hid hE
  have HW := Lib.hid hw
  have Hc := Lib.hid hc
  rw [HCC.out] at HN HB ⊢
  clear hE hG hw hc
  go_enter Tryz.func18, Tryz.ntmps18
  go_wp2_with fail
  refine HN.out.mono ?_
  rintro e w1 ⟨hp1, _, hb⟩
  obtain ⟨D, ρ, L, rfl, h1, h2⟩ := hp1 Hc.out
  have HR := Lib.hid (And.intro h1 h2)
  have HB1 := Lib.hid (Below.trans HB.out (hb.mono (by simp)))
  clear hp1 hb h1 h2
  go_wp2_with fail
  go_ret2
  refine ⟨D, w1.heap.size, rfl, ⟨⟨ρ, L, HR.out.1.alloc _, fun b hb => ?_, fun ho => ?_⟩, blk_alloc_new w1, ?_, ?_, ?_⟩, Below.trans HB1.out (((Fr.refl (fun _ => False) w1).alloc _).below HB1.out.size (fun _ f => f.elim))⟩
  · have := HR.out.2 b hb
    have h5 := HW.out.size
    simp at this; omega
  · have := (HR.out.1.dom _ ho).2; omega
  · have h5 := HW.out.size; have h6 := HB1.out.size; omega
  · exact Below.trans HW.out (Below.trans HB1.out (((Fr.refl (fun _ => False) w1).alloc _).below (B := w.heap.size) (by have := HB1.out.size; exact this) (fun _ f => f.elim)) |>.mono (by have := HW.out.size; exact this))
  · exact (HE.out.grow HB1.out).alloc _

set_option maxRecDepth 100000 in
set_option maxHeartbeats 2000000 in
/-- say, of a Feed that does what Kp says. -/
theorem wsay_walk {D Wb : Nat} {w : World} {c : Int} {s z y : Bytes} {Kp : Value → World → Prop} (cW : w.cell? ⟨Wb, 0, none⟩ = some (vp D)) (HS : Calls Tryz.prog 19 #[vs (bs s)] w.drew fun e w' => e = .returned (vs (bs z)) ∧ Below w.heap.size w w')
    (HF : ∀ w', Below w.heap.size w w' → Calls Tryz.prog 20 #[vp D, vi c, vs (bs y)] w' fun e w' => ∃ v, e = .returned v ∧ Kp v w' ∧ w'.cell? ⟨Wb, 0, none⟩ = some (vp D)) (hadd : bs z ++ (⟨#[10]⟩ : ByteArray) = bs y) (hl1 : (z.length : Int) + 1 ≤ 9223372036854775807) :
    Calls Tryz.prog 22 #[vp Wb, vi c, vs (bs s)] w fun e w' => ∃ v, e = .returned v ∧ Kp v w' := by
  have HS := Lib.hid HS
  have HF := Lib.hid HF
  have hsz : (bs z).size = z.length := bs_size _
  have hl2 : ¬ 9223372036854775807 < z.length + 1 := by omega
  clear hl1
  go_enter Tryz.func22, Tryz.ntmps22
  go_wp2_with fail
  go_region_law (first
    | (go_simp; go_at_call 19; refine HS.out.mono ?_; rintro e w1 ⟨rfl, hb⟩; have cW1 := cell_below hb cW; have HF1 := Lib.hid (HF.out w1 hb); clear hb)
    | (go_simp; go_at_call 20; refine HF1.out.mono ?_; rintro e w2 ⟨v, rfl, hk, cW2⟩; have HK := Lib.hid hk; clear hk))
  all_goals
    go_wp2_with fail
    go_ret
    exact ⟨v, rfl, HK.out⟩

theorem wsay_calls {G D Wb : Nat} {w0 w : World} (hG : G ≤ w0.heap.size) {cfg : Cfg} {l : Script} (hc : cfgOk cfg = true) (hl : Short l) (hok : okRun cfg l = true) {n : Nat} (hn : n ≤ 100000) {c : Int} {s : Bytes} {x : List (Int × Bytes)} (he : l[n]? = some (.say c s, x)) (h : KAt G w0 D Wb (stAt cfg l n) w) :
    Calls Tryz.prog 22 #[vp Wb, vi c, vs (bs s)] w fun e w' => ∃ v, e = .returned v ∧ KAt G w0 D Wb (stAt cfg l (n + 1)) w' ∧ OutsAt w' v x := by
  have hs := hl _ (List.mem_of_getElem? he)
  have hs : s.length + 10 ≤ 100 := hs
  refine wsay_walk (D := D) (y := lineOf s) (z := sealL s) (Kp := fun v w' => KAt G w0 D Wb (stAt cfg l (n + 1)) w' ∧ OutsAt w' v x) (cell_of_blk h.box rfl) ?_ (fun w' hb => ?_) (bs_append (sealL s) [10]) (by rw [sealL_len]; omega)
  · refine (Seal_calls (G := 0) (w := w.drew) s (by omega)).mono ?_
    rintro e w1 ⟨rfl, hb⟩
    exact ⟨rfl, ⟨hb.os, hb.tape, hb.output, hb.size, hb.block⟩⟩
  · obtain ⟨_, _, _, h1⟩ := feed_at hG hc hl hok hn he (h.grow hb)
    refine h1.mono ?_
    rintro e w2 ⟨v, rfl, hk, ho⟩
    exact ⟨v, rfl, ⟨hk, ho⟩, cell_of_blk hk.box rfl⟩
end Go.Proofs.YtaejfobbogahmaaGreatDoor
