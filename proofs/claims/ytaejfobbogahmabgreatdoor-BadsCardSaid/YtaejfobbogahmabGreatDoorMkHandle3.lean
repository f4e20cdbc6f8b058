/-
  The walk of Dispatcher's handle: pull, beat and drain; slices.Contains at []int.
-/
import Derived.Test.YtaejfobbogahmabGreatDoorMkHandle2
import Derived.Test.YtaejfobbogahmabGreatDoorMkPure
set_option linter.unusedVariables false
set_option linter.unusedSimpArgs false
namespace Go.Proofs.YtaejfobbogahmabGreatDoor
open Go Go.RowKit

set_option maxRecDepth 100000 in
set_option maxHeartbeats 1000000 in
theorem Index_calls {w : World} {own : Nat → Prop} {v : Value} {l : List Int} (hs : SlAt w 3 1 own v l.length (l.map encI)) (x : Int) :
    Calls Tryz.prog 113 #[v, vi x] w fun e w' => e = .returned (vi (placeOf x l)) ∧ w = w' := by
  obtain ⟨va, vc, hv1, hv2, hv3⟩ := hs.form'
  subst hv1
  have HS := Lib.hid hs
  unfold maxLen at hv3
  clear hs
  go_enter Tryz.func113, Tryz.ntmps113
  go_wp2_with fail
  go_loop [5, 8] (fun _ s8 => ∃ k : Nat, s8 = .int .i64 k ∧ k ≤ l.length ∧ Hid (∀ (j : Nat) y, j < k → l[j]? = some y → y ≠ x)) (fun _ s8 => l.length - (intOf s8).toNat)
  case atStart => exact ⟨0, by go_num, Nat.zero_le _, fun j y hj => by omega⟩
  case round =>
    obtain ⟨k, rfl, hk, Hn⟩ := hrel
    by_cases hkl : k < l.length
    · have hlt : decide ((k : Int) < (l.length : Int)) = true := decide_eq_true (by omega)
      obtain ⟨y, hy⟩ : ∃ y, l[k]? = some y := ⟨_, List.getElem?_eq_getElem hkl⟩
      obtain ⟨b, off, cap, hv, _, _, _, _, hc, _⟩ := HS.out.form (by omega)
      obtain ⟨rfl, rfl⟩ : va = some ⟨b, off, none⟩ ∧ vc = cap := by injection hv with e1 e2 e3; exact ⟨e1, e3⟩
      have ck : w.cell? ⟨b, off + k, none⟩ = some (vi y) := hc k _ (by simp [hy])
      have hk0 : (0 : Int) ≤ (k : Int) := by omega
      have hk1 : (k : Int) < (l.length : Int) := by omega
      have Hy := Lib.hid hy
      clear hc hv hy
      by_cases hyx : y = x
      · have hd : (x == y) = true := by simp [hyx]
        have HP : Hid (placeOf x l = k) := placeOf_at l k (by rw [Hy.out, hyx]) Hn.out
        clear hyx
        go_wp2_with fail
        go_ret
        exact ⟨by rw [HP.out]; rfl, rfl⟩
      · have hd : (x == y) = false := beq_eq_false_iff_ne.2 (Ne.symm hyx)
        have HN : Hid (∀ (j : Nat) z, j < k + 1 → l[j]? = some z → z ≠ x) := fun j z hj hz => by
          by_cases e : j = k
          · subst e; rw [Hy.out] at hz; cases hz; exact hyx
          · exact Hn.out j z (by omega) hz
        clear hyx
        go_wp2_with fail
        go_round
        case rel => exact ⟨k + 1, by go_num, by omega, HN.out⟩
        case measure => simp [intOf]; omega
    · obtain rfl : k = l.length := by omega
      have hlt : decide ((l.length : Int) < (l.length : Int)) = false := by simp
      have HP : Hid (placeOf x l = -1) := placeOf_no l (fun j y hy => Hn.out j y (List.getElem?_eq_some_iff.1 hy).1 hy)
      go_wp2_with fail
      go_ret
      exact ⟨by rw [HP.out]; rfl, rfl⟩

theorem place_contains (x : Int) : ∀ (l : List Int), (decide (0 ≤ placeOf x l)) = l.contains x ∧ -1 ≤ placeOf x l
  | [] => by simp [placeOf]
  | y :: l => by
    obtain ⟨h1, h2⟩ := place_contains x l
    unfold placeOf
    by_cases e : y = x
    · subst e; simp
    · rw [if_neg e]
      have e2 : (x == y) = false := beq_eq_false_iff_ne.2 (Ne.symm e)
      rw [List.contains_cons, e2, Bool.false_or, ← h1]
      split
      · rename_i hp
        simp [hp]
      · rename_i hp
        have : 0 ≤ placeOf x l := by omega
        simp [this]; omega

set_option maxRecDepth 100000 in
theorem Contains_calls {w : World} {own : Nat → Prop} {v : Value} {l : List Int} (hs : SlAt w 3 1 own v l.length (l.map encI)) (x : Int) :
    Calls Tryz.prog 86 #[v, vi x] w fun e w' => e = .returned (.bool (l.contains x)) ∧ w = w' := by
  have HC := Lib.hid (Index_calls hs x)
  have HP := Lib.hid (place_contains x l).1
  generalize placeOf x l = p at *
  generalize l.contains x = b at *
  have hp : decide (0 ≤ p) = b := HP.out
  clear hs
  go_enter Tryz.func86, Tryz.ntmps86
  go_wp2_with fail
  refine HC.out.mono ?_
  rintro e w1 ⟨rfl, rfl⟩
  go_wp2_with fail
  go_ret
  exact ⟨rfl, rfl⟩

theorem conn_calls {w : World} {ρ : Nat → Role} {G D : Nat} {L : Lay} {r : Raw} (h : RRep w ρ G D L r) (c : Int) :
    Calls Tryz.prog 37 #[vp D, vi c] w fun e w' => ∃ ρ' L', e = .returned (vp (L'.cn c)) ∧ RRep w' ρ' G D L' (rConn r c) ∧ Step ρ ρ' w w' := by
  by_cases hc : (aget r.conns c).isSome = true
  · refine (conn_found h c hc).mono ?_
    rintro e w' ⟨rfl, rfl⟩
    have e1 : rConn r c = r := if_pos hc
    rw [e1]
    exact ⟨ρ, L, rfl, h, Step.refl _ _⟩
  · have hn : aget r.conns c = none := by
      cases hx : aget r.conns c with
      | none => rfl
      | some x => rw [hx] at hc; exact absurd rfl hc
    refine (conn_new h c hn).mono ?_
    rintro e w' ⟨rfl, hh⟩
    obtain ⟨ρ', L', h1, h2, h3, h4, h5⟩ := conn_rep h c hn hh.out.1 hh.out.2
    exact ⟨ρ', L', by rw [h5], h1, h2⟩

theorem rHandle_pull {r : Raw} {c : Int} {m : Msg} (hk : m.kind = kPull) : rHandle r c m = rPull r c := by unfold rHandle; rw [hk]; rfl
theorem rHandle_beat {r : Raw} {c : Int} {m : Msg} (hk : m.kind = kBeat) : rHandle r c m = rBeat r c := by unfold rHandle; rw [hk]; rfl
theorem rHandle_drain {r : Raw} {c : Int} {m : Msg} (hk : m.kind = kDrain) : rHandle r c m = rDrain r c := by unfold rHandle; rw [hk]; rfl

theorem rConn_get (r : Raw) (c : Int) : ∃ x, aget (rConn r c).conns c = some x := by
  unfold rConn
  split
  · rename_i h; exact Option.isSome_iff_exists.1 h
  · exact ⟨_, by simp [aget_aset]; rfl⟩
theorem rPull_eq {r : Raw} {c : Int} {x : Cn} (hx : aget (rConn r c).conns c = some x) : rPull r c = if !x.drains && !(rConn r c).waiting.contains c then { rConn r c with waiting := (rConn r c).waiting ++ [c] } else rConn r c := by
  unfold rPull; simp only [hx]
theorem rDrain_eq {r : Raw} {c : Int} {x : Cn} (hx : aget (rConn r c).conns c = some x) : rDrain r c = rBye { rConn r c with conns := aset (rConn r c).conns c { x with drains := true }, waiting := without (rConn r c).waiting c } c := by
  unfold rDrain; simp only [hx]

/-- Who waits with one more. -/
theorem wait_end {w w3 : World} {ρ : Nat → Role} {G D : Nat} {L : Lay} {r : Raw} (h : RRep w ρ G D L r) {g off cap n : Nat} (hg : ρ g = rWait ∨ g = w.heap.size) {l : List Int} (hn : l.length = n) (hs : SlAt w3 3 1 (fun b => b = g) (.slice (some ⟨g, off, none⟩) n cap) n (l.map encI)) (hlt : g < w3.heap.size) (hf : Fr (fun b => b = g) w w3) :
    w3.frozen? ⟨D, 11, none⟩ = false ∧ w3.cell? ⟨D, 11, none⟩ = some L.waiting ∧ ∃ ρ' L', RRep (w3.setCell ⟨D, 11, none⟩ (.slice (some ⟨g, off, none⟩) n cap)) ρ' G D L' { r with waiting := l } ∧ Step ρ ρ' w (w3.setCell ⟨D, 11, none⟩ (.slice (some ⟨g, off, none⟩) n cap)) := by
  subst hn
  have hDr := h.disp.1
  have hgD : D ≠ g := by
    rintro rfl
    rcases hg with h1 | h1
    · rw [hDr] at h1; simp [rDisp, rWait] at h1
    · have := h.size; omega
  have hD : w3.heap[D]? = some (.cells (dispCells L r.cfg r.now r.seq) 80 (0, 0)) := (hf.block D h.size.2 hgD).trans h.disp.2
  refine ⟨frozen_of_blk hD, cell_of_blk hD rfl, setRole ρ g rWait, _, h.put_wait (Ext.set (hg.imp (fun e => e) (fun e => by omega)) (by simpa using hlt)) (blk_setCell w3 hD) (hs.of_blk (fun b hb _ => blk_setCell_ne _ (by show b ≠ D; rw [hb]; exact Ne.symm hgD)) (fun b hb _ => by rw [hb]; exact setRole_same _ _ _)) ?_⟩
  exact (hf.mono (fun x hx => .inl (.inr (by rw [hx]; exact setRole_same _ _ _)))).setCell _ _ (.inl (.inl rfl))

set_option maxRecDepth 100000 in
set_option maxHeartbeats 2000000 in
theorem handle_pull {w : World} {ρ : Nat → Role} {G D : Nat} {L : Lay} {r : Raw} (h : RRep w ρ G D L r) {N P : Nat} (hI : Inv N P r) (hP : P + 1 < NB) (c : Int) {m : Msg} (hk : m.kind = kPull) :
    Calls Tryz.prog 41 #[vp D, vi c, .agg (msgCells m)] w (HdPost w ρ G D (rHandle r c m)) := by
  have HR := Lib.hid (rHandle_pull (r := r) (c := c) hk)
  have ht : (bs m.kind).toList = [112, 117, 108, 108] := by rw [hk]; exact bs_toList _
  have HT : Hid (Step ρ ρ w (w.alloc (.cells (msgCells m) 97))) := (Step.refl ρ w).alloc _
  have HC := Lib.hid (conn_calls (h.alloc (.cells (msgCells m) 97)) c)
  obtain ⟨x, hx⟩ := rConn_get r c
  have Hx := Lib.hid hx
  have HQ := Lib.hid (rPull_eq hx)
  have hwl : (rConn r c).waiting.length ≤ 1099511627776 := by have := (hI.conn c).n.pot; unfold NB at hP; omega
  have HMC := Lib.hid (show msgCells m = #[vs (bs m.kind), vi m.id, vi m.att, vs (bs m.tenant), vs (bs m.text)] from rfl)
  rw [HMC.out] at HT HC ⊢
  generalize rConn r c = r1 at *
  obtain ⟨xr, xd, xg⟩ := x
  clear hI hP hk h hx
  go_enter Tryz.func41, Tryz.ntmps41
  go_wp2_with fail
  refine HC.out.mono ?_
  rintro e w1 ⟨ρ1, L1, rfl, k1, k2⟩
  have HK := Lib.hid k1
  have HS := Lib.hid (HT.out.trans k2)
  have d1 : w1.cell? ⟨L1.cn c, 1, none⟩ = some (.bool xd) := cell_of_blk (k1.cns.2.2.2 c _ (aget_mem Hx.out)).2.1 rfl
  obtain ⟨va, vc, hw1, hw2, hw3⟩ := SlAt.form' k1.wai
  have c11 : w1.cell? ⟨D, 11, none⟩ = some (.slice va r1.waiting.length vc) := by rw [← hw1]; exact k1.disp.c11
  have hwai : SlAt w1 3 1 (fun b => ρ1 b = rWait) (.slice va r1.waiting.length vc) r1.waiting.length (r1.waiting.map encI) := by rw [← hw1]; exact k1.wai
  have HWA := Lib.hid hwai
  have HCT := Lib.hid (Contains_calls hwai c)
  have hD1 := k1.size.2
  have f11 : w1.frozen? ⟨D, 11, none⟩ = false := k1.disp.frozen 11
  unfold maxLen at hw3
  clear k1 k2 hwai hw1
  cases xd with
  | true =>
    go_wp2_with fail
    go_end0
    exact ⟨rfl, by rw [HR.out, HQ.out]; exact ⟨_, _, HK.out, HS.out⟩⟩
  | false =>
    go_wp2_with fail
    refine HCT.out.mono ?_
    rintro e w2 ⟨rfl, rfl⟩
    obtain ⟨b, hb⟩ : ∃ b, r1.waiting.contains c = b := ⟨_, rfl⟩
    rw [hb] at HQ ⊢
    clear hb
    cases b with
    | true =>
      go_wp2_with fail
      go_end0
      exact ⟨rfl, by rw [HR.out, HQ.out]; exact ⟨_, _, HK.out, HS.out⟩⟩
    | false =>
      have HML : Hid (r1.waiting.length + 1 ≤ maxLen) := show _ ≤ _ by unfold maxLen; omega
      go_wp2_with (
        at_builtin; refine wpList_append_at _ rfl _ _ _ _ rfl elem_int rfl (HWA.out.of_blk (w' := w1.alloc (.cells #[vi c] 3)) (fun b hb hl => blk_alloc_lt w1 hl) (fun _ h _ => h)) rfl (src_new w1 Tryz.underlying74 [vi c] (by rfl) (by simp [Value.oneCell']) w1.heap.size (by simp)) (by omega) HML.out (by omega) ?_
        intro g goff gcap w3 hg3 hs3 hf3 hlt3 _ _
        obtain ⟨f3, c3, ρ3, L3, k3, s3⟩ := wait_end (HK.out.alloc (.cells #[vi c] 3)) (l := r1.waiting ++ [c]) hg3 (n := r1.waiting.length + 1) (by simp) (by rw [List.map_append]; exact hs3) hlt3 hf3
        have HK3 := Lib.hid (And.intro k3 (((Step.refl ρ1 w1).alloc _).trans s3))
        clear hs3 hf3 hg3 hlt3 k3 s3)
      go_end0
      exact ⟨rfl, by rw [HR.out, HQ.out]; exact ⟨ρ3, L3, HK3.out.1, HS.out.trans HK3.out.2⟩⟩

/-! ### beat -/
def rRenew (t : Int) (r : Raw) (a : Att) : Raw := { r with atts := r.atts.map (renewed a.seq t) }
theorem Live.renew {a : Att} {l : List Att} {r : Raw} {t : Int} (h : Live (a :: l) r) : Live l (rRenew t r a) := by
  obtain ⟨h1, h2⟩ := h
  rw [List.pairwise_cons] at h1
  refine ⟨h1.2, fun b hb => ?_⟩
  refine List.mem_map.2 ⟨b, h2 b (by simp [hb]), ?_⟩
  unfold renewed
  have := h1.1 b hb
  rw [if_neg (by omega)]
theorem renew_fold (t : Int) : ∀ (l : List Att) (r : Raw), l.foldl (rRenew t) r = { r with atts := r.atts.map fun b => if (l.any fun a => decide (b.seq = a.seq)) = true then { b with till := t } else b }
  | [], r => by simp
  | a :: l, r => by
    show l.foldl (rRenew t) (rRenew t r a) = _
    rw [renew_fold t l]
    unfold rRenew
    simp only [List.map_map]
    congr 1
    refine List.map_congr_left (fun b _ => ?_)
    show (if (l.any fun a' => decide ((renewed a.seq t b).seq = a'.seq)) = true then _ else _) = _
    rw [renewed_seq]
    unfold renewed
    by_cases e : b.seq = a.seq
    · rw [if_pos e, List.any_cons, decide_eq_true e, Bool.true_or, if_pos rfl]
      split <;> rfl
    · rw [if_neg e, List.any_cons, decide_eq_false e, Bool.false_or]
theorem beat_eq {N P : Nat} {r : Raw} (hI : Inv N P r) (c : Int) : (rHeld r c).foldl (rRenew (r.now + r.cfg.lease)) r = rBeat r c := by
  rw [renew_fold]
  unfold rBeat
  congr 1
  refine List.map_congr_left (fun b hb => ?_)
  by_cases e : b.conn = c
  · rw [if_pos e, if_pos]
    exact List.any_eq_true.2 ⟨b, List.mem_filter.2 ⟨hb, by simp [e]⟩, by simp⟩
  · rw [if_neg e, if_neg]
    intro h
    obtain ⟨a, ha, hs⟩ := List.any_eq_true.1 h
    obtain ⟨ha1, ha2⟩ := List.mem_filter.1 ha
    have hs : b.seq = a.seq := by simpa using hs
    have : a = b := by
      have hp := hI.a.apw
      obtain ⟨i, hi, e1⟩ := List.getElem_of_mem ha1
      obtain ⟨j, hj, e2⟩ := List.getElem_of_mem hb
      rcases Nat.lt_trichotomy i j with h5 | h5 | h5
      · have := List.pairwise_iff_getElem.1 hp i j hi hj h5; rw [e1, e2] at this; omega
      · subst h5; rw [← e1, ← e2]
      · have := List.pairwise_iff_getElem.1 hp j i hj hi h5; rw [e1, e2] at this; omega
    subst this
    exact e (by simpa using ha2)

set_option maxRecDepth 100000 in
set_option maxHeartbeats 4000000 in
theorem handle_beat {w : World} {ρ : Nat → Role} {G D : Nat} {L : Lay} {r : Raw} (h : RRep w ρ G D L r) {N P : Nat} (hI : Inv N P r) (hN : N ≤ NB) (hP : P + 1 < NB) (c : Int) {m : Msg} (hk : m.kind = kBeat) :
    Calls Tryz.prog 41 #[vp D, vi c, .agg (msgCells m)] w (HdPost w ρ G D (rHandle r c m)) := by
  have HR := Lib.hid (rHandle_beat (r := r) (c := c) hk)
  have ht : (bs m.kind).toList = [98, 101, 97, 116] := by rw [hk]; exact bs_toList _
  have HT : Hid (Step ρ ρ w (w.alloc (.cells (msgCells m) 97))) := (Step.refl ρ w).alloc _
  have HC := Lib.hid (held_calls (h.alloc (.cells (msgCells m) 97)) c (hI.atts_le (by omega)))
  have HH := Lib.hid (h.alloc (.cells (msgCells m) 97))
  have HLV : Hid (Live (rHeld r c) r) := Live.of_filter hI _
  have hlen : (rHeld r c).length ≤ 1099511627776 := Nat.le_trans (List.length_filter_le _ _) (hI.atts_le (by omega))
  have HB := Lib.hid (beat_eq hI c)
  have HI := Lib.hid hI
  have hnow := hI.n.now
  have hcf := cfg_bounds hI.n.cfg
  have ht0 : -1000000000000 ≤ r.now + r.cfg.lease := by omega
  have ht1 : r.now + r.cfg.lease ≤ 1000000000000 := by unfold NB at hN; omega
  have hla : r.atts.length ≤ 1099511627776 := hI.atts_le (by omega)
  have HMC := Lib.hid (show msgCells m = #[vs (bs m.kind), vi m.id, vi m.att, vs (bs m.tenant), vs (bs m.text)] from rfl)
  rw [HMC.out] at HT HC HH ⊢
  obtain ⟨now, hnw⟩ : ∃ now, r.now = now := ⟨_, rfl⟩
  obtain ⟨ls, hls⟩ : ∃ ls, r.cfg.lease = ls := ⟨_, rfl⟩
  have HNW := Lib.hid (And.intro hnw hls)
  rw [hnw, hls] at HB ht0 ht1
  generalize rHeld r c = l at *
  clear hI hN hP hk h hnow hcf hnw hls
  go_enter Tryz.func41, Tryz.ntmps41
  go_wp2_with fail
  refine HC.out.mono ?_
  rintro e w1 ⟨v, rfl, h2, h3⟩
  have HSL := Lib.hid h2
  obtain ⟨va, vc, hv1, hv2, hv3⟩ := h2.form'
  subst hv1
  unfold maxLen at hv3
  have HR1 := Lib.hid (HH.out.of_fr (Fr.of_below (S := fun _ => False) h3) (fun _ f => f.elim))
  have HT1 : Hid (Step ρ ρ w w1) := HT.out.trans ⟨Fr.of_below h3, fun b hb => .inl hb⟩
  have HOWN : Hid (∀ b, w.heap.size + 1 ≤ b → ¬ Of ρ b) := fun b hb ho => by have := (HH.out.dom b ho).2; simp at this; omega
  clear h2 h3 HC
  go_wp2_with fail
  go_loopw [8, 93] (fun _ s10 wr => ∃ k : Nat, s10 = .int .i64 k ∧ k ≤ l.length ∧ Hid (LoopAt (rRenew (now + ls)) l r (fun rk => rk.now = now ∧ rk.cfg.lease = ls ∧ rk.atts.length ≤ 1099511627776) w1 ρ G D L k wr)) (fun _ s10 _ => l.length - (intOf s10).toNat)
  case atStart => exact ⟨0, by go_num, Nat.zero_le _, LoopAt.start HR1.out ⟨HNW.out.1, HNW.out.2, hla⟩ HLV.out⟩
  case round =>
    obtain ⟨k, rfl, hk, HL⟩ := hrel
    by_cases hkl : k < l.length
    · have hlt : decide ((k : Int) < (l.length : Int)) = true := decide_eq_true (by omega)
      have hsl := HL.out.list HSL.out (fun b hb => HOWN.out b (by simpa using hb))
      obtain ⟨b, off, cap, hv, hbo, hbl, _, _, hc, _⟩ := hsl.form (by omega)
      obtain ⟨rfl, rfl⟩ : va = some ⟨b, off, none⟩ ∧ vc = cap := by injection hv with e1 e2 e3; exact ⟨e1, e3⟩
      have ck : wr.cell? ⟨b, off + k, none⟩ = some (vp (L.att (hg l k).seq)) := hc k _ (by simp [getElem?_hg hkl])
      obtain ⟨rk, ρk, Lk, k1, k2, k3, k4, k5, ⟨k6, k6b, k6c⟩, k7, k8⟩ := HL.out
      rw [drop_hg hkl] at k7 k8
      have hk0 : (0 : Int) ≤ (k : Int) := by omega
      have hk1 : (k : Int) < (l.length : Int) := by omega
      have c5 : wr.cell? ⟨D, 5, none⟩ = some (vi now) := by have := k1.disp.c5; rw [k6] at this; exact this
      have c0 : wr.cell? ⟨D, 0, none⟩ = some (vi ls) := by have := k1.disp.c0; rw [k6b] at this; exact this
      have hDr := k1.size.2
      have HRN : Hid (∀ n, Calls Tryz.prog 87 #[tI D, vp (L.att (hg l k).seq), vi (now + ls)] (wr.drewN n) fun e w' => e = .returned (.tuple #[]) ∧ LoopAt (rRenew (now + ls)) l r (fun rk => rk.now = now ∧ rk.cfg.lease = ls ∧ rk.atts.length ≤ 1099511627776) w1 ρ G D L (k + 1) w') := fun n => by
        have := Renew_calls (k1.drewN n) (k7.2 (hg l k) (by simp)) (now + ls) k6c
        rw [k3] at this
        refine this.mono ?_
        rintro e w' ⟨rfl, m1, m2⟩
        exact ⟨rfl, rRenew (now + ls) rk (hg l k), ρk, Lk, m1, (k2.drewN n).trans m2, k3, k4, k5, ⟨k6, k6b, by show (rk.atts.map _).length ≤ _; rw [List.length_map]; exact k6c⟩, k7.renew, k8⟩
      generalize L.att (hg l k).seq = A at *
      have hsum : IntKind.i64.wrap (now + ls) = now + ls := IntWalk.i64_in _ (by omega)
      clear hsl hv hbo hbl hc k1 k2 k3 k4 k5 k6 k6b k6c k7 k8
      go_wp2_with fail
      refine wp_region_lexT 14 follows_mixed (by kernel_rfl) ?_
      simp only [List.take_succ_cons, List.take_zero, List.drop_succ_cons, List.drop_zero]
      repeat still_step
      refine wpStill_nil ?_
      go_wp2_with fail
      refine (HRN.out _).mono ?_
      rintro e w2 ⟨rfl, hst⟩
      have HST := Lib.hid hst
      clear hst
      go_wp2_with fail
      go_roundw
      case rel => exact ⟨k + 1, by go_num, by omega, HST.out⟩
      case measure => simp [intOf]; omega
    · obtain rfl : k = l.length := by omega
      have hlt : decide ((l.length : Int) < (l.length : Int)) = false := by simp
      have HP : Hid (At w ρ G D (rBeat r c) wr) := by
        obtain ⟨rk, ρk, Lk, k1, k2, k3, k4, k5, k6, k7, k8⟩ := HL.out
        rw [List.drop_length] at k8
        have k8 : rk = l.foldl (rRenew (now + ls)) r := k8
        rw [← HB.out, ← k8]
        exact ⟨ρk, Lk, k1, HT1.out.trans k2⟩
      go_wp2_with fail
      go_end0
      exact ⟨rfl, by rw [HR.out]; exact HP.out⟩

/-! ### drain -/
set_option maxRecDepth 100000 in
set_option maxHeartbeats 2000000 in
theorem handle_drain {w : World} {ρ : Nat → Role} {G D : Nat} {L : Lay} {r : Raw} (h : RRep w ρ G D L r) (hE : Env G w) {N P : Nat} (hI : Inv N P r) (hP : P + 1 < NB) (c : Int) {m : Msg} (hk : m.kind = kDrain) :
    Calls Tryz.prog 41 #[vp D, vi c, .agg (msgCells m)] w (HdPost w ρ G D (rHandle r c m)) := by
  have HR := Lib.hid (rHandle_drain (r := r) (c := c) hk)
  have ht : (bs m.kind).toList = [100, 114, 97, 105, 110] := by rw [hk]; exact bs_toList _
  have HT : Hid (Step ρ ρ w (w.alloc (.cells (msgCells m) 97))) := (Step.refl ρ w).alloc _
  have HE := Lib.hid hE
  have HD := Lib.hid (fun b (hb : Of ρ b) => (h.dom b hb).1)
  have HC := Lib.hid (conn_calls (h.alloc (.cells (msgCells m) 97)) c)
  obtain ⟨x, hx⟩ := rConn_get r c
  have Hx := Lib.hid hx
  have HQ := Lib.hid (rDrain_eq hx)
  have hwl : (rConn r c).waiting.length ≤ 1000000000000 := by have := (hI.conn c).n.pot; unfold NB at hP; omega
  have HLM := Lib.hid ((hI.conn c).lim (by omega))
  have HMC := Lib.hid (show msgCells m = #[vs (bs m.kind), vi m.id, vi m.att, vs (bs m.tenant), vs (bs m.text)] from rfl)
  rw [HMC.out] at HT HC ⊢
  generalize rConn r c = r1 at *
  obtain ⟨xr, xd, xg⟩ := x
  clear hI hP hk h hx hE
  go_enter Tryz.func41, Tryz.ntmps41
  go_wp2_with fail
  refine HC.out.mono ?_
  rintro e w1 ⟨ρ1, L1, rfl, k1, k2⟩
  have hblk1 := (k1.cns.2.2.2 c _ (aget_mem Hx.out)).2.1
  have hblkr := (k1.cns.2.2.2 c _ (aget_mem Hx.out)).1
  have d1 : w1.cell? ⟨L1.cn c, 1, none⟩ = some (.bool xd) := cell_of_blk hblk1 rfl
  have fd1 : w1.frozen? ⟨L1.cn c, 1, none⟩ = false := frozen_of_blk hblk1
  obtain ⟨p1, p2⟩ := k1.put_cn (w' := w1.setCell ⟨L1.cn c, 1, none⟩ (.bool true)) (y := { rest := xr, drains := true, gone := xg }) Hx.out rfl (blk_setCell w1 hblk1) ((Fr.refl _ w1).setCell _ _ (.inl rfl))
  have HK := Lib.hid p1
  have HS := Lib.hid ((HT.out.trans k2).trans p2)
  obtain ⟨va, vc, hw1, hw2, hw3⟩ := SlAt.form' p1.wai
  have c11 : (w1.setCell ⟨L1.cn c, 1, none⟩ (.bool true)).cell? ⟨D, 11, none⟩ = some (.slice va r1.waiting.length vc) := by rw [← hw1]; exact p1.disp.c11
  have hwai : SlAt (w1.setCell ⟨L1.cn c, 1, none⟩ (.bool true)) 3 1 (fun b => ρ1 b = rWait) (.slice va r1.waiting.length vc) r1.waiting.length (r1.waiting.map encI) := by rw [← hw1]; exact p1.wai
  have HWO := Lib.hid (without_calls hwai c (fun b (hb : ρ1 b = rWait) => (p1.dom b (by rw [hb]; simp [rWait])).2) hwl)
  have hDC : D ≠ L1.cn c := fun e => by have := k1.disp.1; rw [e, hblkr] at this; simp [rCn, rDisp] at this
  have hD1 := k1.size.2
  unfold maxLen at hw3
  have e11 : w1.cell? ⟨D, 11, none⟩ = some (.slice va r1.waiting.length vc) := by
    have h5 := k1.disp.c11
    have h6 := p1.disp.c11
    rw [h5, ← h6]; exact c11
  clear k1 k2 p1 p2 hwai hw1 hblk1 hblkr
  go_wp2_with fail
  refine HWO.out.mono ?_
  rintro e w2 ⟨v2, rfl, hs2, hf2⟩
  obtain ⟨va2, vc2, hv1, hv2, hv3⟩ := hs2.form'
  have hD2 : w2.heap[D]? = some (.cells (dispCells L1 r1.cfg r1.now r1.seq) 80 (0, 0)) := (hf2.block D HK.out.size.2 (fun (e : ρ1 D = rWait) => by have := HK.out.disp.1; rw [e] at this; simp [rWait, rDisp] at this)).trans HK.out.disp.2
  have f11 : w2.frozen? ⟨D, 11, none⟩ = false := frozen_of_blk hD2
  have c11b : w2.cell? ⟨D, 11, none⟩ = some L1.waiting := cell_of_blk hD2 rfl
  obtain ⟨q1, q2⟩ := HK.out.put_wait (ρ' := ρ1) (w' := w2.setCell ⟨D, 11, none⟩ v2) (v := v2) (l := without r1.waiting c) Ext.refl (blk_setCell w2 hD2)
    (hs2.of_blk (fun b (hb : ρ1 b = rWait) _ => blk_setCell_ne _ (by rintro rfl; have := HK.out.disp.1; rw [hb] at this; simp [rWait, rDisp] at this)) (fun _ h _ => h))
    ((hf2.mono (fun x hx => .inl (.inr hx))).setCell _ _ (.inl (.inl rfl)))
  have HA : Hid (At w ρ G D { r1 with conns := aset r1.conns c { rest := xr, drains := true, gone := xg }, waiting := without r1.waiting c } (w2.setCell ⟨D, 11, none⟩ v2)) := ⟨_, _, q1, HS.out.trans q2⟩
  have HBY := Lib.hid (bye_calls q1 (HA.out.env HE.out HD.out) ⟨HLM.out.atts, HLM.out.out⟩ c)
  have HQ2 := Lib.hid q2
  subst hv1
  clear q1 q2 hs2 hf2 hD2
  go_wp2_with fail
  refine HBY.out.mono ?_
  rintro e w3 ⟨rfl, hst⟩
  have HA3 := Lib.hid (At.st (HS.out.trans HQ2.out) hst)
  clear hst
  go_wp2_with fail
  go_end0
  exact ⟨rfl, by rw [HR.out, HQ.out]; exact HA3.out⟩

/-! ### handle -/
theorem handle_calls {w : World} {ρ : Nat → Role} {G D : Nat} {L : Lay} {r : Raw} (h : RRep w ρ G D L r) (hE : Env G w) {N P : Nat} (hI : Inv N P r) (hN : N + 1 ≤ NB) (hP : P + 1 < NB) (c : Int) {m : Msg} (hm : MsgOk m)
    (hk : m.kind = kSub ∨ m.kind = kCan ∨ m.kind = kPull ∨ m.kind = kBeat ∨ m.kind = kDone ∨ m.kind = kFail ∨ m.kind = kDrain) :
    Calls Tryz.prog 41 #[vp D, vi c, .agg (msgCells m)] w (HdPost w ρ G D (rHandle r c m)) := by
  rcases hk with hk | hk | hk | hk | hk | hk | hk
  · exact handle_sub h hE hI hN hP c hm hk
  · exact handle_can h hE hI (by omega) hP c hm hk
  · exact handle_pull h hI hP c hk
  · exact handle_beat h hI (by omega) hP c hk
  · exact handle_done h hE hI (by omega) hP c hm hk
  · exact handle_fail h hE hI (by omega) hP c hm hk
  · exact handle_drain h hE hI hP c hk
end Go.Proofs.YtaejfobbogahmabGreatDoor
