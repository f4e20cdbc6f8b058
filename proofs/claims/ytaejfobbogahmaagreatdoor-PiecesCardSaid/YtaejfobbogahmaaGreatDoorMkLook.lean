/-
  The walk of Dispatcher's Look: a sum over a map, in whatever order.
-/
import Derived.Test.YtaejfobbogahmaaGreatDoorMkKeep
import Derived.Laws.IdiomRangeMap
import Derived.Maps.RangeRun
import Derived.Deep.RegionLaw
set_option linter.unusedVariables false
set_option linter.unusedSimpArgs false
namespace Go.Proofs.YtaejfobbogahmaaGreatDoor
open Go Go.RowKit

/-! ### A sum over entries -/
def lenOf : Value → Nat
  | .slice _ n _ => n
  | _ => 0
/-- The lengths of the entries that have been handed out, added up. -/
def seenLen : List MapEntry → Array Nat → Nat
  | [], _ => 0
  | x :: l, seen => (if seen.contains x.born then lenOf x.val else 0) + seenLen l seen
theorem seenLen_other (seen : Array Nat) (b : Nat) : ∀ (es : List MapEntry), b ∉ es.map (·.born) → seenLen es (seen.push b) = seenLen es seen
  | [], _ => rfl
  | x :: l, h => by
    have h1 : x.born ≠ b := fun e => h (by simp [e])
    have h2 : b ∉ l.map (·.born) := fun e => h (List.mem_cons_of_mem _ e)
    simp only [seenLen, contains_push, beq_eq_false_iff_ne.2 h1, Bool.or_false, seenLen_other seen b l h2]
theorem seenLen_push (seen : Array Nat) (e : MapEntry) (hs : seen.contains e.born = false) : ∀ (es : List MapEntry), (es.map (·.born)).Nodup → e ∈ es → seenLen es (seen.push e.born) = seenLen es seen + lenOf e.val
  | x :: l, hn, he => by
    have hn' := List.nodup_cons.1 hn
    rcases List.mem_cons.1 he with rfl | h
    · simp only [seenLen, contains_push, hs, beq_self_eq_true, Bool.or_true, if_true, Bool.false_eq_true, if_false, seenLen_other seen e.born l hn'.1]
      omega
    · have hx : (x.born == e.born) = false := beq_eq_false_iff_ne.2 (fun e2 => hn'.1 (by show x.born ∈ _; rw [e2]; exact List.mem_map.2 ⟨e, h, rfl⟩))
      simp only [seenLen, contains_push, hx, Bool.or_false, seenLen_push seen e hs l hn'.2 h]
      omega
theorem seenLen_none : ∀ (es : List MapEntry), seenLen es #[] = 0
  | [] => rfl
  | x :: l => by simp [seenLen, seenLen_none l]
theorem seenLen_full (seen : Array Nat) : ∀ (es : List MapEntry), (∀ x ∈ es, seen.contains x.born = true) → seenLen es seen = (es.map fun e => lenOf e.val).sum
  | [], _ => rfl
  | x :: l, h => by
    simp only [seenLen, h x (List.mem_cons.2 (Or.inl rfl)), if_true, List.map_cons, List.sum_cons, seenLen_full seen l (fun y hy => h y (List.mem_cons.2 (Or.inr hy)))]
theorem seenLen_le (seen : Array Nat) : ∀ (es : List MapEntry), seenLen es seen ≤ (es.map fun e => lenOf e.val).sum
  | [] => Nat.le_refl _
  | x :: l => by
    have := seenLen_le seen l
    simp only [seenLen, List.map_cons, List.sum_cons]
    split <;> omega

/-- The queues' entries, as they lie. -/
theorem qu_sum {w : World} {ρ : Nat → Role} {G D : Nat} {L : Lay} {r : Raw} (h : RRep w ρ G D L r) {es : Array MapEntry} (he : EntsAre encS es.toList (amap (fun t _ => L.qu t) r.queues)) :
    (es.toList.map fun e => lenOf e.val).sum = sumLens r.queues ∧ ∀ e ∈ es.toList, ∃ a n cap, e.val = .slice a n cap := by
  have hq := h.qus.2.2.2
  have key : ∀ (l : List (ByteArray × List Int)) (es : List MapEntry), (∀ t l', (t, l') ∈ l → ∃ a cap, L.qu t = .slice a l'.length cap) → EntsAre encS es (amap (fun t _ => L.qu t) l) →
      (es.map fun e => lenOf e.val).sum = sumLens l ∧ ∀ e ∈ es, ∃ a n cap, e.val = .slice a n cap := by
    intro l
    induction l with
    | nil =>
      intro es _ he
      have : es = [] := by simpa [EntsAre, amap] using he
      subst this
      exact ⟨rfl, by simp⟩
    | cons p l ih =>
      intro es hl he
      cases es with
      | nil => simp [EntsAre, amap] at he
      | cons e es =>
        have he2 : (e.key, e.val) = (encS p.1, L.qu p.1) ∧ EntsAre encS es (amap (fun t _ => L.qu t) l) := by
          simpa [EntsAre, amap] using he
        obtain ⟨a, cap, hv⟩ := hl p.1 p.2 (by simp)
        have hval : e.val = .slice a p.2.length cap := by rw [← hv]; exact congrArg Prod.snd he2.1
        obtain ⟨i1, i2⟩ := ih es (fun t l' h' => hl t l' (by simp [h'])) he2.2
        refine ⟨?_, fun x hx => ?_⟩
        · rw [List.map_cons, List.sum_cons, i1, hval]; rfl
        · rcases List.mem_cons.1 hx with rfl | hx
          · exact ⟨_, _, _, hval⟩
          · exact i2 x hx
  exact key r.queues es.toList (fun t l' h' => by
    obtain ⟨a, cap, hv, _, _⟩ := (hq t l' h').form'
    exact ⟨a, cap, hv⟩) he

theorem sumLens_eq (l : List (ByteArray × List Int)) : sumLens l = (l.flatMap (·.2)).length := by
  unfold sumLens
  rw [List.length_flatMap]
theorem sumLens_le {r : Raw} (h : InvQ r) : sumLens r.queues ≤ r.reqs.length := by
  rw [sumLens_eq]
  have hg : ∀ t l, (t, l) ∈ r.queues → qOf r t = l := fun t l hm => qOf_some (aget_of_mem h.kqu hm)
  have hnd : ∀ (l : List (ByteArray × List Int)), l.Sublist r.queues → (l.flatMap (·.2)).Nodup := by
    intro l
    induction l with
    | nil => intro _; simp
    | cons p l ih =>
      intro hs
      have hp : p ∈ r.queues := hs.subset (by simp)
      have hl := ih ((List.sublist_cons_self _ _).trans hs)
      rw [List.flatMap_cons, List.nodup_append]
      refine ⟨by rw [← hg p.1 p.2 hp]; exact h.qnd _, hl, fun a ha b hb e => ?_⟩
      subst e
      obtain ⟨q, hq, hb⟩ := List.mem_flatMap.1 hb
      have hq' : q ∈ r.queues := hs.subset (by simp [hq])
      rw [← hg p.1 p.2 hp] at ha
      rw [← hg q.1 q.2 hq'] at hb
      obtain ⟨q1, e1, e2, _⟩ := h.qreq _ _ ha
      obtain ⟨q2, e3, e4, _⟩ := h.qreq _ _ hb
      rw [e1] at e3; cases e3
      have hk := (hs.map Prod.fst).nodup h.kqu
      rw [List.map_cons, List.nodup_cons] at hk
      exact hk.1 (by rw [e2.symm.trans e4]; exact List.mem_map.2 ⟨q, hq, rfl⟩)
  have := nodup_len (l := r.queues.flatMap (·.2)) (m := r.reqs.map Prod.fst) (hnd _ (List.Sublist.refl _))
    (fun id hid => by
      obtain ⟨p, hp, hx⟩ := List.mem_flatMap.1 hid
      rw [← hg p.1 p.2 hp] at hx
      obtain ⟨q, hq, _⟩ := h.qreq _ _ hx
      exact aget_isSome.1 (by rw [hq]; rfl))
  simpa using this

def lookCells (r : Raw) : Array Value := #[vi r.now, vi (sumLens r.queues : Nat), vi (r.atts.length : Nat), vi (r.waiting.length : Nat)]
theorem look_results {w : World} {R : Nat} {a b c d : Value} (t : Array Value) (ht : t[2]? = some (vp R)) (h : w.heap[R]? = some (.cells #[a, b, c, d] 52 (0, 0))) (ha : a.oneCell' = true) (hb : b.oneCell' = true) (hc : c.oneCell' = true) (hd : d.oneCell' = true) : (results Tryz.f24 t).run Tryz.prog w = .ok (.agg #[a, b, c, d]) w := by
  have e0 := cell_of_blk h (off := 0) rfl
  have e1 := cell_of_blk h (off := 1) rfl
  have e2 := cell_of_blk h (off := 2) rfl
  have e3 := cell_of_blk h (off := 3) rfl
  simp [results, Tryz.results24, go_sem, ht, e0, e1, e2, e3]

/-- In a loop over a map: the iterator in block R; the world else as it was. -/
def ItAt (wl : World) (R bm clock : Nat) (seen : Array Nat) (wr : World) : Prop := wr.heap[R]? = some (.mapIter (some bm) clock seen clock) ∧ Fr (fun b => b = R) wl wr
theorem ItAt.next {wl wr w1 : World} {R bm clock : Nat} {seen seen' : Array Nat} (h : ItAt wl R bm clock seen wr) (h1 : w1 = wr ∨ w1 = wr.drew) : ItAt wl R bm clock seen' (Go.ChangeMaps.setBlock w1 R (.mapIter (some bm) clock seen' clock)) := by
  obtain ⟨h2, h3⟩ := h
  have hlt := blk_lt _ h2
  have h4 : w1.heap = wr.heap ∧ w1.os = wr.os ∧ w1.tape = wr.tape ∧ w1.output = wr.output := by rcases h1 with rfl | rfl <;> exact ⟨rfl, rfl, rfl, rfl⟩
  obtain ⟨e1, e2, e3, e4⟩ := h4
  refine ⟨?_, ⟨e2.trans h3.os, e3.trans h3.tape, e4.trans h3.output, ?_, fun i hi hn => ?_⟩⟩
  · show (w1.heap.setIfInBounds R _)[R]? = _
    rw [e1]; simp [hlt]
  · show wl.heap.size ≤ (w1.heap.setIfInBounds R _).size
    rw [e1]; simp; exact h3.size
  · show (w1.heap.setIfInBounds R _)[i]? = _
    rw [e1, Array.getElem?_setIfInBounds_ne (fun e => hn e.symm)]
    exact h3.block i hi hn

set_option maxRecDepth 100000 in
set_option maxHeartbeats 2000000 in
theorem Look_calls {w : World} {ρ : Nat → Role} {G D : Nat} {L : Lay} {r : Raw} (h : RRep w ρ G D L r) (hQ : InvQ r) (hb : r.reqs.length ≤ 1000000000000) :
    Calls Tryz.prog 24 #[vp D] w fun e w' => e = .returned (.agg (lookCells r)) ∧ Below w.heap.size w w' := by
  obtain ⟨es, clock, hm, he, hst⟩ := h.qus.2.1
  obtain ⟨hsum, hval⟩ := qu_sum h he
  have hle := sumLens_le hQ
  have HV := Lib.hid hval
  have HS := Lib.hid hsum
  have HST := Lib.hid hst
  have HMM := Lib.hid hm
  have c8 := h.disp.c8
  have c5 := h.disp.c5
  obtain ⟨va, vc, hw1, hw2, hw3⟩ := SlAt.form' h.wai
  have c11 : w.cell? ⟨D, 11, none⟩ = some (.slice va r.waiting.length vc) := by rw [← hw1]; exact h.disp.c11
  have HH := Lib.hid h
  have hDw := h.size.2
  have hbm := blk_lt _ hm
  obtain ⟨wl, hwl⟩ : ∃ wl, wl = w.alloc (.cells #[vi 0, vi 0, vi 0, vi 0] 52) := ⟨_, rfl⟩
  have hsz : wl.heap.size = w.heap.size + 1 := by rw [hwl]; simp
  have hrg := run_range_map (P := Tryz.prog) wl 74 9 46 L.mq es clock Tryz.underlying74 (by rw [hwl]; exact (blk_alloc_lt w hbm).trans hm)
  have HWL := Lib.hid hwl
  rw [hsz, hwl] at hrg
  have hsb : sumLens r.queues ≤ 1000000000000 := by omega
  unfold maxLen at hw3
  clear h he hst hval hsum hle hQ hb hm
  go_enter Tryz.func24, Tryz.ntmps24
  go_wp2_with fail
  go_loopw [3, 5] (fun s3 _ wr => ∃ seen : Array Nat, s3 = .int .i64 ((seenLen es.toList seen : Nat) : Int) ∧ Hid (ItAt ((w.alloc (.cells #[vi 0, vi 0, vi 0, vi 0] 52)).alloc (.mapIter (some L.mq) clock #[] clock)) (w.heap.size + 1) L.mq clock seen wr)) (fun _ _ wr => (leftOf es (wr.iterSeen (w.heap.size + 1))).size)
  case atStart =>
    refine ⟨#[], by rw [seenLen_none]; rfl, ?_, Fr.refl _ _⟩
    have := blk_alloc_new (w.alloc (.cells #[vi 0, vi 0, vi 0, vi 0] 52)) (o := .mapIter (some L.mq) clock #[] clock)
    simpa using this
  case round =>
    obtain ⟨seen, rfl, HI⟩ := hrel
    have hbm1 : wr.heap[L.mq]? = some (.map es clock) := by
      rw [HI.out.2.block L.mq (by simp; omega) (by omega)]
      exact (blk_alloc_lt _ (by simp; omega)).trans ((blk_alloc_lt w hbm).trans HMM.out)
    have hseen : wr.iterSeen (w.heap.size + 1) = seen := by unfold World.iterSeen; rw [HI.out.1]
    rcases run_next_at (P := Tryz.prog) wr 0 (w.heap.size + 1) L.mq clock clock seen es clock HI.out.1 hbm1 HST.out.1 (Nat.le_refl _) with ⟨h0, hrun⟩ | ⟨e, he, w1, hw1', hrun⟩
    · have hnx : ∀ ty, (Instr.next (.pointer (some ⟨w.heap.size + 1, 0, none⟩)) false ty).run Tryz.prog wr = .ok (.tuple #[.bool false]) wr := fun _ => hrun
      have HSUM : Hid (seenLen es.toList seen = sumLens r.queues) := show _ = _ by rw [← HS.out]; exact seenLen_full seen _ (all_seen es seen h0)
      have hf : Fr (fun _ => False) w wr := (((Fr.refl (fun _ => False) w).alloc _).alloc _).trans HI.out.2 (fun x hx => .inr (by omega))
      have hR : wr.heap[w.heap.size]? = some (.cells #[vi 0, vi 0, vi 0, vi 0] 52 (0, 0)) := by
        rw [HI.out.2.block w.heap.size (by simp; omega) (by omega)]
        exact (blk_alloc_lt _ (by simp)).trans (blk_alloc_new w)
      have hrep := HH.out.of_fr hf (fun _ f => f.elim)
      have d5 : wr.cell? ⟨D, 5, none⟩ = some (vi r.now) := hrep.disp.c5
      have d11 : wr.cell? ⟨D, 11, none⟩ = some (.slice va r.waiting.length vc) := by have := hrep.disp.c11; rw [hw1] at this; exact this
      have R0 : wr.cell? ⟨w.heap.size, 0, none⟩ = some (vi 0) := cell_of_blk hR rfl
      have R1 : wr.cell? ⟨w.heap.size, 1, none⟩ = some (vi 0) := cell_of_blk hR rfl
      have R2 : wr.cell? ⟨w.heap.size, 2, none⟩ = some (vi 0) := cell_of_blk hR rfl
      have R3 : wr.cell? ⟨w.heap.size, 3, none⟩ = some (vi 0) := cell_of_blk hR rfl
      have F0 : wr.frozen? ⟨w.heap.size, 0, none⟩ = false := frozen_of_blk hR
      have F1 : wr.frozen? ⟨w.heap.size, 1, none⟩ = false := frozen_of_blk hR
      have F2 : wr.frozen? ⟨w.heap.size, 2, none⟩ = false := frozen_of_blk hR
      have F3 : wr.frozen? ⟨w.heap.size, 3, none⟩ = false := frozen_of_blk hR
      have HTL := Lib.hid (fun n => TLen_calls (hrep.drewN n))
      have HRB := Lib.hid hR
      have HFF := Lib.hid hf
      have hDr := hrep.size.2
      rw [HSUM.out]
      clear h0 hrun hbm1 hseen hf hR hrep
      go_wp2_with fail
      go_region_law (first | (go_simp; go_at_call 42; refine (HTL.out 1).mono ?_; rintro e w3 ⟨rfl, rfl⟩))
      all_goals
        go_wp2_with fail
        refine bodyPost_ret (v := .agg (lookCells r)) (look_results _ rfl (blk_setCell _ (blk_setCell _ (blk_setCell _ (blk_setCell _ (show (wr.drewN 1).heap[w.heap.size]? = _ from HRB.out))))) rfl rfl rfl rfl) rfl ⟨rfl, ?_⟩
        exact (((((below_drewN (HFF.out.below (Nat.le_refl _) (fun _ f => f.elim)) 1).setCell (Nat.le_refl _) _).setCell (Nat.le_refl _) _).setCell (Nat.le_refl _) _).setCell (Nat.le_refl _) _)
    · obtain ⟨a, n, cap, hval⟩ := HV.out e (mem_left he).1
      rw [hval] at hrun
      have hnx : ∀ ty, (Instr.next (.pointer (some ⟨w.heap.size + 1, 0, none⟩)) false ty).run Tryz.prog wr = .ok (.tuple #[.bool true, e.key, .slice a n cap]) (Go.ChangeMaps.setBlock w1 (w.heap.size + 1) (.mapIter (some L.mq) clock (seen.push e.born) clock)) := fun _ => hrun
      have HN := Lib.hid (HI.out.next (seen' := seen.push e.born) hw1')
      obtain ⟨w2, hw2'⟩ : ∃ w2, Go.ChangeMaps.setBlock w1 (w.heap.size + 1) (.mapIter (some L.mq) clock (seen.push e.born) clock) = w2 := ⟨_, rfl⟩
      rw [hw2'] at hnx HN
      have hbm2 : w2.heap[L.mq]? = some (.map es clock) := by
        rw [HN.out.2.block L.mq (by simp; omega) (by omega)]
        exact (blk_alloc_lt _ (by simp; omega)).trans ((blk_alloc_lt w hbm).trans HMM.out)
      have hen := run_entry_at (P := Tryz.prog) w2 (w.heap.size + 1) L.mq clock seen es clock e HN.out.1 hbm2 (mem_left he).1 HST.out.2.1
      rw [hval] at hen
      have hpush : Hid (seenLen es.toList (seen.push e.born) = seenLen es.toList seen + n) := show _ = _ by rw [seenLen_push seen e (mem_left he).2 es.toList HST.out.2.1 (mem_left he).1, hval]; rfl
      have hle1 : seenLen es.toList (seen.push e.born) ≤ 1000000000000 := by
        have := seenLen_le (seen.push e.born) es.toList
        have h2 := HS.out
        omega
      have hsh := Lib.hid (left_shrinks es seen e he)
      have hn1 : seenLen es.toList seen + n ≤ 1000000000000 := by have := hpush.out; omega
      have Hsn := Lib.hid hseen
      generalize seenLen es.toList seen = S0 at *
      clear hrun he hbm1 hbm2 hw2' hseen hw1'
      go_wp2_with fail
      go_roundw
      case rel => exact ⟨seen.push e.born, by rw [hpush.out]; go_num, HN.out⟩
      case measure =>
        rw [Hsn.out, show w2.iterSeen (w.heap.size + 1) = seen.push e.born from by unfold World.iterSeen; rw [HN.out.1]]
        exact hsh.out
end Go.Proofs.YtaejfobbogahmaaGreatDoor
