/-
  The walks of Dispatcher's queue and unqueue.
-/
import Derived.Test.YtaejfobbogahmabGreatDoorMkInsert
import Derived.Deep.RegionLaw
set_option linter.unusedVariables false
set_option linter.unusedSimpArgs false
namespace Go.Proofs.YtaejfobbogahmabGreatDoor
open Go Go.RowKit

/-- What a tenant's queue reads. -/
theorem RRep.qu_at {w : World} {ρ : Nat → Role} {G D : Nat} {L : Lay} {r : Raw} (h : RRep w ρ G D L r) (t : ByteArray) :
    ∃ a cap, (aget (amap (fun t _ => L.qu t) r.queues) t).getD (.slice none 0 0) = .slice a (qOf r t).length cap ∧ (qOf r t).length ≤ cap ∧ cap ≤ maxLen ∧ SlAt w 3 1 (fun b => ρ b = rQu t) (.slice a (qOf r t).length cap) (qOf r t).length ((qOf r t).map encI) := by
  have hs : SlAt w 3 1 (fun b => ρ b = rQu t) ((aget (amap (fun t _ => L.qu t) r.queues) t).getD (.slice none 0 0)) (qOf r t).length ((qOf r t).map encI) := by
    rw [aget_amap]
    unfold qOf
    cases hq : aget r.queues t with
    | none => exact SlAt.nil
    | some l => exact h.qus.2.2.2 t l (aget_mem hq)
  obtain ⟨a, cap, e, h1, h2⟩ := hs.form'
  exact ⟨a, cap, e, h1, h2, e ▸ hs⟩

/-- Behind the new queue's cells, ahead of the map's entry. -/
theorem qu_mid {w w3 : World} {ρ : Nat → Role} {G D : Nat} {L : Lay} {r : Raw} (h : RRep w ρ G D L r) {t : ByteArray} {g : Nat} (hg : ρ g = rQu t ∨ g = w.heap.size) (hf : Fr (fun b => b = g) w w3) {id : Int} {q : Req} (hq : aget r.reqs id = some q) :
    w3.cell? ⟨D, 8, none⟩ = some (.map (some L.mq)) ∧ w3.cell? ⟨L.req id, 1, none⟩ = some (vs q.tenant) ∧ MapAt encS w3 L.mq (amap (fun t _ => L.qu t) r.queues) := by
  have ne : ∀ b R, b < w.heap.size → ρ b = R → R ≠ rQu t → w3.heap[b]? = w.heap[b]? := fun b R hb hR hne => hf.block b hb (fun e => by
    subst e
    rcases hg with h1 | h1
    · exact hne (hR.symm.trans h1)
    · omega)
  refine ⟨cell_of_blk ((ne D _ h.size.2 h.disp.1 (by simp [rDisp, rQu])).trans h.disp.2) rfl, ?_, h.qus.2.1.of_blk (ne _ _ h.qus.2.1.lt h.qus.1 (by simp [rMq, rQu]))⟩
  obtain ⟨q1, q2⟩ := h.opn.2.2.2 id q (aget_mem hq)
  exact cell_of_blk ((ne _ _ (blk_lt w q2) q1 (by simp [rReq, rQu])).trans q2) rfl
theorem qu_end {w w3 w4 : World} {ρ : Nat → Role} {G D : Nat} {L : Lay} {r : Raw} (h : RRep w ρ G D L r) {t : ByteArray} {g : Nat} (hg : ρ g = rQu t ∨ g = w.heap.size) (hf : Fr (fun b => b = g) w w3) {v : Value} {l : List Int} (hs : SlAt w3 3 1 (fun b => b = g) v l.length (l.map encI)) (hlt : g < w3.heap.size)
    (hM : MapAt encS w4 L.mq (aset (amap (fun t _ => L.qu t) r.queues) t v)) (hf4 : Fr (fun b => b = L.mq) w3 w4) : ∃ ρ', RRep w4 ρ' G D { L with qu := fun s => if s = t then v else L.qu s } { r with queues := aset r.queues t l } ∧ Step ρ ρ' w w4 := by
  have hmq : ρ L.mq = rMq := h.qus.1
  have hgm : g ≠ L.mq := by
    rintro rfl
    rcases hg with h1 | h1
    · rw [hmq] at h1; simp [rMq, rQu] at h1
    · have := h.qus.2.1.lt; omega
  refine ⟨setRole ρ g (rQu t), h.put_qu (Ext.set (hg.imp id (fun e => by omega)) (Nat.lt_of_lt_of_le hlt hf4.size)) hM (hs.of_blk (fun b hb hl => hf4.block b hl (fun e => hgm (hb.symm.trans e))) (fun b hb _ => by rw [hb]; exact setRole_same _ _ _)) ?_⟩
  exact (hf.mono (fun x hx => .inl (.inr (by rw [hx]; exact setRole_same _ _ _)))).trans hf4 (fun x hx => .inl (.inl hx))

/-- The ring with one more. -/
theorem ring_end {w w3 : World} {ρ : Nat → Role} {G D : Nat} {L : Lay} {r : Raw} (h : RRep w ρ G D L r) {g off cap n : Nat} (hg : ρ g = rRing ∨ g = w.heap.size) {l : List ByteArray} (hn : l.length = n) (hs : SlAt w3 9 1 (fun b => b = g) (.slice (some ⟨g, off, none⟩) n cap) n (l.map encS)) (hlt : g < w3.heap.size) (hf : Fr (fun b => b = g) w w3) {id : Int} {q : Req} (hq : aget r.reqs id = some q) :
    w3.frozen? ⟨D, 10, none⟩ = false ∧ w3.cell? ⟨D, 10, none⟩ = some L.ring ∧ w3.cell? ⟨L.req id, 1, none⟩ = some (vs q.tenant) ∧ ∃ ρ', RRep (w3.setCell ⟨D, 10, none⟩ (.slice (some ⟨g, off, none⟩) n cap)) ρ' G D { L with ring := .slice (some ⟨g, off, none⟩) n cap } { r with ring := l } ∧ Step ρ ρ' w (w3.setCell ⟨D, 10, none⟩ (.slice (some ⟨g, off, none⟩) n cap)) := by
  subst hn
  have hDr := h.disp.1
  have hgD : D ≠ g := by
    rintro rfl
    rcases hg with h1 | h1
    · rw [hDr] at h1; simp [rDisp, rRing] at h1
    · have := h.size; omega
  have hD : w3.heap[D]? = some (.cells (dispCells L r.cfg r.now r.seq) 80 (0, 0)) := (hf.block D h.size.2 hgD).trans h.disp.2
  have hQb := h.opn.2.2.2 id q (aget_mem hq)
  have hQ3 : w3.heap[L.req id]? = some (.cells (reqCells q) 117 (0, 0)) := (hf.block _ (blk_lt w hQb.2) (fun e => by
    subst e
    rcases hg with h1 | h1
    · rw [hQb.1] at h1; simp [rReq, rRing] at h1
    · have := blk_lt w hQb.2; omega)).trans hQb.2
  refine ⟨frozen_of_blk hD, cell_of_blk hD rfl, cell_of_blk hQ3 rfl, setRole ρ g rRing, h.put_ring (Ext.set (hg.imp (fun e => e) (fun e => by omega)) (by simpa using hlt)) (blk_setCell w3 hD) (hs.of_blk (fun b hb _ => blk_setCell_ne _ (by show b ≠ D; rw [hb]; exact Ne.symm hgD)) (fun b hb _ => by rw [hb]; exact setRole_same _ _ _)) ?_⟩
  exact (hf.mono (fun x hx => .inl (.inr (by rw [hx]; exact setRole_same _ _ _)))).setCell _ _ (.inl (.inl rfl))

theorem Fr.ofDrewL {S : Nat → Prop} {a b : World} (h : Fr S a.drew b) : Fr S a b := h.ofDrew
theorem fr_drewN (S : Nat → Prop) (w : World) (n : Nat) : Fr S w (w.drewN n) := ⟨rfl, rfl, rfl, Nat.le_refl _, fun _ _ _ => rfl⟩
theorem RRep.drewN {w : World} {ρ : Nat → Role} {G D : Nat} {L : Lay} {r : Raw} (h : RRep w ρ G D L r) (n : Nat) : RRep (w.drewN n) ρ G D L r := h.of_fr (S := fun _ => False) (fr_drewN _ _ _) (fun _ f => f.elim)
theorem Step.drewN {ρ ρ' : Nat → Role} {a b : World} (h : Step ρ ρ' a b) (n : Nat) : Step ρ ρ' a (b.drewN n) := ⟨h.fr.trans (fr_drewN _ _ _) (fun _ h => h), h.own⟩
theorem Step.alloc {ρ ρ' : Nat → Role} {a b : World} (h : Step ρ ρ' a b) (o : Obj) : Step ρ ρ' a (b.alloc o) := ⟨h.fr.alloc o, h.own⟩

theorem RRep.qu_sl {w : World} {ρ : Nat → Role} {G D : Nat} {L : Lay} {r : Raw} (h : RRep w ρ G D L r) {t : ByteArray} {v : Value} (hv : (aget (amap (fun t _ => L.qu t) r.queues) t).getD (.slice none 0 0) = v) :
    SlAt w 3 1 (fun b => ρ b = rQu t) v (qOf r t).length ((qOf r t).map encI) := by
  obtain ⟨a, cap, e, _, _, hs⟩ := h.qu_at t
  rw [← hv, e]; exact hs

/-- Ahead of the queue's own turn. -/
def QuAt (w : World) (ρ : Nat → Role) (G D : Nat) (L : Lay) (r2 : Raw) (w4 : World) : Prop :=
  ∃ ρ2 L2, RRep w4 ρ2 G D L2 r2 ∧ Step ρ ρ2 w w4 ∧ L2.att = L.att ∧ L2.req = L.req ∧ L2.cn = L.cn ∧ L2.qu = L.qu ∧ L2.mq = L.mq

theorem QuAt.sl {w w4 : World} {ρ : Nat → Role} {G D : Nat} {L : Lay} {r2 : Raw} (h : QuAt w ρ G D L r2 w4) {t : ByteArray} {v : Value} (hv : (aget (amap (fun t _ => L.qu t) r2.queues) t).getD (.slice none 0 0) = v) (o : Obj) :
    ∃ own : Nat → Prop, SlAt (w4.alloc o) 3 1 own v (qOf r2 t).length ((qOf r2 t).map encI) ∧ ¬ own w4.heap.size ∧ ∀ (g : Nat) (w5 : World), (own g ∨ g = (w4.alloc o).heap.size) → Fr (fun b => b = g) (w4.alloc o) w5 → g < w5.heap.size → ∀ id q, aget r2.reqs id = some q →
      (w5.cell? ⟨D, 8, none⟩ = some (.map (some L.mq)) ∧ w5.cell? ⟨L.req id, 1, none⟩ = some (vs q.tenant) ∧ MapAt encS w5 L.mq (amap (fun t _ => L.qu t) r2.queues)) ∧
      ∀ (v' : Value) (l : List Int), SlAt w5 3 1 (fun b => b = g) v' l.length (l.map encI) → ∀ w6, MapAt encS w6 L.mq (aset (amap (fun t _ => L.qu t) r2.queues) t v') → Fr (fun b => b = L.mq) w5 w6 → St true true true w ρ G D L { r2 with queues := aset r2.queues t l } w6 := by
  obtain ⟨ρ2, L2, h1, h2, h3, h4, h5, h6, h7⟩ := h
  rw [← h6] at hv
  have hA := h1.alloc o
  refine ⟨fun b => ρ2 b = rQu t, hA.qu_sl hv, fun hb => ?_, fun g w5 hg hf hlt id q hq => ⟨?_, fun v' l hs w6 hM hf6 => ?_⟩⟩
  · have := (h1.dom w4.heap.size (by have hb : ρ2 w4.heap.size = rQu t := hb; rw [hb]; simp [rQu])).2; omega
  · have := qu_mid hA hg hf hq
    rw [h6, h7, h4] at this; exact this
  · rw [← h6, ← h7] at hM
    rw [← h7] at hf6
    obtain ⟨ρ', k1, k2⟩ := qu_end hA hg hf hs hlt hM hf6
    exact ⟨ρ', _, k1, (h2.alloc o).trans k2, fun _ => h3, fun _ => h4, fun _ => h5⟩

set_option maxRecDepth 100000 in
set_option maxHeartbeats 2000000 in
theorem queue_last {w : World} {ρ : Nat → Role} {G D : Nat} {L : Lay} {r : Raw} (h : RRep w ρ G D L r) (id : Int) {q : Req} (hq : aget r.reqs id = some q) (hrl : r.ring.length ≤ 1000000000000) (hql : (qOf r q.tenant).length ≤ 1000000000000) :
    Calls Tryz.prog 54 #[vp D, vi id, .bool false] w (OkPost true true true w ρ G D L (rQueue r id false)) := by
  have c6 := h.disp.c6
  have hl := look_req h.opn.2.1 id
  rw [aget_amap, hq] at hl
  simp only [Option.map_some, Option.getD_some] at hl
  have hblk := h.req_blk hq
  have f6 : w.frozen? ⟨L.req id, 6, none⟩ = false := frozen_of_blk hblk
  have d6 : w.cell? ⟨L.req id, 6, none⟩ = some (.bool q.queued) := cell_of_blk hblk rfl
  obtain ⟨k1, k2⟩ := h.put_req (w' := w.setCell ⟨L.req id, 6, none⟩ (.bool true)) (y := { q with queued := true }) hq (blk_setCell w hblk) ((Fr.refl _ w).setCell _ _ (.inl rfl))
  have HK := Lib.hid (And.intro k1 k2)
  have HQ : Hid (rQueue r id false = { r with reqs := aset r.reqs id { q with queued := true }, ring := if qOf r q.tenant = [] then r.ring ++ [q.tenant] else r.ring, queues := aset r.queues q.tenant (qOf r q.tenant ++ [id]) }) := show _ = _ by unfold rQueue; rw [hq]; rfl
  have HQ1 : Hid (aget (aset r.reqs id { q with queued := true }) id = some { q with queued := true }) := show _ = _ by simp [aget_aset]
  have Hrl := Lib.hid hrl
  have Hql := Lib.hid hql
  clear k1 k2 h hq hblk hrl hql
  go_enter Tryz.func54, Tryz.ntmps54
  go_wp2_with fail
  obtain ⟨w1, hw1⟩ : ∃ w1, w1 = w.setCell ⟨L.req id, 6, none⟩ (.bool true) := ⟨_, rfl⟩
  rw [← hw1] at HK ⊢
  clear hw1
  obtain ⟨qa, qc, hqe, hqc, hqm, hqs⟩ := HK.out.1.qu_at q.tenant
  replace hqe : (aget (amap (fun t _ => L.qu t) r.queues) q.tenant).getD (.slice none 0 0) = .slice qa (qOf r q.tenant).length qc := hqe
  replace hqc : (qOf r q.tenant).length ≤ qc := hqc
  clear hqs
  have c8 : w1.cell? ⟨D, 8, none⟩ = some (.map (some L.mq)) := HK.out.1.disp.c8
  have t1 : w1.cell? ⟨L.req id, 1, none⟩ = some (vs q.tenant) := cell_of_blk (HK.out.1.req_blk HQ1.out) rfl
  have hlq : ∀ n, (Instr.lookup 72 (.map (some L.mq)) (vs q.tenant) false).run Tryz.prog (w1.drewN n) = .ok (.slice qa (qOf r q.tenant).length qc) (w1.drewN n) := fun n => by
    have := look_qu (HK.out.1.qus.2.1.of_blk (w' := w1.drewN n) rfl) q.tenant
    rw [hqe] at this; exact this
  unfold maxLen at hqm
  have HQE := Lib.hid hqe
  clear hqe
  by_cases hn : (qOf r q.tenant).length = 0
  · have hn0 : (((qOf r q.tenant).length : Int) == 0) = true := by rw [hn]; rfl
    have Hn : Hid (qOf r q.tenant = []) := List.length_eq_zero_iff.1 hn
    clear hn
    go_quiet (fail)
    go_wp2_with fail
    have HK2 := Lib.hid (And.intro (HK.out.1.drewN nq) (HK.out.2.drewN nq))
    clear c8 t1 hlq
    obtain ⟨w2, hw2⟩ : ∃ w2, w2 = w1.drewN nq := ⟨_, rfl⟩
    rw [← hw2] at HK2 ⊢
    clear hw2 HK
    have c10 : w2.cell? ⟨D, 10, none⟩ = some L.ring := HK2.out.1.disp.c10
    have t1 : w2.cell? ⟨L.req id, 1, none⟩ = some (vs q.tenant) := cell_of_blk (HK2.out.1.req_blk HQ1.out) rfl
    have HRs : Hid (SlAt (w2.alloc (.cells #[vs q.tenant] 9)).drew 9 1 (fun b => ρ b = rRing) L.ring r.ring.length (r.ring.map encS)) := (HK2.out.1.alloc (.cells #[vs q.tenant] 9)).drew.rng
    have HB := Lib.hid (show r.ring.length + 1 ≤ maxLen ∧ (r.ring.length + 1) * 16 ≤ 140737488355328 by have := Hrl.out; unfold maxLen; omega)
    have f10 : w2.frozen? ⟨D, 10, none⟩ = false := HK2.out.1.disp.frozen 10
    have c10b : (w2.alloc (.cells #[vs q.tenant] 9)).cell? ⟨D, 10, none⟩ = some L.ring := (HK2.out.1.alloc _).disp.c10
    have f10b : (w2.alloc (.cells #[vs q.tenant] 9)).frozen? ⟨D, 10, none⟩ = false := (HK2.out.1.alloc _).disp.frozen 10
    go_region_law (first | (refine step_append_at _ (by rfl) _ _ _ _ (by rfl) elem_string (by rfl) HRs.out (by rfl) (src_new w2.drew Tryz.underlying65 [vs q.tenant] (by rfl) (by simp [Value.oneCell']) w2.heap.size (by simp)) (by omega) HB.out.1 HB.out.2 ?_; intro g goff gcap w3 hg3 hs3 hf3 hlt3 _ _; obtain ⟨f3, c3, t3, k3⟩ := ring_end (HK2.out.1.alloc (.cells #[vs q.tenant] 9)).drew (l := r.ring ++ [q.tenant]) hg3 (n := r.ring.length + 1) (by simp) (by rw [List.map_append]; exact hs3) hlt3 hf3 HQ1.out; have HK3 := Lib.hid k3; clear hs3 hf3 hg3 hlt3 k3))
    all_goals
      have HR : Hid ((if qOf r q.tenant = [] then r.ring ++ [q.tenant] else r.ring) = r.ring ++ [q.tenant]) := if_pos Hn.out
      go_wp2_with (
          at_builtin
          obtain ⟨ρ3, k1, k2⟩ := HK3.out
          have HT : Hid (QuAt w ρ G D L _ _) := ⟨_, _, k1, ((HK2.out.2.alloc _).drew).trans k2, rfl, rfl, rfl, rfl, rfl⟩
          obtain ⟨w4, hw4⟩ : ∃ w4, w4 = w3.setCell ⟨D, 10, none⟩ (.slice (some ⟨g, goff, none⟩) (r.ring.length + 1) gcap) := ⟨_, rfl⟩
          have HW4 : Hid (w3.heap.size = w4.heap.size) := show _ = _ by rw [hw4]; simp
          rw [← hw4] at HT ⊢
          clear k1 k2 hw4 f3 c3 c10 t1 t3 f10 f10b c10b
          obtain ⟨own, hs4, ho4, HX⟩ := HT.out.sl HQE.out (.cells #[vi id] 3)
          have HS4 := Lib.hid hs4
          have HO4 := Lib.hid ho4
          have HX4 := Lib.hid HX
          clear hs4 ho4 HX
          have HB2 := Lib.hid (show (qOf r q.tenant).length + 1 ≤ maxLen ∧ ((qOf r q.tenant).length + 1) * 8 ≤ 140737488355328 by have := Hql.out; unfold maxLen; omega)
          refine wpList_append_at _ rfl _ _ _ _ rfl elem_int rfl HS4.out rfl (src_new w4 Tryz.underlying74 [vi id] (by rfl) (by simp [Value.oneCell']) w3.heap.size HW4.out) (by omega) HB2.out.1 HB2.out.2 ?_
          intro g5 goff5 gcap5 w5 hg5 hs5 hf5 hlt5 _ _
          obtain ⟨⟨c8, t1, m5⟩, k5⟩ := HX4.out g5 w5 hg5 hf5 hlt5 id _ HQ1.out
          have HM5 := Lib.hid m5
          have HK5 := Lib.hid (k5 _ (qOf r q.tenant ++ [id]) (by rw [List.length_append, List.map_append]; exact hs5))
          clear hs5 hf5 hg5 hlt5 k5 m5)
      refine wp_region_lexT 9 follows_mixed (by kernel_rfl) ?_
      simp only [List.take_succ_cons, List.take_zero, List.drop_succ_cons, List.drop_zero]
      repeat still_step
      refine wpStill_nil ?_
      go_wp2_with (refine wpList_update_at _ rfl KS _ _ _ _ rfl (HM5.out.of_blk (w' := w5.drew) rfl) Tryz.underlying72 q.tenant _ rfl rfl rfl ?_; intro w6 hm6 hs6 hf6; have HM6 := Lib.hid hm6; have HF6 := Lib.hid hf6; clear hm6 hs6 hf6)
      go_end0
      exact ⟨rfl, by rw [HQ.out]; have := HK5.out w6 HM6.out HF6.out.ofDrewL; rw [HR.out] at *; exact this⟩
  · have hn0 : (((qOf r q.tenant).length : Int) == 0) = false := beq_eq_false_iff_ne.2 (by omega)
    have Hn := Lib.hid hn
    clear hn
    have HR : Hid ((if qOf r q.tenant = [] then r.ring ++ [q.tenant] else r.ring) = r.ring) := if_neg (fun e => Hn.out (by rw [e]; rfl))
    go_quiet (fail)
    have HT : Hid (QuAt w ρ G D L _ _) := ⟨_, _, HK.out.1.drewN nq, HK.out.2.drewN nq, rfl, rfl, rfl, rfl, rfl⟩
    obtain ⟨w4, hw4⟩ : ∃ w4, w4 = w1.drewN nq := ⟨_, rfl⟩
    rw [← hw4] at HT ⊢
    clear hw4 c8 t1 hlq
    have HW4 : Hid (w4.heap.size = w4.heap.size) := rfl
    go_wp2_with (
        at_builtin
        obtain ⟨own, hs4, ho4, HX⟩ := HT.out.sl HQE.out (.cells #[vi id] 3)
        have HS4 := Lib.hid hs4
        have HO4 := Lib.hid ho4
        have HX4 := Lib.hid HX
        clear hs4 ho4 HX
        have HB2 := Lib.hid (show (qOf r q.tenant).length + 1 ≤ maxLen ∧ ((qOf r q.tenant).length + 1) * 8 ≤ 140737488355328 by have := Hql.out; unfold maxLen; omega)
        refine wpList_append_at _ rfl _ _ _ _ rfl elem_int rfl HS4.out rfl (src_new w4 Tryz.underlying74 [vi id] (by rfl) (by simp [Value.oneCell']) w4.heap.size HW4.out) (by omega) HB2.out.1 HB2.out.2 ?_
        intro g5 goff5 gcap5 w5 hg5 hs5 hf5 hlt5 _ _
        obtain ⟨⟨c8, t1, m5⟩, k5⟩ := HX4.out g5 w5 hg5 hf5 hlt5 id _ HQ1.out
        have HM5 := Lib.hid m5
        have HK5 := Lib.hid (k5 _ (qOf r q.tenant ++ [id]) (by rw [List.length_append, List.map_append]; exact hs5))
        clear hs5 hf5 hg5 hlt5 k5 m5)
    refine wp_region_lexT 9 follows_mixed (by kernel_rfl) ?_
    simp only [List.take_succ_cons, List.take_zero, List.drop_succ_cons, List.drop_zero]
    repeat still_step
    refine wpStill_nil ?_
    go_wp2_with (refine wpList_update_at _ rfl KS _ _ _ _ rfl (HM5.out.of_blk (w' := w5.drew) rfl) Tryz.underlying72 q.tenant _ rfl rfl rfl ?_; intro w6 hm6 hs6 hf6; have HM6 := Lib.hid hm6; have HF6 := Lib.hid hf6; clear hm6 hs6 hf6)
    go_end0
    exact ⟨rfl, by rw [HQ.out]; have := HK5.out w6 HM6.out HF6.out.ofDrewL; rw [HR.out] at *; exact this⟩

set_option maxRecDepth 100000 in
set_option maxHeartbeats 2000000 in
theorem queue_first {w : World} {ρ : Nat → Role} {G D : Nat} {L : Lay} {r : Raw} (h : RRep w ρ G D L r) (id : Int) {q : Req} (hq : aget r.reqs id = some q) (hrl : r.ring.length ≤ 1000000000000) (hql : (qOf r q.tenant).length ≤ 1000000000000) :
    Calls Tryz.prog 54 #[vp D, vi id, .bool true] w (OkPost true true true w ρ G D L (rQueue r id true)) := by
  have c6 := h.disp.c6
  have hl := look_req h.opn.2.1 id
  rw [aget_amap, hq] at hl
  simp only [Option.map_some, Option.getD_some] at hl
  have hblk := h.req_blk hq
  have f6 : w.frozen? ⟨L.req id, 6, none⟩ = false := frozen_of_blk hblk
  have d6 : w.cell? ⟨L.req id, 6, none⟩ = some (.bool q.queued) := cell_of_blk hblk rfl
  obtain ⟨k1, k2⟩ := h.put_req (w' := w.setCell ⟨L.req id, 6, none⟩ (.bool true)) (y := { q with queued := true }) hq (blk_setCell w hblk) ((Fr.refl _ w).setCell _ _ (.inl rfl))
  have HK := Lib.hid (And.intro k1 k2)
  have HQ : Hid (rQueue r id true = { r with reqs := aset r.reqs id { q with queued := true }, ring := if qOf r q.tenant = [] then r.ring ++ [q.tenant] else r.ring, queues := aset r.queues q.tenant (id :: qOf r q.tenant) }) := show _ = _ by unfold rQueue; rw [hq]; rfl
  have HQ1 : Hid (aget (aset r.reqs id { q with queued := true }) id = some { q with queued := true }) := show _ = _ by simp [aget_aset]
  have Hrl := Lib.hid hrl
  have Hql := Lib.hid hql
  clear k1 k2 h hq hblk hrl hql
  go_enter Tryz.func54, Tryz.ntmps54
  go_wp2_with fail
  obtain ⟨w1, hw1⟩ : ∃ w1, w1 = w.setCell ⟨L.req id, 6, none⟩ (.bool true) := ⟨_, rfl⟩
  rw [← hw1] at HK ⊢
  clear hw1
  obtain ⟨qa, qc, hqe, hqc, hqm, hqs⟩ := HK.out.1.qu_at q.tenant
  replace hqe : (aget (amap (fun t _ => L.qu t) r.queues) q.tenant).getD (.slice none 0 0) = .slice qa (qOf r q.tenant).length qc := hqe
  replace hqc : (qOf r q.tenant).length ≤ qc := hqc
  clear hqs
  have c8 : w1.cell? ⟨D, 8, none⟩ = some (.map (some L.mq)) := HK.out.1.disp.c8
  have t1 : w1.cell? ⟨L.req id, 1, none⟩ = some (vs q.tenant) := cell_of_blk (HK.out.1.req_blk HQ1.out) rfl
  have hlq : ∀ n, (Instr.lookup 72 (.map (some L.mq)) (vs q.tenant) false).run Tryz.prog (w1.drewN n) = .ok (.slice qa (qOf r q.tenant).length qc) (w1.drewN n) := fun n => by
    have := look_qu (HK.out.1.qus.2.1.of_blk (w' := w1.drewN n) rfl) q.tenant
    rw [hqe] at this; exact this
  unfold maxLen at hqm
  have HQE := Lib.hid hqe
  clear hqe
  by_cases hn : (qOf r q.tenant).length = 0
  · have hn0 : (((qOf r q.tenant).length : Int) == 0) = true := by rw [hn]; rfl
    have Hn : Hid (qOf r q.tenant = []) := List.length_eq_zero_iff.1 hn
    clear hn
    go_quiet (fail)
    go_wp2_with fail
    have HK2 := Lib.hid (And.intro (HK.out.1.drewN nq) (HK.out.2.drewN nq))
    clear c8 t1 hlq
    obtain ⟨w2, hw2⟩ : ∃ w2, w2 = w1.drewN nq := ⟨_, rfl⟩
    rw [← hw2] at HK2 ⊢
    clear hw2 HK
    have c10 : w2.cell? ⟨D, 10, none⟩ = some L.ring := HK2.out.1.disp.c10
    have t1 : w2.cell? ⟨L.req id, 1, none⟩ = some (vs q.tenant) := cell_of_blk (HK2.out.1.req_blk HQ1.out) rfl
    have HRs : Hid (SlAt (w2.alloc (.cells #[vs q.tenant] 9)).drew 9 1 (fun b => ρ b = rRing) L.ring r.ring.length (r.ring.map encS)) := (HK2.out.1.alloc (.cells #[vs q.tenant] 9)).drew.rng
    have HB := Lib.hid (show r.ring.length + 1 ≤ maxLen ∧ (r.ring.length + 1) * 16 ≤ 140737488355328 by have := Hrl.out; unfold maxLen; omega)
    have f10 : w2.frozen? ⟨D, 10, none⟩ = false := HK2.out.1.disp.frozen 10
    have c10b : (w2.alloc (.cells #[vs q.tenant] 9)).cell? ⟨D, 10, none⟩ = some L.ring := (HK2.out.1.alloc _).disp.c10
    have f10b : (w2.alloc (.cells #[vs q.tenant] 9)).frozen? ⟨D, 10, none⟩ = false := (HK2.out.1.alloc _).disp.frozen 10
    go_region_law (first | (refine step_append_at _ (by rfl) _ _ _ _ (by rfl) elem_string (by rfl) HRs.out (by rfl) (src_new w2.drew Tryz.underlying65 [vs q.tenant] (by rfl) (by simp [Value.oneCell']) w2.heap.size (by simp)) (by omega) HB.out.1 HB.out.2 ?_; intro g goff gcap w3 hg3 hs3 hf3 hlt3 _ _; obtain ⟨f3, c3, t3, k3⟩ := ring_end (HK2.out.1.alloc (.cells #[vs q.tenant] 9)).drew (l := r.ring ++ [q.tenant]) hg3 (n := r.ring.length + 1) (by simp) (by rw [List.map_append]; exact hs3) hlt3 hf3 HQ1.out; have HK3 := Lib.hid k3; clear hs3 hf3 hg3 hlt3 k3))
    all_goals
      have HR : Hid ((if qOf r q.tenant = [] then r.ring ++ [q.tenant] else r.ring) = r.ring ++ [q.tenant]) := if_pos Hn.out
      go_wp2_with (
          go_at_call 100
          obtain ⟨ρ3, k1, k2⟩ := HK3.out
          have HT : Hid (QuAt w ρ G D L _ _) := ⟨_, _, k1, ((HK2.out.2.alloc _).drew).trans k2, rfl, rfl, rfl, rfl, rfl⟩
          obtain ⟨w4, hw4⟩ : ∃ w4, w4 = w3.setCell ⟨D, 10, none⟩ (.slice (some ⟨g, goff, none⟩) (r.ring.length + 1) gcap) := ⟨_, rfl⟩
          have HW4 : Hid (w3.heap.size = w4.heap.size) := show _ = _ by rw [hw4]; simp
          rw [← hw4] at HT ⊢
          clear k1 k2 hw4 f3 c3 c10 t1 t3 f10 f10b c10b
          obtain ⟨own, hs4, ho4, HX⟩ := HT.out.sl HQE.out (.cells #[vi id] 3)
          have HS4 := Lib.hid hs4
          have HO4 := Lib.hid ho4
          have HX4 := Lib.hid HX
          clear hs4 ho4 HX
          have HI := Lib.hid (Insert_calls (w := w4.alloc (.cells #[vi id] 3)) (B := w3.heap.size) (x := id) (l := qOf r q.tenant) HS4.out (by rw [HW4.out]; exact blk_alloc_new w4) (by rw [HW4.out]; exact HO4.out) Hql.out)
          refine HI.out.mono ?_
          rintro e w5 ⟨g5, goff5, gcap5, rfl, hg5, hs5, hf5, hlt5⟩
          obtain ⟨⟨c8, t1, m5⟩, k5⟩ := HX4.out g5 w5 hg5 hf5 hlt5 id _ HQ1.out
          have HM5 := Lib.hid m5
          have HK5 := Lib.hid (k5 _ (id :: qOf r q.tenant) hs5)
          clear hs5 hf5 hg5 hlt5 k5 m5)
      refine wp_region_lexT 9 follows_mixed (by kernel_rfl) ?_
      simp only [List.take_succ_cons, List.take_zero, List.drop_succ_cons, List.drop_zero]
      repeat still_step
      refine wpStill_nil ?_
      go_wp2_with (refine wpList_update_at _ rfl KS _ _ _ _ rfl (HM5.out.of_blk (w' := w5.drew) rfl) Tryz.underlying72 q.tenant _ rfl rfl rfl ?_; intro w6 hm6 hs6 hf6; have HM6 := Lib.hid hm6; have HF6 := Lib.hid hf6; clear hm6 hs6 hf6)
      go_end0
      exact ⟨rfl, by rw [HQ.out]; have := HK5.out w6 HM6.out HF6.out.ofDrewL; rw [HR.out] at *; exact this⟩
  · have hn0 : (((qOf r q.tenant).length : Int) == 0) = false := beq_eq_false_iff_ne.2 (by omega)
    have Hn := Lib.hid hn
    clear hn
    have HR : Hid ((if qOf r q.tenant = [] then r.ring ++ [q.tenant] else r.ring) = r.ring) := if_neg (fun e => Hn.out (by rw [e]; rfl))
    go_quiet (fail)
    have HT : Hid (QuAt w ρ G D L _ _) := ⟨_, _, HK.out.1.drewN nq, HK.out.2.drewN nq, rfl, rfl, rfl, rfl, rfl⟩
    obtain ⟨w4, hw4⟩ : ∃ w4, w4 = w1.drewN nq := ⟨_, rfl⟩
    rw [← hw4] at HT ⊢
    clear hw4 c8 t1 hlq
    have HW4 : Hid (w4.heap.size = w4.heap.size) := rfl
    go_wp2_with (
        go_at_call 100
        obtain ⟨own, hs4, ho4, HX⟩ := HT.out.sl HQE.out (.cells #[vi id] 3)
        have HS4 := Lib.hid hs4
        have HO4 := Lib.hid ho4
        have HX4 := Lib.hid HX
        clear hs4 ho4 HX
        have HI := Lib.hid (Insert_calls (w := w4.alloc (.cells #[vi id] 3)) (B := w4.heap.size) (x := id) (l := qOf r q.tenant) HS4.out (by rw [HW4.out]; exact blk_alloc_new w4) (by rw [HW4.out]; exact HO4.out) Hql.out)
        refine HI.out.mono ?_
        rintro e w5 ⟨g5, goff5, gcap5, rfl, hg5, hs5, hf5, hlt5⟩
        obtain ⟨⟨c8, t1, m5⟩, k5⟩ := HX4.out g5 w5 hg5 hf5 hlt5 id _ HQ1.out
        have HM5 := Lib.hid m5
        have HK5 := Lib.hid (k5 _ (id :: qOf r q.tenant) hs5)
        clear hs5 hf5 hg5 hlt5 k5 m5)
    refine wp_region_lexT 9 follows_mixed (by kernel_rfl) ?_
    simp only [List.take_succ_cons, List.take_zero, List.drop_succ_cons, List.drop_zero]
    repeat still_step
    refine wpStill_nil ?_
    go_wp2_with (refine wpList_update_at _ rfl KS _ _ _ _ rfl (HM5.out.of_blk (w' := w5.drew) rfl) Tryz.underlying72 q.tenant _ rfl rfl rfl ?_; intro w6 hm6 hs6 hf6; have HM6 := Lib.hid hm6; have HF6 := Lib.hid hf6; clear hm6 hs6 hf6)
    go_end0
    exact ⟨rfl, by rw [HQ.out]; have := HK5.out w6 HM6.out HF6.out.ofDrewL; rw [HR.out] at *; exact this⟩
theorem queue_calls {w : World} {ρ : Nat → Role} {G D : Nat} {L : Lay} {r : Raw} (h : RRep w ρ G D L r) (id : Int) {q : Req} (hq : aget r.reqs id = some q) (first : Bool) (hrl : r.ring.length ≤ 1000000000000) (hql : (qOf r q.tenant).length ≤ 1000000000000) :
    Calls Tryz.prog 54 #[vp D, vi id, .bool first] w (OkPost true true true w ρ G D L (rQueue r id first)) := by
  cases first
  · exact queue_last h id hq hrl hql
  · exact queue_first h id hq hrl hql
end Go.Proofs.YtaejfobbogahmabGreatDoor
