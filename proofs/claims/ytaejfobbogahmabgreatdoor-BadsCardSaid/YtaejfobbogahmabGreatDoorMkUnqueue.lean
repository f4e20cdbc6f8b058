/-
  The walk of Dispatcher's unqueue.
-/
import Derived.Test.YtaejfobbogahmabGreatDoorMkQueue
import Derived.Deep.RegionLaw
set_option linter.unusedVariables false
set_option linter.unusedSimpArgs false
namespace Go.Proofs.YtaejfobbogahmabGreatDoor
open Go Go.RowKit

theorem unq_mid {w w2 : World} {ρ : Nat → Role} {G D : Nat} {L : Lay} {r : Raw} (h : RRep w ρ G D L r) {t : ByteArray} (hf : Fr (fun b => ρ b = rQu t) w w2) {id : Int} {q : Req} (hq : aget r.reqs id = some q) :
    w2.cell? ⟨D, 8, none⟩ = some (.map (some L.mq)) ∧ w2.cell? ⟨L.req id, 1, none⟩ = some (vs q.tenant) ∧ MapAt encS w2 L.mq (amap (fun t _ => L.qu t) r.queues) := by
  have ne : ∀ b R, b < w.heap.size → ρ b = R → R ≠ rQu t → w2.heap[b]? = w.heap[b]? := fun b R hb hR hne => hf.block b hb (fun e => hne (hR.symm.trans e))
  refine ⟨cell_of_blk ((ne D _ h.size.2 h.disp.1 (by simp [rDisp, rQu])).trans h.disp.2) rfl, ?_, h.qus.2.1.of_blk (ne _ _ h.qus.2.1.lt h.qus.1 (by simp [rMq, rQu]))⟩
  obtain ⟨q1, q2⟩ := h.opn.2.2.2 id q (aget_mem hq)
  exact cell_of_blk ((ne _ _ (blk_lt w q2) q1 (by simp [rReq, rQu])).trans q2) rfl
theorem unq_ring {w w4 : World} {ρ : Nat → Role} {G D : Nat} {L : Lay} {r : Raw} (h : RRep w ρ G D L r) {l : List ByteArray} {v : Value} (hs : SlAt w4 9 1 (fun b => ρ b = rRing) v l.length (l.map encS)) (hf : Fr (fun b => ρ b = rRing) w w4) :
    w4.frozen? ⟨D, 10, none⟩ = false ∧ w4.cell? ⟨D, 10, none⟩ = some L.ring ∧ RRep (w4.setCell ⟨D, 10, none⟩ v) ρ G D { L with ring := v } { r with ring := l } ∧ Step ρ ρ w (w4.setCell ⟨D, 10, none⟩ v) := by
  have hDr := h.disp.1
  have hD : w4.heap[D]? = some (.cells (dispCells L r.cfg r.now r.seq) 80 (0, 0)) := (hf.block D h.size.2 (fun e => by have e : ρ D = rRing := e; rw [hDr] at e; simp [rDisp, rRing] at e)).trans h.disp.2
  refine ⟨frozen_of_blk hD, cell_of_blk hD rfl, h.put_ring Ext.refl (blk_setCell w4 hD) (hs.of_blk (fun b hb _ => blk_setCell_ne _ (fun e => by have e : b = D := e; have hb : ρ b = rRing := hb; rw [e, hDr] at hb; simp [rDisp, rRing] at hb)) (fun b hb _ => hb)) ?_⟩
  exact (hf.mono (fun x hx => .inl (.inr hx))).setCell _ _ (.inl (.inl rfl))

set_option maxRecDepth 100000 in
set_option maxHeartbeats 1000000 in
theorem unqueue_calls {w : World} {ρ : Nat → Role} {G D : Nat} {L : Lay} {r : Raw} (h : RRep w ρ G D L r) (id : Int) {q : Req} (hq : aget r.reqs id = some q) (hrl : r.ring.length ≤ 1000000000000) (hql : (qOf r q.tenant).length ≤ 1000000000000) :
    Calls Tryz.prog 92 #[vp D, vi id] w (OkPost true true true w ρ G D L (rUnqueue r id)) := by
  have c6 := h.disp.c6
  have hl := look_req h.opn.2.1 id
  rw [aget_amap, hq] at hl
  simp only [Option.map_some, Option.getD_some] at hl
  have hblk := h.req_blk hq
  have f6 : w.frozen? ⟨L.req id, 6, none⟩ = false := frozen_of_blk hblk
  have d6 : w.cell? ⟨L.req id, 6, none⟩ = some (.bool q.queued) := cell_of_blk hblk rfl
  obtain ⟨k1, k2⟩ := h.put_req (w' := w.setCell ⟨L.req id, 6, none⟩ (.bool false)) (y := { q with queued := false }) hq (blk_setCell w hblk) ((Fr.refl _ w).setCell _ _ (.inl rfl))
  have HK := Lib.hid (And.intro k1 k2)
  have HQ1 : Hid (aget (aset r.reqs id { q with queued := false }) id = some { q with queued := false }) := show _ = _ by simp [aget_aset]
  have Hrl := Lib.hid hrl
  have Hql := Lib.hid hql
  have HH := Lib.hid h
  have Hq := Lib.hid hq
  clear k1 k2 h hq hblk hrl hql
  cases hqq : q.queued with
  | false =>
    rw [hqq] at d6
    have HP : Hid (St true true true w ρ G D L (rUnqueue r id) w) := by
      have : rUnqueue r id = r := by unfold rUnqueue; rw [Hq.out]; simp [hqq]
      rw [this]; exact St.same HH.out (Fr.refl _ w) _ _ _
    clear hqq
    go_enter Tryz.func92, Tryz.ntmps92
    go_wp2_with fail
    go_end0
    exact ⟨rfl, HP.out⟩
  | true =>
    rw [hqq] at d6
    have HU : Hid (rUnqueue r id = if without (qOf r q.tenant) id = [] then { r with reqs := aset r.reqs id { q with queued := false }, queues := adel r.queues q.tenant, ring := without r.ring q.tenant } else { r with reqs := aset r.reqs id { q with queued := false }, queues := aset r.queues q.tenant (without (qOf r q.tenant) id) }) := show _ = _ by
      unfold rUnqueue; rw [Hq.out]; simp [hqq]
    clear hqq HH Hq
    go_enter Tryz.func92, Tryz.ntmps92
    go_wp2_with fail
    obtain ⟨w1, hw1⟩ : ∃ w1, w1 = w.setCell ⟨L.req id, 6, none⟩ (.bool false) := ⟨_, rfl⟩
    rw [← hw1] at HK ⊢
    clear hw1
    obtain ⟨qa, qc, hqe, hqc, hqm, hqs⟩ := HK.out.1.qu_at q.tenant
    replace hqe : (aget (amap (fun t _ => L.qu t) r.queues) q.tenant).getD (.slice none 0 0) = .slice qa (qOf r q.tenant).length qc := hqe
    have hqs : SlAt w1 3 1 (fun b => ρ b = rQu q.tenant) (.slice qa (qOf r q.tenant).length qc) (qOf r q.tenant).length ((qOf r q.tenant).map encI) := hqs
    have HW := Lib.hid (without_calls (w := w1.drew) (hqs.of_blk (fun _ _ _ => rfl) (fun _ h _ => h)) id (fun b (hb : ρ b = rQu q.tenant) => (HK.out.1.dom b (by rw [hb]; simp [rQu])).2) Hql.out)
    have c8 : w1.cell? ⟨D, 8, none⟩ = some (.map (some L.mq)) := HK.out.1.disp.c8
    have t1 : w1.cell? ⟨L.req id, 1, none⟩ = some (vs q.tenant) := cell_of_blk (HK.out.1.req_blk HQ1.out) rfl
    have hlq : ∀ n, (Instr.lookup 72 (.map (some L.mq)) (vs q.tenant) false).run Tryz.prog (w1.drewN n) = .ok (.slice qa (qOf r q.tenant).length qc) (w1.drewN n) := fun n => by
      have := look_qu (HK.out.1.qus.2.1.of_blk (w' := w1.drewN n) rfl) q.tenant
      rw [hqe] at this; exact this
    have hlq1 : (Instr.lookup 72 (.map (some L.mq)) (vs q.tenant) false).run Tryz.prog w1.drew = .ok (.slice qa (qOf r q.tenant).length qc) w1.drew := hlq 1
    clear hqe hqc hqm hqs
    refine wp_region_lexT 10 follows_mixed (by kernel_rfl) ?_
    simp only [List.take_succ_cons, List.take_zero, List.drop_succ_cons, List.drop_zero]
    repeat still_step
    refine wpStill_nil ?_
    go_wp2_with fail
    refine HW.out.mono ?_
    rintro e w2 ⟨v2, rfl, hs2, hf2⟩
    obtain ⟨c8b, t1b, m2⟩ := unq_mid HK.out.1 hf2.ofDrew HQ1.out
    have HM2 := Lib.hid m2
    have HF2 := Lib.hid hf2.ofDrew
    obtain ⟨va, vc, rfl, hv2, hv3⟩ := hs2.form'
    have HS2 := Lib.hid hs2
    unfold maxLen at hv3
    clear c8 t1 hlq hlq1 m2 hf2 hs2
    by_cases hn : (without (qOf r q.tenant) id).length = 0
    · have hn0 : (((without (qOf r q.tenant) id).length : Int) == 0) = true := by rw [hn]; rfl
      have HU2 : Hid (without (qOf r q.tenant) id = []) := List.length_eq_zero_iff.1 hn
      clear hn
      go_wp2_with fail
      refine wp_region_lexT 8 follows_mixed (by kernel_rfl) ?_
      simp only [List.take_succ_cons, List.take_zero, List.drop_succ_cons, List.drop_zero]
      repeat still_step
      refine wpStill_nil ?_
      go_wp2_with (refine wpList_delete_at _ rfl KS _ _ _ _ rfl (HM2.out.of_blk (w' := w2.drew) rfl) Tryz.underlying72 q.tenant rfl rfl ?_; intro w3 hm3 hs3 hf3; have HM3 := Lib.hid hm3; have HF3 := Lib.hid hf3.ofDrew; clear hm3 hs3 hf3)
      obtain ⟨k3, s3⟩ := HK.out.1.del_qu HM3.out ((HF2.out.mono (fun x hx => .inl (.inr hx))).trans HF3.out (fun x hx => .inl (.inl hx)))
      have HK3 := Lib.hid (And.intro k3 (HK.out.2.trans s3))
      have c10 : w3.cell? ⟨D, 10, none⟩ = some L.ring := k3.disp.c10
      have t3 : w3.cell? ⟨L.req id, 1, none⟩ = some (vs q.tenant) := cell_of_blk (k3.req_blk HQ1.out) rfl
      have HW2 := Lib.hid (withoutS_calls (w := w3.drew) (k3.rng.of_blk (fun _ _ _ => rfl) (fun _ h _ => h)) q.tenant (fun b (hb : ρ b = rRing) => (k3.dom b (by rw [hb]; simp [rRing])).2) Hrl.out)
      clear c8b t1b
      have f3 : w3.frozen? ⟨D, 10, none⟩ = false := k3.disp.frozen 10
      clear k3 s3
      go_region_law (first | (go_simp; go_at_call 93; refine HW2.out.mono ?_; rintro e w4 ⟨v4, rfl, hs4, hf4⟩; obtain ⟨va4, vc4, rfl, _, _⟩ := hs4.form'; obtain ⟨f10, c10b, k4, s4⟩ := unq_ring HK3.out.1 hs4 hf4.ofDrew; have HK4 := Lib.hid (And.intro k4 (HK3.out.2.trans s4)); clear hs4 hf4 k4 s4))
      all_goals
        go_wp2_with fail
        go_end0
        exact ⟨rfl, by rw [HU.out, if_pos HU2.out]; exact ⟨ρ, _, HK4.out.1, HK4.out.2, fun _ => rfl, fun _ => rfl, fun _ => rfl⟩⟩
    · have hn0 : (((without (qOf r q.tenant) id).length : Int) == 0) = false := beq_eq_false_iff_ne.2 (by omega)
      have HU2 : Hid (¬ without (qOf r q.tenant) id = []) := fun e => hn (by rw [e]; rfl)
      clear hn
      go_wp2_with fail
      refine wp_region_lexT 9 follows_mixed (by kernel_rfl) ?_
      simp only [List.take_succ_cons, List.take_zero, List.drop_succ_cons, List.drop_zero]
      repeat still_step
      refine wpStill_nil ?_
      go_wp2_with (refine wpList_update_at _ rfl KS _ _ _ _ rfl (HM2.out.of_blk (w' := w2.drew) rfl) Tryz.underlying72 q.tenant (.slice va (without (qOf r q.tenant) id).length vc) rfl rfl rfl ?_; intro w3 hm3 hs3 hf3; have HM3 := Lib.hid hm3; have HF3 := Lib.hid hf3.ofDrew; clear hm3 hs3 hf3)
      go_end0
      obtain ⟨k3, s3⟩ := HK.out.1.put_qu (t := q.tenant) (l := without (qOf r q.tenant) id) (ρ' := ρ) Ext.refl HM3.out (HS2.out.of_blk (fun b (hb : ρ b = rQu q.tenant) hl => HF3.out.block b hl (fun e => by have h1 := HK.out.1.qus.1; rw [← e, hb] at h1; simp [rMq, rQu] at h1)) (fun _ h _ => h)) ((HF2.out.mono (fun x hx => .inl (.inr hx))).trans HF3.out (fun x hx => .inl (.inl hx)))
      exact ⟨rfl, by rw [HU.out, if_neg HU2.out]; exact ⟨ρ, _, k3, HK.out.2.trans s3, fun _ => rfl, fun _ => rfl, fun _ => rfl⟩⟩
end Go.Proofs.YtaejfobbogahmabGreatDoor
