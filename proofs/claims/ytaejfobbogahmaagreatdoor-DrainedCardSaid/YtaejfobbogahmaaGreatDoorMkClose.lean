/-
  The walk of Dispatcher's Close.
-/
import Derived.Test.YtaejfobbogahmaaGreatDoorMkClose1
import Derived.Test.YtaejfobbogahmaaGreatDoorMkTick
set_option linter.unusedVariables false
set_option linter.unusedSimpArgs false
namespace Go.Proofs.YtaejfobbogahmaaGreatDoor
open Go Go.RowKit

/-- In the loop over c's own requests. -/
def ReqAt (c : Int) (ids : List Int) (r2 : Raw) (N P : Nat) (w4 : World) (ρ : Nat → Role) (G D : Nat) (k : Nat) (wr : World) : Prop :=
  ∃ rk ρk Lk, RRep wr ρk G D Lk rk ∧ Step ρ ρk w4 wr ∧ Inv N P rk ∧ (ids.drop k).foldl (rCloseReq c) rk = r2 ∧ (ids.drop k).Nodup ∧ ∀ id ∈ ids.drop k, (aget rk.reqs id).isSome = true
def fEnd (c : Int) (r : Raw) (a : Att) : Raw := if a.conn = c then rEnd r a else r
theorem closeReq_eq (c : Int) (r : Raw) (id : Int) : rCloseReq c r id = rShut ((rOf r id).foldl (fEnd c) r) id := by
  unfold rCloseReq fEnd
  rw [List.foldl_filter]
  simp

set_option maxRecDepth 100000 in
set_option maxHeartbeats 4000000 in
theorem Close_calls {w : World} {ρ : Nat → Role} {G D : Nat} {L : Lay} {r : Raw} (h : RRep w ρ G D L r) (hE : Env G w) {N P : Nat} (hI : Inv N P r) (hN : N + 1 ≤ NB) (hP : P + 1 < NB) (c : Int) :
    Calls Tryz.prog 28 #[vp D, vi c] w (OutPost w ρ G D (rClose r c)) := by
  have HE := Lib.hid hE
  have HD := Lib.hid (fun b (hb : Of ρ b) => (h.dom b hb).1)
  have HI0 := Lib.hid (hI.close0 c)
  have HIDS := Lib.hid (closeIds_ok hI c)
  have HEQ := Lib.hid (rClose_eq r c)
  obtain ⟨va, vc, hw1, hw2, hw3⟩ := SlAt.form' h.wai
  have c11 : w.cell? ⟨D, 11, none⟩ = some (.slice va r.waiting.length vc) := by rw [← hw1]; exact h.disp.c11
  have hwai : SlAt w 3 1 (fun b => ρ b = rWait) (.slice va r.waiting.length vc) r.waiting.length (r.waiting.map encI) := by rw [← hw1]; exact h.wai
  have hwl : r.waiting.length ≤ 1000000000000 := by have := hI.n.pot; unfold NB at hP; omega
  have HWO := Lib.hid (without_calls hwai c (fun b (hb : ρ b = rWait) => (h.dom b (by rw [hb]; simp [rWait])).2) hwl)
  have HH := Lib.hid h
  have hDw := h.size.2
  have HN := Lib.hid hN
  have HP := Lib.hid hP
  have hrq : r.reqs.length ≤ 1000000000000 := by have := hI.n.reqs; unfold NB at hN; omega
  unfold maxLen at hw3
  clear hwai hwl hw1 hw2 h hE hI hN hP
  go_enter Tryz.func28, Tryz.ntmps28
  go_wp2_with fail
  refine HWO.out.mono ?_
  rintro e w2 ⟨v2, rfl, hs2, hf2⟩
  obtain ⟨va2, vc2, hv1, hv2, hv3⟩ := hs2.form'
  have hD2 : w2.heap[D]? = some (.cells (dispCells L r.cfg r.now r.seq) 81 (0, 0)) := (hf2.block D HH.out.size.2 (fun (e : ρ D = rWait) => by have := HH.out.disp.1; rw [e] at this; simp [rWait, rDisp] at this)).trans HH.out.disp.2
  have f11 : w2.frozen? ⟨D, 11, none⟩ = false := frozen_of_blk hD2
  have c11b : w2.cell? ⟨D, 11, none⟩ = some L.waiting := cell_of_blk hD2 rfl
  have hpw := HH.out.put_wait (ρ' := ρ) (w' := w2.setCell ⟨D, 11, none⟩ v2) (v := v2) (l := without r.waiting c) Ext.refl (blk_setCell w2 hD2)
    (hs2.of_blk (fun b (hb : ρ b = rWait) _ => blk_setCell_ne _ (by rintro rfl; have := HH.out.disp.1; rw [hb] at this; simp [rWait, rDisp] at this)) (fun _ h _ => h))
    ((hf2.mono (fun x hx => .inl (.inr hx))).setCell _ _ (.inl (.inl rfl)))
  obtain ⟨L2, q1, q2⟩ : ∃ L2, RRep (w2.setCell ⟨D, 11, none⟩ v2) ρ G D L2 { r with waiting := without r.waiting c } ∧ Step ρ ρ w (w2.setCell ⟨D, 11, none⟩ v2) := ⟨_, hpw.1, hpw.2⟩
  clear hpw
  have HQ1 := Lib.hid q1
  have HQ2 := Lib.hid q2
  have c7 : (w2.setCell ⟨D, 11, none⟩ v2).cell? ⟨D, 7, none⟩ = some (.map (some L2.mc)) := q1.disp.c7
  subst hv1
  have HM0 := Lib.hid q1.cns.2.1
  clear q1 q2 hs2 hf2 hD2 HWO
  go_upto_region 4 with (refine wpList_delete_at _ rfl KI _ _ _ _ rfl HM0.out Tryz.underlying73 c rfl rfl ?_; intro w3 hm3 hs3 hf3; have HM3 := Lib.hid (HQ1.out.del_cn hm3 hf3); clear hm3 hs3 hf3)
  have HR3 : Hid (RRep w3 ρ G D L2 (rClose0 r c)) := HM3.out.1
  have HS3 : Hid (Step ρ ρ w w3) := HQ2.out.trans HM3.out.2
  have c6 : w3.cell? ⟨D, 6, none⟩ = some (.map (some L2.mo)) := HR3.out.disp.c6
  obtain ⟨es, clock, hm, he, hst⟩ := HR3.out.opn.2.1
  have hkn : ((rClose0 r c).reqs.map Prod.fst).Nodup := HI0.out.q.kreq
  have hsel := sel_ids hkn he c
  obtain ⟨hkeys, hents⟩ := ents_keys he
  have hrg := run_range_map (P := Tryz.prog) w3 72 3 114 L2.mo es clock Tryz.underlying72 hm
  have HKN := Lib.hid hkn
  have HSEL := Lib.hid hsel
  have HKEYS := Lib.hid hkeys
  have HENT := Lib.hid hents
  have HST := Lib.hid hst
  have HMM := Lib.hid hm
  have HIT : Hid (ItAt (w3.alloc (.mapIter (some L2.mo) clock #[] clock)) w3.heap.size L2.mo clock #[] (w3.alloc (.mapIter (some L2.mo) clock #[] clock))) := ⟨blk_alloc_new w3, Fr.refl _ _⟩
  have hbm := blk_lt _ hm
  have hel : es.toList.length ≤ 1000000000000 := by
    have := congrArg List.length HKEYS.out
    rw [List.length_map, List.length_map] at this
    rw [this]; exact hrq
  clear hkn hsel hkeys hents hst hm he c7 c11 c11b f11 HM3 HQ1 HQ2 HM0 hv2 hv3
  go_wp2_with fail
  go_loopw [5, 6, 7] (fun s5 _ _ wr => ∃ seen : Array Nat, Hid (ItAt (w3.alloc (.mapIter (some L2.mo) clock #[] clock)) w3.heap.size L2.mo clock seen wr ∧ CollAt (fun b => w3.heap.size < b) (selC c (rClose0 r c).reqs) es.toList seen s5 wr)) (fun _ _ _ wr => (leftOf es (wr.iterSeen w3.heap.size)).size)
  case atStart => exact ⟨#[], HIT.out, [], .inl ⟨rfl, rfl, rfl⟩, by rw [pickd_none]; exact List.Perm.refl _⟩
  case round =>
    obtain ⟨seen, HI⟩ := hrel
    have hbm1 : wr.heap[L2.mo]? = some (.map es clock) := by
      rw [HI.out.1.2.block L2.mo (by simp; omega) (by omega)]
      exact (blk_alloc_lt w3 hbm).trans HMM.out
    have hseen : wr.iterSeen w3.heap.size = seen := by unfold World.iterSeen; rw [HI.out.1.1]
    rcases run_next_at (P := Tryz.prog) wr 0 w3.heap.size L2.mo clock clock seen es clock HI.out.1.1 hbm1 HST.out.1 (Nat.le_refl _) with ⟨h0, hrun⟩ | ⟨e, he, w1, hw1', hrun⟩
    · have hnx : ∀ ty, (Instr.next (.pointer (some ⟨w3.heap.size, 0, none⟩)) false ty).run Tryz.prog wr = .ok (.tuple #[.bool false]) wr := fun _ => hrun
      obtain ⟨l, hsl, hp⟩ := HI.out.2
      rw [pickd_full _ _ _ (all_seen es seen h0), HSEL.out] at hp
      have hsub : (((rClose0 r c).reqs.filter fun p => decide (p.2.conn = c)).map Prod.fst).Nodup := HKN.out.sublist (List.filter_sublist.map _)
      have HMG : Hid (l.mergeSort (fun x y => decide (x ≤ y)) = closeIds r c) := merge_eq (hp.nodup_iff.2 hsub) hsub (fun x => hp.mem_iff)
      have hll : l.length ≤ 1000000000000 := by
        rw [hp.length_eq, List.length_map]
        exact Nat.le_trans (List.length_filter_le _ _) hrq
      have hlen : (closeIds r c).length = l.length := by rw [← HMG.out, List.length_mergeSort]
      have HSO := Lib.hid (sort_calls hsl hll)
      obtain ⟨a5, n5, hv5, _, hcap⟩ := hsl.form'
      subst hv5
      have HF3 : Hid (Fr (fun _ => False) w3 wr) := ((Fr.refl (fun _ => False) w3).alloc _).trans HI.out.1.2 (fun x hx => .inr (by omega))
      obtain ⟨m, hm⟩ : ∃ m, l.length = m := ⟨_, rfl⟩
      rw [hm] at HSO hll hlen ⊢
      obtain ⟨ids, hids⟩ : ∃ ids, ids = closeIds r c := ⟨_, rfl⟩
      rw [← hids] at hlen HMG
      have HID2 : Hid (ids.Nodup ∧ ∀ id ∈ ids, (aget r.reqs id).isSome = true) := show _ ∧ _ by rw [hids]; exact HIDS.out
      have HEQ2 : Hid (rClose r c = rServe ((rHeld (ids.foldl (rCloseReq c) (rClose0 r c)) c).foldl rCloseAtt (ids.foldl (rCloseReq c) (rClose0 r c)))) := show _ = _ by rw [hids]; exact HEQ.out
      have HLN := Lib.hid hlen
      unfold maxLen at hcap
      clear hsl hp hsub h0 hrun hbm1 hseen hm hlen hids HEQ HIDS
      go_wp2_with fail
      refine HSO.out.mono ?_
      rintro e w4 ⟨rfl, hs4, hf4⟩
      rw [HMG.out] at hs4
      have HF4 : Hid (Fr (fun _ => False) w3 w4) := HF3.out.trans hf4 (fun x hx => .inr (by omega))
      have HSL4 := Lib.hid hs4
      have HR4 : Hid (RRep w4 ρ G D L2 (rClose0 r c)) := HR3.out.of_fr HF4.out (fun _ f => f.elim)
      have HS4 : Hid (Step ρ ρ w w4) := HS3.out.trans ⟨HF4.out.mono (fun x f => f.elim), fun b hb => .inl hb⟩
      have HE4 : Hid (Env G w4) := Step.env HH.out HS4.out HE.out
      have HOWN : Hid (∀ b, w3.heap.size < b → ¬ Of ρ b) := fun b hb ho => by have := (HR3.out.dom b ho).2; omega
      have HRA : Hid (ReqAt c ids (ids.foldl (rCloseReq c) (rClose0 r c)) N P w4 ρ G D 0 w4) := ⟨rClose0 r c, ρ, L2, HR4.out, Step.refl _ _, HI0.out, rfl, HID2.out.1, HID2.out.2⟩
      clear hs4 hf4 HSO HMG HI hnx HSEL HKEYS HENT HST HMM HIT HKN HF3
      go_wp2_with fail
      go_loopw [9, 11, 52] (fun _ _ s52 wr => ∃ k : Nat, s52 = .int .i64 k ∧ k ≤ m ∧ Hid (ReqAt c ids (ids.foldl (rCloseReq c) (rClose0 r c)) N P w4 ρ G D k wr)) (fun _ _ s52 _ => m - (intOf s52).toNat)
      case atStart => exact ⟨0, by go_num, Nat.zero_le _, HRA.out⟩
      case round =>
        obtain ⟨k, rfl, hk, HL⟩ := hrel
        by_cases hkl : k < m
        · have hlt : decide ((k : Int) < (m : Int)) = true := decide_eq_true (by omega)
          obtain ⟨rk, ρk, Lk, k1, k2, k3, k4, k5, k6⟩ := HL.out
          have hki : k < ids.length := by have := HLN.out; omega
          obtain ⟨id, hid⟩ : ∃ id, ids[k]? = some id := ⟨_, List.getElem?_eq_getElem hki⟩
          have hdr : ids.drop k = id :: ids.drop (k + 1) := by
            have hx := List.getElem?_eq_some_iff.1 hid
            rw [List.drop_eq_getElem_cons hx.1, hx.2]
          rw [hdr] at k4 k5 k6
          rw [List.nodup_cons] at k5
          have hsl := HSL4.out.of_blk (w' := wr) (fun b hb hl => k2.fr.block b hl (HOWN.out b hb)) (fun _ h _ => h)
          obtain ⟨b, off, cap, hv, hbo, hbl, _, _, hc, _⟩ := hsl.form (by omega)
          obtain ⟨rfl, rfl⟩ : a5 = some ⟨b, off, none⟩ ∧ n5 = cap := by injection hv with e1 e2 e3; exact ⟨e1, e3⟩
          have ck : wr.cell? ⟨b, off + k, none⟩ = some (vi id) := hc k _ (by simp [hid, encI])
          have hk0 : (0 : Int) ≤ (k : Int) := by omega
          have hk1 : (k : Int) < (m : Int) := by omega
          obtain ⟨q, hq⟩ := Option.isSome_iff_exists.1 (k6 id (by simp))
          have hat : rk.atts.length ≤ 1099511627776 := k3.atts_le (by have := HP.out; omega)
          have HOF := Lib.hid (of_calls k1 id hat)
          have hla : (rOf rk id).length ≤ 1099511627776 := Nat.le_trans (List.length_filter_le _ _) hat
          have HLV : Hid (Live (rOf rk id) rk) := Live.of_filter k3 _
          have HK := Lib.hid (And.intro k1 (And.intro k2 k3))
          have HK4 := Lib.hid (And.intro k4 (And.intro k5 k6))
          have HQ := Lib.hid hq
          have HEK : Hid (Env G wr) := Step.env HR4.out k2 HE4.out
          obtain ⟨la, hlaE⟩ : ∃ la, la = rOf rk id := ⟨_, rfl⟩
          rw [← hlaE] at HOF hla HLV
          have HLA := Lib.hid hlaE
          clear hsl hv hbo hbl hc k1 k2 k3 k4 k5 k6 hid hdr hki hq hat hlaE HL
          go_wp2_with fail
          refine HOF.out.mono ?_
          rintro e w5 ⟨v5, rfl, hs5, hb5⟩
          obtain ⟨va5, vc5, hv5, _, hvc5⟩ := hs5.form'
          subst hv5
          have HSL5 := Lib.hid hs5
          have HR5 : Hid (RRep w5 ρk G D Lk rk) := HK.out.1.of_fr (Fr.of_below (S := fun _ => False) hb5) (fun _ f => f.elim)
          have HT5 : Hid (Step ρ ρk w4 w5) := HK.out.2.1.trans ⟨Fr.of_below hb5, fun b hb => .inl hb⟩
          have HE5 : Hid (Env G w5) := HEK.out.grow hb5
          have HOWN5 : Hid (∀ b, wr.heap.size ≤ b → ¬ Of ρk b) := fun b hb ho => by have := (HK.out.1.dom b ho).2; omega
          unfold maxLen at hvc5
          clear hs5 hb5 HOF ck
          go_wp2_with fail
          go_loopw [11, 60] (fun _ s60 wj => ∃ j : Nat, s60 = .int .i64 j ∧ j ≤ la.length ∧ Hid (LoopAt (fEnd c) la rk (fun x => Inv N P x ∧ x.reqs = rk.reqs) w5 ρk G D Lk j wj)) (fun _ s60 _ => la.length - (intOf s60).toNat)
          case atStart => exact ⟨0, by go_num, Nat.zero_le _, LoopAt.start HR5.out ⟨HK.out.2.2, rfl⟩ HLV.out⟩
          case round =>
            obtain ⟨j, rfl, hj, HJ⟩ := hrel
            by_cases hjl : j < la.length
            · have hlt2 : decide ((j : Int) < (la.length : Int)) = true := decide_eq_true (by omega)
              have hsl := HJ.out.list HSL5.out HOWN5.out
              obtain ⟨b2, off2, cap2, hv, hbo, hbl, _, _, hc, _⟩ := hsl.form (by omega)
              obtain ⟨rfl, rfl⟩ : va5 = some ⟨b2, off2, none⟩ ∧ vc5 = cap2 := by injection hv with e1 e2 e3; exact ⟨e1, e3⟩
              have ck : wr.cell? ⟨b2, off2 + j, none⟩ = some (vp (Lk.att (hg la j).seq)) := hc j _ (by simp [getElem?_hg hjl])
              obtain ⟨rj, ρj, Lj, j1, j2, j3, j4, j5, ⟨j6, j6b⟩, j7, j8⟩ := HJ.out
              rw [drop_hg hjl] at j7 j8
              obtain ⟨kk, kblk, krole⟩ := j1.att_blk (j7.2 (hg la j) (by simp))
              rw [j3] at kblk
              obtain ⟨A, hA⟩ : ∃ A, A = Lk.att (hg la j).seq := ⟨_, rfl⟩
              rw [← hA] at ck kblk
              have a2 : wr.cell? ⟨A, 2, none⟩ = some (vi (hg la j).conn) := cell_of_blk kblk rfl
              have hj0 : (0 : Int) ≤ (j : Int) := by omega
              have hj1 : (j : Int) < (la.length : Int) := by omega
              by_cases hcn : (hg la j).conn = c
              · have hc1 : decide ((hg la j).conn = c) = true := decide_eq_true hcn
                have hc2 : ((hg la j).conn == c) = true := beq_iff_eq.2 hcn
                have HEJ : Hid (Env G wr) := Step.env HR5.out j2 HE5.out
                have hen := end_calls j1 HEJ.out j6 (by have := HP.out; omega) (j7.2 (hg la j) (by simp))
                rw [j3, ← hA] at hen
                have HEN := Lib.hid hen
                have HJ2 := Lib.hid j2
                have HJ3 := Lib.hid (And.intro j3 (And.intro j4 j5))
                have HJ6 := Lib.hid (And.intro j6 j6b)
                have HJ7 := Lib.hid j7
                have HJ8 : Hid ((la.drop (j + 1)).foldl (fEnd c) (rEnd rj (hg la j)) = la.foldl (fEnd c) rk) := show _ = _ by
                  rw [← j8]
                  show _ = (la.drop (j + 1)).foldl (fEnd c) (fEnd c rj (hg la j))
                  unfold fEnd
                  rw [if_pos hcn]
                clear hsl hv hbo hbl hc j1 j2 j3 j4 j5 j6 j6b j7 j8 kblk krole hA hcn hen HJ
                go_wp2_with fail
                refine HEN.out.mono ?_
                rintro e w7 ⟨rfl, hst, _⟩
                have HST := Lib.hid hst
                clear hst HEN ck a2
                go_wp2_with fail
                go_roundw
                case rel =>
                  refine ⟨j + 1, by go_num, by omega, ?_⟩
                  obtain ⟨ρ6, L6, e1, e2, e3, e4, e5⟩ := HST.out
                  obtain ⟨q1, hq1, _⟩ := HJ6.out.1.a.areq (hg la j) (HJ7.out.2 _ (by simp))
                  exact ⟨rEnd rj (hg la j), ρ6, L6, e1, HJ2.out.trans e2, (e3 rfl).trans HJ3.out.1, (e4 rfl).trans HJ3.out.2.1, (e5 rfl).trans HJ3.out.2.2,
                    ⟨(HJ6.out.1.end (HJ7.out.2 _ (by simp))).mono (Nat.le_refl _) (by omega), (rEnd_reqs rj _).trans HJ6.out.2⟩, HJ7.out.next (rEnd_atts hq1), HJ8.out⟩
                case measure => simp [intOf]; omega
              · have hc1 : decide ((hg la j).conn = c) = false := decide_eq_false hcn
                have hc2 : ((hg la j).conn == c) = false := beq_eq_false_iff_ne.2 hcn
                have HNX : Hid (LoopAt (fEnd c) la rk (fun x => Inv N P x ∧ x.reqs = rk.reqs) w5 ρk G D Lk (j + 1) wr) := ⟨rj, ρj, Lj, j1, j2, j3, j4, j5, ⟨j6, j6b⟩, ⟨(List.pairwise_cons.1 j7.1).2, fun a ha => j7.2 a (by simp [ha])⟩, by
                  rw [← j8]
                  show _ = (la.drop (j + 1)).foldl (fEnd c) (fEnd c rj (hg la j))
                  unfold fEnd
                  rw [if_neg hcn]⟩
                clear hsl hv hbo hbl hc j1 j2 j3 j4 j5 j6 j6b j7 j8 kblk krole hA hcn HJ
                go_wp2_with fail
                go_roundw
                case rel => exact ⟨j + 1, by go_num, by omega, HNX.out⟩
                case measure => simp [intOf]; omega
            · obtain rfl : j = la.length := by omega
              have hlt2 : decide ((la.length : Int) < (la.length : Int)) = false := by simp
              obtain ⟨rj, ρj, Lj, j1, j2, j3, j4, j5, ⟨j6, j6b⟩, j7, j8⟩ := HJ.out
              rw [List.drop_length] at j8
              have j8 : rj = la.foldl (fEnd c) rk := j8
              have HEJ : Hid (Env G wr) := Step.env HR5.out j2 HE5.out
              have hq2 : aget rj.reqs id = some q := by rw [j6b]; exact HQ.out
              have HSH := Lib.hid (shut_calls j1 HEJ.out j6 (by have := HN.out; omega) (by have := HP.out; omega) id hq2)
              have HT6 : Hid (Step ρ ρj w4 wr) := HT5.out.trans j2
              have HRS : Hid (rShut rj id = rCloseReq c rk id) := show _ = _ by rw [closeReq_eq, j8, HLA.out]
              clear j1 j2 j3 j4 j5 j6 j6b j7 j8 hq2 HJ
              go_wp2_with fail
              refine HSH.out.mono ?_
              rintro e w7 ⟨rfl, hst⟩
              rw [HRS.out] at hst
              have HST := Lib.hid hst
              clear hst HSH
              go_wp2_with fail
              go_roundw
              case rel =>
                refine ⟨k + 1, by go_num, by omega, ?_⟩
                obtain ⟨ρ6, L6, e1, e2, _⟩ := HST.out
                obtain ⟨k4, k5, k6⟩ := HK4.out
                exact ⟨rCloseReq c rk id, ρ6, L6, e1, HT6.out.trans e2, HK.out.2.2.closeReq c id HQ.out, k4, k5.2, fun i hi => by
                  rw [rCloseReq_other HK.out.2.2 c (by rintro rfl; exact k5.1 hi)]
                  exact k6 i (by simp [hi])⟩
              case measure => simp [intOf]; omega
        · obtain rfl : k = m := by omega
          have hlt : decide ((k : Int) < (k : Int)) = false := by simp
          obtain ⟨r2, hr2⟩ : ∃ r2, r2 = ids.foldl (rCloseReq c) (rClose0 r c) := ⟨_, rfl⟩
          rw [← hr2] at HL HEQ2
          obtain ⟨rk, ρk, Lk, k1, k2, k3, k4, k5, k6⟩ := HL.out
          rw [show k = ids.length from HLN.out.symm, List.drop_length] at k4
          have k4 : rk = r2 := k4
          subst k4
          have hat : rk.atts.length ≤ 1099511627776 := k3.atts_le (by have := HP.out; omega)
          have HHE := Lib.hid (held_calls k1 c hat)
          have hla : (rHeld rk c).length ≤ 1099511627776 := Nat.le_trans (List.length_filter_le _ _) hat
          have HLV : Hid (Live (rHeld rk c) rk) := Live.of_filter k3 _
          have HK := Lib.hid (And.intro k1 (And.intro k2 k3))
          have HEK : Hid (Env G wr) := Step.env HR4.out k2 HE4.out
          obtain ⟨la, hlaE⟩ : ∃ la, la = rHeld rk c := ⟨_, rfl⟩
          rw [← hlaE] at HHE hla HLV HEQ2
          clear k1 k2 k3 k5 k6 hr2 hat hlaE HL
          go_wp2_with fail
          refine HHE.out.mono ?_
          rintro e w5 ⟨v5, rfl, hs5, hb5⟩
          obtain ⟨va5, vc5, hv5, _, hvc5⟩ := hs5.form'
          subst hv5
          have HSL5 := Lib.hid hs5
          have HR5 : Hid (RRep w5 ρk G D Lk rk) := HK.out.1.of_fr (Fr.of_below (S := fun _ => False) hb5) (fun _ f => f.elim)
          have HT5 : Hid (Step ρ ρk w4 w5) := HK.out.2.1.trans ⟨Fr.of_below hb5, fun b hb => .inl hb⟩
          have HE5 : Hid (Env G w5) := HEK.out.grow hb5
          have HOWN5 : Hid (∀ b, wr.heap.size ≤ b → ¬ Of ρk b) := fun b hb ho => by have := (HK.out.1.dom b ho).2; omega
          unfold maxLen at hvc5
          clear hs5 hb5 HHE
          go_wp2_with fail
          go_loopw [13, 82] (fun _ s82 wj => ∃ j : Nat, s82 = .int .i64 j ∧ j ≤ la.length ∧ Hid (LoopAt rCloseAtt la rk (fun x => Inv N P x) w5 ρk G D Lk j wj)) (fun _ s82 _ => la.length - (intOf s82).toNat)
          case atStart => exact ⟨0, by go_num, Nat.zero_le _, LoopAt.start HR5.out HK.out.2.2 HLV.out⟩
          case round =>
            obtain ⟨j, rfl, hj, HJ⟩ := hrel
            by_cases hjl : j < la.length
            · have hlt2 : decide ((j : Int) < (la.length : Int)) = true := decide_eq_true (by omega)
              have hsl := HJ.out.list HSL5.out HOWN5.out
              obtain ⟨b2, off2, cap2, hv, hbo, hbl, _, _, hc, _⟩ := hsl.form (by omega)
              obtain ⟨rfl, rfl⟩ : va5 = some ⟨b2, off2, none⟩ ∧ vc5 = cap2 := by injection hv with e1 e2 e3; exact ⟨e1, e3⟩
              have ck : wr.cell? ⟨b2, off2 + j, none⟩ = some (vp (Lk.att (hg la j).seq)) := hc j _ (by simp [getElem?_hg hjl])
              obtain ⟨rj, ρj, Lj, j1, j2, j3, j4, j5, j6, j7, j8⟩ := HJ.out
              rw [drop_hg hjl] at j7 j8
              obtain ⟨A, hA⟩ : ∃ A, A = Lk.att (hg la j).seq := ⟨_, rfl⟩
              rw [← hA] at ck
              have hj0 : (0 : Int) ≤ (j : Int) := by omega
              have hj1 : (j : Int) < (la.length : Int) := by omega
              have HEJ : Hid (Env G wr) := Step.env HR5.out j2 HE5.out
              have hen := end_calls j1 HEJ.out j6 (by have := HP.out; omega) (j7.2 (hg la j) (by simp))
              unfold EndedPost at hen
              rw [j3, ← hA] at hen
              have HEN := Lib.hid hen
              have HJ1 := Lib.hid j1
              have HJ2 := Lib.hid j2
              have HJ3 := Lib.hid (And.intro j3 (And.intro j4 j5))
              have HJ6 := Lib.hid j6
              have HJ7 := Lib.hid j7
              have HJ8 := Lib.hid j8
              clear hsl hv hbo hbl hc j1 j2 j3 j4 j5 j6 j7 j8 hA hen HJ
              go_wp2_with fail
              refine HEN.out.mono ?_
              rintro e w7 ⟨rfl, hst, kk, hblk⟩
              have a0 : w7.cell? ⟨A, 0, none⟩ = some (vi (hg la j).id) := cell_of_blk hblk rfl
              obtain ⟨ρ6, L6, e1, e2, e3, e4, e5⟩ := hst
              obtain ⟨q1, hq1, _⟩ := HJ6.out.a.areq (hg la j) (HJ7.out.2 _ (by simp))
              have H3 := Lib.hid (HJ6.out.three (HJ7.out.2 (hg la j) (by simp)))
              have HI7 := Lib.hid (HJ6.out.end (HJ7.out.2 (hg la j) (by simp)))
              have HAG := Lib.hid (again_calls e1 (Step.env HJ1.out e2 HEJ.out) HI7.out (by have := HN.out; omega) (by have := HP.out; omega) (hg la j).id (by rw [rEnd_reqs]; exact hq1) false)
              have HAT := Lib.hid (rEnd_atts hq1)
              have HE6 := Lib.hid (And.intro e2 (And.intro (e3 rfl) (And.intro (e4 rfl) (e5 rfl))))
              clear hblk e1 e2 e3 e4 e5 hq1 HEN ck
              go_wp2_with fail
              refine HAG.out.mono ?_
              rintro e w8 ⟨rfl, hst⟩
              have HST := Lib.hid hst
              clear hst HAG a0
              go_wp2_with fail
              go_roundw
              case rel =>
                refine ⟨j + 1, by go_num, by omega, ?_⟩
                obtain ⟨ρ8, L8, e1, e2, e3, e4, e5⟩ := HST.out
                obtain ⟨g2, g3, g4, g5⟩ := HE6.out
                exact ⟨rCloseAtt rj (hg la j), ρ8, L8, e1, (HJ2.out.trans g2).trans e2, ((e3 rfl).trans g3).trans HJ3.out.1, ((e4 rfl).trans g4).trans HJ3.out.2.1, ((e5 rfl).trans g5).trans HJ3.out.2.2,
                  (HI7.out.again _ false).mono (Nat.le_refl _) (by have := H3.out; omega), HJ7.out.next (by unfold rCloseAtt; rw [rAgain_false_atts]; exact HAT.out), HJ8.out⟩
              case measure => simp [intOf]; omega
            · obtain rfl : j = la.length := by omega
              have hlt2 : decide ((la.length : Int) < (la.length : Int)) = false := by simp
              obtain ⟨rj, ρj, Lj, j1, j2, j3, j4, j5, j6, j7, j8⟩ := HJ.out
              rw [List.drop_length] at j8
              have j8 : rj = la.foldl rCloseAtt rk := j8
              have HAT : Hid (At w ρ G D rj wr) := ⟨ρj, Lj, j1, (HS4.out.trans HT5.out).trans j2⟩
              have HSV := Lib.hid (HAT.out.serve HE.out HD.out j6 (by have := HN.out; omega) (by have := HP.out; omega))
              have HFI : Hid (rServe rj = rClose r c) := show _ = _ by rw [HEQ2.out, j8]
              clear j1 j2 j3 j4 j5 j6 j7 j8 HJ
              go_wp2_with fail
              refine HSV.out.mono ?_
              rintro e w8 ⟨rfl, hat⟩
              rw [HFI.out] at hat
              have HTO := Lib.hid hat.told
              clear hat HSV
              go_wp2_with fail
              refine HTO.out.mono ?_
              intro e w9 hp
              obtain ⟨v, ρ', L', rfl, p1, p2, p3⟩ := hp
              have HFIN := Lib.hid (And.intro p1 (And.intro p2 p3))
              clear p1 p2 p3 HTO
              go_wp2_with fail
              go_ret
              exact ⟨v, ρ', L', rfl, HFIN.out.1, HFIN.out.2.1, HFIN.out.2.2⟩
    · obtain ⟨id, q, hmem, hkey, hval⟩ := HENT.out e (mem_left he).1
      have hval : e.val = vp (L2.req id) := hval
      have hq : aget (rClose0 r c).reqs id = some q := aget_of_mem HKN.out hmem
      rw [hkey, hval] at hrun
      have hnx : ∀ ty, (Instr.next (.pointer (some ⟨w3.heap.size, 0, none⟩)) false ty).run Tryz.prog wr = .ok (.tuple #[.bool true, vi id, vp (L2.req id)]) (Go.ChangeMaps.setBlock w1 w3.heap.size (.mapIter (some L2.mo) clock (seen.push e.born) clock)) := fun _ => hrun
      have HN2 := Lib.hid (HI.out.1.next (seen' := seen.push e.born) hw1')
      have hfr := setBlock_fr (R := w3.heap.size) (o := .mapIter (some L2.mo) clock (seen.push e.born) clock) hw1'
      obtain ⟨w2', hw2'⟩ : ∃ w2', Go.ChangeMaps.setBlock w1 w3.heap.size (.mapIter (some L2.mo) clock (seen.push e.born) clock) = w2' := ⟨_, rfl⟩
      rw [hw2'] at hnx HN2 hfr
      have hbm2 : w2'.heap[L2.mo]? = some (.map es clock) := by
        rw [HN2.out.2.block L2.mo (by simp; omega) (by omega)]
        exact (blk_alloc_lt w3 hbm).trans HMM.out
      have hen := run_entry_at (P := Tryz.prog) w2' w3.heap.size L2.mo clock seen es clock e HN2.out.1 hbm2 (mem_left he).1 HST.out.2.1
      rw [hval, hkey] at hen
      have hrb := HR3.out.req_blk hq
      have hrl := blk_lt _ hrb
      have hrb2 : w2'.heap[L2.req id]? = some (.cells (reqCells q) 116 (0, 0)) := by
        rw [HN2.out.2.block (L2.req id) (by simp; omega) (by omega)]
        exact (blk_alloc_lt w3 hrl).trans hrb
      have a0 : w2'.cell? ⟨L2.req id, 0, none⟩ = some (vi q.conn) := cell_of_blk hrb2 rfl
      have hsh := Lib.hid (left_shrinks es seen e he)
      have Hsn := Lib.hid hseen
      obtain ⟨l, hsl, hp⟩ := HI.out.2
      have hpu := pickd_push (selC c (rClose0 r c).reqs) seen e (mem_left he).2 es.toList HST.out.2.1 (mem_left he).1
      have hll := CollAt.le hp
      have hsl2 := hsl.of_blk (w' := w2') (own' := fun b => w3.heap.size < b) (fun b hb hl => hfr.block b hl (by omega)) (fun _ h _ => h)
      obtain ⟨a5, n5, hv5, _, hcap⟩ := hsl.form'
      subst hv5
      have HSL2 := Lib.hid hsl2
      have HP2 := Lib.hid hp
      obtain ⟨A, hA⟩ : ∃ A, L2.req id = A := ⟨_, rfl⟩
      rw [hA] at hnx hen a0
      by_cases hqc : q.conn = c
      · have hc1 : decide (q.conn = c) = true := decide_eq_true hqc
        have hc2 : (q.conn == c) = true := beq_iff_eq.2 hqc
        have hse : selC c (rClose0 r c).reqs e = true := by
          unfold selC; rw [keyI_enc hkey, hq]; exact hc1
        rw [hse, if_pos rfl] at hpu
        have HPU : Hid ((l ++ [id]).Perm ((pickd (selC c (rClose0 r c).reqs) (seen.push e.born) es.toList).map keyI)) := by
          have h1 := (hpu.map keyI).symm
          rw [List.map_append, List.map_singleton, keyI_enc hkey] at h1
          exact (hp.append_right [id]).trans h1
        have HSA := Lib.hid (hsl2.of_blk (w' := w2'.alloc (.cells #[vi id] 3)) (fun b _ hl => blk_alloc_lt w2' hl) (fun b hb _ => hb))
        have HB := Lib.hid (show l.length + 1 ≤ maxLen ∧ (l.length + 1) * 8 ≤ 140737488355328 by unfold maxLen; omega)
        have HWS : Hid (w3.heap.size < w2'.heap.size) := blk_lt _ HN2.out.1
        unfold maxLen at hcap
        clear hrun he hbm1 hbm2 hw2' hseen hw1' hrb hrl hrb2 hsl hsl2 hp hpu hfr hse hqc hkey hval hmem hq HI
        go_wp2_with (at_builtin; refine wpList_append_at _ rfl _ _ _ _ rfl elem_int rfl HSA.out rfl (src_new w2' Tryz.underlying46 [vi id] (by rfl) (by simp [Value.oneCell']) w2'.heap.size (by simp)) (by omega) HB.out.1 HB.out.2 ?_; intro g goff gcap w5 hg5 hs5 hf5 hlt5 _ _; have HS5 := Lib.hid hs5; have HG5 := Lib.hid hg5; have HF5 := Lib.hid hf5; clear hs5 hf5 hg5)
        have HG6 : Hid (w3.heap.size < g) := by
          rcases HG5.out with h1 | h1
          · exact h1
          · have h2 := HWS.out; have h4 := World.size_alloc w2' (.cells #[vi id] 3); rw [h1]; exact Nat.lt_of_lt_of_le h2 (by rw [h4]; omega)
        have HIT5 : Hid (ItAt (w3.alloc (.mapIter (some L2.mo) clock #[] clock)) w3.heap.size L2.mo clock (seen.push e.born) w5) :=
          (HN2.out.fr ((Fr.refl (fun _ => False) w2').alloc (.cells #[vi id] 3)) (fun _ f => f.elim)).fr HF5.out (fun b hb => by have hb : b = g := hb; have := HG6.out; subst hb; simp; omega)
        go_roundw
        case rel => exact ⟨seen.push e.born, HIT5.out, l ++ [id], by have := HS5.out; rw [List.length_append, List.length_singleton, List.map_append]; exact this.of_blk (fun _ _ _ => rfl) (fun b hb _ => by have hb : b = g := hb; rw [hb]; exact HG6.out), HPU.out⟩
        case measure =>
          rw [Hsn.out, show w5.iterSeen w3.heap.size = seen.push e.born from by unfold World.iterSeen; rw [HIT5.out.1]]
          exact hsh.out
      · have hc1 : decide (q.conn = c) = false := decide_eq_false hqc
        have hc2 : (q.conn == c) = false := beq_eq_false_iff_ne.2 hqc
        have hse : selC c (rClose0 r c).reqs e = false := by
          unfold selC; rw [keyI_enc hkey, hq]; exact hc1
        rw [hse] at hpu
        have HPU : Hid (l.Perm ((pickd (selC c (rClose0 r c).reqs) (seen.push e.born) es.toList).map keyI)) := by
          have h1 := (hpu.map keyI).symm
          simp at h1
          exact hp.trans h1
        clear hrun he hbm1 hbm2 hw2' hseen hw1' hrb hrl hrb2 hsl hsl2 hp hpu hfr hse hqc hkey hval hmem hq HI
        go_wp2_with fail
        go_roundw
        case rel => exact ⟨seen.push e.born, HN2.out, l, HSL2.out, HPU.out⟩
        case measure =>
          rw [Hsn.out, show w2'.iterSeen w3.heap.size = seen.push e.born from by unfold World.iterSeen; rw [HN2.out.1]]
          exact hsh.out
end Go.Proofs.YtaejfobbogahmaaGreatDoor
