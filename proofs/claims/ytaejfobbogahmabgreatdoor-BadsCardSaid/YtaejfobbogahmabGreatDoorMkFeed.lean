/-
  The walk of Dispatcher's Feed.
-/
import Derived.Test.YtaejfobbogahmabGreatDoorMkHandle3
import Derived.Test.YtaejfobbogahmabGreatDoorMkPure
import Derived.Test.YtaejfobbogahmabGreatDoorMkBye
set_option linter.unusedVariables false
set_option linter.unusedSimpArgs false
namespace Go.Proofs.YtaejfobbogahmabGreatDoor
open Go Go.RowKit

/-- What a call that hands out what was said leaves: the list is the caller's. -/
def OutPost (w : World) (ρ : Nat → Role) (G D : Nat) (r : Raw) (e : Ending) (w' : World) : Prop :=
  ∃ v ρ' L', e = .returned v ∧ RRep w' ρ' G D L' (rTold r) ∧ Step ρ ρ' w w' ∧ SlAt w' 64 2 (fun b => (Of ρ b ∨ w.heap.size ≤ b) ∧ ¬ Of ρ' b) v r.out.length (outCells r.out)

theorem At.told {w W : World} {ρ : Nat → Role} {G D : Nat} {r : Raw} (h : At w ρ G D r W) : Calls Tryz.prog 44 #[vp D] W (OutPost w ρ G D r) := by
  obtain ⟨ρk, Lk, h1, h2⟩ := h
  refine (told_calls h1).mono ?_
  rintro e w' ⟨rfl, k1, k2, k3⟩
  exact ⟨_, _, _, rfl, k1, h2.trans k2, k3.of_blk (fun _ _ _ => rfl) (fun b hb _ => ⟨h2.own b hb.1, hb.2⟩)⟩

/-- A connection's bytes lie anew. -/
theorem RRep.put_rest {w w' : World} {ρ ρ' : Nat → Role} {G D : Nat} {L : Lay} {r : Raw} (h : RRep w ρ G D L r) {c : Int} {x : Cn} {b : Bytes} {v : Value} (hx : aget r.conns c = some x) (hE : Ext (rRestB c) ρ ρ' w w')
    (hC : w'.heap[L.cn c]? = some (connBlk v x.drains x.gone)) (hs : SlAt w' 5 1 (fun b => ρ' b = rRestB c) v b.length (b.map byteCell)) (hf : Fr (fun b => b = L.cn c ∨ ρ' b = rRestB c) w w') :
    RRep w' ρ' G D { L with rest := fun k => if k = c then v else L.rest k } { r with conns := aset r.conns c { x with rest := b } } ∧ Step ρ ρ' w w' := by
  obtain ⟨h1, h2, h3, h4⟩ := h.cns
  obtain ⟨hrc, hblk, hsl⟩ := h4 c x (aget_mem hx)
  have hS : ∀ (T : Role → Prop), ¬ T (rCn c) → ¬ T (rRestB c) → ∀ b, b < w.heap.size → (b = L.cn c ∨ ρ' b = rRestB c) → ¬ T (ρ b) := fun T t1 t2 b hb hs ht => by
    rcases hs with rfl | hs
    · rw [hrc] at ht; exact t1 ht
    · rcases hE b with e | e
      · rw [← e, hs] at ht; exact t2 ht
      · omega
  have k : ∀ T : Role → Prop, ¬ T (rCn c) → ¬ T (rRestB c) → Keep T ρ ρ' w w' := fun T t1 t2 => hE.keep hf (hS T t1 t2)
  have hcn : ρ' (L.cn c) = rCn c := by
    rcases hE (L.cn c) with e | e
    · rw [e, hrc]
    · have := blk_lt w hblk; omega
  refine ⟨⟨hE.dom h hf.size, h.disp.keep (k _ (by simp [rDisp, rCn]) (by simp [rDisp, rRestB])), h.opn.keep (k _ (by simp [rCn]) (by simp [rRestB])), ?_, h.qus.keep (k _ (by simp [rCn]) (by simp [rRestB])), h.run.keep (k _ (by simp [rCn]) (by simp [rRestB])),
    h.rng.keep (k _ (by simp [rCn]) (by simp [rRestB])), h.wai.keep (k _ (by simp [rCn]) (by simp [rRestB])), h.lea.keep (k _ (by simp [rCn]) (by simp [rRestB])), h.out.keep (k _ (by simp [rCn]) (by simp [rRestB]))⟩, hE.step hf (fun b hb hs => ?_)⟩
  · refine ⟨?_, ?_, aset_nodup h3 _ _, ?_⟩
    · rcases hE L.mc with e | e
      · rw [e, h1]
      · have := h2.lt; omega
    · rw [amap_aset_same (fun c => vp (L.cn c)) r.conns hx]
      exact h2.of_blk (hf.block _ h2.lt (fun e => hS (fun R => R = rMc) (by simp [rCn, rMc]) (by simp [rRestB, rMc]) L.mc h2.lt e h1))
    · intro c' z hz
      by_cases e : c' = c
      · subst e
        have hz' : z = { x with rest := b } := by
          have h5 := aget_of_mem (aset_nodup h3 c' _) hz
          rw [aget_aset, if_pos rfl] at h5
          exact (Option.some.inj h5).symm
        subst hz'
        simp only [if_true]
        exact ⟨hcn, hC, hs⟩
      · have hz' : (c', z) ∈ r.conns := by
          rcases mem_aset hz with h5 | h5
          · exact h5
          · exact absurd h5.1 e
        obtain ⟨q1, q2, q3⟩ := h4 c' z hz'
        simp only [e, if_false]
        obtain ⟨k1, k2⟩ := k (fun R => R = rCn c') (by simp [rCn, Ne.symm e]) (by simp [rCn, rRestB]) _ (blk_lt w q2) q1
        exact ⟨k2.trans q1, k1.trans q2, q3.keep (k _ (by simp [rCn, rRestB]) (by simp [rRestB, Ne.symm e]))⟩
  · unfold Of
    rcases hs with rfl | hs
    · rw [hrc]; simp [rCn]
    · rcases hE b with e | e
      · rw [← e, hs]; simp [rRestB]
      · omega

open Classical in
/-- The parts behind Cut. -/
noncomputable def restRole (ρ : Nat → Role) (R : Nat → Prop) (n m : Nat) (c : Int) : Nat → Role := fun b => if R b ∧ n ≤ b ∧ b < m then rRestB c else ρ b

/-- Behind Cut: the lines, which are nobody's; the rest, which is put. -/
theorem cut_rep {w w' : World} {ρ : Nat → Role} {G D : Nat} {L : Lay} {r : Raw} (h : RRep w ρ G D L r) {c : Int} {x : Cn} (hx : aget r.conns c = some x) {l : Bytes} {e : Ending}
    (hp : CutPost (L.cn c) (fun b => ρ b = rRestB c) x.drains x.gone x.rest l w e w') :
    ∃ sl ρ', e = .returned sl ∧ At w ρ G D { r with conns := aset r.conns c { x with rest := (cutLines x.rest l).2 } } w' ∧ (∃ L', RRep w' ρ' G D L' { r with conns := aset r.conns c { x with rest := (cutLines x.rest l).2 } } ∧ Step ρ ρ' w w') ∧
      SlAt w' 9 1 (fun b => ¬ Of ρ' b) sl (cutLines x.rest l).1.length ((cutLines x.rest l).1.map fun x => vs (bs x)) := by
  obtain ⟨sl, v, R, O, rfl, h1, h2, h3, h4, h5, h6, h7⟩ := hp
  have hfs := h7.size
  have hE : Ext (rRestB c) ρ (restRole ρ R w.heap.size w'.heap.size c) w w' := fun b => by
    unfold restRole
    by_cases hb : R b ∧ w.heap.size ≤ b ∧ b < w'.heap.size
    · rw [if_pos hb]; exact .inr ⟨rfl, hb.2⟩
    · rw [if_neg hb]; exact .inl rfl
  have hRR : ∀ b, R b → b < w'.heap.size → restRole ρ R w.heap.size w'.heap.size c b = rRestB c := fun b hb hl => by
    unfold restRole
    by_cases hn : w.heap.size ≤ b
    · rw [if_pos ⟨hb, hn, hl⟩]
    · rw [if_neg (fun h => hn h.2.1)]
      rcases h2 b hb with h8 | h8
      · exact h8
      · exact absurd h8 hn
  obtain ⟨k1, k2⟩ := h.put_rest hx hE h1 (h5.of_blk (fun _ _ _ => rfl) hRR) (h7.mono (fun b hb => .inl (hb.imp (fun e => e) (fun e => by
    have := (h.dom b (by rw [e]; simp [rRestB])).2
    unfold restRole
    rw [if_neg (fun h => by have := h.2.1; omega)]; exact e))))
  refine ⟨sl, _, rfl, ⟨_, _, k1, k2⟩, ⟨_, k1, k2⟩, h6.of_blk (fun _ _ _ => rfl) (fun b hb hl => ?_)⟩
  have h8 := h3 b hb
  intro ho
  unfold Of restRole at ho
  rw [if_neg (fun h => h4 b h.1 hb)] at ho
  have := (h.dom b ho).2
  omega

theorem At.after {w w0 W : World} {ρ ρk : Nat → Role} {G D : Nat} {r : Raw} (hs : Step ρ ρk w w0) (h : At w0 ρk G D r W) : At w ρ G D r W := by
  obtain ⟨ρj, Lj, h1, h2⟩ := h
  exact ⟨ρj, Lj, h1, hs.trans h2⟩
theorem At.below {w W W' : World} {ρ : Nat → Role} {G D : Nat} {r : Raw} (h : At w ρ G D r W) (hb : Below W.heap.size W W') : At w ρ G D r W' := by
  obtain ⟨ρj, Lj, h1, h2⟩ := h
  exact ⟨ρj, Lj, h1.of_fr (Fr.of_below (S := fun _ => False) hb) (fun _ f => f.elim), ⟨h2.fr.trans (Fr.of_below (S := fun _ => False) hb) (fun _ f => f.elim), h2.own⟩⟩
theorem At.newBlock {w W W' : World} {ρ : Nat → Role} {G D : Nat} {r : Raw} (h : At w ρ G D r W) (hf : Fr (fun b => b = W.heap.size) W W') : At w ρ G D r W' := by
  obtain ⟨ρj, Lj, h1, h2⟩ := h
  exact ⟨ρj, Lj, h1.of_fr hf (fun b hb ho => by have := (h1.dom b ho).2; omega), ⟨h2.fr.trans hf (fun x hx => .inr (by have := h2.fr.size; omega)), h2.own⟩⟩
theorem At.setNew {w W : World} {ρ : Nat → Role} {G D : Nat} {r : Raw} (h : At w ρ G D r W) {B : Nat} {ob : Obj} (hB : W.heap[B]? = some ob) (h0 : ∀ ρk Lk, RRep W ρk G D Lk r → Step ρ ρk w W → ¬ Of ρk B) (hw : w.heap.size ≤ B) (k : Nat) (v : Value) : At w ρ G D r (W.setCell ⟨B, k, none⟩ v) := by
  obtain ⟨ρj, Lj, h1, h2⟩ := h
  have hno := h0 ρj Lj h1 h2
  have hf : Fr (fun b => b = B) W (W.setCell ⟨B, k, none⟩ v) := (Fr.refl _ W).setCell _ _ (.inl rfl)
  exact ⟨ρj, Lj, h1.of_fr hf (fun b hb ho => by rw [hb] at ho; exact hno ho), ⟨h2.fr.trans hf (fun x hx => .inr (by rw [hx]; exact hw)), h2.own⟩⟩
theorem At.serve {w0 W : World} {ρ : Nat → Role} {G D : Nat} {r : Raw} (h : At w0 ρ G D r W) (hE : Env G w0) (hd : ∀ b, Of ρ b → G ≤ b) {N P : Nat} (hI : Inv N P r) (hN : N ≤ NB) (hP : P < NB) :
    Calls Tryz.prog 42 #[vp D] W fun e w' => e = .returned (.tuple #[]) ∧ At w0 ρ G D (rServe r) w' := by
  have hEr := h.env hE hd
  obtain ⟨ρk, Lk, h1, h2⟩ := h
  refine (serve_calls h1 hEr hI hN hP).mono ?_
  rintro e w' ⟨rfl, hst⟩
  exact ⟨rfl, At.st h2 hst⟩
theorem At.handle {w0 W : World} {ρ : Nat → Role} {G D : Nat} {r : Raw} (h : At w0 ρ G D r W) (hE : Env G w0) (hd : ∀ b, Of ρ b → G ≤ b) {N P : Nat} (hI : Inv N P r) (hN : N + 1 ≤ NB) (hP : P + 1 < NB) (c : Int) {m : Msg} (hm : MsgOk m)
    (hk : m.kind = kSub ∨ m.kind = kCan ∨ m.kind = kPull ∨ m.kind = kBeat ∨ m.kind = kDone ∨ m.kind = kFail ∨ m.kind = kDrain) :
    Calls Tryz.prog 41 #[vp D, vi c, .agg (msgCells m)] W fun e w' => e = .returned (.tuple #[]) ∧ At w0 ρ G D (rHandle r c m) w' := by
  have hEr := h.env hE hd
  obtain ⟨ρk, Lk, h1, h2⟩ := h
  refine (handle_calls h1 hEr hI hN hP c hm hk).mono ?_
  rintro e w' ⟨rfl, ha⟩
  exact ⟨rfl, At.after h2 ha⟩

/-- The lines up to the k-th are done. -/
def linesTo (r : Raw) (c : Int) (ls : List Bytes) (k : Nat) : Raw := (ls.take k).foldl (fun r l => rLine r c l) r
theorem linesTo_next {r : Raw} {c : Int} {ls : List Bytes} {k : Nat} {l : Bytes} (h : ls[k]? = some l) : linesTo r c ls (k + 1) = rLine (linesTo r c ls k) c l := by
  unfold linesTo
  rw [List.take_add_one, h]; simp
theorem linesTo_inv {N P : Nat} {r : Raw} (h : Inv N P r) (c : Int) (ls : List Bytes) (k : Nat) : Inv (N + k) (P + 4 * k) (linesTo r c ls k) :=
  (Inv.lines c (ls.take k) h).mono (by simp; omega) (by simp; omega)
theorem rLine_none {r : Raw} {c : Int} {l : Bytes} (h : opened l = none) : rLine r c l = rSay r c [wBad] := by unfold rLine; rw [h]
theorem rLine_bad {r : Raw} {c : Int} {l t : Bytes} (h : opened l = some t) (h2 : readMsg t = none) : rLine r c l = rSay r c [wBad] := by unfold rLine; simp only [h, h2]
theorem rLine_msg {r : Raw} {c : Int} {l t : Bytes} {m : Msg} (h : opened l = some t) (h2 : readMsg t = some m) : rLine r c l = rServe (rHandle r c m) := by unfold rLine; simp only [h, h2]

set_option maxRecDepth 100000 in
set_option maxHeartbeats 4000000 in
theorem Feed_calls {w : World} {ρ : Nat → Role} {G D : Nat} {L : Lay} {r : Raw} (h : RRep w ρ G D L r) (hE : Env G w) {N P : Nat} (hI : Inv N P r) (hF : Few r) (c : Int) (b : Bytes) (hN : N + b.length ≤ NB) (hP : P + 4 * b.length + 5 < NB) :
    Calls Tryz.prog 20 #[vp D, vi c, vs (bs b)] w (OutPost w ρ G D (rFeed r c b)) := by
  have HE := Lib.hid hE
  have HD := Lib.hid (fun b (hb : Of ρ b) => (h.dom b hb).1)
  have HC := Lib.hid (conn_calls h c)
  obtain ⟨x, hx⟩ := rConn_get r c
  have hI1 := hI.conn c
  have hF1 := hF.conn c
  have hxr : restOf (rConn r c) c = x.rest := by unfold restOf; rw [hx]
  have hrl : x.rest.length ≤ 81 := by rw [← hxr]; exact hF1.rest c
  have HR : Hid (rFeed r c b = (cutLines x.rest b).1.foldl (fun r l => rLine r c l) { rConn r c with conns := aset (rConn r c).conns c { x with rest := (cutLines x.rest b).2 } }) := show _ = _ by
    unfold rFeed rRest
    simp only [hx, hxr]
  have HI2 : Hid (Inv N P { rConn r c with conns := aset (rConn r c).conns c { x with rest := (cutLines x.rest b).2 } }) := hI1.conns (aset_nodup hI1.q.kcn _ _)
  have HLL := Lib.hid (cutLines_few b x.rest hrl).1
  have hnl := cutLines_len b x.rest
  have hbl : b.length ≤ 1099511627776 := by unfold NB at hN; omega
  have Hx := Lib.hid hx
  have HB := Lib.hid (And.intro hN hP)
  have HCU : Hid (∀ w1 ρ1 L1, RRep w1 ρ1 G D L1 (rConn r c) → Calls Tryz.prog 38 #[vp (L1.cn c), vs (bs b)] w1 (CutPost (L1.cn c) (fun b => ρ1 b = rRestB c) x.drains x.gone x.rest b w1)) := fun w1 ρ1 L1 k1 => by
    obtain ⟨q1, q2, q3⟩ := k1.cns.2.2.2 c x (aget_mem Hx.out)
    exact Cut_calls q2 (by rw [q1]; simp [rCn, rRestB]) q3 hrl hbl
  generalize rConn r c = r1 at *
  generalize hr2 : ({ r1 with conns := aset r1.conns c { x with rest := (cutLines x.rest b).2 } } : Raw) = r2 at *
  have Hr2 := Lib.hid hr2
  obtain ⟨ls, hls⟩ : ∃ ls, (cutLines x.rest b).1 = ls := ⟨_, rfl⟩
  rw [hls] at HR HLL hnl
  have Hls := Lib.hid hls
  have hsz : ls.length ≤ 1099511627776 := by omega
  clear hI hF hI1 hF1 hxr hrl h hE hx hr2 hls hN hP
  go_enter Tryz.func20, Tryz.ntmps20
  go_wp2_with fail
  refine HC.out.mono ?_
  rintro e w1 ⟨ρ1, L1, rfl, k1, k2⟩
  have HK1 := Lib.hid (And.intro k1 k2)
  have HCU1 := Lib.hid (HCU.out w1 ρ1 L1 k1)
  clear k1 k2
  go_wp2_with fail
  refine HCU1.out.mono ?_
  intro e w2 hp
  obtain ⟨sl, ρ2, rfl, k1, ⟨L2, k2, k3⟩, k4⟩ := cut_rep HK1.out.1 Hx.out hp
  rw [Hr2.out] at k2
  rw [Hls.out] at k4
  have HS2 := Lib.hid (HK1.out.2.trans k3)
  have HR2 := Lib.hid k2
  have HSL := Lib.hid k4
  obtain ⟨va, vc, hv1, hv2, hv3⟩ := k4.form'
  subst hv1
  unfold maxLen at hv3
  have HE2 : Hid (Env G w2) := At.env (ρ := ρ) (D := D) (r := r2) ⟨ρ2, L2, k2, HS2.out⟩ HE.out HD.out
  have HD2 : Hid (∀ b, Of ρ2 b → G ≤ b) := fun b hb => (k2.dom b hb).1
  clear hp k1 k2 k3 k4
  go_wp2_with fail
  go_loopw [8, 9, 10, 11, 12, 21] (fun _ _ _ _ _ s21 wr => ∃ k : Nat, s21 = .int .i64 k ∧ k ≤ ls.length ∧ Hid (At w2 ρ2 G D (linesTo r2 c ls k) wr)) (fun _ _ _ _ _ s21 _ => ls.length - (intOf s21).toNat)
  case atStart => exact ⟨0, by go_num, Nat.zero_le _, At.start HR2.out⟩
  case round =>
    obtain ⟨k, rfl, hk, HA⟩ := hrel
    by_cases hkl : k < ls.length
    · have hlt : decide ((k : Int) < (ls.length : Int)) = true := decide_eq_true (by omega)
      obtain ⟨l, hl⟩ : ∃ l, ls[k]? = some l := ⟨_, List.getElem?_eq_getElem hkl⟩
      have HLN := Lib.hid (linesTo_next (r := r2) (c := c) hl)
      have hll := HLL.out l (List.mem_of_getElem? hl)
      have HIk := Lib.hid (linesTo_inv HI2.out c ls k)
      obtain ⟨b', off, cap, hv, _, _, _, _, hc, _⟩ := (HSL.out.of_blk (w' := wr) (own' := fun b => ¬ Of ρ2 b) (fun b hb hl => by obtain ⟨ρk, Lk, h1, h2⟩ := HA.out; exact h2.fr.block b hl hb) (fun _ h _ => h)).form (by omega)
      obtain ⟨rfl, rfl⟩ : va = some ⟨b', off, none⟩ ∧ vc = cap := by injection hv with e1 e2 e3; exact ⟨e1, e3⟩
      have ck : wr.cell? ⟨b', off + k, none⟩ = some (vs (bs l)) := hc k _ (by simp [hl])
      have hk0 : (0 : Int) ≤ (k : Int) := by omega
      have hk1 : (k : Int) < (ls.length : Int) := by omega
      have HOP := Lib.hid (Opened_calls l (by omega) wr)
      generalize linesTo r2 c ls k = rk at *
      clear hc hv hl
      go_wp2_with fail
      refine HOP.out.mono ?_
      rintro e w3 ⟨t, b3, rfl, o1, o2, o3, o4⟩
      have HO := Lib.hid (And.intro o1 o2)
      have HA3 := Lib.hid (HA.out.below o4)
      have htl : t.length ≤ 81 := by omega
      clear o1 o2 o3 o4
      have HRD := Lib.hid (Read_calls (HA3.out.env HE2.out HD2.out) t (by omega))
      go_wp2_with fail
      refine HRD.out.mono ?_
      rintro e w4 ⟨rfl, o4⟩
      have HA4 := Lib.hid (HA3.out.below o4)
      have HRA := Lib.hid (read_all t)
      have Htl := Lib.hid htl
      obtain ⟨m, hm⟩ : ∃ m, (readAll t).1 = m := ⟨_, rfl⟩
      obtain ⟨b4, hb4⟩ : ∃ b4, (readAll t).2 = b4 := ⟨_, rfl⟩
      rw [hm, hb4] at HRA ⊢
      have HMM : Hid (b4 = true → readMsg t = some m) := fun hb => by rw [HRA.out, if_pos hb]
      have HNN : Hid (b4 = false → readMsg t = none) := fun hb => by rw [HRA.out, if_neg (by rw [hb]; simp)]
      have HMC := Lib.hid (show msgCells m = #[vs (bs m.kind), vi m.id, vi m.att, vs (bs m.tenant), vs (bs m.text)] from rfl)
      rw [HMC.out]
      clear o4 hm hb4
      clear HR HCU HCU1 HOP HRD HC HRA
      have HA5 := Lib.hid (HA4.out.alloc (.cells #[vs (bs m.kind), vi m.id, vi m.att, vs (bs m.tenant), vs (bs m.text)] 97))
      have hpot : Hid (rk.out.length ≤ 1099511627776) := show _ ≤ _ by have := HIk.out.n.pot; have := HB.out.2; unfold NB at this; omega
      have HBAD : Hid (Calls Tryz.prog 43 #[vp D, vi c, .slice (some ⟨w4.heap.size + 1, 0, none⟩) 1 1] ((w4.alloc (.cells #[vs (bs m.kind), vi m.id, vi m.att, vs (bs m.tenant), vs (bs m.text)] 97)).alloc (.cells #[.iface 9 (vs (bs wBad))] 20)) fun e w' => e = .returned (.tuple #[]) ∧ At w2 ρ2 G D (rSay rk c [wBad]) w') :=
        (HA5.out.alloc _).say HE2.out HD2.out c [Wd.str wBad] (by intro x hx; simp at hx; subst hx; show _ ≤ _; decide) (by decide) hpot.out (B := w4.heap.size + 1) (cap := 1) (by simp) (by
          intro j x hx
          refine cell_of_blk (by have := blk_alloc_new (w4.alloc (.cells #[vs (bs m.kind), vi m.id, vi m.att, vs (bs m.tenant), vs (bs m.text)] 97)) (o := .cells #[.iface 9 (vs (bs wBad))] 20); simpa using this) ?_
          match j with
          | 0 => simp at hx; subst hx; rfl
          | j + 1 => simp at hx)
      cases b3 with
      | false =>
        have HL : Hid (rLine rk c l = rSay rk c [wBad]) := rLine_none (HO.out.2 rfl)
        clear HMM HNN HO
        go_wp2_with fail
        refine HBAD.out.mono ?_
        rintro e w5 ⟨rfl, hst⟩
        have HST := Lib.hid hst
        clear hst HBAD
        go_wp2_with fail
        go_roundw
        case rel => exact ⟨k + 1, by go_num, by omega, by rw [HLN.out, HL.out]; exact HST.out⟩
        case measure => simp [intOf]; omega
      | true =>
        cases b4 with
        | false =>
          have HL : Hid (rLine rk c l = rSay rk c [wBad]) := rLine_bad (HO.out.1 rfl) (HNN.out rfl)
          clear HMM HNN HO
          go_wp2_with fail
          refine HBAD.out.mono ?_
          rintro e w5 ⟨rfl, hst⟩
          have HST := Lib.hid hst
          clear hst HBAD
          go_wp2_with fail
          go_roundw
          case rel => exact ⟨k + 1, by go_num, by omega, by rw [HLN.out, HL.out]; exact HST.out⟩
          case measure => simp [intOf]; omega
        | true =>
          have HL : Hid (rLine rk c l = rServe (rHandle rk c m)) := rLine_msg (HO.out.1 rfl) (HMM.out rfl)
          have hmok : MsgOk m := readMsg_ok (opened_len (HO.out.1 rfl)) (HMM.out rfl)
          have hk := readMsg_kind (HMM.out rfl)
          have HIH := Lib.hid (HIk.out.handle c hmok)
          have HHA := Lib.hid (HA5.out.handle HE2.out HD2.out HIk.out (by have := HB.out.1; omega) (by have := HB.out.2; omega) c hmok hk)
          rw [HMC.out] at HHA
          clear HMM HNN HO HBAD hmok hk
          go_wp2_with fail
          refine HHA.out.mono ?_
          rintro e w5 ⟨rfl, hst⟩
          have HSV := Lib.hid (hst.serve HE2.out HD2.out HIH.out (by have := HB.out.1; omega) (by have := HB.out.2; omega))
          clear hst HHA
          go_wp2_with fail
          refine HSV.out.mono ?_
          rintro e w6 ⟨rfl, hst⟩
          have HST := Lib.hid hst
          clear hst HSV
          go_wp2_with fail
          go_roundw
          case rel => exact ⟨k + 1, by go_num, by omega, by rw [HLN.out, HL.out]; exact HST.out⟩
          case measure => simp [intOf]; omega
    · obtain rfl : k = ls.length := by omega
      have hlt : decide ((ls.length : Int) < (ls.length : Int)) = false := by simp
      have HA9 : Hid (At w2 ρ2 G D (rFeed r c b) wr) := by
        have := HA.out
        unfold linesTo at this
        rw [List.take_length] at this
        rw [HR.out]; exact this
      have HTO := Lib.hid ((At.after HS2.out HA9.out).told)
      go_wp2_with fail
      refine HTO.out.mono ?_
      rintro e w9 ⟨v, ρ9, L9, rfl, q1, q2, q3⟩
      have HQ := Lib.hid (And.intro q1 (And.intro q2 q3))
      clear q1 q2 q3
      go_wp2_with fail
      go_ret
      exact ⟨v, ρ9, L9, rfl, HQ.out.1, HQ.out.2.1, HQ.out.2.2⟩
end Go.Proofs.YtaejfobbogahmabGreatDoor
