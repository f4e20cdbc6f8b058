/-
  The walk of Dispatcher's handle: done and fail.
-/
import Derived.Test.YtaejfobbogahmabGreatDoorMkHandle1
import Derived.Test.YtaejfobbogahmabGreatDoorMkSay
set_option linter.unusedVariables false
set_option linter.unusedSimpArgs false
namespace Go.Proofs.YtaejfobbogahmabGreatDoor
open Go Go.RowKit

/-- As At; and the attempts lie where they lay. -/
def AtL (w0 : World) (ρ : Nat → Role) (G D : Nat) (L : Lay) (r : Raw) (W : World) : Prop := ∃ ρk Lk, RRep W ρk G D Lk r ∧ Step ρ ρk w0 W ∧ Lk.att = L.att
section
variable {w0 W : World} {ρ : Nat → Role} {G D : Nat} {L : Lay} {r : Raw}
theorem AtL.at (h : AtL w0 ρ G D L r W) : At w0 ρ G D r W := by
  obtain ⟨ρk, Lk, h1, h2, _⟩ := h
  exact ⟨ρk, Lk, h1, h2⟩
theorem AtL.alloc (h : AtL w0 ρ G D L r W) (o : Obj) : AtL w0 ρ G D L r (W.alloc o) := by
  obtain ⟨ρk, Lk, h1, h2, h3⟩ := h
  exact ⟨ρk, Lk, h1.alloc o, h2.alloc o, h3⟩
theorem AtL.drewN (h : AtL w0 ρ G D L r W) (n : Nat) : AtL w0 ρ G D L r (W.drewN n) := by
  obtain ⟨ρk, Lk, h1, h2, h3⟩ := h
  exact ⟨ρk, Lk, h1.drewN n, h2.drewN n, h3⟩
theorem AtL.say (h : AtL w0 ρ G D L r W) (hE : Env G w0) (hd : ∀ b, Of ρ b → G ≤ b) (c : Int) (wds : List Wd) (hok : ∀ x ∈ wds, x.ok) (hn : wds.length ≤ 16) (hout : r.out.length ≤ 1099511627776)
    {B cap : Nat} (hB : B < W.heap.size) (hcells : ∀ (j : Nat) x, wds[j]? = some x → W.cell? ⟨B, j, none⟩ = some x.val) :
    Calls Tryz.prog 43 #[vp D, vi c, .slice (some ⟨B, 0, none⟩) wds.length cap] W fun e w' => e = .returned (.tuple #[]) ∧ AtL w0 ρ G D L (rSay r c (wds.map Wd.bytes)) w' := by
  have hEr := h.at.env hE hd
  obtain ⟨ρk, Lk, h1, h2, h3⟩ := h
  refine (say_calls h1 hEr c wds hok hn hout hB hcells).mono ?_
  rintro e w' ⟨rfl, ρ2, L2, g1, g2, g3, g4, g5⟩
  exact ⟨rfl, ρ2, L2, g1, h2.trans g2, (g3 rfl).trans h3⟩
theorem AtL.sayM (h : AtL w0 ρ G D L r W) (hE : Env G w0) (hd : ∀ b, Of ρ b → G ≤ b) (c : Int) (wds : List Wd) (hok : ∀ x ∈ wds, x.ok) (hn : wds.length ≤ 16) (hout : r.out.length ≤ 1099511627776)
    {B cap : Nat} (hB : B < W.heap.size) (hcells : ∀ (j : Nat) x, wds[j]? = some x → W.cell? ⟨B, j, none⟩ = some x.val) {mo A : Nat} {id : Int} {q : Req} (hq : aget r.reqs id = some q)
    (hmo : W.cell? ⟨D, 6, none⟩ = some (.map (some mo))) (hA : ∀ ρk Lk, RRep W ρk G D Lk r → Lk.req id = A) :
    Calls Tryz.prog 43 #[vp D, vi c, .slice (some ⟨B, 0, none⟩) wds.length cap] W fun e w' => e = .returned (.tuple #[]) ∧ AtL w0 ρ G D L (rSay r c (wds.map Wd.bytes)) w' ∧ w'.cell? ⟨D, 6, none⟩ = some (.map (some mo)) ∧ w'.cell? ⟨A, 0, none⟩ = some (vi q.conn) ∧ (Instr.lookup 70 (.map (some mo)) (vi id) false).run Tryz.prog w' = .ok (vp A) w' := by
  have hEr := h.at.env hE hd
  obtain ⟨ρk, Lk, h1, h2, h3⟩ := h
  refine (say_callsM h1 hEr c wds hok hn hout hB hcells).mono ?_
  rintro e w' ⟨rfl, ρ2, L2, g1, g2, g3, g4, g5, g6⟩
  have e1 : Lk.mo = mo := by
    have := h1.disp.c6
    rw [hmo] at this
    injection this with this; injection this with this; injection this with this; exact this.symm
  have hb := g1.req_blk (id := id) (x := q) hq
  rw [g4, hA ρk Lk h1] at hb
  exact ⟨rfl, ⟨ρ2, L2, g1, h2.trans g2, g3.trans h3⟩, by rw [← e1, ← g6]; exact g1.disp.c6, cell_of_blk hb rfl, by
    have h7 := look_req g1.opn.2.1 id
    rw [show (rSay r c (wds.map Wd.bytes)).reqs = r.reqs from rfl, aget_amap, hq, g6, e1, g4, hA ρk Lk h1] at h7
    exact h7⟩
theorem AtL.end (h : AtL w0 ρ G D L r W) (hE : Env G w0) (hd : ∀ b, Of ρ b → G ≤ b) {N P : Nat} (hI : Inv N P r) (hP : P ≤ NB) {a : Att} (ha : a ∈ r.atts) :
    Calls Tryz.prog 49 #[vp D, vp (L.att a.seq)] W fun e w' => e = .returned (.tuple #[]) ∧ AtL w0 ρ G D L (rEnd r a) w' ∧ ∃ k, w'.heap[L.att a.seq]? = some (.cells (attCells a k) 110 (0, 0)) := by
  have hEr := h.at.env hE hd
  obtain ⟨ρk, Lk, h1, h2, h3⟩ := h
  rw [← h3]
  refine (end_calls h1 hEr hI hP ha).mono ?_
  rintro e w' ⟨rfl, ⟨ρ2, L2, g1, g2, g3, g4, g5⟩, k, hk⟩
  exact ⟨rfl, ⟨ρ2, L2, g1, h2.trans g2, (g3 rfl).trans h3⟩, k, hk⟩
theorem AtL.attempt (h : AtL w0 ρ G D L r W) (id att c : Int) (hsm : r.atts.length ≤ 1099511627776) :
    Calls Tryz.prog 88 #[vp D, vi id, vi att, vi c] W fun e w' => e = .returned (attV L (rAtt r id att c)) ∧ AtL w0 ρ G D L r w' ∧ Below W.heap.size W w' := by
  obtain ⟨ρk, Lk, h1, h2, h3⟩ := h
  refine (attempt_calls h1 id att c hsm).mono ?_
  rintro e w' ⟨rfl, hb⟩
  refine ⟨by unfold attV; rw [h3], ⟨ρk, Lk, h1.of_fr (Fr.of_below (S := fun _ => False) hb) (fun _ f => f.elim), ⟨h2.fr.trans (Fr.of_below (S := fun _ => False) hb) (fun _ f => f.elim), h2.own⟩, h3⟩, hb⟩
end

theorem rHandle_done {r : Raw} {c : Int} {m : Msg} (hk : m.kind = kDone) : rHandle r c m = match rAtt r m.id m.att c, aget r.reqs m.id with
    | some a, some q => rShut (rEnd (rSay r q.conn [wVal, decI m.id, m.text]) a) m.id
    | _, _ => r := by unfold rHandle; rw [hk]; rfl
theorem rHandle_fail {r : Raw} {c : Int} {m : Msg} (hk : m.kind = kFail) : rHandle r c m = match rAtt r m.id m.att c with
    | some a => rAgain (rEnd r a) m.id true
    | none => r := by unfold rHandle; rw [hk]; rfl
theorem rAtt_spec {N P : Nat} {r : Raw} (hI : Inv N P r) {id att c : Int} {a : Att} (h : rAtt r id att c = some a) : a ∈ r.atts ∧ a.id = id ∧ ∃ q, aget r.reqs id = some q := by
  have h1 := List.mem_of_find?_eq_some h
  obtain ⟨h2, h3⟩ := List.mem_filter.1 h1
  have h3 : a.id = id := by simpa using h3
  obtain ⟨q, hq, _⟩ := hI.a.areq a h2
  exact ⟨h2, h3, q, by rw [← h3]; exact hq⟩

set_option maxRecDepth 100000 in
set_option maxHeartbeats 2000000 in
theorem handle_fail {w : World} {ρ : Nat → Role} {G D : Nat} {L : Lay} {r : Raw} (h : RRep w ρ G D L r) (hE : Env G w) {N P : Nat} (hI : Inv N P r) (hN : N ≤ NB) (hP : P + 1 < NB) (c : Int) {m : Msg} (hm : MsgOk m) (hk : m.kind = kFail) :
    Calls Tryz.prog 41 #[vp D, vi c, .agg (msgCells m)] w (HdPost w ρ G D (rHandle r c m)) := by
  have HR := Lib.hid (rHandle_fail (r := r) (c := c) hk)
  have ht : (bs m.kind).toList = [102, 97, 105, 108] := by rw [hk]; exact bs_toList _
  have HA0 : Hid (AtL (w.alloc (.cells (msgCells m) 97)) ρ G D L r (w.alloc (.cells (msgCells m) 97))) := ⟨ρ, L, h.alloc _, Step.refl _ _, rfl⟩
  have HE := Lib.hid (hE.alloc (.cells (msgCells m) 97))
  have HD := Lib.hid (fun b (hb : Of ρ b) => (h.dom b hb).1)
  have HM := Lib.hid (show (w.alloc (.cells (msgCells m) 97)).heap[w.heap.size]? = some (.cells (msgCells m) 97 (0, 0)) ∧ ¬ Of ρ w.heap.size from ⟨blk_alloc_new w, fun ho => by have := (h.dom _ ho).2; omega⟩)
  have HT : Hid (Step ρ ρ w (w.alloc (.cells (msgCells m) 97))) := (Step.refl ρ w).alloc _
  have HI := Lib.hid hI
  have HN := Lib.hid hN
  have HP := Lib.hid hP
  have HAT := Lib.hid (HA0.out.attempt m.id m.att c (hI.atts_le (by omega)))
  have HMC := Lib.hid (show msgCells m = #[vs (bs m.kind), vi m.id, vi m.att, vs (bs m.tenant), vs (bs m.text)] from rfl)
  rw [HMC.out] at HAT HA0 HE HM HT ⊢
  clear hI hN hP hm hE hk h
  cases hq : rAtt r m.id m.att c with
  | none =>
    rw [hq] at HAT HR
    clear hq
    go_enter Tryz.func41, Tryz.ntmps41
    go_wp2_with fail
    refine HAT.out.mono ?_
    rintro e w2 ⟨rfl, hst, _⟩
    have HA := Lib.hid (hst.at.from HT.out)
    clear hst
    unfold attV
    go_wp2_with fail
    go_end0
    exact ⟨rfl, by rw [HR.out]; exact HA.out⟩
  | some a =>
    rw [hq] at HAT HR
    obtain ⟨ha, hai, q, hrq⟩ := rAtt_spec HI.out hq
    have Hs := Lib.hid (And.intro ha (And.intro hai hrq))
    clear hq ha hai hrq
    go_enter Tryz.func41, Tryz.ntmps41
    go_wp2_with fail
    refine HAT.out.mono ?_
    rintro e w2 ⟨rfl, hst, _⟩
    have HA := Lib.hid hst
    have HEN := Lib.hid (hst.end HE.out HD.out HI.out (by have := HP.out; omega) Hs.out.1)
    clear hst
    unfold attV
    go_wp2_with fail
    refine HEN.out.mono ?_
    rintro e w3 ⟨rfl, hst, _⟩
    have m1 : w3.cell? ⟨w.heap.size, 1, none⟩ = some (vi m.id) := cell_of_blk (hst.at.box HM.out.1 HM.out.2) rfl
    have HAG := Lib.hid (hst.at.again HE.out HD.out (HI.out.end Hs.out.1) HN.out (show P - 2 + 1 < NB by have := HP.out; omega) m.id (q := q) (by rw [rEnd_reqs]; exact Hs.out.2.2) true)
    clear hst
    go_wp2_with fail
    refine HAG.out.mono ?_
    rintro e w4 ⟨rfl, hst⟩
    have HA4 := Lib.hid (hst.from HT.out)
    clear hst
    go_wp2_with fail
    go_end0
    exact ⟨rfl, by rw [HR.out]; exact HA4.out⟩

set_option maxRecDepth 100000 in
set_option maxHeartbeats 2000000 in
theorem handle_done {w : World} {ρ : Nat → Role} {G D : Nat} {L : Lay} {r : Raw} (h : RRep w ρ G D L r) (hE : Env G w) {N P : Nat} (hI : Inv N P r) (hN : N ≤ NB) (hP : P + 1 < NB) (c : Int) {m : Msg} (hm : MsgOk m) (hk : m.kind = kDone) :
    Calls Tryz.prog 41 #[vp D, vi c, .agg (msgCells m)] w (HdPost w ρ G D (rHandle r c m)) := by
  have HR := Lib.hid (rHandle_done (r := r) (c := c) hk)
  have ht : (bs m.kind).toList = [100, 111, 110, 101] := by rw [hk]; exact bs_toList _
  have HA0 : Hid (AtL (w.alloc (.cells (msgCells m) 97)) ρ G D L r (w.alloc (.cells (msgCells m) 97))) := ⟨ρ, L, h.alloc _, Step.refl _ _, rfl⟩
  have HE := Lib.hid (hE.alloc (.cells (msgCells m) 97))
  have HD := Lib.hid (fun b (hb : Of ρ b) => (h.dom b hb).1)
  have HM := Lib.hid (show (w.alloc (.cells (msgCells m) 97)).heap[w.heap.size]? = some (.cells (msgCells m) 97 (0, 0)) ∧ ¬ Of ρ w.heap.size from ⟨blk_alloc_new w, fun ho => by have := (h.dom _ ho).2; omega⟩)
  have HT : Hid (Step ρ ρ w (w.alloc (.cells (msgCells m) 97))) := (Step.refl ρ w).alloc _
  have HI := Lib.hid hI
  have HN := Lib.hid hN
  have HP := Lib.hid hP
  have Hm := Lib.hid hm
  have HAT := Lib.hid (HA0.out.attempt m.id m.att c (hI.atts_le (by omega)))
  have HMC := Lib.hid (show msgCells m = #[vs (bs m.kind), vi m.id, vi m.att, vs (bs m.tenant), vs (bs m.text)] from rfl)
  rw [HMC.out] at HAT HA0 HE HM HT ⊢
  clear hI hN hP hm hE hk h
  cases hq : rAtt r m.id m.att c with
  | none =>
    rw [hq] at HAT HR
    clear hq
    go_enter Tryz.func41, Tryz.ntmps41
    go_wp2_with fail
    refine HAT.out.mono ?_
    rintro e w2 ⟨rfl, hst, _⟩
    have HA := Lib.hid (hst.at.from HT.out)
    clear hst
    unfold attV
    go_wp2_with fail
    go_end0
    exact ⟨rfl, by rw [HR.out]; exact HA.out⟩
  | some a =>
    rw [hq] at HAT HR
    obtain ⟨ha, hai, q, hrq⟩ := rAtt_spec HI.out hq
    rw [hrq] at HR
    have Hs := Lib.hid (And.intro ha (And.intro hai hrq))
    clear hq ha hai hrq
    go_enter Tryz.func41, Tryz.ntmps41
    go_wp2_with fail
    refine HAT.out.mono ?_
    rintro e w2 ⟨rfl, hst, _⟩
    have HA := Lib.hid hst
    have m1 : w2.cell? ⟨w.heap.size, 1, none⟩ = some (vi m.id) := cell_of_blk (hst.at.box HM.out.1 HM.out.2) rfl
    have m4 : w2.cell? ⟨w.heap.size, 4, none⟩ = some (vs (bs m.text)) := cell_of_blk (hst.at.box HM.out.1 HM.out.2) rfl
    obtain ⟨mo, c6, _, hreq⟩ := hst.at.req m.id
    obtain ⟨A, hl, hA⟩ := hreq q Hs.out.2.2
    have a0 : w2.cell? ⟨A, 0, none⟩ = some (vi q.conn) := cell_of_blk hA rfl
    have hl1 : (Instr.lookup 70 (.map (some mo)) (vi m.id) false).run Tryz.prog w2.drew = .ok (vp A) w2.drew := hl 1
    obtain ⟨mo2, c62, _, hreq2⟩ := (hst.alloc (.cells #[.iface 9 (vs (bs wVal)), .iface 3 (vi m.id), .iface 9 (vs (bs m.text))] 20)).at.req m.id
    have n1 := World.new_ne w2 ⟨w.heap.size, 1, none⟩ m1
    have n2 := World.new_ne w2 ⟨w.heap.size, 4, none⟩ m4
    have n3 := World.new_ne w2 ⟨D, 6, none⟩ c6
    have n4 := World.new_ne w2 ⟨A, 0, none⟩ a0
    have hl2 : (Instr.lookup 70 (.map (some mo)) (vi m.id) false).run Tryz.prog (w2.alloc (.cells #[.iface 9 (vs ⟨#[118, 97, 108]⟩), .iface 3 (vi m.id), .iface 9 (vs (bs m.text))] 20)).drew = .ok (vp A) (w2.alloc (.cells #[.iface 9 (vs ⟨#[118, 97, 108]⟩), .iface 3 (vi m.id), .iface 9 (vs (bs m.text))] 20)).drew := by
      obtain ⟨ρk, Lk, g1, _⟩ := hst
      have e1 : Lk.mo = mo := by
        have := g1.disp.c6
        rw [c6] at this
        injection this with this; injection this with this; injection this with this; exact this.symm
      have e2 : Lk.req m.id = A := by
        have := look_req (g1.drewN 1).opn.2.1 m.id
        rw [aget_amap, Hs.out.2.2, e1] at this
        have h2 := hl 1
        rw [h2] at this
        injection this with this _; injection this with this; injection this with this; injection this with this
        exact this.symm
      have := look_req ((g1.alloc (.cells #[.iface 9 (vs (bs wVal)), .iface 3 (vi m.id), .iface 9 (vs (bs m.text))] 20)).drew).opn.2.1 m.id
      rw [aget_amap, Hs.out.2.2, e1] at this
      rw [← e2]; exact this
    have HLA : Hid (∀ ρk Lk, RRep ((w2.alloc (.cells #[.iface 9 (vs (bs wVal)), .iface 3 (vi m.id), .iface 9 (vs (bs m.text))] 20)).drewN 1) ρk G D Lk r → Lk.req m.id = A) := fun ρk Lk g1 => by
      have e1 : Lk.mo = mo := by
        have h5 := g1.disp.c6
        have h6 : ((w2.alloc (.cells #[.iface 9 (vs (bs wVal)), .iface 3 (vi m.id), .iface 9 (vs (bs m.text))] 20)).drewN 1).cell? ⟨D, 6, none⟩ = some (.map (some mo)) := by
          rw [← c6]
          obtain ⟨ρk, Lk, g1, _⟩ := hst
          exact World.cell?_of_block (a := ⟨D, 6, none⟩) (blk_alloc_lt w2 g1.size.2)
        rw [h6] at h5
        injection h5 with h5; injection h5 with h5; injection h5 with h5; exact h5.symm
      have h7 := look_req g1.opn.2.1 m.id
      rw [aget_amap, Hs.out.2.2, e1] at h7
      have h8 : (Instr.lookup 70 (.map (some mo)) (vi m.id) false).run Tryz.prog ((w2.alloc (.cells #[.iface 9 (vs (bs wVal)), .iface 3 (vi m.id), .iface 9 (vs (bs m.text))] 20)).drewN 1) = _ := hl2
      rw [h8] at h7
      injection h7 with h7 _; injection h7 with h7; injection h7 with h7; injection h7 with h7
      exact h7.symm
    have HSY : Hid (Calls Tryz.prog 43 #[vp D, vi q.conn, .slice (some ⟨w2.heap.size, 0, none⟩) 3 3] ((w2.alloc (.cells #[.iface 9 (vs (bs wVal)), .iface 3 (vi m.id), .iface 9 (vs (bs m.text))] 20)).drew) fun e w' => e = .returned (.tuple #[]) ∧ AtL (w.alloc (.cells #[vs (bs m.kind), vi m.id, vi m.att, vs (bs m.tenant), vs (bs m.text)] 97)) ρ G D L (rSay r q.conn [wVal, decI m.id, m.text]) w' ∧ w'.cell? ⟨D, 6, none⟩ = some (.map (some mo)) ∧ w'.cell? ⟨A, 0, none⟩ = some (vi q.conn) ∧ (Instr.lookup 70 (.map (some mo)) (vi m.id) false).run Tryz.prog w' = .ok (vp A) w') :=
      ((hst.alloc _).drewN 1).sayM HE.out HD.out q.conn [Wd.str wVal, Wd.num m.id, Wd.str m.text] (by
        have := Hm.out.id
        have h2 := Hm.out.text
        intro x hx
        simp only [List.mem_cons, List.not_mem_nil, or_false] at hx
        rcases hx with rfl | rfl | rfl
        · show _ ≤ _; decide
        · show _ ∧ _; omega
        · show m.text.length ≤ _; omega) (by simp) (by have := HI.out.n.pot; have := HP.out; unfold NB at this; omega) (B := w2.heap.size) (cap := 3) (by show w2.heap.size < (w2.alloc _).heap.size; simp) (by
          intro j x hx
          refine cell_of_blk (w := (w2.alloc _).drewN 1) (blk_alloc_new w2) ?_
          match j with
          | 0 => simp at hx; subst hx; rfl
          | 1 => simp at hx; subst hx; rfl
          | 2 => simp at hx; subst hx; rfl
          | j + 3 => simp at hx) Hs.out.2.2 (by
          rw [← c6]
          obtain ⟨ρk, Lk, g1, _⟩ := hst
          exact World.cell?_of_block (a := ⟨D, 6, none⟩) (blk_alloc_lt w2 g1.size.2)) HLA.out
    have a0b : (w2.alloc (.cells #[.iface 9 (vs (bs wVal)), .iface 3 (vi m.id), .iface 9 (vs (bs m.text))] 20)).cell? ⟨A, 0, none⟩ = some (vi q.conn) := cell_of_blk ((blk_alloc_lt w2 (blk_lt _ hA)).trans hA) rfl
    have c6b : (w2.alloc (.cells #[.iface 9 (vs (bs wVal)), .iface 3 (vi m.id), .iface 9 (vs (bs m.text))] 20)).cell? ⟨D, 6, none⟩ = some (.map (some mo)) := by
      rw [← c6]
      obtain ⟨ρk, Lk, g1, _⟩ := hst
      exact World.cell?_of_block (a := ⟨D, 6, none⟩) (blk_alloc_lt w2 g1.size.2)
    clear hst hreq hl hA hreq2 c62
    unfold attV
    go_wp2_with fail
    go_region_held3 (fun w' => w'.cell? ⟨w.heap.size, 1, none⟩ = some (vi m.id) ∧ w'.cell? ⟨w.heap.size, 4, none⟩ = some (vs (bs m.text)) ∧ w'.cell? ⟨D, 6, none⟩ = some (.map (some mo)) ∧ w'.cell? ⟨A, 0, none⟩ = some (vi q.conn) ∧ (Instr.lookup 70 (.map (some mo)) (vi m.id) false).run Tryz.prog w' = .ok (vp A) w') (go_keep) ((go_at_call 43; refine HSY.out.mono ?_; rintro e w3 ⟨rfl, hst, d6, a03, hlk3⟩; have HA3 := Lib.hid hst; have m13 : w3.cell? ⟨w.heap.size, 1, none⟩ = some (vi m.id) := cell_of_blk (hst.at.box HM.out.1 HM.out.2) rfl; have m43 : w3.cell? ⟨w.heap.size, 4, none⟩ = some (vs (bs m.text)) := cell_of_blk (hst.at.box HM.out.1 HM.out.2) rfl; clear hst))
    all_goals
      clear m1 m4 c6 a0 hl1 hl2 n1 n2 n3 n4 a0b c6b
      have HEN := Lib.hid (HA3.out.end HE.out HD.out (HI.out.say q.conn [wVal, decI m.id, m.text]) (show P + 1 ≤ NB by have := HP.out; omega) (show a ∈ r.atts from Hs.out.1))
      go_wp2_with fail
      refine HEN.out.mono ?_
      rintro e w4 ⟨rfl, hst, _⟩
      have m14 : w4.cell? ⟨w.heap.size, 1, none⟩ = some (vi m.id) := cell_of_blk (hst.at.box HM.out.1 HM.out.2) rfl
      have HSH := Lib.hid (hst.at.shut HE.out HD.out ((HI.out.say q.conn [wVal, decI m.id, m.text]).end (show a ∈ r.atts from Hs.out.1)) HN.out (show P + 1 - 2 < NB by have := HP.out; omega) m.id (q := q) (by rw [rEnd_reqs]; exact Hs.out.2.2))
      clear hst m13 m43
      go_wp2_with fail
      refine HSH.out.mono ?_
      rintro e w5 ⟨rfl, hst⟩
      have HA5 := Lib.hid (hst.from HT.out)
      clear hst
      go_wp2_with fail
      go_end0
      exact ⟨rfl, by rw [HR.out]; exact HA5.out⟩
end Go.Proofs.YtaejfobbogahmabGreatDoor
