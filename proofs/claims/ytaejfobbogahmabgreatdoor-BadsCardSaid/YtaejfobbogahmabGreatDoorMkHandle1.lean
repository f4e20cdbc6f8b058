/-
  The walk of Dispatcher's handle: sub and can.
-/
import Derived.Test.YtaejfobbogahmabGreatDoorMkServe
set_option linter.unusedVariables false
set_option linter.unusedSimpArgs false
namespace Go.Proofs.YtaejfobbogahmabGreatDoor
open Go Go.RowKit

/-- The raw state r lies in W; from w0 on only its own blocks and new ones have turned. -/
def At (w0 : World) (ρ : Nat → Role) (G D : Nat) (r : Raw) (W : World) : Prop := ∃ ρk Lk, RRep W ρk G D Lk r ∧ Step ρ ρk w0 W
section
variable {w0 W : World} {ρ : Nat → Role} {G D : Nat} {r : Raw}
theorem At.start {L : Lay} (h : RRep W ρ G D L r) : At W ρ G D r W := ⟨ρ, L, h, Step.refl _ _⟩
theorem At.alloc (h : At w0 ρ G D r W) (o : Obj) : At w0 ρ G D r (W.alloc o) := by
  obtain ⟨ρk, Lk, h1, h2⟩ := h
  exact ⟨ρk, Lk, h1.alloc o, h2.alloc o⟩
theorem At.drewN (h : At w0 ρ G D r W) (n : Nat) : At w0 ρ G D r (W.drewN n) := by
  obtain ⟨ρk, Lk, h1, h2⟩ := h
  exact ⟨ρk, Lk, h1.drewN n, h2.drewN n⟩
theorem At.box (h : At w0 ρ G D r W) {B : Nat} {o : Obj} (hB : w0.heap[B]? = some o) (ho : ¬ Of ρ B) : W.heap[B]? = some o := by
  obtain ⟨ρk, Lk, h1, h2⟩ := h
  exact (h2.fr.block _ (blk_lt _ hB) ho).trans hB
theorem At.env (h : At w0 ρ G D r W) (hE : Env G w0) (hd : ∀ b, Of ρ b → G ≤ b) : Env G W := by
  obtain ⟨ρk, Lk, h1, h2⟩ := h
  exact hE.fr h2.fr hd
theorem At.st {L : Lay} {ρ1 : Nat → Role} {r2 : Raw} {W2 : World} {ka kr kc : Bool} (h2 : Step ρ ρ1 w0 W) (hs : St ka kr kc W ρ1 G D L r2 W2) : At w0 ρ G D r2 W2 := by
  obtain ⟨ρ2, L2, g1, g2, _⟩ := hs
  exact ⟨ρ2, L2, g1, h2.trans g2⟩
theorem At.from {w : World} (h : At w0 ρ G D r W) (hs : Step ρ ρ w w0) : At w ρ G D r W := by
  obtain ⟨ρk, Lk, h1, h2⟩ := h
  exact ⟨ρk, Lk, h1, hs.trans h2⟩
theorem At.say (h : At w0 ρ G D r W) (hE : Env G w0) (hd : ∀ b, Of ρ b → G ≤ b) (c : Int) (wds : List Wd) (hok : ∀ x ∈ wds, x.ok) (hn : wds.length ≤ 16) (hout : r.out.length ≤ 1099511627776)
    {B cap : Nat} (hB : B < W.heap.size) (hcells : ∀ (j : Nat) x, wds[j]? = some x → W.cell? ⟨B, j, none⟩ = some x.val) :
    Calls Tryz.prog 43 #[vp D, vi c, .slice (some ⟨B, 0, none⟩) wds.length cap] W fun e w' => e = .returned (.tuple #[]) ∧ At w0 ρ G D (rSay r c (wds.map Wd.bytes)) w' := by
  have hEr := h.env hE hd
  obtain ⟨ρk, Lk, h1, h2⟩ := h
  refine (say_calls h1 hEr c wds hok hn hout hB hcells).mono ?_
  rintro e w' ⟨rfl, hst⟩
  exact ⟨rfl, At.st h2 hst⟩
theorem At.shut (h : At w0 ρ G D r W) (hE : Env G w0) (hd : ∀ b, Of ρ b → G ≤ b) {N P : Nat} (hI : Inv N P r) (hN : N ≤ NB) (hP : P < NB) (id : Int) {q : Req} (hq : aget r.reqs id = some q) :
    Calls Tryz.prog 67 #[vp D, vi id] W fun e w' => e = .returned (.tuple #[]) ∧ At w0 ρ G D (rShut r id) w' := by
  have hEr := h.env hE hd
  obtain ⟨ρk, Lk, h1, h2⟩ := h
  refine (shut_calls h1 hEr hI hN hP id hq).mono ?_
  rintro e w' ⟨rfl, hst⟩
  exact ⟨rfl, At.st h2 hst⟩
theorem At.again (h : At w0 ρ G D r W) (hE : Env G w0) (hd : ∀ b, Of ρ b → G ≤ b) {N P : Nat} (hI : Inv N P r) (hN : N ≤ NB) (hP : P + 1 < NB) (id : Int) {q : Req} (hq : aget r.reqs id = some q) (b : Bool) :
    Calls Tryz.prog 50 #[vp D, vi id, .bool b] W fun e w' => e = .returned (.tuple #[]) ∧ At w0 ρ G D (rAgain r id b) w' := by
  have hEr := h.env hE hd
  obtain ⟨ρk, Lk, h1, h2⟩ := h
  refine (again_calls h1 hEr hI hN hP id hq b).mono ?_
  rintro e w' ⟨rfl, hst⟩
  exact ⟨rfl, At.st h2 hst⟩
theorem At.req (h : At w0 ρ G D r W) (id : Int) :
    ∃ mo, W.cell? ⟨D, 6, none⟩ = some (.map (some mo)) ∧ (aget r.reqs id = none → ∀ n, (Instr.lookup 70 (.map (some mo)) (vi id) false).run Tryz.prog (W.drewN n) = .ok (.pointer none) (W.drewN n)) ∧
      ∀ q, aget r.reqs id = some q → ∃ A, (∀ n, (Instr.lookup 70 (.map (some mo)) (vi id) false).run Tryz.prog (W.drewN n) = .ok (vp A) (W.drewN n)) ∧ W.heap[A]? = some (.cells (reqCells q) 117 (0, 0)) := by
  obtain ⟨ρk, Lk, h1, h2⟩ := h
  refine ⟨Lk.mo, h1.disp.c6, fun hq n => ?_, fun q hq => ⟨Lk.req id, fun n => ?_, h1.req_blk hq⟩⟩
  · have hl := look_req (h1.drewN n).opn.2.1 id
    rw [aget_amap, hq] at hl; exact hl
  · have hl := look_req (h1.drewN n).opn.2.1 id
    rw [aget_amap, hq] at hl; exact hl
end

/-- What handle leaves. -/
def HdPost (w : World) (ρ : Nat → Role) (G D : Nat) (r' : Raw) (e : Ending) (w' : World) : Prop := e = .returned (.tuple #[]) ∧ At w ρ G D r' w'

theorem rHandle_sub {r : Raw} {c : Int} {m : Msg} (hk : m.kind = kSub) : rHandle r c m = rSubmit r c m := by unfold rHandle; rw [hk]; rfl

set_option maxRecDepth 100000 in
set_option maxHeartbeats 1000000 in
theorem handle_sub {w : World} {ρ : Nat → Role} {G D : Nat} {L : Lay} {r : Raw} (h : RRep w ρ G D L r) (hE : Env G w) {N P : Nat} (hI : Inv N P r) (hN : N + 1 ≤ NB) (hP : P + 1 < NB) (c : Int) {m : Msg} (hm : MsgOk m) (hk : m.kind = kSub) :
    Calls Tryz.prog 41 #[vp D, vi c, .agg (msgCells m)] w (HdPost w ρ G D (rHandle r c m)) := by
  have HR := Lib.hid (rHandle_sub (r := r) (c := c) hk)
  have ht : (bs m.kind).toList = [115, 117, 98] := by rw [hk]; exact bs_toList _
  have HS0 := submit_calls (h.alloc (.cells (msgCells m) 97)) (hE.alloc _) hI hN hP c hm
  have HT : Hid (Step ρ ρ w (w.alloc (.cells (msgCells m) 97))) := (Step.refl ρ w).alloc _
  unfold msgCells at HS0 HT ⊢
  have HS := Lib.hid HS0
  clear HS0 h hE hI hN hP hm hk
  go_enter Tryz.func41, Tryz.ntmps41
  go_wp2_with fail
  refine HS.out.mono ?_
  rintro e w2 ⟨rfl, hst⟩
  have HA := Lib.hid (At.st HT.out hst)
  clear hst
  go_wp2_with fail
  go_end0
  exact ⟨rfl, by rw [HR.out]; exact HA.out⟩

theorem rHandle_can {r : Raw} {c : Int} {m : Msg} (hk : m.kind = kCan) : rHandle r c m = match aget r.reqs m.id with
    | some q => if q.conn = c then rShut (rSay r c [wGone, decI m.id]) m.id else rSay r c [wNone, decI m.id]
    | none => rSay r c [wNone, decI m.id] := by unfold rHandle; rw [hk]; rfl

set_option maxRecDepth 100000 in
set_option maxHeartbeats 2000000 in
theorem handle_can {w : World} {ρ : Nat → Role} {G D : Nat} {L : Lay} {r : Raw} (h : RRep w ρ G D L r) (hE : Env G w) {N P : Nat} (hI : Inv N P r) (hN : N ≤ NB) (hP : P + 1 < NB) (c : Int) {m : Msg} (hm : MsgOk m) (hk : m.kind = kCan) :
    Calls Tryz.prog 41 #[vp D, vi c, .agg (msgCells m)] w (HdPost w ρ G D (rHandle r c m)) := by
  have HR := Lib.hid (rHandle_can (r := r) (c := c) hk)
  have ht : (bs m.kind).toList = [99, 97, 110] := by rw [hk]; exact bs_toList _
  have HA0 := Lib.hid (At.start (h.alloc (.cells (msgCells m) 97)))
  have HE := Lib.hid (hE.alloc (.cells (msgCells m) 97))
  have HD := Lib.hid (fun b (hb : Of ρ b) => (h.dom b hb).1)
  have HM := Lib.hid (show (w.alloc (.cells (msgCells m) 97)).heap[w.heap.size]? = some (.cells (msgCells m) 97 (0, 0)) ∧ ¬ Of ρ w.heap.size from ⟨blk_alloc_new w, fun ho => by have := (h.dom _ ho).2; omega⟩)
  have HT : Hid (Step ρ ρ w (w.alloc (.cells (msgCells m) 97))) := (Step.refl ρ w).alloc _
  have hDw := h.size.2
  have c6 := h.disp.c6
  have Hid1 := Lib.hid hm.id
  have HI := Lib.hid hI
  have HN := Lib.hid hN
  have HP := Lib.hid hP
  have hout : Hid (r.out.length ≤ 1099511627776) := show _ ≤ _ by have := hI.n.pot; unfold NB at hP; omega
  have hwd : Hid (∀ (s : Bytes), s.length ≤ 1000000000 → ∀ x ∈ [Wd.str s, Wd.num m.id], x.ok) := fun s hs x hx => by
    have := Hid1.out
    simp only [List.mem_cons, List.not_mem_nil, or_false] at hx
    rcases hx with rfl | rfl
    · exact hs
    · show _ ∧ _; omega
  have hl : ∀ n, (Instr.lookup 70 (.map (some L.mo)) (vi m.id) false).run Tryz.prog ((w.alloc (.cells (msgCells m) 97)).drewN n) = .ok ((aget (amap (fun id _ => vp (L.req id)) r.reqs) m.id).getD (.pointer none)) ((w.alloc (.cells (msgCells m) 97)).drewN n) := fun n =>
    look_req ((h.alloc (.cells (msgCells m) 97)).drewN n).opn.2.1 m.id
  rw [aget_amap] at hl
  have HSAY : Hid (∀ (s : Bytes) (n : Nat), s.length ≤ 1000000000 → Calls Tryz.prog 43 #[vp D, vi c, .slice (some ⟨w.heap.size + 1, 0, none⟩) 2 2] (((w.alloc (.cells (msgCells m) 97)).alloc (.cells #[.iface 9 (vs (bs s)), .iface 3 (vi m.id)] 20)).drewN n) fun e w' => e = .returned (.tuple #[]) ∧ At (w.alloc (.cells (msgCells m) 97)) ρ G D (rSay r c [s, decI m.id]) w') := fun s n hs => by
    refine ((HA0.out.alloc _).drewN n).say HE.out HD.out c [Wd.str s, Wd.num m.id] (hwd.out s hs) (by simp) hout.out (B := w.heap.size + 1) (cap := 2) (by show w.heap.size + 1 < ((w.alloc _).alloc _).heap.size; simp) ?_
    intro j x hx
    have hb : (((w.alloc (.cells (msgCells m) 97)).alloc (.cells #[.iface 9 (vs (bs s)), .iface 3 (vi m.id)] 20)).drewN n).heap[w.heap.size + 1]? = some (.cells #[.iface 9 (vs (bs s)), .iface 3 (vi m.id)] 20 (0, 0)) := by
      have := blk_alloc_new (w.alloc (.cells (msgCells m) 97)) (o := .cells #[.iface 9 (vs (bs s)), .iface 3 (vi m.id)] 20)
      simpa using this
    refine cell_of_blk hb ?_
    match j with
    | 0 => simp at hx; subst hx; rfl
    | 1 => simp at hx; subst hx; rfl
    | j + 2 => simp at hx
  have HMC := Lib.hid (show msgCells m = #[vs (bs m.kind), vi m.id, vi m.att, vs (bs m.tenant), vs (bs m.text)] from rfl)
  rw [HMC.out] at hl HSAY HA0 HE HM HT ⊢
  have hreq := Lib.hid (fun q (hq : aget r.reqs m.id = some q) => h.req_blk hq)
  clear hI hN hP hm hE hk
  cases hq : aget r.reqs m.id with
  | none =>
    rw [hq] at hl HR
    simp only [Option.map_none, Option.getD_none] at hl
    clear h hq
    go_enter Tryz.func41, Tryz.ntmps41
    go_wp2_with fail
    go_quiet (fail)
    go_wp2_with fail
    refine (HSAY.out wNone _ (by decide)).mono ?_
    rintro e w2 ⟨rfl, hst⟩
    have HA := Lib.hid (hst.from HT.out)
    clear hst
    go_wp2_with fail
    go_end0
    exact ⟨rfl, by rw [HR.out]; exact HA.out⟩
  | some q =>
    rw [hq] at hl HR
    simp only [Option.map_some, Option.getD_some] at hl
    have hb := hreq.out q hq
    have e0 : w.cell? ⟨L.req m.id, 0, none⟩ = some (vi q.conn) := cell_of_blk hb rfl
    have hRw := blk_lt _ hb
    have Hq := Lib.hid hq
    clear h hq hb hreq
    by_cases hc : q.conn = c
    · have hb1 : (q.conn == c) = true := beq_iff_eq.2 hc
      have hb2 : (q.conn != c) = false := by rw [hc]; simp
      have HR2 : Hid (rHandle r c m = rShut (rSay r c [wGone, decI m.id]) m.id) := show _ = _ by rw [HR.out]; exact if_pos hc
      clear hc
      go_enter Tryz.func41, Tryz.ntmps41
      go_wp2_with fail
      go_quiet (fail)
      go_wp2_with fail
      refine (HSAY.out wGone _ (by decide)).mono ?_
      rintro e w2 ⟨rfl, hst⟩
      have HA := Lib.hid hst
      have m1 : w2.cell? ⟨w.heap.size, 1, none⟩ = some (vi m.id) := cell_of_blk (hst.box HM.out.1 HM.out.2) rfl
      have HSH := Lib.hid (hst.shut HE.out HD.out (HI.out.say c [wGone, decI m.id]) HN.out (show P + 1 < NB from HP.out) m.id (q := q) Hq.out)
      clear hst
      go_wp2_with fail
      refine HSH.out.mono ?_
      rintro e w3 ⟨rfl, hst⟩
      have HA3 := Lib.hid (hst.from HT.out)
      clear hst
      go_wp2_with fail
      go_end0
      exact ⟨rfl, by rw [HR2.out]; exact HA3.out⟩
    · have hb1 : (q.conn == c) = false := beq_eq_false_iff_ne.2 hc
      have hb2 : (q.conn != c) = true := by rw [bne_iff_ne]; exact hc
      have HR2 : Hid (rHandle r c m = rSay r c [wNone, decI m.id]) := show _ = _ by rw [HR.out]; exact if_neg hc
      clear hc
      go_enter Tryz.func41, Tryz.ntmps41
      go_wp2_with fail
      go_quiet (fail)
      go_wp2_with fail
      refine (HSAY.out wNone _ (by decide)).mono ?_
      rintro e w2 ⟨rfl, hst⟩
      have HA := Lib.hid (hst.from HT.out)
      clear hst
      go_wp2_with fail
      go_end0
      exact ⟨rfl, by rw [HR2.out]; exact HA.out⟩
end Go.Proofs.YtaejfobbogahmabGreatDoor
