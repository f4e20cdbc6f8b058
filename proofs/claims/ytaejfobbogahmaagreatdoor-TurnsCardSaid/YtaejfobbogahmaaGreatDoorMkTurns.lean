/-
  The walk of Turns.
-/
import Derived.Test.YtaejfobbogahmaaGreatDoorMkStepK
import Derived.Test.YtaejfobbogahmaaGreatDoorMkEvalT
import Derived.Deep.CutRange
import Derived.Deep.RegionLaw
set_option linter.unusedVariables false
set_option linter.unusedSimpArgs false
namespace Go.Proofs.YtaejfobbogahmaaGreatDoor
open Go Go.RowKit

/-! ### The script -/
def tR (ts es k : Nat) : Script := (List.range' k (es - k)).flatMap fun k => (List.range' 0 ts).flatMap fun t => turnRound t k
theorem turns_eq (ts es : Nat) : turnScript ts es = (List.range' 0 ts).flatMap (fun t => (List.range' 0 es).map fun k => turnSub t k) ++ (tR ts es 0 ++ [(.say 2 [112, 117, 108, 108], [])]) := by
  unfold turnScript tR
  simp only [List.range_eq_range', Nat.sub_zero]
  rfl
theorem flat_cons {α : Type} {k n : Nat} (h : k < n) (f : Nat → List α) : (List.range' k (n - k)).flatMap f = f k ++ (List.range' (k + 1) (n - (k + 1))).flatMap f := by
  rw [show n - k = (n - (k + 1)) + 1 from by omega, List.range'_succ]; rfl
theorem flat_end {α : Type} (n : Nat) (f : Nat → List α) : (List.range' n (n - n)).flatMap f = [] := by rw [Nat.sub_self]; rfl
theorem map_consT {k n : Nat} (h : k < n) (f : Nat → E1) (r : Script) : (List.range' k (n - k)).map f ++ r = f k :: ((List.range' (k + 1) (n - (k + 1))).map f ++ r) := by
  rw [show n - k = (n - (k + 1)) + 1 from by omega, List.range'_succ]; rfl
theorem map_endT (n : Nat) (f : Nat → E1) (r : Script) : (List.range' n (n - n)).map f ++ r = r := by rw [Nat.sub_self]; rfl

theorem turnSub_short (t k : Nat) : evLen (turnSub t k).1 ≤ 100 := by
  have h := decF_len20 20 (10 * t + k)
  show (sp [kSub, dc (10 * t + k), letA t, 112 :: dc (10 * t + k)]).length + 10 ≤ 100
  simp [sp, words, kSub, letA, dc, dec]; omega
theorem turnRound_short (t k : Nat) : ∀ e ∈ turnRound t k, evLen e.1 ≤ 100 := by
  have h := decF_len20 20 (10 * t + k)
  have h1 : evLen (turnPull t k).1 ≤ 100 := by show kPull.length + 10 ≤ 100; decide
  have h2 : evLen (turnDone t k).1 ≤ 100 := by
    show (sp [kDone, dc (10 * t + k), o1, 118 :: dc (10 * t + k)]).length + 10 ≤ 100
    simp [sp, words, kDone, o1, dc, dec]; omega
  intro e he
  unfold turnRound at he
  split at he
  · simp only [List.mem_cons, List.not_mem_nil, or_false] at he
    rcases he with rfl | rfl
    · exact h1
    · exact h2
  · simp only [List.mem_cons, List.not_mem_nil, or_false] at he
    subst he; exact h1
theorem turns_good {t e : Nat} (ht : t < 5) (he : e < 5) : Good cfgTurns (turnScript (t + 1) (e + 1)) := by
  have hok := turns_ok t e ht he
  unfold turnsOk at hok
  simp only [Bool.and_eq_true] at hok
  refine ⟨by decide, ?_, hok.1.1.1, ?_⟩
  · intro x hx
    unfold turnScript at hx
    simp only [List.mem_append, List.mem_flatMap, List.mem_map, List.mem_cons, List.not_mem_nil, or_false] at hx
    rcases hx with ⟨a, _, b, _, rfl⟩ | ⟨a, _, b, _, h⟩ | rfl
    · exact turnSub_short _ _
    · exact turnRound_short _ _ x h
    · show kPull.length + 10 ≤ 100; decide
  · have : ∀ t < 5, ∀ e < 5, (turnScript (t + 1) (e + 1)).length ≤ 100000 := by decide +kernel
    exact this t ht e he
theorem sum_const (c : Nat) : ∀ l : List Nat, (l.map fun _ => c).sum = l.length * c
  | [] => by simp
  | x :: l => by rw [List.map_cons, List.sum_cons, sum_const c l, List.length_cons, Nat.add_mul]; omega
theorem turns_look1 {t e : Nat} (ht : t < 5) (he : e < 5) : lookOf (stRest cfgTurns (turnScript (t + 1) (e + 1)) (tR (t + 1) (e + 1) 0 ++ [(.say 2 [112, 117, 108, 108], [])])) = (0, (t + 1) * (e + 1), 0, 0) := by
  have hok := turns_ok t e ht he
  unfold turnsOk at hok
  simp only [Bool.and_eq_true, decide_eq_true_eq] at hok
  have hlen : (turnScript (t + 1) (e + 1)).length - (tR (t + 1) (e + 1) 0 ++ [((.say 2 [112, 117, 108, 108], []) : E1)]).length = (t + 1) * (e + 1) := by
    rw [turns_eq, List.length_append, Nat.add_sub_cancel, List.length_flatMap]
    simp only [List.length_map, List.length_range']
    rw [sum_const, List.length_range']
  unfold stRest
  rw [hlen]
  exact hok.1.1.2
theorem turns_look2 {t e : Nat} (ht : t < 5) (he : e < 5) : ∃ a b, lookOf (stRest cfgTurns (turnScript (t + 1) (e + 1)) []) = (a, 0, b, 1) := by
  have hok := turns_ok t e ht he
  unfold turnsOk at hok
  simp only [Bool.and_eq_true, decide_eq_true_eq] at hok
  obtain ⟨r, hr⟩ : ∃ r, r = stRest cfgTurns (turnScript (t + 1) (e + 1)) [] := ⟨_, rfl⟩
  have h1 : r.waiting.length = 1 := by rw [hr]; exact hok.1.2
  have h2 : sumLens r.queues = 0 := by rw [hr]; exact hok.2
  rw [← hr]
  exact ⟨r.now, r.atts.length, by unfold lookOf; rw [h1, h2]⟩

/-! ### Words joined -/
theorem bs_lit (a b : Bytes) : bs a ++ bs b = bs (a ++ b) := bs_append a b
structure Cat3 (A B : Bytes) (sid d1 d2 d3 : ByteArray) (r : Bytes) : Prop where
  e1 : bs A ++ sid = d1
  e2 : d1 ++ bs B = d2
  e3 : d2 ++ sid = d3
  eq : d3 = bs r
  n1 : ¬ 9223372036854775807 < A.length + sid.size
  n2 : ¬ 9223372036854775807 < d1.size + B.length
  n3 : ¬ 9223372036854775807 < d2.size + sid.size
theorem cat3 (A B F : Bytes) (r : Bytes) (hr : A ++ F ++ B ++ F = r) (hA : A.length ≤ 100) (hB : B.length ≤ 100) (hF : F.length ≤ 100) : ∃ d1 d2 d3, Cat3 A B (bs F) d1 d2 d3 r := by
  refine ⟨bs (A ++ F), bs (A ++ F ++ B), bs (A ++ F ++ B ++ F), bs_append _ _, bs_append _ _, bs_append _ _, by rw [hr], ?_, ?_, ?_⟩
  · rw [bs_size]; omega
  · rw [bs_size, List.length_append]; omega
  · rw [bs_size, bs_size, List.length_append, List.length_append]; omega
/-! ### A region that draws its order: blocks that are new -/
section
variable {G D Wb : Nat} {w0 w w' : World} {cfg : Cfg} {l rest : Script}
/-- From a world that has grown since: what is new stays. -/
theorem say_from {w1 : World} (hG : G ≤ w0.heap.size) (hg : Good cfg l) {c : Int} {s : Bytes} {x : List (Int × Bytes)} {n : Nat} (hn : x.length = n) (h : RAt G w0 D Wb cfg l ((.say c s, x) :: rest) w) (hb : Below w.heap.size w w1) :
    Calls Tryz.prog 22 #[vp Wb, vi c, vs (bs s)] w1 fun e w' => ∃ va vc, e = .returned (.slice va n vc) ∧ RAt G w0 D Wb cfg l rest w' ∧ OutsAt w' (.slice va n vc) x ∧ ∀ b o, w.heap.size ≤ b → w1.heap[b]? = some o → w'.heap[b]? = some o := by
  refine (say_k hG hg hn (h.toK.add hb)).mono ?_
  rintro e w2 ⟨va, vc, rfl, k, o, kk⟩
  exact ⟨va, vc, rfl, k.toR, o, fun b o hb1 hb2 => (kk b (.inr ⟨hb1, blk_lt _ hb2⟩)).trans hb2⟩
end
theorem below_drewR {B : Nat} {w w' : World} (h : Below B w w') : Below B w w'.drew := ⟨h.os, h.tape, h.output, h.size, h.block⟩
theorem blk_drew {w : World} {b : Nat} {o : Obj} (h : w.heap[b]? = some o) : w.drew.heap[b]? = some o := h
theorem blk0 (N : World) (o : Obj) : (N.alloc o).heap[N.heap.size]? = some o := blk_alloc_new N
theorem blk1 (N : World) (o p : Obj) : ((N.alloc o).alloc p).heap[N.heap.size + 1]? = some p := by
  have := blk_alloc_new (N.alloc o) (o := p); rw [World.size_alloc] at this; exact this
theorem blk2 (N : World) (o p q : Obj) : (((N.alloc o).alloc p).alloc q).heap[N.heap.size + 1 + 1]? = some q := by
  have := blk_alloc_new ((N.alloc o).alloc p) (o := q); rw [World.size_alloc, World.size_alloc] at this; exact this
/-- A letter of a number: the slice of one byte as a string. -/
theorem conv_at {w : World} {B : Nat} {x : UInt8} (h : w.heap[B]? = some (.cells #[.int .u8 x.toNat] 5 (0, 0))) : (convert 50 9 (.slice (some ⟨B, 0, none⟩) 1 1)).run Tryz.prog w = .ok (vs (bs [x])) w := by
  refine run_convert_bytes_back w _ _ 5 ⟨B, 0, none⟩ 1 [x] Tryz.underlying50 Tryz.underlying5 Tryz.underlying9 (fun j hj => ?_)
  have : j = 0 := by simp at hj; omega
  subst this
  rw [Addr.add_lit]
  exact cell_of_blk h rfl
structure Cat4 (A B E : Bytes) (lt : UInt8) (sid d1 d2 d3 d4 d5 : ByteArray) (r : Bytes) : Prop where
  e1 : bs A ++ sid = d1
  e2 : d1 ++ bs B = d2
  e3 : d2 ++ bs [lt] = d3
  e4 : d3 ++ bs E = d4
  e5 : d4 ++ sid = d5
  eq : d5 = bs r
  n1 : ¬ 9223372036854775807 < A.length + sid.size
  n2 : ¬ 9223372036854775807 < d1.size + B.length
  n3 : ¬ 9223372036854775807 < d2.size + 1
  n4 : ¬ 9223372036854775807 < d3.size + E.length
  n5 : ¬ 9223372036854775807 < d4.size + sid.size
theorem cat4 (A B E F : Bytes) (lt : UInt8) (r : Bytes) (hr : A ++ F ++ B ++ [lt] ++ E ++ F = r) (hA : A.length ≤ 100) (hB : B.length ≤ 100) (hE : E.length ≤ 100) (hF : F.length ≤ 100) : ∃ d1 d2 d3 d4 d5, Cat4 A B E lt (bs F) d1 d2 d3 d4 d5 r := by
  refine ⟨bs (A ++ F), bs (A ++ F ++ B), bs (A ++ F ++ B ++ [lt]), bs (A ++ F ++ B ++ [lt] ++ E), bs (A ++ F ++ B ++ [lt] ++ E ++ F), bs_append _ _, bs_append _ _, bs_append _ _, bs_append _ _, bs_append _ _, by rw [hr], ?_, ?_, ?_, ?_, ?_⟩ <;>
    (simp only [bs_size, List.length_append, List.length_cons, List.length_nil]; omega)
theorem round_eq (t k : Nat) : turnRound t k = turnPull t k :: if (k + t) % 2 = 0 then [turnDone t k] else [] := by
  unfold turnRound; split <;> rfl

set_option maxRecDepth 100000 in
set_option maxHeartbeats 40000000 in
theorem Turns_walk {G : Nat} {w : World} (hE : Env G w) (hG : G ≤ w.heap.size) (a b : Int) (ha : -9223372036854775808 ≤ a ∧ a ≤ 9223372036854775807) (hb : -9223372036854775808 ≤ b ∧ b ≤ 9223372036854775807) :
    Calls Tryz.prog 4 #[vi a, vi b] w fun e w' => e = .returned (.bool true) ∧ Below w.heap.size w w' := by
  obtain ⟨p, hp, hpa⟩ := pick_fix a 5 ha (by omega) (by omega)
  obtain ⟨q, hq, hpb⟩ := pick_fix b 5 hb (by omega) (by omega)
  have HPA := Lib.hid hpa
  have HPB := Lib.hid hpb
  have HG := Lib.hid hG
  have hgd := turns_good hp hq
  have hl1 := turns_look1 hp hq
  have hl2 := turns_look2 hp hq
  obtain ⟨ts, hts⟩ : ∃ ts : Nat, ts = p + 1 := ⟨_, rfl⟩
  obtain ⟨es, hes⟩ : ∃ es : Nat, es = q + 1 := ⟨_, rfl⟩
  rw [← hts, ← hes] at hgd hl1 hl2
  obtain ⟨m, hm⟩ : ∃ m : Nat, m = ts * es := ⟨_, rfl⟩
  rw [← hm] at hl1
  have hm25 : m ≤ 25 := by
    rw [hm, hts, hes]
    exact Nat.mul_le_mul (show p + 1 ≤ 5 by omega) (show q + 1 ≤ 5 by omega)
  have HMU := Lib.hid (show IntKind.i64.wrap ((ts : Int) * (es : Int)) = (m : Int) by
    rw [show (ts : Int) * (es : Int) = (m : Int) by rw [hm]; push_cast; rfl]
    exact IntWalk.i64_in _ (by omega))
  clear hm hm25
  have HGD := Lib.hid hgd
  have HL1 := Lib.hid hl1
  have HL2 := Lib.hid hl2
  have HEQ := Lib.hid (turns_eq ts es)
  have HTE := Lib.hid (show (1 : Int) + (p : Int) = (ts : Int) ∧ (1 : Int) + (q : Int) = (es : Int) by omega)
  have HBG := Lib.hid (begin_at hE hG hgd)
  have ht1 : 1 ≤ ts := by omega
  have ht2 : ts ≤ 5 := by omega
  have he1 : 1 ≤ es := by omega
  have he2 : es ≤ 5 := by omega
  clear hE hG ha hb hpa hpb hgd hl1 hl2 hts hes
  go_enter Tryz.func4, Tryz.ntmps4
  go_wp2_with fail
  refine (HPA.out _).mono ?_
  rintro e w1 ⟨rfl, rfl⟩
  go_wp2_with fail
  refine (HPB.out _).mono ?_
  rintro e w1 ⟨rfl, rfl⟩
  go_wp2_with fail
  simp only [HTE.out.1, HTE.out.2]
  refine HBG.out.mono ?_
  rintro e w1 ⟨D, Wb, rfl, hk⟩
  obtain ⟨S, hS⟩ : ∃ S, S = turnScript ts es := ⟨_, rfl⟩
  rw [← hS] at hk HL1 HL2 HGD HEQ
  have HK1 := Lib.hid (hk.cast HEQ.out)
  clear hk hS HEQ HBG HPA HPB HTE hp hq
  obtain ⟨R2, hR2⟩ : ∃ R2, R2 = tR ts es 0 ++ [((.say 2 [112, 117, 108, 108], []) : E1)] := ⟨_, rfl⟩
  rw [← hR2] at HK1 HL1
  have HR2 := Lib.hid hR2
  clear hR2
  go_wp2_with fail
  go_loopw [7, 8, 9, 27] (fun _ _ _ s27 wr => ∃ t : Nat, s27 = .int .i64 t ∧ t ≤ ts ∧ Hid (RAt G w D Wb cfgTurns S ((List.range' t (ts - t)).flatMap (fun t => (List.range' 0 es).map fun k => turnSub t k) ++ R2) wr)) (fun _ _ _ s27 _ => ts - (intOf s27).toNat)
  case atStart => exact ⟨0, by go_num, Nat.zero_le _, HK1.out⟩
  case round =>
    obtain ⟨t, rfl, ht, HK⟩ := hrel
    by_cases htl : t < ts
    · have hlt : decide ((t : Int) < (ts : Int)) = true := decide_eq_true (by omega)
      have HKT : Hid (RAt G w D Wb cfgTurns S ((List.range' 0 (es - 0)).map (fun k => turnSub t k) ++ ((List.range' (t + 1) (ts - (t + 1))).flatMap (fun t => (List.range' 0 es).map fun k => turnSub t k) ++ R2)) wr) := HK.out.cast (by rw [flat_cons htl, List.append_assoc, Nat.sub_zero])
      obtain ⟨R1, hR1⟩ : ∃ R1, R1 = (List.range' (t + 1) (ts - (t + 1))).flatMap (fun t => (List.range' 0 es).map fun k => turnSub t k) ++ R2 := ⟨_, rfl⟩
      rw [← hR1] at HKT
      have HR1 := Lib.hid hR1
      clear HK hR1
      go_wp2_with fail
      go_loopw [8, 9, 31] (fun _ _ s31 wr => ∃ k : Nat, s31 = .int .i64 k ∧ k ≤ es ∧ Hid (RAt G w D Wb cfgTurns S ((List.range' k (es - k)).map (fun k => turnSub t k) ++ R1) wr)) (fun _ _ s31 _ => es - (intOf s31).toNat)
      case atStart => exact ⟨0, by go_num, Nat.zero_le _, HKT.out⟩
      case round =>
        obtain ⟨k, rfl, hk, HK⟩ := hrel
        by_cases hkl : k < es
        · have hlt2 : decide ((k : Int) < (es : Int)) = true := decide_eq_true (by omega)
          have HKK := Lib.hid (HK.out.cast (map_consT hkl _ _))
          obtain ⟨id, hid⟩ : ∃ id : Nat, id = 10 * t + k := ⟨_, rfl⟩
          have HID := Lib.hid (show (10 : Int) * (t : Int) + (k : Int) = (id : Int) by omega)
          have HIE := Lib.hid hid
          have hid50 : id < 100 := by omega
          clear HK hid
          go_upto_region 13 with (fail)
          go_cut [60] from 38 to 60 (fun s60 wx => s60 = .bool false ∧ Hid (RAt G w D Wb cfgTurns S ((List.range' (k + 1) (es - (k + 1))).map (fun k => turnSub t k) ++ R1) wx))
          case first =>
            -- region 13
            have hF := decF_len20 20 id
            obtain ⟨lt, hlt⟩ : ∃ lt, lt = UInt8.ofNat (97 + t) := ⟨_, rfl⟩
            obtain ⟨g1, g2, g3, g4, g5, hc⟩ := cat4 [115, 117, 98, 32] [32] [32, 112] (dec id) lt (sp [kSub, dc (10 * t + k), letA t, 112 :: dc (10 * t + k)]) (by rw [HIE.out, hlt]; simp [sp, words, kSub, letA, dc]) (by simp) (by simp) (by simp) (by unfold dec; omega)
            have hfi : ∀ w : World, Calls Tryz.prog 23 #[.int .i64 (10 * (t : Int) + (k : Int))] w fun e w' => e = .returned (vs (bs (dec id))) ∧ Below w.heap.size w w' := fun w => by
              rw [HID.out]
              exact figures_calls id (by omega) w
            obtain ⟨sid, hsid⟩ : ∃ sid, bs (dec id) = sid := ⟨_, rfl⟩
            have hsz : sid.size ≤ 21 := by rw [← hsid, bs_size]; unfold dec; exact hF
            obtain ⟨a1, ha1⟩ : ∃ a1, (⟨#[97, 99, 99, 32]⟩ : ByteArray) ++ sid = a1 := ⟨_, rfl⟩
            have HA1 : Hid (a1 = bs (sp [wAcc, dc (10 * t + k)])) := show _ = _ by
              rw [← ha1, ← hsid]
              exact (bs_append [97, 99, 99, 32] (dec id)).trans (by rw [HIE.out]; simp [sp, words, wAcc, dc])
            have na1 : ¬ 9223372036854775807 < 4 + sid.size := by omega
            rw [hsid] at hc hfi
            have HFI := Lib.hid hfi
            have HC := Lib.hid hc
            obtain ⟨q1, q2, q3, q4, q5, -, n1, n2, n3, n4, n5⟩ := hc
            have q1 : (⟨#[115, 117, 98, 32]⟩ : ByteArray) ++ sid = g1 := q1
            have q2 : g1 ++ (⟨#[32]⟩ : ByteArray) = g2 := q2
            have q4 : g3 ++ (⟨#[32, 112]⟩ : ByteArray) = g4 := q4
            simp only [List.length_cons, List.length_nil, Nat.zero_add, Nat.reduceAdd] at n1 n2 n4
            have hzl : (bs [lt]).size = 1 := rfl
            have hs97 : IntKind.i64.wrap (97 + (t : Int)) = 97 + (t : Int) := IntWalk.i64_in _ (by omega)
            have hu8 : ∀ n : Int, IntKind.u8.wrap n = n % 256 := fun n => rfl
            have hs8 : IntKind.u8.wrap (97 + (t : Int)) = 97 + (t : Int) := by rw [hu8]; omega
            have hxn : (lt.toNat : Int) = 97 + (t : Int) := by rw [hlt]; simp; omega
            have HCV : Hid (∀ (w : World) (B : Nat), w.heap[B]? = some (.cells #[.int .u8 (97 + (t : Int))] 5 (0, 0)) → (convert 50 9 (.slice (some ⟨B, 0, none⟩) 1 1)).run Tryz.prog w = .ok (vs (bs [lt])) w) := fun w B h => conv_at (by rw [hxn]; exact h)
            have HSAY : Hid (∀ w1 : World, Below wr.heap.size wr w1 → Calls Tryz.prog 22 #[vp Wb, .int .i64 1, .string g5] w1 fun e w' => ∃ va vc, e = .returned (.slice va 1 vc) ∧ RAt G w D Wb cfgTurns S ((List.range' (k + 1) (es - (k + 1))).map (fun k => turnSub t k) ++ R1) w' ∧ OutsAt w' (.slice va 1 vc) [(1, sp [wAcc, dc (10 * t + k)])] ∧ ∀ b o, wr.heap.size ≤ b → w1.heap[b]? = some o → w'.heap[b]? = some o) := fun w1 hb => by
              rw [HC.out.eq]
              exact say_from HG.out HGD.out rfl HKK.out hb
            have HSL : Hid ((sp [wAcc, dc (10 * t + k)]).length ≤ 1000) := show _ ≤ _ by have h9 := decF_len20 20 (10 * t + k); simp [sp, words, wAcc, dc, dec]; omega
            clear hu8 hxn hF hlt hsid hsz hfi HID HIE HL1 HL2 HR1 HR2 HMU
            have c1 : ∀ N : World, (convert 50 9 (.slice (some ⟨N.heap.size, 0, none⟩) 1 1)).run Tryz.prog (N.alloc (.cells #[.int .u8 (97 + (t : Int))] 5)) = .ok (vs (bs [lt])) (N.alloc (.cells #[.int .u8 (97 + (t : Int))] 5)) := fun N => HCV.out _ _ (blk0 _ _)
            have c1d : ∀ N : World, (convert 50 9 (.slice (some ⟨N.heap.size, 0, none⟩) 1 1)).run Tryz.prog (N.alloc (.cells #[.int .u8 (97 + (t : Int))] 5)).drew = .ok (vs (bs [lt])) (N.alloc (.cells #[.int .u8 (97 + (t : Int))] 5)).drew := fun N => HCV.out _ _ (blk_drew (blk0 _ _))
            have c2 : ∀ N : World, (convert 50 9 (.slice (some ⟨N.heap.size + 1, 0, none⟩) 1 1)).run Tryz.prog ((N.alloc (.cells #[.int .i64 1] 3)).alloc (.cells #[.int .u8 (97 + (t : Int))] 5)) = .ok (vs (bs [lt])) ((N.alloc (.cells #[.int .i64 1] 3)).alloc (.cells #[.int .u8 (97 + (t : Int))] 5)) := fun N => HCV.out _ _ (blk1 _ _ _)
            have c2d : ∀ N : World, (convert 50 9 (.slice (some ⟨N.heap.size + 1, 0, none⟩) 1 1)).run Tryz.prog ((N.alloc (.cells #[.int .i64 1] 3)).alloc (.cells #[.int .u8 (97 + (t : Int))] 5)).drew = .ok (vs (bs [lt])) ((N.alloc (.cells #[.int .i64 1] 3)).alloc (.cells #[.int .u8 (97 + (t : Int))] 5)).drew := fun N => HCV.out _ _ (blk_drew (blk1 _ _ _))
            have c3 : ∀ N : World, (convert 50 9 (.slice (some ⟨N.heap.size, 0, none⟩) 1 1)).run Tryz.prog ((N.alloc (.cells #[.int .u8 (97 + (t : Int))] 5)).alloc (.cells #[.int .i64 1] 3)) = .ok (vs (bs [lt])) ((N.alloc (.cells #[.int .u8 (97 + (t : Int))] 5)).alloc (.cells #[.int .i64 1] 3)) := fun N => HCV.out _ _ (blk_alloc_of (blk0 _ _))
            have c3d : ∀ N : World, (convert 50 9 (.slice (some ⟨N.heap.size, 0, none⟩) 1 1)).run Tryz.prog ((N.alloc (.cells #[.int .u8 (97 + (t : Int))] 5)).alloc (.cells #[.int .i64 1] 3)).drew = .ok (vs (bs [lt])) ((N.alloc (.cells #[.int .u8 (97 + (t : Int))] 5)).alloc (.cells #[.int .i64 1] 3)).drew := fun N => HCV.out _ _ (blk_drew (blk_alloc_of (blk0 _ _)))
            go_region_law (first
              | (
                go_simp
                go_at_call 23
                first
                | (
                  (with_reducible refine (HFI.out wS).mono ?_)
                  rintro e wT ⟨rfl, hb⟩
                  have HBT := Lib.hid (show Below wS.heap.size wS wT from below_grow (Below.refl _ _) hb)
                  try have hI := blk_below hb HI.out.2
                  try have HIT := Lib.hid hI
                  clear hb
                  try clear hI)
                | (
                  (with_reducible refine (HFI.out (wS.alloc (.cells #[.int .i64 1] 3))).mono ?_)
                  rintro e wT ⟨rfl, hb⟩
                  have HBT := Lib.hid (show Below wS.heap.size wS wT from below_grow (below_alloc (Below.refl _ _)) hb)
                  have hI : wT.heap[wS.heap.size]? = some (.cells #[.int .i64 1] 3 (0, 0)) := blk_below hb (blk0 _ _)
                  try have HIT := Lib.hid hI
                  clear hb
                  try clear hI)
                | (
                  (with_reducible refine (HFI.out wN).mono ?_)
                  rintro e wN2 ⟨rfl, hb⟩
                  have hbm := below_grow (HBN.out) hb
                  try have hI := And.intro HI.out.1 (blk_below hb (HI.out.2))
                  try have hB := And.intro HB.out.1 (blk_below hb (HB.out.2))
                  try have cS := HCV.out _ _ hB.2
                  try have cSI := HCV.out _ _ (blk_alloc_of (o' := (.cells #[.int .i64 1] 3)) hB.2)
                  try have HI := Lib.hid hI
                  try have HB := Lib.hid hB
                  have HBN := Lib.hid hbm
                  clear hb hbm
                  try clear hI
                  try clear hB)
                | (
                  (with_reducible refine (HFI.out (wN.alloc (.cells #[.int .i64 1] 3))).mono ?_)
                  rintro e wN2 ⟨rfl, hb⟩
                  have hbm := below_grow (below_alloc (HBN.out)) hb
                  have hI : wr.heap.size ≤ wN.heap.size ∧ wN2.heap[wN.heap.size]? = some (.cells #[.int .i64 1] 3 (0, 0)) := ⟨by have := HBN.out.size; omega, blk_below hb (blk0 _ _)⟩
                  try have hB := And.intro HB.out.1 (blk_below hb (blk_alloc_of (HB.out.2)))
                  try have cS := HCV.out _ _ hB.2
                  try have cSI := HCV.out _ _ (blk_alloc_of (o' := (.cells #[.int .i64 1] 3)) hB.2)
                  try have HI := Lib.hid hI
                  try have HB := Lib.hid hB
                  have HBN := Lib.hid hbm
                  clear hb hbm
                  try clear hI
                  try clear hB)
                | (
                  (with_reducible refine (HFI.out (wN.alloc (.cells #[.int .u8 (97 + (t : Int))] 5))).mono ?_)
                  rintro e wN2 ⟨rfl, hb⟩
                  have hbm := below_grow (below_alloc (HBN.out)) hb
                  try have hI := And.intro HI.out.1 (blk_below hb (blk_alloc_of (HI.out.2)))
                  have hB : wr.heap.size ≤ wN.heap.size ∧ wN2.heap[wN.heap.size]? = some (.cells #[.int .u8 (97 + (t : Int))] 5 (0, 0)) := ⟨by have := HBN.out.size; omega, blk_below hb (blk0 _ _)⟩
                  try have cS := HCV.out _ _ hB.2
                  try have cSI := HCV.out _ _ (blk_alloc_of (o' := (.cells #[.int .i64 1] 3)) hB.2)
                  try have HI := Lib.hid hI
                  try have HB := Lib.hid hB
                  have HBN := Lib.hid hbm
                  clear hb hbm
                  try clear hI
                  try clear hB)
                | (
                  (with_reducible refine (HFI.out ((wN.alloc (.cells #[.int .i64 1] 3)).alloc (.cells #[.int .u8 (97 + (t : Int))] 5))).mono ?_)
                  rintro e wN2 ⟨rfl, hb⟩
                  have hbm := below_grow (below_alloc (below_alloc (HBN.out))) hb
                  have hI : wr.heap.size ≤ wN.heap.size ∧ wN2.heap[wN.heap.size]? = some (.cells #[.int .i64 1] 3 (0, 0)) := ⟨by have := HBN.out.size; omega, blk_below hb (blk_alloc_of (blk0 _ _))⟩
                  have hB : wr.heap.size ≤ wN.heap.size + 1 ∧ wN2.heap[wN.heap.size + 1]? = some (.cells #[.int .u8 (97 + (t : Int))] 5 (0, 0)) := ⟨by have := HBN.out.size; omega, blk_below hb (blk1 _ _ _)⟩
                  try have cS := HCV.out _ _ hB.2
                  try have cSI := HCV.out _ _ (blk_alloc_of (o' := (.cells #[.int .i64 1] 3)) hB.2)
                  try have HI := Lib.hid hI
                  try have HB := Lib.hid hB
                  have HBN := Lib.hid hbm
                  clear hb hbm
                  try clear hI
                  try clear hB)
                | (
                  (with_reducible refine (HFI.out ((wN.alloc (.cells #[.int .u8 (97 + (t : Int))] 5)).alloc (.cells #[.int .i64 1] 3))).mono ?_)
                  rintro e wN2 ⟨rfl, hb⟩
                  have hbm := below_grow (below_alloc (below_alloc (HBN.out))) hb
                  have hI : wr.heap.size ≤ wN.heap.size + 1 ∧ wN2.heap[wN.heap.size + 1]? = some (.cells #[.int .i64 1] 3 (0, 0)) := ⟨by have := HBN.out.size; omega, blk_below hb (blk1 _ _ _)⟩
                  have hB : wr.heap.size ≤ wN.heap.size ∧ wN2.heap[wN.heap.size]? = some (.cells #[.int .u8 (97 + (t : Int))] 5 (0, 0)) := ⟨by have := HBN.out.size; omega, blk_below hb (blk_alloc_of (blk0 _ _))⟩
                  try have cS := HCV.out _ _ hB.2
                  try have cSI := HCV.out _ _ (blk_alloc_of (o' := (.cells #[.int .i64 1] 3)) hB.2)
                  try have HI := Lib.hid hI
                  try have HB := Lib.hid hB
                  have HBN := Lib.hid hbm
                  clear hb hbm
                  try clear hI
                  try clear hB)
                | (
                  (with_reducible refine (HFI.out wr.drew).mono ?_)
                  rintro e wN ⟨rfl, hb⟩
                  have hbm := below_grow (below_drewR (Below.refl _ _)) hb
                  try have hI := And.intro HI.out.1 (blk_below hb (HI.out.2))
                  try have hB := And.intro HB.out.1 (blk_below hb (HB.out.2))
                  try have cS := HCV.out _ _ hB.2
                  try have cSI := HCV.out _ _ (blk_alloc_of (o' := (.cells #[.int .i64 1] 3)) hB.2)
                  try have HI := Lib.hid hI
                  try have HB := Lib.hid hB
                  have HBN := Lib.hid hbm
                  clear hb hbm
                  try clear hI
                  try clear hB)
                | (
                  (with_reducible refine (HFI.out (wr.alloc (.cells #[.int .i64 1] 3)).drew).mono ?_)
                  rintro e wN ⟨rfl, hb⟩
                  have hbm := below_grow (below_drewR (below_alloc (Below.refl _ _))) hb
                  have hI : wr.heap.size ≤ wr.heap.size ∧ wN.heap[wr.heap.size]? = some (.cells #[.int .i64 1] 3 (0, 0)) := ⟨by omega, blk_below hb (blk_drew (blk0 _ _))⟩
                  try have hB := And.intro HB.out.1 (blk_below hb (blk_alloc_of (HB.out.2)))
                  try have cS := HCV.out _ _ hB.2
                  try have cSI := HCV.out _ _ (blk_alloc_of (o' := (.cells #[.int .i64 1] 3)) hB.2)
                  try have HI := Lib.hid hI
                  try have HB := Lib.hid hB
                  have HBN := Lib.hid hbm
                  clear hb hbm
                  try clear hI
                  try clear hB)
                | (
                  (with_reducible refine (HFI.out (wr.alloc (.cells #[.int .u8 (97 + (t : Int))] 5)).drew).mono ?_)
                  rintro e wN ⟨rfl, hb⟩
                  have hbm := below_grow (below_drewR (below_alloc (Below.refl _ _))) hb
                  try have hI := And.intro HI.out.1 (blk_below hb (blk_alloc_of (HI.out.2)))
                  have hB : wr.heap.size ≤ wr.heap.size ∧ wN.heap[wr.heap.size]? = some (.cells #[.int .u8 (97 + (t : Int))] 5 (0, 0)) := ⟨by omega, blk_below hb (blk_drew (blk0 _ _))⟩
                  try have cS := HCV.out _ _ hB.2
                  try have cSI := HCV.out _ _ (blk_alloc_of (o' := (.cells #[.int .i64 1] 3)) hB.2)
                  try have HI := Lib.hid hI
                  try have HB := Lib.hid hB
                  have HBN := Lib.hid hbm
                  clear hb hbm
                  try clear hI
                  try clear hB)
                | (
                  (with_reducible refine (HFI.out ((wr.alloc (.cells #[.int .i64 1] 3)).alloc (.cells #[.int .u8 (97 + (t : Int))] 5)).drew).mono ?_)
                  rintro e wN ⟨rfl, hb⟩
                  have hbm := below_grow (below_drewR (below_alloc (below_alloc (Below.refl _ _)))) hb
                  have hI : wr.heap.size ≤ wr.heap.size ∧ wN.heap[wr.heap.size]? = some (.cells #[.int .i64 1] 3 (0, 0)) := ⟨by omega, blk_below hb (blk_drew (blk_alloc_of (blk0 _ _)))⟩
                  have hB : wr.heap.size ≤ wr.heap.size + 1 ∧ wN.heap[wr.heap.size + 1]? = some (.cells #[.int .u8 (97 + (t : Int))] 5 (0, 0)) := ⟨by omega, blk_below hb (blk_drew (blk1 _ _ _))⟩
                  try have cS := HCV.out _ _ hB.2
                  try have cSI := HCV.out _ _ (blk_alloc_of (o' := (.cells #[.int .i64 1] 3)) hB.2)
                  try have HI := Lib.hid hI
                  try have HB := Lib.hid hB
                  have HBN := Lib.hid hbm
                  clear hb hbm
                  try clear hI
                  try clear hB)
                | (
                  (with_reducible refine (HFI.out ((wr.alloc (.cells #[.int .u8 (97 + (t : Int))] 5)).alloc (.cells #[.int .i64 1] 3)).drew).mono ?_)
                  rintro e wN ⟨rfl, hb⟩
                  have hbm := below_grow (below_drewR (below_alloc (below_alloc (Below.refl _ _)))) hb
                  have hI : wr.heap.size ≤ wr.heap.size + 1 ∧ wN.heap[wr.heap.size + 1]? = some (.cells #[.int .i64 1] 3 (0, 0)) := ⟨by omega, blk_below hb (blk_drew (blk1 _ _ _))⟩
                  have hB : wr.heap.size ≤ wr.heap.size ∧ wN.heap[wr.heap.size]? = some (.cells #[.int .u8 (97 + (t : Int))] 5 (0, 0)) := ⟨by omega, blk_below hb (blk_drew (blk_alloc_of (blk0 _ _)))⟩
                  try have cS := HCV.out _ _ hB.2
                  try have cSI := HCV.out _ _ (blk_alloc_of (o' := (.cells #[.int .i64 1] 3)) hB.2)
                  try have HI := Lib.hid hI
                  try have HB := Lib.hid hB
                  have HBN := Lib.hid hbm
                  clear hb hbm
                  try clear hI
                  try clear hB))
              | (
                go_simp
                go_at_call 22
                first
                | (
                  (with_reducible refine (HSAY.out wN2 (HBN.out)).mono ?_)
                  rintro e wS ⟨va, vc, rfl, hk, ho, hkp⟩
                  have HKS := Lib.hid hk
                  have HOS := Lib.hid ho
                  try have hI := And.intro HI.out.1 (hkp _ _ HI.out.1 (HI.out.2))
                  try have hB := And.intro HB.out.1 (hkp _ _ HB.out.1 (HB.out.2))
                  try have HI := Lib.hid hI
                  clear hk ho hkp
                  try clear hI
                  try clear hB)
                | (
                  (with_reducible refine (HSAY.out (wN2.alloc (.cells #[.int .i64 1] 3)) (below_alloc (HBN.out))).mono ?_)
                  rintro e wS ⟨va, vc, rfl, hk, ho, hkp⟩
                  have HKS := Lib.hid hk
                  have HOS := Lib.hid ho
                  have hI : wr.heap.size ≤ wN2.heap.size ∧ wS.heap[wN2.heap.size]? = some (.cells #[.int .i64 1] 3 (0, 0)) := ⟨by have := HBN.out.size; omega, hkp _ _ (by have := HBN.out.size; omega) (blk0 _ _)⟩
                  try have hB := And.intro HB.out.1 (hkp _ _ HB.out.1 (blk_alloc_of (HB.out.2)))
                  try have HI := Lib.hid hI
                  clear hk ho hkp
                  try clear hI
                  try clear hB)
                | (
                  (with_reducible refine (HSAY.out (wN2.alloc (.cells #[.int .u8 (97 + (t : Int))] 5)) (below_alloc (HBN.out))).mono ?_)
                  rintro e wS ⟨va, vc, rfl, hk, ho, hkp⟩
                  have HKS := Lib.hid hk
                  have HOS := Lib.hid ho
                  try have hI := And.intro HI.out.1 (hkp _ _ HI.out.1 (blk_alloc_of (HI.out.2)))
                  have hB : wr.heap.size ≤ wN2.heap.size ∧ wS.heap[wN2.heap.size]? = some (.cells #[.int .u8 (97 + (t : Int))] 5 (0, 0)) := ⟨by have := HBN.out.size; omega, hkp _ _ (by have := HBN.out.size; omega) (blk0 _ _)⟩
                  try have HI := Lib.hid hI
                  clear hk ho hkp
                  try clear hI
                  try clear hB)
                | (
                  (with_reducible refine (HSAY.out ((wN2.alloc (.cells #[.int .i64 1] 3)).alloc (.cells #[.int .u8 (97 + (t : Int))] 5)) (below_alloc (below_alloc (HBN.out)))).mono ?_)
                  rintro e wS ⟨va, vc, rfl, hk, ho, hkp⟩
                  have HKS := Lib.hid hk
                  have HOS := Lib.hid ho
                  have hI : wr.heap.size ≤ wN2.heap.size ∧ wS.heap[wN2.heap.size]? = some (.cells #[.int .i64 1] 3 (0, 0)) := ⟨by have := HBN.out.size; omega, hkp _ _ (by have := HBN.out.size; omega) (blk_alloc_of (blk0 _ _))⟩
                  have hB : wr.heap.size ≤ wN2.heap.size + 1 ∧ wS.heap[wN2.heap.size + 1]? = some (.cells #[.int .u8 (97 + (t : Int))] 5 (0, 0)) := ⟨by have := HBN.out.size; omega, hkp _ _ (by have := HBN.out.size; omega) (blk1 _ _ _)⟩
                  try have HI := Lib.hid hI
                  clear hk ho hkp
                  try clear hI
                  try clear hB)
                | (
                  (with_reducible refine (HSAY.out ((wN2.alloc (.cells #[.int .u8 (97 + (t : Int))] 5)).alloc (.cells #[.int .i64 1] 3)) (below_alloc (below_alloc (HBN.out)))).mono ?_)
                  rintro e wS ⟨va, vc, rfl, hk, ho, hkp⟩
                  have HKS := Lib.hid hk
                  have HOS := Lib.hid ho
                  have hI : wr.heap.size ≤ wN2.heap.size + 1 ∧ wS.heap[wN2.heap.size + 1]? = some (.cells #[.int .i64 1] 3 (0, 0)) := ⟨by have := HBN.out.size; omega, hkp _ _ (by have := HBN.out.size; omega) (blk1 _ _ _)⟩
                  have hB : wr.heap.size ≤ wN2.heap.size ∧ wS.heap[wN2.heap.size]? = some (.cells #[.int .u8 (97 + (t : Int))] 5 (0, 0)) := ⟨by have := HBN.out.size; omega, hkp _ _ (by have := HBN.out.size; omega) (blk_alloc_of (blk0 _ _))⟩
                  try have HI := Lib.hid hI
                  clear hk ho hkp
                  try clear hI
                  try clear hB))
              | (
                go_simp
                go_at_call 21
                first
                | (
                  have HIS := Lib.hid (is_lits (cur := (wT.alloc (.cells #[.string a1] 9))) (v := .slice va 1 vc) (n := 1) (cs1 := #[.int .i64 1]) (cs2 := #[.string a1]) [(1, sp [wAcc, dc (10 * t + k)])] HKS.out HOS.out (below_alloc (HBT.out)) (blk_alloc_of HIT.out) rfl (blk0 _ _) (by rw [HA1.out]; rfl) rfl (by simp) (by simp) (fun p hp => by rw [List.mem_singleton] at hp; subst hp; exact HSL.out))
                  (with_reducible refine HIS.out.mono ?_)
                  rintro e wF ⟨rfl, hkf⟩
                  have HKF := Lib.hid hkf
                  clear hkf)
                | (
                  have HIS := Lib.hid (is_lits (cur := ((wT.alloc (.cells #[.int .i64 1] 3)).alloc (.cells #[.string a1] 9))) (v := .slice va 1 vc) (n := 1) (cs1 := #[.int .i64 1]) (cs2 := #[.string a1]) [(1, sp [wAcc, dc (10 * t + k)])] HKS.out HOS.out (below_alloc (below_alloc (HBT.out))) (blk_alloc_of (blk0 _ _)) rfl (blk1 _ _ _) (by rw [HA1.out]; rfl) rfl (by simp) (by simp) (fun p hp => by rw [List.mem_singleton] at hp; subst hp; exact HSL.out))
                  (with_reducible refine HIS.out.mono ?_)
                  rintro e wF ⟨rfl, hkf⟩
                  have HKF := Lib.hid hkf
                  clear hkf)
                | (
                  have HIS := Lib.hid (is_lits (cur := ((wT.alloc (.cells #[.string a1] 9)).alloc (.cells #[.int .i64 1] 3))) (v := .slice va 1 vc) (n := 1) (cs1 := #[.int .i64 1]) (cs2 := #[.string a1]) [(1, sp [wAcc, dc (10 * t + k)])] HKS.out HOS.out (below_alloc (below_alloc (HBT.out))) (blk1 _ _ _) rfl (blk_alloc_of (blk0 _ _)) (by rw [HA1.out]; rfl) rfl (by simp) (by simp) (fun p hp => by rw [List.mem_singleton] at hp; subst hp; exact HSL.out))
                  (with_reducible refine HIS.out.mono ?_)
                  rintro e wF ⟨rfl, hkf⟩
                  have HKF := Lib.hid hkf
                  clear hkf)))
            all_goals
              go_wp2_with fail
              go_meet
              case rel => exact ⟨rfl, HKF.out⟩
            -- end 13
          case rest =>
            obtain ⟨rfl, HKX⟩ := hcut
            clear HKK
            go_wp2_with fail
            go_roundw
            case rel => exact ⟨k + 1, by go_num, by omega, HKX.out⟩
            case measure => simp [intOf]; omega
        · obtain rfl : k = es := by omega
          have hlt2 : decide ((k : Int) < (k : Int)) = false := by simp
          have HKK : Hid (RAt G w D Wb cfgTurns S ((List.range' (t + 1) (ts - (t + 1))).flatMap (fun t => (List.range' 0 k).map fun k => turnSub t k) ++ R2) wr) := HK.out.cast (by rw [map_endT, HR1.out])
          clear HK
          go_wp2_with fail
          go_roundw
          case rel => exact ⟨t + 1, by go_num, by omega, HKK.out⟩
          case measure => simp [intOf]; omega
    · obtain rfl : t = ts := by omega
      have hlt : decide ((t : Int) < (t : Int)) = false := by simp
      have HKT : Hid (RAt G w D Wb cfgTurns S R2 wr) := HK.out.cast (by rw [flat_end, List.nil_append])
      have cW := HKT.out.cell
      clear HK
      go_wp2_with fail
      refine (rlook_calls HGD.out HKT.out HL1.out).mono ?_
      rintro e w2 ⟨rfl, hk2⟩
      have HK2 := Lib.hid hk2
      clear hk2 cW HKT
      have hmul := HMU.out
      go_wp2_with fail
      have HK3 : Hid (RAt G w D Wb cfgTurns S (tR t es 0 ++ [((.say 2 [112, 117, 108, 108], []) : E1)]) w2) := HK2.out.cast HR2.out
      clear HK2 HR2 HL1 hmul HMU
      go_loopw [10, 11, 12, 74] (fun _ _ _ s74 wr => ∃ k : Nat, s74 = .int .i64 k ∧ k ≤ es ∧ Hid (RAt G w D Wb cfgTurns S (tR t es k ++ [((.say 2 [112, 117, 108, 108], []) : E1)]) wr)) (fun _ _ _ s74 _ => es - (intOf s74).toNat)
      case atStart => exact ⟨0, by go_num, Nat.zero_le _, HK3.out⟩
      case round =>
        obtain ⟨k, rfl, hk, HK⟩ := hrel
        by_cases hkl : k < es
        · have hlt2 : decide ((k : Int) < (es : Int)) = true := decide_eq_true (by omega)
          obtain ⟨R3, hR3⟩ : ∃ R3, R3 = tR t es (k + 1) ++ [((.say 2 [112, 117, 108, 108], []) : E1)] := ⟨_, rfl⟩
          have HKT : Hid (RAt G w D Wb cfgTurns S ((List.range' 0 (t - 0)).flatMap (fun t => turnRound t k) ++ R3) wr) := HK.out.cast (by
            rw [hR3]
            unfold tR
            rw [flat_cons hkl, List.append_assoc, Nat.sub_zero])
          have HR3 := Lib.hid hR3
          clear HK hR3
          go_wp2_with fail
          go_loopw [11, 12, 78] (fun _ _ s78 wr => ∃ u : Nat, s78 = .int .i64 u ∧ u ≤ t ∧ Hid (RAt G w D Wb cfgTurns S ((List.range' u (t - u)).flatMap (fun t => turnRound t k) ++ R3) wr)) (fun _ _ s78 _ => t - (intOf s78).toNat)
          case atStart => exact ⟨0, by go_num, Nat.zero_le _, HKT.out⟩
          case round =>
            obtain ⟨u, rfl, hu, HK⟩ := hrel
            by_cases hul : u < t
            · have hlt3 : decide ((u : Int) < (t : Int)) = true := decide_eq_true (by omega)
              obtain ⟨id, hid⟩ : ∃ id : Nat, id = 10 * u + k := ⟨_, rfl⟩
              obtain ⟨R4, hR4⟩ : ∃ R4, R4 = (List.range' (u + 1) (t - (u + 1))).flatMap (fun t => turnRound t k) ++ R3 := ⟨_, rfl⟩
              have HKU : Hid (RAt G w D Wb cfgTurns S (turnPull u k :: ((if (k + u) % 2 = 0 then [turnDone u k] else []) ++ R4)) wr) := HK.out.cast (by rw [flat_cons hul, List.append_assoc, round_eq, hR4]; rfl)
              have HR4 := Lib.hid hR4
              have HFI : Hid (∀ w : World, Calls Tryz.prog 23 #[.int .i64 (10 * (u : Int) + (k : Int))] w fun e w' => e = .returned (vs (bs (dec id))) ∧ Below w.heap.size w w') := fun w => by
                rw [show 10 * (u : Int) + (k : Int) = (id : Int) by omega]
                exact figures_calls id (by omega) w
              have hF := decF_len20 20 id
              obtain ⟨d1, d2, d3, hd⟩ := cat3 [100, 111, 110, 101, 32] [32, 49, 32, 118] (dec id) (sp [kDone, dc (10 * u + k), o1, 118 :: dc (10 * u + k)]) (by rw [hid]; simp [sp, words, kDone, o1, dc]) (by simp) (by simp) (by unfold dec; omega)
              obtain ⟨v1, v2, v3, hv⟩ := cat3 [118, 97, 108, 32] [32, 118] (dec id) (sp [wVal, dc (10 * u + k), 118 :: dc (10 * u + k)]) (by rw [hid]; simp [sp, words, wVal, dc]) (by simp) (by simp) (by unfold dec; omega)
              have HD3 := Lib.hid hd
              have HV3 := Lib.hid hv
              obtain ⟨sid, hsid⟩ : ∃ sid, bs (dec id) = sid := ⟨_, rfl⟩
              rw [hsid] at HFI HD3 HV3
              have HSID := Lib.hid hsid
              have HIE := Lib.hid hid
              clear HK hR4 hF hd hv hsid hid
              go_wp2_with fail
              refine (HFI.out _).mono ?_
              rintro e w3 ⟨rfl, hb3⟩
              have HK3b := Lib.hid (HKU.out.grow hb3)
              clear hb3 HKU
              go_upto_region 26 with (fail)
              go_cut [103] from 86 to 103 (fun s103 wx => s103 = .bool false ∧ Hid (RAt G w D Wb cfgTurns S ((if (k + u) % 2 = 0 then [turnDone u k] else []) ++ R4) wx))
              case first =>
                -- region 26
                clear HFI HD3 HV3 HL2 HR3 HR4
                have hF := decF_len20 20 id
                obtain ⟨lt, hlt⟩ : ∃ lt, lt = UInt8.ofNat (97 + u) := ⟨_, rfl⟩
                obtain ⟨g1, g2, g3, g4, g5, hc⟩ := cat4 [114, 117, 110, 32] [32, 49, 32] [32, 112] (dec id) lt (sp [wRun, dc (10 * u + k), o1, letA u, 112 :: dc (10 * u + k)]) (by rw [HIE.out, hlt]; simp [sp, words, wRun, o1, letA, dc]) (by simp) (by simp) (by simp) (by unfold dec; omega)
                rw [HSID.out] at hc
                have HC := Lib.hid hc
                obtain ⟨q1, q2, q3, q4, q5, -, n1, n2, n3, n4, n5⟩ := hc
                have q1 : (⟨#[114, 117, 110, 32]⟩ : ByteArray) ++ sid = g1 := q1
                have q2 : g1 ++ (⟨#[32, 49, 32]⟩ : ByteArray) = g2 := q2
                have q4 : g3 ++ (⟨#[32, 112]⟩ : ByteArray) = g4 := q4
                simp only [List.length_cons, List.length_nil, Nat.zero_add, Nat.reduceAdd] at n1 n2 n4
                have hzl : (bs [lt]).size = 1 := rfl
                have hs97 : IntKind.i64.wrap (97 + (u : Int)) = 97 + (u : Int) := IntWalk.i64_in _ (by omega)
                have hu8 : ∀ n : Int, IntKind.u8.wrap n = n % 256 := fun n => rfl
                have hs8 : IntKind.u8.wrap (97 + (u : Int)) = 97 + (u : Int) := by rw [hu8]; omega
                have hxn : (lt.toNat : Int) = 97 + (u : Int) := by rw [hlt]; simp; omega
                have HCV : Hid (∀ (w : World) (B : Nat), w.heap[B]? = some (.cells #[.int .u8 (97 + (u : Int))] 5 (0, 0)) → (convert 50 9 (.slice (some ⟨B, 0, none⟩) 1 1)).run Tryz.prog w = .ok (vs (bs [lt])) w) := fun w B h => conv_at (by rw [hxn]; exact h)
                clear hu8 hxn hF hlt
                have c1 : ∀ N : World, (convert 50 9 (.slice (some ⟨N.heap.size, 0, none⟩) 1 1)).run Tryz.prog (N.alloc (.cells #[.int .u8 (97 + (u : Int))] 5)) = .ok (vs (bs [lt])) (N.alloc (.cells #[.int .u8 (97 + (u : Int))] 5)) := fun N => HCV.out _ _ (blk0 _ _)
                have c1d : ∀ N : World, (convert 50 9 (.slice (some ⟨N.heap.size, 0, none⟩) 1 1)).run Tryz.prog (N.alloc (.cells #[.int .u8 (97 + (u : Int))] 5)).drew = .ok (vs (bs [lt])) (N.alloc (.cells #[.int .u8 (97 + (u : Int))] 5)).drew := fun N => HCV.out _ _ (blk_drew (blk0 _ _))
                have c2 : ∀ N : World, (convert 50 9 (.slice (some ⟨N.heap.size + 1, 0, none⟩) 1 1)).run Tryz.prog ((N.alloc (.cells #[.int .i64 2] 3)).alloc (.cells #[.int .u8 (97 + (u : Int))] 5)) = .ok (vs (bs [lt])) ((N.alloc (.cells #[.int .i64 2] 3)).alloc (.cells #[.int .u8 (97 + (u : Int))] 5)) := fun N => HCV.out _ _ (blk1 _ _ _)
                have c2d : ∀ N : World, (convert 50 9 (.slice (some ⟨N.heap.size + 1, 0, none⟩) 1 1)).run Tryz.prog ((N.alloc (.cells #[.int .i64 2] 3)).alloc (.cells #[.int .u8 (97 + (u : Int))] 5)).drew = .ok (vs (bs [lt])) ((N.alloc (.cells #[.int .i64 2] 3)).alloc (.cells #[.int .u8 (97 + (u : Int))] 5)).drew := fun N => HCV.out _ _ (blk_drew (blk1 _ _ _))
                have c3 : ∀ N : World, (convert 50 9 (.slice (some ⟨N.heap.size, 0, none⟩) 1 1)).run Tryz.prog ((N.alloc (.cells #[.int .u8 (97 + (u : Int))] 5)).alloc (.cells #[.int .i64 2] 3)) = .ok (vs (bs [lt])) ((N.alloc (.cells #[.int .u8 (97 + (u : Int))] 5)).alloc (.cells #[.int .i64 2] 3)) := fun N => HCV.out _ _ (blk_alloc_of (blk0 _ _))
                have c3d : ∀ N : World, (convert 50 9 (.slice (some ⟨N.heap.size, 0, none⟩) 1 1)).run Tryz.prog ((N.alloc (.cells #[.int .u8 (97 + (u : Int))] 5)).alloc (.cells #[.int .i64 2] 3)).drew = .ok (vs (bs [lt])) ((N.alloc (.cells #[.int .u8 (97 + (u : Int))] 5)).alloc (.cells #[.int .i64 2] 3)).drew := fun N => HCV.out _ _ (blk_drew (blk_alloc_of (blk0 _ _)))
                have HSY0 : Hid (Calls Tryz.prog 22 #[vp Wb, .int .i64 2, .string ⟨#[112, 117, 108, 108]⟩] w3.drew fun e w' => ∃ va vc, e = .returned (.slice va 1 vc) ∧ RAt G w D Wb cfgTurns S ((if (k + u) % 2 = 0 then [turnDone u k] else []) ++ R4) w' ∧ OutsAt w' (.slice va 1 vc) [(2, sp [wRun, dc (10 * u + k), o1, letA u, 112 :: dc (10 * u + k)])] ∧ ∀ b o, w3.heap.size ≤ b → w3.drew.heap[b]? = some o → w'.heap[b]? = some o) := say_from HG.out HGD.out rfl HK3b.out (below_drewR (Below.refl _ _))
                have HSY1 : Hid (Calls Tryz.prog 22 #[vp Wb, .int .i64 2, .string ⟨#[112, 117, 108, 108]⟩] (w3.alloc (.cells #[.int .i64 2] 3)).drew fun e w' => ∃ va vc, e = .returned (.slice va 1 vc) ∧ RAt G w D Wb cfgTurns S ((if (k + u) % 2 = 0 then [turnDone u k] else []) ++ R4) w' ∧ OutsAt w' (.slice va 1 vc) [(2, sp [wRun, dc (10 * u + k), o1, letA u, 112 :: dc (10 * u + k)])] ∧ ∀ b o, w3.heap.size ≤ b → (w3.alloc (.cells #[.int .i64 2] 3)).drew.heap[b]? = some o → w'.heap[b]? = some o) := say_from HG.out HGD.out rfl HK3b.out (below_drewR (below_alloc (Below.refl _ _)))
                have HSY2 : Hid (Calls Tryz.prog 22 #[vp Wb, .int .i64 2, .string ⟨#[112, 117, 108, 108]⟩] (w3.alloc (.cells #[.int .u8 (97 + (u : Int))] 5)).drew fun e w' => ∃ va vc, e = .returned (.slice va 1 vc) ∧ RAt G w D Wb cfgTurns S ((if (k + u) % 2 = 0 then [turnDone u k] else []) ++ R4) w' ∧ OutsAt w' (.slice va 1 vc) [(2, sp [wRun, dc (10 * u + k), o1, letA u, 112 :: dc (10 * u + k)])] ∧ ∀ b o, w3.heap.size ≤ b → (w3.alloc (.cells #[.int .u8 (97 + (u : Int))] 5)).drew.heap[b]? = some o → w'.heap[b]? = some o) := say_from HG.out HGD.out rfl HK3b.out (below_drewR (below_alloc (Below.refl _ _)))
                have HSY3 : Hid (Calls Tryz.prog 22 #[vp Wb, .int .i64 2, .string ⟨#[112, 117, 108, 108]⟩] ((w3.alloc (.cells #[.int .i64 2] 3)).alloc (.cells #[.int .u8 (97 + (u : Int))] 5)).drew fun e w' => ∃ va vc, e = .returned (.slice va 1 vc) ∧ RAt G w D Wb cfgTurns S ((if (k + u) % 2 = 0 then [turnDone u k] else []) ++ R4) w' ∧ OutsAt w' (.slice va 1 vc) [(2, sp [wRun, dc (10 * u + k), o1, letA u, 112 :: dc (10 * u + k)])] ∧ ∀ b o, w3.heap.size ≤ b → ((w3.alloc (.cells #[.int .i64 2] 3)).alloc (.cells #[.int .u8 (97 + (u : Int))] 5)).drew.heap[b]? = some o → w'.heap[b]? = some o) := say_from HG.out HGD.out rfl HK3b.out (below_drewR (below_alloc (below_alloc (Below.refl _ _))))
                have HSY4 : Hid (Calls Tryz.prog 22 #[vp Wb, .int .i64 2, .string ⟨#[112, 117, 108, 108]⟩] ((w3.alloc (.cells #[.int .u8 (97 + (u : Int))] 5)).alloc (.cells #[.int .i64 2] 3)).drew fun e w' => ∃ va vc, e = .returned (.slice va 1 vc) ∧ RAt G w D Wb cfgTurns S ((if (k + u) % 2 = 0 then [turnDone u k] else []) ++ R4) w' ∧ OutsAt w' (.slice va 1 vc) [(2, sp [wRun, dc (10 * u + k), o1, letA u, 112 :: dc (10 * u + k)])] ∧ ∀ b o, w3.heap.size ≤ b → ((w3.alloc (.cells #[.int .u8 (97 + (u : Int))] 5)).alloc (.cells #[.int .i64 2] 3)).drew.heap[b]? = some o → w'.heap[b]? = some o) := say_from HG.out HGD.out rfl HK3b.out (below_drewR (below_alloc (below_alloc (Below.refl _ _))))
                have HSY5 : Hid (Calls Tryz.prog 22 #[vp Wb, .int .i64 2, .string ⟨#[112, 117, 108, 108]⟩] ((w3.alloc (.cells #[.int .u8 (97 + (u : Int))] 5)).alloc (.cells #[.string g5] 9)).drew fun e w' => ∃ va vc, e = .returned (.slice va 1 vc) ∧ RAt G w D Wb cfgTurns S ((if (k + u) % 2 = 0 then [turnDone u k] else []) ++ R4) w' ∧ OutsAt w' (.slice va 1 vc) [(2, sp [wRun, dc (10 * u + k), o1, letA u, 112 :: dc (10 * u + k)])] ∧ ∀ b o, w3.heap.size ≤ b → ((w3.alloc (.cells #[.int .u8 (97 + (u : Int))] 5)).alloc (.cells #[.string g5] 9)).drew.heap[b]? = some o → w'.heap[b]? = some o) := say_from HG.out HGD.out rfl HK3b.out (below_drewR (below_alloc (below_alloc (Below.refl _ _))))
                have HSY6 : Hid (Calls Tryz.prog 22 #[vp Wb, .int .i64 2, .string ⟨#[112, 117, 108, 108]⟩] (((w3.alloc (.cells #[.int .i64 2] 3)).alloc (.cells #[.int .u8 (97 + (u : Int))] 5)).alloc (.cells #[.string g5] 9)).drew fun e w' => ∃ va vc, e = .returned (.slice va 1 vc) ∧ RAt G w D Wb cfgTurns S ((if (k + u) % 2 = 0 then [turnDone u k] else []) ++ R4) w' ∧ OutsAt w' (.slice va 1 vc) [(2, sp [wRun, dc (10 * u + k), o1, letA u, 112 :: dc (10 * u + k)])] ∧ ∀ b o, w3.heap.size ≤ b → (((w3.alloc (.cells #[.int .i64 2] 3)).alloc (.cells #[.int .u8 (97 + (u : Int))] 5)).alloc (.cells #[.string g5] 9)).drew.heap[b]? = some o → w'.heap[b]? = some o) := say_from HG.out HGD.out rfl HK3b.out (below_drewR (below_alloc (below_alloc (below_alloc (Below.refl _ _)))))
                have HSY7 : Hid (Calls Tryz.prog 22 #[vp Wb, .int .i64 2, .string ⟨#[112, 117, 108, 108]⟩] (((w3.alloc (.cells #[.int .u8 (97 + (u : Int))] 5)).alloc (.cells #[.int .i64 2] 3)).alloc (.cells #[.string g5] 9)).drew fun e w' => ∃ va vc, e = .returned (.slice va 1 vc) ∧ RAt G w D Wb cfgTurns S ((if (k + u) % 2 = 0 then [turnDone u k] else []) ++ R4) w' ∧ OutsAt w' (.slice va 1 vc) [(2, sp [wRun, dc (10 * u + k), o1, letA u, 112 :: dc (10 * u + k)])] ∧ ∀ b o, w3.heap.size ≤ b → (((w3.alloc (.cells #[.int .u8 (97 + (u : Int))] 5)).alloc (.cells #[.int .i64 2] 3)).alloc (.cells #[.string g5] 9)).drew.heap[b]? = some o → w'.heap[b]? = some o) := say_from HG.out HGD.out rfl HK3b.out (below_drewR (below_alloc (below_alloc (below_alloc (Below.refl _ _)))))
                have HSY8 : Hid (Calls Tryz.prog 22 #[vp Wb, .int .i64 2, .string ⟨#[112, 117, 108, 108]⟩] (((w3.alloc (.cells #[.int .u8 (97 + (u : Int))] 5)).alloc (.cells #[.string g5] 9)).alloc (.cells #[.int .i64 2] 3)).drew fun e w' => ∃ va vc, e = .returned (.slice va 1 vc) ∧ RAt G w D Wb cfgTurns S ((if (k + u) % 2 = 0 then [turnDone u k] else []) ++ R4) w' ∧ OutsAt w' (.slice va 1 vc) [(2, sp [wRun, dc (10 * u + k), o1, letA u, 112 :: dc (10 * u + k)])] ∧ ∀ b o, w3.heap.size ≤ b → (((w3.alloc (.cells #[.int .u8 (97 + (u : Int))] 5)).alloc (.cells #[.string g5] 9)).alloc (.cells #[.int .i64 2] 3)).drew.heap[b]? = some o → w'.heap[b]? = some o) := say_from HG.out HGD.out rfl HK3b.out (below_drewR (below_alloc (below_alloc (below_alloc (Below.refl _ _)))))
                have HSL : Hid ((sp [wRun, dc (10 * u + k), o1, letA u, 112 :: dc (10 * u + k)]).length ≤ 1000) := show _ ≤ _ by have := decF_len20 20 (10 * u + k); simp [sp, words, wRun, o1, letA, dc, dec]; omega
                go_region_law (first
                  | (
                    go_simp
                    go_at_call 22
                    first
                    | (
                      (with_reducible refine HSY0.out.mono ?_)
                      rintro e wS ⟨va, vc, rfl, hk, ho, hkp⟩
                      have HKS := Lib.hid hk
                      have HOS := Lib.hid ho
                      clear hk ho hkp)
                    | (
                      (with_reducible refine HSY1.out.mono ?_)
                      rintro e wS ⟨va, vc, rfl, hk, ho, hkp⟩
                      have HKS := Lib.hid hk
                      have HOS := Lib.hid ho
                      have hI : wS.heap[w3.heap.size]? = some (.cells #[.int .i64 2] 3 (0, 0)) := hkp _ _ (by omega) (blk_drew (blk0 _ _))
                      have HI := Lib.hid hI
                      clear hk ho hkp hI)
                    | (
                      (with_reducible refine HSY2.out.mono ?_)
                      rintro e wS ⟨va, vc, rfl, hk, ho, hkp⟩
                      have HKS := Lib.hid hk
                      have HOS := Lib.hid ho
                      have hB : wS.heap[w3.heap.size]? = some (.cells #[.int .u8 (97 + (u : Int))] 5 (0, 0)) := hkp _ _ (by omega) (blk_drew (blk0 _ _))
                      have cS := HCV.out _ _ hB
                      have cSI := HCV.out _ _ (blk_alloc_of (o' := (.cells #[.int .i64 2] 3)) hB)
                      have HB := Lib.hid hB
                      clear hk ho hkp hB)
                    | (
                      (with_reducible refine HSY3.out.mono ?_)
                      rintro e wS ⟨va, vc, rfl, hk, ho, hkp⟩
                      have HKS := Lib.hid hk
                      have HOS := Lib.hid ho
                      have hI : wS.heap[w3.heap.size]? = some (.cells #[.int .i64 2] 3 (0, 0)) := hkp _ _ (by omega) (blk_drew (blk_alloc_of (blk0 _ _)))
                      have hB : wS.heap[w3.heap.size + 1]? = some (.cells #[.int .u8 (97 + (u : Int))] 5 (0, 0)) := hkp _ _ (by omega) (blk_drew (blk1 _ _ _))
                      have cS := HCV.out _ _ hB
                      have HI := Lib.hid hI
                      have HB := Lib.hid hB
                      clear hk ho hkp hI hB)
                    | (
                      (with_reducible refine HSY4.out.mono ?_)
                      rintro e wS ⟨va, vc, rfl, hk, ho, hkp⟩
                      have HKS := Lib.hid hk
                      have HOS := Lib.hid ho
                      have hB : wS.heap[w3.heap.size]? = some (.cells #[.int .u8 (97 + (u : Int))] 5 (0, 0)) := hkp _ _ (by omega) (blk_drew (blk_alloc_of (blk0 _ _)))
                      have hI : wS.heap[w3.heap.size + 1]? = some (.cells #[.int .i64 2] 3 (0, 0)) := hkp _ _ (by omega) (blk_drew (blk1 _ _ _))
                      have cS := HCV.out _ _ hB
                      have HB := Lib.hid hB
                      have HI := Lib.hid hI
                      clear hk ho hkp hB hI)
                    | (
                      (with_reducible refine HSY5.out.mono ?_)
                      rintro e wS ⟨va, vc, rfl, hk, ho, hkp⟩
                      have HKS := Lib.hid hk
                      have HOS := Lib.hid ho
                      have hB : wS.heap[w3.heap.size]? = some (.cells #[.int .u8 (97 + (u : Int))] 5 (0, 0)) := hkp _ _ (by omega) (blk_drew (blk_alloc_of (blk0 _ _)))
                      have hS : wS.heap[w3.heap.size + 1]? = some (.cells #[.string g5] 9 (0, 0)) := hkp _ _ (by omega) (blk_drew (blk1 _ _ _))
                      have HB := Lib.hid hB
                      have HS := Lib.hid hS
                      clear hk ho hkp hB hS)
                    | (
                      (with_reducible refine HSY6.out.mono ?_)
                      rintro e wS ⟨va, vc, rfl, hk, ho, hkp⟩
                      have HKS := Lib.hid hk
                      have HOS := Lib.hid ho
                      have hI : wS.heap[w3.heap.size]? = some (.cells #[.int .i64 2] 3 (0, 0)) := hkp _ _ (by omega) (blk_drew (blk_alloc_of (blk_alloc_of (blk0 _ _))))
                      have hB : wS.heap[w3.heap.size + 1]? = some (.cells #[.int .u8 (97 + (u : Int))] 5 (0, 0)) := hkp _ _ (by omega) (blk_drew (blk_alloc_of (blk1 _ _ _)))
                      have hS : wS.heap[w3.heap.size + 1 + 1]? = some (.cells #[.string g5] 9 (0, 0)) := hkp _ _ (by omega) (blk_drew (blk2 _ _ _ _))
                      have HI := Lib.hid hI
                      have HB := Lib.hid hB
                      have HS := Lib.hid hS
                      clear hk ho hkp hI hB hS)
                    | (
                      (with_reducible refine HSY7.out.mono ?_)
                      rintro e wS ⟨va, vc, rfl, hk, ho, hkp⟩
                      have HKS := Lib.hid hk
                      have HOS := Lib.hid ho
                      have hB : wS.heap[w3.heap.size]? = some (.cells #[.int .u8 (97 + (u : Int))] 5 (0, 0)) := hkp _ _ (by omega) (blk_drew (blk_alloc_of (blk_alloc_of (blk0 _ _))))
                      have hI : wS.heap[w3.heap.size + 1]? = some (.cells #[.int .i64 2] 3 (0, 0)) := hkp _ _ (by omega) (blk_drew (blk_alloc_of (blk1 _ _ _)))
                      have hS : wS.heap[w3.heap.size + 1 + 1]? = some (.cells #[.string g5] 9 (0, 0)) := hkp _ _ (by omega) (blk_drew (blk2 _ _ _ _))
                      have HB := Lib.hid hB
                      have HI := Lib.hid hI
                      have HS := Lib.hid hS
                      clear hk ho hkp hB hI hS)
                    | (
                      (with_reducible refine HSY8.out.mono ?_)
                      rintro e wS ⟨va, vc, rfl, hk, ho, hkp⟩
                      have HKS := Lib.hid hk
                      have HOS := Lib.hid ho
                      have hB : wS.heap[w3.heap.size]? = some (.cells #[.int .u8 (97 + (u : Int))] 5 (0, 0)) := hkp _ _ (by omega) (blk_drew (blk_alloc_of (blk_alloc_of (blk0 _ _))))
                      have hS : wS.heap[w3.heap.size + 1]? = some (.cells #[.string g5] 9 (0, 0)) := hkp _ _ (by omega) (blk_drew (blk_alloc_of (blk1 _ _ _)))
                      have hI : wS.heap[w3.heap.size + 1 + 1]? = some (.cells #[.int .i64 2] 3 (0, 0)) := hkp _ _ (by omega) (blk_drew (blk2 _ _ _ _))
                      have HB := Lib.hid hB
                      have HS := Lib.hid hS
                      have HI := Lib.hid hI
                      clear hk ho hkp hB hS hI))
                  | (
                    go_simp
                    go_at_call 21
                    refine (is_lits [(2, sp [wRun, dc (10 * u + k), o1, letA u, 112 :: dc (10 * u + k)])] HKS.out HOS.out (by first | exact Below.refl _ _ | exact below_alloc (Below.refl _ _) | exact below_alloc (below_alloc (Below.refl _ _)) | exact below_alloc (below_alloc (below_alloc (Below.refl _ _)))) (by first | exact blk0 _ _ | exact blk1 _ _ _ | exact blk2 _ _ _ _ | exact HI.out | (refine blk_alloc_of ?_; first | exact blk0 _ _ | exact blk1 _ _ _ | exact HI.out | (refine blk_alloc_of ?_; first | exact blk0 _ _ | exact HI.out | exact blk_alloc_of HI.out))) rfl (by first | exact blk0 _ _ | exact blk1 _ _ _ | exact blk2 _ _ _ _ | exact HS.out | (refine blk_alloc_of ?_; first | exact blk0 _ _ | exact blk1 _ _ _ | exact HS.out | (refine blk_alloc_of ?_; first | exact blk0 _ _ | exact HS.out | exact blk_alloc_of HS.out))) (by rw [HC.out.eq]; rfl) rfl (by simp) (by simp) (fun p hp => by rw [List.mem_singleton] at hp; subst hp; exact HSL.out)).mono ?_
                    rintro e wF ⟨rfl, hkf⟩
                    have HKF := Lib.hid hkf
                    clear hkf))
                all_goals
                  go_wp2_with fail
                  go_meet
                  case rel => exact ⟨rfl, HKF.out⟩
                -- end 26
              case rest =>
                obtain ⟨rfl, HKX⟩ := hcut
                have ek0 : (0 : Int) ≤ (k : Int) + (u : Int) := by omega
                have ek1 : (k : Int) + (u : Int) ≤ 100 := by omega
                by_cases hpar : (k + u) % 2 = 0
                · have hm1 : ((k : Int) + (u : Int)).tmod 2 = 0 := by rw [Int.tmod_eq_emod_of_nonneg ek0]; omega
                  have hm2 : ((k : Int) + (u : Int)) % 2 = 0 := by omega
                  have HKY : Hid (RAt G w D Wb cfgTurns S (turnDone u k :: R4) wc) := HKX.out.cast (by rw [if_pos hpar]; rfl)
                  have HSAY : Hid (Calls Tryz.prog 22 #[vp Wb, .int .i64 2, .string d3] wc fun e w' => ∃ va vc, e = .returned (.slice va 1 vc) ∧ RAt G w D Wb cfgTurns S R4 w' ∧ OutsAt w' (.slice va 1 vc) [(1, sp [wVal, dc (10 * u + k), 118 :: dc (10 * u + k)])]) := by
                    rw [HD3.out.eq]
                    exact say_at HG.out HGD.out rfl HKY.out
                  obtain ⟨q1, q2, q3, -, p1, p2, p3⟩ := HD3.out
                  have q1 : (⟨#[100, 111, 110, 101, 32]⟩ : ByteArray) ++ sid = d1 := q1
                  have q2 : d1 ++ (⟨#[32, 49, 32, 118]⟩ : ByteArray) = d2 := q2
                  simp only [List.length_cons, List.length_nil, Nat.zero_add, Nat.reduceAdd] at p1 p2
                  clear HKX hpar ek0 ek1 HKY
                  go_wp2_with fail
                  refine HSAY.out.mono ?_
                  rintro e w4 ⟨va, vc, rfl, hk4, ho4⟩
                  have HK4 := Lib.hid hk4
                  have HO4 := Lib.hid ho4
                  obtain ⟨r1, r2, r3, -, n1, n2, n3⟩ := HV3.out
                  have r1 : (⟨#[118, 97, 108, 32]⟩ : ByteArray) ++ sid = v1 := r1
                  have r2 : v1 ++ (⟨#[32, 118]⟩ : ByteArray) = v2 := r2
                  simp only [List.length_cons, List.length_nil, Nat.zero_add, Nat.reduceAdd] at n1 n2
                  clear hk4 ho4 q1 q2 q3 p1 p2 p3 HSAY
                  go_wp2_with fail
                  have hsl := decF_len20 20 (10 * u + k)
                  have HSL : Hid ((sp [wVal, dc (10 * u + k), 118 :: dc (10 * u + k)]).length ≤ 1000) := show _ ≤ _ by simp [sp, words, wVal, dc, dec]; omega
                  refine (is_lits [(1, sp [wVal, dc (10 * u + k), 118 :: dc (10 * u + k)])] HK4.out HO4.out (below_alloc (below_alloc (Below.refl _ _))) (blk_alloc_of (blk_alloc_new _)) rfl (by have := blk_alloc_new (w4.alloc (.cells #[.int .i64 1] 3)) (o := .cells #[.string v3] 9); rw [World.size_alloc] at this; exact this) (by rw [HV3.out.eq]; rfl) rfl (by simp) (by simp) (fun p hp => by rw [List.mem_singleton] at hp; subst hp; exact HSL.out)).mono ?_
                  rintro e w5 ⟨rfl, hk5⟩
                  have HK5 : Hid (RAt G w D Wb cfgTurns S ((List.range' (u + 1) (t - (u + 1))).flatMap (fun t => turnRound t k) ++ R3) w5) := hk5.cast HR4.out
                  clear hk5 r1 r2 r3 n1 n2 n3 HK4 HO4 hsl
                  go_wp2_with fail
                  go_roundw
                  case rel => exact ⟨u + 1, by go_num, by omega, HK5.out⟩
                  case measure => simp [intOf]; omega
                · have hm1 : ((k : Int) + (u : Int)).tmod 2 = 1 := by rw [Int.tmod_eq_emod_of_nonneg ek0]; omega
                  have hm2 : ((k : Int) + (u : Int)) % 2 = 1 := by omega
                  have HK5 : Hid (RAt G w D Wb cfgTurns S ((List.range' (u + 1) (t - (u + 1))).flatMap (fun t => turnRound t k) ++ R3) wc) := HKX.out.cast (by rw [if_neg hpar, List.nil_append, HR4.out])
                  clear HKX hpar ek0 ek1
                  go_wp2_with fail
                  go_roundw
                  case rel => exact ⟨u + 1, by go_num, by omega, HK5.out⟩
                  case measure => simp [intOf]; omega
            · obtain rfl : u = t := by omega
              have hlt3 : decide ((u : Int) < (u : Int)) = false := by simp
              have HKU : Hid (RAt G w D Wb cfgTurns S (tR u es (k + 1) ++ [((.say 2 [112, 117, 108, 108], []) : E1)]) wr) := HK.out.cast (by rw [flat_end, List.nil_append, HR3.out])
              clear HK
              go_wp2_with fail
              go_roundw
              case rel => exact ⟨k + 1, by go_num, by omega, HKU.out⟩
              case measure => simp [intOf]; omega
        · obtain rfl : k = es := by omega
          have hlt2 : decide ((k : Int) < (k : Int)) = false := by simp
          have HKT : Hid (RAt G w D Wb cfgTurns S [((.say 2 [112, 117, 108, 108], []) : E1)] wr) := HK.out.cast (by unfold tR; rw [flat_end, List.nil_append])
          clear HK
          go_wp2_with fail
          refine (say_at HG.out HGD.out (n := 0) rfl HKT.out).mono ?_
          rintro e w3 ⟨va3, vc3, rfl, hk3, -⟩
          have HK4 := Lib.hid hk3
          have cW4 := HK4.out.cell
          obtain ⟨a1, b1, hlk⟩ := HL2.out
          have HLK := Lib.hid hlk
          clear hk3 HKT hlk HL2
          go_wp2_with fail
          refine (rlook_calls HGD.out HK4.out HLK.out).mono ?_
          rintro e w4 ⟨rfl, hk5⟩
          have HK5 := Lib.hid hk5
          have cW5 := HK5.out.cell
          have hf3 : (Instr.field 52 (.agg #[vi a1, vi 0, vi b1, vi 1]) 3).run Tryz.prog w4 = .ok (vi 1) w4 := look_field3 _ _ _ _ _
          clear hk5 cW4 HK4
          go_wp2_with fail
          refine (rlook_calls HGD.out HK5.out HLK.out).mono ?_
          rintro e w5 ⟨rfl, hk6⟩
          have HB6 := Lib.hid hk6.at_.below
          have hf1 : (Instr.field 52 (.agg #[vi a1, vi 0, vi b1, vi 1]) 1).run Tryz.prog w5 = .ok (vi 0) w5 := look_field1 _ _ _ _ _
          clear hk6 cW5 HK5 hf3
          go_wp2_with fail
          go_ret
          exact ⟨rfl, HB6.out⟩
end Go.Proofs.YtaejfobbogahmaaGreatDoor
