/-
  The walk of Drained.
-/
import Derived.Test.YtaejfobbogahmaaGreatDoorMkStep
import Derived.Test.YtaejfobbogahmaaGreatDoorMkClose
set_option linter.unusedVariables false
set_option linter.unusedSimpArgs false
namespace Go.Proofs.YtaejfobbogahmaaGreatDoor
open Go Go.RowKit

theorem close_is {G D Wb : Nat} {w0 w : World} {cfg : Cfg} {l rest : Script} (hG : G ≤ w0.heap.size) (hg : Good cfg l) {c : Int} {x : List (Int × Bytes)} {n : Nat} (hn : x.length = n) (h : RAt G w0 D Wb cfg l ((.close c, x) :: rest) w) :
    Calls Tryz.prog 28 #[vp D, vi c] w fun e w' => ∃ va vc, e = .returned (.slice va n vc) ∧ RAt G w0 D Wb cfg l rest w' ∧ OutsAt w' (.slice va n vc) x := by
  obtain ⟨h1, h2, h3⟩ := left_cons h.left
  have hl : l.length - (((.close c, x) : E1) :: rest).length ≤ 100000 := by have := hg.isFew; omega
  obtain ⟨hI, hF, ho⟩ := st_inv hg.isCfg hg.isShort (l.length - (((.close c, x) : E1) :: rest).length)
  obtain ⟨ρ, L, r1, r2, r3⟩ := h.at_.rep
  refine (Close_calls r1 h.at_.env hI (by unfold NB; omega) (by unfold NB; omega) c).mono ?_
  intro e w' hp
  have hx : (rClose (stRest cfg l ((.close c, x) :: rest)) c).out = seals x := ok_at hg.isOk h1
  obtain ⟨v, rfl, k, o⟩ := h.at_.told hG r1 r2 r3 hp hx
  obtain ⟨va, vc, rfl, _, _⟩ := SlAt.form' o
  subst hn
  have hr : stRest cfg l rest = rTold (rClose (stRest cfg l ((.close c, x) :: rest)) c) := by
    unfold stRest
    rw [← h2, st_next h1]; rfl
  exact ⟨va, vc, rfl, ⟨by rw [hr]; exact k, h3⟩, o⟩

def dA (id : Nat) : E1 := (.say 1 [115, 117, 98, 32, fg id, 32, 116, 32, 120], [(1, [97, 99, 99, 32, fg id])])
def dB (id : Nat) : E1 := (.say 2 [112, 117, 108, 108], [(2, [114, 117, 110, 32, fg id, 32, 49, 32, 116, 32, 120])])
def dC (n id : Nat) : E1 := (.say 2 [100, 111, 110, 101, 32, fg id, 32, 49, 32, 121], (1, [118, 97, 108, 32, fg id, 32, 121]) :: if id = n - 1 then [(2, [98, 121, 101])] else [])
/-- Of who drains and has work. -/
def dTail (n : Nat) (close : Bool) : Script := (.say 2 [100, 114, 97, 105, 110], []) :: (.say 2 [112, 117, 108, 108], []) :: (.say 3 [112, 117, 108, 108], [(3, [114, 117, 110, 32, fg n, 32, 49, 32, 116, 32, 120])]) ::
  (if close then [(.close 2, []), (.say 2 [112, 117, 108, 108], [(2, [114, 117, 110, 32, fg (n - 1), 32, 50, 32, 116, 32, 120])])] else
    (List.range' 0 n).map (dC n) ++ [(.say 2 [100, 114, 97, 105, 110], []), (.say 2 [112, 117, 108, 108], [])])
def dTail0 : Script := [(.say 2 [100, 114, 97, 105, 110], [(2, [98, 121, 101])]), (.say 2 [112, 117, 108, 108], []), (.say 2 [100, 114, 97, 105, 110], [])]
def dRest (n : Nat) (close : Bool) : Script := if n = 0 then dTail0 else dTail n close
theorem dc_fg2 {n : Nat} (h : n < 10) : dc n = [fg n] := dec_small h
theorem drained_eq {n : Nat} (h : n ≤ 5) (cl : Bool) : drainedScript n cl = (List.range' 0 (n + 1)).map dA ++ ((List.range' 0 n).map dB ++ dRest n cl) := by
  unfold drainedScript drainedHead
  rw [List.append_assoc, ← List.range_eq_range', ← List.range_eq_range']
  congr 1
  · refine List.map_congr_left (fun id hid => ?_)
    rw [List.mem_range] at hid
    rw [dc_fg2 (by omega)]; rfl
  · congr 1
    · refine List.map_congr_left (fun id hid => ?_)
      rw [List.mem_range] at hid
      rw [dc_fg2 (by omega)]; rfl
    · unfold drainedTail dRest
      split
      · rfl
      · unfold dTail
        rw [dc_fg2 (n := n) (by omega), dc_fg2 (n := n - 1) (by omega), ← List.range_eq_range']
        cases cl with
        | true => rfl
        | false =>
          have : ((List.range n).map fun id => ev 2 (sp [kDone, dc id, o1, oY]) ((1, sp [wVal, dc id, oY]) :: if id = n - 1 then [(2, wBye)] else [])) = (List.range n).map (dC n) := by
            refine List.map_congr_left (fun id hid => ?_)
            rw [List.mem_range] at hid
            rw [dc_fg2 (n := id) (by omega)]
            unfold ev dC
            split <;> rfl
          simp only [Bool.false_eq_true, if_false]
          rw [this]; rfl
theorem rangeD_map {k n : Nat} (h : k < n) (f : Nat → E1) (r : Script) : (List.range' k (n - k)).map f ++ r = f k :: ((List.range' (k + 1) (n - (k + 1))).map f ++ r) := by
  rw [show n - k = (n - (k + 1)) + 1 from by omega, List.range'_succ]; rfl
theorem rangeD_end (n : Nat) (f : Nat → E1) (r : Script) : (List.range' n (n - n)).map f ++ r = r := by rw [Nat.sub_self]; rfl

theorem drained_good {n : Nat} (hn : n < 5) (cl : Bool) : Good cfgDrained (drainedScript n cl) := by
  have hok := drained_ok n hn cl
  unfold drainedOk at hok
  simp only [Bool.and_eq_true] at hok
  refine ⟨by decide, ?_, hok.1, ?_⟩
  · have : ∀ n < 5, ∀ cl, ∀ e ∈ drainedScript n cl, evLen e.1 ≤ 100 := by decide +kernel
    exact this n hn cl
  · have : ∀ n < 5, ∀ cl, (drainedScript n cl).length ≤ 100000 := by decide +kernel
    exact this n hn cl
theorem drained_look {n : Nat} (hn : n < 5) (h0 : n ≠ 0) : ∃ a b c, lookOf (stRest cfgDrained (drainedScript n true) [(.say 2 [112, 117, 108, 108], [(2, [114, 117, 110, 32, fg (n - 1), 32, 50, 32, 116, 32, 120])])]) = (a, n, b, c) := by
  have hok := drained_ok n hn true
  unfold drainedOk at hok
  simp [h0] at hok
  have hlen : (drainedScript n true).length = 2 * n + 6 := by
    unfold drainedScript drainedHead drainedTail
    rw [if_neg h0]
    simp; omega
  obtain ⟨r, hr⟩ : ∃ r, r = stRest cfgDrained (drainedScript n true) [(.say 2 [112, 117, 108, 108], [(2, [114, 117, 110, 32, fg (n - 1), 32, 50, 32, 116, 32, 120])])] := ⟨_, rfl⟩
  have h2 : sumLens r.queues = n := by
    rw [hr]
    unfold stRest
    rw [hlen]
    exact hok.2
  rw [← hr]
  exact ⟨r.now, r.atts.length, r.waiting.length, by unfold lookOf; rw [h2]⟩

set_option maxRecDepth 100000 in
set_option maxHeartbeats 4000000 in
theorem Drained_walk {G : Nat} {w : World} (hE : Env G w) (hG : G ≤ w.heap.size) (a : Int) (cl : Bool) (ha : -9223372036854775808 ≤ a ∧ a ≤ 9223372036854775807) :
    Calls Tryz.prog 12 #[vi a, .bool cl] w fun e w' => e = .returned (.bool true) ∧ Below w.heap.size w w' := by
  obtain ⟨n, hn, hpa⟩ := pick_fix a 5 ha (by omega) (by omega)
  have HPA := Lib.hid hpa
  have HG := Lib.hid hG
  have HGD := Lib.hid (drained_good hn cl)
  have HEQ := Lib.hid (drained_eq (n := n) (by omega) cl)
  have HLK : Hid (cl = true → n ≠ 0 → ∃ a b c, lookOf (stRest cfgDrained (drainedScript n true) [(.say 2 [112, 117, 108, 108], [(2, [114, 117, 110, 32, fg (n - 1), 32, 50, 32, 116, 32, 120])])]) = (a, n, b, c)) := fun _ h0 => drained_look hn h0
  have HBG := Lib.hid (begin_at hE hG HGD.out)
  clear hE hG ha hpa
  go_enter Tryz.func12, Tryz.ntmps12
  go_wp2_with fail
  refine (HPA.out _).mono ?_
  rintro e w1 ⟨rfl, rfl⟩
  go_wp2_with fail
  refine HBG.out.mono ?_
  rintro e w1 ⟨D, Wb, rfl, hk⟩
  have HK1 := Lib.hid (hk.cast HEQ.out)
  obtain ⟨m, hm⟩ : ∃ m, m = n + 1 := ⟨_, rfl⟩
  rw [← hm] at HK1
  have HM := Lib.hid (show (m : Int) = (n : Int) + 1 by omega)
  have hm6 : m ≤ 5 := by omega
  clear hk HEQ HBG HPA hm
  go_wp2_with fail
  go_loopw [7, 23] (fun _ s23 wr => ∃ k : Nat, s23 = .int .i64 k ∧ k ≤ m ∧ Hid (RAt G w D Wb cfgDrained (drainedScript n cl) ((List.range' k (m - k)).map dA ++ ((List.range' 0 n).map dB ++ dRest n cl)) wr)) (fun _ s23 _ => m - (intOf s23).toNat)
  case atStart => exact ⟨0, by go_num, Nat.zero_le _, HK1.out⟩
  case round =>
    obtain ⟨k, rfl, hk, HK⟩ := hrel
    by_cases hkl : k < m
    · have hlt : decide ((k : Int) < (n : Int) + 1) = true := decide_eq_true (by have := HM.out; omega)
      have hk9 : k < 10 := by omega
      have HKT := Lib.hid (HK.out.cast (rangeD_map hkl dA _))
      clear HK
      go_wp2_with fail
      refine (figures_fg k hk9 _).mono ?_
      rintro e w2 ⟨rfl, hb⟩
      have HK2 := Lib.hid (HKT.out.grow hb)
      have e1 : (⟨#[115, 117, 98, 32]⟩ : ByteArray) ++ bs [fg k] = ⟨#[115, 117, 98, 32, fg k]⟩ := rfl
      have e2 : (⟨#[115, 117, 98, 32, fg k]⟩ : ByteArray) ++ (⟨#[32, 116, 32, 120]⟩ : ByteArray) = ⟨#[115, 117, 98, 32, fg k, 32, 116, 32, 120]⟩ := rfl
      have e3 : (bs [fg k]).size = 1 := rfl
      clear hb HKT
      go_wp2_with fail
      refine (say_at HG.out HGD.out (n := 1) rfl HK2.out).mono ?_
      rintro e w3 ⟨va, vc, rfl, hk3, -⟩
      have HK3 := Lib.hid hk3
      clear hk3 HK2 e1 e2 e3
      go_wp2_with fail
      go_roundw
      case rel => exact ⟨k + 1, by go_num, by omega, HK3.out⟩
      case measure => simp [intOf]; omega
    · obtain rfl : k = m := by omega
      have hlt : decide ((k : Int) < (n : Int) + 1) = false := decide_eq_false (by have := HM.out; omega)
      have HKT := Lib.hid (HK.out.cast (rangeD_end k dA _))
      clear HK
      go_wp2_with fail
      go_loopw [8, 34] (fun _ s34 wr => ∃ k : Nat, s34 = .int .i64 k ∧ k ≤ n ∧ Hid (RAt G w D Wb cfgDrained (drainedScript n cl) ((List.range' k (n - k)).map dB ++ dRest n cl) wr)) (fun _ s34 _ => n - (intOf s34).toNat)
      case atStart => exact ⟨0, by go_num, Nat.zero_le _, HKT.out⟩
      case round =>
        obtain ⟨k, rfl, hk, HK⟩ := hrel
        by_cases hkl : k < n
        · have hlt2 : decide ((k : Int) < (n : Int)) = true := decide_eq_true (by omega)
          have hk9 : k < 10 := by omega
          have HKT := Lib.hid (HK.out.cast (rangeD_map hkl dB _))
          clear HK
          go_wp2_with fail
          refine (say_at HG.out HGD.out (n := 1) rfl HKT.out).mono ?_
          rintro e w3 ⟨va, vc, rfl, hk3, ho⟩
          have HK3 := Lib.hid hk3
          have HO3 := Lib.hid ho
          have HA3 : Hid (Below w3.heap.size w3 (w3.alloc (.cells #[.int .i64 2] 3)) ∧ (w3.alloc (.cells #[.int .i64 2] 3)).heap[w3.heap.size]? = some (.cells #[.int .i64 2] 3 (0, 0))) := ⟨below_alloc (Below.refl _ _), blk_alloc_new _⟩
          clear hk3 ho HKT
          go_wp2_with fail
          refine (figures_fg k hk9 _).mono ?_
          rintro e w4 ⟨rfl, hb⟩
          have HB4 := Lib.hid hb
          have e1 : (⟨#[114, 117, 110, 32]⟩ : ByteArray) ++ bs [fg k] = ⟨#[114, 117, 110, 32, fg k]⟩ := rfl
          have e2 : (⟨#[114, 117, 110, 32, fg k]⟩ : ByteArray) ++ (⟨#[32, 49, 32, 116, 32, 120]⟩ : ByteArray) = ⟨#[114, 117, 110, 32, fg k, 32, 49, 32, 116, 32, 120]⟩ := rfl
          have e3 : (bs [fg k]).size = 1 := rfl
          clear hb
          go_wp2_with fail
          refine (is_lits [(2, [114, 117, 110, 32, fg k, 32, 49, 32, 116, 32, 120])] HK3.out HO3.out (below_alloc (below_grow HA3.out.1 HB4.out)) (blk_alloc_of (blk_below HB4.out HA3.out.2)) rfl (blk_alloc_new _) rfl rfl (by simp) (by simp) (by simp)).mono ?_
          rintro e w5 ⟨rfl, hk5⟩
          have HK5 := Lib.hid hk5
          clear hk5 e1 e2 e3 HK3 HO3 HA3 HB4
          go_wp2_with fail
          go_roundw
          case rel => exact ⟨k + 1, by go_num, by omega, HK5.out⟩
          case measure => simp [intOf]; omega
        · obtain rfl : k = n := by omega
          have hlt2 : decide ((k : Int) < (k : Int)) = false := by simp
          have HKT := Lib.hid (HK.out.cast (rangeD_end k dB _))
          clear HK
          by_cases h0 : k = 0
          · have hz1 : ((k : Int) == 0) = true := by simp [h0]
            have hz2 : decide ((k : Int) = 0) = true := by simp [h0]
            have HT0 := Lib.hid (HKT.out.cast (show dRest k cl = dTail0 from if_pos h0))
            have HT0 : Hid (RAt G w D Wb cfgDrained (drainedScript k cl) [(.say 2 [100, 114, 97, 105, 110], [(2, [98, 121, 101])]), (.say 2 [112, 117, 108, 108], []), (.say 2 [100, 114, 97, 105, 110], [])] wr) := HT0.out
            clear h0 HKT
            go_wp2_with fail
            refine (say_at HG.out HGD.out (n := 1) rfl HT0.out).mono ?_
            rintro e w3 ⟨va, vc, rfl, hk3, ho⟩
            have HK3 := Lib.hid hk3
            have HO3 := Lib.hid ho
            clear hk3 ho HT0
            go_wp2_with fail
            refine (is_one HK3.out HO3.out (by decide)).mono ?_
            rintro e w4 ⟨rfl, hk4⟩
            have HK4 := Lib.hid hk4
            clear hk4 HK3 HO3
            go_wp2_with fail
            refine (say_at HG.out HGD.out (n := 0) rfl HK4.out).mono ?_
            rintro e w5 ⟨va5, vc5, rfl, hk5, -⟩
            have HK5 := Lib.hid hk5
            clear hk5 HK4
            go_wp2_with fail
            refine (say_at HG.out HGD.out (n := 0) rfl HK5.out).mono ?_
            rintro e w6 ⟨va6, vc6, rfl, hk6, -⟩
            have HB6 := Lib.hid hk6.at_.below
            clear hk6 HK5
            go_wp2_with fail
            go_ret
            exact ⟨rfl, HB6.out⟩
          · have hz1 : ((k : Int) == 0) = false := by simp [h0]
            have hz2 : decide ((k : Int) = 0) = false := by simp [h0]
            have HT0 := Lib.hid (HKT.out.cast (show dRest k cl = dTail k cl from if_neg h0))
            obtain ⟨p, hp⟩ : ∃ p, k = p + 1 := ⟨k - 1, by omega⟩
            have HP := Lib.hid (show (k : Int) - 1 = (p : Int) ∧ k - 1 = p by omega)
            have H0 := Lib.hid h0
            have hp4 : p < 5 := by omega
            have hp9 : p < 10 := by omega
            have hk1 : 1 ≤ k := by omega
            clear h0 HKT hp
            go_wp2_with fail
            refine (say_at HG.out HGD.out (n := 0) rfl HT0.out).mono ?_
            rintro e w3 ⟨va, vc, rfl, hk3, -⟩
            have HK3 := Lib.hid hk3
            clear hk3 HT0
            go_wp2_with fail
            refine (say_at HG.out HGD.out (n := 0) rfl HK3.out).mono ?_
            rintro e w4 ⟨va4, vc4, rfl, hk4, -⟩
            have HK4 := Lib.hid hk4
            clear hk4 HK3
            go_wp2_with fail
            refine (say_at HG.out HGD.out (n := 1) rfl HK4.out).mono ?_
            rintro e w5 ⟨va5, vc5, rfl, hk5, -⟩
            have HK5 := Lib.hid hk5
            clear hk5 HK4
            cases cl with
            | true =>
              have HK6 : Hid (RAt G w D Wb cfgDrained (drainedScript k true) [(.close 2, []), (.say 2 [112, 117, 108, 108], [(2, [114, 117, 110, 32, fg (k - 1), 32, 50, 32, 116, 32, 120])])] w5) := HK5.out
              have cW5 := HK6.out.cell
              obtain ⟨a1, b1, c1, hlk⟩ := HLK.out rfl H0.out
              have HLK2 := Lib.hid hlk
              clear HK5 hlk HLK
              go_wp2_with fail
              refine (close_is HG.out HGD.out (n := 0) rfl HK6.out).mono ?_
              rintro e w6 ⟨va6, vc6, rfl, hk6, -⟩
              have HK7 := Lib.hid hk6
              have cW6 := HK7.out.cell
              clear hk6 HK6 cW5
              go_wp2_with fail
              refine (rlook_calls HGD.out HK7.out HLK2.out).mono ?_
              rintro e w7 ⟨rfl, hk7⟩
              have HK8 : Hid (RAt G w D Wb cfgDrained (drainedScript k true) [(.say 2 [112, 117, 108, 108], [(2, [114, 117, 110, 32, fg p, 32, 50, 32, 116, 32, 120])])] w7) := hk7.cast (by rw [HP.out.2])
              have hfl : (Instr.field 52 (.agg #[vi a1, vi k, vi b1, vi c1]) 1).run Tryz.prog w7 = .ok (vi k) w7 := look_field1 _ _ _ _ _
              have hne : ((k : Int) != (k : Int)) = false := by simp
              clear hk7 cW6 HK7
              go_wp2_with fail
              refine (say_at HG.out HGD.out (n := 1) rfl HK8.out).mono ?_
              rintro e w8 ⟨va8, vc8, rfl, hk8, ho8⟩
              have HK9 := Lib.hid hk8
              have HO9 := Lib.hid ho8
              have HA9 : Hid (Below w8.heap.size w8 (w8.alloc (.cells #[.int .i64 2] 3)) ∧ (w8.alloc (.cells #[.int .i64 2] 3)).heap[w8.heap.size]? = some (.cells #[.int .i64 2] 3 (0, 0))) := ⟨below_alloc (Below.refl _ _), blk_alloc_new _⟩
              have HFG : Hid (∀ w : World, Calls Tryz.prog 23 #[.int .i64 ((k : Int) - 1)] w fun e w' => e = .returned (vs (bs [fg p])) ∧ Below w.heap.size w w') := fun w => by rw [HP.out.1]; exact figures_fg p hp9 w
              clear hk8 ho8 HK8 hfl hne
              go_wp2_with fail
              refine (HFG.out _).mono ?_
              rintro e w9 ⟨rfl, hb⟩
              have HB9 := Lib.hid hb
              have e1 : (⟨#[114, 117, 110, 32]⟩ : ByteArray) ++ bs [fg p] = ⟨#[114, 117, 110, 32, fg p]⟩ := rfl
              have e2 : (⟨#[114, 117, 110, 32, fg p]⟩ : ByteArray) ++ (⟨#[32, 50, 32, 116, 32, 120]⟩ : ByteArray) = ⟨#[114, 117, 110, 32, fg p, 32, 50, 32, 116, 32, 120]⟩ := rfl
              have e3 : (bs [fg p]).size = 1 := rfl
              clear hb
              go_wp2_with fail
              refine (is_lits [(2, [114, 117, 110, 32, fg p, 32, 50, 32, 116, 32, 120])] HK9.out HO9.out (below_alloc (below_grow HA9.out.1 HB9.out)) (blk_alloc_of (blk_below HB9.out HA9.out.2)) rfl (blk_alloc_new _) rfl rfl (by simp) (by simp) (by simp)).mono ?_
              rintro e w10 ⟨rfl, hk10⟩
              have HB10 := Lib.hid hk10.at_.below
              clear hk10 e1 e2 e3 HK9 HO9 HA9 HB9
              go_wp2_with fail
              go_ret
              exact ⟨rfl, HB10.out⟩
            | false =>
              have HK6 : Hid (RAt G w D Wb cfgDrained (drainedScript k false) ((List.range' 0 (k - 0)).map (dC k) ++ [(.say 2 [100, 114, 97, 105, 110], []), (.say 2 [112, 117, 108, 108], [])]) w5) := HK5.out
              clear HK5 HLK
              go_wp2_with fail
              go_loopw [10, 11, 112] (fun _ _ s112 wr => ∃ i : Nat, s112 = .int .i64 i ∧ i ≤ k ∧ Hid (RAt G w D Wb cfgDrained (drainedScript k false) ((List.range' i (k - i)).map (dC k) ++ [(.say 2 [100, 114, 97, 105, 110], []), (.say 2 [112, 117, 108, 108], [])]) wr)) (fun _ _ s112 _ => k - (intOf s112).toNat)
              case atStart => exact ⟨0, by go_num, Nat.zero_le _, HK6.out⟩
              case round =>
                obtain ⟨i, rfl, hi, HK⟩ := hrel
                by_cases hil : i < k
                · have hlt3 : decide ((i : Int) < (k : Int)) = true := decide_eq_true (by omega)
                  have hi9 : i < 10 := by omega
                  have HKI := Lib.hid (HK.out.cast (rangeD_map hil (dC k) _))
                  clear HK
                  go_wp2_with fail
                  refine (figures_fg i hi9 _).mono ?_
                  rintro e w7 ⟨rfl, hb⟩
                  have HK7 := Lib.hid (HKI.out.grow hb)
                  have e1 : (⟨#[100, 111, 110, 101, 32]⟩ : ByteArray) ++ bs [fg i] = ⟨#[100, 111, 110, 101, 32, fg i]⟩ := rfl
                  have e2 : (⟨#[100, 111, 110, 101, 32, fg i]⟩ : ByteArray) ++ (⟨#[32, 49, 32, 121]⟩ : ByteArray) = ⟨#[100, 111, 110, 101, 32, fg i, 32, 49, 32, 121]⟩ := rfl
                  have e3 : (bs [fg i]).size = 1 := rfl
                  have e4 : (⟨#[118, 97, 108, 32]⟩ : ByteArray) ++ bs [fg i] = ⟨#[118, 97, 108, 32, fg i]⟩ := rfl
                  have e5 : (⟨#[118, 97, 108, 32, fg i]⟩ : ByteArray) ++ (⟨#[32, 121]⟩ : ByteArray) = ⟨#[118, 97, 108, 32, fg i, 32, 121]⟩ := rfl
                  clear hb HKI
                  by_cases hip : i < p
                  · have hx1 : decide ((i : Int) < (k : Int) - 1) = true := decide_eq_true (by have := HP.out.1; omega)
                    have hx2 : ((i : Int) == (k : Int) - 1) = false := beq_eq_false_iff_ne.2 (by have := HP.out.1; omega)
                    have hx3 : decide ((i : Int) = (k : Int) - 1) = false := decide_eq_false (by have := HP.out.1; omega)
                    have HX : Hid (dC k i = (.say 2 [100, 111, 110, 101, 32, fg i, 32, 49, 32, 121], [(1, [118, 97, 108, 32, fg i, 32, 121])])) := show _ = _ by unfold dC; rw [if_neg (by have := HP.out.2; omega)]
                    have HK8 := Lib.hid (HK7.out.cast (congrArg (· :: _) HX.out))
                    clear HK7 HX
                    go_wp2_with fail
                    refine (say_at HG.out HGD.out (n := 1) rfl HK8.out).mono ?_
                    rintro e w8 ⟨va8, vc8, rfl, hk8, ho⟩
                    have HK9 := Lib.hid hk8
                    have HO9 := Lib.hid ho
                    have HA9 : Hid (Below w8.heap.size w8 (w8.alloc (.cells #[.int .i64 1] 3)) ∧ (w8.alloc (.cells #[.int .i64 1] 3)).heap[w8.heap.size]? = some (.cells #[.int .i64 1] 3 (0, 0))) := ⟨below_alloc (Below.refl _ _), blk_alloc_new _⟩
                    clear hk8 ho HK8
                    go_wp2_with fail
                    refine (figures_fg i hi9 _).mono ?_
                    rintro e w9 ⟨rfl, hb⟩
                    have HB9 := Lib.hid hb
                    clear hb
                    go_wp2_with fail
                    refine (is_lits [(1, [118, 97, 108, 32, fg i, 32, 121])] HK9.out HO9.out (below_alloc (below_grow HA9.out.1 HB9.out)) (blk_alloc_of (blk_below HB9.out HA9.out.2)) rfl (blk_alloc_new _) rfl rfl (by simp) (by simp) (by simp)).mono ?_
                    rintro e w10 ⟨rfl, hk10⟩
                    have HK10 := Lib.hid hk10
                    clear hk10 e1 e2 e3 e4 e5 HK9 HO9 HA9 HB9
                    go_wp2_with fail
                    go_roundw
                    case rel => exact ⟨i + 1, by go_num, by omega, HK10.out⟩
                    case measure => simp [intOf]; omega
                  · have hx1 : decide ((i : Int) < (k : Int) - 1) = false := decide_eq_false (by have := HP.out.1; omega)
                    have hx2 : ((i : Int) == (k : Int) - 1) = true := beq_iff_eq.2 (by have := HP.out; omega)
                    have hx3 : decide ((i : Int) = (k : Int) - 1) = true := decide_eq_true (by have := HP.out; omega)
                    have HX : Hid (dC k i = (.say 2 [100, 111, 110, 101, 32, fg i, 32, 49, 32, 121], [(1, [118, 97, 108, 32, fg i, 32, 121]), (2, [98, 121, 101])])) := show _ = _ by unfold dC; rw [if_pos (by have := HP.out; omega)]
                    have HK8 := Lib.hid (HK7.out.cast (congrArg (· :: _) HX.out))
                    clear HK7 HX
                    go_wp2_with fail
                    refine (say_at HG.out HGD.out (n := 2) rfl HK8.out).mono ?_
                    rintro e w8 ⟨va8, vc8, rfl, hk8, ho⟩
                    have HK9 := Lib.hid hk8
                    have HO9 := Lib.hid ho
                    have HA9 : Hid (Below w8.heap.size w8 (w8.alloc (.cells #[.int .i64 1, .int .i64 2] 3)) ∧ (w8.alloc (.cells #[.int .i64 1, .int .i64 2] 3)).heap[w8.heap.size]? = some (.cells #[.int .i64 1, .int .i64 2] 3 (0, 0))) := ⟨below_alloc (Below.refl _ _), blk_alloc_new _⟩
                    clear hk8 ho HK8
                    go_wp2_with fail
                    refine (figures_fg i hi9 _).mono ?_
                    rintro e w9 ⟨rfl, hb⟩
                    have HB9 := Lib.hid hb
                    clear hb
                    go_wp2_with fail
                    refine (is_lits [(1, [118, 97, 108, 32, fg i, 32, 121]), (2, [98, 121, 101])] HK9.out HO9.out (below_alloc (below_grow HA9.out.1 HB9.out)) (blk_alloc_of (blk_below HB9.out HA9.out.2)) rfl (blk_alloc_new _) rfl rfl (by simp) (by simp) (by simp)).mono ?_
                    rintro e w10 ⟨rfl, hk10⟩
                    have HK10 := Lib.hid hk10
                    clear hk10 e1 e2 e3 e4 e5 HK9 HO9 HA9 HB9
                    go_wp2_with fail
                    go_roundw
                    case rel => exact ⟨i + 1, by go_num, by omega, HK10.out⟩
                    case measure => simp [intOf]; omega
                · obtain rfl : i = k := by omega
                  have hlt3 : decide ((i : Int) < (i : Int)) = false := by simp
                  have HKI := Lib.hid (HK.out.cast (rangeD_end i (dC i) _))
                  clear HK
                  go_wp2_with fail
                  refine (say_at HG.out HGD.out (n := 0) rfl HKI.out).mono ?_
                  rintro e w7 ⟨va7, vc7, rfl, hk7, -⟩
                  have HK7 := Lib.hid hk7
                  clear hk7 HKI
                  go_wp2_with fail
                  refine (say_at HG.out HGD.out (n := 0) rfl HK7.out).mono ?_
                  rintro e w8 ⟨va8, vc8, rfl, hk8, -⟩
                  have HB8 := Lib.hid hk8.at_.below
                  clear hk8 HK7
                  go_wp2_with fail
                  go_ret
                  exact ⟨rfl, HB8.out⟩
end Go.Proofs.YtaejfobbogahmaaGreatDoor
