/-
  The walk of Leased.
-/
import Derived.Test.YtaejfobbogahmaaGreatDoorMkStep
import Derived.Test.YtaejfobbogahmaaGreatDoorMkLeasedE
set_option linter.unusedVariables false
set_option linter.unusedSimpArgs false
namespace Go.Proofs.YtaejfobbogahmaaGreatDoor
open Go Go.RowKit

/-- What follows the ticks of the n-th attempt. -/
def lTailR (lease : Nat) : Nat → Nat → Script
  | n, 0 => [(.tick, [(2, wStopN n), (1, [101, 114, 114, 32, 55])])]
  | n, left + 1 => (.tick, [(2, wStopN n)]) :: (.say 2 (wDoneN n), []) :: (.say 2 [112, 117, 108, 108], [(2, wRunN (n + 1))]) :: lTail lease (n + 1) left
theorem lTail_eq (lease n : Nat) : ∀ left, lTail lease n left = lTicks lease ++ lTailR lease n left
  | 0 => rfl
  | _ + 1 => rfl
theorem leased_eq (ls rt bt : Nat) : lScript ls rt bt = (.say 1 [115, 117, 98, 32, 55, 32, 116, 32, 120], [(1, [97, 99, 99, 32, 55])]) :: (.say 2 [112, 117, 108, 108], [(2, [114, 117, 110, 32, 55, 32, 49, 32, 116, 32, 120])]) ::
    (lBeats ls bt ++ (lTail ls 1 rt ++ lLast rt)) := by
  unfold lScript
  rw [List.append_assoc, List.append_assoc]
  rfl
theorem beats_eq {ls bt k : Nat} (h : k < bt) (R : Script) : lBeats ls (bt - k) ++ R = List.replicate (ls - 1 - 0) (.tick, []) ++ ((.say 2 [98, 101, 97, 116], []) :: (lBeats ls (bt - (k + 1)) ++ R)) := by
  rw [show bt - k = (bt - (k + 1)) + 1 from by omega]
  show (lTicks ls ++ (.say 2 [98, 101, 97, 116], []) :: lBeats ls (bt - (k + 1))) ++ R = _
  rw [List.append_assoc]; rfl
theorem rep_cons {m j : Nat} (h : j < m) (R : Script) : List.replicate (m - j) ((.tick, []) : E1) ++ R = (.tick, []) :: (List.replicate (m - (j + 1)) (.tick, []) ++ R) := by
  rw [show m - j = (m - (j + 1)) + 1 from by omega, List.replicate_succ]; rfl
theorem rep_end (m : Nat) (R : Script) : List.replicate (m - m) ((.tick, []) : E1) ++ R = R := by rw [Nat.sub_self]; rfl
theorem leased_good {ls rt bt : Nat} (h1 : 1 ≤ ls) (h2 : ls ≤ 20) (h3 : rt ≤ 5) (h4 : bt ≤ 30) : Good (lCfg ls rt) (lScript ls rt bt) := by
  refine ⟨?_, leased_short _ _ _, leased_ok h1 h3, leased_len h2 h3 h4⟩
  unfold cfgOk lCfg
  simp; omega
theorem leased_look {ls rt bt : Nat} (h1 : 1 ≤ ls) (h3 : rt ≤ 5) : ∃ n q u, lookOf (stRest (lCfg ls rt) (lScript ls rt bt) (lLast rt)) = (n, q, 0, u) := by
  have h := leased_last (beats := bt) h1 h3
  obtain ⟨r, hr⟩ : ∃ r, r = stRest (lCfg ls rt) (lScript ls rt bt) (lLast rt) := ⟨_, rfl⟩
  have h2 : r.atts.length = 0 := by rw [hr]; exact h
  rw [← hr]
  exact ⟨r.now, sumLens r.queues, r.waiting.length, by unfold lookOf; rw [h2]⟩

set_option maxRecDepth 100000 in
set_option maxHeartbeats 4000000 in
theorem Leased_walk {G : Nat} {w : World} (hE : Env G w) (hG : G ≤ w.heap.size) (a b c : Int) (ha : -9223372036854775808 ≤ a ∧ a ≤ 9223372036854775807) (hb : -9223372036854775808 ≤ b ∧ b ≤ 9223372036854775807) (hc : -9223372036854775808 ≤ c ∧ c ≤ 9223372036854775807) :
    Calls Tryz.prog 10 #[vi a, vi b, vi c] w fun e w' => e = .returned (.bool true) ∧ Below w.heap.size w w' := by
  obtain ⟨p, hp, hpa⟩ := pick_fix a 20 ha (by omega) (by omega)
  obtain ⟨rt, hrt, hpb⟩ := pick_fix b 6 hb (by omega) (by omega)
  obtain ⟨bt, hbt, hpc⟩ := pick_fix c 30 hc (by omega) (by omega)
  have HPA := Lib.hid hpa
  have HPB := Lib.hid hpb
  have HPC := Lib.hid hpc
  have HG := Lib.hid hG
  obtain ⟨ls, hls⟩ : ∃ ls : Nat, ls = p + 1 := ⟨_, rfl⟩
  have HGD := Lib.hid (leased_good (ls := ls) (rt := rt) (bt := bt) (by omega) (by omega) (by omega) (by omega))
  have HLK := Lib.hid (leased_look (ls := ls) (rt := rt) (bt := bt) (by omega) (by omega))
  have HEQ := Lib.hid (leased_eq ls rt bt)
  have HLS := Lib.hid (show (1 : Int) + (p : Int) = (ls : Int) by omega)
  have HBG := Lib.hid (begin_at hE hG HGD.out)
  have hl1 : 1 ≤ ls := by omega
  have hl2 : ls ≤ 20 := by omega
  clear hE hG ha hb hc hpa hpb hpc hls
  go_enter Tryz.func10, Tryz.ntmps10
  go_wp2_with fail
  refine (HPA.out _).mono ?_
  rintro e w1 ⟨rfl, rfl⟩
  go_wp2_with fail
  simp only [HLS.out]
  refine (HPB.out _).mono ?_
  rintro e w1 ⟨rfl, rfl⟩
  go_wp2_with fail
  refine (HPC.out _).mono ?_
  rintro e w1 ⟨rfl, rfl⟩
  go_wp2_with fail
  refine HBG.out.mono ?_
  rintro e w1 ⟨D, Wb, rfl, hk⟩
  obtain ⟨S, hS⟩ : ∃ S, S = lScript ls rt bt := ⟨_, rfl⟩
  rw [← hS] at hk HLK HGD HEQ
  have HK1 := Lib.hid (hk.cast HEQ.out)
  clear hk hS HEQ HBG HPA HPB HPC HLS
  go_wp2_with fail
  refine (say_at HG.out HGD.out (n := 1) rfl HK1.out).mono ?_
  rintro e w2 ⟨va, vc, rfl, hk, ho⟩
  have HK2 := Lib.hid hk
  have HO2 := Lib.hid ho
  clear hk ho HK1
  go_wp2_with fail
  refine (is_one HK2.out HO2.out (by decide)).mono ?_
  rintro e w3 ⟨rfl, hk⟩
  have HK3 := Lib.hid hk
  clear hk HK2 HO2
  go_wp2_with fail
  refine (say_at HG.out HGD.out (n := 1) rfl HK3.out).mono ?_
  rintro e w4 ⟨va4, vc4, rfl, hk, ho⟩
  have HK4 := Lib.hid hk
  have HO4 := Lib.hid ho
  clear hk ho HK3
  go_wp2_with fail
  refine (is_one HK4.out HO4.out (by decide)).mono ?_
  rintro e w5 ⟨rfl, hk⟩
  have HK5 := Lib.hid hk
  clear hk HK4 HO4
  go_wp2_with fail
  go_loopw [42] (fun s42 wr => ∃ k : Nat, s42 = .int .i64 k ∧ k ≤ bt ∧ Hid (RAt G w D Wb (lCfg ls rt) S (lBeats ls (bt - k) ++ (lTail ls 1 rt ++ lLast rt)) wr)) (fun s42 _ => bt - (intOf s42).toNat)
  case atStart => exact ⟨0, by go_num, Nat.zero_le _, HK5.out⟩
  case round =>
    obtain ⟨k, rfl, hk, HK⟩ := hrel
    by_cases hkl : k < bt
    · have hlt : decide ((k : Int) < (bt : Int)) = true := decide_eq_true (by omega)
      have HKT := Lib.hid (HK.out.cast (beats_eq hkl _))
      clear HK
      go_wp2_with fail
      go_loopw [46] (fun s46 wr => ∃ j : Nat, s46 = .int .i64 j ∧ j ≤ ls - 1 ∧ Hid (RAt G w D Wb (lCfg ls rt) S (List.replicate (ls - 1 - j) (.tick, []) ++ ((.say 2 [98, 101, 97, 116], []) :: (lBeats ls (bt - (k + 1)) ++ (lTail ls 1 rt ++ lLast rt)))) wr)) (fun s46 _ => (ls - 1) - (intOf s46).toNat)
      case atStart => exact ⟨0, by go_num, Nat.zero_le _, HKT.out⟩
      case round =>
        obtain ⟨j, rfl, hj, HK⟩ := hrel
        have cW := HK.out.cell
        by_cases hjl : j < ls - 1
        · have hlt2 : decide ((j : Int) < (ls : Int) - 1) = true := decide_eq_true (by omega)
          have HKJ := Lib.hid (HK.out.cast (rep_cons hjl _))
          clear HK
          go_wp2_with fail
          refine (tick_is HG.out HGD.out (n := 0) rfl HKJ.out).mono ?_
          rintro e w7 ⟨va7, vc7, rfl, hk7, -⟩
          have HK7 := Lib.hid hk7
          clear hk7 cW HKJ
          go_wp2_with fail
          go_roundw
          case rel => exact ⟨j + 1, by go_num, by omega, HK7.out⟩
          case measure => simp [intOf]; omega
        · obtain rfl : j = ls - 1 := by omega
          have hlt2 : decide (((ls - 1 : Nat) : Int) < (ls : Int) - 1) = false := decide_eq_false (by omega)
          have HKJ := Lib.hid (HK.out.cast (rep_end (ls - 1) _))
          clear HK cW
          go_wp2_with fail
          refine (say_at HG.out HGD.out (n := 0) rfl HKJ.out).mono ?_
          rintro e w7 ⟨va7, vc7, rfl, hk7, -⟩
          have HK7 := Lib.hid hk7
          clear hk7 HKJ
          go_wp2_with fail
          go_roundw
          case rel => exact ⟨k + 1, by go_num, by omega, HK7.out⟩
          case measure => simp [intOf]; omega
    · obtain rfl : k = bt := by omega
      have hlt : decide ((k : Int) < (k : Int)) = false := by simp
      have HKT : Hid (RAt G w D Wb (lCfg ls rt) S (lTail ls 1 (rt + 1 - 1) ++ lLast rt) wr) := HK.out.cast (by rw [Nat.sub_self]; rfl)
      clear HK
      go_wp2_with fail
      go_loopw [9, 10] (fun s9 _ wr => ∃ n : Nat, s9 = .int .i64 n ∧ 1 ≤ n ∧ n ≤ rt + 1 ∧ Hid (RAt G w D Wb (lCfg ls rt) S (lTail ls n (rt + 1 - n) ++ lLast rt) wr)) (fun s9 _ _ => rt + 1 - (intOf s9).toNat)
      case atStart => exact ⟨1, rfl, by omega, by omega, HKT.out⟩
      case round =>
        obtain ⟨n, rfl, hn1, hn2, HK⟩ := hrel
        have hle : decide ((n : Int) ≤ (rt : Int) + 1) = true := decide_eq_true (by omega)
        have hn9 : n < 10 := by omega
        have HKN : Hid (RAt G w D Wb (lCfg ls rt) S (List.replicate (ls - 1 - 0) (.tick, []) ++ (lTailR ls n (rt + 1 - n) ++ lLast rt)) wr) := HK.out.cast (by rw [lTail_eq, List.append_assoc]; rfl)
        clear HK
        go_wp2_with fail
        go_loopw [69] (fun s69 wr => ∃ j : Nat, s69 = .int .i64 j ∧ j ≤ ls - 1 ∧ Hid (RAt G w D Wb (lCfg ls rt) S (List.replicate (ls - 1 - j) (.tick, []) ++ (lTailR ls n (rt + 1 - n) ++ lLast rt)) wr)) (fun s69 _ => (ls - 1) - (intOf s69).toNat)
        case atStart => exact ⟨0, by go_num, Nat.zero_le _, HKN.out⟩
        case round =>
          obtain ⟨j, rfl, hj, HK⟩ := hrel
          have cW := HK.out.cell
          by_cases hjl : j < ls - 1
          · have hlt2 : decide ((j : Int) < (ls : Int) - 1) = true := decide_eq_true (by omega)
            have HKJ := Lib.hid (HK.out.cast (rep_cons hjl _))
            clear HK
            go_wp2_with fail
            refine (tick_is HG.out HGD.out (n := 0) rfl HKJ.out).mono ?_
            rintro e w7 ⟨va7, vc7, rfl, hk7, -⟩
            have HK7 := Lib.hid hk7
            clear hk7 cW HKJ
            go_wp2_with fail
            go_roundw
            case rel => exact ⟨j + 1, by go_num, by omega, HK7.out⟩
            case measure => simp [intOf]; omega
          · obtain rfl : j = ls - 1 := by omega
            have hlt2 : decide (((ls - 1 : Nat) : Int) < (ls : Int) - 1) = false := decide_eq_false (by omega)
            have HKJ := Lib.hid (HK.out.cast (rep_end (ls - 1) _))
            clear HK
            go_wp2_with fail
            refine (figures_fg n hn9 _).mono ?_
            rintro e w8 ⟨rfl, hb8⟩
            have HK8 := Lib.hid (HKJ.out.grow hb8)
            have cW8 := HK8.out.cell
            have e1 : (⟨#[115, 116, 111, 112, 32, 55, 32]⟩ : ByteArray) ++ bs [fg n] = ⟨#[115, 116, 111, 112, 32, 55, 32, fg n]⟩ := rfl
            have e3 : (bs [fg n]).size = 1 := rfl
            have e4 : (⟨#[100, 111, 110, 101, 32, 55, 32]⟩ : ByteArray) ++ bs [fg n] = ⟨#[100, 111, 110, 101, 32, 55, 32, fg n]⟩ := rfl
            have e5 : (⟨#[100, 111, 110, 101, 32, 55, 32, fg n]⟩ : ByteArray) ++ (⟨#[32, 121]⟩ : ByteArray) = ⟨#[100, 111, 110, 101, 32, 55, 32, fg n, 32, 121]⟩ := rfl
            clear hb8 cW HKJ
            by_cases hnl : n = rt + 1
            · have heq : decide ((n : Int) = (rt : Int) + 1) = true := decide_eq_true (by omega)
              have heq2 : ((n : Int) == (rt : Int) + 1) = true := by simp; omega
              have HK9 : Hid (RAt G w D Wb (lCfg ls rt) S ((.tick, [(2, [115, 116, 111, 112, 32, 55, 32, fg n]), (1, [101, 114, 114, 32, 55])]) :: lLast rt) w8) := HK8.out.cast (by rw [hnl, Nat.sub_self]; rfl)
              have HLE : Hid (lLast rt = [(.say 2 [100, 111, 110, 101, 32, 55, 32, fg n, 32, 121], [])]) := show _ = _ by rw [hnl]; rfl
              clear HK8 hnl
              go_wp2_with fail
              refine (tick_is HG.out HGD.out (n := 2) rfl HK9.out).mono ?_
              rintro e w9 ⟨va9, vc9, rfl, hk, ho⟩
              have HK10 := Lib.hid hk
              have HO10 := Lib.hid ho
              clear hk ho cW8 HK9
              go_wp2_with fail
              refine (is_two HK10.out HO10.out (by simp) (by decide)).mono ?_
              rintro e w10 ⟨rfl, hk⟩
              have HK11 := Lib.hid hk
              have cW10 := HK11.out.cell
              clear hk HK10 HO10
              go_wp2_with fail
              obtain ⟨n1, q1, u1, hlk⟩ := HLK.out
              refine (rlook_calls HGD.out HK11.out hlk).mono ?_
              rintro e w11 ⟨rfl, hk⟩
              have HK12 : Hid (RAt G w D Wb (lCfg ls rt) S [(.say 2 [100, 111, 110, 101, 32, 55, 32, fg n, 32, 121], [])] w11) := hk.cast HLE.out
              have hfl : (Instr.field 52 (.agg #[vi n1, vi q1, vi 0, vi u1]) 2).run Tryz.prog w11 = .ok (vi 0) w11 := look_field2 _ _ _ _ _
              clear hk hlk cW10 HK11
              go_wp2_with fail
              refine (figures_fg n hn9 _).mono ?_
              rintro e w12 ⟨rfl, hb⟩
              have HK13 := Lib.hid (HK12.out.grow hb)
              clear hb hfl HK12
              go_wp2_with fail
              refine (say_at HG.out HGD.out (n := 0) rfl HK13.out).mono ?_
              rintro e w13 ⟨va13, vc13, rfl, hk, -⟩
              have HB13 := Lib.hid hk.at_.below
              clear hk HK13 e1 e3 e4 e5
              go_wp2_with fail
              go_ret
              exact ⟨rfl, HB13.out⟩
            · have heq : decide ((n : Int) = (rt : Int) + 1) = false := decide_eq_false (by omega)
              have heq2 : ((n : Int) == (rt : Int) + 1) = false := by simp; omega
              have HK9 : Hid (RAt G w D Wb (lCfg ls rt) S ((.tick, [(2, [115, 116, 111, 112, 32, 55, 32, fg n])]) :: (.say 2 [100, 111, 110, 101, 32, 55, 32, fg n, 32, 121], []) :: (.say 2 [112, 117, 108, 108], [(2, [114, 117, 110, 32, 55, 32, fg (n + 1), 32, 116, 32, 120])]) :: (lTail ls (n + 1) (rt + 1 - (n + 1)) ++ lLast rt)) w8) := HK8.out.cast (by rw [show rt + 1 - n = (rt + 1 - (n + 1)) + 1 from by omega]; rfl)
              have hn3 : n ≤ rt := by omega
              clear HK8 hnl
              go_wp2_with fail
              refine (tick_is HG.out HGD.out (n := 1) rfl HK9.out).mono ?_
              rintro e w9 ⟨va9, vc9, rfl, hk, ho⟩
              have HK10 := Lib.hid hk
              have HO10 := Lib.hid ho
              clear hk ho cW8 HK9
              go_wp2_with fail
              refine (is_one HK10.out HO10.out (by simp)).mono ?_
              rintro e w10 ⟨rfl, hk⟩
              have HK11 := Lib.hid hk
              clear hk HK10 HO10
              go_wp2_with fail
              refine (figures_fg n hn9 _).mono ?_
              rintro e w12 ⟨rfl, hb⟩
              have HK13 := Lib.hid (HK11.out.grow hb)
              clear hb HK11
              go_wp2_with fail
              refine (say_at HG.out HGD.out (n := 0) rfl HK13.out).mono ?_
              rintro e w13 ⟨va13, vc13, rfl, hk, -⟩
              have HK14 := Lib.hid hk
              clear hk HK13 e1 e3 e4 e5
              go_wp2_with fail
              refine (say_at HG.out HGD.out (n := 1) rfl HK14.out).mono ?_
              rintro e w14 ⟨va14, vc14, rfl, hk, ho⟩
              have HK15 := Lib.hid hk
              have HO15 := Lib.hid ho
              have HA15 : Hid (Below w14.heap.size w14 (w14.alloc (.cells #[.int .i64 2] 3)) ∧ (w14.alloc (.cells #[.int .i64 2] 3)).heap[w14.heap.size]? = some (.cells #[.int .i64 2] 3 (0, 0))) := ⟨below_alloc (Below.refl _ _), blk_alloc_new _⟩
              have hn10 : n + 1 < 10 := by omega
              clear hk ho HK14
              go_wp2_with fail
              refine (figures_fg (n + 1) hn10 _).mono ?_
              rintro e w15 ⟨rfl, hb⟩
              have HB15 := Lib.hid hb
              have e1 : (⟨#[114, 117, 110, 32, 55, 32]⟩ : ByteArray) ++ bs [fg (n + 1)] = ⟨#[114, 117, 110, 32, 55, 32, fg (n + 1)]⟩ := rfl
              have e2 : (⟨#[114, 117, 110, 32, 55, 32, fg (n + 1)]⟩ : ByteArray) ++ (⟨#[32, 116, 32, 120]⟩ : ByteArray) = ⟨#[114, 117, 110, 32, 55, 32, fg (n + 1), 32, 116, 32, 120]⟩ := rfl
              have e3 : (bs [fg (n + 1)]).size = 1 := rfl
              clear hb
              go_wp2_with fail
              refine (is_lits [(2, [114, 117, 110, 32, 55, 32, fg (n + 1), 32, 116, 32, 120])] HK15.out HO15.out (below_alloc (below_grow HA15.out.1 HB15.out)) (blk_alloc_of (blk_below HB15.out HA15.out.2)) rfl (blk_alloc_new _) rfl rfl (by simp) (by simp) (by simp)).mono ?_
              rintro e w16 ⟨rfl, hk⟩
              have HK16 := Lib.hid hk
              clear hk e1 e2 e3 HK15 HO15 HA15 HB15
              go_wp2_with fail
              go_roundw
              case rel => exact ⟨n + 1, by go_num, by omega, by omega, HK16.out⟩
              case measure => simp [intOf]; omega
end Go.Proofs.YtaejfobbogahmaaGreatDoor
