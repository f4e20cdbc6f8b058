/-
  The walk of Capped.
-/
import Derived.Test.YtaejfobbogahmaaGreatDoorMkStep
set_option linter.unusedVariables false
set_option linter.unusedSimpArgs false
namespace Go.Proofs.YtaejfobbogahmaaGreatDoor
open Go Go.RowKit

def cpA (id : Nat) : E1 := (.say 1 [115, 117, 98, 32, fg id, 32, 116, 32, 120], [(1, [97, 99, 99, 32, fg id])])
def cpB (l id : Nat) : E1 := (.say (2 + (id : Int)) [112, 117, 108, 108], if id < l then [(2 + (id : Int), [114, 117, 110, 32, fg id, 32, 49, 32, 116, 32, 120])] else [])
def cpC (l k : Nat) : E1 := (.say (2 + (k : Int)) [100, 111, 110, 101, 32, fg k, 32, 49, 32, 121], [(1, [118, 97, 108, 32, fg k, 32, 121]), (2 + (l : Int) + (k : Int), [114, 117, 110, 32, fg (l + k), 32, 49, 32, 116, 32, 120])])
theorem dc_fg {n : Nat} (h : n < 10) : dc n = [fg n] := dec_small h
theorem capped_eq {l m : Nat} (h : l + m ≤ 10) : cappedScript l m = (List.range' 0 (l + m)).map cpA ++ ((List.range' 0 (l + m)).map (cpB l) ++ (List.range' 0 m).map (cpC l)) := by
  unfold cappedScript
  rw [← List.range_eq_range', ← List.range_eq_range']
  congr 1
  · refine List.map_congr_left (fun id hid => ?_)
    rw [List.mem_range] at hid
    rw [dc_fg (by omega)]; rfl
  · congr 1
    · refine List.map_congr_left (fun id hid => ?_)
      rw [List.mem_range] at hid
      rw [dc_fg (by omega)]
      unfold ev cpB
      congr 1
      split <;> rfl
    · refine List.map_congr_left (fun k hk => ?_)
      rw [List.mem_range] at hk
      rw [dc_fg (n := k) (by omega), dc_fg (n := l + k) (by omega)]
      rfl
theorem range_map {k n : Nat} (h : k < n) (f : Nat → E1) (r : Script) : (List.range' k (n - k)).map f ++ r = f k :: ((List.range' (k + 1) (n - (k + 1))).map f ++ r) := by
  rw [show n - k = (n - (k + 1)) + 1 from by omega, List.range'_succ]; rfl
theorem range_end (n : Nat) (f : Nat → E1) (r : Script) : (List.range' n (n - n)).map f ++ r = r := by rw [Nat.sub_self]; rfl

theorem capped_good {l m : Nat} (hl : l < 5) (hm : m < 3) : Good (cfgCapped (l + 1)) (cappedScript (l + 1) (m + 1)) := by
  have hok := capped_ok l hl m hm
  unfold cappedOk at hok
  simp only [Bool.and_eq_true, decide_eq_true_eq] at hok
  refine ⟨?_, ?_, hok.1.1, ?_⟩
  · have : ∀ l < 5, cfgOk (cfgCapped (l + 1)) = true := by decide
    exact this l hl
  · have : ∀ l < 5, ∀ m < 3, ∀ e ∈ cappedScript (l + 1) (m + 1), evLen e.1 ≤ 100 := by decide +kernel
    exact this l hl m hm
  · have : ∀ l < 5, ∀ m < 3, (cappedScript (l + 1) (m + 1)).length ≤ 100000 := by decide +kernel
    exact this l hl m hm
theorem capped_looks {l m : Nat} (hl : l < 5) (hm : m < 3) : lookOf (stRest (cfgCapped (l + 1)) (cappedScript (l + 1) (m + 1)) ((List.range' 0 (m + 1)).map (cpC (l + 1)))) = (0, m + 1, l + 1, m + 1) ∧
    lookOf (stRest (cfgCapped (l + 1)) (cappedScript (l + 1) (m + 1)) []) = (0, 0, l + 1, 0) := by
  have hok := capped_ok l hl m hm
  unfold cappedOk at hok
  simp only [Bool.and_eq_true, decide_eq_true_eq] at hok
  have hlen : (cappedScript (l + 1) (m + 1)).length = 2 * (l + 1 + (m + 1)) + (m + 1) := by
    unfold cappedScript; simp; omega
  refine ⟨?_, ?_⟩
  · unfold stRest
    rw [hlen, List.length_map, List.length_range', Nat.add_sub_cancel]
    exact hok.1.2
  · unfold stRest
    rw [hlen]
    exact hok.2

set_option maxRecDepth 100000 in
set_option maxHeartbeats 4000000 in
theorem Capped_walk {G : Nat} {w : World} (hE : Env G w) (hG : G ≤ w.heap.size) (a b : Int) (ha : -9223372036854775808 ≤ a ∧ a ≤ 9223372036854775807) (hb : -9223372036854775808 ≤ b ∧ b ≤ 9223372036854775807) :
    Calls Tryz.prog 5 #[vi a, vi b] w fun e w' => e = .returned (.bool true) ∧ Below w.heap.size w w' := by
  obtain ⟨l, hl, hpa⟩ := pick_fix a 5 ha (by omega) (by omega)
  obtain ⟨m, hm, hpb⟩ := pick_fix b 3 hb (by omega) (by omega)
  have HPA := Lib.hid hpa
  have HPB := Lib.hid hpb
  have HG := Lib.hid hG
  have hgd := capped_good hl hm
  have hlk := capped_looks hl hm
  have heq := capped_eq (l := l + 1) (m := m + 1) (by omega)
  obtain ⟨lim, hlim⟩ : ∃ lim : Nat, lim = l + 1 := ⟨_, rfl⟩
  obtain ⟨more, hmore⟩ : ∃ more : Nat, more = m + 1 := ⟨_, rfl⟩
  rw [← hlim, ← hmore] at hgd hlk heq
  have HGD := Lib.hid hgd
  have HLK := Lib.hid hlk
  have HEQ := Lib.hid heq
  have HLM := Lib.hid (show (1 : Int) + (l : Int) = (lim : Int) ∧ (1 : Int) + (m : Int) = (more : Int) by omega)
  have HBG := Lib.hid (begin_at hE hG hgd)
  have hl1 : 1 ≤ lim := by omega
  have hl2 : lim ≤ 5 := by omega
  have hm1 : 1 ≤ more := by omega
  have hm2 : more ≤ 3 := by omega
  clear hE hG ha hb hpa hpb hgd hlk heq hlim hmore
  go_enter Tryz.func5, Tryz.ntmps5
  go_wp2_with fail
  refine (HPA.out _).mono ?_
  rintro e w1 ⟨rfl, rfl⟩
  go_wp2_with fail
  refine (HPB.out _).mono ?_
  rintro e w1 ⟨rfl, rfl⟩
  go_wp2_with fail
  simp only [HLM.out.1, HLM.out.2]
  refine HBG.out.mono ?_
  rintro e w1 ⟨D, Wb, rfl, hk⟩
  obtain ⟨S, hS⟩ : ∃ S, S = cappedScript lim more := ⟨_, rfl⟩
  rw [← hS] at hk HLK HGD HEQ
  have HK1 := Lib.hid (hk.cast HEQ.out)
  clear hk hS HEQ HBG HPA HPB HLM hl hm
  obtain ⟨n, hn⟩ : ∃ n, n = lim + more := ⟨_, rfl⟩
  rw [← hn] at HK1
  have HN := Lib.hid (show ((n : Int) = (lim : Int) + (more : Int)) by omega)
  have hn2 : n ≤ 8 := by omega
  clear hn
  go_wp2_with fail
  go_loopw [7, 29] (fun _ s29 wr => ∃ k : Nat, s29 = .int .i64 k ∧ k ≤ n ∧ Hid (RAt G w D Wb (cfgCapped lim) S ((List.range' k (n - k)).map cpA ++ ((List.range' 0 n).map (cpB lim) ++ (List.range' 0 more).map (cpC lim))) wr)) (fun _ s29 _ => n - (intOf s29).toNat)
  case atStart => exact ⟨0, by go_num, Nat.zero_le _, HK1.out⟩
  case round =>
    obtain ⟨k, rfl, hk, HK⟩ := hrel
    by_cases hkl : k < n
    · have hlt : decide ((k : Int) < (lim : Int) + (more : Int)) = true := decide_eq_true (by have := HN.out; omega)
      have hk9 : k < 10 := by omega
      have HKT := Lib.hid (HK.out.cast (range_map hkl cpA _))
      go_wp2_with fail
      refine (figures_fg k hk9 _).mono ?_
      rintro e w2 ⟨rfl, hb⟩
      have HK2 := Lib.hid (HKT.out.grow hb)
      have e1 : (⟨#[115, 117, 98, 32]⟩ : ByteArray) ++ bs [fg k] = ⟨#[115, 117, 98, 32, fg k]⟩ := rfl
      have e2 : (⟨#[115, 117, 98, 32, fg k]⟩ : ByteArray) ++ (⟨#[32, 116, 32, 120]⟩ : ByteArray) = ⟨#[115, 117, 98, 32, fg k, 32, 116, 32, 120]⟩ := rfl
      have e3 : (bs [fg k]).size = 1 := rfl
      clear hb HKT HK
      go_wp2_with fail
      refine (say_at HG.out HGD.out (n := 1) rfl HK2.out).mono ?_
      rintro e w3 ⟨va, vc, rfl, hk3, ho⟩
      have HK3 := Lib.hid hk3
      have HO3 := Lib.hid ho
      have HA3 : Hid (Below w3.heap.size w3 (w3.alloc (.cells #[.int .i64 1] 3)) ∧ (w3.alloc (.cells #[.int .i64 1] 3)).heap[w3.heap.size]? = some (.cells #[.int .i64 1] 3 (0, 0))) := ⟨below_alloc (Below.refl _ _), blk_alloc_new _⟩
      clear hk3 ho HK2 e1 e2
      go_wp2_with fail
      refine (figures_fg k hk9 _).mono ?_
      rintro e w4 ⟨rfl, hb⟩
      have HB4 := Lib.hid hb
      have e1 : (⟨#[97, 99, 99, 32]⟩ : ByteArray) ++ bs [fg k] = ⟨#[97, 99, 99, 32, fg k]⟩ := rfl
      clear hb
      go_wp2_with fail
      refine (is_lits [(1, [97, 99, 99, 32, fg k])] HK3.out HO3.out (below_alloc (below_grow HA3.out.1 HB4.out)) (blk_alloc_of (blk_below HB4.out HA3.out.2)) rfl (blk_alloc_new _) rfl rfl (by simp) (by simp) (by simp)).mono ?_
      rintro e w5 ⟨rfl, hk5⟩
      have HK5 := Lib.hid hk5
      clear hk5 e1 e3 HK3 HO3 HA3 HB4
      go_wp2_with fail
      go_roundw
      case rel => exact ⟨k + 1, by go_num, by omega, HK5.out⟩
      case measure => simp [intOf]; omega
    · obtain rfl : k = n := by omega
      have hlt : decide ((k : Int) < (lim : Int) + (more : Int)) = false := decide_eq_false (by have := HN.out; omega)
      have HKT := Lib.hid (HK.out.cast (range_end k cpA _))
      clear HK
      go_wp2_with fail
      go_loopw [8, 9, 49] (fun _ _ s49 wr => ∃ j : Nat, s49 = .int .i64 j ∧ j ≤ k ∧ Hid (RAt G w D Wb (cfgCapped lim) S ((List.range' j (k - j)).map (cpB lim) ++ (List.range' 0 more).map (cpC lim)) wr)) (fun _ _ s49 _ => k - (intOf s49).toNat)
      case atStart => exact ⟨0, by go_num, Nat.zero_le _, HKT.out⟩
      case round =>
        obtain ⟨j, rfl, hj, HK⟩ := hrel
        by_cases hjl : j < k
        · have hlt2 : decide ((j : Int) < (lim : Int) + (more : Int)) = true := decide_eq_true (by have := HN.out; omega)
          have hj9 : j < 10 := by omega
          have HKJ := Lib.hid (HK.out.cast (range_map hjl (cpB lim) _))
          by_cases hjm : j < lim
          · have hc1 : decide ((j : Int) < (lim : Int)) = true := decide_eq_true (by omega)
            have hc2 : decide ((j : Int) ≥ (lim : Int)) = false := decide_eq_false (by omega)
            have HX : Hid (cpB lim j = (.say (2 + (j : Int)) [112, 117, 108, 108], [(2 + (j : Int), [114, 117, 110, 32, fg j, 32, 49, 32, 116, 32, 120])])) := show _ = _ by unfold cpB; rw [if_pos hjm]
            have HKX := Lib.hid (HKJ.out.cast (congrArg (· :: _) HX.out))
            clear HK HKJ HX
            go_wp2_with fail
            refine (say_at HG.out HGD.out (n := 1) rfl HKX.out).mono ?_
            rintro e w3 ⟨va, vc, rfl, hk3, ho⟩
            have HK3 := Lib.hid hk3
            have HO3 := Lib.hid ho
            have HA3 : Hid (Below w3.heap.size w3 (w3.alloc (.cells #[.int .i64 (2 + (j : Int))] 3)) ∧ (w3.alloc (.cells #[.int .i64 (2 + (j : Int))] 3)).heap[w3.heap.size]? = some (.cells #[.int .i64 (2 + (j : Int))] 3 (0, 0))) := ⟨below_alloc (Below.refl _ _), blk_alloc_new _⟩
            clear hk3 ho HKX
            go_wp2_with fail
            refine (figures_fg j hj9 _).mono ?_
            rintro e w4 ⟨rfl, hb⟩
            have HB4 := Lib.hid hb
            have e1 : (⟨#[114, 117, 110, 32]⟩ : ByteArray) ++ bs [fg j] = ⟨#[114, 117, 110, 32, fg j]⟩ := rfl
            have e2 : (⟨#[114, 117, 110, 32, fg j]⟩ : ByteArray) ++ (⟨#[32, 49, 32, 116, 32, 120]⟩ : ByteArray) = ⟨#[114, 117, 110, 32, fg j, 32, 49, 32, 116, 32, 120]⟩ := rfl
            have e3 : (bs [fg j]).size = 1 := rfl
            clear hb
            go_wp2_with fail
            refine (is_lits [(2 + (j : Int), [114, 117, 110, 32, fg j, 32, 49, 32, 116, 32, 120])] HK3.out HO3.out (below_alloc (below_grow HA3.out.1 HB4.out)) (blk_alloc_of (blk_below HB4.out HA3.out.2)) rfl (blk_alloc_new _) rfl rfl (by simp) (by simp) (by simp)).mono ?_
            rintro e w5 ⟨rfl, hk5⟩
            have HK5 := Lib.hid hk5
            clear hk5 e1 e2 e3 HK3 HO3 HA3 HB4
            go_wp2_with fail
            go_roundw
            case rel => exact ⟨j + 1, by go_num, by omega, HK5.out⟩
            case measure => simp [intOf]; omega
          · have hc1 : decide ((j : Int) < (lim : Int)) = false := decide_eq_false (by omega)
            have hc2 : decide ((j : Int) ≥ (lim : Int)) = true := decide_eq_true (by omega)
            have HX : Hid (cpB lim j = (.say (2 + (j : Int)) [112, 117, 108, 108], [])) := show _ = _ by unfold cpB; rw [if_neg hjm]
            have HKX := Lib.hid (HKJ.out.cast (congrArg (· :: _) HX.out))
            clear HK HKJ HX
            go_wp2_with fail
            refine (say_at HG.out HGD.out (n := 0) rfl HKX.out).mono ?_
            rintro e w3 ⟨va, vc, rfl, hk3, -⟩
            have HK3 := Lib.hid hk3
            clear hk3 HKX
            go_wp2_with fail
            go_roundw
            case rel => exact ⟨j + 1, by go_num, by omega, HK3.out⟩
            case measure => simp [intOf]; omega
        · obtain rfl : j = k := by omega
          have hlt2 : decide ((j : Int) < (lim : Int) + (more : Int)) = false := decide_eq_false (by have := HN.out; omega)
          have HKJ := Lib.hid (HK.out.cast (range_end j (cpB lim) _))
          have cWj := HKJ.out.cell
          clear HK HKT
          go_wp2_with fail
          refine (rlook_calls HGD.out HKJ.out HLK.out.1).mono ?_
          rintro e w6 ⟨rfl, hk6⟩
          have HK6 := Lib.hid hk6
          clear hk6
          go_wp2_with fail
          go_loopw [10, 11, 94] (fun _ _ s94 wr => ∃ i : Nat, s94 = .int .i64 i ∧ i ≤ more ∧ Hid (RAt G w D Wb (cfgCapped lim) S ((List.range' i (more - i)).map (cpC lim) ++ []) wr)) (fun _ _ s94 _ => more - (intOf s94).toNat)
          case atStart => exact ⟨0, by go_num, Nat.zero_le _, HK6.out.cast (List.append_nil _).symm⟩
          case round =>
            obtain ⟨i, rfl, hi, HK⟩ := hrel
            by_cases him : i < more
            · have hlt3 : decide ((i : Int) < (more : Int)) = true := decide_eq_true (by omega)
              have hi9 : i < 10 := by omega
              have hi10 : lim + i < 10 := by omega
              have HKI := Lib.hid (HK.out.cast (range_map him (cpC lim) _))
              clear HK
              go_wp2_with fail
              refine (figures_fg i hi9 _).mono ?_
              rintro e w7 ⟨rfl, hb⟩
              have HK7 := Lib.hid (HKI.out.grow hb)
              have e1 : (⟨#[100, 111, 110, 101, 32]⟩ : ByteArray) ++ bs [fg i] = ⟨#[100, 111, 110, 101, 32, fg i]⟩ := rfl
              have e2 : (⟨#[100, 111, 110, 101, 32, fg i]⟩ : ByteArray) ++ (⟨#[32, 49, 32, 121]⟩ : ByteArray) = ⟨#[100, 111, 110, 101, 32, fg i, 32, 49, 32, 121]⟩ := rfl
              have e3 : (bs [fg i]).size = 1 := rfl
              clear hb HKI
              go_wp2_with fail
              refine (say_at HG.out HGD.out (n := 2) rfl HK7.out).mono ?_
              rintro e w8 ⟨va, vc, rfl, hk8, ho⟩
              have HK8 := Lib.hid hk8
              have HO8 := Lib.hid ho
              have HA8 : Hid (Below w8.heap.size w8 (w8.alloc (.cells #[.int .i64 1, .int .i64 (2 + (lim : Int) + (i : Int))] 3)) ∧ (w8.alloc (.cells #[.int .i64 1, .int .i64 (2 + (lim : Int) + (i : Int))] 3)).heap[w8.heap.size]? = some (.cells #[.int .i64 1, .int .i64 (2 + (lim : Int) + (i : Int))] 3 (0, 0))) := ⟨below_alloc (Below.refl _ _), blk_alloc_new _⟩
              clear hk8 ho HK7 e1 e2
              go_wp2_with fail
              refine (figures_fg i hi9 _).mono ?_
              rintro e w9 ⟨rfl, hb⟩
              have HB9 := Lib.hid hb
              have e1 : (⟨#[118, 97, 108, 32]⟩ : ByteArray) ++ bs [fg i] = ⟨#[118, 97, 108, 32, fg i]⟩ := rfl
              have e2 : (⟨#[118, 97, 108, 32, fg i]⟩ : ByteArray) ++ (⟨#[32, 121]⟩ : ByteArray) = ⟨#[118, 97, 108, 32, fg i, 32, 121]⟩ := rfl
              clear hb
              go_wp2_with fail
              refine (figures_fg (lim + i) hi10 _).mono ?_
              rintro e w10 ⟨rfl, hb⟩
              have HB10 := Lib.hid hb
              have e4 : (⟨#[114, 117, 110, 32]⟩ : ByteArray) ++ bs [fg (lim + i)] = ⟨#[114, 117, 110, 32, fg (lim + i)]⟩ := rfl
              have e5 : (⟨#[114, 117, 110, 32, fg (lim + i)]⟩ : ByteArray) ++ (⟨#[32, 49, 32, 116, 32, 120]⟩ : ByteArray) = ⟨#[114, 117, 110, 32, fg (lim + i), 32, 49, 32, 116, 32, 120]⟩ := rfl
              have e6 : (bs [fg (lim + i)]).size = 1 := rfl
              clear hb
              go_wp2_with fail
              refine (is_lits [(1, [118, 97, 108, 32, fg i, 32, 121]), (2 + (lim : Int) + (i : Int), [114, 117, 110, 32, fg (lim + i), 32, 49, 32, 116, 32, 120])] HK8.out HO8.out (below_alloc (below_grow (below_grow HA8.out.1 HB9.out) HB10.out)) (blk_alloc_of (blk_below HB10.out (blk_below HB9.out HA8.out.2))) rfl (blk_alloc_new _) rfl rfl (by simp) (by simp) (by simp)).mono ?_
              rintro e w11 ⟨rfl, hk11⟩
              have HK11 := Lib.hid hk11
              clear hk11 e1 e2 e3 e4 e5 e6 HK8 HO8 HA8 HB9 HB10
              go_wp2_with fail
              go_roundw
              case rel => exact ⟨i + 1, by go_num, by omega, HK11.out⟩
              case measure => simp [intOf]; omega
            · obtain rfl : i = more := by omega
              have hlt3 : decide ((i : Int) < (i : Int)) = false := by simp
              have HKI := Lib.hid (HK.out.cast (range_end i (cpC lim) _))
              have cWi := HKI.out.cell
              clear HK HK6
              go_wp2_with fail
              refine (rlook_calls HGD.out HKI.out HLK.out.2).mono ?_
              rintro e w12 ⟨rfl, hk12⟩
              have HB12 := Lib.hid hk12.at_.below
              clear hk12
              go_wp2_with fail
              go_ret
              exact ⟨rfl, HB12.out⟩
end Go.Proofs.YtaejfobbogahmaaGreatDoor
