/-
  The walk of Hedged.
-/
import Derived.Test.YtaejfobbogahmaaGreatDoorMkStep
set_option linter.unusedVariables false
set_option linter.unusedSimpArgs false
namespace Go.Proofs.YtaejfobbogahmaaGreatDoor
open Go Go.RowKit

theorem hedged_good {h a : Nat} (hh : h < 9) (ha : a < 2) : Good (cfgHedged (h + 1)) (hedgedScript (h + 1) a) := by
  have hok := hedged_ok h hh a ha
  unfold hedgedOk at hok
  simp only [Bool.and_eq_true, decide_eq_true_eq] at hok
  refine ⟨?_, ?_, hok.1, ?_⟩
  · have : ∀ h < 9, cfgOk (cfgHedged (h + 1)) = true := by decide
    exact this h hh
  · have : ∀ h < 9, ∀ a < 2, ∀ e ∈ hedgedScript (h + 1) a, evLen e.1 ≤ 100 := by decide +kernel
    exact this h hh a ha
  · have : ∀ h < 9, ∀ a < 2, (hedgedScript (h + 1) a).length ≤ 100000 := by decide +kernel
    exact this h hh a ha
theorem hedged_look {h a : Nat} (hh : h < 9) (ha : a < 2) : ∃ n q u, lookOf (stRest (cfgHedged (h + 1)) (hedgedScript (h + 1) a) [ev (3 - a) (sp [kDone, dc 7, dc (2 - a), oZ]) []]) = (n, q, 0, u) := by
  have : ∀ h < 9, ∀ a < 2, (lookOf (stRest (cfgHedged (h + 1)) (hedgedScript (h + 1) a) [ev (3 - a) (sp [kDone, dc 7, dc (2 - a), oZ]) []])).2.2.1 = 0 := by decide +kernel
  obtain ⟨n, hn⟩ : ∃ n, lookOf (stRest (cfgHedged (h + 1)) (hedgedScript (h + 1) a) [ev (3 - a) (sp [kDone, dc 7, dc (2 - a), oZ]) []]) = n := ⟨_, rfl⟩
  obtain ⟨n1, n2, n3, n4⟩ := n
  have h1 := this h hh a ha
  rw [hn] at h1 ⊢
  exact ⟨n1, n2, n4, by rw [show n3 = 0 from h1]⟩

/-- What follows the ticks. -/
def hedgedTail (a : Nat) : Script := [(.tick, [(3, [114, 117, 110, 32, 55, 32, 50, 32, 116, 32, 120])]), (.say 4 [112, 117, 108, 108], []), (.tick, []),
    ev (2 + a) (sp [kDone, dc 7, dc (1 + a), oY]) [(1, sp [wVal, dc 7, oY]), (3 - a, sp [wStop, dc 7, dc (2 - a)])], ev (3 - a) (sp [kDone, dc 7, dc (2 - a), oZ]) []]
theorem hedged_eq (h a : Nat) : hedgedScript (h + 1) a = (.say 1 [115, 117, 98, 32, 55, 32, 116, 32, 120], [(1, [97, 99, 99, 32, 55])]) :: (.say 2 [112, 117, 108, 108], [(2, [114, 117, 110, 32, 55, 32, 49, 32, 116, 32, 120])]) :: (.say 3 [112, 117, 108, 108], []) ::
    (List.replicate h (.tick, []) ++ hedgedTail a) := rfl
theorem hedged_last0 : [ev (2 + 0) (sp [kDone, dc 7, dc (1 + 0), oY]) [(1, sp [wVal, dc 7, oY]), (3 - 0, sp [wStop, dc 7, dc (2 - 0)])], ev (3 - 0) (sp [kDone, dc 7, dc (2 - 0), oZ]) []] =
    [(.say 2 [100, 111, 110, 101, 32, 55, 32, 49, 32, 121], [(1, [118, 97, 108, 32, 55, 32, 121]), (3, [115, 116, 111, 112, 32, 55, 32, 50])]), (.say 3 [100, 111, 110, 101, 32, 55, 32, 50, 32, 122], [])] := rfl
theorem hedged_last1 : [ev (2 + 1) (sp [kDone, dc 7, dc (1 + 1), oY]) [(1, sp [wVal, dc 7, oY]), (3 - 1, sp [wStop, dc 7, dc (2 - 1)])], ev (3 - 1) (sp [kDone, dc 7, dc (2 - 1), oZ]) []] =
    [(.say 3 [100, 111, 110, 101, 32, 55, 32, 50, 32, 121], [(1, [118, 97, 108, 32, 55, 32, 121]), (2, [115, 116, 111, 112, 32, 55, 32, 49])]), (.say 2 [100, 111, 110, 101, 32, 55, 32, 49, 32, 122], [])] := rfl

set_option maxRecDepth 100000 in
set_option maxHeartbeats 4000000 in
theorem Hedged_walk {G : Nat} {w : World} (hE : Env G w) (hG : G ≤ w.heap.size) (a b : Int) (ha : -9223372036854775808 ≤ a ∧ a ≤ 9223372036854775807) (hb : -9223372036854775808 ≤ b ∧ b ≤ 9223372036854775807) :
    Calls Tryz.prog 11 #[vi a, vi b] w fun e w' => e = .returned (.bool true) ∧ Below w.heap.size w w' := by
  obtain ⟨h, hh, hpa⟩ := pick_fix a 9 ha (by omega) (by omega)
  obtain ⟨c, hc, hpb⟩ := pick_fix b 2 hb (by omega) (by omega)
  have HPA := Lib.hid hpa
  have HPB := Lib.hid hpb
  have HG := Lib.hid hG
  have hgd := hedged_good hh hc
  have HLK := Lib.hid (hedged_look hh hc)
  obtain ⟨hd, hhd⟩ : ∃ hd : Nat, hd = h + 1 := ⟨_, rfl⟩
  have HEQ := Lib.hid (hedged_eq h c)
  rw [← hhd] at hgd HLK HEQ
  have HGD := Lib.hid hgd
  have HHE := Lib.hid (show (1 : Int) + (h : Int) = (hd : Int) ∧ (h : Int) + 1 = (hd : Int) ∧ (hd : Int) - 1 = (h : Int) by omega)
  have HBG := Lib.hid (begin_at hE hG hgd)
  have hd1 : 1 ≤ hd := by omega
  have hd2 : hd ≤ 9 := by omega
  clear hE hG ha hb hpa hpb hgd hhd
  go_enter Tryz.func11, Tryz.ntmps11
  go_wp2_with fail
  refine (HPA.out _).mono ?_
  rintro e w1 ⟨rfl, rfl⟩
  go_wp2_with fail
  simp only [HHE.out.1]
  refine HBG.out.mono ?_
  rintro e w1 ⟨D, Wb, rfl, hk⟩
  obtain ⟨S, hS⟩ : ∃ S, S = hedgedScript hd c := ⟨_, rfl⟩
  rw [← hS] at hk HLK HGD HEQ
  have HK1 := Lib.hid (hk.cast HEQ.out)
  clear hk hS HEQ
  go_wp2_with fail
  refine (say_at HG.out HGD.out (n := 1) rfl HK1.out).mono ?_
  rintro e w2 ⟨va, vc, rfl, hk, ho⟩
  have HK2 := Lib.hid hk
  have HO2 := Lib.hid ho
  clear hk ho
  go_wp2_with fail
  refine (is_one HK2.out HO2.out (by decide)).mono ?_
  rintro e w3 ⟨rfl, hk⟩
  have HK3 := Lib.hid hk
  clear hk HK2 HO2
  go_wp2_with fail
  refine (say_at HG.out HGD.out (n := 1) rfl HK3.out).mono ?_
  rintro e w4 ⟨va4, vc4, rfl, hk, ho⟩
  have HK4 := Lib.hid hk
  have HO4 := Lib.hid ho
  clear hk ho
  go_wp2_with fail
  refine (is_one HK4.out HO4.out (by decide)).mono ?_
  rintro e w5 ⟨rfl, hk⟩
  have HK5 := Lib.hid hk
  clear hk HK4 HO4
  go_wp2_with fail
  refine (say_at HG.out HGD.out (n := 0) rfl HK5.out).mono ?_
  rintro e w6 ⟨va6, vc6, rfl, hk, -⟩
  have HK6 := Lib.hid hk
  clear hk
  have hz : ((0 : Int) != 0) = false := rfl
  go_wp2_with fail
  go_loopw [44] (fun s44 wr => ∃ k : Nat, s44 = .int .i64 k ∧ k ≤ h ∧ Hid (RAt G w D Wb (cfgHedged hd) S (List.replicate (h - k) (.tick, []) ++ hedgedTail c) wr)) (fun s44 _ => h - (intOf s44).toNat)
  case atStart => exact ⟨0, by go_num, Nat.zero_le _, HK6.out⟩
  case round =>
    obtain ⟨k, rfl, hk, HK⟩ := hrel
    have cW := HK.out.cell
    by_cases hkl : k < h
    · have hlt : decide ((k : Int) < (hd : Int) - 1) = true := decide_eq_true (by have := HHE.out.2.2; omega)
      have HRP := Lib.hid (show List.replicate (h - k) ((.tick, []) : E1) ++ hedgedTail c = (.tick, []) :: (List.replicate (h - (k + 1)) (.tick, []) ++ hedgedTail c) by
        rw [show h - k = (h - (k + 1)) + 1 from by omega, List.replicate_succ]; rfl)
      have HKT := Lib.hid (HK.out.cast HRP.out)
      go_wp2_with fail
      refine (tick_is HG.out HGD.out (n := 0) rfl HKT.out).mono ?_
      rintro e w7 ⟨va7, vc7, rfl, hk7, -⟩
      have HK7 := Lib.hid hk7
      clear hk7 cW
      go_wp2_with fail
      go_roundw
      case rel => exact ⟨k + 1, by go_num, by omega, HK7.out⟩
      case measure => simp [intOf]; omega
    · obtain rfl : k = h := by omega
      have hlt : decide ((k : Int) < (hd : Int) - 1) = false := decide_eq_false (by have := HHE.out.2.2; omega)
      have HRP := Lib.hid (show List.replicate (k - k) ((.tick, []) : E1) ++ hedgedTail c = hedgedTail c by rw [Nat.sub_self]; rfl)
      have HKT := Lib.hid (HK.out.cast HRP.out)
      go_wp2_with fail
      refine (tick_is HG.out HGD.out (n := 1) rfl HKT.out).mono ?_
      rintro e w7 ⟨va7, vc7, rfl, hk, ho⟩
      have HK7 := Lib.hid hk
      have HO7 := Lib.hid ho
      clear hk ho cW HK HKT HRP
      go_wp2_with fail
      refine (is_one HK7.out HO7.out (by decide)).mono ?_
      rintro e w8 ⟨rfl, hk⟩
      have HK8 := Lib.hid hk
      clear hk HK7 HO7
      go_wp2_with fail
      refine (say_at HG.out HGD.out (n := 0) rfl HK8.out).mono ?_
      rintro e w9 ⟨va9, vc9, rfl, hk, -⟩
      have HK9 := Lib.hid hk
      have cW9 := HK9.out.cell
      clear hk HK8
      go_wp2_with fail
      refine (tick_is HG.out HGD.out (n := 0) rfl HK9.out).mono ?_
      rintro e w10 ⟨va10, vc10, rfl, hk, -⟩
      have HK10 := Lib.hid hk
      have cW10 := HK10.out.cell
      clear hk cW9 HK9
      go_wp2_with fail
      refine (HPB.out _).mono ?_
      rintro e w11 ⟨rfl, rfl⟩
      obtain rfl | rfl : c = 0 ∨ c = 1 := by omega
      · have HKA := Lib.hid (HK10.out.cast hedged_last0)
        obtain ⟨n, q, u, hlk⟩ := HLK.out
        have HLK2 := Lib.hid hlk
        clear hlk HK10 HLK
        go_wp2_with fail
        refine (figures_lit 1 [49] rfl (by omega) w10).mono ?_
        rintro e w12 ⟨rfl, hb⟩
        have HK12 := Lib.hid (HKA.out.grow hb)
        have e1 : (⟨#[100, 111, 110, 101, 32, 55, 32]⟩ : ByteArray) ++ bs [49] = ⟨#[100, 111, 110, 101, 32, 55, 32, 49]⟩ := rfl
        have e2 : (⟨#[100, 111, 110, 101, 32, 55, 32, 49]⟩ : ByteArray) ++ (⟨#[32, 121]⟩ : ByteArray) = ⟨#[100, 111, 110, 101, 32, 55, 32, 49, 32, 121]⟩ := rfl
        have e3 : (bs [49]).size = 1 := rfl
        clear hb HKA cW10
        go_wp2_with fail
        refine (say_at HG.out HGD.out (n := 2) rfl HK12.out).mono ?_
        rintro e w13 ⟨va13, vc13, rfl, hk, ho⟩
        have HK13 := Lib.hid hk
        have HO13 := Lib.hid ho
        have cW13 := HK13.out.cell
        have HA13 : Hid (Below w13.heap.size w13 (w13.alloc (.cells #[.int .i64 1, .int .i64 3] 3)) ∧ (w13.alloc (.cells #[.int .i64 1, .int .i64 3] 3)).heap[w13.heap.size]? = some (.cells #[.int .i64 1, .int .i64 3] 3 (0, 0))) := ⟨below_alloc (Below.refl _ _), blk_alloc_new _⟩
        clear hk ho HK12 e1 e2 e3
        go_wp2_with fail
        refine (figures_lit 2 [50] rfl (by omega) _).mono ?_
        rintro e w14 ⟨rfl, hb⟩
        have HB14 := Lib.hid hb
        have e1 : (⟨#[115, 116, 111, 112, 32, 55, 32]⟩ : ByteArray) ++ bs [50] = ⟨#[115, 116, 111, 112, 32, 55, 32, 50]⟩ := rfl
        have e3 : (bs [50]).size = 1 := rfl
        have cW14 : w14.cell? ⟨Wb, 0, none⟩ = some (vp D) := (HK13.out.grow (below_grow HA13.out.1 HB14.out)).cell
        clear hb
        go_wp2_with fail
        refine (is_lits [(1, [118, 97, 108, 32, 55, 32, 121]), (3, [115, 116, 111, 112, 32, 55, 32, 50])] HK13.out HO13.out (below_alloc (below_grow HA13.out.1 HB14.out)) (blk_alloc_of (blk_below HB14.out HA13.out.2)) rfl (blk_alloc_new _) rfl rfl (by simp) (by simp) (by decide)).mono ?_
        rintro e w15 ⟨rfl, hk⟩
        have HK15 := Lib.hid hk
        have cW15 := HK15.out.cell
        clear hk e1 e3 cW14
        go_wp2_with fail
        refine (rlook_calls HGD.out HK15.out HLK2.out).mono ?_
        rintro e w16 ⟨rfl, hk⟩
        have HK16 := Lib.hid hk
        have hfl : (Instr.field 52 (.agg #[vi n, vi q, vi 0, vi u]) 2).run Tryz.prog w16 = .ok (vi 0) w16 := look_field2 _ _ _ _ _
        clear hk cW15
        go_wp2_with fail
        refine (figures_lit 2 [50] rfl (by omega) _).mono ?_
        rintro e w17 ⟨rfl, hb⟩
        have HK17 := Lib.hid (HK16.out.grow hb)
        have e1 : (⟨#[100, 111, 110, 101, 32, 55, 32]⟩ : ByteArray) ++ bs [50] = ⟨#[100, 111, 110, 101, 32, 55, 32, 50]⟩ := rfl
        have e2 : (⟨#[100, 111, 110, 101, 32, 55, 32, 50]⟩ : ByteArray) ++ (⟨#[32, 122]⟩ : ByteArray) = ⟨#[100, 111, 110, 101, 32, 55, 32, 50, 32, 122]⟩ := rfl
        have e3 : (bs [50]).size = 1 := rfl
        clear hb hfl
        go_wp2_with fail
        refine (say_at HG.out HGD.out (n := 0) rfl HK17.out).mono ?_
        rintro e w18 ⟨va18, vc18, rfl, hk, -⟩
        have HB18 := Lib.hid hk.at_.below
        clear hk e1 e2 e3
        go_wp2_with fail
        go_ret
        exact ⟨rfl, HB18.out⟩
      · have HKA := Lib.hid (HK10.out.cast hedged_last1)
        obtain ⟨n, q, u, hlk⟩ := HLK.out
        have HLK2 := Lib.hid hlk
        clear hlk HK10 HLK
        go_wp2_with fail
        refine (figures_lit 2 [50] rfl (by omega) w10).mono ?_
        rintro e w12 ⟨rfl, hb⟩
        have HK12 := Lib.hid (HKA.out.grow hb)
        have e1 : (⟨#[100, 111, 110, 101, 32, 55, 32]⟩ : ByteArray) ++ bs [50] = ⟨#[100, 111, 110, 101, 32, 55, 32, 50]⟩ := rfl
        have e2 : (⟨#[100, 111, 110, 101, 32, 55, 32, 50]⟩ : ByteArray) ++ (⟨#[32, 121]⟩ : ByteArray) = ⟨#[100, 111, 110, 101, 32, 55, 32, 50, 32, 121]⟩ := rfl
        have e3 : (bs [50]).size = 1 := rfl
        clear hb HKA cW10
        go_wp2_with fail
        refine (say_at HG.out HGD.out (n := 2) rfl HK12.out).mono ?_
        rintro e w13 ⟨va13, vc13, rfl, hk, ho⟩
        have HK13 := Lib.hid hk
        have HO13 := Lib.hid ho
        have cW13 := HK13.out.cell
        have HA13 : Hid (Below w13.heap.size w13 (w13.alloc (.cells #[.int .i64 1, .int .i64 2] 3)) ∧ (w13.alloc (.cells #[.int .i64 1, .int .i64 2] 3)).heap[w13.heap.size]? = some (.cells #[.int .i64 1, .int .i64 2] 3 (0, 0))) := ⟨below_alloc (Below.refl _ _), blk_alloc_new _⟩
        clear hk ho HK12 e1 e2 e3
        go_wp2_with fail
        refine (figures_lit 1 [49] rfl (by omega) _).mono ?_
        rintro e w14 ⟨rfl, hb⟩
        have HB14 := Lib.hid hb
        have e1 : (⟨#[115, 116, 111, 112, 32, 55, 32]⟩ : ByteArray) ++ bs [49] = ⟨#[115, 116, 111, 112, 32, 55, 32, 49]⟩ := rfl
        have e3 : (bs [49]).size = 1 := rfl
        have cW14 : w14.cell? ⟨Wb, 0, none⟩ = some (vp D) := (HK13.out.grow (below_grow HA13.out.1 HB14.out)).cell
        clear hb
        go_wp2_with fail
        refine (is_lits [(1, [118, 97, 108, 32, 55, 32, 121]), (2, [115, 116, 111, 112, 32, 55, 32, 49])] HK13.out HO13.out (below_alloc (below_grow HA13.out.1 HB14.out)) (blk_alloc_of (blk_below HB14.out HA13.out.2)) rfl (blk_alloc_new _) rfl rfl (by simp) (by simp) (by decide)).mono ?_
        rintro e w15 ⟨rfl, hk⟩
        have HK15 := Lib.hid hk
        have cW15 := HK15.out.cell
        clear hk e1 e3 cW14
        go_wp2_with fail
        refine (rlook_calls HGD.out HK15.out HLK2.out).mono ?_
        rintro e w16 ⟨rfl, hk⟩
        have HK16 := Lib.hid hk
        have hfl : (Instr.field 52 (.agg #[vi n, vi q, vi 0, vi u]) 2).run Tryz.prog w16 = .ok (vi 0) w16 := look_field2 _ _ _ _ _
        clear hk cW15
        go_wp2_with fail
        refine (figures_lit 1 [49] rfl (by omega) _).mono ?_
        rintro e w17 ⟨rfl, hb⟩
        have HK17 := Lib.hid (HK16.out.grow hb)
        have e1 : (⟨#[100, 111, 110, 101, 32, 55, 32]⟩ : ByteArray) ++ bs [49] = ⟨#[100, 111, 110, 101, 32, 55, 32, 49]⟩ := rfl
        have e2 : (⟨#[100, 111, 110, 101, 32, 55, 32, 49]⟩ : ByteArray) ++ (⟨#[32, 122]⟩ : ByteArray) = ⟨#[100, 111, 110, 101, 32, 55, 32, 49, 32, 122]⟩ := rfl
        have e3 : (bs [49]).size = 1 := rfl
        clear hb hfl
        go_wp2_with fail
        refine (say_at HG.out HGD.out (n := 0) rfl HK17.out).mono ?_
        rintro e w18 ⟨va18, vc18, rfl, hk, -⟩
        have HB18 := Lib.hid hk.at_.below
        clear hk e1 e2 e3
        go_wp2_with fail
        go_ret
        exact ⟨rfl, HB18.out⟩
end Go.Proofs.YtaejfobbogahmaaGreatDoor
