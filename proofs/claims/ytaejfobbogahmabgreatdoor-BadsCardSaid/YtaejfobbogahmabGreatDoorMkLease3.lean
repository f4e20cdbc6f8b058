/-
  The walk of container/heap's down over lease.order.
-/
import Derived.Test.YtaejfobbogahmabGreatDoorMkLease1
set_option linter.unusedVariables false
set_option linter.unusedSimpArgs false
namespace Go.Proofs.YtaejfobbogahmabGreatDoor
open Go Go.RowKit

theorem downF_end {f : Nat} {l : List Att} {i n : Nat} (h : n ≤ 2 * i + 1) : downF f l i n = (l, i) := by
  cases f with
  | zero => rfl
  | succ f => rw [downF, if_pos h]
theorem downF_stop {f : Nat} {l : List Att} {i n : Nat} (h : better (hg l (kid l i n)) (hg l i) = false) : downF f l i n = (l, i) := by
  cases f with
  | zero => rfl
  | succ f =>
    rw [downF]
    split
    · rfl
    · rfl
theorem downF_step {f : Nat} {l : List Att} {i n : Nat} (h1 : ¬ n ≤ 2 * i + 1) (h : better (hg l (kid l i n)) (hg l i) = true) : downF (f + 1) l i n = downF f (swapL l i (kid l i n)) (kid l i n) n := by
  rw [downF, if_neg h1, if_neg (by simp [h])]

def DownPost (w : World) (ρ : Nat → Role) (v : Value) (att : Int → Nat) (p : List Att × Nat) (i0 : Nat) (e : Ending) (w' : World) : Prop :=
  e = .returned (.bool (decide (i0 < p.2))) ∧ HeapC w' ρ v att p.1 ∧ Fr (HpB ρ) w w'

set_option maxRecDepth 100000 in
set_option maxHeartbeats 4000000 in
theorem down_calls {D : Nat} {w : World} {ρ : Nat → Role} {v : Value} {att : Int → Nat} {hp : List Att} (hD : ¬ HpB ρ D) (hv : w.cell? ⟨D, 12, none⟩ = some v) (h : HeapC w ρ v att hp) {i0 n : Nat} (hn : n ≤ hp.length) (hi : i0 ≤ n) (hsm : hp.length ≤ 1099511627776) :
    Calls Tryz.prog 142 #[hI D, vi i0, vi n] w (DownPost w ρ v att (downF hp.length hp i0 n) i0) := by
  go_enter Tryz.func142, Tryz.ntmps142
  go_wp2_with fail
  go_loopw [7, 8, 9, 10] (fun s7 _ _ _ wr => ∃ (ic f : Nat) (l : List Att), s7 = .int .i64 ic ∧ i0 ≤ ic ∧ ic ≤ n ∧ n ≤ ic + f ∧ Hid (downF hp.length hp i0 n = downF f l ic n) ∧ Hid (HeapC wr ρ v att l) ∧ Hid (Fr (HpB ρ) w wr) ∧ Hid (l.length = hp.length)) (fun s7 _ _ _ _ => n - (intOf s7).toNat)
  case atStart => exact ⟨i0, hp.length, hp, rfl, Nat.le_refl _, hi, by omega, rfl, h, Fr.refl _ _, rfl⟩
  case round =>
    obtain ⟨ic, f, l, rfl, hi0, hin, hif, hdn, hH, hF, hL⟩ := hrel
    have hc := hF.out.cell hD hv
    have hmL0 : (method 341 171 (.pointer (some ⟨D, 12, none⟩)) "Less").run Tryz.prog wr = .ok (191, v) wr := meth_val row_less hc _
    have hmL : ∀ k, (method 341 171 (.pointer (some ⟨D, 12, none⟩)) "Less").run Tryz.prog (wr.drewN k) = .ok (191, v) (wr.drewN k) := fun k => meth_val row_less (w := wr.drewN k) hc _
    have hmS : ∀ k, (method 341 171 (.pointer (some ⟨D, 12, none⟩)) "Swap").run Tryz.prog (wr.drewN k) = .ok (192, v) (wr.drewN k) := fun k => meth_val row_swap (w := wr.drewN k) hc _
    have hdc : decide ((i0 : Int) < (ic : Int)) = decide (i0 < ic) := by simp
    by_cases hA : n ≤ 2 * ic + 1
    · have hge : decide ((n : Int) ≤ 2 * (ic : Int) + 1) = true := by simp; omega
      clear hmL0 hmL hmS hc
      go_wp2_with fail
      go_ret
      unfold DownPost
      rw [hdn.out, downF_end hA]
      exact ⟨by first | rfl | (simp), hH.out, hF.out⟩
    · obtain ⟨p1, hp1⟩ : ∃ p1 : Nat, Hid (p1 = 2 * ic + 1) := ⟨_, rfl⟩
      obtain ⟨p2, hp2⟩ : ∃ p2 : Nat, Hid (p2 = p1 + 1) := ⟨_, rfl⟩
      have e1 : 2 * (ic : Int) + 1 = (p1 : Int) := by have := hp1.out; omega
      have e2 : (p1 : Int) + 1 = (p2 : Int) := by have := hp2.out; omega
      have q1 : p1 < n := by have := hp1.out; omega
      have q2 : ic < p1 := by have := hp1.out; omega
      have q3 : p1 < p2 := by have := hp2.out; omega
      have hge : decide ((n : Int) ≤ (p1 : Int)) = false := by simp; omega
      have hnl : n ≤ l.length := by have := hL.out; omega
      have hp0 : (0 : Int) ≤ (p1 : Int) := by omega
      by_cases hB : p2 < n
      · have hlt : decide ((p2 : Int) < (n : Int)) = true := by simp; exact hB
        have hl1 : p1 < l.length := by omega
        have hl2 : p2 < l.length := by omega
        obtain ⟨c, hcb⟩ : ∃ c : Bool, Hid (better (hg l p2) (hg l p1) = c) := ⟨_, rfl⟩
        obtain ⟨kk, hkv, hkk, hkn⟩ : ∃ kk : Nat, Hid (kk = if c then p2 else p1) ∧ Hid (kk = kid l ic n) ∧ (ic < kk ∧ kk < n) := by
          refine ⟨_, rfl, ?_, ?_⟩
          · show (if c = true then p2 else p1) = _
            unfold kid
            have h1 := hp1.out
            have h2 := hp2.out
            have h3 := hcb.out
            have e3 : 2 * ic + 2 = p2 := by omega
            rw [e3, ← h1, h3]
            cases c <;> simp [hB]
          · cases c <;> simp <;> omega
        go_wp2_with fail
        refine (Less_calls hH.out hl2 hl1).mono ?_
        rintro e w1 ⟨k, rfl, rfl⟩
        rw [hcb.out]
        cases c with
        | true =>
          obtain rfl : kk = p2 := by simpa using hkv.out
          go_wp2_with fail
          have HX := Lib.hid (hH.out.drewN k)
          have hkl : kk < l.length := by omega
          have hil : ic < l.length := by omega
          obtain ⟨b, hb⟩ : ∃ b : Bool, Hid (better (hg l kk) (hg l ic) = b) := ⟨_, rfl⟩
          cases b with
          | false =>
            refine (Less_calls HX.out hkl hil).mono ?_
            rintro e w1 ⟨k2, rfl, rfl⟩
            rw [hb.out]
            go_wp2_with fail
            go_ret
            unfold DownPost
            rw [hdn.out, downF_stop (by rw [← hkk.out]; exact hb.out)]
            exact ⟨by first | rfl | (simp), hH.out.drewN _, hF.out.drewN _⟩
          | true =>
            refine (Less_calls HX.out hkl hil).mono ?_
            rintro e w1 ⟨k2, rfl, rfl⟩
            rw [hb.out]
            go_wp2_with fail
            refine (Swap_calls (hH.out.drewN _) hil hkl (by omega)).mono ?_
            rintro e w1 ⟨rfl, hH1, hF1⟩
            have HH1 := Lib.hid hH1
            have HF1 := Lib.hid hF1
            clear hH1 hF1
            go_wp2_with fail
            go_roundw
            case rel =>
              refine ⟨kk, f - 1, swapL l ic kk, by simp, by omega, by omega, by omega, ?_, HH1.out, hF.out.trans HF1.out.ofDrewN (fun x hx => .inl hx), ?_⟩
              · have e := downF_step (f := f - 1) (l := l) (i := ic) hA (by rw [← hkk.out]; exact hb.out)
                rw [show f - 1 + 1 = f by omega, ← hkk.out] at e
                exact hdn.out.trans e
              · show (swapL l ic kk).length = _
                rw [swapL_length]; exact hL.out
            case measure => simp [intOf]; omega
        | false =>
          obtain rfl : kk = p1 := by simpa using hkv.out
          go_wp2_with fail
          have HX := Lib.hid (hH.out.drewN k)
          have hkl : kk < l.length := by omega
          have hil : ic < l.length := by omega
          obtain ⟨b, hb⟩ : ∃ b : Bool, Hid (better (hg l kk) (hg l ic) = b) := ⟨_, rfl⟩
          cases b with
          | false =>
            refine (Less_calls HX.out hkl hil).mono ?_
            rintro e w1 ⟨k2, rfl, rfl⟩
            rw [hb.out]
            go_wp2_with fail
            go_ret
            unfold DownPost
            rw [hdn.out, downF_stop (by rw [← hkk.out]; exact hb.out)]
            exact ⟨by first | rfl | (simp), hH.out.drewN _, hF.out.drewN _⟩
          | true =>
            refine (Less_calls HX.out hkl hil).mono ?_
            rintro e w1 ⟨k2, rfl, rfl⟩
            rw [hb.out]
            go_wp2_with fail
            refine (Swap_calls (hH.out.drewN _) hil hkl (by omega)).mono ?_
            rintro e w1 ⟨rfl, hH1, hF1⟩
            have HH1 := Lib.hid hH1
            have HF1 := Lib.hid hF1
            clear hH1 hF1
            go_wp2_with fail
            go_roundw
            case rel =>
              refine ⟨kk, f - 1, swapL l ic kk, by simp, by omega, by omega, by omega, ?_, HH1.out, hF.out.trans HF1.out.ofDrewN (fun x hx => .inl hx), ?_⟩
              · have e := downF_step (f := f - 1) (l := l) (i := ic) hA (by rw [← hkk.out]; exact hb.out)
                rw [show f - 1 + 1 = f by omega, ← hkk.out] at e
                exact hdn.out.trans e
              · show (swapL l ic kk).length = _
                rw [swapL_length]; exact hL.out
            case measure => simp [intOf]; omega
      · have hlt : decide ((p2 : Int) < (n : Int)) = false := by simp; omega
        obtain ⟨kk, hkv, hkk⟩ : ∃ kk : Nat, kk = p1 ∧ Hid (kk = kid l ic n) := by
          refine ⟨_, rfl, ?_⟩
          show p1 = _
          unfold kid
          have h1 := hp1.out
          have h2 := hp2.out
          rw [if_neg (by omega)]; exact h1
        subst hkv
        have hkn : ic < kk ∧ kk < n := ⟨q2, q1⟩
        go_wp2_with fail
        have HX := hH
        have hkl : kk < l.length := by omega
        have hil : ic < l.length := by omega
        obtain ⟨b, hb⟩ : ∃ b : Bool, Hid (better (hg l kk) (hg l ic) = b) := ⟨_, rfl⟩
        cases b with
        | false =>
          refine (Less_calls HX.out hkl hil).mono ?_
          rintro e w1 ⟨k2, rfl, rfl⟩
          rw [hb.out]
          go_wp2_with fail
          go_ret
          unfold DownPost
          rw [hdn.out, downF_stop (by rw [← hkk.out]; exact hb.out)]
          exact ⟨by first | rfl | (simp), hH.out.drewN _, hF.out.drewN _⟩
        | true =>
          refine (Less_calls HX.out hkl hil).mono ?_
          rintro e w1 ⟨k2, rfl, rfl⟩
          rw [hb.out]
          go_wp2_with fail
          refine (Swap_calls (hH.out.drewN _) hil hkl (by omega)).mono ?_
          rintro e w1 ⟨rfl, hH1, hF1⟩
          have HH1 := Lib.hid hH1
          have HF1 := Lib.hid hF1
          clear hH1 hF1
          go_wp2_with fail
          go_roundw
          case rel =>
            refine ⟨kk, f - 1, swapL l ic kk, by simp, by omega, by omega, by omega, ?_, HH1.out, hF.out.trans HF1.out.ofDrewN (fun x hx => .inl hx), ?_⟩
            · have e := downF_step (f := f - 1) (l := l) (i := ic) hA (by rw [← hkk.out]; exact hb.out)
              rw [show f - 1 + 1 = f by omega, ← hkk.out] at e
              exact hdn.out.trans e
            · show (swapL l ic kk).length = _
              rw [swapL_length]; exact hL.out
          case measure => simp [intOf]; omega

end Go.Proofs.YtaejfobbogahmabGreatDoor
