/-
  The walk of Pieces.
-/
import Derived.Test.YtaejfobbogahmaaGreatDoorMkPieces2
import Derived.Deep.CutRange
import Derived.Deep.CutBlock
import Derived.Deep.RegionLaw
set_option linter.unusedVariables false
set_option linter.unusedSimpArgs false
namespace Go.Proofs.YtaejfobbogahmaaGreatDoor
open Go Go.RowKit

/-- A slice of strings that came in. -/
def TextsIn (w : World) (ta : Option Addr) (tl : List Bytes) : Prop := ∀ j t, tl[j]? = some t → ∃ b o, ta = some ⟨b, o, none⟩ ∧ w.cell? ⟨b, o + j, none⟩ = some (vs (bs t))
theorem TextsIn.below {w w' : World} {ta : Option Addr} {tl : List Bytes} (h : TextsIn w ta tl) (hb : Below w.heap.size w w') : TextsIn w' ta tl := fun j t hj => by
  obtain ⟨b, o, h1, h2⟩ := h j t hj
  exact ⟨b, o, h1, cell_below hb h2⟩

theorem below_drewR {B : Nat} {w w' : World} (h : Below B w w') : Below B w w'.drew := ⟨h.os, h.tape, h.output, h.size, h.block⟩
theorem is_plain {w : World} {v : Value} {E : Nat → Prop} {c : Int} {s : Bytes} (h : SlAt w 59 2 E v 1 (outCells (seals [(c, s)]))) (hl : s.length ≤ 1000) :
    Calls Tryz.prog 21 #[v, .slice (some ⟨w.heap.size, 0, none⟩) 1 1, .slice (some ⟨w.heap.size + 1, 0, none⟩) 1 1] ((w.alloc (.cells #[vi c] 3)).alloc (.cells #[vs (bs s)] 9))
      fun e w' => e = .returned (.bool true) ∧ Below w.heap.size w w' := by
  have ho : OutsAt w v [(c, s)] := h.of_blk (fun _ _ _ => rfl) (fun _ _ _ => trivial)
  have hb : Below w.heap.size w ((w.alloc (.cells #[vi c] 3)).alloc (.cells #[vs (bs s)] 9)) := below_alloc (below_alloc (Below.refl _ _))
  refine (is_calls [(c, s)] (ho.below hb) (nums_lit (l := [c]) (blk_alloc_of (blk_alloc_new w)) rfl rfl (by simp) (by simp))
    (strs_lit (l := [s]) (by have := blk_alloc_new (w.alloc (.cells #[vi c] 3)) (o := .cells #[vs (bs s)] 9); rw [World.size_alloc] at this; exact this) rfl rfl (by simp) (by simp)) (fun p hp => by rw [List.mem_singleton] at hp; subst hp; show s.length ≤ 1000000; omega)).mono ?_
  rintro e w1 ⟨rfl, b⟩
  exact ⟨rfl, below_grow hb b⟩
/-- Both dispatchers, and the boxes they lie in. -/
structure PAt (F : Nat → Prop) (G : Nat) (w0 : World) (D1 V : Nat) (r1 : Raw) (D2 U : Nat) (r2 : Raw) (w : World) : Prop where
  two : TwoAt F G w0 D1 r1 D2 r2 w
  bv : w.heap[V]? = some (.cells #[vp D1] 43 (0, 0))
  bu : w.heap[U]? = some (.cells #[vp D2] 43 (0, 0))
theorem PAt.grow {F : Nat → Prop} {G : Nat} {w0 : World} {D1 V : Nat} {r1 : Raw} {D2 U : Nat} {r2 : Raw} {w w' : World} (h : PAt F G w0 D1 V r1 D2 U r2 w) (hG : G ≤ w0.heap.size) (hb : Below w.heap.size w w') : PAt F G w0 D1 V r1 D2 U r2 w' :=
  ⟨(h.two.grow hG hb).mono (fun _ h => .inl h), blk_below hb h.bv, blk_below hb h.bu⟩
theorem pBytes_step {k : Nat} {t : Bytes} {l : List Bytes} {s : Bytes} (h : ¬ 4096 < s.length + t.length) : pBytes k (t :: l) s = pBytes (k + 1) l (s ++ pLine k t) := by
  conv => lhs; unfold pBytes
  rw [if_neg h]
theorem pBytes_stop {k : Nat} {t : Bytes} {l : List Bytes} {s : Bytes} (h : 4096 < s.length + t.length) : pBytes k (t :: l) s = s := by
  unfold pBytes
  rw [if_pos h]

set_option maxRecDepth 100000 in
set_option maxHeartbeats 4000000 in
theorem Pieces_walk {G : Nat} {w : World} (hE : Env G w) (hG : G ≤ w.heap.size) (ta : Option Addr) (tc : Nat) (tl : List Bytes) (cs : Bytes) (htl : TextsIn w ta tl) (h1 : tl.length ≤ 140737488351232) (h2 : ∀ t ∈ tl, t.length ≤ 140737488351232) (h3 : cs.length ≤ 140737488351232) :
    Calls Tryz.prog 7 #[.slice ta tl.length tc, vs (bs cs)] w fun e w' => e = .returned (.bool true) ∧ Below w.heap.size w w' := by
  have HG := Lib.hid hG
  have HTL := Lib.hid htl
  have H2 := Lib.hid h2
  have hcz : (bs cs).size = cs.length := bs_size _
  obtain ⟨n, hn⟩ : ∃ n, tl.length = n := ⟨_, rfl⟩
  have HN := Lib.hid hn
  rw [hn] at h1 ⊢
  by_cases hbig : 4096 < n
  · have hd : decide ((n : Int) > 4096) = true := decide_eq_true (by omega)
    clear hn h2 htl hE hG
    go_enter Tryz.func7, Tryz.ntmps7
    go_wp2_with fail
    go_ret
    exact ⟨rfl, Below.refl _ _⟩
  · have hd : decide ((n : Int) > 4096) = false := decide_eq_false (by omega)
    have hd2 : ¬ (4096 : Int) < (n : Int) := by omega
    by_cases hbig2 : 4096 < cs.length
    · have he : decide ((cs.length : Int) > 4096) = true := decide_eq_true (by omega)
      clear hn h2 htl hE hG
      go_enter Tryz.func7, Tryz.ntmps7
      go_wp2_with fail
      go_ret
      exact ⟨rfl, Below.refl _ _⟩
    · have he : decide ((cs.length : Int) > 4096) = false := decide_eq_false (by omega)
      have he2 : ¬ (4096 : Int) < (cs.length : Int) := by omega
      have HC5 := Lib.hid (show cfgCells cfgPieces = #[vi 3, vi 1, vi 2, vi 3, vi 2] from rfl)
      have HB0 : Hid (Below w.heap.size w (w.alloc (.cells #[vi 3, vi 1, vi 2, vi 3, vi 2] 34))) := below_alloc (Below.refl _ _)
      have HEA := Lib.hid (hE.grow HB0.out)
      have HCB := Lib.hid (blk_alloc_new w (o := .cells #[vi 3, vi 1, vi 2, vi 3, vi 2] 34))
      have hbg := begin_calls HEA.out (Nat.le_trans hG HB0.out.size) cfgPieces rfl (w0 := w) HB0.out
      rw [HC5.out] at hbg
      have HBG := Lib.hid hbg
      clear hn h2 htl hE hG hbg
      go_enter Tryz.func7, Tryz.ntmps7
      go_wp2_with fail
      refine HBG.out.mono ?_
      rintro e w1 ⟨D1, V, rfl, hk1, hb1⟩
      have HK1 := Lib.hid hk1
      have hcb := (hb1.block _ (blk_lt _ HCB.out)).trans HCB.out
      have c0 := cell_of_blk (off := 0) hcb rfl
      have c1 := cell_of_blk (off := 1) hcb rfl
      have c2 := cell_of_blk (off := 2) hcb rfl
      have c3 := cell_of_blk (off := 3) hcb rfl
      have c4 := cell_of_blk (off := 4) hcb rfl
      have hbg := begin_calls hk1.env (Nat.le_trans HG.out hk1.below.size) cfgPieces rfl (w0 := w1) (Below.refl _ _)
      rw [HC5.out] at hbg
      have HBG2 := Lib.hid hbg
      clear hk1 hb1 hcb hbg HBG
      go_wp2_with fail
      refine HBG2.out.mono ?_
      rintro e w2 ⟨D2, U, rfl, hk2, _⟩
      obtain ⟨ht, hv, hu, hvu⟩ := TwoAt.start HK1.out hk2
      have HT := Lib.hid ht
      have HV := Lib.hid hv
      have HU := Lib.hid hu
      have HVU := Lib.hid hvu
      have HS1 := Lib.hid (say_two HT.out HG.out (.inl rfl) HV.out (Inv.init (c := cfgPieces) rfl) (Few.init cfgPieces) 9 pText (by decide) (by unfold NB; omega) (by unfold NB; omega))
      rw [piece_first] at HS1
      clear ht hv hu hvu hk2 HBG2 HK1 c0 c1 c2 c3 c4
      go_wp2_with fail
      refine HS1.out.mono ?_
      rintro e w3 ⟨va3, vc3, E3, rfl, ht3, ho3, _, hk3⟩
      have HP3 : Hid (PAt (fun b => b = V ∨ b = U) G w D1 V rPiece D2 U (rNew cfgPieces) w3) := ⟨ht3.mono (fun _ h => .inl h), (hk3 V (.inl rfl)).trans HV.out, (hk3 U (.inr rfl)).trans HU.out⟩
      have HO3 := Lib.hid ho3
      clear ht3 ho3 hk3 HS1 HT HV HU
      go_wp2_with fail
      refine (is_plain HO3.out (by decide)).mono ?_
      rintro e w4 ⟨rfl, hb4⟩
      have HP4 := Lib.hid (HP3.out.grow HG.out hb4)
      have HS2 := Lib.hid (say_two HP4.out.two.swap HG.out (.inr rfl) HP4.out.bu (Inv.init (c := cfgPieces) rfl) (Few.init cfgPieces) 9 pText (by decide) (by unfold NB; omega) (by unfold NB; omega))
      rw [piece_first] at HS2
      clear hb4 HO3 HP3
      go_wp2_with fail
      refine HS2.out.mono ?_
      rintro e w5 ⟨va5, vc5, E5, rfl, ht5, ho5, _, hk5⟩
      have HP5 : Hid (PAt (fun b => b = V ∨ b = U) G w D1 V rPiece D2 U rPiece w5) := ⟨(ht5.mono (fun _ h => .inl h)).swap, (hk5 V (.inl rfl)).trans HP4.out.bv, (hk5 U (.inr rfl)).trans HP4.out.bu⟩
      have HO5 := Lib.hid ho5
      clear ht5 ho5 hk5 HS2 HP4
      go_wp2_with fail
      refine (is_plain HO5.out (by decide)).mono ?_
      rintro e w6 ⟨rfl, hb6⟩
      have HP6 := Lib.hid (HP5.out.grow HG.out hb6)
      have HTL6 : Hid (TextsIn w6 ta tl) := HTL.out.below (HP6.out.two.below)
      clear hb6 HO5 HP5
      go_upto_block 0 with fail
      go_cut [10] from 62 to 83 (fun s10 wx => s10 = vs (bs (pBytes 0 tl [])) ∧ Hid (PAt (fun b => b = V ∨ b = U) G w D1 V rPiece D2 U rPiece wx))
      case first =>
        go_wp2_with fail
        go_loopw [10, 11, 12, 13, 62] (fun s10 _ _ _ s62 wr => ∃ (k : Nat) (S : Bytes), s62 = .int .i64 k ∧ s10 = vs (bs S) ∧ k ≤ n ∧ S.length ≤ 4106 ∧ Hid (pBytes 0 tl [] = pBytes k (tl.drop k) S ∧ PAt (fun b => b = V ∨ b = U) G w D1 V rPiece D2 U rPiece wr)) (fun _ _ _ _ s62 _ => n - (intOf s62).toNat)
        case atStart => exact ⟨0, [], by go_num, rfl, Nat.zero_le _, by simp, rfl, HP6.out⟩
        case round =>
          obtain ⟨k, S, rfl, rfl, hk, hS, HK⟩ := hrel
          by_cases hkl : k < n
          · have hlt : decide ((k : Int) < (n : Int)) = true := decide_eq_true (by omega)
            obtain ⟨t, hkt⟩ : ∃ t, tl[k]? = some t := ⟨_, List.getElem?_eq_getElem (by rw [HN.out]; exact hkl)⟩
            obtain ⟨b, o, hta, hct⟩ := HTL.out.below HK.out.2.two.below k t hkt
            subst hta
            have hdr : tl.drop k = t :: tl.drop (k + 1) := by
              have hx := List.getElem?_eq_some_iff.1 hkt
              rw [List.drop_eq_getElem_cons hx.1, hx.2]
            have htl2 := H2.out t (List.mem_of_getElem? hkt)
            have hzS : (bs S).size = S.length := bs_size _
            have hzt : (bs t).size = t.length := bs_size _
            have hk0 : (0 : Int) ≤ (k : Int) := by omega
            have hk1 : (k : Int) < (n : Int) := by omega
            have HDR := Lib.hid hdr
            clear hkt hdr
            by_cases hst : 4096 < S.length + t.length
            · have hst1 : decide ((S.length : Int) + (t.length : Int) > 4096) = true := decide_eq_true (by omega)
              have HFI : Hid (S = pBytes 0 tl []) := show _ = _ by rw [HK.out.1, HDR.out, pBytes_stop hst]
              have HPF := Lib.hid HK.out.2
              clear HK hst
              go_wp2_with fail
              go_meet
              case rel => exact ⟨by rw [← HFI.out], HPF.out⟩
            · have hst1 : decide ((S.length : Int) + (t.length : Int) > 4096) = false := decide_eq_false (by omega)
              have HFI : Hid (pBytes 0 tl [] = pBytes (k + 1) (tl.drop (k + 1)) (S ++ pLine k t)) := show _ = _ by rw [HK.out.1, HDR.out, pBytes_step hst]
              have HPR := Lib.hid HK.out.2
              have HSE := Lib.hid (fun w : World => Seal_calls (G := 0) (w := w) t (by omega))
              clear HK HDR
              go_wp2_with fail
              refine (HSE.out _).mono ?_
              rintro e w7 ⟨rfl, hb7⟩
              have HPW := Lib.hid (HPR.out.grow HG.out hb7)
              clear hb7 HSE HPR hct
              by_cases hk5 : k % 5 = 4
              · have hm1 : (k : Int).tmod 5 = 4 := by rw [Int.tmod_eq_emod_of_nonneg hk0]; omega
                have hm2 : (k : Int) % 5 = 4 := by omega
                have e1 : bs t ++ (⟨#[10]⟩ : ByteArray) = bs (t ++ [10]) := bs_append _ [10]
                have e2 : bs S ++ bs (t ++ [10]) = bs (S ++ (t ++ [10])) := bs_append _ _
                have hzX : (bs t).size = t.length := bs_size _
                have hzY : (bs (t ++ [10])).size = t.length + 1 := by rw [bs_size, List.length_append]; rfl
                have HPL : Hid (pLine k t = t ++ [10]) := show _ = _ by unfold pLine; rw [if_pos hk5]
                have hlX : t.length ≤ 1048600 := by omega
                have n1 : ¬ 9223372036854775807 < t.length + 1 := by omega
                have n2 : ¬ 9223372036854775807 < S.length + (t.length + 1) := by omega
                have HNX : Hid (pBytes 0 tl [] = pBytes (k + 1) (tl.drop (k + 1)) (S ++ (t ++ [10]))) := show _ = _ by rw [HFI.out, HPL.out]
                have hS2 : (S ++ (t ++ [10])).length ≤ 4106 := by
                  have := pLine_len k t
                  rw [HPL.out] at this
                  rw [List.length_append]; omega
                clear hlX HPL HFI
                go_wp2_with fail
                go_roundw
                case rel => exact ⟨k + 1, S ++ (t ++ [10]), by go_num, rfl, by omega, hS2, HNX.out, HPW.out⟩
                case measure => simp [intOf]; omega
              · have hm1 : ((k : Int).tmod 5 == 4) = false := beq_eq_false_iff_ne.2 (by rw [Int.tmod_eq_emod_of_nonneg hk0]; omega)
                have hm2 : ((k : Int) % 5 == 4) = false := beq_eq_false_iff_ne.2 (by omega)
                have hm3 : decide ((k : Int) % 5 = 4) = false := decide_eq_false (by omega)
                have hm4 : ¬ (k : Int) % 5 = 4 := by omega
                have e1 : bs (sealL t) ++ (⟨#[10]⟩ : ByteArray) = bs ((sealL t) ++ [10]) := bs_append _ [10]
                have e2 : bs S ++ bs ((sealL t) ++ [10]) = bs (S ++ ((sealL t) ++ [10])) := bs_append _ _
                have hzX : (bs (sealL t)).size = (sealL t).length := bs_size _
                have hzY : (bs ((sealL t) ++ [10])).size = (sealL t).length + 1 := by rw [bs_size, List.length_append]; rfl
                have HPL : Hid (pLine k t = (sealL t) ++ [10]) := show _ = _ by unfold pLine; rw [if_neg hk5]
                have hlX : (sealL t).length ≤ 1048600 := by rw [sealL_len]; omega
                have n1 : ¬ 9223372036854775807 < (sealL t).length + 1 := by omega
                have n2 : ¬ 9223372036854775807 < S.length + ((sealL t).length + 1) := by omega
                have HNX : Hid (pBytes 0 tl [] = pBytes (k + 1) (tl.drop (k + 1)) (S ++ ((sealL t) ++ [10]))) := show _ = _ by rw [HFI.out, HPL.out]
                have hS2 : (S ++ ((sealL t) ++ [10])).length ≤ 4106 := by
                  have := pLine_len k t
                  rw [HPL.out] at this
                  rw [List.length_append]; omega
                clear hlX HPL HFI
                go_wp2_with fail
                go_roundw
                case rel => exact ⟨k + 1, S ++ ((sealL t) ++ [10]), by go_num, rfl, by omega, hS2, HNX.out, HPW.out⟩
                case measure => simp [intOf]; omega
          · obtain rfl : k = n := by omega
            have hlt : decide ((k : Int) < (k : Int)) = false := by simp
            have HFI : Hid (S = pBytes 0 tl []) := show _ = _ by
              rw [HK.out.1, show k = tl.length from HN.out.symm, List.drop_length]; rfl
            have HPF := Lib.hid HK.out.2
            clear HK
            go_wp2_with fail
            go_meet
            case rel => exact ⟨by rw [← HFI.out], HPF.out⟩
      case rest =>
        obtain ⟨rfl, HPX⟩ := hcut
        obtain ⟨S, hS⟩ : ∃ S, S = pBytes 0 tl [] := ⟨_, rfl⟩
        have hSl : S.length ≤ 4106 := by rw [hS]; exact pBytes_len tl 0 [] (by simp)
        rw [← hS]
        have hzS : (bs S).size = S.length := bs_size _
        have HF1 := Lib.hid (feed_two HPX.out.two HG.out piece_inv.1 piece_inv.2.1 1 S (by unfold NB; omega) (by unfold NB; omega))
        have cV : wc.cell? ⟨V, 0, none⟩ = some (vp D1) := cell_of_blk HPX.out.bv rfl
        clear hS
        go_wp2_with fail
        refine HF1.out.mono ?_
        rintro e w7 ⟨va7, vc7, E1, rfl, ht7, ho7, hn7, hk7⟩
        obtain ⟨x, hx⟩ : ∃ x, (rFeed rPiece 1 S).out = x := ⟨_, rfl⟩
        obtain ⟨r1, hr1⟩ : ∃ r1, rTold (rFeed rPiece 1 S) = r1 := ⟨_, rfl⟩
        rw [hx] at ho7 ⊢
        rw [hr1] at ht7
        have HX := Lib.hid (And.intro hx hr1)
        have HT7 := Lib.hid ht7
        have HO7 := Lib.hid ho7
        have HN7 := Lib.hid hn7
        have HBV : Hid (w7.heap[V]? = some (.cells #[vp D1] 43 (0, 0))) := (hk7 V (.inl rfl)).trans HPX.out.bv
        have HBU : Hid (w7.heap[U]? = some (.cells #[vp D2] 43 (0, 0))) := (hk7 U (.inr rfl)).trans HPX.out.bu
        have HAS : Hid (AllAt (fun b => (b = V ∨ b = U) ∨ E1 b) G w D1 r1 D2 w7 S 0 (.slice none 0 0) w7) := AllAt.start rfl HT7.out
        clear ht7 ho7 hn7 hk7 hx hr1 HF1 cV HPX
        go_upto_block 2 with fail
        go_cut [15] from 90 to 140 (fun s15 wx => ∃ va m vc, s15 = .slice va m vc ∧ Hid (AllAt (fun b => (b = V ∨ b = U) ∨ E1 b) G w D1 r1 D2 w7 S S.length (.slice va m vc) wx))
        case first =>
          go_wp2_with fail
          go_loopw [15, 16, 17] (fun s15 s16 _ wr => ∃ (i : Nat) (va : Option Addr) (m vc : Nat), s16 = .int .i64 i ∧ s15 = .slice va m vc ∧ i ≤ S.length ∧ Hid (AllAt (fun b => (b = V ∨ b = U) ∨ E1 b) G w D1 r1 D2 w7 S i (.slice va m vc) wr)) (fun _ s16 _ _ => S.length - (intOf s16).toNat)
          case atStart => exact ⟨0, none, 0, 0, by go_num, rfl, Nat.zero_le _, HAS.out⟩
          case round =>
            obtain ⟨i, va, m, vc, rfl, rfl, hi, HA⟩ := hrel
            by_cases hil : i < S.length
            · have hlt : decide ((i : Int) < (S.length : Int)) = true := decide_eq_true (by omega)
              have hcU := cell_of_blk (off := 0) ((show wr.heap[U]? = w7.heap[U]? by obtain ⟨_, _, _, _, _, _, _, _, _, _, q⟩ := HA.out; exact q U (.inl (.inr rfl))).trans HBU.out) rfl
              have hcc : (bs cs).size = cs.length := hcz
              have hi0 : (0 : Int) ≤ (i : Int) := by omega
              go_upto_if 96 with (fail)
              go_cut [17] from 97 to 104 (fun s17 wx => ∃ n0 : Nat, s17 = .int .i64 n0 ∧ n0 ≤ 6 ∧ wx = wr)
              case first =>
                by_cases hc0 : cs.length = 0
                · have hcp : decide (0 < (cs.length : Int)) = false := decide_eq_false (by omega)
                  have hcp2 : decide ((cs.length : Int) > 0) = false := decide_eq_false (by omega)
                  have hcp3 : decide (0 < cs.length) = false := decide_eq_false (by omega)
                  go_wp2_with fail
                  go_meet
                  case rel => exact ⟨1, rfl, by omega, rfl⟩
                · have hcp : decide (0 < (cs.length : Int)) = true := decide_eq_true (by omega)
                  have hcp2 : decide ((cs.length : Int) > 0) = true := decide_eq_true (by omega)
                  have hcp3 : decide (0 < cs.length) = true := decide_eq_true (by omega)
                  obtain ⟨j, hj⟩ : ∃ j, j = i % cs.length := ⟨_, rfl⟩
                  have hjl : j < cs.length := by rw [hj]; exact Nat.mod_lt _ (by omega)
                  have hmj : (i : Int).tmod (cs.length : Int) = (j : Int) := by rw [hj]; exact (Int.ofNat_tmod i cs.length).symm ▸ rfl
                  have hmj2 : (i : Int) % (cs.length : Int) = (j : Int) := by rw [hj]; exact (Int.natCast_emod i cs.length).symm
                  obtain ⟨b, hb⟩ : ∃ b, cs[j]? = some b := ⟨_, List.getElem?_eq_getElem hjl⟩
                  have hjb : j < (bs cs).size := by rw [hcz]; exact hjl
                  have hget : (bs cs)[j]'hjb = b := bs_get hb
                  have hj0 : (0 : Int) ≤ (j : Int) := by omega
                  have hj1 : (j : Int) < (cs.length : Int) := by omega
                  have hcne : ((cs.length : Int) == 0) = false := beq_eq_false_iff_ne.2 (by omega)
                  have hcne2 : ¬ (cs.length : Int) = 0 := by omega
                  clear hb hj
                  have hbt := b.toNat_lt
                  have hwb : IntKind.i64.wrap (b.toNat : Int) = (b.toNat : Int) := IntWalk.i64_in _ (by omega)
                  have HTM : Hid (((b.toNat : Int)).tmod 7 = ((b.toNat % 7 : Nat) : Int)) := (Int.ofNat_tmod b.toNat 7).symm ▸ rfl
                  go_wp2_with fail
                  go_meet
                  case rel => exact ⟨b.toNat % 7, congrArg (Value.int .i64) HTM.out, by omega, rfl⟩
              case rest =>
                obtain ⟨n0, rfl, hn0, rfl⟩ := hcut
                obtain ⟨p, hp⟩ : ∃ p : Nat, p = min n0 (S.length - i) := ⟨_, rfl⟩
                have HMI := Lib.hid (show min (n0 : Int) ((S.length : Int) - (i : Int)) = (p : Int) by omega)
                have hpl : i + p ≤ S.length := by omega
                have HP0 := Lib.hid (show p = 0 ∨ 0 < p by omega)
                have HFD := Lib.hid (all_feed (j := i + p) HG.out (HA.out.drew HG.out) (take_more S (Nat.le_add_right i p) hpl).1 (take_more S (Nat.le_add_right i p) hpl).2 (by omega))
                clear hp HA
                go_wp2_with fail
                simp only [HMI.out]
                have hip0 : (0 : Int) ≤ (i : Int) + (p : Int) := by omega
                have hip1 : (i : Int) + (p : Int) ≤ (S.length : Int) := by omega
                have hip2 : (i : Int) ≤ (i : Int) + (p : Int) := by omega
                have hiw : IntKind.i64.wrap ((i : Int) + (p : Int)) = (i : Int) + (p : Int) := IntWalk.i64_in _ (by omega)
                have hin : ((i : Int) + (p : Int)).toNat = i + p := by omega
                have cU2 : wc.drew.cell? ⟨U, 0, none⟩ = some (vp D2) := hcU
                have HEX := Lib.hid (bs_extract S i (i + p))
                rw [Nat.add_sub_cancel_left] at HEX
                rw [Nat.add_sub_cancel_left, ← HEX.out] at HFD
                go_region_law (first
                  | (go_simp; go_at_call 20; refine HFD.out.mono ?_; rintro e w9 ⟨ya, ym, yc, rfl, hmid⟩; obtain ⟨E, E2, xs, ys, hsx, hsy, hone, hfin⟩ := hmid.parts HG.out; have hlen := hmid.lens (by omega); have HSX := Lib.hid hsx; have HSY := Lib.hid hsy; have HON := Lib.hid hone; have HFN := Lib.hid hfin; have HLE : Hid (m + ym ≤ maxLen ∧ (m + ym) * 24 ≤ 140737488355328) := (by obtain ⟨_, _, _, _, _, _, q1, q2, q3, q4⟩ := hlen; injection q1 with _ q5 _; injection q2 with _ q6 _; subst q5; subst q6; exact ⟨q3, q4⟩); clear hmid hsx hsy hone hfin hlen)
                  | (refine step_append_out rfl _ _ rfl rfl HSX.out rfl HSY.out HON.out HLE.out.1 HLE.out.2 ?_; intro va9 vc9 w10 E9 g1 g2 g3 g4; have HA9 := Lib.hid (HFN.out va9 vc9 w10 E9 g1 g2 g3 g4); clear g1 g2 g3 g4))
                all_goals
                  obtain ⟨m2, hm2⟩ : ∃ m2, m + ym = m2 := ⟨_, rfl⟩
                  rw [hm2] at HA9 ⊢
                  have HK9 : Hid (∀ b, (b = V ∨ b = U) ∨ E1 b → w10.heap[b]? = w7.heap[b]?) := by
                    obtain ⟨_, _, _, _, _, _, _, _, _, _, q⟩ := HA9.out
                    exact q
                  have cU9 : w10.cell? ⟨U, 0, none⟩ = some (vp D2) := cell_of_blk ((HK9.out U (.inl (.inr rfl))).trans HBU.out) rfl
                  have cU10 : w10.drew.cell? ⟨U, 0, none⟩ = some (vp D2) := cU9
                  clear hm2 hiw hin hip2 cU2 hcU HEX HFD HSX HSY HON HFN HLE
                  rcases HP0.out with hpz | hpz
                  · have hz1 : ((p : Int) == 0) = true := by simp [hpz]
                    have hz2 : decide ((p : Int) = 0) = true := by simp [hpz]
                    have HA10 : Hid (AllAt (fun b => (b = V ∨ b = U) ∨ E1 b) G w D1 r1 D2 w7 S i (.slice va9 m2 vc9) w10) := by
                      have := HA9.out
                      rw [hpz, Nat.add_zero] at this
                      exact this
                    have hil2 : i + 1 ≤ S.length := by omega
                    have hj0 : (0 : Int) ≤ (i : Int) + 1 := by omega
                    have hj1 : (i : Int) + 1 ≤ (S.length : Int) := by omega
                    have hj2 : (i : Int) ≤ (i : Int) + 1 := by omega
                    have hjw : IntKind.i64.wrap ((i : Int) + 1) = (i : Int) + 1 := IntWalk.i64_in _ (by omega)
                    have hjn : ((i : Int) + 1).toNat = i + 1 := by omega
                    have HFD := Lib.hid (all_feed (j := i + 1) HG.out (HA10.out.drew HG.out) (take_more S (Nat.le_add_right i 1) hil2).1 (take_more S (Nat.le_add_right i 1) hil2).2 (by omega))
                    have HEX := Lib.hid (bs_extract S i (i + 1))
                    rw [Nat.add_sub_cancel_left] at HEX
                    rw [Nat.add_sub_cancel_left, ← HEX.out] at HFD
                    clear hpz HA9 HA10
                    go_wp2_with fail
                    go_region_law (first
                      | (go_simp; go_at_call 20; refine HFD.out.mono ?_; rintro e w11 ⟨ya, yn, yc, rfl, hmid⟩; obtain ⟨E, E2, xs, ys, hsx, hsy, hone, hfin⟩ := hmid.parts HG.out; have hlen := hmid.lens (by omega); have HSX := Lib.hid hsx; have HSY := Lib.hid hsy; have HON := Lib.hid hone; have HFN := Lib.hid hfin; have HLE : Hid (m2 + yn ≤ maxLen ∧ (m2 + yn) * 24 ≤ 140737488355328) := (by obtain ⟨_, _, _, _, _, _, q1, q2, q3, q4⟩ := hlen; injection q1 with _ q5 _; injection q2 with _ q6 _; subst q5; subst q6; exact ⟨q3, q4⟩); clear hmid hsx hsy hone hfin hlen)
                      | (refine step_append_out rfl _ _ rfl rfl HSX.out rfl HSY.out HON.out HLE.out.1 HLE.out.2 ?_; intro va11 vc11 w12 E9 g1 g2 g3 g4; have HA12 := Lib.hid (HFN.out va11 vc11 w12 E9 g1 g2 g3 g4); clear g1 g2 g3 g4))
                    all_goals
                      clear hjn
                      go_wp2_with fail
                      go_roundw
                      case rel => exact ⟨i + 1, va11, m2 + yn, vc11, by go_num, rfl, hil2, HA12.out⟩
                      case measure => simp [intOf]; omega
                  · have hz1 : ((p : Int) == 0) = false := beq_eq_false_iff_ne.2 (by omega)
                    have hz2 : decide ((p : Int) = 0) = false := decide_eq_false (by omega)
                    have hz3 : ¬ (p : Int) = 0 := by omega
                    go_wp2_with fail
                    go_roundw
                    case rel => exact ⟨i + p, va9, m2, vc9, by go_num, rfl, hpl, HA9.out⟩
                    case measure => simp [intOf]; omega
            · obtain rfl : i = S.length := by omega
              have hlt : decide ((S.length : Int) < (S.length : Int)) = false := by simp
              go_wp2_with fail
              go_meet
              case rel => exact ⟨va, m, vc, rfl, HA.out⟩
        case rest =>
          obtain ⟨va8, m8, vc8, rfl, HA8⟩ := hcut
          obtain ⟨q, E8, va9, vc9, ht8, hlc, hv8, hs8, hiq, hk8⟩ := HA8.out.done HX.out.1 HX.out.2 hSl
          obtain ⟨rfl, rfl, rfl⟩ : va8 = va9 ∧ m8 = x.length ∧ vc8 = vc9 := by injection hv8 with q1 q2 q3; exact ⟨q1, q2, q3⟩
          have HS8 := Lib.hid hs8
          have HO8 : Hid (SlAt wc 59 2 E1 (.slice va7 x.length vc7) x.length (outCells x)) := HO7.out.of_blk (fun b hb _ => hk8 b (.inr hb)) (fun _ h _ => h)
          have HBV8 : Hid (wc.heap[V]? = some (.cells #[vp D1] 43 (0, 0))) := (hk8 V (.inl (.inl rfl))).trans HBV.out
          have HBU8 : Hid (wc.heap[U]? = some (.cells #[vp D2] 43 (0, 0))) := (hk8 U (.inl (.inr rfl))).trans HBU.out
          have hI1 : Inv 5000 50000 r1 := by
            rw [← HX.out.2]
            exact ((piece_inv.1.feed 1 S).told).mono (by omega) (by omega)
          have HTD : Hid (TwoAt (fun b => (b = V ∨ b = U) ∨ E1 b) G w D1 r1 D2 q (wc.drewN 1)) := (ht8.grow HG.out (w' := wc.drewN 1) ⟨rfl, rfl, rfl, Nat.le_refl _, fun _ _ => rfl⟩).mono (fun _ h => .inl h)
          obtain ⟨z1, z2, z3, z4, hz⟩ : ∃ z1 z2 z3 z4 : Int, lookCells r1 = #[vi z1, vi z2, vi z3, vi z4] := ⟨_, _, _, _, rfl⟩
          have hlk := look_two HTD.out HG.out hI1 (by unfold NB; omega)
          rw [hz] at hlk
          have HLK := Lib.hid hlk
          have HLC : Hid (lookCells q = #[vi z1, vi z2, vi z3, vi z4]) := show _ = _ by rw [hlc, hz]
          have HIQ := Lib.hid hiq
          have cV : wc.cell? ⟨V, 0, none⟩ = some (vp D1) := cell_of_blk HBV8.out rfl
          have cU : wc.cell? ⟨U, 0, none⟩ = some (vp D2) := cell_of_blk HBU8.out rfl
          have hne : (((x.length : Nat) : Int) != ((x.length : Nat) : Int)) = false := by simp
          obtain ⟨xn, hxn⟩ : ∃ xn : Nat, x.length = xn := ⟨_, rfl⟩
          have HXN := Lib.hid hxn
          rw [hxn] at hne ⊢
          clear hv8 hs8 hk8 hlc ht8 hiq hI1 hz hlk HA8 hxn
          go_wp2_with fail
          go_cut [158] from 141 to 158 (fun s158 wx => s158 = .bool false ∧ Hid (SlAt wx 59 2 (fun _ => True) (.slice va7 xn vc7) xn (outCells x) ∧ SlAt wx 59 2 (fun _ => True) (.slice va8 xn vc8) xn (outCells x) ∧ Below w.heap.size w wx))
          case first =>
            go_region_held3 (fun w' => w'.cell? ⟨V, 0, none⟩ = some (vp D1) ∧ w'.cell? ⟨U, 0, none⟩ = some (vp D2)) (go_keep) (first
              | (go_at_call 24; refine HL2.out.mono ?_; rintro e w10 ⟨rfl, ht10, hb10⟩; have HT10 := Lib.hid ht10; have HB10 := Lib.hid hb10; have cV10 : w10.cell? ⟨V, 0, none⟩ = some (vp D1) := cell_of_blk (blk_below hb10 HV9.out) rfl; have cU10 : w10.cell? ⟨U, 0, none⟩ = some (vp D2) := cell_of_blk (blk_below hb10 HU9.out) rfl; clear ht10 hb10)
              | (go_at_call 24; refine HLK.out.mono ?_; rintro e w9 ⟨rfl, ht9, hb9⟩; have HT9 := Lib.hid ht9; have HB9 := Lib.hid hb9; have hv9 := blk_below hb9 (show (wc.drewN 1).heap[V]? = _ from HBV8.out); have hu9 := blk_below hb9 (show (wc.drewN 1).heap[U]? = _ from HBU8.out); have cV9 : w9.cell? ⟨V, 0, none⟩ = some (vp D1) := cell_of_blk hv9 rfl; have cU9 : w9.cell? ⟨U, 0, none⟩ = some (vp D2) := cell_of_blk hu9 rfl; have HV9 := Lib.hid hv9; have HU9 := Lib.hid hu9; have hl2 := look_two ht9.swap HG.out HIQ.out (by unfold NB; omega); rw [HLC.out] at hl2; have HL2 := Lib.hid hl2; clear ht9 hb9 hl2 hv9 hu9))
            all_goals
              go_wp2_with fail
              go_meet
              case rel =>
                have hbb : Below wc.heap.size wc w10 := below_grow (below_grow (below_drewN (Below.refl _ _) 1) HB9.out) HB10.out
                refine ⟨rfl, ?_⟩
                have q1 := HO8.out.of_blk (own' := fun _ => True) (fun b _ hl => hbb.block b hl) (fun _ _ _ => trivial)
                have q2 := HS8.out.of_blk (own' := fun _ => True) (fun b _ hl => hbb.block b hl) (fun _ _ _ => trivial)
                rw [HXN.out] at q1 q2
                exact ⟨q1, q2, HT10.out.below⟩
          case rest =>
            obtain ⟨rfl, HF⟩ := hcut
            clear HLK HTD HLC HIQ cV cU HS8 HO8 HBV8 HBU8 HO7 HBV HBU HX HT7 HN7
            have HF0 := HF
            have hxle : xn ≤ 9223372036854775807 := by
              obtain ⟨_, _, _, _, h9⟩ := SlAt.form' HF.out.1
              unfold maxLen at h9
              obtain ⟨a, c, e, h8, h9⟩ := SlAt.form' HF.out.1
              unfold maxLen at h9; omega
            go_wp2_with fail
            go_loopw [18, 161] (fun _ s161 wr => ∃ k : Nat, s161 = .int .i64 k ∧ k ≤ xn ∧ Hid (SlAt wr 59 2 (fun _ => True) (.slice va7 xn vc7) xn (outCells x) ∧ SlAt wr 59 2 (fun _ => True) (.slice va8 xn vc8) xn (outCells x) ∧ Below w.heap.size w wr)) (fun _ s161 _ => xn - (intOf s161).toNat)
            case atStart => exact ⟨0, by go_num, Nat.zero_le _, HF.out⟩
            case round =>
              obtain ⟨k, rfl, hk, HR⟩ := hrel
              by_cases hkl : k < xn
              · have hlt : decide ((k : Int) < (xn : Int)) = true := decide_eq_true (by omega)
                have hk0 : (0 : Int) ≤ (k : Int) := by omega
                have hk1 : (k : Int) < (xn : Int) := by omega
                obtain ⟨p, hp⟩ : ∃ p, x[k]? = some p := ⟨_, List.getElem?_eq_getElem (by rw [HXN.out]; exact hkl)⟩
                obtain ⟨q1, q2⟩ := outCells_at x k p hp
                obtain ⟨b1, o1, cap1, hv1, _, _, _, _, c1, _⟩ := SlAt.form HR.out.1 (by omega)
                obtain ⟨b2, o2, cap2, hv2, _, _, _, _, c2, _⟩ := SlAt.form HR.out.2.1 (by omega)
                obtain ⟨rfl, rfl⟩ : va7 = some ⟨b1, o1, none⟩ ∧ vc7 = cap1 := by injection hv1 with e1 e2 e3; exact ⟨e1, e3⟩
                obtain ⟨rfl, rfl⟩ : va8 = some ⟨b2, o2, none⟩ ∧ vc8 = cap2 := by injection hv2 with e1 e2 e3; exact ⟨e1, e3⟩
                have d1 : wr.cell? ⟨b1, o1 + k * 2, none⟩ = some (vi p.1) := by rw [Nat.mul_comm]; exact c1 _ _ q1
                have d2 : wr.cell? ⟨b1, o1 + k * 2 + 1, none⟩ = some (vs (bs p.2)) := by rw [Nat.mul_comm, Nat.add_assoc]; exact c1 _ _ q2
                have d3 : wr.cell? ⟨b2, o2 + k * 2, none⟩ = some (vi p.1) := by rw [Nat.mul_comm]; exact c2 _ _ q1
                have d4 : wr.cell? ⟨b2, o2 + k * 2 + 1, none⟩ = some (vs (bs p.2)) := by rw [Nat.mul_comm, Nat.add_assoc]; exact c2 _ _ q2
                clear hp q1 q2 hv1 hv2 c1 c2
                go_wp2_with fail
                go_quiet (fail)
                go_wp2_with fail
                go_roundw
                case rel => exact ⟨k + 1, by go_num, by omega, HR.out.1.of_blk (fun _ _ _ => rfl) (fun _ h _ => h), HR.out.2.1.of_blk (fun _ _ _ => rfl) (fun _ h _ => h), below_drewN HR.out.2.2 _⟩
                case measure => simp [intOf]; omega
              · obtain rfl : k = xn := by omega
                have hlt : decide ((k : Int) < (k : Int)) = false := by simp
                have HBF := Lib.hid HR.out.2.2
                go_wp2_with fail
                go_ret
                exact ⟨rfl, HBF.out⟩
end Go.Proofs.YtaejfobbogahmaaGreatDoor
