/-
  Ahead of Close: a slice of ints sorted; the entries of a map that are picked, in whatever order.
-/
import Derived.Test.YtaejfobbogahmaaGreatDoorMkLook
import Derived.Test.YtaejfobbogahmaaGreatDoorMkPure
set_option linter.unusedVariables false
set_option linter.unusedSimpArgs false
namespace Go.Proofs.YtaejfobbogahmaaGreatDoor
open Go Go.RowKit

/-! ### Sorted lists -/
theorem strict_unique : ∀ (l m : List Int), l.Pairwise (· < ·) → m.Pairwise (· < ·) → (∀ x, x ∈ l ↔ x ∈ m) → l = m
  | [], [], _, _, _ => rfl
  | [], y :: m, _, _, h => by have := (h y).2 (by simp); simp at this
  | x :: l, [], _, _, h => by have := (h x).1 (by simp); simp at this
  | x :: l, y :: m, h1, h2, h => by
    rw [List.pairwise_cons] at h1 h2
    have e : x = y := by
      rcases List.mem_cons.1 ((h x).1 (by simp)) with e | e
      · exact e
      · rcases List.mem_cons.1 ((h y).2 (by simp)) with e2 | e2
        · exact e2.symm
        · have := h2.1 x e; have := h1.1 y e2; omega
    subst e
    rw [strict_unique l m h1.2 h2.2 (fun z => ⟨fun hz => by
      rcases List.mem_cons.1 ((h z).1 (by simp [hz])) with e | e
      · subst e; have := h1.1 z hz; omega
      · exact e, fun hz => by
      rcases List.mem_cons.1 ((h z).2 (by simp [hz])) with e | e
      · subst e; have := h2.1 z hz; omega
      · exact e⟩)]
theorem insSorted_sorted {x : Int} : ∀ {l : List Int}, l.Pairwise (· ≤ ·) → (insSorted x l).Pairwise (· ≤ ·)
  | [], _ => by simp [insSorted]
  | y :: l, h => by
    rw [List.pairwise_cons] at h
    unfold insSorted
    split
    · rename_i hxy
      rw [List.pairwise_cons]
      refine ⟨fun z hz => ?_, by rw [List.pairwise_cons]; exact h⟩
      rcases List.mem_cons.1 hz with e | e
      · omega
      · have := h.1 z e; omega
    · rename_i hxy
      rw [List.pairwise_cons]
      refine ⟨fun z hz => ?_, insSorted_sorted h.2⟩
      rw [insSorted_mem] at hz
      rcases hz with e | e
      · omega
      · exact h.1 z e
theorem sortI_sorted : ∀ (l : List Int), (sortI l).Pairwise (· ≤ ·)
  | [] => by simp [sortI]
  | x :: l => by unfold sortI; exact insSorted_sorted (sortI_sorted l)
theorem strict_of {l : List Int} (h : l.Pairwise (· ≤ ·)) (hn : l.Nodup) : l.Pairwise (· < ·) := (h.and hn).imp (fun ⟨a, b⟩ => by omega)
theorem merge_eq {l m : List Int} (hl : l.Nodup) (hm : m.Nodup) (h : ∀ x, x ∈ l ↔ x ∈ m) : l.mergeSort (fun x y => decide (x ≤ y)) = sortI m := by
  refine strict_unique _ _ (strict_of ?_ ((List.mergeSort_perm l _).nodup_iff.2 hl)) (strict_of (sortI_sorted m) (sortI_nodup hm)) (fun x => ?_)
  · have := List.pairwise_mergeSort (le := fun x y : Int => decide (x ≤ y)) (fun a b c => by simp; omega) (fun a b => by simp; omega) l
    exact this.imp (fun h => by simpa using h)
  · rw [List.mem_mergeSort, sortI_mem]; exact h x

/-! ### slices.Sort -/
theorem sort_blk {w : World} {b off n : Nat} {cs : Array Value} {T : TypeId} {fr : Nat × Nat} {d : Array Int} {os : Array Obj} (h : w.heap[b]? = some (.cells cs T fr)) :
    (Go.Sort.grow (Go.Sort.putRow (Value.int .i64) (Go.Sort.ahead w n) b off d) os).heap[b]? = some (.cells (Go.Sort.putCells (Value.int .i64) off d cs) T fr) ∧ Fr (fun x => x = b) w (Go.Sort.grow (Go.Sort.putRow (Value.int .i64) (Go.Sort.ahead w n) b off d) os) := by
  have hlt := blk_lt _ h
  have hm : ∀ k, ((Go.Sort.putRow (Value.int .i64) (Go.Sort.ahead w n) b off d).heap)[k]? = if b = k then (w.heap[k]?).map (Go.Sort.onCells (Go.Sort.putCells (Value.int .i64) off d)) else w.heap[k]? := fun k => by
    show (w.heap.modify b _)[k]? = _
    rw [Array.getElem?_modify]
  have hsz : (Go.Sort.putRow (Value.int .i64) (Go.Sort.ahead w n) b off d).heap.size = w.heap.size := by simp [Go.Sort.ahead]
  have hg : ∀ k, k < w.heap.size → ((Go.Sort.grow (Go.Sort.putRow (Value.int .i64) (Go.Sort.ahead w n) b off d) os).heap)[k]? = ((Go.Sort.putRow (Value.int .i64) (Go.Sort.ahead w n) b off d).heap)[k]? := fun k hk => by
    show ((Go.Sort.putRow (Value.int .i64) (Go.Sort.ahead w n) b off d).heap ++ os)[k]? = _
    rw [Array.getElem?_append_left (by rw [hsz]; exact hk)]
  refine ⟨?_, ⟨rfl, rfl, rfl, ?_, fun k hk hn => ?_⟩⟩
  · rw [hg b hlt, hm b, if_pos rfl, h]; rfl
  · show w.heap.size ≤ ((Go.Sort.putRow (Value.int .i64) (Go.Sort.ahead w n) b off d).heap ++ os).size
    rw [Array.size_append, hsz]; omega
  · rw [hg k hk, hm k, if_neg (fun e => hn e.symm)]
theorem sort_calls {w : World} {own : Nat → Prop} {v : Value} {l : List Int} (hs : SlAt w 3 1 own v l.length (l.map encI)) (hl : l.length ≤ 1000000000000) :
    Calls Tryz.prog 54 #[v] w fun e w' => e = .returned (.tuple #[]) ∧ SlAt w' 3 1 own v l.length ((l.mergeSort fun x y => decide (x ≤ y)).map encI) ∧ Fr own w w' := by
  rcases hs with ⟨rfl, h0, _⟩ | ⟨b, off, cap, cs, rfl, h2, h3, h4, h5, h6, h7, h8⟩
  · have : l = [] := List.length_eq_zero_iff.1 h0
    subst this
    refine (Tryz.slices_Sort_int_none none 0 w).mono ?_
    rintro e w' ⟨rfl, rfl⟩
    exact ⟨rfl, .inl ⟨rfl, rfl, by simp⟩, Fr.refl _ _⟩
  · by_cases h0 : l.length = 0
    · have : l = [] := List.length_eq_zero_iff.1 h0
      subst this
      refine (Tryz.slices_Sort_int_none (some ⟨b, off, none⟩) cap w).mono ?_
      rintro e w' ⟨rfl, rfl⟩
      exact ⟨rfl, .inr ⟨b, off, cap, cs, rfl, h2, h3, h4, h5, h6, by simp, by simp⟩, Fr.refl _ _⟩
    · have hc : ∀ j (hj : j < l.length), cs[off + j]? = some (.int .i64 l[j]) := fun j hj => h8 j _ (by rw [List.getElem?_map, List.getElem?_eq_getElem hj]; rfl)
      refine (Tryz.slices_Sort_int b off cap l w (fun j hj => ?_) (blk_lt _ h3) (by omega)).mono ?_
      · have hj2 : j < l.length := by simpa using hj
        refine ⟨?_, frozen_of_blk h3⟩
        rw [cell_of_blk h3 (hc j hj2)]
        simp [hj2]
      · rintro e w' ⟨rfl, n, os, rfl⟩
        obtain ⟨k1, k2⟩ := sort_blk (n := n) (off := off) (os := os) (d := (l.mergeSort fun x y => decide (x ≤ y)).toArray) h3
        refine ⟨rfl, .inr ⟨b, off, cap, _, rfl, h2, k1, h4, h5, ?_, by simp, fun j u hj => ?_⟩, k2.mono (fun x hx => .inl (by subst hx; exact h2))⟩
        · simp [Go.Sort.putCells]; omega
        · rw [List.getElem?_map] at hj
          obtain ⟨x, hx, rfl⟩ := Option.map_eq_some_iff.1 hj
          obtain ⟨hj1, hj2⟩ := List.getElem?_eq_some_iff.1 hx
          have hj3 : j < l.length := by simpa using hj1
          simp only [Go.Sort.putCells, Array.getElem?_mapIdx, hc j hj3, Option.map_some]
          rw [if_pos ⟨by omega, by simp; omega⟩, show off + j - off = j from by omega]
          simp [hx, encI]

/-! ### The entries that are picked -/
def pickd (sel : MapEntry → Bool) (seen : Array Nat) (es : List MapEntry) : List MapEntry := es.filter fun e => seen.contains e.born && sel e
theorem pickd_other (sel : MapEntry → Bool) (seen : Array Nat) (b : Nat) : ∀ (es : List MapEntry), b ∉ es.map (·.born) → pickd sel (seen.push b) es = pickd sel seen es
  | [], _ => rfl
  | x :: l, h => by
    have h1 : x.born ≠ b := fun e => h (by simp [e])
    have h2 : b ∉ l.map (·.born) := fun e => h (List.mem_cons_of_mem _ e)
    have := pickd_other sel seen b l h2
    unfold pickd at this ⊢
    rw [List.filter_cons, List.filter_cons, contains_push, beq_eq_false_iff_ne.2 h1, Bool.or_false, this]
theorem pickd_push (sel : MapEntry → Bool) (seen : Array Nat) (e : MapEntry) (hs : seen.contains e.born = false) : ∀ (es : List MapEntry), (es.map (·.born)).Nodup → e ∈ es → (pickd sel (seen.push e.born) es).Perm (pickd sel seen es ++ if sel e then [e] else [])
  | x :: l, hn, he => by
    have hn' := List.nodup_cons.1 hn
    rcases List.mem_cons.1 he with rfl | h
    · have := pickd_other sel seen e.born l hn'.1
      unfold pickd at this ⊢
      rw [List.filter_cons, List.filter_cons, contains_push, hs, beq_self_eq_true, Bool.false_or, Bool.true_and, Bool.false_and, this]
      cases sel e with
      | true => simpa using (List.perm_append_singleton e _).symm
      | false => simp
    · have hx : (x.born == e.born) = false := beq_eq_false_iff_ne.2 (fun e2 => hn'.1 (by show x.born ∈ _; rw [e2]; exact List.mem_map.2 ⟨e, h, rfl⟩))
      have ih := pickd_push sel seen e hs l hn'.2 h
      unfold pickd at ih ⊢
      rw [List.filter_cons, List.filter_cons, contains_push, hx, Bool.or_false]
      split
      · exact (ih.cons x)
      · exact ih
theorem pickd_none (sel : MapEntry → Bool) (es : List MapEntry) : pickd sel #[] es = [] := by
  unfold pickd; simp
theorem pickd_full (sel : MapEntry → Bool) (seen : Array Nat) (es : List MapEntry) (h : ∀ x ∈ es, seen.contains x.born = true) : pickd sel seen es = es.filter sel := by
  unfold pickd
  exact List.filter_congr (fun x hx => by rw [h x hx, Bool.true_and])
def keyI : MapEntry → Int
  | ⟨.int _ n, _, _⟩ => n
  | _ => 0

theorem keyI_enc {e : MapEntry} {id : Int} (h : e.key = encI id) : keyI e = id := by
  obtain ⟨k, v, b⟩ := e
  simp only at h
  subst h; rfl
/-- Is it a request of c's? -/
def selC (c : Int) (reqs : List (Int × Req)) (e : MapEntry) : Bool := match aget reqs (keyI e) with | some q => decide (q.conn = c) | none => false
theorem ents_keys {f : Int → Req → Value} : ∀ {reqs : List (Int × Req)} {es : List MapEntry}, EntsAre encI es (amap f reqs) → es.map keyI = reqs.map Prod.fst ∧ ∀ e ∈ es, ∃ id q, (id, q) ∈ reqs ∧ e.key = encI id ∧ e.val = f id q
  | [], es, h => by
    have : es = [] := by simpa [EntsAre, amap] using h
    subst this; simp
  | p :: l, [], h => by simp [EntsAre, amap] at h
  | p :: l, e :: es, h => by
    have he2 : (e.key, e.val) = (encI p.1, f p.1 p.2) ∧ EntsAre encI es (amap f l) := by simpa [EntsAre, amap] using h
    obtain ⟨i1, i2⟩ := ents_keys (f := f) he2.2
    have hk : e.key = encI p.1 := congrArg Prod.fst he2.1
    have hv : e.val = f p.1 p.2 := congrArg Prod.snd he2.1
    refine ⟨?_, fun x hx => ?_⟩
    · rw [List.map_cons, List.map_cons, i1]
      congr 1
      obtain ⟨k, v, b⟩ := e
      simp only at hk
      subst hk; rfl
    · rcases List.mem_cons.1 hx with rfl | hx
      · exact ⟨p.1, p.2, by simp, hk, hv⟩
      · obtain ⟨id, q, h1, h2⟩ := i2 x hx
        exact ⟨id, q, by simp [h1], h2⟩
theorem sel_ids {f : Int → Req → Value} {reqs : List (Int × Req)} {es : List MapEntry} (hn : (reqs.map Prod.fst).Nodup) (h : EntsAre encI es (amap f reqs)) (c : Int) :
    (es.filter (selC c reqs)).map keyI = (reqs.filter fun p => decide (p.2.conn = c)).map Prod.fst := by
  obtain ⟨h1, _⟩ := ents_keys h
  have e1 : (es.filter (selC c reqs)).map keyI = (es.map keyI).filter fun i => match aget reqs i with | some q => decide (q.conn = c) | none => false := by
    rw [List.filter_map]; rfl
  rw [e1, h1, List.filter_map]
  congr 1
  refine List.filter_congr (fun p hp => ?_)
  show (match aget reqs p.1 with | some q => decide (q.conn = c) | none => false) = _
  rw [aget_of_mem hn (show (p.1, p.2) ∈ reqs from hp)]
/-- What has been collected. -/
def CollAt (own : Nat → Prop) (sel : MapEntry → Bool) (es : List MapEntry) (seen : Array Nat) (v : Value) (w : World) : Prop :=
  ∃ l : List Int, SlAt w 3 1 own v l.length (l.map encI) ∧ l.Perm ((pickd sel seen es).map keyI)
theorem CollAt.le {sel : MapEntry → Bool} {es : List MapEntry} {seen : Array Nat} {l : List Int} (h : l.Perm ((pickd sel seen es).map keyI)) : l.length ≤ es.length := by
  rw [h.length_eq, List.length_map]
  exact List.length_filter_le _ _
theorem ItAt.fr {wl wr wr' : World} {R bm clock : Nat} {seen : Array Nat} {S : Nat → Prop} (h : ItAt wl R bm clock seen wr) (hf : Fr S wr wr') (hS : ∀ b, S b → wl.heap.size ≤ b ∧ b ≠ R) : ItAt wl R bm clock seen wr' := by
  obtain ⟨h2, h3⟩ := h
  refine ⟨(hf.block R (blk_lt _ h2) (fun hs => (hS R hs).2 rfl)).trans h2, ⟨hf.os.trans h3.os, hf.tape.trans h3.tape, hf.output.trans h3.output, Nat.le_trans h3.size hf.size, fun k hk hn => ?_⟩⟩
  exact (hf.block k (Nat.lt_of_lt_of_le hk h3.size) (fun hs => by have := (hS k hs).1; omega)).trans (h3.block k hk hn)
theorem setBlock_fr {wr w1 : World} {R : Nat} {o : Obj} (h1 : w1 = wr ∨ w1 = wr.drew) : Fr (fun b => b = R) wr (Go.ChangeMaps.setBlock w1 R o) := by
  have h4 : w1.heap = wr.heap ∧ w1.os = wr.os ∧ w1.tape = wr.tape ∧ w1.output = wr.output := by rcases h1 with rfl | rfl <;> exact ⟨rfl, rfl, rfl, rfl⟩
  obtain ⟨e1, e2, e3, e4⟩ := h4
  refine ⟨e2, e3, e4, ?_, fun i hi hn => ?_⟩
  · show wr.heap.size ≤ (w1.heap.setIfInBounds R _).size
    rw [e1]; simp
  · show (w1.heap.setIfInBounds R _)[i]? = _
    rw [e1, Array.getElem?_setIfInBounds_ne (fun e => hn e.symm)]
end Go.Proofs.YtaejfobbogahmaaGreatDoor
