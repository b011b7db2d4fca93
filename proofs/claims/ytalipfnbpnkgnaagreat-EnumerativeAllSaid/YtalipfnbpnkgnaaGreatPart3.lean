/- Contracts and plain laws of several functions, one after the other: StepA, StepB, StepC. -/
import Derived.Deep.AppendLies
import Derived.Test.YtalipfnbpnkgnaaGreatLeave
import Derived.Test.YtalipfnbpnkgnaaGreatPart5
import Derived.Test.YtalipfnbpnkgnaaGreatPart4
/- graph.checkSet, where the set is one. -/
namespace Go.Proofs.YtalipfnbpnkgnaaGreat
open Go.RowKit

/-- A set of states: ascending, within range. -/
def IsSet (S : Int) (set : List Int) : Prop := (∀ s ∈ set, 0 ≤ s ∧ s < S) ∧ set.Pairwise (· < ·)
theorem IsSet.next {S : Int} {set : List Int} (h : IsSet S set) {k : Nat} {x y : Int} (hx : set[k]? = some x) (hy : set[k + 1]? = some y) : x < y := by
  obtain ⟨h1, rfl⟩ := List.getElem?_eq_some_iff.1 hx
  obtain ⟨h2, rfl⟩ := List.getElem?_eq_some_iff.1 hy
  exact List.pairwise_iff_getElem.1 h.2 k (k + 1) h1 h2 (by omega)
set_option maxRecDepth 100000 in
set_option maxHeartbeats 800000 in
theorem checkSet_ok (L S : Int) (v vs : Value) (set : List Int) (w : World) (hr : Row w vs set.length (ci set)) (hs : IsSet S set) :
    Calls Tryz.prog 132 #[.agg #[.int .i64 L, .int .i64 S, v], vs] w (Ret w (.int .i64 0)) := by
  obtain ⟨a, cap, rfl, hcap⟩ := hr.slice
  have hbS := Blk.new w 24 [.int .i64 L, .int .i64 S, v]
  have cS := hbS.cell (j := 1) rfl
  clear hbS
  go_enter Tryz.func132, Tryz.ntmps132
  go_wp2_with fail
  go_loop [9] (fun i => ∃ k : Nat, k ≤ set.length ∧ i = .int .i64 k) (fun i => set.length - (intOf i).toNat)
  case atStart => exact ⟨0, Nat.zero_le _, rfl⟩
  case round =>
    obtain ⟨k, hk, rfl⟩ := hrel
    by_cases hlt : k < set.length
    · obtain ⟨b, off, rfl, hbl, hce⟩ := hr.at_ (by omega)
      obtain ⟨x, hx⟩ : ∃ x, set[k]? = some x := ⟨set[k], by simp [hlt]⟩
      have c0 := (below_new w (.cells #[.int .i64 L, .int .i64 S, v] 24) hbl (off + k)).trans (hce _ _ (ci_get hx))
      have hx1 := hs.1 x (List.mem_of_getElem? hx)
      by_cases hk0 : k = 0
      · subst hk0
        rw [Nat.add_zero] at c0
        have HX := Lib.hid hx; clear hx
        go_wp2_with fail
        go_round
        case rel => exact ⟨1, by omega, by go_num⟩
        case measure => simp [intOf]; omega
      · obtain ⟨y, hy⟩ : ∃ y, set[k - 1]? = some y := ⟨set[k - 1], List.getElem?_eq_getElem (by omega)⟩
        have hyx : y < x := hs.next hy (by rw [show k - 1 + 1 = k by omega]; exact hx)
        have c1 := (below_new w (.cells #[.int .i64 L, .int .i64 S, v] 24) hbl (off + (k - 1))).trans (hce _ _ (ci_get hy))
        have HX := Lib.hid hx; clear hx
        have HY := Lib.hid hy; clear hy
        have hk1 : 0 < k := by omega
        clear hk0
        go_wp2_with fail
        go_round
        case rel => exact ⟨k + 1, by omega, by go_num⟩
        case measure => simp [intOf]; omega
    · obtain rfl : k = set.length := by omega
      go_wp2_with fail
      go_ret
      exact ⟨(Below.refl _ _).alloc (Nat.le_refl _) _, rfl⟩
end Go.Proofs.YtalipfnbpnkgnaaGreat

/- slices.Sort and slices.Compact at ints, onto a row of the call's own; the plain facts of graph.Step. -/
namespace Go.Proofs.YtalipfnbpnkgnaaGreat
open Go.RowKit Go.Sort

abbrev encZ : Int → Value := Value.int .i64
theorem ci_encZ (l : List Int) : ci l = l.map encZ := rfl
theorem holds_own {w : World} {base g cap : Nat} {e : TypeId} {zs : List Int} (h : w.ownsRow base e 1 (.slice (some ⟨g, 0, none⟩) zs.length cap) zs.length (ci zs)) : Holds encZ w g 0 zs.toArray := by
  rcases h.2 with ⟨h0, _⟩ | ⟨g', cap', cur, hv, hg, hb, h1, h2, h3, h4⟩
  · cases h0
  cases hv
  intro j hj
  have hj' : j < zs.length := by simpa using hj
  refine ⟨?_, by simp [World.frozen?, hb]⟩
  have e1 := h.cellAt j (by omega)
  rw [show (⟨g, 0 + j, none⟩ : Addr) = ⟨g, j, none⟩ by simp, e1]
  have e2 : (ci zs)[j]? = some (encZ zs.toArray[j]!) := by
    rw [ci_encZ, List.getElem?_map, List.getElem?_eq_getElem hj', getElem!_pos _ j hj]; rfl
  first
    | exact e2
    | (rw [e2])
    | (have hl : j < (ci zs).length := by rw [ci_length]; exact hj'
       rw [List.getElem?_eq_getElem hl] at e2
       simpa using e2)
theorem putZ {w : World} {base g cap n : Nat} {e : TypeId} {os : Array Obj} {zs ys : List Int} (h : w.ownsRow base e 1 (.slice (some ⟨g, 0, none⟩) zs.length cap) zs.length (ci zs)) (hy : ys.length = zs.length) :
    w.grownBy (grow (putRow encZ (Sort.ahead w n) g 0 ys.toArray) os) (some g) ∧ (grow (putRow encZ (Sort.ahead w n) g 0 ys.toArray) os).ownsRow base e 1 (.slice (some ⟨g, 0, none⟩) ys.length cap) ys.length (ci ys) ∧ g < w.heap.size := by
  rcases h.2 with ⟨h0, _⟩ | ⟨g', cap', cur, hv, hg, hb, h1, h2, h3, h4⟩
  · cases h0
  cases hv
  have hgl : g < w.heap.size := (Array.getElem?_eq_some_iff.1 hb).1
  have hb2 : (grow (putRow encZ (Sort.ahead w n) g 0 ys.toArray) os).heap[g]? = some (.cells (putCells encZ 0 ys.toArray cur) e (0, 0)) := by
    rw [heap_grow_old _ _ (by simpa using hgl)]
    simp [putRow, mapBlock, Sort.ahead, Array.getElem?_modify, hb, onCells]
  refine ⟨⟨rfl, rfl, rfl, by simp, fun k hk hne => ?_⟩, ⟨by rw [ci_length]; omega, .inr ⟨g, cap, _, rfl, hg, hb2, by omega, h2, by simp [putCells, h3], ?_⟩⟩, hgl⟩
  · rw [heap_grow_old _ _ (by simpa using hk)]
    have : g ≠ k := fun e => hne (by rw [e])
    simp [putRow, mapBlock, Sort.ahead, Array.getElem?_modify, this]
  · apply List.ext_getElem?
    intro j
    by_cases hj : j < ys.length
    · rw [List.getElem?_take_of_lt (by omega), Array.getElem?_toList, ci_encZ, List.getElem?_map, List.getElem?_eq_getElem hj]
      simp [putCells, hj, show j < cur.size by omega]
    · rw [List.getElem?_take_eq_none (by omega), List.getElem?_eq_none (by rw [ci_length]; omega)]
theorem own_cut {w : World} {base g cap n m : Nat} {e : TypeId} {xs : List Value} (h : w.ownsRow base e 1 (.slice (some ⟨g, 0, none⟩) n cap) n xs) (hm : m ≤ n) : w.ownsRow base e 1 (.slice (some ⟨g, 0, none⟩) m cap) m (xs.take m) := by
  rcases h.2 with ⟨h0, _⟩ | ⟨g', cap', cur, hv, hg, hb, h1, h2, h3, h4⟩
  · cases h0
  cases hv
  have hl := h.1
  refine ⟨by rw [List.length_take]; omega, .inr ⟨g, cap, cur, rfl, hg, hb, by omega, h2, h3, ?_⟩⟩
  rw [← h4, List.take_take]; congr 1; omega

def sortI (zs : List Int) : List Int := zs.mergeSort fun x y => decide (x ≤ y)
theorem sortI_length (zs : List Int) : (sortI zs).length = zs.length := by simp [sortI]
def RowRet (w : World) (g base cap : Nat) (ys : List Int) (v : Value) (e : Ending) (w' : World) : Prop :=
  e = .returned v ∧ w.grownBy w' (some g) ∧ w'.ownsRow base 3 1 (.slice (some ⟨g, 0, none⟩) ys.length cap) ys.length (ci ys)
theorem sortI_any (zs : List Int) (base g cap : Nat) (w : World) (hown : w.ownsRow base 3 1 (.slice (some ⟨g, 0, none⟩) zs.length cap) zs.length (ci zs)) (hlen : zs.length ≤ 1000000000) :
    Calls Tryz.prog 134 #[.slice (some ⟨g, 0, none⟩) zs.length cap] w (RowRet w g base cap (sortI zs) (.tuple #[])) := by
  have hput := fun n os => putZ (n := n) (os := os) hown (sortI_length zs)
  refine (Tryz.slices_Sort_int g 0 cap zs w (holds_own hown) (hput 0 #[]).2.2 (by omega)).mono ?_
  rintro e w' ⟨he, n, os, rfl⟩
  exact ⟨he, (hput n os).1, (hput n os).2.1⟩
theorem compact_len (zs : List Int) : (Lib.compact zs).length ≤ zs.length := by
  first
    | exact Lib.compact_length_le zs
    | (unfold Lib.compact; exact Lib.compactUpTo_length_le _ _)
theorem compactI_any (zs : List Int) (base g cap : Nat) (w : World) (hown : w.ownsRow base 3 1 (.slice (some ⟨g, 0, none⟩) zs.length cap) zs.length (ci zs)) (hlen : zs.length ≤ 1000000000) (hcap : zs.length ≤ cap) :
    Calls Tryz.prog 135 #[.slice (some ⟨g, 0, none⟩) zs.length cap] w (RowRet w g base cap (Lib.compact zs) (.slice (some ⟨g, 0, none⟩) (Lib.compact zs).length cap)) := by
  have hl := compact_len zs
  have hput := fun n => putZ (n := n) (os := #[]) (ys := Lib.compact zs ++ List.replicate (zs.length - (Lib.compact zs).length) 0) hown (by simp; omega)
  refine (Tryz.slices_Compact_int g 0 cap zs w (holds_own hown) (by omega) hcap).mono ?_
  rintro e w' ⟨he, n, rfl⟩
  have h1 := hput n
  rw [grow_empty] at h1
  refine ⟨he, h1.1, ?_⟩
  have h2 := own_cut h1.2.1 (m := (Lib.compact zs).length) (by simp)
  rw [ci_encZ, List.map_append, List.take_left' (by simp)] at h2
  exact h2
end Go.Proofs.YtalipfnbpnkgnaaGreat

/- The plain facts of graph.Step. -/
namespace Go.Proofs.YtalipfnbpnkgnaaGreat
open Go.RowKit

/-- The targets of the edges from s with a label. -/
def tgp (label : Int) (pre : List (Nat × E3)) : List Int := (pre.filter fun x => decide (x.2.l = label)).map fun x => x.2.t
def tgs (es : List E3) (label s : Int) : List Int := tgp label (lvs s es es.length)
theorem tgp_yes {label : Int} {pre : List (Nat × E3)} {x : Nat × E3} (h : x.2.l = label) : tgp label (pre ++ [x]) = tgp label pre ++ [x.2.t] := by simp [tgp, h]
theorem tgp_no {label : Int} {pre : List (Nat × E3)} {x : Nat × E3} (h : ¬ x.2.l = label) : tgp label (pre ++ [x]) = tgp label pre := by simp [tgp, h]
theorem tgp_length (label : Int) (pre : List (Nat × E3)) : (tgp label pre).length ≤ pre.length := by
  unfold tgp; rw [List.length_map]; exact List.length_filter_le _ _
def outsL (es : List E3) (label : Int) (set : List Int) : List Int := set.flatMap (tgs es label)
theorem outs_succ {es : List E3} {label : Int} {set : List Int} {k : Nat} {x : Int} (h : set[k]? = some x) : outsL es label (set.take (k + 1)) = outsL es label (set.take k) ++ tgs es label x := by
  obtain ⟨hk, rfl⟩ := List.getElem?_eq_some_iff.1 h
  rw [List.take_succ_eq_append_getElem hk, outsL, List.flatMap_append]; simp [outsL]
theorem outs_length (es : List E3) (label : Int) (set : List Int) : (outsL es label set).length ≤ set.length * es.length := by
  induction set with
  | nil => simp [outsL]
  | cons s t ih =>
    have h1 := tgp_length label (lvs s es es.length)
    have h2 := lvs_length s es es.length
    rw [outsL, List.flatMap_cons, List.length_append, List.length_cons, Nat.succ_mul]
    unfold tgs
    unfold outsL tgs at ih
    omega
theorem mem_lvs {s : Int} {es : List E3} {n k : Nat} {e : E3} : (k, e) ∈ lvs s es n ↔ k < n ∧ es[k]? = some e ∧ e.f = s := by
  induction n with
  | zero => simp [lvs]
  | succ n ih =>
    rw [lvs, List.mem_append, ih]
    constructor
    · rintro (⟨h1, h2, h3⟩ | h)
      · exact ⟨by omega, h2, h3⟩
      · cases hn : es[n]? with
        | none => rw [hn] at h; cases h
        | some e' =>
          rw [hn] at h
          by_cases hf : e'.f = s
          · simp [hf] at h
            obtain ⟨rfl, rfl⟩ := h
            exact ⟨by omega, hn, hf⟩
          · simp [hf] at h
    · rintro ⟨h1, h2, h3⟩
      by_cases hk : k < n
      · exact .inl ⟨hk, h2, h3⟩
      · have : k = n := by omega
        subst this
        right; rw [h2]; simp [h3]
theorem mem_tgs {es : List E3} {label s t : Int} : t ∈ tgs es label s ↔ ∃ e ∈ es, e.f = s ∧ e.l = label ∧ e.t = t := by
  unfold tgs tgp
  rw [List.mem_map]
  constructor
  · rintro ⟨⟨k, e⟩, h, rfl⟩
    rw [List.mem_filter] at h
    obtain ⟨h1, h2, h3⟩ := mem_lvs.1 h.1
    exact ⟨e, List.mem_of_getElem? h2, h3, by simpa using h.2, rfl⟩
  · rintro ⟨e, he, h1, h2, rfl⟩
    obtain ⟨k, hk⟩ := List.getElem?_of_mem he
    refine ⟨(k, e), ?_, rfl⟩
    rw [List.mem_filter]
    exact ⟨mem_lvs.2 ⟨(List.getElem?_eq_some_iff.1 hk).1, hk, h1⟩, by simp [h2]⟩
theorem compact_sorted (l : List Int) (hs : l.Pairwise (· ≤ ·)) : (Lib.compact l).Pairwise (· < ·) ∧ ∀ x, x ∈ Lib.compact l ↔ x ∈ l := by
  have key : ∀ m, m ≤ l.length → (Lib.compactUpTo l.toArray m).Pairwise (· < ·) ∧ ∀ x, x ∈ Lib.compactUpTo l.toArray m ↔ x ∈ l.take m := by
    intro m
    induction m with
    | zero => intro _; exact ⟨by simp [Lib.compactUpTo], by simp [Lib.compactUpTo]⟩
    | succ m ih =>
      intro hm
      obtain ⟨h1, h2⟩ := ih (by omega)
      have hml : m < l.length := by omega
      have hd : ∀ j, j < l.length → l.toArray[j]! = l[j]! := fun j hj => by simp
      have hg : l.toArray[m]! = l[m] := by rw [getElem!_pos l.toArray m (by simpa using hml)]; simp
      rw [Lib.compactUpTo_succ, List.take_succ_eq_append_getElem hml, hg]
      have hle : ∀ x ∈ l.take m, x ≤ l[m] := by
        intro x hx
        obtain ⟨j, hj, rfl⟩ := List.getElem_of_mem hx
        rw [List.getElem_take]
        rw [List.length_take] at hj
        exact List.pairwise_iff_getElem.1 hs j m _ _ (by omega)
      by_cases hk : Lib.keeps l.toArray m = true
      · rw [if_pos hk]
        refine ⟨?_, fun x => by rw [List.mem_append, List.mem_append, h2]⟩
        rw [List.pairwise_append]
        refine ⟨h1, by simp, ?_⟩
        intro x hx y hy
        rw [List.mem_singleton] at hy
        subst hy
        have hx' := (h2 x).1 hx
        have hxl := hle x hx'
        rcases Nat.eq_zero_or_pos m with e | hm0
        · subst e; simp at hx'
        · have hg1 : l.toArray[m - 1]! = l[m - 1] := by rw [getElem!_pos l.toArray (m - 1) (by simp; omega)]; simp
          have hne : l[m] ≠ l[m - 1] := by
            intro e
            have := Lib.keeps_neg (d := l.toArray) hm0 (by rw [hg, hg1, e])
            rw [this] at hk; cases hk
          have hxp : x ≤ l[m - 1] := by
            obtain ⟨j, hj, rfl⟩ := List.getElem_of_mem hx'
            rw [List.getElem_take]
            rw [List.length_take] at hj
            rcases Nat.lt_or_ge j (m - 1) with h | h
            · exact List.pairwise_iff_getElem.1 hs j (m - 1) _ _ h
            · have : j = m - 1 := by omega
              subst this; exact Int.le_refl _
          have hpm := List.pairwise_iff_getElem.1 hs (m - 1) m (by omega) hml (by omega)
          omega
      · rw [if_neg hk, List.append_nil]
        refine ⟨h1, fun x => ?_⟩
        rw [h2, List.mem_append, List.mem_singleton]
        constructor
        · exact .inl
        · rintro (h | rfl)
          · exact h
          · rcases Nat.eq_zero_or_pos m with e | hm0
            · subst e; exact absurd (Lib.keeps_lt_one _ 0 (by omega)) hk
            · have hg1 : l.toArray[m - 1]! = l[m - 1] := by rw [getElem!_pos l.toArray (m - 1) (by simp; omega)]; simp
              have he : l[m] = l[m - 1] := by
                rcases Classical.em (l[m] = l[m - 1]) with h | h
                · exact h
                · exact absurd (Lib.keeps_pos (d := l.toArray) (by rw [hg, hg1]; exact h)) hk
              rw [he, List.mem_take_iff_getElem]
              exact ⟨m - 1, by omega, rfl⟩
  have h := key l.length (Nat.le_refl _)
  rw [List.take_length] at h
  exact h
/-- The result of graph.Step. -/
def stepR (es : List E3) (label : Int) (set : List Int) : List Int := Lib.compact (sortI (outsL es label set))
theorem stepR_sorted (es : List E3) (label : Int) (set : List Int) : (stepR es label set).Pairwise (· < ·) := by
  refine (compact_sorted _ ?_).1
  have := List.pairwise_mergeSort (le := fun x y : Int => decide (x ≤ y)) (fun a b c h1 h2 => by simp at *; omega) (fun a b => by simp; omega) (outsL es label set)
  exact this.imp (by simp)
theorem mem_stepR {es : List E3} {label : Int} {set : List Int} {t : Int} : t ∈ stepR es label set ↔ ∃ e ∈ es, e.f ∈ set ∧ e.l = label ∧ e.t = t := by
  unfold stepR
  have hsort : (sortI (outsL es label set)).Pairwise (· ≤ ·) := by
    have := List.pairwise_mergeSort (le := fun x y : Int => decide (x ≤ y)) (fun a b c h1 h2 => by simp at *; omega) (fun a b => by simp; omega) (outsL es label set)
    exact this.imp (by simp)
  rw [(compact_sorted _ hsort).2, sortI, (List.mergeSort_perm _ _).mem_iff, outsL, List.mem_flatMap]
  constructor
  · rintro ⟨s, hs, h⟩
    obtain ⟨e, he, h1, h2, h3⟩ := mem_tgs.1 h
    exact ⟨e, he, by rw [h1]; exact hs, h2, h3⟩
  · rintro ⟨e, he, h1, h2, h3⟩
    exact ⟨e.f, h1, mem_tgs.2 ⟨e, he, rfl, h2, h3⟩⟩
theorem stepR_nil {es : List E3} {label : Int} {set : List Int} (h : outsL es label set = []) : stepR es label set = [] := by
  unfold stepR; rw [h]; simp [sortI, Lib.compact, Lib.compactUpTo]
theorem isSet_length {S : Int} : ∀ (set : List Int) (lo : Int), (∀ s ∈ set, lo ≤ s ∧ s < S) → set.Pairwise (· < ·) → (set.length : Int) ≤ max 0 (S - lo)
  | [], lo, _, _ => by simp; omega
  | s :: t, lo, h, hp => by
    rw [List.pairwise_cons] at hp
    have h0 := h s (by simp)
    have ih := isSet_length t (s + 1) (fun x hx => ⟨by have := hp.1 x hx; omega, (h x (by simp [hx])).2⟩) hp.2
    rw [List.length_cons]; omega
theorem IsSet.len {S : Int} {set : List Int} (h : IsSet S set) (hS : S ≤ 64) : set.length ≤ 64 := by
  have := isSet_length set 0 h.1 h.2
  omega
end Go.Proofs.YtalipfnbpnkgnaaGreat

