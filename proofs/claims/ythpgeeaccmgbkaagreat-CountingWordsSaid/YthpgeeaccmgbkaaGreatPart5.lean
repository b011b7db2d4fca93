/- Contracts and plain laws of several functions, one after the other: StepA, StepB, StepC, Step. -/
import Derived.Deep.AppendLies
import Derived.RangeFuncOne
import Derived.Test.YthpgeeaccmgbkaaGreatLeave
import Derived.Test.YthpgeeaccmgbkaaGreatPart6
import Derived.Test.YthpgeeaccmgbkaaGreatPart3
/- graph.checkSet, where the set is one. -/
namespace Go.Proofs.YthpgeeaccmgbkaaGreat
open Go.RowKit

/-- A set of states: ascending, within range. -/
def IsSet (S : Int) (set : List Int) : Prop := (∀ s ∈ set, 0 ≤ s ∧ s < S) ∧ set.Pairwise (· < ·)
theorem IsSet.next {S : Int} {set : List Int} (h : IsSet S set) {k : Nat} {x y : Int} (hx : set[k]? = some x) (hy : set[k + 1]? = some y) : x < y := by
  obtain ⟨h1, rfl⟩ := List.getElem?_eq_some_iff.1 hx
  obtain ⟨h2, rfl⟩ := List.getElem?_eq_some_iff.1 hy
  exact List.pairwise_iff_getElem.1 h.2 k (k + 1) h1 h2 (by omega)
set_option maxRecDepth 100000 in
set_option maxHeartbeats 800000 in
theorem checkSet_ok (L S : Int) (v vs : Value) (set : List Int) (w : World) (hr : Row w vs set.length (ci set)) (hs : IsSet S set) :
    Calls Tryz.prog 137 #[.agg #[.int .i64 L, .int .i64 S, v], vs] w (Ret w (.int .i64 0)) := by
  obtain ⟨a, cap, rfl, hcap⟩ := hr.slice
  have hbS := Blk.new w 24 [.int .i64 L, .int .i64 S, v]
  have cS := hbS.cell (j := 1) rfl
  clear hbS
  go_enter Tryz.func137, Tryz.ntmps137
  go_wp2_with fail
  go_loop [9] (fun i => ∃ k : Nat, k ≤ set.length ∧ i = .int .i64 k) (fun i => set.length - (intOf i).toNat)
  case atStart => exact ⟨0, Nat.zero_le _, rfl⟩
  case round =>
    obtain ⟨k, hk, rfl⟩ := hrel
    by_cases hlt : k < set.length
    · obtain ⟨b, off, rfl, hbl, hce⟩ := hr.at_ (by omega)
      obtain ⟨x, hx⟩ : ∃ x, set[k]? = some x := ⟨set[k], by simp [hlt]⟩
      have c0 := (below_new w (.cells #[.int .i64 L, .int .i64 S, v] 24) hbl (off + k)).trans (hce _ _ (ci_get hx))
      have hx1 := hs.1 x (List.mem_of_getElem? hx)
      by_cases hk0 : k = 0
      · subst hk0
        rw [Nat.add_zero] at c0
        have HX := Lib.hid hx; clear hx
        go_wp2_with fail
        go_round
        case rel => exact ⟨1, by omega, by go_num⟩
        case measure => simp [intOf]; omega
      · obtain ⟨y, hy⟩ : ∃ y, set[k - 1]? = some y := ⟨set[k - 1], List.getElem?_eq_getElem (by omega)⟩
        have hyx : y < x := hs.next hy (by rw [show k - 1 + 1 = k by omega]; exact hx)
        have c1 := (below_new w (.cells #[.int .i64 L, .int .i64 S, v] 24) hbl (off + (k - 1))).trans (hce _ _ (ci_get hy))
        have HX := Lib.hid hx; clear hx
        have HY := Lib.hid hy; clear hy
        have hk1 : 0 < k := by omega
        clear hk0
        go_wp2_with fail
        go_round
        case rel => exact ⟨k + 1, by omega, by go_num⟩
        case measure => simp [intOf]; omega
    · obtain rfl : k = set.length := by omega
      go_wp2_with fail
      go_ret
      exact ⟨(Below.refl _ _).alloc (Nat.le_refl _) _, rfl⟩
end Go.Proofs.YthpgeeaccmgbkaaGreat

/- slices.Sort and slices.Compact at ints, onto a row of the call's own; the plain facts of graph.Step. -/
namespace Go.Proofs.YthpgeeaccmgbkaaGreat
open Go.RowKit Go.Sort

abbrev encZ : Int → Value := Value.int .i64
theorem ci_encZ (l : List Int) : ci l = l.map encZ := rfl
theorem holds_own {w : World} {base g cap : Nat} {e : TypeId} {zs : List Int} (h : w.ownsRow base e 1 (.slice (some ⟨g, 0, none⟩) zs.length cap) zs.length (ci zs)) : Holds encZ w g 0 zs.toArray := by
  rcases h.2 with ⟨h0, _⟩ | ⟨g', cap', cur, hv, hg, hb, h1, h2, h3, h4⟩
  · cases h0
  cases hv
  intro j hj
  have hj' : j < zs.length := by simpa using hj
  refine ⟨?_, by simp [World.frozen?, hb]⟩
  have e1 := h.cellAt j (by omega)
  rw [show (⟨g, 0 + j, none⟩ : Addr) = ⟨g, j, none⟩ by simp, e1]
  have e2 : (ci zs)[j]? = some (encZ zs.toArray[j]!) := by
    rw [ci_encZ, List.getElem?_map, List.getElem?_eq_getElem hj', getElem!_pos _ j hj]; rfl
  first
    | exact e2
    | (rw [e2])
    | (have hl : j < (ci zs).length := by rw [ci_length]; exact hj'
       rw [List.getElem?_eq_getElem hl] at e2
       simpa using e2)
theorem putZ {w : World} {base g cap n : Nat} {e : TypeId} {os : Array Obj} {zs ys : List Int} (h : w.ownsRow base e 1 (.slice (some ⟨g, 0, none⟩) zs.length cap) zs.length (ci zs)) (hy : ys.length = zs.length) :
    w.grownBy (grow (putRow encZ (Sort.ahead w n) g 0 ys.toArray) os) (some g) ∧ (grow (putRow encZ (Sort.ahead w n) g 0 ys.toArray) os).ownsRow base e 1 (.slice (some ⟨g, 0, none⟩) ys.length cap) ys.length (ci ys) ∧ g < w.heap.size := by
  rcases h.2 with ⟨h0, _⟩ | ⟨g', cap', cur, hv, hg, hb, h1, h2, h3, h4⟩
  · cases h0
  cases hv
  have hgl : g < w.heap.size := (Array.getElem?_eq_some_iff.1 hb).1
  have hb2 : (grow (putRow encZ (Sort.ahead w n) g 0 ys.toArray) os).heap[g]? = some (.cells (putCells encZ 0 ys.toArray cur) e (0, 0)) := by
    rw [heap_grow_old _ _ (by simpa using hgl)]
    simp [putRow, mapBlock, Sort.ahead, Array.getElem?_modify, hb, onCells]
  refine ⟨⟨rfl, rfl, rfl, by simp, fun k hk hne => ?_⟩, ⟨by rw [ci_length]; omega, .inr ⟨g, cap, _, rfl, hg, hb2, by omega, h2, by simp [putCells, h3], ?_⟩⟩, hgl⟩
  · rw [heap_grow_old _ _ (by simpa using hk)]
    have : g ≠ k := fun e => hne (by rw [e])
    simp [putRow, mapBlock, Sort.ahead, Array.getElem?_modify, this]
  · apply List.ext_getElem?
    intro j
    by_cases hj : j < ys.length
    · rw [List.getElem?_take_of_lt (by omega), Array.getElem?_toList, ci_encZ, List.getElem?_map, List.getElem?_eq_getElem hj]
      simp [putCells, hj, show j < cur.size by omega]
    · rw [List.getElem?_take_eq_none (by omega), List.getElem?_eq_none (by rw [ci_length]; omega)]
theorem own_cut {w : World} {base g cap n m : Nat} {e : TypeId} {xs : List Value} (h : w.ownsRow base e 1 (.slice (some ⟨g, 0, none⟩) n cap) n xs) (hm : m ≤ n) : w.ownsRow base e 1 (.slice (some ⟨g, 0, none⟩) m cap) m (xs.take m) := by
  rcases h.2 with ⟨h0, _⟩ | ⟨g', cap', cur, hv, hg, hb, h1, h2, h3, h4⟩
  · cases h0
  cases hv
  have hl := h.1
  refine ⟨by rw [List.length_take]; omega, .inr ⟨g, cap, cur, rfl, hg, hb, by omega, h2, h3, ?_⟩⟩
  rw [← h4, List.take_take]; congr 1; omega

def sortI (zs : List Int) : List Int := zs.mergeSort fun x y => decide (x ≤ y)
theorem sortI_length (zs : List Int) : (sortI zs).length = zs.length := by simp [sortI]
def RowRet (w : World) (g base cap : Nat) (ys : List Int) (v : Value) (e : Ending) (w' : World) : Prop :=
  e = .returned v ∧ w.grownBy w' (some g) ∧ w'.ownsRow base 3 1 (.slice (some ⟨g, 0, none⟩) ys.length cap) ys.length (ci ys)
theorem sortI_any (zs : List Int) (base g cap : Nat) (w : World) (hown : w.ownsRow base 3 1 (.slice (some ⟨g, 0, none⟩) zs.length cap) zs.length (ci zs)) (hlen : zs.length ≤ 1000000000) :
    Calls Tryz.prog 139 #[.slice (some ⟨g, 0, none⟩) zs.length cap] w (RowRet w g base cap (sortI zs) (.tuple #[])) := by
  have hput := fun n os => putZ (n := n) (os := os) hown (sortI_length zs)
  refine (Tryz.slices_Sort_int g 0 cap zs w (holds_own hown) (hput 0 #[]).2.2 (by omega)).mono ?_
  rintro e w' ⟨he, n, os, rfl⟩
  exact ⟨he, (hput n os).1, (hput n os).2.1⟩
theorem compact_len (zs : List Int) : (Lib.compact zs).length ≤ zs.length := by
  first
    | exact Lib.compact_length_le zs
    | (unfold Lib.compact; exact Lib.compactUpTo_length_le _ _)
theorem compactI_any (zs : List Int) (base g cap : Nat) (w : World) (hown : w.ownsRow base 3 1 (.slice (some ⟨g, 0, none⟩) zs.length cap) zs.length (ci zs)) (hlen : zs.length ≤ 1000000000) (hcap : zs.length ≤ cap) :
    Calls Tryz.prog 140 #[.slice (some ⟨g, 0, none⟩) zs.length cap] w (RowRet w g base cap (Lib.compact zs) (.slice (some ⟨g, 0, none⟩) (Lib.compact zs).length cap)) := by
  have hl := compact_len zs
  have hput := fun n => putZ (n := n) (os := #[]) (ys := Lib.compact zs ++ List.replicate (zs.length - (Lib.compact zs).length) 0) hown (by simp; omega)
  refine (Tryz.slices_Compact_int g 0 cap zs w (holds_own hown) (by omega) hcap).mono ?_
  rintro e w' ⟨he, n, rfl⟩
  have h1 := hput n
  rw [grow_empty] at h1
  refine ⟨he, h1.1, ?_⟩
  have h2 := own_cut h1.2.1 (m := (Lib.compact zs).length) (by simp)
  rw [ci_encZ, List.map_append, List.take_left' (by simp)] at h2
  exact h2
end Go.Proofs.YthpgeeaccmgbkaaGreat

/- The plain facts of graph.Step. -/
namespace Go.Proofs.YthpgeeaccmgbkaaGreat
open Go.RowKit

/-- The targets of the edges from s with a label. -/
def tgp (label : Int) (pre : List (Nat × E3)) : List Int := (pre.filter fun x => decide (x.2.l = label)).map fun x => x.2.t
def tgs (es : List E3) (label s : Int) : List Int := tgp label (lvs s es es.length)
theorem tgp_yes {label : Int} {pre : List (Nat × E3)} {x : Nat × E3} (h : x.2.l = label) : tgp label (pre ++ [x]) = tgp label pre ++ [x.2.t] := by simp [tgp, h]
theorem tgp_no {label : Int} {pre : List (Nat × E3)} {x : Nat × E3} (h : ¬ x.2.l = label) : tgp label (pre ++ [x]) = tgp label pre := by simp [tgp, h]
theorem tgp_length (label : Int) (pre : List (Nat × E3)) : (tgp label pre).length ≤ pre.length := by
  unfold tgp; rw [List.length_map]; exact List.length_filter_le _ _
def outsL (es : List E3) (label : Int) (set : List Int) : List Int := set.flatMap (tgs es label)
theorem outs_succ {es : List E3} {label : Int} {set : List Int} {k : Nat} {x : Int} (h : set[k]? = some x) : outsL es label (set.take (k + 1)) = outsL es label (set.take k) ++ tgs es label x := by
  obtain ⟨hk, rfl⟩ := List.getElem?_eq_some_iff.1 h
  rw [List.take_succ_eq_append_getElem hk, outsL, List.flatMap_append]; simp [outsL]
theorem outs_length (es : List E3) (label : Int) (set : List Int) : (outsL es label set).length ≤ set.length * es.length := by
  induction set with
  | nil => simp [outsL]
  | cons s t ih =>
    have h1 := tgp_length label (lvs s es es.length)
    have h2 := lvs_length s es es.length
    rw [outsL, List.flatMap_cons, List.length_append, List.length_cons, Nat.succ_mul]
    unfold tgs
    unfold outsL tgs at ih
    omega
theorem mem_lvs {s : Int} {es : List E3} {n k : Nat} {e : E3} : (k, e) ∈ lvs s es n ↔ k < n ∧ es[k]? = some e ∧ e.f = s := by
  induction n with
  | zero => simp [lvs]
  | succ n ih =>
    rw [lvs, List.mem_append, ih]
    constructor
    · rintro (⟨h1, h2, h3⟩ | h)
      · exact ⟨by omega, h2, h3⟩
      · cases hn : es[n]? with
        | none => rw [hn] at h; cases h
        | some e' =>
          rw [hn] at h
          by_cases hf : e'.f = s
          · simp [hf] at h
            obtain ⟨rfl, rfl⟩ := h
            exact ⟨by omega, hn, hf⟩
          · simp [hf] at h
    · rintro ⟨h1, h2, h3⟩
      by_cases hk : k < n
      · exact .inl ⟨hk, h2, h3⟩
      · have : k = n := by omega
        subst this
        right; rw [h2]; simp [h3]
theorem mem_tgs {es : List E3} {label s t : Int} : t ∈ tgs es label s ↔ ∃ e ∈ es, e.f = s ∧ e.l = label ∧ e.t = t := by
  unfold tgs tgp
  rw [List.mem_map]
  constructor
  · rintro ⟨⟨k, e⟩, h, rfl⟩
    rw [List.mem_filter] at h
    obtain ⟨h1, h2, h3⟩ := mem_lvs.1 h.1
    exact ⟨e, List.mem_of_getElem? h2, h3, by simpa using h.2, rfl⟩
  · rintro ⟨e, he, h1, h2, rfl⟩
    obtain ⟨k, hk⟩ := List.getElem?_of_mem he
    refine ⟨(k, e), ?_, rfl⟩
    rw [List.mem_filter]
    exact ⟨mem_lvs.2 ⟨(List.getElem?_eq_some_iff.1 hk).1, hk, h1⟩, by simp [h2]⟩
theorem compact_sorted (l : List Int) (hs : l.Pairwise (· ≤ ·)) : (Lib.compact l).Pairwise (· < ·) ∧ ∀ x, x ∈ Lib.compact l ↔ x ∈ l := by
  have key : ∀ m, m ≤ l.length → (Lib.compactUpTo l.toArray m).Pairwise (· < ·) ∧ ∀ x, x ∈ Lib.compactUpTo l.toArray m ↔ x ∈ l.take m := by
    intro m
    induction m with
    | zero => intro _; exact ⟨by simp [Lib.compactUpTo], by simp [Lib.compactUpTo]⟩
    | succ m ih =>
      intro hm
      obtain ⟨h1, h2⟩ := ih (by omega)
      have hml : m < l.length := by omega
      have hd : ∀ j, j < l.length → l.toArray[j]! = l[j]! := fun j hj => by simp
      have hg : l.toArray[m]! = l[m] := by rw [getElem!_pos l.toArray m (by simpa using hml)]; simp
      rw [Lib.compactUpTo_succ, List.take_succ_eq_append_getElem hml, hg]
      have hle : ∀ x ∈ l.take m, x ≤ l[m] := by
        intro x hx
        obtain ⟨j, hj, rfl⟩ := List.getElem_of_mem hx
        rw [List.getElem_take]
        rw [List.length_take] at hj
        exact List.pairwise_iff_getElem.1 hs j m _ _ (by omega)
      by_cases hk : Lib.keeps l.toArray m = true
      · rw [if_pos hk]
        refine ⟨?_, fun x => by rw [List.mem_append, List.mem_append, h2]⟩
        rw [List.pairwise_append]
        refine ⟨h1, by simp, ?_⟩
        intro x hx y hy
        rw [List.mem_singleton] at hy
        subst hy
        have hx' := (h2 x).1 hx
        have hxl := hle x hx'
        rcases Nat.eq_zero_or_pos m with e | hm0
        · subst e; simp at hx'
        · have hg1 : l.toArray[m - 1]! = l[m - 1] := by rw [getElem!_pos l.toArray (m - 1) (by simp; omega)]; simp
          have hne : l[m] ≠ l[m - 1] := by
            intro e
            have := Lib.keeps_neg (d := l.toArray) hm0 (by rw [hg, hg1, e])
            rw [this] at hk; cases hk
          have hxp : x ≤ l[m - 1] := by
            obtain ⟨j, hj, rfl⟩ := List.getElem_of_mem hx'
            rw [List.getElem_take]
            rw [List.length_take] at hj
            rcases Nat.lt_or_ge j (m - 1) with h | h
            · exact List.pairwise_iff_getElem.1 hs j (m - 1) _ _ h
            · have : j = m - 1 := by omega
              subst this; exact Int.le_refl _
          have hpm := List.pairwise_iff_getElem.1 hs (m - 1) m (by omega) hml (by omega)
          omega
      · rw [if_neg hk, List.append_nil]
        refine ⟨h1, fun x => ?_⟩
        rw [h2, List.mem_append, List.mem_singleton]
        constructor
        · exact .inl
        · rintro (h | rfl)
          · exact h
          · rcases Nat.eq_zero_or_pos m with e | hm0
            · subst e; exact absurd (Lib.keeps_lt_one _ 0 (by omega)) hk
            · have hg1 : l.toArray[m - 1]! = l[m - 1] := by rw [getElem!_pos l.toArray (m - 1) (by simp; omega)]; simp
              have he : l[m] = l[m - 1] := by
                rcases Classical.em (l[m] = l[m - 1]) with h | h
                · exact h
                · exact absurd (Lib.keeps_pos (d := l.toArray) (by rw [hg, hg1]; exact h)) hk
              rw [he, List.mem_take_iff_getElem]
              exact ⟨m - 1, by omega, rfl⟩
  have h := key l.length (Nat.le_refl _)
  rw [List.take_length] at h
  exact h
/-- The result of graph.Step. -/
def stepR (es : List E3) (label : Int) (set : List Int) : List Int := Lib.compact (sortI (outsL es label set))
theorem stepR_sorted (es : List E3) (label : Int) (set : List Int) : (stepR es label set).Pairwise (· < ·) := by
  refine (compact_sorted _ ?_).1
  have := List.pairwise_mergeSort (le := fun x y : Int => decide (x ≤ y)) (fun a b c h1 h2 => by simp at *; omega) (fun a b => by simp; omega) (outsL es label set)
  exact this.imp (by simp)
theorem mem_stepR {es : List E3} {label : Int} {set : List Int} {t : Int} : t ∈ stepR es label set ↔ ∃ e ∈ es, e.f ∈ set ∧ e.l = label ∧ e.t = t := by
  unfold stepR
  have hsort : (sortI (outsL es label set)).Pairwise (· ≤ ·) := by
    have := List.pairwise_mergeSort (le := fun x y : Int => decide (x ≤ y)) (fun a b c h1 h2 => by simp at *; omega) (fun a b => by simp; omega) (outsL es label set)
    exact this.imp (by simp)
  rw [(compact_sorted _ hsort).2, sortI, (List.mergeSort_perm _ _).mem_iff, outsL, List.mem_flatMap]
  constructor
  · rintro ⟨s, hs, h⟩
    obtain ⟨e, he, h1, h2, h3⟩ := mem_tgs.1 h
    exact ⟨e, he, by rw [h1]; exact hs, h2, h3⟩
  · rintro ⟨e, he, h1, h2, h3⟩
    exact ⟨e.f, h1, mem_tgs.2 ⟨e, he, rfl, h2, h3⟩⟩
theorem stepR_nil {es : List E3} {label : Int} {set : List Int} (h : outsL es label set = []) : stepR es label set = [] := by
  unfold stepR; rw [h]; simp [sortI, Lib.compact, Lib.compactUpTo]
theorem isSet_length {S : Int} : ∀ (set : List Int) (lo : Int), (∀ s ∈ set, lo ≤ s ∧ s < S) → set.Pairwise (· < ·) → (set.length : Int) ≤ max 0 (S - lo)
  | [], lo, _, _ => by simp; omega
  | s :: t, lo, h, hp => by
    rw [List.pairwise_cons] at hp
    have h0 := h s (by simp)
    have ih := isSet_length t (s + 1) (fun x hx => ⟨by have := hp.1 x hx; omega, (h x (by simp [hx])).2⟩) hp.2
    rw [List.length_cons]; omega
theorem IsSet.len {S : Int} {set : List Int} (h : IsSet S set) (hS : S ≤ 64) : set.length ≤ 64 := by
  have := isSet_length set 0 h.1 h.2
  omega
end Go.Proofs.YthpgeeaccmgbkaaGreat

/- graph.Step. -/
namespace Go.Proofs.YthpgeeaccmgbkaaGreat
open Go.RowKit Go.Shelf

attribute [local go_sem] Oper.semAt_some

theorem infoIntI : (Tryz.prog.info? 3).map (fun i => (i.zero, i.size, i.bytes)) = some (some (.int .i64 0), 1, 8) := by kernel_rfl
def gmkD (D : Nat) : Deferred := { target := .collected D, args := #[] }
theorem wpListIn_append_lies {F : Fence} {n : Nat} {P : Program} (w : World) {ops : Array Oper} {rest : List Oper} {o : Oper} {a : Act} {Q : Exit → Act → World → Prop}
    (hg : o.guard = none) (s x : Operand) (t : TypeId) (hop : o.op = Op.call { callee := Callee.builtin Builtin.append, args := #[s, x], argTypes := #[t, t] })
    (base : Nat) (e : TypeId) (i : TypeInfo) (z : Value) (size bytes : Nat) (h1 : P.underlying t = some (.slice e)) (h2 : P.info? e = some i) (h3 : i.zero = some z) (h4 : i.size = size) (h5 : i.bytes = bytes) (h6 : z.cells.size = size) (h7 : 0 < size)
    (v : Value) (k : Nat) (xs : List Value) (hs : a.eval s = v) (hown : w.ownsRow base e size v k xs) (ad : Addr) (m c : Nat) (news : List Value) (hx : a.eval x = .slice (some ad) m c) (hn : news.length = m * size)
    (hc : ∀ j u, news[j]? = some u → w.cell? (ad.add j) = some u) (h1c : ∀ u ∈ news, u.oneCell' = true) (hm : 0 < m) (b1 : k + m ≤ maxLen) (b2 : (k + m) * bytes ≤ 140737488355328) (b3 : base ≤ w.heap.size)
    (hK : ∀ g cap w', w'.ownsRow base e size (.slice (some ⟨g, 0, none⟩) (k + m) cap) (k + m) (xs ++ news) → w.grownBy w' v.ownBlock → (v.ownBlock = some g ∨ g = w.heap.size) → g < w'.heap.size → wpListIn F n P ops Q rest (a.put o.dst (.slice (some ⟨g, 0, none⟩) (k + m) cap)) w') :
    wpListIn F n P ops Q (o :: rest) a w := by
  refine wpListIn_plain hg fun K hK' => ?_
  obtain ⟨g, cap, w', hrun, r1, r2, r3, r4⟩ := run_append_lies (P := P) w t o.type base e i z size bytes h1 h2 h3 h4 h5 h6 h7 v k xs hown ad m c news hn hc h1c hm b1 b2 b3 _ rfl
  unfold Oper.wpIn
  refine ⟨?_, ?_⟩
  · simp [Oper.about, hop, resolve, Target.leads, Sem.run_pure]
  · rw [Oper.semAt_plain F _ _ (by rw [hop]; intro c hc'; cases hc')]
    simp [execOp, hop, resolve, invoke, builtin, hs, hx, hrun, Result.andThen]
    exact hK' _ _ (hK g cap w' r1 r2 r3 r4)
theorem gownFrom_ds {β : Type} {B N : Nat} {Ds : List Nat} (h : ∀ D ∈ Ds, D < B) : OwnFrom B (fun (_ : β) W => (∀ D ∈ Ds, W.heap[D]? = some (.deferred (some []))) ∧ N ≤ W.heap.size) := by
  intro s X Y row hs hg hr
  refine ⟨fun D hD => ?_, Nat.le_trans hs.2 hg.size⟩
  have hX := hs.1 D hD
  refine (hg.block D (Array.getElem?_eq_some_iff.1 hX).1 (fun e => ?_)).trans hX
  have := (hr D e.symm).1
  have := h D hD
  omega
theorem gblk_ownF {B b : Nat} {t : TypeId} {xs : List Value} : OwnFrom B (fun (_ : Unit) W => Blk W b t xs) := by
  intro s X Y row hs hg hr
  refine hs.of_block (hg.block b hs.lt (fun e => ?_))
  obtain ⟨_, o, ho, hc⟩ := hr b e.symm
  unfold Blk at hs
  rw [hs] at ho
  cases ho; cases hc
/-- Leaving with marks whose blocks hold no calls. -/
theorem gleaves_marks {F : Fence} {n : Nat} {P : Program} {fn : Func} {tmps : Array Value} {R : Ending → World → Prop} (B : Nat) (Kx : World → Prop)
    (hst : ∀ W D, B ≤ D → Kx W → W.heap[D]? = some (.deferred (some [])) → Kx (W.putObj D (.deferred none))) (hfin : ∀ W, Kx W → LeavesInM F n P fn tmps R [] .returning W) :
    ∀ (Ds : List Nat) (W : World), Kx W → (∀ D ∈ Ds, W.heap[D]? = some (.deferred (some []))) → Ds.Nodup → (∀ D ∈ Ds, B ≤ D) → LeavesInM F n P fn tmps R (Ds.map gmkD) .returning W
  | [], W, hk, _, _, _ => hfin W hk
  | D :: Ds, W, hk, hD, hnd, hB => by
    rw [List.nodup_cons] at hnd
    refine ⟨by simp, .inl ⟨D, _, rfl, run_takeDeferred (hD D (by simp)), ?_⟩⟩
    refine gleaves_marks B Kx hst hfin Ds _ (hst W D (hB D (by simp)) hk (hD D (by simp))) (fun D' hD' => ?_) hnd.2 (fun D' hD' => hB D' (by simp [hD']))
    have hne : D' ≠ D := fun e => hnd.1 (e ▸ hD')
    exact (World.putObj_heap_other hne).trans (hD D' (by simp [hD']))
theorem own_ne {W : World} {base : Nat} {e : TypeId} {size n D : Nat} {v : Value} {xs : List Value} {ds : Option (List Deferred)} (h : W.ownsRow base e size v n xs) (hD : W.heap[D]? = some (.deferred ds)) : v.ownBlock ≠ some D := by
  rcases h.2 with ⟨rfl, _⟩ | ⟨g, cap, cur, rfl, _, hg, _⟩
  · simp [Value.ownBlock]
  · intro e'
    obtain rfl : g = D := by simpa [Value.ownBlock] using e'
    rw [hg] at hD; cases hD
theorem own_put {W : World} {B base : Nat} {w : World} {e : TypeId} {size n : Nat} {v : Value} {xs : List Value} (hw : B ≤ w.heap.size) (h : Below B w W ∧ W.ownsRow base e size v n xs) (D : Nat) (hB : B ≤ D) (hD : W.heap[D]? = some (.deferred (some []))) :
    Below B w (W.putObj D (.deferred none)) ∧ (W.putObj D (.deferred none)).ownsRow base e size v n xs :=
  ⟨h.1.grown (grownBy_putObj' W D _) (Nat.le_trans hw h.1.size) (fun k e => by cases e; exact hB), ownsRow_putObj h.2 _ hD rfl⟩

/-- What graph.Step hands back. -/
def StepRet (w : World) (ys : List Int) (e : Ending) (w' : World) : Prop :=
  Below w.heap.size w w' ∧ ∃ v, e = .returned (.tuple #[v, .int .i64 0]) ∧ Row w' v ys.length (ci ys)

set_option maxRecDepth 100000 in
set_option maxHeartbeats 8000000 in
theorem step_in (L S label : Int) (es : List E3) (v vs : Value) (set : List Int) (w : World) (hes : Row w v es.length (ce es)) (hset : Row w vs set.length (ci set)) (hok : okEs es) (hchk : chk L S es = 0) (hs : IsSet S set) (hl : 0 ≤ label ∧ label < L) :
    CallsIn Fence.wide 8 Tryz.prog 120 #[.agg #[.int .i64 L, .int .i64 S, v], vs, .int .i64 label] w (StepRet w (stepR es label set)) := by
  have hCk := fun w' h => check_any L S es v w' h hok
  rw [hchk] at hCk
  obtain ⟨a, cap, rfl, hcap⟩ := hset.slice
  have hlim : S ≤ 64 ∧ es.length ≤ 1024 := by
    unfold chk at hchk
    split at hchk
    · cases hchk
    · split at hchk
      · cases hchk
      · split at hchk
        · cases hchk
        · omega
  have hs64 := hs.len hlim.1
  have hes1024 := hlim.2
  clear hlim
  have hb0 := (Blk.new w 24 [.int .i64 L, .int .i64 S, v]).alloc (.cells #[.int .i64 label] 3)
  have hb1 := Blk.new (w.alloc (.cells #[.int .i64 L, .int .i64 S, v] 24)) 3 [.int .i64 label]
  simp only [World.size_alloc] at hb1
  have HB0 := Lib.hid hb0; clear hb0
  have HB1 := Lib.hid hb1; clear hb1
  have s0 := ((Below.refl w.heap.size w).alloc (Nat.le_refl _) (.cells #[.int .i64 L, .int .i64 S, v] 24)).alloc (by simp) (.cells #[.int .i64 label] 3)
  have hsz0 : w.heap.size + 2 = ((w.alloc (.cells #[.int .i64 L, .int .i64 S, v] 24)).alloc (.cells #[.int .i64 label] 3)).heap.size := by simp
  have HSZ0 := Lib.hid hsz0; clear hsz0
  have HR := Lib.hid (hes.below s0 (Nat.le_refl _))
  have HT := Lib.hid (hset.below s0 (Nat.le_refl _))
  have hvb : ∀ b off m c, v = .slice (some ⟨b, off, none⟩) m c → 0 < es.length → b < w.heap.size := by
    intro b off m c e h0
    obtain ⟨a1, c1, e1, _⟩ := hes.slice
    rw [e1] at hes
    obtain ⟨b2, off2, e2, hb2, _⟩ := hes.at_ h0
    rw [e1, e2] at e
    simp at e
    omega
  have HVB := Lib.hid hvb; clear hvb
  have S0 := Lib.hid s0; clear s0 hes hset
  have HCK := Lib.hid hCk; clear hCk hchk
  have HS := Lib.hid hs; clear hs
  obtain ⟨hl0, hl1⟩ := hl
  have hlA : decide (label < 0) = false := by simp; omega
  have hlB : decide (L ≤ label) = false := by simp; omega
  refine callsIn_of_wp_marks Tryz.func120 rfl trivial ?_ rfl
  simp only [Tryz.ntmps120, List.size_toArray, List.length_cons, List.length_nil, Nat.reduceAdd, Nat.reduceSub, Array.replicate_succ, Array.replicate_zero, List.push_toArray, List.append_toArray, List.nil_append, List.cons_append]
  gi_wp2_with (first | (refine ⟨trivial, ?_⟩; gi_at_call 31; refine (callsIn_wide.2 (HCK.out _ HR.out)).mono ?_; rintro e w1 ⟨hq, rfl⟩; have hbA0 := HB0.out.keep hq; have a0 := hbA0.cell (j := 0) rfl; have a1 := hbA0.cell (j := 1) rfl; have a2 := hbA0.cell (j := 2) rfl; have HA0 := Lib.hid hbA0; clear hbA0; have hbA1 := HB1.out.keep hq; have a3 := hbA1.cell (j := 0) rfl; have HA1 := Lib.hid hbA1; clear hbA1; have HR1 := Lib.hid (HR.out.below hq (Nat.le_refl _)); have HT1 := Lib.hid (HT.out.below hq (Nat.le_refl _)); have HQ1 := Lib.hid hq; clear hq) | (refine ⟨trivial, ?_⟩; gi_at_call 137; refine (callsIn_wide.2 (checkSet_ok L S v _ set _ HT1.out HS.out)).mono ?_; rintro e w2 ⟨hq, rfl⟩; have hbC0 := HA0.out.keep hq; have k0 := hbC0.cell (j := 0) rfl; have k1 := hbC0.cell (j := 1) rfl; have k2 := hbC0.cell (j := 2) rfl; have HC0 := Lib.hid hbC0; clear hbC0; have hbC1 := HA1.out.keep hq; have k3 := hbC1.cell (j := 0) rfl; have HC1 := Lib.hid hbC1; clear hbC1; have HR2 := Lib.hid (HR1.out.below hq (Nat.le_refl _)); have HT2 := Lib.hid (HT1.out.below hq (Nat.le_refl _)); have HQ2 := Lib.hid hq; clear hq))
  have hsz2 : w.heap.size + 2 ≤ w2.heap.size := by
    have h1 := HQ1.out.size
    have h2 := HQ2.out.size
    have h3 := HSZ0.out
    omega
  have hbw2 : Below w.heap.size w w2 := by
    have s1 := S0.out.trans (HQ1.out.mono S0.out.size)
    exact s1.trans (HQ2.out.mono s1.size)
  have HBW := Lib.hid hbw2; clear hbw2
  have K0 := Lib.hid k0; clear k0
  have K1 := Lib.hid k1; clear k1
  have K2 := Lib.hid k2; clear k2
  have K3 := Lib.hid k3; clear k3
  clear a0 a1 a2 a3
  obtain ⟨i0, hi, hz0, hz1, hz2⟩ := info_parts infoIntI
  refine wpIn_loop (fun a' W => ∃ (k : Nat) (Ds : List Nat) (u11 u13 u34 u35 u36 u37 u38 u39 u40 u41 u42 u43 u44 u45 u46 u47 u48 u49 u50 u51 : Value), a' = { tmps := (List.toArray ((.agg #[.int .i64 L, .int .i64 S, v] : Value) :: (.slice a set.length cap : Value) :: (.int .i64 label : Value) :: (.pointer (some ⟨w.heap.size, 0, none⟩) : Value) :: (undef : Value) :: (.pointer (some ⟨w.heap.size + 1, 0, none⟩) : Value) :: (.slice none 0 0 : Value) :: (.int .i64 0 : Value) :: (.int .i64 0 : Value) :: (.pointer (some ⟨w2.heap.size, 0, none⟩) : Value) :: (undef : Value) :: (u11 : Value) :: (undef : Value) :: (u13 : Value) :: (.agg #[.int .i64 L, .int .i64 S, v] : Value) :: (.int .i64 0 : Value) :: (.bool false : Value) :: (.agg #[.int .i64 L, .int .i64 S, v] : Value) :: (.slice a set.length cap : Value) :: (.int .i64 0 : Value) :: (.int .i64 0 : Value) :: (.bool false : Value) :: (undef : Value) :: (.int .i64 label : Value) :: (.bool false : Value) :: (.bool false : Value) :: (.int .i64 label : Value) :: (.pointer (some ⟨w.heap.size, 0, none⟩) : Value) :: (.int .i64 L : Value) :: (.bool false : Value) :: (.bool false : Value) :: (.slice a set.length cap : Value) :: (.int .i64 (set.length : Int) : Value) :: (.int .i64 (k : Int) : Value) :: (u34 : Value) :: (u35 : Value) :: (u36 : Value) :: (u37 : Value) :: (u38 : Value) :: (u39 : Value) :: (u40 : Value) :: (u41 : Value) :: (u42 : Value) :: (u43 : Value) :: (u44 : Value) :: (u45 : Value) :: (u46 : Value) :: (u47 : Value) :: (u48 : Value) :: (u49 : Value) :: (u50 : Value) :: (u51 : Value) :: (undef : Value) :: (undef : Value) :: (undef : Value) :: (undef : Value) :: [])), defers := Ds.map gmkD } ∧ k ≤ set.length ∧ (∃ vo, Boxed W w2.heap.size 81 vo ∧ W.ownsRow w2.heap.size 3 1 vo (outsL es label (set.take k)).length ((outsL es label (set.take k)).map (Value.int .i64)) ∧ True) ∧ Below w2.heap.size w2 W ∧ (∀ D ∈ Ds, W.heap[D]? = some (.deferred (some []))) ∧ Ds.Nodup ∧ (∀ D ∈ Ds, w2.heap.size ≤ D)) (fun a' _ => set.length - (intOf (a'.tmps.getD 33 undef)).toNat) ?h0 ?round
  case h0 =>
    refine ⟨0, [], undef, undef, undef, undef, undef, undef, undef, undef, undef, undef, undef, undef, undef, undef, undef, undef, undef, undef, undef, undef, rfl, Nat.zero_le _, ⟨.slice none 0 0, Boxed.new w2 _ _, World.ownsRow_nil _ _ _ _, trivial⟩, (Below.refl _ _).alloc (Nat.le_refl _) _, by simp, by simp, by simp⟩
  case round =>
    rintro a' wr ⟨k, Ds, u11, u13, u34, u35, u36, u37, u38, u39, u40, u41, u42, u43, u44, u45, u46, u47, u48, u49, u50, u51, rfl, hk, ⟨vo, hbox, hown, -⟩, hbel, hDs, hnd, hdg⟩
    have hszr := hbel.size
    have hbl9 := hbox.lt
    have HDS := Lib.hid hDs; clear hDs
    have HND := Lib.hid hnd; clear hnd
    have HDG := Lib.hid hdg; clear hdg
    have g0 := (hbel.cell (p := ⟨w.heap.size, 0, none⟩) (show w.heap.size < w2.heap.size by omega)).trans K0.out
    have g1 := (hbel.cell (p := ⟨w.heap.size, 1, none⟩) (show w.heap.size < w2.heap.size by omega)).trans K1.out
    have g2 := (hbel.cell (p := ⟨w.heap.size, 2, none⟩) (show w.heap.size < w2.heap.size by omega)).trans K2.out
    have hrv := HR2.out.below hbel (Nat.le_refl _)
    by_cases hlt : k < set.length
    · obtain ⟨b, off, rfl, hbl, hce⟩ := HT2.out.at_ (by omega)
      obtain ⟨x, hx⟩ : ∃ x, set[k]? = some x := ⟨set[k], List.getElem?_eq_getElem hlt⟩
      have c0 := (hbel.cell (p := ⟨b, off + k, none⟩) hbl).trans (hce _ _ (ci_get hx))
      have hsucc := outs_succ (es := es) (label := label) hx
      have hol := outs_length es label (set.take k)
      have hol2 : (outsL es label (set.take k)).length ≤ 65536 := by
        have h1 : (set.take k).length * es.length ≤ 64 * 1024 := Nat.mul_le_mul (by rw [List.length_take]; omega) hes1024
        omega
      clear hol
      have HX := Lib.hid hx; clear hx
      have HSU := Lib.hid hsucc; clear hsucc
      have hdslt : ∀ D ∈ Ds, D < wr.heap.size := fun D hD => (Array.getElem?_eq_some_iff.1 (HDS.out D hD)).1
      have HDL := Lib.hid hdslt; clear hdslt
      have hnv : vo.ownBlock ≠ some wr.heap.size ∧ vo.ownBlock ≠ some (wr.heap.size + 1) := ⟨fun e => by have := (hown.lt _ e).2; omega, fun e => by have := (hown.lt _ e).2; omega⟩
      have HNV := Lib.hid hnv; clear hnv
      have HRV := Lib.hid hrv; clear hrv
      gi_wp2_with (refine ⟨trivial, ?_⟩; gi_at_call 138; refine (gleaving_in Fence.wide 7 trivial rfl L S x v _).mono ?_; rintro e w' ⟨rfl, rfl⟩)
      obtain ⟨W1, hW1⟩ : ∃ W1, (wr.alloc (.cells #[.int .i64 L, .int .i64 S, v] 24)).alloc (.cells #[.int .i64 x] 3) = W1 := ⟨_, rfl⟩
      have hb1 : Below wr.heap.size wr W1 := by rw [← hW1]; exact ((Below.refl _ wr).alloc (Nat.le_refl _) _).alloc (by simp) _
      have hsW : W1.heap.size = wr.heap.size + 2 := by rw [← hW1]; simp
      have bG : Blk W1 wr.heap.size 24 [.int .i64 L, .int .i64 S, v] := by rw [← hW1]; exact (Blk.new wr _ _).alloc _
      have bS : Blk W1 (wr.heap.size + 1) 3 [.int .i64 x] := by
        have h := Blk.new (wr.alloc (.cells #[.int .i64 L, .int .i64 S, v] 24)) 3 [.int .i64 x]
        rw [World.size_alloc] at h
        rw [← hW1]; exact h
      have hbox1 : Boxed W1 w2.heap.size 81 vo := by rw [← hW1]; exact (hbox.alloc _).alloc _
      have hown1 : W1.ownsRow w2.heap.size 3 1 vo (outsL es label (set.take k)).length ((outsL es label (set.take k)).map (Value.int .i64)) := by rw [← hW1]; exact (hown.alloc _).alloc _
      have hbel1 : Below w2.heap.size w2 W1 := hbel.trans (hb1.mono hszr)
      rw [hW1]
      clear hW1
      refine wpIn_rangeFunc_ownH rfl (by decide) (gf := 158) (lb := #[.pointer (some ⟨wr.heap.size, 0, none⟩), .pointer (some ⟨wr.heap.size + 1, 0, none⟩)]) rfl trivial (enters_of Tryz.func158 (by kernel_rfl) rfl)
        (gleaving_stops Fence.wide 7 trivial rfl (by decide) wr.heap.size (wr.heap.size + 1) w2.heap.size x es v (by omega) W1 (by omega) (by omega) (by omega) (bG.cell (j := 2) rfl) (bS.cell (j := 0) rfl) (HRV.out.below hb1 (Nat.le_refl _)) ?hvb) gKpS.trans (gkpS_b (by omega) (by omega) (by omega)) (Below.refl _ _) (fun _ => rfl)
        (fun pre W => ((∃ vo, Boxed W w2.heap.size 81 vo ∧ W.ownsRow w2.heap.size 3 1 vo (outsL es label (set.take k) ++ tgp label pre).length ((outsL es label (set.take k) ++ tgp label pre).map (Value.int .i64)) ∧ (vo.ownBlock ≠ some wr.heap.size ∧ vo.ownBlock ≠ some (wr.heap.size + 1))) ∧ Below w2.heap.size w2 W) ∧ ((∀ D ∈ Ds, W.heap[D]? = some (.deferred (some []))) ∧ W1.heap.size ≤ W.heap.size))
        (fun _ _ _ => False)
        (OwnFrom.and (OwnFrom.and (Own.from (holdsRow_own w2.heap.size w2.heap.size 81 3 1 (fun pre => (outsL es label (set.take k) ++ tgp label pre).length) (fun pre => (outsL es label (set.take k) ++ tgp label pre).map (Value.int .i64)) (fun pre vo => vo.ownBlock ≠ some wr.heap.size ∧ vo.ownBlock ≠ some (wr.heap.size + 1))) _) (ownFrom_below (Nat.le_refl _) (by omega))) (gownFrom_ds (fun D hD => by have := HDL.out D hD; omega)))
        (fun _ _ _ _ _ hs _ _ => hs)
        ⟨⟨⟨vo, hbox1, by simpa [tgp] using hown1, HNV.out⟩, hbel1⟩, fun D hD => ?hds, Nat.le_refl _⟩
        (fun x' a' W => ∃ Bx, W1.heap.size ≤ Bx ∧ Blk W Bx 53 [.int .i64 x'.2.f, .int .i64 x'.2.l, .int .i64 x'.2.t] ∧ a' = { tmps := (List.toArray ((.agg #[.int .i64 L, .int .i64 S, v] : Value) :: (.slice (some ⟨b, off, none⟩) set.length cap : Value) :: (.int .i64 label : Value) :: (.pointer (some ⟨w.heap.size, 0, none⟩) : Value) :: (undef : Value) :: (.pointer (some ⟨w.heap.size + 1, 0, none⟩) : Value) :: (.slice none 0 0 : Value) :: (.int .i64 0 : Value) :: (.int .i64 0 : Value) :: (.pointer (some ⟨w2.heap.size, 0, none⟩) : Value) :: (undef : Value) :: (.int .i64 x : Value) :: (undef : Value) :: (.pointer (some ⟨Bx, 0, none⟩) : Value) :: (.agg #[.int .i64 L, .int .i64 S, v] : Value) :: (.int .i64 0 : Value) :: (.bool false : Value) :: (.agg #[.int .i64 L, .int .i64 S, v] : Value) :: (.slice (some ⟨b, off, none⟩) set.length cap : Value) :: (.int .i64 0 : Value) :: (.int .i64 0 : Value) :: (.bool false : Value) :: (undef : Value) :: (.int .i64 label : Value) :: (.bool false : Value) :: (.bool false : Value) :: (.int .i64 label : Value) :: (.pointer (some ⟨w.heap.size, 0, none⟩) : Value) :: (.int .i64 L : Value) :: (.bool false : Value) :: (.bool false : Value) :: (.slice (some ⟨b, off, none⟩) set.length cap : Value) :: (.int .i64 (set.length : Int) : Value) :: (.int .i64 (k : Int) : Value) :: (.bool true : Value) :: (.pointer (some ⟨b, off + k, none⟩) : Value) :: (.int .i64 x : Value) :: (.agg #[.int .i64 L, .int .i64 S, v] : Value) :: (.int .i64 x : Value) :: (.func (.func 158) #[] #[.pointer (some ⟨wr.heap.size, 0, none⟩), .pointer (some ⟨wr.heap.size + 1, 0, none⟩)] : Value) :: (.int .i64 ((x'.1 : Nat) : Int) : Value) :: (x'.2.val : Value) :: (u42 : Value) :: (u43 : Value) :: (u44 : Value) :: (u45 : Value) :: (u46 : Value) :: (u47 : Value) :: (u48 : Value) :: (u49 : Value) :: (u50 : Value) :: (u51 : Value) :: (undef : Value) :: (undef : Value) :: (undef : Value) :: (undef : Value) :: [])), defers := [] })
        (fun x' a' _ X Y row hs hg hr => by obtain ⟨Bx, h1, h2, h3⟩ := hs; exact ⟨Bx, h1, gblk_ownF () X Y row h2 hg hr, h3⟩)
        ?assign ?body ?done ?stop
      case hvb =>
        intro b' off' m c e h0
        have := HVB.out b' off' m c e h0
        omega
      case hds => exact (hb1.block D (HDL.out D hD)).trans (HDS.out D hD)
      case assign =>
        rintro l pre x' W K ⟨⟨⟨vo', hv', hrow', hne'⟩, hB'⟩, hD', hN'⟩ hK
        gi_wp2
        have hWs := hB'.size
        exact hK _ _ ((KeepsOthers.alloc _ _).from _) ((gKpS.refl _ _ _ W).alloc (by omega) (by omega) (by omega) _) ⟨⟨⟨vo', hv'.alloc _, hrow'.alloc _, hne'⟩, hB'.alloc (by omega) _⟩, fun D hD => (Below.heap_alloc _ _ _ (Array.getElem?_eq_some_iff.1 (hD' D hD)).1).trans (hD' D hD), by simp; omega⟩ ⟨W.heap.size, hN', Blk.new W _ _, rfl⟩
      case body =>
        rintro l pre x' a' W hl' ⟨r, hr⟩ ⟨⟨⟨vo', hv', hrow', hne'⟩, hB'⟩, hD', hN'⟩ ⟨Bx, hBx, bX, rfl⟩ hltp
        have hcv := hv'.cell
        have cX1 := bX.cell (j := 1) rfl
        have cX2 := bX.cell (j := 2) rfl
        have cL := (hB'.cell (p := ⟨w.heap.size + 1, 0, none⟩) (show w.heap.size + 1 < w2.heap.size by omega)).trans K3.out
        have htl := tgp_length label pre
        have hln : (outsL es label (set.take k) ++ tgp label pre).length ≤ 70000 := by rw [List.length_append]; omega
        have hWs := hB'.size
        have HD' := Lib.hid hD'; clear hD'
        have HNE := Lib.hid hne'; clear hne'
        by_cases hlab : x'.2.l = label
        · have t1 : (x'.2.l == label) = true := by simp [hlab]
          have hty := tgp_yes (pre := pre) hlab
          obtain ⟨y0, hy0⟩ : ∃ y0, y0 = outsL es label (set.take k) ++ tgp label pre := ⟨_, rfl⟩
          rw [← hy0] at hrow' hln
          have hfin : outsL es label (set.take k) ++ tgp label (pre ++ [x']) = y0 ++ [x'.2.t] := by rw [hty, hy0, List.append_assoc]
          have HTY := Lib.hid hfin; clear hty hlab htl hfin hy0
          gi_wp2_with (gi_at_builtin; refine wpListIn_append_lies _ rfl (.tmp 46) (.tmp 49) 81 rfl w2.heap.size 3 i0 (.int .i64 0) 1 8 Tryz.underlying81 hi hz0 hz1 hz2 rfl (by decide) _ _ _ rfl (hrow'.alloc _) ⟨W.heap.size, 0, none⟩ 1 1 [.int .i64 x'.2.t] rfl rfl (cell_one_new _ _ _) (by simp [Value.oneCell']) (by decide) (by unfold maxLen; omega) (by omega) (by simp; omega) ?_; intro g' cap' w3 hown3 hgrow hat hlt3; obtain ⟨hv1, hv2, hr2, hk2, hb2⟩ := hv'.appended (by decide) hrow' hB'.size (Nat.le_refl _) hown3 hgrow; have hc3 := hv1.cell; have hf3 := hv1.frozen)
          have hgr : ∀ B, B < W.heap.size → vo'.ownBlock ≠ some B → B ≠ w2.heap.size → (w3.setCell ⟨w2.heap.size, 0, none⟩ (.slice (some ⟨g', 0, none⟩) (y0.length + 1) cap')).heap[B]? = W.heap[B]? := fun B h1 h2 h3 =>
            (Below.heap_setCell _ _ _ _ h3).trans ((hgrow.block B (by simp; omega) (fun e => h2 e.symm)).trans (Below.heap_alloc _ _ _ h1))
          refine ⟨hk2.from _, ⟨hb2, hgr _ (by omega) HNE.out.1 (by omega), hgr _ (by omega) HNE.out.2 (by omega)⟩, ⟨⟨⟨_, hv2, ?_, ?_⟩, hB'.trans hb2⟩, fun D hD => hk2.same D _ (HD'.out D hD) rfl, Nat.le_trans hN' hb2.size⟩⟩
          · rw [HTY.out, List.length_append, List.map_append]
            exact hr2
          · simp only [World.size_alloc] at hat
            constructor
            · intro e
              have e2 : g' = wr.heap.size := Option.some.inj e
              rcases hat with h | h
              · exact HNE.out.1 ((show vo'.ownBlock = some g' from h).trans (by rw [e2]))
              · omega
            · intro e
              have e2 : g' = wr.heap.size + 1 := Option.some.inj e
              rcases hat with h | h
              · exact HNE.out.2 ((show vo'.ownBlock = some g' from h).trans (by rw [e2]))
              · omega
        · have t1 : (x'.2.l == label) = false := by simp [hlab]
          have hty := tgp_no (pre := pre) hlab
          have HTY := Lib.hid hty; clear hty hlab
          gi_wp2
          exact ⟨KeepsFrom.refl _ _, gKpS.refl _ _ _ _, ⟨⟨⟨vo', hv', by rw [HTY.out]; exact hrow', HNE.out⟩, hB'⟩, HD'.out, hN'⟩⟩
      case done =>
        rintro D ys W hDge rfl ⟨⟨⟨vo', hv', hrow', hne'⟩, hB'⟩, hD', hN'⟩ hK
        have HD' := Lib.hid hD'; clear hD'
        gi_wp2
        refine ⟨⟨k + 1, D :: Ds, _, _, _, _, _, _, _, _, _, _, _, _, _, _, _, _, _, _, _, _, rfl, by omega, ⟨vo', hv', by rw [HSU.out]; exact hrow', trivial⟩, hB', ?_, ?_, ?_⟩, ?_⟩
        · intro D' h'
          rcases List.mem_cons.1 h' with rfl | h'
          · exact hK
          · exact HD'.out D' h'
        · rw [List.nodup_cons]
          exact ⟨fun h' => by have := HDL.out D h'; omega, HND.out⟩
        · intro D' h'
          rcases List.mem_cons.1 h' with rfl | h'
          · omega
          · exact HDG.out D' h'
        · simp [intOf]; omega
      case stop =>
        rintro D c pre W _ _ h _
        exact h.elim
    · have hkl : k = set.length := by omega
      have htk : set.take k = set := List.take_of_length_le (by omega)
      rw [htk] at hown
      have hcb := hbox.cell
      have hol := outs_length es label set
      have hol2 : (outsL es label set).length ≤ 65536 := by
        have h1 : set.length * es.length ≤ 64 * 1024 := Nat.mul_le_mul hs64 hes1024
        omega
      have hbw : Below w.heap.size w wr := HBW.out.trans (hbel.mono (by omega))
      have hR : stepR es label set = Lib.compact (sortI (outsL es label set)) := rfl
      have hRn := stepR_nil (es := es) (label := label) (set := set)
      obtain ⟨y0, hy0⟩ : ∃ y0, y0 = outsL es label set := ⟨_, rfl⟩
      rw [← hy0] at hown hol2 hR hRn
      clear hol hy0 htk
      have HBWR := Lib.hid hbw; clear hbw
      by_cases hn : y0 = []
      · have hR2 := hRn hn
        subst hn
        obtain ⟨p, c, rfl⟩ := own_slice hown
        have HR3 := Lib.hid hR2; clear hR2 hR hRn
        have HOW := Lib.hid hown; clear hown
        simp only [List.length_nil] at hcb
        gi_wp2_with (first | (refine ⟨trivial, ?_⟩; gi_at_call 139; refine (callsIn_wide.2 (Tryz.slices_Sort_int_none _ _ _)).mono ?_; rintro e w' ⟨rfl, rfl⟩) | (refine ⟨trivial, ?_⟩; gi_at_call 140; refine (callsIn_wide.2 (Tryz.slices_Compact_int_empty _ _ _)).mono ?_; rintro e w' ⟨rfl, rfl⟩))
        rw [HR3.out]
        refine gleaves_marks w.heap.size (fun W => Below w.heap.size w W ∧ W.ownsRow w2.heap.size 3 1 (.slice p 0 c) 0 []) (fun W D hB hk hD => own_put (Nat.le_refl _) hk D hB hD) (fun W hk => ⟨_, results_tmp2 rfl _ _ _, hk.1, _, rfl, own_row hk.2⟩) Ds _ ⟨HBWR.out, HOW.out⟩ HDS.out HND.out (fun D hD => by have := HDG.out D hD; omega)
      · obtain ⟨g, c, rfl, -, -⟩ := World.ownsRow.form hown (List.length_pos_iff.2 hn)
        have hgne : some w2.heap.size ≠ (Value.slice (some ⟨g, 0, none⟩) y0.length c).ownBlock := hbox.not_row (by decide) hown
        have hsort := fun w' h => sortI_any y0 w2.heap.size g c w' h (by omega)
        have hyc : y0.length ≤ c := by
          rcases hown.2 with ⟨h0, _⟩ | ⟨g', c', cur, hv', _, _, h4, _⟩
          · cases h0
          · cases hv'; exact h4
        have hcomp : ∀ w', w'.ownsRow w2.heap.size 3 1 (.slice (some ⟨g, 0, none⟩) (sortI y0).length c) (sortI y0).length (ci (sortI y0)) → Calls Tryz.prog 140 #[.slice (some ⟨g, 0, none⟩) y0.length c] w' (RowRet w' g w2.heap.size c (stepR es label set) (.slice (some ⟨g, 0, none⟩) (stepR es label set).length c)) := fun w' h => by
          have h1 := compactI_any (sortI y0) w2.heap.size g c w' h (by rw [sortI_length]; omega) (by rw [sortI_length]; exact hyc)
          rw [← hR, sortI_length] at h1
          exact h1
        have hdne : ∀ D ∈ Ds, some D ≠ some g := fun D hD e => own_ne hown (HDS.out D hD) e.symm
        have hgw : w2.heap.size ≤ g := (hown.lt g rfl).1
        have HSORT := Lib.hid hsort; clear hsort
        have HCOMP := Lib.hid hcomp; clear hcomp hR hRn hn
        have HDNE := Lib.hid hdne; clear hdne
        have HGNE := Lib.hid hgne; clear hgne
        have HOW := Lib.hid hown; clear hown
        have HBOX := Lib.hid hbox; clear hbox
        gi_wp2_with (first | (refine ⟨trivial, ?_⟩; gi_at_call 139; refine (callsIn_wide.2 (HSORT.out _ HOW.out)).mono ?_; rintro e w4 ⟨rfl, hg4, hown4⟩; have hbox4 := HBOX.out.kept hg4 HGNE.out; have hcb4 := hbox4.cell; have HG4 := Lib.hid hg4; clear hg4; have HO4 := Lib.hid hown4; clear hown4; clear hbox4) | (refine ⟨trivial, ?_⟩; gi_at_call 140; refine (callsIn_wide.2 (HCOMP.out _ HO4.out)).mono ?_; rintro e w5 ⟨rfl, hg5, hown5⟩; have HG5 := Lib.hid hg5; clear hg5; have HO5 := Lib.hid hown5; clear hown5))
        have hb4 : Below w.heap.size w w4 := HBWR.out.grown HG4.out (Nat.le_trans (by omega) HBWR.out.size) (fun j e => by cases e; omega)
        have hb5 : Below w.heap.size w w5 := hb4.grown HG5.out hb4.size (fun j e => by cases e; omega)
        have hd4 : ∀ D ∈ Ds, w4.heap[D]? = some (.deferred (some [])) := fun D hD => (HG4.out.block D (Array.getElem?_eq_some_iff.1 (HDS.out D hD)).1 (HDNE.out D hD)).trans (HDS.out D hD)
        have hd5 : ∀ D ∈ Ds, w5.heap[D]? = some (.deferred (some [])) := fun D hD => (HG5.out.block D (Array.getElem?_eq_some_iff.1 (hd4 D hD)).1 (HDNE.out D hD)).trans (hd4 D hD)
        refine gleaves_marks w.heap.size (fun W => Below w.heap.size w W ∧ W.ownsRow w2.heap.size 3 1 (.slice (some ⟨g, 0, none⟩) (stepR es label set).length c) (stepR es label set).length (ci (stepR es label set))) (fun W D hB hk hD => own_put (Nat.le_refl _) hk D hB hD) (fun W hk => ⟨_, results_tmp2 rfl _ _ _, hk.1, _, rfl, own_row hk.2⟩) Ds _ ⟨hb5, HO5.out⟩ hd5 HND.out (fun D hD => by have := HDG.out D hD; omega)
end Go.Proofs.YthpgeeaccmgbkaaGreat

