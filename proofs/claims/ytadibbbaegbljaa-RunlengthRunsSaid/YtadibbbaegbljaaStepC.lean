/- The plain facts of graph.Step. -/
import Derived.Test.YtadibbbaegbljaaStepB
namespace Go.Proofs.Ytadibbbaegbljaa
open Go.RowKit

/-- The targets of the edges from s with a label. -/
def tgp (label : Int) (pre : List (Nat × E3)) : List Int := (pre.filter fun x => decide (x.2.l = label)).map fun x => x.2.t
def tgs (es : List E3) (label s : Int) : List Int := tgp label (lvs s es es.length)
theorem tgp_yes {label : Int} {pre : List (Nat × E3)} {x : Nat × E3} (h : x.2.l = label) : tgp label (pre ++ [x]) = tgp label pre ++ [x.2.t] := by simp [tgp, h]
theorem tgp_no {label : Int} {pre : List (Nat × E3)} {x : Nat × E3} (h : ¬ x.2.l = label) : tgp label (pre ++ [x]) = tgp label pre := by simp [tgp, h]
theorem tgp_length (label : Int) (pre : List (Nat × E3)) : (tgp label pre).length ≤ pre.length := by
  unfold tgp; rw [List.length_map]; exact List.length_filter_le _ _
def outsL (es : List E3) (label : Int) (set : List Int) : List Int := set.flatMap (tgs es label)
theorem outs_succ {es : List E3} {label : Int} {set : List Int} {k : Nat} {x : Int} (h : set[k]? = some x) : outsL es label (set.take (k + 1)) = outsL es label (set.take k) ++ tgs es label x := by
  obtain ⟨hk, rfl⟩ := List.getElem?_eq_some_iff.1 h
  rw [List.take_succ_eq_append_getElem hk, outsL, List.flatMap_append]; simp [outsL]
theorem outs_length (es : List E3) (label : Int) (set : List Int) : (outsL es label set).length ≤ set.length * es.length := by
  induction set with
  | nil => simp [outsL]
  | cons s t ih =>
    have h1 := tgp_length label (lvs s es es.length)
    have h2 := lvs_length s es es.length
    rw [outsL, List.flatMap_cons, List.length_append, List.length_cons, Nat.succ_mul]
    unfold tgs
    unfold outsL tgs at ih
    omega
theorem mem_lvs {s : Int} {es : List E3} {n k : Nat} {e : E3} : (k, e) ∈ lvs s es n ↔ k < n ∧ es[k]? = some e ∧ e.f = s := by
  induction n with
  | zero => simp [lvs]
  | succ n ih =>
    rw [lvs, List.mem_append, ih]
    constructor
    · rintro (⟨h1, h2, h3⟩ | h)
      · exact ⟨by omega, h2, h3⟩
      · cases hn : es[n]? with
        | none => rw [hn] at h; cases h
        | some e' =>
          rw [hn] at h
          by_cases hf : e'.f = s
          · simp [hf] at h
            obtain ⟨rfl, rfl⟩ := h
            exact ⟨by omega, hn, hf⟩
          · simp [hf] at h
    · rintro ⟨h1, h2, h3⟩
      by_cases hk : k < n
      · exact .inl ⟨hk, h2, h3⟩
      · have : k = n := by omega
        subst this
        right; rw [h2]; simp [h3]
theorem mem_tgs {es : List E3} {label s t : Int} : t ∈ tgs es label s ↔ ∃ e ∈ es, e.f = s ∧ e.l = label ∧ e.t = t := by
  unfold tgs tgp
  rw [List.mem_map]
  constructor
  · rintro ⟨⟨k, e⟩, h, rfl⟩
    rw [List.mem_filter] at h
    obtain ⟨h1, h2, h3⟩ := mem_lvs.1 h.1
    exact ⟨e, List.mem_of_getElem? h2, h3, by simpa using h.2, rfl⟩
  · rintro ⟨e, he, h1, h2, rfl⟩
    obtain ⟨k, hk⟩ := List.getElem?_of_mem he
    refine ⟨(k, e), ?_, rfl⟩
    rw [List.mem_filter]
    exact ⟨mem_lvs.2 ⟨(List.getElem?_eq_some_iff.1 hk).1, hk, h1⟩, by simp [h2]⟩
theorem compact_sorted (l : List Int) (hs : l.Pairwise (· ≤ ·)) : (Lib.compact l).Pairwise (· < ·) ∧ ∀ x, x ∈ Lib.compact l ↔ x ∈ l := by
  have key : ∀ m, m ≤ l.length → (Lib.compactUpTo l.toArray m).Pairwise (· < ·) ∧ ∀ x, x ∈ Lib.compactUpTo l.toArray m ↔ x ∈ l.take m := by
    intro m
    induction m with
    | zero => intro _; exact ⟨by simp [Lib.compactUpTo], by simp [Lib.compactUpTo]⟩
    | succ m ih =>
      intro hm
      obtain ⟨h1, h2⟩ := ih (by omega)
      have hml : m < l.length := by omega
      have hd : ∀ j, j < l.length → l.toArray[j]! = l[j]! := fun j hj => by simp
      have hg : l.toArray[m]! = l[m] := by rw [getElem!_pos l.toArray m (by simpa using hml)]; simp
      rw [Lib.compactUpTo_succ, List.take_succ_eq_append_getElem hml, hg]
      have hle : ∀ x ∈ l.take m, x ≤ l[m] := by
        intro x hx
        obtain ⟨j, hj, rfl⟩ := List.getElem_of_mem hx
        rw [List.getElem_take]
        rw [List.length_take] at hj
        exact List.pairwise_iff_getElem.1 hs j m _ _ (by omega)
      by_cases hk : Lib.keeps l.toArray m = true
      · rw [if_pos hk]
        refine ⟨?_, fun x => by rw [List.mem_append, List.mem_append, h2]⟩
        rw [List.pairwise_append]
        refine ⟨h1, by simp, ?_⟩
        intro x hx y hy
        rw [List.mem_singleton] at hy
        subst hy
        have hx' := (h2 x).1 hx
        have hxl := hle x hx'
        rcases Nat.eq_zero_or_pos m with e | hm0
        · subst e; simp at hx'
        · have hg1 : l.toArray[m - 1]! = l[m - 1] := by rw [getElem!_pos l.toArray (m - 1) (by simp; omega)]; simp
          have hne : l[m] ≠ l[m - 1] := by
            intro e
            have := Lib.keeps_neg (d := l.toArray) hm0 (by rw [hg, hg1, e])
            rw [this] at hk; cases hk
          have hxp : x ≤ l[m - 1] := by
            obtain ⟨j, hj, rfl⟩ := List.getElem_of_mem hx'
            rw [List.getElem_take]
            rw [List.length_take] at hj
            rcases Nat.lt_or_ge j (m - 1) with h | h
            · exact List.pairwise_iff_getElem.1 hs j (m - 1) _ _ h
            · have : j = m - 1 := by omega
              subst this; exact Int.le_refl _
          have hpm := List.pairwise_iff_getElem.1 hs (m - 1) m (by omega) hml (by omega)
          omega
      · rw [if_neg hk, List.append_nil]
        refine ⟨h1, fun x => ?_⟩
        rw [h2, List.mem_append, List.mem_singleton]
        constructor
        · exact .inl
        · rintro (h | rfl)
          · exact h
          · rcases Nat.eq_zero_or_pos m with e | hm0
            · subst e; exact absurd (Lib.keeps_lt_one _ 0 (by omega)) hk
            · have hg1 : l.toArray[m - 1]! = l[m - 1] := by rw [getElem!_pos l.toArray (m - 1) (by simp; omega)]; simp
              have he : l[m] = l[m - 1] := by
                rcases Classical.em (l[m] = l[m - 1]) with h | h
                · exact h
                · exact absurd (Lib.keeps_pos (d := l.toArray) (by rw [hg, hg1]; exact h)) hk
              rw [he, List.mem_take_iff_getElem]
              exact ⟨m - 1, by omega, rfl⟩
  have h := key l.length (Nat.le_refl _)
  rw [List.take_length] at h
  exact h
/-- The result of graph.Step. -/
def stepR (es : List E3) (label : Int) (set : List Int) : List Int := Lib.compact (sortI (outsL es label set))
theorem stepR_sorted (es : List E3) (label : Int) (set : List Int) : (stepR es label set).Pairwise (· < ·) := by
  refine (compact_sorted _ ?_).1
  have := List.pairwise_mergeSort (le := fun x y : Int => decide (x ≤ y)) (fun a b c h1 h2 => by simp at *; omega) (fun a b => by simp; omega) (outsL es label set)
  exact this.imp (by simp)
theorem mem_stepR {es : List E3} {label : Int} {set : List Int} {t : Int} : t ∈ stepR es label set ↔ ∃ e ∈ es, e.f ∈ set ∧ e.l = label ∧ e.t = t := by
  unfold stepR
  have hsort : (sortI (outsL es label set)).Pairwise (· ≤ ·) := by
    have := List.pairwise_mergeSort (le := fun x y : Int => decide (x ≤ y)) (fun a b c h1 h2 => by simp at *; omega) (fun a b => by simp; omega) (outsL es label set)
    exact this.imp (by simp)
  rw [(compact_sorted _ hsort).2, sortI, (List.mergeSort_perm _ _).mem_iff, outsL, List.mem_flatMap]
  constructor
  · rintro ⟨s, hs, h⟩
    obtain ⟨e, he, h1, h2, h3⟩ := mem_tgs.1 h
    exact ⟨e, he, by rw [h1]; exact hs, h2, h3⟩
  · rintro ⟨e, he, h1, h2, h3⟩
    exact ⟨e.f, h1, mem_tgs.2 ⟨e, he, rfl, h2, h3⟩⟩
theorem stepR_nil {es : List E3} {label : Int} {set : List Int} (h : outsL es label set = []) : stepR es label set = [] := by
  unfold stepR; rw [h]; simp [sortI, Lib.compact, Lib.compactUpTo]
theorem isSet_length {S : Int} : ∀ (set : List Int) (lo : Int), (∀ s ∈ set, lo ≤ s ∧ s < S) → set.Pairwise (· < ·) → (set.length : Int) ≤ max 0 (S - lo)
  | [], lo, _, _ => by simp; omega
  | s :: t, lo, h, hp => by
    rw [List.pairwise_cons] at hp
    have h0 := h s (by simp)
    have ih := isSet_length t (s + 1) (fun x hx => ⟨by have := hp.1 x hx; omega, (h x (by simp [hx])).2⟩) hp.2
    rw [List.length_cons]; omega
theorem IsSet.len {S : Int} {set : List Int} (h : IsSet S set) (hS : S ≤ 64) : set.length ≤ 64 := by
  have := isSet_length set 0 h.1 h.2
  omega
end Go.Proofs.Ytadibbbaegbljaa
