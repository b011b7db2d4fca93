/- Deterministic graphs over two labels, told by a function: their edges in order. -/
import Derived.Test.YtadibbbaegbljaaSort
namespace Go.Proofs.Ytadibbbaegbljaa
open Go.RowKit

/-- The edges that leave a state. -/
def cgrp (T : Nat → Nat → Option Nat) (s : Nat) : List E3 :=
  (match T s 0 with | some t => [⟨s, 0, t⟩] | none => []) ++ (match T s 1 with | some t => [⟨s, 1, t⟩] | none => [])
def canon (S : Nat) (T : Nat → Nat → Option Nat) : List E3 := (List.range S).flatMap (cgrp T)
theorem mem_cgrp {T : Nat → Nat → Option Nat} {s : Nat} {e : E3} : e ∈ cgrp T s ↔ ∃ l t : Nat, l < 2 ∧ T s l = some t ∧ e = ⟨s, l, t⟩ := by
  unfold cgrp
  rw [List.mem_append]
  constructor
  · rintro (h | h)
    · cases ht : T s 0 with
      | none => rw [ht] at h; cases h
      | some t => rw [ht] at h; exact ⟨0, t, by omega, ht, by simpa using h⟩
    · cases ht : T s 1 with
      | none => rw [ht] at h; cases h
      | some t => rw [ht] at h; exact ⟨1, t, by omega, ht, by simpa using h⟩
  · rintro ⟨l, t, hl, ht, rfl⟩
    have : l = 0 ∨ l = 1 := by omega
    rcases this with rfl | rfl
    · left; rw [ht]; simp
    · right; rw [ht]; simp
theorem mem_canon {S : Nat} {T : Nat → Nat → Option Nat} {e : E3} : e ∈ canon S T ↔ ∃ s l t : Nat, s < S ∧ l < 2 ∧ T s l = some t ∧ e = ⟨s, l, t⟩ := by
  unfold canon
  rw [List.mem_flatMap]
  constructor
  · rintro ⟨s, hs, h⟩
    obtain ⟨l, t, h1, h2, h3⟩ := mem_cgrp.1 h
    exact ⟨s, l, t, by simpa using hs, h1, h2, h3⟩
  · rintro ⟨s, l, t, hs, h1, h2, h3⟩
    exact ⟨s, by simpa using hs, mem_cgrp.2 ⟨l, t, h1, h2, h3⟩⟩
theorem cgrp_length (T : Nat → Nat → Option Nat) (s : Nat) : (cgrp T s).length ≤ 2 := by
  unfold cgrp
  cases T s 0 <;> cases T s 1 <;> simp
theorem canon_length (S : Nat) (T : Nat → Nat → Option Nat) : (canon S T).length ≤ 2 * S := by
  induction S with
  | zero => simp [canon]
  | succ S ih =>
    have := cgrp_length T S
    unfold canon at ih ⊢
    rw [List.range_succ, List.flatMap_append, List.length_append]
    simp only [List.flatMap_cons, List.flatMap_nil, List.append_nil]
    omega
def ltP (a b : E3) : Prop := cmpE a b < 0
theorem ltP_iff (a b : E3) : ltP a b ↔ a.f < b.f ∨ (a.f = b.f ∧ (a.l < b.l ∨ (a.l = b.l ∧ a.t < b.t))) := cmpE_lt a b
theorem cgrp_sorted (T : Nat → Nat → Option Nat) (s : Nat) : (cgrp T s).Pairwise ltP := by
  unfold cgrp
  cases T s 0 <;> cases T s 1 <;> simp [ltP_iff]
theorem canon_sorted (S : Nat) (T : Nat → Nat → Option Nat) : (canon S T).Pairwise ltP := by
  unfold canon
  rw [List.pairwise_flatMap]
  refine ⟨fun s _ => cgrp_sorted T s, ?_⟩
  refine List.pairwise_lt_range.imp ?_
  intro s s' hs a ha b hb
  obtain ⟨l, t, _, _, rfl⟩ := mem_cgrp.1 ha
  obtain ⟨l', t', _, _, rfl⟩ := mem_cgrp.1 hb
  rw [ltP_iff]; left; show (s : Int) < s'; omega
theorem ltP_irrefl (a : E3) : ¬ ltP a a := by rw [ltP_iff]; omega
theorem ltP_asymm {a b : E3} (h : ltP a b) (k : ltP b a) : False := by rw [ltP_iff] at h k; omega
theorem E3.ext' {a b : E3} (h1 : a.f = b.f) (h2 : a.l = b.l) (h3 : a.t = b.t) : a = b := by cases a; cases b; simp_all
theorem ltP_total {a b : E3} (h : ¬ ltP a b) (k : ¬ ltP b a) : a = b := by
  rw [ltP_iff] at h k
  exact E3.ext' (by omega) (by omega) (by omega)
theorem ltP_trans {a b c : E3} (h : ltP a b) (k : ltP b c) : ltP a c := by rw [ltP_iff] at *; omega
/-- Two lists in order with the same members are equal. -/
theorem sorted_ext : ∀ {l k : List E3}, l.Pairwise ltP → k.Pairwise ltP → (∀ e, e ∈ l ↔ e ∈ k) → l = k
  | [], [], _, _, _ => rfl
  | [], b :: k, _, _, h => by have := (h b).2 (by simp); cases this
  | a :: l, [], _, _, h => by have := (h a).1 (by simp); cases this
  | a :: l, b :: k, hl, hk, h => by
    rw [List.pairwise_cons] at hl hk
    have hab : a = b := by
      have h1 := (h a).1 (by simp)
      have h2 := (h b).2 (by simp)
      rw [List.mem_cons] at h1 h2
      rcases h1 with h1 | h1
      · exact h1
      · rcases h2 with h2 | h2
        · exact h2.symm
        · exact (ltP_asymm (hl.1 b h2) (hk.1 a h1)).elim
    subst hab
    rw [sorted_ext hl.2 hk.2]
    intro e
    have h1 := h e
    rw [List.mem_cons, List.mem_cons] at h1
    constructor
    · intro he
      rcases h1.1 (.inr he) with rfl | h2
      · exact (ltP_irrefl _ (hl.1 _ he)).elim
      · exact h2
    · intro he
      rcases h1.2 (.inr he) with rfl | h2
      · exact (ltP_irrefl _ (hk.1 _ he)).elim
      · exact h2
theorem leE_iff (a b : E3) : leE a b = true ↔ ¬ ltP b a := by simp [leE, ltP]
/-- Edges in whatever order, each once, sorted. -/
theorem sortE_perm {es l : List E3} (h : es.Perm l) (hl : l.Pairwise ltP) : sortE es = l := by
  have h1 : (sortE es).Pairwise (fun a b => leE a b = true) := List.pairwise_mergeSort (fun a b c hab hbc => by
    rw [leE_iff] at *
    rw [ltP_iff] at *; omega) (fun a b => by
    rw [Bool.or_eq_true, leE_iff, leE_iff]
    rcases Classical.em (ltP b a) with h | h
    · exact .inr (fun k => ltP_asymm h k)
    · exact .inl h) es
  have hp : (sortE es).Perm l := (List.mergeSort_perm es leE).trans h
  refine hp.eq_of_pairwise (le := fun a b => leE a b = true) ?_ h1 (hl.imp fun hab => (leE_iff _ _).2 fun hba => ltP_asymm hab hba)
  intro a b _ _ hab hba
  rw [leE_iff] at hab hba
  exact ltP_total hba hab
/-- A table is fit for S states. -/
def FitT (S : Nat) (T : Nat → Nat → Option Nat) : Prop := ∀ s l t, s < S → l < 2 → T s l = some t → t < S
theorem chkL_sorted {L S : Int} : ∀ {es : List E3} {p : Option E3}, (∀ e ∈ es, ¬ edgeBad L S e) → es.Pairwise ltP → (∀ q, p = some q → ∀ e ∈ es, ltP q e) → chkL L S p es = 0
  | [], p, _, _, _ => by cases p <;> rfl
  | e :: r, none, h1, h2, _ => by
    rw [List.pairwise_cons] at h2
    rw [chkL, if_neg (h1 e (by simp))]
    exact chkL_sorted (fun e' he' => h1 e' (by simp [he'])) h2.2 (fun q hq e' he' => by cases hq; exact h2.1 e' he')
  | e :: r, some q, h1, h2, h3 => by
    rw [List.pairwise_cons] at h2
    have := h3 q rfl e (by simp)
    rw [chkL, if_neg (h1 e (by simp)), if_neg (by unfold ltP at this; omega)]
    exact chkL_sorted (fun e' he' => h1 e' (by simp [he'])) h2.2 (fun q hq e' he' => by cases hq; exact h2.1 e' he')
theorem chk_canon {S : Nat} {T : Nat → Nat → Option Nat} (hT : FitT S T) (hS : S ≤ 64) : chk 2 (S : Int) (canon S T) = 0 := by
  have hl := canon_length S T
  rw [chk, if_neg (by omega), if_neg (by omega), if_neg (by omega)]
  refine chkL_sorted ?_ (canon_sorted S T) (fun q hq => by cases hq)
  intro e he
  obtain ⟨s, l, t, hs, hl, ht, rfl⟩ := mem_canon.1 he
  have := hT s l t hs hl ht
  unfold edgeBad
  show ¬ ((s : Int) < 0 ∨ (l : Int) < 0 ∨ (t : Int) < 0 ∨ (S : Int) ≤ s ∨ (S : Int) ≤ t ∨ (2 : Int) ≤ l)
  omega
theorem notwins_sorted {es : List E3} (h : es.Pairwise ltP) : NoTwins es := by
  intro k x y hx hy e
  obtain ⟨h1, rfl⟩ := List.getElem?_eq_some_iff.1 hx
  obtain ⟨h2, rfl⟩ := List.getElem?_eq_some_iff.1 hy
  have := List.pairwise_iff_getElem.1 h k (k + 1) h1 h2 (by omega)
  rw [e] at this
  exact ltP_irrefl _ this
theorem ok_canon {S : Nat} {T : Nat → Nat → Option Nat} (hT : FitT S T) (hS : S ≤ 64) : okEs (canon S T) := by
  intro e he
  obtain ⟨s, l, t, hs, hl, ht, rfl⟩ := mem_canon.1 he
  have := hT s l t hs hl ht
  intro x hx
  simp only [List.mem_cons, List.not_mem_nil, or_false] at hx
  rcases hx with rfl | rfl | rfl
  · show (-9223372036854775808 : Int) ≤ (s : Int) ∧ (s : Int) ≤ 9223372036854775807; omega
  · show (-9223372036854775808 : Int) ≤ (l : Int) ∧ (l : Int) ≤ 9223372036854775807; omega
  · show (-9223372036854775808 : Int) ≤ (t : Int) ∧ (t : Int) ≤ 9223372036854775807; omega
/-- Groups state by state, each group in whatever order. -/
theorem groups_perm {S : Nat} {T : Nat → Nat → Option Nat} {g : Nat → List E3} (h : ∀ s, s < S → (g s).Perm (cgrp T s)) : ((List.range S).flatMap g).Perm (canon S T) := by
  induction S with
  | zero => exact List.Perm.refl _
  | succ S ih =>
    unfold canon
    rw [List.range_succ, List.flatMap_append, List.flatMap_append]
    simp only [List.flatMap_cons, List.flatMap_nil, List.append_nil]
    exact (ih fun s hs => h s (by omega)).append (h S (by omega))
/-- What a list of edges that is a permutation of a table's is good for. -/
structure Tells (S : Nat) (T : Nat → Nat → Option Nat) (es : List E3) : Prop where
  perm : es.Perm (canon S T)
  fit : FitT S T
  small : S ≤ 64
theorem Tells.sort {S : Nat} {T : Nat → Nat → Option Nat} {es : List E3} (h : Tells S T es) : sortE es = canon S T := sortE_perm h.perm (canon_sorted S T)
theorem Tells.chk {S : Nat} {T : Nat → Nat → Option Nat} {es : List E3} (h : Tells S T es) : chk 2 (S : Int) (sortE es) = 0 := by rw [h.sort]; exact chk_canon h.fit h.small
theorem Tells.no {S : Nat} {T : Nat → Nat → Option Nat} {es : List E3} (h : Tells S T es) : NoTwins (sortE es) := by rw [h.sort]; exact notwins_sorted (canon_sorted S T)
theorem Tells.ok {S : Nat} {T : Nat → Nat → Option Nat} {es : List E3} (h : Tells S T es) : okEs es := fun e he => ok_canon h.fit h.small e (h.perm.mem_iff.1 he)
theorem Tells.len {S : Nat} {T : Nat → Nat → Option Nat} {es : List E3} (h : Tells S T es) : es.length ≤ 128 := by
  have h1 := canon_length S T
  have h2 := h.perm.length_eq
  have h3 := h.small
  omega
end Go.Proofs.Ytadibbbaegbljaa
