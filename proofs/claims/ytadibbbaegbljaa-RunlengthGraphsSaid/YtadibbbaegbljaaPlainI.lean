/- The insertion sort of grooveref09.Sorted in plain Lean. -/
import Derived.Test.YtadibbbaegbljaaRefCmp
import Derived.Test.YtadibbbaegbljaaPlainU
namespace Go.Proofs.Ytadibbbaegbljaa
open Go.RowKit

theorem cmpR_neg (a b : E3) : cmpR a b < 0 ↔ ltP a b := by
  rw [ltP_iff]; unfold cmpR
  repeat' split
  all_goals omega
/-- Where an edge belongs. -/
def posI (x : E3) : List E3 → Nat
  | [] => 0
  | y :: r => if cmpR y x < 0 then posI x r + 1 else 0
/-- A list with an edge put in, once. -/
def insI (x : E3) (l : List E3) : List E3 := if l[posI x l]? = some x then l else l.take (posI x l) ++ x :: l.drop (posI x l)
theorem posI_le (x : E3) : ∀ l : List E3, posI x l ≤ l.length
  | [] => Nat.le_refl _
  | y :: r => by
    rw [posI]
    split
    · rw [List.length_cons]; have := posI_le x r; omega
    · exact Nat.zero_le _
theorem insI_cons (x y : E3) (r : List E3) : insI x (y :: r) = if cmpR y x < 0 then y :: insI x r else if y = x then y :: r else x :: y :: r := by
  unfold insI
  rw [posI]
  by_cases h : cmpR y x < 0
  · rw [if_pos h, if_pos h, List.getElem?_cons_succ]
    by_cases h2 : r[posI x r]? = some x
    · rw [if_pos h2, if_pos h2]
    · rw [if_neg h2, if_neg h2]; rfl
  · rw [if_neg h, if_neg h]
    by_cases h2 : y = x
    · rw [if_pos h2, if_pos (by rw [h2]; rfl)]
    · rw [if_neg h2, if_neg (by intro e; exact h2 (Option.some.inj e))]; rfl
theorem mem_insI (x e : E3) : ∀ l : List E3, e ∈ insI x l ↔ e = x ∨ e ∈ l
  | [] => by simp [insI, posI]
  | y :: r => by
    rw [insI_cons]
    split
    · rw [List.mem_cons, mem_insI x e r, List.mem_cons]
      constructor
      · rintro (h | h | h)
        · exact .inr (.inl h)
        · exact .inl h
        · exact .inr (.inr h)
      · rintro (h | h | h)
        · exact .inr (.inl h)
        · exact .inl h
        · exact .inr (.inr h)
    · split
      · rename_i h
        rw [List.mem_cons, h]
        constructor
        · intro h; exact .inr h
        · rintro (h | h)
          · exact .inl h
          · exact h
      · rw [List.mem_cons]
theorem insI_sorted (x : E3) : ∀ l : List E3, l.Pairwise ltP → (insI x l).Pairwise ltP
  | [], _ => by simp [insI, posI]
  | y :: r, h => by
    rw [List.pairwise_cons] at h
    rw [insI_cons]
    split
    · rename_i h1
      rw [List.pairwise_cons]
      refine ⟨fun e he => ?_, insI_sorted x r h.2⟩
      rcases (mem_insI x e r).1 he with rfl | he
      · exact (cmpR_neg _ _).1 h1
      · exact h.1 e he
    · rename_i h1
      split
      · exact List.pairwise_cons.2 h
      · rename_i h2
        have hxy : ltP x y := by
          rw [cmpR_neg, ltP_iff] at h1
          rw [ltP_iff]
          have : ¬ (y.f = x.f ∧ y.l = x.l ∧ y.t = x.t) := fun ⟨a, b, c⟩ => h2 (by cases x; cases y; simp_all)
          omega
        rw [List.pairwise_cons]
        refine ⟨fun e he => ?_, List.pairwise_cons.2 h⟩
        rcases List.mem_cons.1 he with rfl | he
        · exact hxy
        · exact ltP_trans hxy (h.1 e he)
/-- What Sorted returns. -/
def sortI : List E3 → List E3 → List E3
  | out, [] => out
  | out, x :: r => sortI (insI x out) r
theorem sortI_sorted : ∀ (l out : List E3), out.Pairwise ltP → (sortI out l).Pairwise ltP
  | [], _, h => h
  | x :: r, out, h => sortI_sorted r _ (insI_sorted x out h)
theorem mem_sortI (e : E3) : ∀ (l out : List E3), e ∈ sortI out l ↔ e ∈ out ∨ e ∈ l
  | [], out => by simp [sortI]
  | x :: r, out => by
    rw [sortI, mem_sortI e r, mem_insI, List.mem_cons]
    constructor
    · rintro ((h | h) | h)
      · exact .inr (.inl h)
      · exact .inl h
      · exact .inr (.inr h)
    · rintro (h | h | h)
      · exact .inl (.inr h)
      · exact .inl (.inl h)
      · exact .inr h
theorem sortI_canon {S : Nat} {T : Nat → Nat → Option Nat} {l : List E3} (h : ∀ e, e ∈ l ↔ e ∈ canon S T) : sortI [] l = canon S T :=
  sorted_ext (sortI_sorted l [] List.Pairwise.nil) (canon_sorted S T) fun e => by rw [mem_sortI, h]; simp
end Go.Proofs.Ytadibbbaegbljaa
