/- The tables of the run-length graphs, and their edges as the program adds them. -/
import Derived.Test.YtadibbbaegbljaaPlainT
import Derived.Test.YtadibbbaegbljaaGraphB
namespace Go.Proofs.Ytadibbbaegbljaa
open Go.RowKit

def gL (g : Nat → List E3) (n : Nat) : List E3 := (List.range n).flatMap g
theorem gL_succ (g : Nat → List E3) (n : Nat) : gL g (n + 1) = gL g n ++ g n := by
  unfold gL; rw [List.range_succ, List.flatMap_append]; simp
theorem gL_length (g : Nat → List E3) (c n : Nat) (h : ∀ s, s < n → (g s).length ≤ c) : (gL g n).length ≤ c * n := by
  induction n with
  | zero => simp [gL]
  | succ n ih =>
    have h1 := ih fun s hs => h s (by omega)
    have h2 := h n (by omega)
    rw [gL_succ, List.length_append, Nat.mul_succ]; omega
theorem addTo_in {S : Int} {es : List E3} {e : E3} (h : 0 ≤ e.t ∧ e.t < S) : addTo S es e = es ++ [e] := if_pos h
theorem addTo_out {S : Int} {es : List E3} {e : E3} (h : ¬(0 ≤ e.t ∧ e.t < S)) : addTo S es e = es := if_neg h
theorem tells_of {S : Nat} {T : Nat → Nat → Option Nat} {g : Nat → List E3} (h : ∀ s, s < S → (g s).Perm (cgrp T s)) (hT : FitT S T) (hS : S ≤ 64) : Tells S T (gL g S) := ⟨groups_perm h, hT, hS⟩

/-- runlength.Graph: d, whether there is no k, and the last number told. -/
def tG (d : Nat) (inf : Bool) (E : Nat) (s l : Nat) : Option Nat :=
  if l = 0 then (if s < E then some (s + 1) else if inf then some s else none) else (if d ≤ s then some 0 else none)
def gG (d : Nat) (inf : Bool) (E : Nat) (s : Nat) : List E3 :=
  (if s < E then [⟨s, 0, (s : Int) + 1⟩] else []) ++ (if d ≤ s then [⟨s, 1, 0⟩] else []) ++ (if s = E ∧ inf = true then [⟨s, 0, s⟩] else [])
theorem gG_perm (d : Nat) (inf : Bool) (E s : Nat) (hs : s < E + 1) : (gG d inf E s).Perm (cgrp (tG d inf E) s) := by
  unfold gG cgrp tG
  by_cases h1 : s < E
  · by_cases h2 : d ≤ s
    · simp [h1, h2, show ¬ s = E by omega]
    · simp [h1, h2, show ¬ s = E by omega]
  · have h3 : s = E := by omega
    subst h3
    by_cases h2 : d ≤ s
    · cases inf with
      | false => simp [h2]
      | true => simp [h2]; exact List.Perm.swap _ _ _
    · cases inf with
      | false => simp [h2]
      | true => simp [h2]
theorem tG_fit (d : Nat) (inf : Bool) (E : Nat) : FitT (E + 1) (tG d inf E) := by
  intro s l t hs hl ht
  unfold tG at ht
  split at ht
  · split at ht
    · have := Option.some.inj ht; omega
    · split at ht
      · have := Option.some.inj ht; omega
      · cases ht
  · split at ht
    · have := Option.some.inj ht; omega
    · cases ht
theorem gList_eq (d E : Nat) (inf : Bool) : ∀ n, n ≤ E → gList (d : Int) ((E : Int) + 1) n = gL (gG d inf E) n
  | 0, _ => rfl
  | n + 1, h => by
    rw [gList, gStep, gList_eq d E inf n (by omega), gL_succ, gG, if_pos (by omega : n < E), if_neg (c := n = E ∧ inf = true) (by omega)]
    by_cases hd : (d : Int) ≤ n
    · rw [if_pos hd, if_pos (by omega), addTo_in (by show (0 : Int) ≤ 0 ∧ (0 : Int) < (E : Int) + 1; omega), addTo_in (by show (0 : Int) ≤ (n : Int) + 1 ∧ (n : Int) + 1 < (E : Int) + 1; omega)]
      simp
    · rw [if_neg hd, if_neg (by omega), addTo_in (by show (0 : Int) ≤ (n : Int) + 1 ∧ (n : Int) + 1 < (E : Int) + 1; omega)]
      simp
theorem graphEs_eq (d E : Nat) (k : Int) : graphEs (d : Int) k E = gL (gG d (k == -1) E) (E + 1) := by
  have h1 : gList (d : Int) ((E : Int) + 1) (E + 1) = gL (gG d (k == -1) E) E ++ (if d ≤ E then [⟨E, 1, 0⟩] else []) := by
    rw [gList, gStep, gList_eq d E (k == -1) E (Nat.le_refl _)]
    have ho : ∀ es, addTo ((E : Int) + 1) es ⟨E, 0, (E : Int) + 1⟩ = es := fun es => addTo_out (by show ¬((0 : Int) ≤ (E : Int) + 1 ∧ (E : Int) + 1 < (E : Int) + 1); omega)
    rw [ho]
    by_cases hd : (d : Int) ≤ E
    · rw [if_pos hd, if_pos (by omega), addTo_in (by show (0 : Int) ≤ 0 ∧ (0 : Int) < (E : Int) + 1; omega)]
    · rw [if_neg hd, if_neg (by omega), List.append_nil]
  rw [graphEs, h1, gL_succ, gG, if_neg (c := E < E) (by omega), List.nil_append]
  by_cases hk : k = -1
  · rw [if_pos hk, addTo_in (by show (0 : Int) ≤ (E : Int) ∧ (E : Int) < (E : Int) + 1; omega), if_pos (c := E = E ∧ (k == -1) = true) ⟨rfl, by simp [hk]⟩, List.append_assoc]
  · rw [if_neg hk, if_neg (c := E = E ∧ (k == -1) = true) (by simp [hk]), List.append_nil]
theorem graph_tells (d E : Nat) (k : Int) (hE : E < 64) : Tells (E + 1) (tG d (k == -1) E) (graphEs (d : Int) k E) := by
  rw [graphEs_eq]
  exact tells_of (gG_perm d (k == -1) E) (tG_fit d (k == -1) E) (by omega)

/-- runlength.Spaced: d, the step, the last number. -/
def tS (d st E : Nat) (s l : Nat) : Option Nat :=
  if l = 0 then (if s < E then some (s + 1) else none) else (if d ≤ s ∧ (s - d) % st = 0 then some 0 else none)
def gS (d st E : Nat) (s : Nat) : List E3 :=
  (if s < E then [⟨s, 0, (s : Int) + 1⟩] else []) ++ (if d ≤ s ∧ (s - d) % st = 0 then [⟨s, 1, 0⟩] else [])
theorem gS_perm (d st E s : Nat) : (gS d st E s).Perm (cgrp (tS d st E) s) := by
  unfold gS cgrp tS
  by_cases h1 : s < E <;> by_cases h2 : d ≤ s ∧ (s - d) % st = 0 <;> simp [h1, h2]
theorem tS_fit (d st E : Nat) : FitT (E + 1) (tS d st E) := by
  intro s l t hs hl ht
  unfold tS at ht
  split at ht
  · split at ht
    · have := Option.some.inj ht; omega
    · cases ht
  · split at ht
    · have := Option.some.inj ht; omega
    · cases ht
theorem spaced_tells (d st E : Nat) (hE : E < 64) : Tells (E + 1) (tS d st E) (gL (gS d st E) (E + 1)) := tells_of (fun s _ => gS_perm d st E s) (tS_fit d st E) (by omega)

/-- runlength.Levels: d, whether there is no k, the number of states of a level. -/
def tL (d : Nat) (inf : Bool) (m : Nat) (s l : Nat) : Option Nat :=
  if l = s / m then (if s % m + 1 < m then some (s + 1) else if inf then some s else none) else (if d < s % m + 1 then some ((1 - s / m) * m) else none)
def gV (d : Nat) (inf : Bool) (m : Nat) (s : Nat) : List E3 :=
  (if s % m + 1 < m then [⟨s, (s / m : Nat), (s : Int) + 1⟩] else if inf then [⟨s, (s / m : Nat), s⟩] else []) ++ (if d < s % m + 1 then [⟨s, 1 - ((s / m : Nat) : Int), (1 - ((s / m : Nat) : Int)) * m⟩] else [])
theorem gV_perm (d : Nat) (inf : Bool) (m s : Nat) (hm : 0 < m) (hs : s < 2 * m) : (gV d inf m s).Perm (cgrp (tL d inf m) s) := by
  have hq : s / m = 0 ∨ s / m = 1 := by
    have h : s / m < 2 := Nat.div_lt_of_lt_mul (by omega)
    generalize s / m = q at h ⊢
    omega
  unfold gV cgrp tL
  rcases hq with hq | hq <;> rw [hq] <;> by_cases h1 : s % m + 1 < m <;> by_cases h2 : d < s % m + 1 <;> cases inf <;> simp [h1, h2] <;> exact List.Perm.swap _ _ _
theorem tL_fit (d : Nat) (inf : Bool) (m : Nat) (hm : 0 < m) : FitT (2 * m) (tL d inf m) := by
  intro s l t hs hl ht
  have hq : s / m = 0 ∨ s / m = 1 := by
    have h : s / m < 2 := Nat.div_lt_of_lt_mul (by omega)
    generalize s / m = q at h ⊢
    omega
  have hdm := Nat.div_add_mod s m
  unfold tL at ht
  rcases hq with hq | hq <;> rw [hq] at ht hdm
  all_goals
    split at ht
    · split at ht
      · have := Option.some.inj ht; omega
      · split at ht
        · have := Option.some.inj ht; omega
        · cases ht
    · split at ht
      · have := Option.some.inj ht; omega
      · cases ht
theorem levels_tells (d : Nat) (inf : Bool) (m : Nat) (hm : 0 < m) (hm2 : 2 * m ≤ 64) : Tells (2 * m) (tL d inf m) (gL (gV d inf m) (2 * m)) := tells_of (fun s hs => gV_perm d inf m s hm hs) (tL_fit d inf m hm) hm2

/-- runlength.Transitions: j, k. -/
def tT (j k : Nat) (s l : Nat) : Option Nat :=
  if s < k then (if l = 0 then (if s + 1 < k then some (s + 1) else none) else some k) else (if l = 0 then some 0 else if s + 1 < j + k then some (s + 1) else none)
def gT2 (j k : Nat) (s : Nat) : List E3 :=
  if s < k then (if s + 1 < k then [⟨s, 0, (s : Int) + 1⟩] else []) ++ [⟨s, 1, k⟩] else (if s + 1 < j + k then [⟨s, 1, (s : Int) + 1⟩] else []) ++ [⟨s, 0, 0⟩]
theorem gT2_perm (j k s : Nat) : (gT2 j k s).Perm (cgrp (tT j k) s) := by
  unfold gT2 cgrp tT
  by_cases h1 : s < k
  · by_cases h2 : s + 1 < k <;> simp [h1, h2]
  · by_cases h2 : s + 1 < j + k <;> simp [h1, h2]
    exact List.Perm.swap _ _ _
theorem tT_fit (j k : Nat) (hj : 0 < j) (hk : 0 < k) : FitT (j + k) (tT j k) := by
  intro s l t hs hl ht
  unfold tT at ht
  split at ht
  · split at ht
    · split at ht
      · have := Option.some.inj ht; omega
      · cases ht
    · have := Option.some.inj ht; omega
  · split at ht
    · have := Option.some.inj ht; omega
    · split at ht
      · have := Option.some.inj ht; omega
      · cases ht
theorem trans_tells (j k : Nat) (hj : 0 < j) (hk : 0 < k) (h : j + k ≤ 64) : Tells (j + k) (tT j k) (gL (gT2 j k) (j + k)) := tells_of (fun s _ => gT2_perm j k s) (tT_fit j k hj hk) h
end Go.Proofs.Ytadibbbaegbljaa
