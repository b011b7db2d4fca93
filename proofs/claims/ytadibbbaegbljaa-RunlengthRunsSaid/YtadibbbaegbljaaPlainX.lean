/- Runs of a word, and the paths of runlength.Transitions. -/
import Derived.Test.YtadibbbaegbljaaPlainV
namespace Go.Proofs.Ytadibbbaegbljaa
open Go.RowKit

def runsOf : List UInt8 → List (UInt8 × Nat)
  | [] => []
  | c :: t => match runsOf t with
    | [] => [(c, 1)]
    | (d, n) :: r => if c = d then (c, n + 1) :: r else (c, 1) :: (d, n) :: r
theorem runsOf_head : ∀ (t : List UInt8) (d : UInt8), ∃ m r, runsOf (d :: t) = (d, m + 1) :: r
  | [], d => ⟨0, [], rfl⟩
  | c :: t, d => by
    obtain ⟨m, r, h⟩ := runsOf_head t c
    rw [runsOf, h]
    by_cases hd : d = c
    · exact ⟨m + 1, r, by simp [hd]⟩
    · exact ⟨0, (c, m + 1) :: r, by simp [hd]⟩
theorem runsOf_one {c : UInt8} {r : List UInt8} (h : r.head? ≠ some c) : runsOf (c :: r) = (c, 1) :: runsOf r := by
  cases r with
  | nil => rfl
  | cons d t =>
    obtain ⟨m, r', h'⟩ := runsOf_head t d
    have hcd : ¬ c = d := fun e => h (by rw [e]; rfl)
    rw [runsOf, h']
    simp [hcd]
theorem runsOf_rep {c : UInt8} {r : List UInt8} (h : r.head? ≠ some c) : ∀ n, runsOf (List.replicate (n + 1) c ++ r) = (c, n + 1) :: runsOf r
  | 0 => runsOf_one h
  | n + 1 => by
    have ih := runsOf_rep h n
    rw [List.replicate_succ, List.cons_append, runsOf, ih]
    simp
theorem runsOf_rep_ge (c : UInt8) (r : List UInt8) : ∀ n, ∃ m r', runsOf (List.replicate (n + 1) c ++ r) = (c, m) :: r' ∧ n + 1 ≤ m
  | 0 => by
    obtain ⟨m, r', h⟩ := runsOf_head r c
    exact ⟨m + 1, r', h, by omega⟩
  | n + 1 => by
    obtain ⟨m, r', h, hm⟩ := runsOf_rep_ge c r n
    refine ⟨m + 1, r', ?_, by omega⟩
    rw [List.replicate_succ, List.cons_append, runsOf, h]
    simp
def okRuns (lim : UInt8 → Nat) (l : List UInt8) : Prop := ∀ x ∈ runsOf l, x.2 ≤ lim x.1
theorem okRuns_cons {lim : UInt8 → Nat} {z : UInt8} {l : List UInt8} (h : okRuns lim (z :: l)) : okRuns lim l := by
  cases l with
  | nil => intro x hx; cases hx
  | cons d t =>
    obtain ⟨m, r, hr⟩ := runsOf_head t d
    unfold okRuns at h ⊢
    rw [runsOf, hr] at h
    rw [hr]
    by_cases hz : z = d
    · rw [hz] at h
      simp only [if_true] at h
      intro x hx
      rcases List.mem_cons.1 hx with rfl | hx
      · have := h (d, m + 1 + 1) (by simp)
        simp only [] at this ⊢
        omega
      · exact h x (by simp [hx])
    · simp only [if_neg hz] at h
      intro x hx
      exact h x (by simp only [List.mem_cons] at hx ⊢; exact .inr hx)
theorem okRuns_rep {lim : UInt8 → Nat} {z : UInt8} {l : List UInt8} : ∀ {n : Nat}, okRuns lim (List.replicate n z ++ l) → okRuns lim l
  | 0, h => h
  | n + 1, h => okRuns_rep (okRuns_cons (by rw [List.replicate_succ, List.cons_append] at h; exact h))
theorem okRuns_rep_iff {lim : UInt8 → Nat} {c : UInt8} {r : List UInt8} (h : r.head? ≠ some c) {n : Nat} (hn : 1 ≤ n) : okRuns lim (List.replicate n c ++ r) ↔ n ≤ lim c ∧ okRuns lim r := by
  obtain ⟨m, rfl⟩ : ∃ m, n = m + 1 := ⟨n - 1, by omega⟩
  unfold okRuns
  rw [runsOf_rep h]
  simp

def limT (j k : Nat) (c : UInt8) : Nat := if c = 48 then k else j
def stT (k : Nat) (c : UInt8) (n : Nat) : Nat := if c = 48 then n - 1 else k + n - 1
theorem run_tT (j k : Nat) (hj : 1 ≤ j) (hk : 1 ≤ k) : ∀ (t : List UInt8) (z : UInt8) (n : Nat), (z = 48 ∨ z = 49) → (∀ x ∈ t, x = 48 ∨ x = 49) → 1 ≤ n → n ≤ limT j k z → ((run (tT j k) t (stT k z n)).isSome = true ↔ okRuns (limT j k) (List.replicate n z ++ t))
  | [], z, n, hz, _, h1, h2 => by
    rw [okRuns_rep_iff (by simp) h1]
    simp only [run, Option.isSome_some, true_iff]
    exact ⟨h2, fun x hx => by cases hx⟩
  | c :: t, z, n, hz, hw, h1, h2 => by
    have hc := hw c (by simp)
    have hwt : ∀ x ∈ t, x = 48 ∨ x = 49 := fun x hx => hw x (by simp [hx])
    by_cases hcz : c = z
    · subst hcz
      have hrep : List.replicate n c ++ c :: t = List.replicate (n + 1) c ++ t := by
        rw [List.replicate_succ', List.append_assoc]; rfl
      rw [hrep, run]
      by_cases hl : n + 1 ≤ limT j k c
      · rw [← run_tT j k hj hk t c (n + 1) hz hwt (by omega) hl]
        have hT : tT j k (stT k c n) (labN c) = some (stT k c (n + 1)) := by
          unfold tT stT limT at *
          rcases hc with rfl | rfl
          · simp only [if_true, show labN 48 = 0 from rfl] at *
            rw [if_pos (by omega), if_pos (by omega)]; congr 1; omega
          · simp only [show ((49 : UInt8) = 48) = False by decide, if_false, show labN 49 = 1 from rfl] at *
            rw [if_neg (by omega), if_neg (by omega), if_pos (by omega)]; congr 1; omega
        rw [hT]
      · have hT : tT j k (stT k c n) (labN c) = none := by
          unfold tT stT limT at *
          rcases hc with rfl | rfl
          · simp only [if_true, show labN 48 = 0 from rfl] at *
            rw [if_pos (by omega), if_neg (by omega)]
          · simp only [show ((49 : UInt8) = 48) = False by decide, if_false, show labN 49 = 1 from rfl] at *
            rw [if_neg (by omega), if_neg (by omega), if_neg (by omega)]
        rw [hT]
        simp only [Option.isSome_none, Bool.false_eq_true, false_iff]
        intro h
        obtain ⟨m, r', hr, hm⟩ := runsOf_rep_ge c t n
        have := h (c, m) (by rw [hr]; simp)
        simp only [] at this
        omega
    · rw [okRuns_rep_iff (by simpa using hcz) h1, run]
      have hT : tT j k (stT k z n) (labN c) = some (stT k c 1) := by
        unfold tT stT limT at *
        rcases hc with rfl | rfl <;> rcases hz with rfl | rfl
        · exact absurd rfl hcz
        · simp only [show ((49 : UInt8) = 48) = False by decide, if_false, if_true, show labN 48 = 0 from rfl] at *
          rw [if_neg (by omega)]
        · simp only [show ((49 : UInt8) = 48) = False by decide, if_false, if_true, show labN 49 = 1 from rfl] at *
          rw [if_pos (by omega), if_neg (by omega)]; congr 1
        · exact absurd rfl hcz
      rw [hT]
      have h1c : 1 ≤ limT j k c := by unfold limT; split <;> omega
      have ih := run_tT j k hj hk t c 1 hc hwt (Nat.le_refl _) h1c
      simp only []
      rw [ih]
      exact ⟨fun h => ⟨h2, h⟩, fun h => h.2⟩
theorem pathT (j k : Nat) (hj : 1 ≤ j) (hk : 1 ≤ k) (hjk : j + k ≤ 64) {word : List UInt8} (hw : ∀ x ∈ word, x = 48 ∨ x = 49) :
    pathD (j + k) (tT j k) word = true ↔ okRuns (limT j k) word := by
  cases word with
  | nil => exact ⟨fun _ x hx => (nomatch hx), fun _ => pathD_nil _ _ (by omega)⟩
  | cons c t =>
    have hc := hw c (by simp)
    rw [pathD_iff (tT_fit j k hj hk) hjk hw]
    constructor
    · rintro ⟨s, hs, h⟩
      by_cases h1 : s < k
      · have hst : s = stT k 48 (s + 1) := by unfold stT; rw [if_pos rfl]; omega
        rw [hst] at h
        exact okRuns_rep ((run_tT j k hj hk (c :: t) 48 (s + 1) (.inl rfl) hw (by omega) (by unfold limT; rw [if_pos rfl]; omega)).1 h)
      · have hst : s = stT k 49 (s - k + 1) := by unfold stT; rw [if_neg (by decide)]; omega
        rw [hst] at h
        exact okRuns_rep ((run_tT j k hj hk (c :: t) 49 (s - k + 1) (.inr rfl) hw (by omega) (by unfold limT; rw [if_neg (by decide)]; omega)).1 h)
    · intro h
      obtain ⟨z, hz, hcz⟩ : ∃ z : UInt8, (z = 48 ∨ z = 49) ∧ c ≠ z := by
        rcases hc with rfl | rfl
        · exact ⟨49, .inr rfl, by decide⟩
        · exact ⟨48, .inl rfl, by decide⟩
      have h1z : 1 ≤ limT j k z := by unfold limT; split <;> omega
      refine ⟨stT k z 1, ?_, (run_tT j k hj hk (c :: t) z 1 hz hw (Nat.le_refl _) h1z).2 ?_⟩
      · unfold stT; split <;> omega
      · rw [okRuns_rep_iff (by simpa using hcz) (Nat.le_refl _)]
        exact ⟨h1z, h⟩
/-- The longest run of a letter. -/
def longF (a : UInt8) : List (UInt8 × Nat) → Nat → Nat
  | [], m => m
  | x :: r, m => longF a r (if x.1 = a then max m x.2 else m)
theorem longF_le (a : UInt8) (b : Nat) : ∀ (l : List (UInt8 × Nat)) (m : Nat), longF a l m ≤ b ↔ m ≤ b ∧ ∀ x ∈ l, x.1 = a → x.2 ≤ b
  | [], m => by simp [longF]
  | x :: r, m => by
    rw [longF, longF_le a b r]
    by_cases h : x.1 = a
    · rw [if_pos h, Nat.max_le]; simp [h, and_assoc]
    · rw [if_neg h]; simp [h]
theorem longF_append (a : UInt8) (x : UInt8 × Nat) : ∀ (l : List (UInt8 × Nat)) (m : Nat), longF a (l ++ [x]) m = (if x.1 = a then max (longF a l m) x.2 else longF a l m)
  | [], m => rfl
  | y :: r, m => by rw [List.cons_append, longF, longF_append a x r, longF]
def longest (a : UInt8) (l : List UInt8) : Nat := longF a (runsOf l) 0
theorem runsOf_letters : ∀ (l : List UInt8), (∀ x ∈ l, x = 48 ∨ x = 49) → ∀ x ∈ runsOf l, x.1 = 48 ∨ x.1 = 49
  | [], _, x, hx => by cases hx
  | c :: t, h, x, hx => by
    have hc := h c (by simp)
    have ih := runsOf_letters t fun x hx => h x (by simp [hx])
    rw [runsOf] at hx
    cases hr : runsOf t with
    | nil => rw [hr] at hx; simp at hx; rw [hx]; exact hc
    | cons y r =>
      obtain ⟨d, n⟩ := y
      rw [hr] at hx
      rw [hr] at ih
      simp only [] at hx
      split at hx
      · rcases List.mem_cons.1 hx with rfl | hx
        · exact hc
        · exact ih x (by simp [hx])
      · rcases List.mem_cons.1 hx with rfl | hx
        · exact hc
        · exact ih x hx
theorem okRuns_longest (j k : Nat) {word : List UInt8} (hw : ∀ x ∈ word, x = 48 ∨ x = 49) : okRuns (limT j k) word ↔ longest 49 word ≤ j ∧ longest 48 word ≤ k := by
  unfold longest
  rw [longF_le, longF_le]
  have hl := runsOf_letters word hw
  unfold okRuns
  constructor
  · intro h
    refine ⟨⟨Nat.zero_le _, fun x hx e => ?_⟩, ⟨Nat.zero_le _, fun x hx e => ?_⟩⟩
    · have := h x hx; rw [e] at this; exact this
    · have := h x hx; rw [e] at this; exact this
  · rintro ⟨⟨_, h1⟩, ⟨_, h2⟩⟩ x hx
    rcases hl x hx with e | e
    · rw [e]; exact h2 x hx e
    · rw [e]; exact h1 x hx e
end Go.Proofs.Ytadibbbaegbljaa
