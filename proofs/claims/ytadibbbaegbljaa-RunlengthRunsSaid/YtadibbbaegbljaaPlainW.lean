/- Paths of a deterministic graph over two labels, and the valid words. -/
import Derived.Test.YtadibbbaegbljaaPath
import Derived.Test.YtadibbbaegbljaaPlainU
import Derived.Test.YtadibbbaegbljaaPlainF
import Derived.Test.YtadibbbaegbljaaGErr
namespace Go.Proofs.Ytadibbbaegbljaa
open Go.RowKit

def labN (c : UInt8) : Nat := if c = 48 then 0 else 1
def run (T : Nat → Nat → Option Nat) : List UInt8 → Nat → Option Nat
  | [], s => some s
  | c :: t, s => match T s (labN c) with | some s' => run T t s' | none => none
theorem labN_lt (c : UInt8) : labN c < 2 := by unfold labN; split <;> omega
theorem lblC_labN {c : UInt8} (h : c = 48 ∨ c = 49) : lblC c = (labN c : Int) := by
  rcases h with rfl | rfl <;> rfl
theorem mem_step_canon {S : Nat} {T : Nat → Nat → Option Nat} {l : Nat} {set : List Int} {t : Int} (hl : l < 2) :
    t ∈ stepR (canon S T) (l : Int) set ↔ ∃ s t' : Nat, (s : Int) ∈ set ∧ s < S ∧ T s l = some t' ∧ t = (t' : Int) := by
  rw [mem_stepR]
  constructor
  · rintro ⟨e, he, h1, h2, rfl⟩
    obtain ⟨s, l', t', hs, hl', ht, rfl⟩ := mem_canon.1 he
    have : l' = l := by
      have h3 : (l' : Int) = (l : Int) := h2
      omega
    subst this
    exact ⟨s, t', h1, hs, ht, rfl⟩
  · rintro ⟨s, t', h1, hs, ht, rfl⟩
    exact ⟨⟨s, l, t'⟩, mem_canon.2 ⟨s, l, t', hs, hl, ht, rfl⟩, h1, rfl, rfl⟩
theorem mem_pfold {S : Nat} {T : Nat → Nat → Option Nat} (hT : FitT S T) (hS : S ≤ 64) : ∀ (word : List UInt8) (set : List Int) (t : Int), (∀ c ∈ word, c = 48 ∨ c = 49) → IsSet S set →
    (t ∈ pfold (canon S T) word set ↔ ∃ s t' : Nat, (s : Int) ∈ set ∧ run T word s = some t' ∧ t = (t' : Int))
  | [], set, t, _, hs => by
    rw [pfold]
    constructor
    · intro h
      have := hs.1 t h
      exact ⟨t.toNat, t.toNat, by rw [show ((t.toNat : Nat) : Int) = t by omega]; exact h, rfl, by omega⟩
    · rintro ⟨s, t', h1, h2, rfl⟩
      have : s = t' := Option.some.inj h2
      subst this; exact h1
  | c :: w, set, t, hw, hs => by
    have hc := hw c (by simp)
    rw [pfold, lblC_labN hc, mem_pfold hT hS w _ t (fun c' h' => hw c' (by simp [h'])) (stepR_set (chk_canon hT hS) _ _)]
    constructor
    · rintro ⟨s1, t', h1, h2, rfl⟩
      obtain ⟨s, s', hs1, _, hT', e⟩ := (mem_step_canon (labN_lt c)).1 h1
      have : s1 = s' := by omega
      subst this
      exact ⟨s, t', hs1, by rw [run, hT']; exact h2, rfl⟩
    · rintro ⟨s, t', h1, h2, rfl⟩
      rw [run] at h2
      cases hT' : T s (labN c) with
      | none => rw [hT'] at h2; cases h2
      | some s' =>
        rw [hT'] at h2
        have := hs.1 _ h1
        exact ⟨s', t', (mem_step_canon (labN_lt c)).2 ⟨s, s', h1, by omega, hT', rfl⟩, h2, rfl⟩
/-- Whether a graph has a path with these labels. -/
def pathD (S : Nat) (T : Nat → Nat → Option Nat) (word : List UInt8) : Bool := decide (0 < (pfold (canon S T) word (rangeI S)).length)
theorem pathD_iff {S : Nat} {T : Nat → Nat → Option Nat} (hT : FitT S T) (hS : S ≤ 64) {word : List UInt8} (hw : ∀ c ∈ word, c = 48 ∨ c = 49) :
    pathD S T word = true ↔ ∃ s, s < S ∧ (run T word s).isSome = true := by
  unfold pathD
  rw [decide_eq_true_eq, List.length_pos_iff_exists_mem]
  constructor
  · rintro ⟨t, ht⟩
    obtain ⟨s, t', h1, h2, _⟩ := (mem_pfold hT hS word _ t hw (rangeI_set S)).1 ht
    have := mem_rangeI.1 h1
    exact ⟨s, by omega, by rw [h2]; rfl⟩
  · rintro ⟨s, hs, h⟩
    obtain ⟨t', ht'⟩ := Option.isSome_iff_exists.1 h
    exact ⟨_, (mem_pfold hT hS word _ _ hw (rangeI_set S)).2 ⟨s, t', mem_rangeI.2 (by omega), ht', rfl⟩⟩

/-! ### runlength.Graph -/
theorem runG_fin (d E : Nat) (hd : d ≤ E) : ∀ (t : List UInt8) (r : Nat), r ≤ E → ((run (tG d false E) t r).isSome = true ↔ okP d E t r true)
  | [], r, _ => by simp [run, okP]
  | c :: t, r, hr => by
    rw [run, okP]
    by_cases hc : c = 48
    · have hl : labN c = 0 := by simp [labN, hc]
      rw [hl, if_pos hc, tG, if_pos rfl]
      by_cases h : r < E
      · rw [if_pos h]
        have ih := runG_fin d E hd t (r + 1) (by omega)
        rw [show ((r + 1 : Nat) : Int) = (r : Int) + 1 by omega] at ih
        simp only []
        rw [ih]
        exact ⟨fun h' => ⟨by omega, h'⟩, fun h' => h'.2⟩
      · rw [if_neg h]
        simp only [Bool.false_eq_true, if_false, Option.isSome_none, false_iff]
        intro h'; omega
    · have hl : labN c = 1 := by simp [labN, hc]
      rw [hl, if_neg hc, tG, if_neg (by omega)]
      by_cases h : d ≤ r
      · rw [if_pos h]
        have ih := runG_fin d E hd t 0 (by omega)
        simp only []
        rw [ih]
        exact ⟨fun h' => ⟨fun h2 => by omega, h'⟩, fun h' => h'.2⟩
      · rw [if_neg h]
        simp only [Option.isSome_none, Bool.false_eq_true, false_iff]
        intro h'; exact h'.1 (by first | exact ⟨rfl, by omega⟩ | exact ⟨trivial, by omega⟩)
theorem runG_finS (d E : Nat) (hd : d ≤ E) : ∀ (t : List UInt8) (r : Nat), r ≤ E → ((∃ s, r ≤ s ∧ s ≤ E ∧ (run (tG d false E) t s).isSome = true) ↔ okP d E t r false)
  | [], r, hr => by simp only [okP, iff_true]; exact ⟨r, Nat.le_refl _, hr, rfl⟩
  | c :: t, r, hr => by
    rw [okP]
    by_cases hc : c = 48
    · have hl : labN c = 0 := by simp [labN, hc]
      rw [if_pos hc]
      have hstep : ∀ s, (run (tG d false E) (c :: t) s).isSome = true ↔ s < E ∧ (run (tG d false E) t (s + 1)).isSome = true := by
        intro s
        rw [run, hl, tG, if_pos rfl]
        by_cases h : s < E
        · rw [if_pos h]; simp [h]
        · rw [if_neg h]; simp [h]
      by_cases h : r < E
      · have ih := runG_finS d E hd t (r + 1) (by omega)
        rw [show ((r + 1 : Nat) : Int) = (r : Int) + 1 by omega] at ih
        rw [← ih]
        constructor
        · rintro ⟨s, h1, h2, h3⟩
          obtain ⟨h4, h5⟩ := (hstep s).1 h3
          exact ⟨by omega, s + 1, by omega, by omega, h5⟩
        · rintro ⟨_, s, h1, h2, h3⟩
          refine ⟨s - 1, by omega, by omega, (hstep _).2 ⟨by omega, ?_⟩⟩
          rw [show s - 1 + 1 = s by omega]; exact h3
      · constructor
        · rintro ⟨s, h1, h2, h3⟩
          have := ((hstep s).1 h3).1
          omega
        · rintro ⟨h1, _⟩; omega
    · have hl : labN c = 1 := by simp [labN, hc]
      rw [if_neg hc]
      have hA := runG_fin d E hd t 0 (by omega)
      constructor
      · rintro ⟨s, h1, h2, h3⟩
        rw [run, hl, tG, if_neg (by omega)] at h3
        by_cases h : d ≤ s
        · rw [if_pos h] at h3
          exact ⟨fun h' => by simp at h', hA.1 h3⟩
        · rw [if_neg h] at h3; cases h3
      · rintro ⟨_, h⟩
        refine ⟨E, hr, Nat.le_refl _, ?_⟩
        rw [run, hl, tG, if_neg (by omega), if_pos hd]
        exact hA.2 h
theorem runG_inf (d : Nat) : ∀ (t : List UInt8) (r : Nat), ((run (tG d true d) t (min r d)).isSome = true ↔ okP d (-1) t r true)
  | [], r => by simp [run, okP]
  | c :: t, r => by
    rw [run, okP]
    by_cases hc : c = 48
    · have hl : labN c = 0 := by simp [labN, hc]
      have ih := runG_inf d t (r + 1)
      rw [show ((r + 1 : Nat) : Int) = (r : Int) + 1 by omega] at ih
      have e : tG d true d (min r d) 0 = some (min (r + 1) d) := by
        rw [tG, if_pos rfl]
        by_cases h : min r d < d
        · rw [if_pos h]; congr 1; omega
        · rw [if_neg h, if_pos rfl]; congr 1; omega
      rw [hl, if_pos hc, e]
      simp only []
      rw [ih]
      exact ⟨fun h' => ⟨by omega, h'⟩, fun h' => h'.2⟩
    · have hl : labN c = 1 := by simp [labN, hc]
      rw [hl, if_neg hc, tG, if_neg (by omega)]
      by_cases h : d ≤ r
      · rw [if_pos (by omega)]
        have ih := runG_inf d t 0
        rw [Nat.zero_min] at ih
        simp only []
        rw [ih]
        exact ⟨fun h' => ⟨fun h2 => by omega, h'⟩, fun h' => h'.2⟩
      · rw [if_neg (by omega)]
        simp only [Option.isSome_none, Bool.false_eq_true, false_iff]
        intro h'; exact h'.1 (by first | exact ⟨rfl, by omega⟩ | exact ⟨trivial, by omega⟩)
theorem runG_infS (d : Nat) : ∀ (t : List UInt8) (r : Nat), ((∃ s, min r d ≤ s ∧ s ≤ d ∧ (run (tG d true d) t s).isSome = true) ↔ okP d (-1) t r false)
  | [], r => by simp only [okP, iff_true]; exact ⟨d, by omega, Nat.le_refl _, rfl⟩
  | c :: t, r => by
    rw [okP]
    by_cases hc : c = 48
    · have hl : labN c = 0 := by simp [labN, hc]
      rw [if_pos hc]
      have hstep : ∀ s, s ≤ d → ((run (tG d true d) (c :: t) s).isSome = true ↔ (run (tG d true d) t (min (s + 1) d)).isSome = true) := by
        intro s hs
        rw [run, hl, tG, if_pos rfl]
        by_cases h : s < d
        · rw [if_pos h, show min (s + 1) d = s + 1 by omega]
        · rw [if_neg h, if_pos rfl, show min (s + 1) d = s by omega]
      have ih := runG_infS d t (r + 1)
      rw [show ((r + 1 : Nat) : Int) = (r : Int) + 1 by omega] at ih
      rw [← ih]
      constructor
      · rintro ⟨s, h1, h2, h3⟩
        exact ⟨by omega, min (s + 1) d, by omega, by omega, (hstep s h2).1 h3⟩
      · rintro ⟨_, s, h1, h2, h3⟩
        by_cases he : s = d
        · refine ⟨d, by omega, Nat.le_refl _, (hstep d (Nat.le_refl _)).2 ?_⟩
          rw [show min (d + 1) d = d by omega, ← he]; exact he ▸ h3
        · refine ⟨s - 1, by omega, by omega, (hstep (s - 1) (by omega)).2 ?_⟩
          rw [show min (s - 1 + 1) d = s by omega]; exact h3
    · have hl : labN c = 1 := by simp [labN, hc]
      rw [if_neg hc]
      have hA := runG_inf d t 0
      rw [Nat.zero_min] at hA
      constructor
      · rintro ⟨s, h1, h2, h3⟩
        rw [run, hl, tG, if_neg (by omega)] at h3
        by_cases h : d ≤ s
        · rw [if_pos h] at h3
          exact ⟨fun h' => by simp at h', hA.1 h3⟩
        · rw [if_neg h] at h3; cases h3
      · rintro ⟨_, h⟩
        refine ⟨d, by omega, Nat.le_refl _, ?_⟩
        rw [run, hl, tG, if_neg (by omega), if_pos (Nat.le_refl _)]
        exact hA.2 h
/-- The labels of the paths of Graph are the valid words. -/
theorem pathG (d E : Nat) (k : Int) (hp : pairB (d : Int) k = true) (hl : lastI (d : Int) k = E) (hE : E < 64) {word : List UInt8} (hw : ∀ c ∈ word, c = 48 ∨ c = 49) :
    pathD (E + 1) (tG d (k == -1) E) word = true ↔ okP d k word 0 false := by
  rw [pathD_iff (tG_fit d (k == -1) E) (by omega) hw]
  simp [pairB] at hp
  unfold lastI at hl
  by_cases hk : k = -1
  · rw [if_pos hk] at hl
    have : E = d := by omega
    subst this
    subst hk
    have h := runG_infS E word 0
    rw [Nat.zero_min] at h
    simp only [beq_self_eq_true]
    rw [show ((0 : Nat) : Int) = 0 from rfl] at h
    rw [← h]
    exact ⟨fun ⟨s, h1, h2⟩ => ⟨s, by omega, by omega, h2⟩, fun ⟨s, _, h1, h2⟩ => ⟨s, by omega, h2⟩⟩
  · rw [if_neg hk] at hl
    subst hl
    have h := runG_finS d E (by omega) word 0 (by omega)
    rw [show ((0 : Nat) : Int) = 0 from rfl] at h
    rw [show ((E : Int) == -1) = false from beq_eq_false_iff_ne.2 (by omega), ← h]
    exact ⟨fun ⟨s, h1, h2⟩ => ⟨s, by omega, by omega, h2⟩, fun ⟨s, _, h1, h2⟩ => ⟨s, by omega, h2⟩⟩
/-- The paths of Spaced are paths of Graph. -/
theorem runS_G (d st E E' : Nat) (hE : E' ≤ E) : ∀ (t : List UInt8) (s : Nat), s ≤ E' → (run (tS d st E') t s).isSome = true → (run (tG d false E) t s).isSome = true
  | [], s, _, _ => rfl
  | c :: t, s, hs, h => by
    rw [run] at h ⊢
    unfold tS at h
    unfold tG
    by_cases hc : labN c = 0
    · rw [if_pos hc] at h ⊢
      by_cases h1 : s < E'
      · rw [if_pos h1] at h
        rw [if_pos (by omega)]
        exact runS_G d st E E' hE t (s + 1) (by omega) h
      · rw [if_neg h1] at h; cases h
    · rw [if_neg hc] at h ⊢
      by_cases h1 : d ≤ s ∧ (s - d) % st = 0
      · rw [if_pos h1] at h
        rw [if_pos h1.1]
        exact runS_G d st E E' hE t 0 (by omega) h
      · rw [if_neg h1] at h; cases h
theorem pathS_G (d st E E' : Nat) (hE : E' ≤ E) (h64 : E < 64) {word : List UInt8} (hw : ∀ c ∈ word, c = 48 ∨ c = 49) (h : pathD (E' + 1) (tS d st E') word = true) : pathD (E + 1) (tG d false E) word = true := by
  rw [pathD_iff (tS_fit d st E') (by omega) hw] at h
  rw [pathD_iff (tG_fit d false E) (by omega) hw]
  obtain ⟨s, h1, h2⟩ := h
  exact ⟨s, by omega, runS_G d st E E' hE word s (by omega) h2⟩
theorem canonS_G (d E : Nat) : canon (E + 1) (tS d 1 E) = canon (E + 1) (tG d false E) := by
  refine sorted_ext (canon_sorted _ _) (canon_sorted _ _) fun e => ?_
  have he : ∀ s l, tS d 1 E s l = tG d false E s l := by
    intro s l
    unfold tS tG
    simp [Nat.mod_one]
  simp only [mem_canon, he]
theorem graph_ne (d E : Nat) (inf : Bool) (h : d ≤ E) : gL (gG d inf E) (E + 1) ≠ [] := by
  intro e
  unfold gL at e
  rw [List.flatMap_eq_nil_iff] at e
  have h0 := e 0 (by simp)
  unfold gG at h0
  by_cases hE : 0 < E
  · rw [if_pos hE] at h0; simp at h0
  · rw [if_neg hE, if_pos (c := d ≤ 0) (by omega)] at h0; simp at h0
theorem gout_of_make {w w' : World} {e : Ending} {S : Nat} {T : Nat → Nat → Option Nat} {es : List E3} {Si : Int} (hS : Si = (S : Int)) (ht : Tells S T es) (h : MakeRet w 2 Si es e w') : GOut 2 (S : Int) (canon S T) 0 w e w' := by
  obtain ⟨hb, g, cap, rfl, hown⟩ := h
  subst hS
  refine ⟨hb, _, rfl, ?_⟩
  have h := own_row hown
  rw [ht.sort, ht.perm.length_eq] at h
  rw [ht.perm.length_eq]
  exact h
end Go.Proofs.Ytadibbbaegbljaa
