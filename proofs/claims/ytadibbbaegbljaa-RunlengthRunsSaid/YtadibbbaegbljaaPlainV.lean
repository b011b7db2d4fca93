/- runlength.Levels: the word of the changes. -/
import Derived.Test.YtadibbbaegbljaaPlainW
namespace Go.Proofs.Ytadibbbaegbljaa
open Go.RowKit

/-- The changes of a word, from the label before it on. -/
def chg (a : Nat) : List UInt8 → List UInt8
  | [] => []
  | c :: t => (if labN c = a then 48 else 49) :: chg (labN c) t
def chL : List UInt8 → List UInt8
  | [] => []
  | c :: t => chg (labN c) t
theorem chg_letters : ∀ (t : List UInt8) (a : Nat), ∀ c ∈ chg a t, c = 48 ∨ c = 49
  | [], _, c, h => by cases h
  | d :: t, a, c, h => by
    rw [chg] at h
    rcases List.mem_cons.1 h with rfl | h
    · by_cases h1 : labN d = a
      · rw [if_pos h1]; exact .inl rfl
      · rw [if_neg h1]; exact .inr rfl
    · exact chg_letters t _ c h
theorem chL_letters (l : List UInt8) : ∀ c ∈ chL l, c = 48 ∨ c = 49 := by
  cases l with
  | nil => intro c h; cases h
  | cons c t => exact chg_letters t _
theorem chg_length : ∀ (t : List UInt8) (a : Nat), (chg a t).length = t.length
  | [], _ => rfl
  | d :: t, a => by rw [chg, List.length_cons, List.length_cons, chg_length t]
theorem chL_length (l : List UInt8) : (chL l).length = l.length - 1 := by
  cases l with
  | nil => rfl
  | cons c t => exact chg_length t _
theorem labN_inj {c d : UInt8} (hc : c = 48 ∨ c = 49) (hd : d = 48 ∨ d = 49) : labN c = labN d ↔ c = d := by
  rcases hc with rfl | rfl <;> rcases hd with rfl | rfl <;> decide
theorem chg_get : ∀ (t : List UInt8) (c : UInt8) (i : Nat), (∀ x ∈ c :: t, x = 48 ∨ x = 49) → (h : i < t.length) → (chg (labN c) t)[i]? = some (if (c :: t)[i + 1]'(by simp; exact h) = (c :: t)[i]'(by simp; omega) then 48 else 49)
  | [], _, _, _, h => by simp at h
  | d :: t, c, 0, hl, h => by
    have := labN_inj (hl d (by simp)) (hl c (by simp))
    simp [chg, this]
  | d :: t, c, i + 1, hl, h => by
    rw [chg, List.getElem?_cons_succ, chg_get t d i (fun x hx => hl x (by simp at hx ⊢; right; exact hx)) (by simpa using h)]
    simp
theorem chL_take {l : List UInt8} (hl : ∀ x ∈ l, x = 48 ∨ x = 49) {i : Nat} (h : i + 1 < l.length) : (chL l).take (i + 1) = (chL l).take i ++ [if l[i + 1] = l[i] then 48 else 49] := by
  cases l with
  | nil => simp at h
  | cons c t =>
    have hi : i < t.length := by simpa using h
    have hg := chg_get t c i hl hi
    have hlen : i < (chg (labN c) t).length := by rw [chg_length]; exact hi
    show (chg (labN c) t).take (i + 1) = (chg (labN c) t).take i ++ _
    rw [List.take_succ_eq_append_getElem hlen]
    rw [List.getElem?_eq_getElem hlen] at hg
    rw [Option.some.inj hg]
theorem run_tL (d E : Nat) (inf : Bool) : ∀ (t : List UInt8) (a p : Nat), a < 2 → p ≤ E → ((run (tL d inf (E + 1)) t (a * (E + 1) + p)).isSome = true ↔ (run (tG d inf E) (chg a t) p).isSome = true)
  | [], a, p, _, _ => by simp [run, chg]
  | c :: t, a, p, ha, hp => by
    have hdiv : (a * (E + 1) + p) / (E + 1) = a := by
      rw [Nat.mul_comm, Nat.mul_add_div (by omega), Nat.div_eq_of_lt (by omega)]; rfl
    have hmod : (a * (E + 1) + p) % (E + 1) = p := by
      rw [Nat.mul_comm, Nat.mul_add_mod, Nat.mod_eq_of_lt (by omega)]
    have hc := labN_lt c
    have hTL : ∀ l, tL d inf (E + 1) (a * (E + 1) + p) l = if l = a then (if p + 1 < E + 1 then some (a * (E + 1) + p + 1) else if inf then some (a * (E + 1) + p) else none) else (if d < p + 1 then some ((1 - a) * (E + 1)) else none) := by
      intro l; unfold tL; rw [hdiv, hmod]
    have hG0 : tG d inf E p 0 = if p < E then some (p + 1) else if inf then some p else none := by unfold tG; rw [if_pos rfl]
    have hG1 : tG d inf E p 1 = if d ≤ p then some 0 else none := by unfold tG; rw [if_neg (by decide)]
    rw [chg, run, run, hTL]
    by_cases hca : labN c = a
    · rw [if_pos hca, if_pos hca, show labN 48 = 0 from rfl, hG0]
      by_cases hpE : p < E
      · rw [if_pos (by omega : p + 1 < E + 1), if_pos hpE, hca]
        exact run_tL d E inf t a (p + 1) ha (by omega)
      · rw [if_neg (by omega : ¬ p + 1 < E + 1), if_neg hpE, hca]
        cases inf with
        | false => simp
        | true => exact run_tL d E true t a p ha hp
    · rw [if_neg hca, if_neg hca, show labN 49 = 1 from rfl, hG1]
      by_cases hd : d ≤ p
      · rw [if_pos (by omega : d < p + 1), if_pos hd, show labN c = 1 - a by omega]
        exact run_tL d E inf t (1 - a) 0 (by omega) (by omega)
      · rw [if_neg (by omega : ¬ d < p + 1), if_neg hd]
theorem pathL (d E : Nat) (inf : Bool) (hd : d ≤ E) (hE : E < 32) {c : UInt8} {t : List UInt8} (hw : ∀ x ∈ c :: t, x = 48 ∨ x = 49) :
    pathD (2 * (E + 1)) (tL d inf (E + 1)) (c :: t) = pathD (E + 1) (tG d inf E) (chL (c :: t)) := by
  rw [Bool.eq_iff_iff, pathD_iff (tL_fit d inf (E + 1) (by omega)) (by omega) hw, pathD_iff (tG_fit d inf E) (by omega) (chL_letters _)]
  have hc := labN_lt c
  constructor
  · rintro ⟨s, hs, h⟩
    have hq : s / (E + 1) < 2 := Nat.div_lt_of_lt_mul (by omega)
    have hdm := Nat.div_add_mod s (E + 1)
    have hm := Nat.mod_lt s (show 0 < E + 1 by omega)
    obtain ⟨a, ha⟩ : ∃ a, a = s / (E + 1) := ⟨_, rfl⟩
    obtain ⟨p, hp⟩ : ∃ p, p = s % (E + 1) := ⟨_, rfl⟩
    rw [← ha, ← hp, Nat.mul_comm] at hdm
    rw [← ha] at hq
    rw [← hp] at hm
    rw [← hdm] at h
    have h1 := (run_tL d E inf (c :: t) a p hq (by omega)).1 h
    rw [chg, run] at h1
    cases hT : tG d inf E p (labN (if labN c = a then 48 else 49)) with
    | none => rw [hT] at h1; cases h1
    | some p' =>
      rw [hT] at h1
      exact ⟨p', tG_fit d inf E _ _ _ hm (labN_lt _) hT, h1⟩
  · rintro ⟨p, hp, h⟩
    by_cases h0 : p = 0
    · subst h0
      refine ⟨(1 - labN c) * (E + 1) + E, ?_, (run_tL d E inf (c :: t) (1 - labN c) E (by omega) (Nat.le_refl _)).2 ?_⟩
      · have : 1 - labN c = 0 ∨ 1 - labN c = 1 := by omega
        rcases this with e | e <;> rw [e] <;> omega
      · have hG1 : tG d inf E E 1 = some 0 := by unfold tG; rw [if_neg (by decide), if_pos hd]
        rw [chg, if_neg (by omega), run, show labN 49 = 1 from rfl, hG1]
        exact h
    · refine ⟨labN c * (E + 1) + (p - 1), ?_, (run_tL d E inf (c :: t) (labN c) (p - 1) hc (by omega)).2 ?_⟩
      · have : labN c = 0 ∨ labN c = 1 := by omega
        rcases this with e | e <;> rw [e] <;> omega
      · have hG0 : tG d inf E (p - 1) 0 = some p := by unfold tG; rw [if_pos rfl, if_pos (by omega)]; congr 1; omega
        rw [chg, if_pos rfl, run, show labN 48 = 0 from rfl, hG0]
        exact h
theorem pathD_nil (S : Nat) (T : Nat → Nat → Option Nat) (h : 0 < S) : pathD S T [] = true := by
  unfold pathD
  rw [pfold, rangeI_length]
  simpa using h
end Go.Proofs.Ytadibbbaegbljaa
