/- Plain laws for RunlengthFactors: factors and reversals of valid words are valid; with a lesser d, or without a bound k, more are. -/
import Derived.Test.YtadibbbaegbljaaPlainG
namespace Go.Proofs.Ytadibbbaegbljaa
open Go.RowKit

def okP (d k : Int) : List UInt8 → Int → Bool → Prop
  | [], _, _ => True
  | c :: t, r, bg => if c = 48 then ¬(0 ≤ k ∧ k < r + 1) ∧ okP d k t (r + 1) bg else ¬(bg = true ∧ r < d) ∧ okP d k t 0 true

theorem vgo_ok (d k : Int) : ∀ (l : List UInt8) (i : Nat) (r : Int) (bg : Bool), vgo d k l i r bg = i + l.length ↔ okP d k l r bg
  | [], i, r, bg => by simp [vgo, okP]
  | c :: t, i, r, bg => by
    rw [vgo, okP]
    by_cases hc : c = 48
    · rw [if_pos hc, if_pos hc]
      by_cases hv : 0 ≤ k ∧ k < r + 1
      · rw [if_pos hv]
        constructor
        · intro h; simp at h
        · intro h; exact absurd hv h.1
      · rw [if_neg hv, ← vgo_ok d k t (i + 1) (r + 1) bg, List.length_cons, show i + 1 + t.length = i + (t.length + 1) by omega]
        exact ⟨fun h => ⟨hv, h⟩, fun h => h.2⟩
    · rw [if_neg hc, if_neg hc]
      by_cases hv : bg = true ∧ r < d
      · rw [if_pos hv]
        constructor
        · intro h; simp at h
        · intro h; exact absurd hv h.1
      · rw [if_neg hv, ← vgo_ok d k t (i + 1) 0 true, List.length_cons, show i + 1 + t.length = i + (t.length + 1) by omega]
        exact ⟨fun h => ⟨hv, h⟩, fun h => h.2⟩
theorem okW_iff (d k : Int) (l : List UInt8) : okW d k l = true ↔ okP d k l 0 false := by
  rw [← vgo_ok d k l 0 0 false, okW, beq_iff_eq, Nat.zero_add]
  rfl

theorem okP_sim (d k : Int) : ∀ (l : List UInt8) (r r' : Int) (bg : Bool), r' ≤ r → okP d k l r bg → okP d k l r' false
  | [], _, _, _, _, _ => trivial
  | c :: t, r, r', bg, hr, h => by
    rw [okP] at h ⊢
    by_cases hc : c = 48
    · rw [if_pos hc] at h ⊢
      exact ⟨by omega, okP_sim d k t (r + 1) (r' + 1) bg (by omega) h.2⟩
    · rw [if_neg hc] at h ⊢
      exact ⟨by simp, h.2⟩
theorem okP_drop (d k : Int) : ∀ (l : List UInt8) (n : Nat) (r : Int) (bg : Bool), 0 ≤ r → okP d k l r bg → okP d k (l.drop n) 0 false
  | l, 0, r, bg, hr, h => okP_sim d k l r 0 bg hr h
  | [], _ + 1, _, _, _, _ => trivial
  | c :: t, n + 1, r, bg, hr, h => by
    rw [okP] at h
    rw [List.drop_succ_cons]
    by_cases hc : c = 48
    · rw [if_pos hc] at h
      exact okP_drop d k t n (r + 1) bg (by omega) h.2
    · rw [if_neg hc] at h
      exact okP_drop d k t n 0 true (by omega) h.2
theorem okP_take (d k : Int) : ∀ (l : List UInt8) (n : Nat) (r : Int) (bg : Bool), okP d k l r bg → okP d k (l.take n) r bg
  | _, 0, _, _, _ => trivial
  | [], _ + 1, _, _, _ => trivial
  | c :: t, n + 1, r, bg, h => by
    rw [List.take_succ_cons, okP]
    rw [okP] at h
    by_cases hc : c = 48
    · rw [if_pos hc] at h ⊢
      exact ⟨h.1, okP_take d k t n _ _ h.2⟩
    · rw [if_neg hc] at h ⊢
      exact ⟨h.1, okP_take d k t n _ _ h.2⟩
theorem okP_mono (d d' k k' : Int) (hd : d' ≤ d) (hk : k' = k ∨ k' < 0) : ∀ (l : List UInt8) (r : Int) (bg : Bool), okP d k l r bg → okP d' k' l r bg
  | [], _, _, _ => trivial
  | c :: t, r, bg, h => by
    rw [okP] at h ⊢
    by_cases hc : c = 48
    · rw [if_pos hc] at h ⊢
      exact ⟨by omega, okP_mono d d' k k' hd hk t _ _ h.2⟩
    · rw [if_neg hc] at h ⊢
      refine ⟨fun hv => h.1 ⟨hv.1, by omega⟩, okP_mono d d' k k' hd hk t _ _ h.2⟩

/-! ### Reversed words -/
def lead : List UInt8 → Int
  | [] => 0
  | c :: t => if c = 48 then lead t + 1 else 0
def one : List UInt8 → Bool
  | [] => false
  | c :: t => if c = 48 then one t else true
def st : List UInt8 → Int → Bool → Int × Bool
  | [], r, bg => (r, bg)
  | c :: t, r, bg => if c = 48 then st t (r + 1) bg else st t 0 true
theorem st_append : ∀ (a b : List UInt8) (r : Int) (bg : Bool), st (a ++ b) r bg = st b (st a r bg).1 (st a r bg).2
  | [], _, _, _ => rfl
  | c :: t, b, r, bg => by
    rw [List.cons_append, st, st]
    by_cases hc : c = 48
    · rw [if_pos hc, if_pos hc]; exact st_append t b _ _
    · rw [if_neg hc, if_neg hc]; exact st_append t b _ _
theorem okP_append (d k : Int) : ∀ (a b : List UInt8) (r : Int) (bg : Bool), okP d k (a ++ b) r bg ↔ okP d k a r bg ∧ okP d k b (st a r bg).1 (st a r bg).2
  | [], _, _, _ => by simp [okP, st]
  | c :: t, b, r, bg => by
    rw [List.cons_append, okP, okP, st]
    by_cases hc : c = 48
    · rw [if_pos hc, if_pos hc, if_pos hc, okP_append d k t b]; exact and_assoc.symm
    · rw [if_neg hc, if_neg hc, if_neg hc, okP_append d k t b]; exact and_assoc.symm
theorem st_rev : ∀ l : List UInt8, st l.reverse 0 false = (lead l, one l)
  | [] => rfl
  | c :: t => by
    rw [List.reverse_cons, st_append, st_rev t, lead, one]
    by_cases hc : c = 48 <;> simp [st, hc]
theorem lead_nonneg : ∀ l : List UInt8, 0 ≤ lead l
  | [] => Int.le_refl _
  | c :: t => by
    have := lead_nonneg t
    rw [lead]
    split <;> omega
theorem okP_lead (d k : Int) : ∀ (l : List UInt8) (r : Int) (bg : Bool), 0 ≤ r → (0 ≤ k → r ≤ k) → (okP d k l r bg ↔ okP d k l 0 false ∧ (0 ≤ k → lead l + r ≤ k) ∧ (bg = true → one l = true → d ≤ lead l + r))
  | [], r, bg, h0, hr => by simp [okP, lead, one]; exact fun h => hr h
  | c :: t, r, bg, h0, hr => by
    rw [okP, okP, lead, one]
    have hn := lead_nonneg t
    by_cases hc : c = 48
    · rw [if_pos hc, if_pos hc, if_pos hc, if_pos hc]
      by_cases hv : 0 ≤ k ∧ k < r + 1
      · constructor
        · intro h; exact absurd hv h.1
        · intro ⟨_, h, _⟩; have := h hv.1; omega
      · have hk : ¬(0 ≤ k ∧ k < 0 + 1) := by omega
        rw [okP_lead d k t (r + 1) bg (by omega) (by omega), okP_lead d k t (0 + 1) false (by omega) (by omega)]
        constructor
        · intro ⟨_, h1, h2, h3⟩
          exact ⟨⟨hk, h1, fun h => by have := h2 h; omega, fun h => by cases h⟩, fun h => by have := h2 h; omega, fun a b => by have := h3 a b; omega⟩
        · intro ⟨⟨_, h1, _, _⟩, h2, h3⟩
          exact ⟨hv, h1, fun h => by have := h2 h; omega, fun a b => by have := h3 a b; omega⟩
    · rw [if_neg hc, if_neg hc, if_neg hc, if_neg hc]
      constructor
      · intro ⟨h1, h2⟩
        refine ⟨⟨by simp, h2⟩, fun h => by have := hr h; omega, fun hb _ => ?_⟩
        rcases Int.lt_or_le r d with h | h
        · exact absurd ⟨hb, h⟩ h1
        · omega
      · intro ⟨⟨_, h2⟩, _, h3⟩
        exact ⟨fun hv => by have := h3 hv.1 rfl; omega, h2⟩
theorem okP_rev (d k : Int) : ∀ l : List UInt8, okP d k l.reverse 0 false ↔ okP d k l 0 false
  | [] => Iff.rfl
  | c :: t => by
    have hn := lead_nonneg t
    rw [List.reverse_cons, okP_append, st_rev, okP_rev d k t]
    by_cases hc : c = 48
    · rw [okP, okP, if_pos hc, show okP d k (c :: t) 0 false ↔ ¬(0 ≤ k ∧ k < 0 + 1) ∧ okP d k t (0 + 1) false by rw [okP, if_pos hc]]
      constructor
      · intro ⟨h1, h2, _⟩
        refine ⟨by simp only [] at h2; omega, (okP_lead d k t (0 + 1) false (by omega) (by simp only [] at h2; omega)).2 ⟨h1, fun h => by simp only [] at h2; omega, fun h => by cases h⟩⟩
      · intro ⟨h1, h2⟩
        have h3 := (okP_lead d k t (0 + 1) false (by omega) (by omega)).1 h2
        exact ⟨h3.1, fun h => by have := h3.2.1 h.1; simp only [] at h; omega, trivial⟩
    · rw [okP, okP, if_neg hc, show okP d k (c :: t) 0 false ↔ ¬(false = true ∧ 0 < d) ∧ okP d k t 0 true by rw [okP, if_neg hc]]
      constructor
      · intro ⟨h1, h2, _⟩
        refine ⟨by simp, (okP_lead d k t 0 true (Int.le_refl _) (fun h => h)).2 ⟨h1, fun h => ((okP_lead d k t 0 false (Int.le_refl _) (fun h => h)).1 h1).2.1 h, fun _ ho => ?_⟩⟩
        rcases Int.lt_or_le (lead t) d with h | h
        · exact absurd ⟨ho, h⟩ h2
        · omega
      · intro ⟨_, h2⟩
        have h3 := (okP_lead d k t 0 true (Int.le_refl _) (fun h => h)).1 h2
        exact ⟨h3.1, fun h => by have := h3.2.2 rfl h.1; simp only [] at h; omega, trivial⟩
end Go.Proofs.Ytadibbbaegbljaa
