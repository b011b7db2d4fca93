/- Contracts and plain laws of several functions, one after the other: PdvP, GcdP, ChnP, BndP. -/
import Derived.Test.YtjpalbonclgflaaPart16
/- The pseudo-division of polynomials, as the program does it: plain. -/
namespace Go.Proofs.Ytjpalbonclgflaa

def mulT (c : Int) (r : List Int) (j : Nat) : List Int := (r.take j).map (· * c) ++ r.drop j
theorem mulT_length (c : Int) (r : List Int) (j : Nat) : (mulT c r j).length = r.length := by simp [mulT]; omega
theorem mulT_zero (c : Int) (r : List Int) : mulT c r 0 = r := by simp [mulT]
theorem mulT_full (c : Int) (r : List Int) : mulT c r r.length = r.map (· * c) := by simp [mulT]
theorem mulT_get {c : Int} {r : List Int} {j : Nat} {x : Int} (h : r[j]? = some x) : (mulT c r j)[j]? = some x := by
  have hj := (List.getElem?_eq_some_iff.1 h).1
  unfold mulT
  rw [List.getElem?_append_right (by simp; omega)]
  simp [Nat.min_eq_left (Nat.le_of_lt hj), h]
theorem mulT_set {c : Int} {r : List Int} {j : Nat} {x : Int} (h : r[j]? = some x) : (mulT c r j).set j (x * c) = mulT c r (j + 1) := by
  have hj := (List.getElem?_eq_some_iff.1 h).1
  unfold mulT
  rw [List.set_append_right _ _ (by simp; omega), List.take_add_one, h]
  have : r.drop j = x :: r.drop (j + 1) := by
    have := List.drop_eq_getElem_cons hj
    rw [this, (List.getElem?_eq_some_iff.1 h).2]
  rw [this]
  simp [Nat.min_eq_left (Nat.le_of_lt hj)]
def addT (q : List Int) (k : Nat) (t : Int) : List Int := q.set k (q.getD k 0 + t)
def subT (t : Int) (k : Nat) (b r : List Int) (j : Nat) : List Int := (List.range r.length).map fun i => if k ≤ i ∧ i < k + j then r.getD i 0 - t * b.getD (i - k) 0 else r.getD i 0
theorem subT_length (t : Int) (k : Nat) (b r : List Int) (j : Nat) : (subT t k b r j).length = r.length := by simp [subT]
theorem subT_zero (t : Int) (k : Nat) (b r : List Int) : subT t k b r 0 = r := by
  apply List.ext_getElem?
  intro i
  unfold subT
  rcases Nat.lt_or_ge i r.length with h | h
  · rw [List.getElem?_map, List.getElem?_range h, Option.map_some, if_neg (by omega), List.getD, List.getElem?_eq_getElem h]; rfl
  · rw [List.getElem?_eq_none (by simp; omega), List.getElem?_eq_none h]
theorem subT_get {t : Int} {k : Nat} {b r : List Int} {j : Nat} {x : Int} (h : r[k + j]? = some x) : (subT t k b r j)[k + j]? = some x := by
  have hj := (List.getElem?_eq_some_iff.1 h).1
  unfold subT
  rw [List.getElem?_map, List.getElem?_range hj, Option.map_some, if_neg (by omega), List.getD, h]; rfl
theorem subT_set {t : Int} {k : Nat} {b r : List Int} {j : Nat} {x y : Int} (h : r[k + j]? = some x) (hb : b[j]? = some y) : (subT t k b r j).set (k + j) (x - t * y) = subT t k b r (j + 1) := by
  have hj := (List.getElem?_eq_some_iff.1 h).1
  apply List.ext_getElem?
  intro i
  unfold subT
  rw [List.getElem?_set]
  by_cases hi : k + j = i
  · subst hi
    rw [if_pos rfl, if_pos (by simpa using hj), List.getElem?_map, List.getElem?_range hj, Option.map_some, if_pos (by omega), List.getD, h, show k + j - k = j by omega, List.getD, hb]; rfl
  · rw [if_neg hi]
    rcases Nat.lt_or_ge i r.length with h2 | h2
    · rw [List.getElem?_map, List.getElem?_map, List.getElem?_range h2, Option.map_some, Option.map_some]
      congr 1
      by_cases h3 : k ≤ i ∧ i < k + j
      · rw [if_pos h3, if_pos (by omega)]
      · rw [if_neg h3, if_neg (by omega)]
    · rw [List.getElem?_eq_none (by simp; omega), List.getElem?_eq_none (by simp; omega)]
def dvS (c : Int) (b : List Int) (n : Nat) (a : List Int) : Nat → List Int × List Int
  | 0 => (List.replicate (n + 1) 0, a)
  | i + 1 => (addT ((dvS c b n a i).1.map (· * c)) (n - i) ((dvS c b n a i).2.getD (n - i + b.length - 1) 0),
      subT ((dvS c b n a i).2.getD (n - i + b.length - 1) 0) (n - i) b ((dvS c b n a i).2.map (· * c)) b.length)
theorem dvS_length (c : Int) (b : List Int) (n : Nat) (a : List Int) : ∀ i, (dvS c b n a i).1.length = n + 1 ∧ (dvS c b n a i).2.length = a.length
  | 0 => by simp [dvS]
  | i + 1 => by
    have h := dvS_length c b n a i
    simp [dvS, addT, subT_length, h.1, h.2]
theorem getD_zs {l : List Int} {m : Nat} (h : ∀ x ∈ l, zs m x) (i : Nat) : zs m (l.getD i 0) := by
  rw [List.getD]
  rcases Nat.lt_or_ge i l.length with h1 | h1
  · rw [List.getElem?_eq_getElem h1]; exact h _ (List.getElem_mem _)
  · rw [List.getElem?_eq_none h1]
    unfold zs
    exact Nat.pow_pos (by decide)
theorem dvS_zs {c : Int} {b : List Int} {n : Nat} {a : List Int} {m k : Nat} (ha : ∀ x ∈ a, zs m x) (hb : ∀ x ∈ b, zs k x) (hc : zs k c) :
    ∀ i, (∀ x ∈ (dvS c b n a i).1, zs (m + i * (k + 1)) x) ∧ (∀ x ∈ (dvS c b n a i).2, zs (m + i * (k + 1)) x)
  | 0 => by
    refine ⟨fun x hx => ?_, fun x hx => (ha x hx).mono (by omega)⟩
    rw [dvS] at hx
    rw [List.eq_of_mem_replicate hx]
    unfold zs
    exact Nat.pow_pos (by decide)
  | i + 1 => by
    have h := dvS_zs (n := n) ha hb hc i
    have e : m + (i + 1) * (k + 1) = (m + i * (k + 1) + k) + 1 := by rw [Nat.add_mul]; omega
    have ht := getD_zs h.2 (n - i + b.length - 1)
    have hmul : ∀ l : List Int, (∀ x ∈ l, zs (m + i * (k + 1)) x) → ∀ x ∈ l.map (· * c), zs (m + i * (k + 1) + k) x := by
      intro l hl x hx
      obtain ⟨y, hy, rfl⟩ := List.mem_map.1 hx
      exact (hl y hy).mul hc
    constructor
    · intro x hx
      rw [dvS] at hx
      unfold addT at hx
      rcases List.mem_or_eq_of_mem_set hx with h1 | rfl
      · exact (hmul _ h.1 x h1).mono (by omega)
      · rw [e]; exact (getD_zs (hmul _ h.1) _).add (ht.mono (by omega))
    · intro x hx
      rw [dvS] at hx
      unfold subT at hx
      obtain ⟨j, -, rfl⟩ := List.mem_map.1 hx
      split
      · rw [e]; exact (getD_zs (hmul _ h.2) _).sub (ht.mul (getD_zs hb _))
      · exact (getD_zs (hmul _ h.2) _).mono (by omega)
theorem civ_one {l : List Int} {u : Value} (h : u ∈ civ l) : u.oneCell' = true := by
  unfold civ at h
  obtain ⟨z, -, hz⟩ := List.mem_flatMap.1 h
  simp at hz
  rcases hz with rfl | rfl <;> rfl
def pdv (a b : List Int) : List Int × List Int :=
  if a.length < b.length then ([], a) else
    (tzI (dvS (b.getLast?.getD 0) b (a.length - b.length) a (a.length - b.length + 1)).1, tzI (dvS (b.getLast?.getD 0) b (a.length - b.length) a (a.length - b.length + 1)).2)
end Go.Proofs.Ytjpalbonclgflaa

/- The greatest common divisor of polynomials, as the program does it: plain. -/
namespace Go.Proofs.Ytjpalbonclgflaa

theorem gcdL_dvd {l : List Int} {x : Int} (hx : x ∈ l) : (gcdL l : Int) ∣ x := by
  have h : ∀ (l : List Int) (g : Nat), l.foldl (fun g x => Nat.gcd g x.natAbs) g ∣ g ∧ ∀ x ∈ l, l.foldl (fun g x => Nat.gcd g x.natAbs) g ∣ x.natAbs := by
    intro l
    induction l with
    | nil => intro g; exact ⟨Nat.dvd_refl _, fun x hx => absurd hx (by simp)⟩
    | cons y l ih =>
      intro g
      have h := ih (Nat.gcd g y.natAbs)
      refine ⟨Nat.dvd_trans h.1 (Nat.gcd_dvd_left _ _), fun x hx => ?_⟩
      rcases List.mem_cons.1 hx with rfl | hx
      · exact Nat.dvd_trans h.1 (Nat.gcd_dvd_right _ _)
      · exact h.2 x hx
  exact Int.ofNat_dvd_left.2 ((h l 0).2 x hx)
theorem contS_dvd {l : List Int} {x : Int} (hx : x ∈ l) : contS l ∣ x := by
  unfold contS
  split
  · exact Int.neg_dvd.2 (gcdL_dvd hx)
  · exact gcdL_dvd hx
theorem fdiv_zs {x c : Int} {m : Nat} (h : c ∣ x) (hx : zs m x) : zs m (x.fdiv c) := by
  obtain ⟨k, rfl⟩ := h
  by_cases hc : c = 0
  · subst hc; rw [Int.fdiv_zero]; unfold zs; exact Nat.pow_pos (by decide)
  · rw [Int.mul_fdiv_cancel_left _ hc]
    unfold zs at *
    refine Nat.lt_of_le_of_lt ?_ hx
    rw [Int.natAbs_mul]
    exact Nat.le_mul_of_pos_left _ (Int.natAbs_pos.2 hc)
theorem prm_zs {l : List Int} {m : Nat} (hs : ∀ x ∈ l, zs m x) : ∀ x ∈ prm l, zs m x := by
  intro x hx
  obtain ⟨y, hy, rfl⟩ := List.mem_map.1 hx
  exact fdiv_zs (contS_dvd hy) (hs y hy)
theorem fdiv_ne {x c : Int} (h : c ∣ x) (hx : x ≠ 0) : x.fdiv c ≠ 0 := by
  obtain ⟨k, rfl⟩ := h
  have hc : c ≠ 0 := fun h => hx (by rw [h, Int.zero_mul])
  rw [Int.mul_fdiv_cancel_left _ hc]
  exact fun h => hx (by rw [h, Int.mul_zero])
theorem prm_ends {l : List Int} (he : Ends l) : Ends (prm l) := by
  intro k x h
  rcases List.eq_nil_or_concat l with rfl | ⟨l0, y, rfl⟩
  · simp [prm] at h
  · rw [List.concat_eq_append] at *
    unfold prm at h
    rw [List.map_append] at h
    have h2 := (List.append_inj' h rfl).2
    simp only [List.map_cons, List.map_nil, List.cons.injEq, and_true] at h2
    rw [← h2]
    exact fdiv_ne (contS_dvd (by simp)) (he _ _ rfl)
theorem tzI_prefix (l : List Int) : tzI l <+: l := by
  have h := List.reverse_prefix.2 (List.dropWhile_suffix (l := l.reverse) (· == 0))
  rw [List.reverse_reverse] at h
  exact h
theorem tzI_len_le {l : List Int} {k : Nat} (h : ∀ i, k ≤ i → l.getD i 0 = 0) : (tzI l).length ≤ k := by
  rcases Nat.lt_or_ge k (tzI l).length with hk | hk
  · exfalso
    rcases List.eq_nil_or_concat (tzI l) with h0 | ⟨l0, y, h0⟩
    · rw [h0] at hk; simp at hk
    · rw [List.concat_eq_append] at h0
      have hy := tzI_ends l _ _ h0
      obtain ⟨t, ht⟩ := tzI_prefix l
      have h1 := h l0.length (by rw [h0] at hk; simp at hk; omega)
      rw [← ht, h0] at h1
      simp at h1
      exact hy h1
  · exact hk
theorem getD_map_mul (l : List Int) (c : Int) (i : Nat) : (l.map (· * c)).getD i 0 = l.getD i 0 * c := by
  simp only [List.getD, List.getElem?_map]
  rcases l[i]? with _ | x <;> simp
theorem subT_getD (t : Int) (k : Nat) (b r : List Int) (j i : Nat) (hi : i < r.length) : (subT t k b r j).getD i 0 = if k ≤ i ∧ i < k + j then r.getD i 0 - t * b.getD (i - k) 0 else r.getD i 0 := by
  unfold subT
  rw [List.getD, List.getElem?_map, List.getElem?_range hi]
  rfl
theorem getD_ge {l : List Int} {i : Nat} (h : l.length ≤ i) : l.getD i 0 = 0 := by rw [List.getD, List.getElem?_eq_none h]; rfl
theorem getLast_getD (l : List Int) : l.getLast?.getD 0 = l.getD (l.length - 1) 0 := by rw [List.getLast?_eq_getElem?]; rfl
theorem dvS_zero {b a : List Int} {n : Nat} (hn : a.length = n + b.length) (hb : 0 < b.length) :
    ∀ i, i ≤ n + 1 → ∀ j, a.length - i ≤ j → (dvS (b.getLast?.getD 0) b n a i).2.getD j 0 = 0
  | 0 => fun _ j hj => getD_ge (by rw [(dvS_length _ _ _ _ 0).2]; omega)
  | i + 1 => by
    intro hi j hj
    have h := dvS_zero hn hb i (by omega)
    have hl := (dvS_length (b.getLast?.getD 0) b n a i).2
    rw [dvS]
    show (subT _ _ _ _ _).getD j 0 = 0
    rcases Nat.lt_or_ge j a.length with h1 | h1
    · rw [subT_getD _ _ _ _ _ _ (by rw [List.length_map, hl]; exact h1), getD_map_mul]
      split
      · have e : j = n - i + b.length - 1 := by omega
        have e2 : j - (n - i) = b.length - 1 := by omega
        rw [e2, ← e, getLast_getD]
        omega
      · rw [h j (by omega), Int.zero_mul]
    · exact getD_ge (by rw [subT_length, List.length_map, hl]; exact h1)
theorem pdv_len {a b : List Int} (hb : 0 < b.length) : (pdv a b).2.length < b.length := by
  unfold pdv
  split
  · assumption
  · rename_i h
    have h2 := dvS_zero (a := a) (b := b) (n := a.length - b.length) (by omega) hb (a.length - b.length + 1) (Nat.le_refl _)
    have := tzI_len_le (l := (dvS (b.getLast?.getD 0) b (a.length - b.length) a (a.length - b.length + 1)).2) (k := b.length - 1) (fun i hi => h2 i (by omega))
    show (tzI _).length < _
    omega
theorem pdv_ends {a : List Int} (b : List Int) (ha : Ends a) : Ends (pdv a b).2 := by
  unfold pdv
  split
  · exact ha
  · exact tzI_ends _
theorem pdv_ends1 (a b : List Int) : Ends (pdv a b).1 := by
  unfold pdv
  split
  · intro k x h; simp at h
  · exact tzI_ends _
theorem pdv_zs {a b : List Int} {m k : Nat} (ha : ∀ x ∈ a, zs m x) (hb : ∀ x ∈ b, zs k x) :
    (∀ x ∈ (pdv a b).1, zs (m + (a.length - b.length + 1) * (k + 1)) x) ∧ (∀ x ∈ (pdv a b).2, zs (m + (a.length - b.length + 1) * (k + 1)) x) := by
  unfold pdv
  have hc : zs k (b.getLast?.getD 0) := by rw [getLast_getD]; exact getD_zs hb _
  have h := dvS_zs (n := a.length - b.length) ha hb hc (a.length - b.length + 1)
  split
  · exact ⟨fun x hx => absurd hx (by simp), fun x hx => (ha x hx).mono (by omega)⟩
  · exact ⟨fun x hx => h.1 x (tzI_mem hx), fun x hx => h.2 x (tzI_mem hx)⟩
theorem pdv_len1 (a b : List Int) : (pdv a b).1.length ≤ a.length - b.length + 1 := by
  unfold pdv
  split
  · simp
  · refine Nat.le_trans (tzI_len _) ?_
    rw [(dvS_length _ _ _ _ _).1]
    exact Nat.le_refl _
def gst (p : List Int × List Int) : List Int × List Int :=
  if p.2.length = 0 then p else if p.1.length < p.2.length then (p.2, p.1) else (p.2, prm (pdv p.1 p.2).2)
def gsts (p : List Int × List Int) : Nat → List Int × List Int
  | 0 => p
  | n + 1 => gst (gsts p n)
theorem gst_nil {p : List Int × List Int} (h : p.2.length = 0) : gst p = p := by unfold gst; rw [if_pos h]
theorem gst_swap {p : List Int × List Int} (h : ¬ p.2.length = 0) (h2 : p.1.length < p.2.length) : gst p = (p.2, p.1) := by unfold gst; rw [if_neg h, if_pos h2]
theorem gst_div {p : List Int × List Int} (h : ¬ p.2.length = 0) (h2 : ¬ p.1.length < p.2.length) : gst p = (p.2, prm (pdv p.1 p.2).2) := by unfold gst; rw [if_neg h, if_neg h2]
theorem gst_less {p : List Int × List Int} (h : ¬ p.2.length = 0) : (gst p).2.length < p.2.length := by
  by_cases h2 : p.1.length < p.2.length
  · rw [gst_swap h h2]; exact h2
  · rw [gst_div h h2]
    show (prm _).length < _
    rw [prm_length]
    exact pdv_len (by omega)
theorem gsts_stay {p : List Int × List Int} {n : Nat} (h : (gsts p n).2.length = 0) : ∀ k, gsts p (n + k) = gsts p n
  | 0 => rfl
  | k + 1 => by
    show gst (gsts p (n + k)) = _
    rw [gsts_stay h k]
    exact gst_nil h
theorem gsts_len (p : List Int × List Int) : ∀ n, (gsts p n).2.length ≤ p.2.length - n
  | 0 => by simp [gsts]
  | n + 1 => by
    have h := gsts_len p n
    by_cases h0 : (gsts p n).2.length = 0
    · show (gst (gsts p n)).2.length ≤ _
      rw [gst_nil h0]; omega
    · have := gst_less h0
      show (gst (gsts p n)).2.length ≤ _
      omega
def gcdQ (p : List Int × List Int) : List Int := (gsts p p.2.length).1
theorem gcdQ_of {p : List Int × List Int} {n : Nat} (h : (gsts p n).2.length = 0) : (gsts p n).1 = gcdQ p := by
  have h2 : (gsts p p.2.length).2.length = 0 := by have := gsts_len p p.2.length; omega
  unfold gcdQ
  rcases Nat.le_total n p.2.length with hn | hn
  · have := gsts_stay h (p.2.length - n)
    rw [show n + (p.2.length - n) = p.2.length by omega] at this
    rw [this]
  · have := gsts_stay h2 (n - p.2.length)
    rw [show p.2.length + (n - p.2.length) = n by omega] at this
    rw [this]
def gcdP (a b : List Int) : List Int := gcdQ (prm a, prm b)
def GFine (p : List Int × List Int) (M : Nat) : Prop := ∀ n, (∀ x ∈ (gsts p n).1, zs M x) ∧ (∀ x ∈ (gsts p n).2, zs M x)
theorem gsts_ends {p : List Int × List Int} (h1 : Ends p.1) (h2 : Ends p.2) : ∀ n, Ends (gsts p n).1 ∧ Ends (gsts p n).2
  | 0 => ⟨h1, h2⟩
  | n + 1 => by
    have h := gsts_ends h1 h2 n
    show Ends (gst (gsts p n)).1 ∧ Ends (gst (gsts p n)).2
    by_cases h0 : (gsts p n).2.length = 0
    · rw [gst_nil h0]; exact h
    · by_cases h3 : (gsts p n).1.length < (gsts p n).2.length
      · rw [gst_swap h0 h3]; exact ⟨h.2, h.1⟩
      · rw [gst_div h0 h3]; exact ⟨h.2, prm_ends (pdv_ends _ h.1)⟩
theorem gsts_lens {p : List Int × List Int} {L : Nat} (h1 : p.1.length ≤ L) (h2 : p.2.length ≤ L) : ∀ n, (gsts p n).1.length ≤ L ∧ (gsts p n).2.length ≤ L
  | 0 => ⟨h1, h2⟩
  | n + 1 => by
    have h := gsts_lens h1 h2 n
    show (gst (gsts p n)).1.length ≤ L ∧ (gst (gsts p n)).2.length ≤ L
    by_cases h0 : (gsts p n).2.length = 0
    · rw [gst_nil h0]; exact h
    · by_cases h3 : (gsts p n).1.length < (gsts p n).2.length
      · rw [gst_swap h0 h3]; exact ⟨h.2, h.1⟩
      · rw [gst_div h0 h3]
        have := pdv_len (a := (gsts p n).1) (b := (gsts p n).2) (by omega)
        refine ⟨h.2, ?_⟩
        show (prm _).length ≤ L
        rw [prm_length]
        omega
theorem gfine_of {p : List Int × List Int} {M : Nat} (h : ∀ n, n ≤ p.2.length → (∀ x ∈ (gsts p n).1, zs M x) ∧ (∀ x ∈ (gsts p n).2, zs M x)) : GFine p M := by
  intro n
  rcases Nat.le_total n p.2.length with hn | hn
  · exact h n hn
  · have h2 : (gsts p p.2.length).2.length = 0 := by have := gsts_len p p.2.length; omega
    have := gsts_stay h2 (n - p.2.length)
    rw [show p.2.length + (n - p.2.length) = n by omega] at this
    rw [this]
    exact h _ (Nat.le_refl _)
def sqf (p : List Int) : List Int := prm (pdv p (gcdP p (der p))).1
end Go.Proofs.Ytjpalbonclgflaa

/- The Sturm chain, the changes of sign and the bound, as the program makes them: plain. -/
namespace Go.Proofs.Ytjpalbonclgflaa

def redC (l : List Int) (s : Int) (x : Int) : Int := if s < 0 then -(x.fdiv (gcdL l)) else x.fdiv (gcdL l)
def red (l : List Int) (s : Int) : List Int := tzI (l.map (redC l s))
theorem red_len (l : List Int) (s : Int) : (red l s).length ≤ l.length := by
  unfold red
  exact Nat.le_trans (tzI_len _) (by simp)
theorem red_ends (l : List Int) (s : Int) : Ends (red l s) := tzI_ends _
theorem redC_zs {l : List Int} {s x : Int} {m : Nat} (hx : x ∈ l) (h : zs m x) : zs m (redC l s x) := by
  unfold redC
  split
  · exact (fdiv_zs (gcdL_dvd hx) h).neg
  · exact fdiv_zs (gcdL_dvd hx) h
theorem red_zs {l : List Int} {s : Int} {m : Nat} (h : ∀ x ∈ l, zs m x) : ∀ x ∈ red l s, zs m x := by
  intro x hx
  obtain ⟨y, hy, rfl⟩ := List.mem_map.1 (tzI_mem hx)
  exact redC_zs hy (h y hy)
theorem gcdL_pos {l : List Int} {x : Int} (hx : x ∈ l) (h : x ≠ 0) : 0 < gcdL l := by
  have := gcdL_dvd hx
  rcases Nat.eq_zero_or_pos (gcdL l) with h0 | h0
  · rw [h0] at this; exact absurd (Int.zero_dvd.1 this) h
  · exact h0
theorem Ends.gcd {l : List Int} (h : Ends l) (h0 : 0 < l.length) : 0 < gcdL l := by
  rcases List.eq_nil_or_concat l with rfl | ⟨l0, y, rfl⟩
  · simp at h0
  · rw [List.concat_eq_append] at *
    exact gcdL_pos (x := y) (by simp) (h _ _ rfl)
def sgS (a b : List Int) : Int := if b.getLast?.getD 0 < 0 ∧ (a.length - b.length + 1) % 2 = 1 then 1 else -1
def chn : Nat → List Int → List Int → List (List Int)
  | 0, _, _ => []
  | n + 1, p, q => if q.length = 0 then [] else q :: chn n q (red (pdv p q).2 (sgS p q))
theorem chn_nil {n : Nat} {p q : List Int} (h : q.length = 0) : chn n p q = [] := by
  cases n with
  | zero => rfl
  | succ n => rw [chn, if_pos h]
theorem chn_step {n : Nat} {p q : List Int} (h : ¬ q.length = 0) : chn (n + 1) p q = q :: chn n q (red (pdv p q).2 (sgS p q)) := by rw [chn, if_neg h]
theorem chn_less {p q : List Int} (s : Int) (h : ¬ q.length = 0) : (red (pdv p q).2 s).length < q.length := Nat.lt_of_le_of_lt (red_len _ _) (pdv_len (by omega))
def stm (p : List Int) : List (List Int) := p :: if p.length < 2 then [] else chn p.length p (red (der p) 1)
def stmA (p : List Int) : List (List Int) := stm (sqf p)
def atV (l : List Int) (n d : Int) : Int × Int := l.foldr (fun c s => (s.1 * n + c * s.2, s.2 * d)) (0, 1)
theorem atV_nil (n d : Int) : atV [] n d = (0, 1) := rfl
theorem atV_cons (c : Int) (l : List Int) (n d : Int) : atV (c :: l) n d = ((atV l n d).1 * n + c * (atV l n d).2, (atV l n d).2 * d) := rfl
theorem atV_drop {l : List Int} {k : Nat} {x : Int} (n d : Int) (h : l[k]? = some x) : atV (l.drop k) n d = ((atV (l.drop (k + 1)) n d).1 * n + x * (atV (l.drop (k + 1)) n d).2, (atV (l.drop (k + 1)) n d).2 * d) := by
  have hk := (List.getElem?_eq_some_iff.1 h).1
  rw [List.drop_eq_getElem_cons hk, (List.getElem?_eq_some_iff.1 h).2]
  rfl
theorem atV_zs {l : List Int} {n d : Int} {m k : Nat} (hl : ∀ x ∈ l, zs m x) (hn : zs k n) (hd : zs k d) : zs (m + 1 + l.length * (k + 1)) (atV l n d).1 ∧ zs (1 + l.length * k) (atV l n d).2 := by
  induction l with
  | nil => rw [atV_nil]; exact ⟨zs_nat 0 _ (Nat.pow_pos (by decide)), zs_nat 1 _ (by simp)⟩
  | cons c l ih =>
    have h := ih (fun x hx => hl x (by simp [hx]))
    rw [atV_cons]
    have e1 : m + 1 + (l.length + 1) * (k + 1) = (m + 1 + l.length * (k + 1) + k) + 1 := by rw [Nat.add_mul]; omega
    have e2 : 1 + (l.length + 1) * k = (1 + l.length * k) + k := by rw [Nat.add_mul]; omega
    have e3 : l.length * (k + 1) = l.length * k + l.length := by rw [Nat.mul_add]; omega
    refine ⟨?_, ?_⟩
    · show zs (m + 1 + (l.length + 1) * (k + 1)) _
      rw [e1]
      exact (h.1.mul hn).add (((hl c (by simp)).mul h.2).mono (by omega))
    · show zs (1 + (l.length + 1) * k) _
      rw [e2]
      exact h.2.mul hd
def chgS (n d : Int) (st : Nat × Int) (p : List Int) : Nat × Int :=
  let s := cmpZ (atV p n d).1 0
  (if s ≠ 0 ∧ st.2 ≠ 0 ∧ s ≠ st.2 then st.1 + 1 else st.1, if s ≠ 0 then s else st.2)
def chg (l : List (List Int)) (r : Rat) : Nat := (l.foldl (chgS r.num (r.den : Int)) (0, 0)).1
def mostL (l : List Int) : Nat := l.foldl (fun g x => max g x.natAbs) 0
theorem mostL_snoc (l : List Int) (x : Int) : mostL (l ++ [x]) = max (mostL l) x.natAbs := by simp [mostL]
theorem mostL_zs {l : List Int} {m : Nat} (h : ∀ x ∈ l, zs m x) : zs m (mostL l : Int) := by
  have : ∀ (l : List Int) (g : Nat), g < 256 ^ m → (∀ x ∈ l, zs m x) → l.foldl (fun g x => max g x.natAbs) g < 256 ^ m := by
    intro l
    induction l with
    | nil => intro g hg _; exact hg
    | cons x l ih =>
      intro g hg hx
      have hx0 : x.natAbs < 256 ^ m := hx x (by simp)
      exact ih _ (Nat.max_lt.2 ⟨hg, hx0⟩) (fun y hy => hx y (by simp [hy]))
  unfold zs
  rw [Int.natAbs_natCast]
  exact this l 0 (Nat.pow_pos (by decide)) h
def bndK (p : List Int) : Nat := Nat.log2 (((p.getLast?.getD 0).natAbs + mostL p.dropLast) / (p.getLast?.getD 0).natAbs) + 1
def bnd (p : List Int) : Nat := 2 ^ bndK p
theorem bnd_le {p : List Int} (h : Ends p) (h0 : 0 < p.length) (k : Nat) : 2 ^ k * (p.getLast?.getD 0).natAbs ≤ (p.getLast?.getD 0).natAbs + mostL p.dropLast ↔ k < bndK p := by
  unfold bndK
  obtain ⟨l0, y, hp⟩ : ∃ l0 y, p = l0 ++ [y] := by
    rcases List.eq_nil_or_concat p with rfl | ⟨l0, y, rfl⟩
    · simp at h0
    · exact ⟨l0, y, List.concat_eq_append⟩
  have hy := h _ _ hp
  have hl : (p.getLast?.getD 0).natAbs = y.natAbs := by rw [hp]; simp
  rw [hl]
  have hy0 : 0 < y.natAbs := Int.natAbs_pos.2 hy
  rw [← Nat.le_div_iff_mul_le hy0, Nat.lt_succ_iff]
  have hne : (y.natAbs + mostL p.dropLast) / y.natAbs ≠ 0 := by
    have : 1 ≤ (y.natAbs + mostL p.dropLast) / y.natAbs := (Nat.le_div_iff_mul_le hy0).2 (by omega)
    omega
  exact (Nat.le_log2 hne).symm
end Go.Proofs.Ytjpalbonclgflaa

/- At its bound a polynomial has the sign of its leading coefficient: plain. -/
namespace Go.Proofs.Ytjpalbonclgflaa

theorem mostL_le {l : List Int} {x : Int} (hx : x ∈ l) : x.natAbs ≤ mostL l := by
  have : ∀ (l : List Int) (g : Nat), g ≤ l.foldl (fun g x => max g x.natAbs) g ∧ ∀ x ∈ l, x.natAbs ≤ l.foldl (fun g x => max g x.natAbs) g := by
    intro l
    induction l with
    | nil => intro g; exact ⟨Nat.le_refl _, fun x hx => absurd hx (by simp)⟩
    | cons y l ih =>
      intro g
      have h := ih (max g y.natAbs)
      refine ⟨Nat.le_trans (Nat.le_max_left _ _) h.1, fun x hx => ?_⟩
      rcases List.mem_cons.1 hx with rfl | hx
      · exact Nat.le_trans (Nat.le_max_right _ _) h.1
      · exact h.2 x hx
  exact (this l 0).2 x hx
end Go.Proofs.Ytjpalbonclgflaa

