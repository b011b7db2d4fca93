/- Contracts and plain laws of several functions, one after the other: StuB, StuC, StuD. -/
import Derived.Test.YtjpalbonclgflaaPart1
/- Sturm's theorem over the rational numbers, told by small cells: plain. -/
namespace Go.Proofs.Ytjpalbonclgflaa
namespace T
theorem tri (x y : Rat) : x < y ∨ x = y ∨ y < x := by grind
def sg (x : Rat) : Int := if x < 0 then -1 else if x = 0 then 0 else 1
theorem sg_neg {x : Rat} (h : x < 0) : sg x = -1 := if_pos h
theorem sg_pos {x : Rat} (h : 0 < x) : sg x = 1 := by unfold sg; grind
theorem sg_zero : sg 0 = 0 := by unfold sg; grind
theorem sg_mul_pos {c x : Rat} (h : 0 < c) : sg (c * x) = sg x := by
  rcases tri x 0 with h1 | h1 | h1
  · have := Rat.mul_pos h (show 0 < -x by grind)
    rw [sg_neg h1, sg_neg (by grind)]
  · rw [h1, Rat.mul_zero]
  · rw [sg_pos h1, sg_pos (Rat.mul_pos h h1)]
def varS : Int → List Int → Nat
  | _, [] => 0
  | a, s :: l => if s = 0 then varS a l else (if a ≠ 0 ∧ s ≠ a then 1 else 0) + varS s l
def sgs (x : Rat) (l : List (Rat → Rat)) : List Int := l.map fun f => sg (f x)
def Pos (f : Rat → Rat) : Prop := ∀ R, ∃ e, 0 < e ∧ ∀ x, In R x → e ≤ ab (f x)
def Rel (f g h : Rat → Rat) : Prop := ∃ (q : Rat → Rat) (a b : Rat), P q ∧ 0 < a ∧ 0 < b ∧ ∀ x, a * f x = q x * g x - b * h x
inductive Ch : (Rat → Rat) → List (Rat → Rat) → Prop
  | one {f : Rat → Rat} : P f → Pos f → Ch f []
  | two {f g : Rat → Rat} : P f → Ch g [] → Ch f [g]
  | more {f g h : Rat → Rat} {l : List (Rat → Rat)} : P f → Rel f g h → Ch g (h :: l) → Ch f (g :: h :: l)
theorem half_pos {x : Rat} (h : 0 < x) : 0 < x / 2 := by grind
theorem div_pos {x y : Rat} (h : 0 < x) (k : 0 < y) : 0 < x / y := by
  rw [Rat.div_def]; exact Rat.mul_pos h (Rat.inv_pos.2 k)
theorem div_mul_le {x y z : Rat} (hz : 0 < z) (h : y ≤ x / z) : y * z ≤ x := by
  have h1 := Rat.mul_le_mul_of_nonneg_right h (Rat.le_of_lt hz)
  have e : x / z * z = x := Rat.div_mul_cancel (by grind)
  rwa [e] at h1
theorem keep_sign {R L d n : Rat} {f : Rat → Rat} (hL : Lip R f L) (hd : d * (L + 1) ≤ n / 2) (hn : 0 < n) {x y : Rat} (hx : In R x) (hy : In R y) (h : ab (y - x) ≤ d) (hb : n ≤ ab (f x)) :
    sg (f y) = sg (f x) ∧ n / 2 ≤ ab (f y) ∧ 0 < f x * f y := by
  have h1 := hL.2 x y hx hy
  have h2 : ab (y - x) * L ≤ d * (L + 1) := mul_le h (by grind) hL.1 (by have := ab_nonneg (y - x); grind)
  have h3 := le_ab (f y - f x)
  have h4 := neg_le_ab (f y - f x)
  have h5 : L * ab (y - x) ≤ n / 2 := by grind
  rcases @Rat.le_total 0 (f x) with h0 | h0
  · rw [ab_pos h0] at hb
    have : 0 < f y := by grind
    refine ⟨by rw [sg_pos this, sg_pos (by grind)], by rw [ab_pos (by grind)]; grind, Rat.mul_pos (by grind) this⟩
  · rw [ab_npos h0] at hb
    have : f y < 0 := by grind
    have h7 := Rat.mul_pos (show 0 < - f x by grind) (show 0 < - f y by grind)
    refine ⟨by rw [sg_neg this, sg_neg (by grind)], by rw [ab_npos (by grind)]; grind, by grind⟩
theorem P.keep {f : Rat → Rat} (h : P f) (R : Rat) {n : Rat} (hn : 0 < n) : ∃ d, 0 < d ∧ ∀ x y, In R x → In R y → ab (y - x) ≤ d → n ≤ ab (f x) → sg (f y) = sg (f x) ∧ n / 2 ≤ ab (f y) ∧ 0 < f x * f y := by
  obtain ⟨L, hL⟩ := h.lip R
  have hL1 : 0 < L + 1 := by have := hL.1; grind
  refine ⟨n / 2 / (L + 1), div_pos (half_pos hn) hL1, fun x y hx hy h1 h2 => keep_sign hL ?_ hn hx hy h1 h2⟩
  exact div_mul_le hL1 Rat.le_refl
theorem sg_ne {x n : Rat} (hn : 0 < n) (h : n ≤ ab x) : sg x ≠ 0 := by
  unfold ab at h
  unfold sg
  split at h
  · split
    · simp
    · split
      · grind
      · simp
  · split
    · simp
    · grind
def Big (f : Rat → Rat) (l : List (Rat → Rat)) : Prop := ∀ R n, 0 < n → ∃ d, 0 < d ∧ ∀ x y, In R x → In R y → ab (y - x) ≤ d → n ≤ ab (f x) → sg (f y) = sg (f x) ∧ varS (sg (f y)) (sgs y l) = varS (sg (f x)) (sgs x l)
theorem sg_cases (x : Rat) : sg x = -1 ∨ sg x = 0 ∨ sg x = 1 := by
  unfold sg; split
  · exact .inl rfl
  · split
    · exact .inr (.inl rfl)
    · exact .inr (.inr rfl)
theorem varS_skip {s t : Int} (l : List Int) (hs : s = -1 ∨ s = 1) (ht : t = -1 ∨ t = 0 ∨ t = 1) : varS s (t :: -s :: l) = 1 + varS (-s) l := by
  rcases hs with rfl | rfl <;> rcases ht with rfl | rfl | rfl <;> simp [varS]
theorem min_pos {x y : Rat} (h : 0 < x) (k : 0 < y) : ∃ z, 0 < z ∧ z ≤ x ∧ z ≤ y := by
  rcases @Rat.le_total x y with h1 | h1
  · exact ⟨x, h, Rat.le_refl, h1⟩
  · exact ⟨y, k, h1, Rat.le_refl⟩
theorem rel_opp {R Q a b n : Rat} {f g h q : Rat → Rat} (hQ : Bd R q Q) (ha : 0 < a) (hb : 0 < b) (hr : ∀ x, a * f x = q x * g x - b * h x) (hn : 0 < n) {x : Rat} (hx : In R x) (hf : n ≤ ab (f x)) (hg : ab (g x) * (Q + 1) ≤ a * n / 2) :
    sg (h x) = - sg (f x) ∧ a * n / 2 / b ≤ ab (h x) := by
  have h1 := hr x
  have h2 : ab (q x * g x) ≤ ab (g x) * (Q + 1) := by
    rw [ab_mul, Rat.mul_comm (ab (q x))]
    exact mul_le Rat.le_refl (by have := hQ.2 x hx; grind) (ab_nonneg _) (ab_nonneg _)
  have h3 := le_ab (q x * g x)
  have h4 := neg_le_ab (q x * g x)
  have han := Rat.mul_pos ha hn
  have hbe : b * (a * n / 2 / b) = a * n / 2 := by rw [Rat.mul_comm]; exact Rat.div_mul_cancel (by grind)
  have hcan : ∀ y, a * n / 2 ≤ b * y → a * n / 2 / b ≤ y := fun y hy => by
    rw [← hbe] at hy
    exact Rat.le_of_mul_le_mul_left hy hb
  rcases @Rat.le_total 0 (f x) with h0 | h0
  · rw [ab_pos h0] at hf
    have h5 : a * n ≤ a * f x := Rat.mul_le_mul_of_nonneg_left hf (Rat.le_of_lt ha)
    have h6 : a * n / 2 ≤ b * (- h x) := by grind
    have h7 := hcan _ h6
    have h8 := div_pos (half_pos han) hb
    rw [sg_pos (show 0 < f x by grind), sg_neg (show h x < 0 by grind)]
    exact ⟨rfl, Rat.le_trans h7 (neg_le_ab _)⟩
  · rw [ab_npos h0] at hf
    have h5 : a * n ≤ a * (- f x) := Rat.mul_le_mul_of_nonneg_left hf (Rat.le_of_lt ha)
    have h6 : a * n / 2 ≤ b * h x := by grind
    have h7 := hcan _ h6
    have h8 := div_pos (half_pos han) hb
    rw [sg_neg (show f x < 0 by grind), sg_pos (show 0 < h x by grind)]
    exact ⟨rfl, Rat.le_trans h7 (le_ab _)⟩
theorem big_cons {f g : Rat → Rat} {l : List (Rat → Rat)} {x y : Rat} (hs : sg (f y) = sg (f x)) (h1 : sg (g y) = sg (g x) ∧ varS (sg (g y)) (sgs y l) = varS (sg (g x)) (sgs x l)) (h2 : sg (g x) ≠ 0) :
    varS (sg (f y)) (sgs y (g :: l)) = varS (sg (f x)) (sgs x (g :: l)) := by
  show varS _ (sg (g y) :: sgs y l) = varS _ (sg (g x) :: sgs x l)
  rw [varS, varS, if_neg (by rw [h1.1]; exact h2), if_neg h2, h1.2, hs, h1.1]
def Tl : List (Rat → Rat) → Prop
  | [] => True
  | g :: l => Big g l
theorem Ch.big {f : Rat → Rat} {l : List (Rat → Rat)} (h : Ch f l) : P f ∧ Big f l ∧ Tl l := by
  induction h with
  | one hp _ =>
    refine ⟨hp, fun R n hn => ?_, trivial⟩
    obtain ⟨d, d0, hd⟩ := hp.keep R hn
    exact ⟨d, d0, fun x y hx hy h1 h2 => ⟨(hd x y hx hy h1 h2).1, rfl⟩⟩
  | two hp hg ih =>
    rename_i f g
    refine ⟨hp, fun R n hn => ?_, ih.2.1⟩
    obtain ⟨d, d0, hd⟩ := hp.keep R hn
    cases hg with
    | one _ hpos =>
      obtain ⟨e, e0, he⟩ := hpos R
      obtain ⟨d2, d20, hd2⟩ := ih.2.1 R e e0
      obtain ⟨z, z0, z1, z2⟩ := min_pos d0 d20
      refine ⟨z, z0, fun x y hx hy h1 h2 => ?_⟩
      have k1 := (hd x y hx hy (by grind) h2).1
      refine ⟨k1, big_cons k1 (hd2 x y hx hy (by grind) (he x hx)) (sg_ne e0 (he x hx))⟩
  | more hp hr hg ih =>
    rename_i f g h l
    refine ⟨hp, fun R n hn => ?_, ih.2.1⟩
    obtain ⟨d, d0, hd⟩ := hp.keep R hn
    obtain ⟨q, a, b, hq, ha, hb, hrel⟩ := hr
    obtain ⟨Q, hQ⟩ := hq.bd R
    have hQ1 : 0 < Q + 1 := by have := hQ.1; grind
    have han := half_pos (Rat.mul_pos ha hn)
    have hm : 0 < a * n / 2 / (Q + 1) := div_pos han hQ1
    have hm2 : 0 < a * n / 2 / b := div_pos han hb
    obtain ⟨d1, d10, hd1⟩ := ih.2.1 R _ hm
    obtain ⟨d2, d20, hd2⟩ := ih.2.2 R _ hm2
    obtain ⟨z, z0, z1, z2⟩ := min_pos d0 d10
    obtain ⟨z', z0', z1', z2'⟩ := min_pos z0 d20
    have hm3 := half_pos hm
    obtain ⟨Lg, hLg⟩ := ih.1.lip R
    have hL1 : 0 < Lg + 1 := by have := hLg.1; grind
    have hn2 := half_pos hn
    have hm' : 0 < a * (n / 2) / 2 / (Q + 1) := div_pos (half_pos (Rat.mul_pos ha hn2)) hQ1
    have hdg := div_pos hm hL1
    obtain ⟨d3, d30, hd3⟩ := ih.2.1 R _ (half_pos hm')
    obtain ⟨d4, d40, hd4⟩ := ih.2.2 R _ (div_pos (half_pos (Rat.mul_pos ha hn2)) hb)
    obtain ⟨u, u0, u1, u2⟩ := min_pos d30 d40
    obtain ⟨v, v0, v1, v2⟩ := min_pos u0 d0
    obtain ⟨s, s0, s1, s2⟩ := min_pos v0 (div_pos (half_pos hm') hL1)
    refine ⟨s, s0, fun x y hx hy h1 h2 => ?_⟩
    have k1 := hd x y hx hy (by grind) h2
    refine ⟨k1.1, ?_⟩
    rcases @Rat.le_total (a * (n / 2) / 2 / (Q + 1) / 2) (ab (g x)) with c | c
    · exact big_cons k1.1 (hd3 x y hx hy (by grind) c) (sg_ne (half_pos hm') c)
    · have e1 : ab (g x) ≤ a * (n / 2) / 2 / (Q + 1) := by grind
      have e2 : ab (g y) ≤ a * (n / 2) / 2 / (Q + 1) := by
        have t1 := hLg.2 x y hx hy
        have t2 := ab_add (g x) (g y - g x)
        have t3 : g x + (g y - g x) = g y := by grind
        rw [t3] at t2
        have t4 : ab (y - x) * (Lg + 1) ≤ a * (n / 2) / 2 / (Q + 1) / 2 := div_mul_le hL1 (by grind)
        have t5 := ab_nonneg (y - x)
        grind
      have o1 := rel_opp hQ ha hb hrel hn2 hx (by grind) (div_mul_le hQ1 e1)
      have o2 := rel_opp hQ ha hb hrel hn2 hy (by exact k1.2.1) (div_mul_le hQ1 e2)
      have k4 := hd4 x y hx hy (by grind) o1.2
      have hs : ∀ z m, 0 < m → m ≤ ab (f z) → sg (f z) = -1 ∨ sg (f z) = 1 := fun z m m0 hz => by
        rcases sg_cases (f z) with h | h | h
        · exact .inl h
        · exact absurd h (sg_ne m0 hz)
        · exact .inr h
      show varS _ (sg (g y) :: sg (h y) :: sgs y l) = varS _ (sg (g x) :: sg (h x) :: sgs x l)
      rw [o1.1, o2.1, varS_skip _ (hs y _ hn2 k1.2.1) (sg_cases _), varS_skip _ (hs x _ hn h2) (sg_cases _), ← o1.1, ← o2.1, k4.2]
def cell (f : Rat → Rat) (x y : Rat) : Int := if f x ≠ 0 ∧ f x * f y ≤ 0 then 1 else 0
theorem cell_zero {f : Rat → Rat} {x y : Rat} (h : 0 < f x * f y) : cell f x y = 0 := by
  unfold cell; rw [if_neg]; intro h2; grind
def V (l : List (Rat → Rat)) (x : Rat) : Nat := varS 0 (sgs x l)
def Loc (N : Rat → Rat → Int) (f : Rat → Rat) : Prop := ∀ R, ∃ d, 0 < d ∧ ∀ x y, In R x → In R y → x ≤ y → y - x ≤ d → N x y = cell f x y
def Cop (f g : Rat → Rat) : Prop := ∀ R, ∃ e, 0 < e ∧ ∀ x, In R x → e ≤ ab (f x) + ab (g x)
theorem loc_one {f : Rat → Rat} (hp : P f) (h : Pos f) : Loc (fun x y => (V [f] x : Int) - (V [f] y : Int)) f := fun R => by
  obtain ⟨e, e0, he⟩ := h R
  obtain ⟨d, d0, hd⟩ := hp.keep R e0
  refine ⟨d, d0, fun x y hx hy h1 h2 => ?_⟩
  have k := hd x y hx hy (by rw [ab_pos (by grind)]; exact h2) (he x hx)
  rw [cell_zero k.2.2]
  show ((varS 0 [sg (f x)] : Nat) : Int) - (varS 0 [sg (f y)] : Nat) = 0
  rw [k.1]; omega
theorem cell_pos {f : Rat → Rat} {x y : Rat} (h : f x ≤ f y) : cell f x y = (if f x < 0 then 1 else 0) - (if f y < 0 then 1 else 0) := by
  unfold cell
  rcases tri (f x) 0 with a | a | a
  · rcases tri (f y) 0 with b | b | b
    · have := Rat.mul_pos (show 0 < - f x by grind) (show 0 < - f y by grind)
      rw [if_neg (by grind), if_pos a, if_pos b]; rfl
    · rw [b, Rat.mul_zero, if_pos ⟨by grind, Rat.le_refl⟩, if_pos a, if_neg (by grind)]; rfl
    · have := Rat.mul_pos (show 0 < - f x by grind) b
      rw [if_pos ⟨by grind, by grind⟩, if_pos a, if_neg (by grind)]; rfl
  · rw [if_neg (by grind), if_neg (by grind), if_neg (by grind)]; rfl
  · have := Rat.mul_pos a (show 0 < f y by grind)
    rw [if_neg (by grind), if_neg (by grind), if_neg (by grind)]; rfl
theorem cell_neg {f : Rat → Rat} {x y : Rat} (h : f y ≤ f x) : cell f x y = (if 0 < f x then 1 else 0) - (if 0 < f y then 1 else 0) := by
  have h2 := cell_pos (f := fun x => - f x) (x := x) (y := y) (by grind)
  have e1 : cell (fun x => - f x) x y = cell f x y := by
    unfold cell
    have e2 : ∀ z : Rat, (- z = 0) ↔ z = 0 := by intro z; grind
    have e3 : - f x * - f y = f x * f y := by grind
    simp only [ne_eq, e2, e3]
  rw [← e1, h2]
  have e4 : ∀ z : Rat, (- z < 0) ↔ 0 < z := by intro z; grind
  simp only [e4]
theorem rise {R C e d k : Rat} {f f1 f' : Rat → Rat} (hC : Dv R f f' C) (hk : 0 < k) (hf : ∀ x, f' x = k * f1 x) (he : 0 < e) (hd : d * (C + 1) ≤ k * e / 2) {x y : Rat} (hx : In R x) (hy : In R y) (h1 : x < y) (h2 : y - x ≤ d) (hb : e ≤ ab (f1 x)) :
    (0 < f1 x ∧ f x < f y) ∨ (f1 x < 0 ∧ f y < f x) := by
  have c1 := hC.2 x y hx hy
  have e0 : ab (y - x) = y - x := ab_pos (by grind)
  rw [e0, hf x] at c1
  have hyx : 0 < y - x := by grind
  have c2 := le_ab (f y - f x - (y - x) * (k * f1 x))
  have c3 := neg_le_ab (f y - f x - (y - x) * (k * f1 x))
  have hke := Rat.mul_pos hk he
  have c4 : (y - x) * (C + 1) ≤ k * e / 2 := Rat.le_trans (Rat.mul_le_mul_of_nonneg_right h2 (by have := hC.1; grind)) hd
  have c5 : (y - x) * ((y - x) * (C + 1)) ≤ (y - x) * (k * e / 2) := Rat.mul_le_mul_of_nonneg_left c4 (Rat.le_of_lt hyx)
  have c6 := Rat.mul_pos hyx hke
  have c7 := Rat.mul_pos hyx hyx
  rcases @Rat.le_total 0 (f1 x) with h0 | h0
  · rw [ab_pos h0] at hb
    have c8 : (y - x) * (k * e) ≤ (y - x) * (k * f1 x) := Rat.mul_le_mul_of_nonneg_left (Rat.mul_le_mul_of_nonneg_left hb (Rat.le_of_lt hk)) (Rat.le_of_lt hyx)
    exact .inl ⟨by grind, by grind⟩
  · rw [ab_npos h0] at hb
    have c8 : (y - x) * (k * e) ≤ (y - x) * (k * - f1 x) := Rat.mul_le_mul_of_nonneg_left (Rat.mul_le_mul_of_nonneg_left hb (Rat.le_of_lt hk)) (Rat.le_of_lt hyx)
    exact .inr ⟨by grind, by grind⟩
theorem varS_one {s : Int} (l : List Int) (hs : s ≠ 0) : varS 0 (s :: l) = varS s l := by
  rw [varS, if_neg hs]; simp
theorem varS_two {s t : Int} (l : List Int) (ht : t ≠ 0) : varS 0 (s :: t :: l) = (if s ≠ 0 ∧ t ≠ s then 1 else 0) + varS t l := by
  simp only [varS, if_neg ht]
  by_cases hs : s = 0
  · subst hs; simp
  · simp [hs]
theorem loc_more {f f1 f' : Rat → Rat} {l : List (Rat → Rat)} {k : Rat} (hc : Ch f (f1 :: l)) (hD : D f f') (hk : 0 < k) (hf : ∀ x, f' x = k * f1 x) (hcop : Cop f f1) :
    Loc (fun x y => (V (f :: f1 :: l) x : Int) - (V (f :: f1 :: l) y : Int)) f := fun R => by
  obtain ⟨e, e0, he⟩ := hcop R
  obtain ⟨hp, hB, hB1⟩ := hc.big
  obtain ⟨C, hC⟩ := hD.dv R
  have hC1 : 0 < C + 1 := by have := hC.1; grind
  have e2 := half_pos e0
  obtain ⟨d0, d00, hd0⟩ := hp.keep R e2
  obtain ⟨d1, d10, hd1⟩ := hB R _ e2
  obtain ⟨d2, d20, hd2⟩ := hB1 R _ e2
  have hd3 := div_pos (half_pos (Rat.mul_pos hk e2)) hC1
  obtain ⟨u, u0, u1, u2⟩ := min_pos d00 d10
  obtain ⟨v, v0, v1, v2⟩ := min_pos u0 d20
  obtain ⟨s, s0, s1, s2⟩ := min_pos v0 hd3
  refine ⟨s, s0, fun x y hx hy h1 h2 => ?_⟩
  have hab : ab (y - x) = y - x := ab_pos (by grind)
  show ((varS 0 (sg (f x) :: sg (f1 x) :: sgs x l) : Nat) : Int) - (varS 0 (sg (f y) :: sg (f1 y) :: sgs y l) : Nat) = _
  rcases @Rat.le_total (e / 2) (ab (f x)) with c | c
  · have k1 := hd0 x y hx hy (by grind) c
    have k2 := hd1 x y hx hy (by grind) c
    have n1 := sg_ne e2 c
    rw [cell_zero k1.2.2, varS_one _ n1, varS_one _ (by rw [k1.1]; exact n1)]
    have k3 : varS (sg (f y)) (sg (f1 y) :: sgs y l) = varS (sg (f x)) (sg (f1 x) :: sgs x l) := k2.2
    rw [k3]; omega
  · have c1 : e / 2 ≤ ab (f1 x) := by have := he x hx; grind
    have k2 := hd2 x y hx hy (by grind) c1
    have n1 := sg_ne e2 c1
    rw [varS_two _ n1, varS_two _ (by rw [k2.1]; exact n1), k2.2, k2.1]
    by_cases hxy : x = y
    · subst hxy
      have : cell f x x = 0 := by
        unfold cell; rw [if_neg]; rintro ⟨a1, a2⟩
        rcases tri (f x) 0 with a | a | a
        · have := Rat.mul_pos (show 0 < - f x by grind) (show 0 < - f x by grind); grind
        · exact a1 a
        · have := Rat.mul_pos a a; grind
      rw [this]; omega
    · have hlt : x < y := by grind
      rcases rise hC hk hf e2 (div_mul_le hC1 Rat.le_refl) hx hy hlt (by grind) c1 with ⟨r1, r2⟩ | ⟨r1, r2⟩
      · rw [cell_pos (Rat.le_of_lt r2), sg_pos r1]
        have hv : ∀ z : Rat, (if sg z ≠ 0 ∧ (1 : Int) ≠ sg z then 1 else 0 : Nat) = if z < 0 then 1 else 0 := fun z => by
          rcases tri z 0 with a | a | a
          · rw [sg_neg a, if_pos (by decide), if_pos a]
          · rw [a, sg_zero, if_neg (by simp), if_neg (by grind)]
          · rw [sg_pos a, if_neg (by simp), if_neg (by grind)]
        rw [hv, hv]
        split <;> split <;> omega
      · rw [cell_neg (Rat.le_of_lt r2), sg_neg r1]
        have hv : ∀ z : Rat, (if sg z ≠ 0 ∧ (-1 : Int) ≠ sg z then 1 else 0 : Nat) = if 0 < z then 1 else 0 := fun z => by
          rcases tri z 0 with a | a | a
          · rw [sg_neg a, if_neg (by simp), if_neg (by grind)]
          · rw [a, sg_zero, if_neg (by simp), if_neg (by grind)]
          · rw [sg_pos a, if_pos (by decide), if_pos a]
        rw [hv, hv]
        split <;> split <;> omega
end T
end Go.Proofs.Ytjpalbonclgflaa

/- What follows of Sturm's theorem on small cells for intervals: plain. -/
namespace Go.Proofs.Ytjpalbonclgflaa
namespace T
theorem walk_n {Q : Rat → Rat → Prop} {a b d : Rat} (hd : 0 < d) (ht : ∀ x y z, a ≤ x → x ≤ y → y ≤ z → z ≤ b → Q x y → Q y z → Q x z) (hl : ∀ x y, a ≤ x → x ≤ y → y ≤ b → y - x ≤ d → Q x y) :
    ∀ (n : Nat) (y : Rat), a ≤ y → y ≤ b → y - a ≤ (n : Rat) * d → Q a y
  | 0 => fun y h1 h2 h3 => hl a y Rat.le_refl h1 h2 (by grind)
  | n + 1 => fun y h1 h2 h3 => by
    rcases @Rat.le_total (y - a) d with h4 | h4
    · exact hl a y Rat.le_refl h1 h2 h4
    · have h5 : ((n + 1 : Nat) : Rat) = (n : Rat) + 1 := by rw [Rat.natCast_add]; rfl
      rw [h5] at h3
      exact ht a (y - d) y Rat.le_refl (by grind) (by grind) h2 (walk_n hd ht hl n (y - d) (by grind) (by grind) (by grind)) (hl (y - d) y (by grind) (by grind) h2 (by grind))
theorem arch {x d : Rat} (hd : 0 < d) : ∃ n : Nat, x ≤ (n : Rat) * d := by
  refine ⟨(x / d).ceil.toNat, ?_⟩
  have h1 : x / d ≤ ((x / d).ceil.toNat : Rat) := by
    refine Rat.le_trans Rat.le_ceil ?_
    have : (x / d).ceil ≤ ((x / d).ceil.toNat : Int) := Int.self_le_toNat _
    have h2 := Rat.intCast_le_intCast.2 this
    rwa [Rat.intCast_natCast] at h2
  have h2 := Rat.mul_le_mul_of_nonneg_right h1 (Rat.le_of_lt hd)
  rwa [Rat.div_mul_cancel (by grind)] at h2
theorem walk {Q : Rat → Rat → Prop} {a b d : Rat} (hd : 0 < d) (hab : a ≤ b) (ht : ∀ x y z, a ≤ x → x ≤ y → y ≤ z → z ≤ b → Q x y → Q y z → Q x z) (hl : ∀ x y, a ≤ x → x ≤ y → y ≤ b → y - x ≤ d → Q x y) : Q a b := by
  obtain ⟨n, hn⟩ := arch (x := b - a) hd
  exact walk_n hd ht hl n b hab Rat.le_refl hn
theorem in_of {a b x : Rat} (h1 : a ≤ x) (h2 : x ≤ b) : In (ab a + ab b) x := by
  have := ab_nonneg a; have := ab_nonneg b; have := le_ab b; have := neg_le_ab a
  exact ⟨by grind, by grind⟩
def Additive (N : Rat → Rat → Int) : Prop := ∀ x y z, N x z = N x y + N y z
theorem add_V (l : List (Rat → Rat)) : Additive (fun x y => (V l x : Int) - (V l y : Int)) := fun x y z => by show (_ : Int) - _ = _ - _ + (_ - _); omega
theorem cell_nonneg (f : Rat → Rat) (x y : Rat) : 0 ≤ cell f x y ∧ cell f x y ≤ 1 := by unfold cell; split <;> omega
theorem Loc.mono {N : Rat → Rat → Int} {f : Rat → Rat} (h : Loc N f) (ha : Additive N) {a b : Rat} (hab : a ≤ b) : 0 ≤ N a b := by
  obtain ⟨d, d0, hd⟩ := h (ab a + ab b)
  refine walk (Q := fun x y => 0 ≤ N x y) d0 hab (fun x y z _ _ _ _ h1 h2 => by rw [ha x y z]; omega) (fun x y h1 h2 h3 h4 => ?_)
  rw [hd x y (in_of h1 (Rat.le_trans h2 h3)) (in_of (Rat.le_trans h1 h2) h3) h2 h4]
  exact (cell_nonneg _ _ _).1
theorem Loc.none {N : Rat → Rat → Int} {f : Rat → Rat} (h : Loc N f) (ha : Additive N) (hp : P f) {a b n : Rat} (hab : a ≤ b) (hn : 0 < n) (hf : ∀ x, a ≤ x → x ≤ b → n ≤ ab (f x)) : N a b = 0 := by
  obtain ⟨d, d0, hd⟩ := h (ab a + ab b)
  obtain ⟨k, k0, hk⟩ := hp.keep (ab a + ab b) hn
  obtain ⟨z, z0, z1, z2⟩ := min_pos d0 k0
  refine walk (Q := fun x y => N x y = 0) z0 hab (fun x y z _ _ _ _ h1 h2 => by rw [ha x y z]; omega) (fun x y h1 h2 h3 h4 => ?_)
  have i1 := in_of h1 (Rat.le_trans h2 h3)
  have i2 := in_of (Rat.le_trans h1 h2) h3
  rw [hd x y i1 i2 h2 (by grind), cell_zero (hk x y i1 i2 (by rw [ab_pos (by grind)]; grind) (hf x h1 (Rat.le_trans h2 h3))).2.2]
theorem Loc.one {N : Rat → Rat → Int} {f f1 f' : Rat → Rat} {k : Rat} (h : Loc N f) (ha : Additive N) (hk : 0 < k) (hf : ∀ x, f' x = k * f1 x) (hD : D f f') {R e L L1 d : Rat} (he : 0 < e) (hcop : ∀ x, In R x → e ≤ ab (f x) + ab (f1 x))
    (hL : Lip R f L) (hL1 : Lip R f1 L1) (hd1 : d * (L + 1) ≤ e / 2 / 2) (hd2 : d * (L1 + 1) ≤ e / 2 / 2) {a b : Rat} (hab : a ≤ b) (hA : In R a) (hB : In R b) (hba : b - a ≤ d) : N a b ≤ 1 := by
  have hin : ∀ x, a ≤ x → x ≤ b → In R x := fun x h1 h2 => ⟨Rat.le_trans hA.1 h1, Rat.le_trans h2 hB.2⟩
  have hp := hD.left
  have e2 := half_pos he
  obtain ⟨g, g0, hg⟩ := h R
  rcases @Rat.le_total (e / 2) (ab (f a)) with c | c
  · have : N a b = 0 := h.none ha hp hab (half_pos e2) (fun x h1 h2 => (keep_sign hL hd1 e2 hA (hin x h1 h2) (by rw [ab_pos (by grind)]; grind) c).2.1)
    omega
  · have c1 : e / 2 ≤ ab (f1 a) := by have := hcop a hA; grind
    have key := fun x h1 h2 => keep_sign hL1 hd2 e2 hA (hin x h1 h2) (by rw [ab_pos (by grind)]; grind) c1
    obtain ⟨C, hC⟩ := hD.dv R
    have hC1 : 0 < C + 1 := by have := hC.1; grind
    have e4 := half_pos e2
    have hd3 := div_pos (half_pos (Rat.mul_pos hk e4)) hC1
    obtain ⟨z, z0, z1, z2⟩ := min_pos g0 hd3
    rcases tri (f1 a) 0 with hs | hs | hs
    · have hneg : ∀ x, a ≤ x → x ≤ b → f1 x < 0 := fun x h1 h2 => by
        have := (key x h1 h2).2.2
        rcases tri (f1 x) 0 with t | t | t
        · exact t
        · rw [t] at this; grind
        · have := Rat.mul_pos (show 0 < - f1 a by grind) t; grind
      have hq : N a b = (if 0 < f a then 1 else 0) - (if 0 < f b then 1 else 0) := by
        refine walk (Q := fun x y => N x y = (if 0 < f x then 1 else 0) - (if 0 < f y then 1 else 0)) z0 hab (fun x y z _ _ _ _ h1 h2 => by rw [ha x y z]; omega) (fun x y h1 h2 h3 h4 => ?_)
        rw [hg x y (hin x h1 (Rat.le_trans h2 h3)) (hin y (Rat.le_trans h1 h2) h3) h2 (by grind)]
        by_cases hxy : x = y
        · subst hxy
          exact cell_neg Rat.le_refl
        · rcases rise hC hk hf e4 (div_mul_le hC1 Rat.le_refl) (hin x h1 (Rat.le_trans h2 h3)) (hin y (Rat.le_trans h1 h2) h3) (by grind) (Rat.le_trans h4 z2) (key x h1 (Rat.le_trans h2 h3)).2.1 with ⟨r1, r2⟩ | ⟨r1, r2⟩
          · have := hneg x h1 (Rat.le_trans h2 h3); grind
          · exact cell_neg (Rat.le_of_lt r2)
      rw [hq]; split <;> split <;> omega
    · rw [hs, ab_eq0] at c1; grind
    · have hpos : ∀ x, a ≤ x → x ≤ b → 0 < f1 x := fun x h1 h2 => by
        have := (key x h1 h2).2.2
        rcases tri (f1 x) 0 with t | t | t
        · have := Rat.mul_pos (show 0 < - f1 x by grind) hs; grind
        · rw [t] at this; grind
        · exact t
      have hq : N a b = (if f a < 0 then 1 else 0) - (if f b < 0 then 1 else 0) := by
        refine walk (Q := fun x y => N x y = (if f x < 0 then 1 else 0) - (if f y < 0 then 1 else 0)) z0 hab (fun x y z _ _ _ _ h1 h2 => by rw [ha x y z]; omega) (fun x y h1 h2 h3 h4 => ?_)
        rw [hg x y (hin x h1 (Rat.le_trans h2 h3)) (hin y (Rat.le_trans h1 h2) h3) h2 (by grind)]
        by_cases hxy : x = y
        · subst hxy
          exact cell_pos Rat.le_refl
        · rcases rise hC hk hf e4 (div_mul_le hC1 Rat.le_refl) (hin x h1 (Rat.le_trans h2 h3)) (hin y (Rat.le_trans h1 h2) h3) (by grind) (Rat.le_trans h4 z2) (key x h1 (Rat.le_trans h2 h3)).2.1 with ⟨r1, r2⟩ | ⟨r1, r2⟩
          · exact cell_pos (Rat.le_of_lt r2)
          · have := hpos x h1 (Rat.le_trans h2 h3); grind
      rw [hq]; split <;> split <;> omega
end T
end Go.Proofs.Ytjpalbonclgflaa

/- Degrees of polynomial functions: plain. -/
namespace Go.Proofs.Ytjpalbonclgflaa
namespace T
theorem powAdd (x : Rat) (n : Nat) : ∀ m : Nat, x ^ (n + m) = x ^ n * x ^ m
  | 0 => by grind
  | m + 1 => by have := powAdd x n m; rw [show n + (m + 1) = n + m + 1 from rfl, Rat.pow_succ, Rat.pow_succ, this]; grind
def Lt : Nat → (Rat → Rat) → Prop
  | 0, f => ∀ x, f x = 0
  | n + 1, f => ∃ (c : Rat) (g : Rat → Rat), Lt n g ∧ ∀ x, f x = c * x ^ n + g x
def Dg (n : Nat) (f : Rat → Rat) : Prop := ∃ (c : Rat) (g : Rat → Rat), c ≠ 0 ∧ Lt n g ∧ ∀ x, f x = c * x ^ n + g x
theorem Lt.congr : ∀ {n : Nat} {f g : Rat → Rat}, Lt n f → (∀ x, g x = f x) → Lt n g
  | 0, _, _ => fun h e x => by rw [e]; exact h x
  | _ + 1, _, _ => fun ⟨c, k, h1, h2⟩ e => ⟨c, k, h1, fun x => by rw [e]; exact h2 x⟩
theorem Lt.succ : ∀ {n : Nat} {f : Rat → Rat}, Lt n f → Lt (n + 1) f := fun {n f} h => ⟨0, f, h, fun x => by grind⟩
theorem Lt.mono {n m : Nat} {f : Rat → Rat} (h : Lt n f) (hm : n ≤ m) : Lt m f := by
  induction hm with
  | refl => exact h
  | step _ ih => exact ih.succ
theorem Lt.zero (n : Nat) : Lt n (fun _ => 0) := Lt.mono (n := 0) (fun _ => rfl) (Nat.zero_le n)
theorem Lt.add : ∀ {n : Nat} {f g : Rat → Rat}, Lt n f → Lt n g → Lt n (fun x => f x + g x)
  | 0, _, _ => fun h k x => by show _ + _ = _; rw [h x, k x]; grind
  | _ + 1, _, _ => fun ⟨c, f0, h1, h2⟩ ⟨d, g0, k1, k2⟩ => ⟨c + d, _, h1.add k1, fun x => by show _ + _ = _; rw [h2 x, k2 x]; grind⟩
theorem Lt.smul (a : Rat) : ∀ {n : Nat} {f : Rat → Rat}, Lt n f → Lt n (fun x => a * f x)
  | 0, _ => fun h x => by show _ * _ = _; rw [h x]; grind
  | _ + 1, _ => fun ⟨c, f0, h1, h2⟩ => ⟨a * c, _, h1.smul a, fun x => by show _ * _ = _; rw [h2 x]; grind⟩
theorem Lt.xmul : ∀ {n : Nat} {f : Rat → Rat}, Lt n f → Lt (n + 1) (fun x => x * f x)
  | 0, _ => fun h => ⟨0, _, Lt.zero 0, fun x => by show _ * _ = _; rw [h x]; grind⟩
  | _ + 1, _ => fun ⟨c, f0, h1, h2⟩ => ⟨c, _, h1.xmul, fun x => by show _ * _ = _; rw [h2 x]; grind⟩
theorem Lt.pmul {n : Nat} {f : Rat → Rat} (h : Lt n f) : ∀ k : Nat, Lt (n + k) (fun x => x ^ k * f x)
  | 0 => h.congr fun x => by grind
  | k + 1 => (h.pmul k).xmul.congr fun x => by grind
theorem Lt.mul {m : Nat} {g : Rat → Rat} (hg : Lt m g) : ∀ {n : Nat} {f : Rat → Rat}, Lt n f → Lt (n + m) (fun x => f x * g x)
  | 0, _ => fun h => (Lt.zero _).congr fun x => by rw [h x]; grind
  | n + 1, _ => fun ⟨c, f0, h1, h2⟩ => by
    have a := ((hg.pmul n).smul c).mono (m := n + 1 + m) (by omega)
    have b := (hg.mul h1).mono (m := n + 1 + m) (by omega)
    exact (a.add b).congr fun x => by rw [h2 x]; grind
theorem P.lt {f : Rat → Rat} (h : P f) : ∃ n, Lt n f := by
  induction h with
  | const c => exact ⟨1, c, _, Lt.zero 0, fun x => by grind⟩
  | id => exact ⟨2, 1, _, Lt.zero 1, fun x => by grind⟩
  | add _ _ h1 h2 =>
    obtain ⟨n, h1⟩ := h1; obtain ⟨m, h2⟩ := h2
    exact ⟨n + m, (h1.mono (by omega)).add (h2.mono (by omega))⟩
  | mul _ _ h1 h2 =>
    obtain ⟨n, h1⟩ := h1; obtain ⟨m, h2⟩ := h2
    exact ⟨n + m, h2.mul h1⟩
theorem Lt.dg : ∀ {n : Nat} {f : Rat → Rat}, Lt n f → (∀ x, f x = 0) ∨ ∃ m, m < n ∧ Dg m f
  | 0, _ => fun h => .inl h
  | n + 1, f => fun ⟨c, g, h1, h2⟩ => by
    by_cases hc : c = 0
    · have h3 : Lt n f := h1.congr fun x => by rw [h2 x, hc]; grind
      rcases h3.dg with h | ⟨m, hm, h⟩
      · exact .inl h
      · exact .inr ⟨m, by omega, h⟩
    · exact .inr ⟨n, by omega, c, g, hc, h1, h2⟩
theorem Dg.lt {n : Nat} {f : Rat → Rat} (h : Dg n f) : Lt (n + 1) f := by obtain ⟨c, g, _, h1, h2⟩ := h; exact ⟨c, g, h1, h2⟩
theorem pow_ge {x : Rat} (h : 1 ≤ x) : ∀ n : Nat, 0 < x ^ n
  | 0 => by grind
  | n + 1 => by have h1 := pow_ge h n; have := Rat.mul_pos h1 (show 0 < x by grind); grind
theorem Lt.small : ∀ {n : Nat} {g : Rat → Rat}, Lt n g → ∀ c, 0 < c → ∃ X, 1 ≤ X ∧ ∀ x, X ≤ x → ab (g x) < c * x ^ n
  | 0, _ => fun h c hc => ⟨1, Rat.le_refl, fun x _ => by rw [h x, ab_eq0]; grind⟩
  | n + 1, _ => fun ⟨d, g0, h1, h2⟩ c hc => by
    obtain ⟨X, hX, hs⟩ := h1.small 1 (by grind)
    have h0 := ab_nonneg d
    have hq : 0 ≤ (ab d + 1) / c := Rat.le_of_lt (div_pos (by grind) hc)
    refine ⟨X + (ab d + 1) / c, by grind, fun x hx => ?_⟩
    have hx1 : 1 ≤ x := by grind
    have hp := pow_ge hx1 n
    have a1 := hs x (by grind)
    have a2 : (ab d + 1) / c * c ≤ x * c := Rat.mul_le_mul_of_nonneg_right (by grind) (Rat.le_of_lt hc)
    rw [Rat.div_mul_cancel (by grind)] at a2
    have a3 : (ab d + 1) * x ^ n ≤ x * c * x ^ n := Rat.mul_le_mul_of_nonneg_right a2 (Rat.le_of_lt hp)
    have a4 := ab_add (d * x ^ n) (g0 x)
    rw [ab_mul, ab_pos (Rat.le_of_lt hp)] at a4
    have a5 : x * c * x ^ n = c * x ^ (n + 1) := by grind
    rw [a5] at a3
    have a6 : (ab d + 1) * x ^ n = ab d * x ^ n + x ^ n := by grind
    rw [a6] at a3
    rw [h2 x]
    exact Std.lt_of_le_of_lt a4 (by grind)
theorem Dg.ne {n : Nat} {f : Rat → Rat} (h : Dg n f) (k : Lt n f) : False := by
  obtain ⟨c, g, hc, h1, h2⟩ := h
  have hc0 : 0 < ab c := by rcases tri (ab c) 0 with a | a | a
                            · have := ab_nonneg c; grind
                            · exact absurd (ab_zero a) hc
                            · exact a
  obtain ⟨X, hX, hs⟩ := h1.small _ (half_pos hc0)
  obtain ⟨Y, hY, ht⟩ := k.small _ (half_pos hc0)
  have a1 := hs (X + Y) (by grind)
  have a2 := ht (X + Y) (by grind)
  have a3 := ab_sub (f (X + Y)) (g (X + Y))
  have a4 : f (X + Y) - g (X + Y) = c * (X + Y) ^ n := by rw [h2]; grind
  rw [a4, ab_mul, ab_pos (Rat.le_of_lt (pow_ge (show 1 ≤ X + Y by grind) n))] at a3
  grind
theorem Dg.uniq {n m : Nat} {f : Rat → Rat} (h : Dg n f) (k : Dg m f) : n = m := by
  rcases Nat.lt_trichotomy n m with a | a | a
  · exact (k.ne (h.lt.mono a)).elim
  · exact a
  · exact (h.ne (k.lt.mono a)).elim
theorem Dg.nz {n : Nat} {f : Rat → Rat} (h : Dg n f) (k : ∀ x, f x = 0) : False := h.ne ((Lt.zero n).congr k)
theorem mul_ne {a b : Rat} (ha : a ≠ 0) (hb : b ≠ 0) : a * b ≠ 0 := by
  intro h
  rcases Rat.mul_eq_zero.1 h with h | h
  · exact ha h
  · exact hb h
theorem Dg.mul {n m : Nat} {f g : Rat → Rat} (h : Dg n f) (k : Dg m g) : Dg (n + m) (fun x => f x * g x) := by
  obtain ⟨c, f0, hc, h1, h2⟩ := h
  obtain ⟨d, g0, hd, k1, k2⟩ := k
  have e1 := ((k1.pmul n).smul c).mono (m := n + m) (by omega)
  have e2 := ((h1.pmul m).smul d).mono (m := n + m) (by omega)
  have e3 := k1.mul h1
  refine ⟨c * d, _, mul_ne hc hd, (e1.add e2).add e3, fun x => ?_⟩
  show f x * g x = _
  rw [h2 x, k2 x, powAdd]
  grind
theorem P.dg {f : Rat → Rat} (h : P f) : (∀ x, f x = 0) ∨ ∃ n, Dg n f := by
  obtain ⟨n, h⟩ := h.lt
  rcases h.dg with h | ⟨m, _, h⟩
  · exact .inl h
  · exact .inr ⟨m, h⟩
theorem Lt.p : ∀ {n : Nat} {f : Rat → Rat}, Lt n f → P f
  | 0, f => fun h => by have e : f = fun _ => 0 := funext h; rw [e]; exact .const 0
  | n + 1, f => fun ⟨c, g, h1, h2⟩ => by
    have e : f = fun x => c * x ^ n + g x := funext h2
    rw [e]
    exact ((P.const c).mul (P.id.pow n)).add h1.p
def Nz (f : Rat → Rat) : Prop := ∃ x, f x ≠ 0
theorem Nz.dg {f : Rat → Rat} (h : Nz f) (hp : P f) : ∃ n, Dg n f := by
  rcases hp.dg with k | k
  · obtain ⟨x, hx⟩ := h; exact absurd (k x) hx
  · exact k
theorem Dg.nez {n : Nat} {f : Rat → Rat} (h : Dg n f) : Nz f := by
  by_cases hz : ∀ x, f x = 0
  · exact (h.nz hz).elim
  · exact Classical.not_forall.1 hz
theorem Nz.mul {f g : Rat → Rat} (h : Nz f) (hp : P f) (k : Nz g) (kp : P g) : Nz (fun x => f x * g x) := by
  obtain ⟨n, h⟩ := h.dg hp
  obtain ⟨m, k⟩ := k.dg kp
  exact (h.mul k).nez
theorem cancel {f g k : Rat → Rat} (hf : P f) (hg : P g) (hk : P k) (hn : Nz f) (h : ∀ x, f x * g x = f x * k x) : ∀ x, g x = k x := by
  intro x
  by_cases hz : ∀ x, g x - k x = 0
  · have := hz x; grind
  · obtain ⟨y, hy⟩ := hn.mul hf (Classical.not_forall.1 hz) (hg.sub hk)
    have := h y
    exact absurd (show f y * (g y - k y) = 0 by grind) hy
theorem D.uniq {f g h : Rat → Rat} (h1 : D f g) (h2 : D f h) : ∀ x, g x = h x := by
  intro x
  obtain ⟨C, c0, hC⟩ := h1.dv (ab x + 1)
  obtain ⟨K, k0, hK⟩ := h2.dv (ab x + 1)
  rcases tri (ab (g x - h x)) 0 with a | a | a
  · have := ab_nonneg (g x - h x); grind
  · have := ab_zero a; grind
  · exfalso
    have hp : 0 < ab (g x - h x) / (C + K + 1) := div_pos a (by grind)
    obtain ⟨t, t0, t1, t2⟩ := min_pos (half_pos hp) (show (0 : Rat) < 1 by grind)
    have ix : In (ab x + 1) x := ⟨by have := neg_le_ab x; grind, by have := le_ab x; grind⟩
    have iy : In (ab x + 1) (x + t) := ⟨by have := neg_le_ab x; grind, by have := le_ab x; grind⟩
    have a1 := hC x (x + t) ix iy
    have a2 := hK x (x + t) ix iy
    have e : x + t - x = t := by grind
    rw [e, ab_pos (Rat.le_of_lt t0)] at a1 a2
    have a3 := ab_sub (f (x + t) - f x - t * h x) (f (x + t) - f x - t * g x)
    have e2 : f (x + t) - f x - t * h x - (f (x + t) - f x - t * g x) = t * (g x - h x) := by grind
    rw [e2, ab_mul, ab_pos (Rat.le_of_lt t0)] at a3
    have a4 : t * ab (g x - h x) ≤ t * ((C + K) * t) := by grind
    have a5 := Rat.le_of_mul_le_mul_left a4 t0
    have a6 : t * (C + K + 1) ≤ ab (g x - h x) / 2 := by
      have h9 := div_mul_le (x := ab (g x - h x)) (y := t * 2) (z := C + K + 1) (by grind) (by grind)
      grind
    grind
theorem D.congr {f f' g g' : Rat → Rat} (h : D f f') (e : ∀ x, g x = f x) (e' : ∀ x, g' x = f' x) : D g g' := by
  rw [show g = f from funext e, show g' = f' from funext e']; exact h
theorem D.pow : ∀ n : Nat, D (fun x => x ^ (n + 1)) (fun x => ((n + 1 : Nat) : Rat) * x ^ n)
  | 0 => D.id.congr (fun x => by grind) (fun x => by show ((1 : Nat) : Rat) * x ^ 0 = 1; have : ((1 : Nat) : Rat) = 1 := rfl; rw [this]; grind)
  | n + 1 => ((D.pow n).mul D.id).congr (fun x => by grind) (fun x => by
      have : ((n + 1 + 1 : Nat) : Rat) = ((n + 1 : Nat) : Rat) + 1 := by rw [Rat.natCast_add]; rfl
      show ((n + 1 + 1 : Nat) : Rat) * x ^ (n + 1) = ((n + 1 : Nat) : Rat) * x ^ n * x + x ^ (n + 1) * 1
      rw [this]; grind)
theorem Lt.der : ∀ {n : Nat} {f : Rat → Rat}, Lt (n + 1) f → ∃ f', D f f' ∧ Lt n f'
  | 0, _ => fun ⟨c, g, h1, h2⟩ => ⟨fun _ => 0, (D.const c).congr (fun x => by rw [h2 x, h1 x]; grind) (fun _ => rfl), fun _ => rfl⟩
  | n + 1, _ => fun ⟨c, g, h1, h2⟩ => by
    obtain ⟨g', k1, k2⟩ := h1.der
    refine ⟨fun x => c * (((n + 1 : Nat) : Rat) * x ^ n) + g' x, ?_, c * ((n + 1 : Nat) : Rat), g', k2, fun x => by grind⟩
    exact (((D.const c).mul (D.pow n)).add k1).congr h2 (fun x => by grind)
theorem Dg.der {n : Nat} {f f' : Rat → Rat} (h : Dg (n + 1) f) (hD : D f f') : Dg n f' := by
  obtain ⟨c, g, hc, h1, h2⟩ := h
  obtain ⟨g', k1, k2⟩ := h1.der
  have hD2 : D f (fun x => c * (((n + 1 : Nat) : Rat) * x ^ n) + g' x) := (((D.const c).mul (D.pow n)).add k1).congr h2 (fun x => by grind)
  refine ⟨c * ((n + 1 : Nat) : Rat), g', mul_ne hc ?_, k2, fun x => by rw [hD.uniq hD2 x]; grind⟩
  intro h0
  have h1 := Rat.natCast_inj.1 (h0.trans (show (0 : Rat) = ((0 : Nat) : Rat) from rfl))
  omega
theorem dg_zero {f : Rat → Rat} (h : Dg 0 f) : ∃ c : Rat, c ≠ 0 ∧ ∀ x, f x = c := by
  obtain ⟨c, g, hc, h1, h2⟩ := h
  exact ⟨c, hc, fun x => by rw [h2 x, h1 x]; grind⟩
theorem divmod {n : Nat} {b : Rat → Rat} (hb : Dg n b) : ∀ {m : Nat} {a : Rat → Rat}, Lt m a → ∃ q r, P q ∧ Lt n r ∧ ∀ x, a x = q x * b x + r x
  | 0, a => fun h => ⟨fun _ => 0, fun _ => 0, .const 0, Lt.zero n, fun x => by rw [h x]; grind⟩
  | m + 1, a => fun h => by
    rcases Nat.lt_or_ge m n with hm | hm
    · exact ⟨fun _ => 0, a, .const 0, h.mono hm, fun x => by grind⟩
    · obtain ⟨c, g, h1, h2⟩ := h
      obtain ⟨d, b0, hd, k1, k2⟩ := id hb
      have h3 : Lt m (fun x => g x + (-(c / d)) * (x ^ (m - n) * b0 x)) := h1.add (((k1.pmul (m - n)).smul (-(c / d))).mono (by omega))
      obtain ⟨q, r, q1, q2, q3⟩ := divmod hb h3
      refine ⟨fun x => c / d * x ^ (m - n) + q x, r, (((P.const _).mul (P.id.pow _)).add q1), q2, fun x => ?_⟩
      have h4 := q3 x
      have h5 : x ^ m = x ^ (m - n) * x ^ n := by rw [← powAdd]; congr 1; omega
      have h6 : c / d * d = c := Rat.div_mul_cancel hd
      have h7 := k2 x
      rw [h2 x, h5]
      grind
end T
end Go.Proofs.Ytjpalbonclgflaa

