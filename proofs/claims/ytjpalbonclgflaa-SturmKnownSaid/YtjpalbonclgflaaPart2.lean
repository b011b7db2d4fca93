/- Contracts and plain laws of several functions, one after the other: StuJ, StuK, StuL. -/
import Derived.Test.YtjpalbonclgflaaPart5
import Derived.Test.YtjpalbonclgflaaRfn
import Derived.Test.YtjpalbonclgflaaStB
import Derived.Test.YtjpalbonclgflaaIsl
/- The program's Sturm chain is one: plain. -/
namespace Go.Proofs.Ytjpalbonclgflaa
namespace T
theorem sg_cmp (z : Int) : cmpZ z 0 = sg (z : Rat) := by
  unfold cmpZ sg
  have h1 : ((z : Rat) < 0) ↔ z < 0 := by rw [show (0 : Rat) = ((0 : Int) : Rat) from rfl]; exact Rat.intCast_lt_intCast
  have h2 : ((z : Rat) = 0) ↔ z = 0 := by rw [show (0 : Rat) = ((0 : Int) : Rat) from rfl]; exact Rat.intCast_inj
  simp only [h1, h2]
theorem den_pos (r : Rat) : (0 : Rat) < (r.den : Rat) := by
  rw [show (0 : Rat) = ((0 : Nat) : Rat) from rfl]
  exact Rat.natCast_lt_natCast.2 r.den_pos
theorem num_den (r : Rat) : (r.num : Rat) = r * (r.den : Rat) := by
  have h := Rat.num_divInt_den r
  rw [Rat.divInt_eq_div, Rat.intCast_natCast] at h
  have h2 : (r.num : Rat) / (r.den : Rat) * (r.den : Rat) = r.num := Rat.div_mul_cancel (by have := den_pos r; grind)
  rw [h] at h2
  exact h2.symm
theorem atV_ev (r : Rat) : ∀ l : List Int, ((atV l r.num (r.den : Int)).1 : Rat) * (r.den : Rat) = (r.den : Rat) ^ l.length * evQ l r ∧ ((atV l r.num (r.den : Int)).2 : Rat) = (r.den : Rat) ^ l.length
  | [] => ⟨by show ((0 : Int) : Rat) * _ = _ * 0; have : ((0 : Int) : Rat) = 0 := rfl; rw [this]; grind, by show ((1 : Int) : Rat) = _ ^ 0; have : ((1 : Int) : Rat) = 1 := rfl; rw [this]; grind⟩
  | c :: l => by
    have ih := atV_ev r l
    have hn := num_den r
    rw [atV_cons, List.length_cons, evQ_cons, Rat.pow_succ]
    show (((atV l r.num (r.den : Int)).1 * r.num + c * (atV l r.num (r.den : Int)).2 : Int) : Rat) * _ = _ ∧ (((atV l r.num (r.den : Int)).2 * (r.den : Int) : Int) : Rat) = _
    rw [Rat.intCast_add, Rat.intCast_mul, Rat.intCast_mul, Rat.intCast_mul, Rat.intCast_natCast, hn, ih.2]
    exact ⟨by have := ih.1; grind, rfl⟩
theorem atV_sg (l : List Int) (r : Rat) : cmpZ (atV l r.num (r.den : Int)).1 0 = sg (evQ l r) := by
  have h := (atV_ev r l).1
  have hd := den_pos r
  have hp : ∀ n : Nat, 0 < (r.den : Rat) ^ n := fun n => by
    induction n with
    | zero => grind
    | succ n ih => rw [Rat.pow_succ]; exact Rat.mul_pos ih hd
  rw [sg_cmp, ← sg_mul_pos hd, ← sg_mul_pos (hp l.length) (x := evQ l r), ← h, Rat.mul_comm]
theorem chg_V (rows : List (List Int)) (r : Rat) : chg rows r = V (rows.map evQ) r := by
  have key : ∀ (rows : List (List Int)) (n : Nat) (a : Int), (rows.foldl (chgS r.num (r.den : Int)) (n, a)).1 = n + varS a (sgs r (rows.map evQ)) := by
    intro rows
    induction rows with
    | nil => intro n a; rfl
    | cons p rows ih =>
      intro n a
      rw [List.foldl_cons, List.map_cons]
      show ((rows.foldl (chgS r.num (r.den : Int)) (chgS r.num (r.den : Int) (n, a) p)).1) = n + varS a (sg (evQ p r) :: sgs r (rows.map evQ))
      have e : chgS r.num (r.den : Int) (n, a) p = (if sg (evQ p r) ≠ 0 ∧ a ≠ 0 ∧ sg (evQ p r) ≠ a then n + 1 else n, if sg (evQ p r) ≠ 0 then sg (evQ p r) else a) := by
        unfold chgS
        simp only [atV_sg]
      rw [e, ih, varS]
      by_cases h1 : sg (evQ p r) = 0
      · rw [if_neg (by simp [h1]), if_neg (by simp [h1]), if_pos h1]
      · rw [if_pos h1, if_neg h1]
        by_cases h2 : a ≠ 0 ∧ sg (evQ p r) ≠ a
        · rw [if_pos ⟨h1, h2⟩, if_pos h2]; omega
        · rw [if_neg (fun h => h2 h.2), if_neg h2]; omega
  have h := key rows 0 0
  unfold chg V
  rw [h, Nat.zero_add]
theorem ab_pow {x m : Rat} (h : ab x ≤ m) : ∀ n : Nat, ab (x ^ n) ≤ m ^ n
  | 0 => by
    have e1 : x ^ 0 = 1 := by grind
    have e2 : m ^ 0 = 1 := by grind
    rw [e1, e2, ab_one]; exact Rat.le_refl
  | n + 1 => by rw [Rat.pow_succ, Rat.pow_succ]; exact ab_mul_le (ab_pow h n) h
theorem W_pow (m n : Nat) : W m ^ n = W (m * n) := by
  unfold W; exact powMul _ _ _
def zst (M L r : Nat) : Nat := M + L * (M + 1) + L * (r + 1) + 1
theorem ab_castD {l : List Int} {M : Nat} (h : ∀ x ∈ l, zs M x) : ab ((l.getLast?.getD 0 : Int) : Rat) ≤ W M := by
  rw [getLast_getD]
  exact ab_zs (getD_zs h _)
theorem un_length {p : List Int} (hu : Un (evQ p)) (he : Ends p) (h0 : 0 < p.length) : p.length = 1 := by
  obtain ⟨w, w1, w2⟩ := hu
  have h1 := Ends.dg he h0
  have hn : Nz w := ⟨0, fun h => by have := w2 0; rw [h] at this; grind⟩
  obtain ⟨m, hm⟩ := hn.dg w1
  have h3 := h1.mul hm
  rw [show (fun x => evQ p x * w x) = fun _ => 1 from funext w2] at h3
  have h4 : Dg 0 (fun _ => (1 : Rat)) := ⟨1, fun _ => 0, by grind, fun _ => rfl, fun x => by grind⟩
  have := h3.uniq h4
  omega
theorem ab_ge_one {y : Int} (h : y ≠ 0) : 1 ≤ ab (y : Rat) := by
  rcases Int.lt_or_lt_of_ne h with h | h
  · have h1 : ((y : Int) : Rat) ≤ ((-1 : Int) : Rat) := Rat.intCast_le_intCast.2 (by omega)
    have h2 := neg_le_ab (y : Rat)
    have h3 : ((-1 : Int) : Rat) = -1 := rfl
    rw [h3] at h1; grind
  · have h1 : ((1 : Int) : Rat) ≤ ((y : Int) : Rat) := Rat.intCast_le_intCast.2 (by omega)
    have h2 := le_ab (y : Rat)
    have h3 : ((1 : Int) : Rat) = 1 := rfl
    rw [h3] at h1; grind
theorem chn_rel {p q : List Int} (h1 : q.length < p.length) (hq : Ends q) (h0 : 0 < q.length) (hp : Ends p) :
    ∃ a b : Rat, 0 < a ∧ (∃ c : Rat, 0 < c ∧ a = c ∧ True) ∧ (0 < b ∧ ((red (pdv p q).2 (sgS p q)).length ≠ 0 → 1 ≤ b)) ∧ ab a = ab (((q.getLast?.getD 0 : Int) : Rat) ^ (p.length - q.length + 1)) ∧ ∃ s : Rat, ab s = 1 ∧ ∀ x, a * evQ p x = s * evQ (pdv p q).1 x * evQ q x - b * evQ (red (pdv p q).2 (sgS p q)) x := by
  have hev := pdv_ev (a := p) (b := q) (by omega) h0
  have hl := lastD hq h0
  obtain ⟨e, he⟩ : ∃ e, e = p.length - q.length + 1 := ⟨_, rfl⟩
  obtain ⟨c, hc⟩ : ∃ c, c = q.getLast?.getD 0 := ⟨_, rfl⟩
  rw [← hc] at hl
  simp only [← hc, ← he] at hev
  rw [← he, ← hc]
  have hg : 0 < (pdv p q).2.length → 0 < gcdL (pdv p q).2 := fun h => (pdv_ends (a := p) q hp).gcd h
  have hr := evQ_red (pdv p q).2 (sgS p q)
  have hcc := castNe hl
  have hs : sgS p q = if c < 0 ∧ e % 2 = 1 then 1 else -1 := by unfold sgS; rw [← hc, ← he]
  -- the sign of the power
  have hpow : ∀ n : Nat, (¬ (c < 0 ∧ n % 2 = 1) → 0 < (c : Rat) ^ n) ∧ ((c < 0 ∧ n % 2 = 1) → (c : Rat) ^ n < 0) := fun n => by
    rcases Int.lt_or_lt_of_ne hl with h | h
    · have hcn : (c : Rat) < 0 := by rw [show (0 : Rat) = ((0 : Int) : Rat) from rfl]; exact Rat.intCast_lt_intCast.2 h
      induction n with
      | zero => exact ⟨fun _ => by grind, fun hh => by omega⟩
      | succ n ih =>
        rw [Rat.pow_succ]
        refine ⟨fun hh => ?_, fun hh => ?_⟩
        · have := ih.2 ⟨h, by omega⟩
          have := Rat.mul_pos (show 0 < - (c : Rat) ^ n by grind) (show 0 < - (c : Rat) by grind); grind
        · have := ih.1 (by omega)
          have := Rat.mul_pos this (show 0 < - (c : Rat) by grind); grind
    · have hcp : (0 : Rat) < (c : Rat) := by rw [show (0 : Rat) = ((0 : Int) : Rat) from rfl]; exact Rat.intCast_lt_intCast.2 h
      have h3 : ∀ n : Nat, 0 < (c : Rat) ^ n := fun n => by
        induction n with
        | zero => grind
        | succ n ih => rw [Rat.pow_succ]; exact Rat.mul_pos ih hcp
      exact ⟨fun _ => h3 n, fun hh => by omega⟩
  have hp := hpow e
  obtain ⟨C, hC⟩ : ∃ C, C = (c : Rat) ^ e := ⟨_, rfl⟩
  rw [← hC] at hp ⊢
  simp only [← hC] at hev
  -- the rest's divisor
  obtain ⟨g, g0, g1, hgr⟩ : ∃ g : Rat, 0 < g ∧ ((red (pdv p q).2 (sgS p q)).length ≠ 0 → 1 ≤ g) ∧ ∀ x, evQ (pdv p q).2 x = (if sgS p q < 0 then -g else g) * evQ (red (pdv p q).2 (sgS p q)) x := by
    rcases Nat.eq_zero_or_pos (pdv p q).2.length with h | h
    · have e0 := List.length_eq_zero_iff.1 h
      rw [e0]
      have e1 : red [] (sgS p q) = [] := rfl
      rw [e1]
      exact ⟨1, by grind, fun h => absurd rfl h, fun x => by show (0 : Rat) = _ * 0; grind⟩
    · have hg0 := hg h
      have h2 : ((1 : Nat) : Rat) ≤ (gcdL (pdv p q).2 : Rat) := Rat.natCast_le_natCast.2 hg0
      have h3 : ((1 : Nat) : Rat) = 1 := rfl
      rw [h3] at h2
      exact ⟨(gcdL (pdv p q).2 : Rat), by grind, fun _ => h2, hr⟩
  by_cases hcase : c < 0 ∧ e % 2 = 1
  · rw [if_pos hcase] at hs
    rw [if_neg (by rw [hs]; decide)] at hgr
    have hneg := hp.2 hcase
    refine ⟨-C, g, by grind, ⟨-C, by grind, rfl, trivial⟩, ⟨g0, g1⟩, ab_neg _, -1, by rw [ab_neg, ab_one], fun x => ?_⟩
    have a1 := hev x; rw [hgr x] at a1; grind
  · rw [if_neg hcase] at hs
    rw [if_pos (by rw [hs]; decide)] at hgr
    have hpos := hp.1 hcase
    refine ⟨C, g, hpos, ⟨C, hpos, rfl, trivial⟩, ⟨g0, g1⟩, rfl, 1, ab_one, fun x => ?_⟩
    have a1 := hev x; rw [hgr x] at a1; grind
theorem chn_ch {M L r : Nat} : ∀ (n : Nat) (p q : List Int), q.length < p.length → q.length ≤ n → p.length ≤ L → Ends p → Ends q → (∀ x ∈ p, zs M x) → (∀ l ∈ chn n p q, ∀ x ∈ l, zs M x) →
    ∃ g, P g ∧ Dd g (evQ p) ∧ Dd g (evQ q) ∧ (Un g → Ch (evQ p) ((chn n p q).map evQ) ∧ Ex (W r) (q.length * zst M L r) (evQ p) (evQ q)) := by
  intro n
  induction n with
  | zero =>
    intro p q h1 h2 h3 hp hq hz hc
    have e := List.length_eq_zero_iff.1 (Nat.le_zero.1 h2)
    subst e
    refine ⟨evQ p, evQ_p p, Dd.refl _, dvd_zero fun _ => rfl, fun hu => ⟨.one (evQ_p p) hu.pos, fun x hx => ?_⟩⟩
    have hl := un_length hu hp (by omega)
    obtain ⟨y, rfl⟩ := List.length_eq_one_iff.1 hl
    have hy := hp [] y rfl
    have e2 : evQ [y] x = (y : Rat) := by show (0 : Rat) * x + (y : Rat) = _; grind
    have := ab_ge_one hy
    rw [e2, evQ_nil, ab_eq0, List.length_nil, Nat.zero_mul, W_zero]; grind
  | succ n ih =>
    intro p q h1 h2 h3 hp hq hz hc
    by_cases h0 : q.length = 0
    · rw [chn_nil h0]
      have e := List.length_eq_zero_iff.1 h0
      subst e
      refine ⟨evQ p, evQ_p p, Dd.refl _, dvd_zero fun _ => rfl, fun hu => ⟨.one (evQ_p p) hu.pos, fun x hx => ?_⟩⟩
      have hl := un_length hu hp (by omega)
      obtain ⟨y, rfl⟩ := List.length_eq_one_iff.1 hl
      have hy := hp [] y rfl
      have e2 : evQ [y] x = (y : Rat) := by show (0 : Rat) * x + (y : Rat) = _; grind
      have := ab_ge_one hy
      rw [e2, evQ_nil, ab_eq0, List.length_nil, Nat.zero_mul, W_zero]; grind
    · rw [chn_step h0] at hc ⊢
      have hq0 : 0 < q.length := by omega
      obtain ⟨a, b, ha, -, ⟨hb, hb1⟩, haa, s, hs, hrel⟩ := chn_rel h1 hq hq0 hp
      have hless := chn_less (p := p) (q := q) (sgS p q) h0
      have hzq : ∀ x ∈ q, zs M x := hc q (by simp)
      obtain ⟨r', hr'⟩ : ∃ r', r' = red (pdv p q).2 (sgS p q) := ⟨_, rfl⟩
      have hre : Ends r' := by rw [hr']; exact red_ends _ _
      rw [← hr'] at hb1 hrel hless
      rw [← hr'] at hc
      obtain ⟨g, g1, g2, g3, g4⟩ := ih q r' hless (by omega) (by omega) hq hre hzq (fun l hl => hc l (by simp [hl]))
      have hP : P (fun x => s * evQ (pdv p q).1 x) := (P.const s).mul (evQ_p _)
      refine ⟨g, g1, ?_, g2, fun hu => ?_⟩
      · refine Dd.unscale (c := a) (by grind) ?_
        exact ((g2.mul hP).add (g3.scale (-b))).congr fun x => by rw [hrel x]; grind
      · obtain ⟨c1, c2⟩ := g4 hu
        constructor
        · rw [← hr', List.map_cons]
          by_cases h5 : r'.length = 0
          · rw [chn_nil h5] at c1 ⊢
            exact .two (evQ_p p) c1
          · obtain ⟨m, rfl⟩ : ∃ m, n = m + 1 := ⟨n - 1, by omega⟩
            rw [chn_step h5, List.map_cons] at c1 ⊢
            exact .more (evQ_p p) ⟨_, a, b, hP, ha, hb, hrel⟩ c1
        · have hE : Ex (W r) (r'.length * zst M L r + zst M L r) (evQ p) (evQ q) := by
            have hzp := pdv_zs (a := p) (b := q) hz hzq
            have hQ : ∀ x, In (W r) x → ab (s * evQ (pdv p q).1 x) ≤ W (M + L * (M + 1) + L * (r + 1)) := fun x hx => by
              rw [ab_mul, hs, show (1 : Rat) * ab (evQ (pdv p q).1 x) = ab (evQ (pdv p q).1 x) by grind]
              have e1 := pdv_len1 p q
              have e2 := evQ_bd (l := (pdv p q).1) (m := M + (p.length - q.length + 1) * (M + 1)) (r := r) (n := L) hzp.1 hx.ab (by omega)
              refine Rat.le_trans e2 (W_mono ?_)
              have := Nat.mul_le_mul_right (M + 1) (show p.length - q.length + 1 ≤ L by omega)
              omega
            have hA : ab a ≤ W (M + L * (M + 1) + L * (r + 1)) := by
              rw [haa]
              have e3 := ab_pow (ab_castD hzq) (p.length - q.length + 1)
              rw [W_pow] at e3
              refine Rat.le_trans e3 (W_mono ?_)
              have h6 := Nat.mul_le_mul_left M (show p.length - q.length + 1 ≤ L by omega)
              have h7 : L * (M + 1) = M * L + L := by rw [Nat.mul_add, Nat.mul_comm, Nat.mul_one]
              omega
            have hzz : W (M + L * (M + 1) + L * (r + 1)) + 1 + W (M + L * (M + 1) + L * (r + 1)) ≤ W (zst M L r) := by
              show _ ≤ W (M + L * (M + 1) + L * (r + 1) + 1)
              rw [W_succ]
              have := W_ge (M + L * (M + 1) + L * (r + 1))
              grind
            by_cases h5 : r'.length = 0
            · -- the last step: q is not near zero
              have e5 := List.length_eq_zero_iff.1 h5
              have hE0 : Ex (W r) (r'.length * zst M L r) (evQ q) (evQ r') := c2
              refine hE0.step (a := a) (b := 1) hQ hA Rat.le_refl (fun x => ?_) hzz
              rw [hrel x, e5, evQ_nil]; grind
            · exact c2.step hQ hA (hb1 h5) hrel hzz
          refine hE.mono ?_
          have := Nat.mul_le_mul_right (zst M L r) (show r'.length + 1 ≤ q.length by omega)
          rw [Nat.add_mul] at this; omega
theorem sturm_loc {f : List Int} {M L : Nat} (he : Ends f) (h0 : 0 < f.length) (hL : f.length ≤ L) (hsf : Sf (evQ f)) (hz : ∀ l ∈ stm f, ∀ x ∈ l, zs M x) :
    Loc (fun x y => (V ((stm f).map evQ) x : Int) - (V ((stm f).map evQ) y : Int)) (evQ f) ∧
    ∀ r D a b, L * zst M L r + (M + L * (r + 1)) + 2 ≤ D → a ≤ b → In (W r) a → In (W r) b → (b - a) * W D ≤ 1 → (V ((stm f).map evQ) a : Int) - (V ((stm f).map evQ) b : Int) ≤ 1 := by
  have hzf : ∀ x ∈ f, zs M x := hz f (by unfold stm; simp)
  by_cases h2 : f.length < 2
  · have hs : stm f = [f] := by unfold stm; rw [if_pos h2]
    have hu : Un (evQ f) := by
      have := Ends.dg he h0
      rw [show f.length - 1 = 0 by omega] at this
      exact Un.of_dg this
    have hl := loc_one (evQ_p f) hu.pos
    rw [hs]
    refine ⟨hl, fun r D a b _ hab hA hB _ => ?_⟩
    obtain ⟨e, e0, hpos⟩ := hu.pos (W r)
    have h3 : (V [evQ f] a : Int) - (V [evQ f] b : Int) = 0 := hl.none (add_V _) (evQ_p f) hab e0 (fun x h4 h5 => hpos x ⟨Rat.le_trans hA.1 h4, Rat.le_trans h5 hB.2⟩)
    show (V [evQ f] a : Int) - (V [evQ f] b : Int) ≤ 1
    omega
  · obtain ⟨q, hq⟩ : ∃ q, q = red (der f) 1 := ⟨_, rfl⟩
    have hql : q.length < f.length := by rw [hq]; exact Nat.lt_of_le_of_lt (red_len _ _) (by rw [der_length]; omega)
    have hqe : Ends q := by rw [hq]; exact red_ends _ _
    have hdl : 0 < (der f).length := by rw [der_length]; omega
    have hgp := (der_ends he).gcd hdl
    have hder : ∀ x, evQ (der f) x = (gcdL (der f) : Rat) * evQ q x := fun x => by
      have := evQ_red (der f) 1 x
      rw [if_neg (by decide)] at this
      rw [hq]; exact this
    have hk : (0 : Rat) < (gcdL (der f) : Rat) := by
      rw [show (0 : Rat) = ((0 : Nat) : Rat) from rfl]
      exact Rat.natCast_lt_natCast.2 hgp
    have hq0 : q.length ≠ 0 := fun h => by
      have e := List.length_eq_zero_iff.1 h
      exact (Ends.dg (der_ends he) hdl).nz fun x => by rw [hder x, e, evQ_nil]; grind
    obtain ⟨m, hm⟩ : ∃ m, f.length = m + 1 := ⟨f.length - 1, by omega⟩
    have hs : stm f = f :: q :: chn m q (red (pdv f q).2 (sgS f q)) := by
      unfold stm
      rw [if_neg h2, ← hq, hm, chn_step hq0]
    have hch := fun r => chn_ch (M := M) (L := L) (r := r) f.length f q
    have hcc : chn f.length f q = q :: chn m q (red (pdv f q).2 (sgS f q)) := by rw [hm, chn_step hq0]
    simp only [hcc] at hch
    have hzr : ∀ l ∈ q :: chn m q (red (pdv f q).2 (sgS f q)), ∀ x ∈ l, zs M x := fun l hl => hz l (by rw [hs]; exact List.mem_cons_of_mem _ hl)
    obtain ⟨f', d1, hcp⟩ := hsf
    have hf' := d1.uniq (evQ_der f)
    have hcp1 : Cp (evQ f) (evQ q) := by
      refine hcp.dvd ⟨fun _ => (gcdL (der f) : Rat), .const _, fun x => ?_⟩
      rw [hf' x, hder x]; grind
    have key : ∀ r, Ch (evQ f) ((q :: chn m q (red (pdv f q).2 (sgS f q))).map evQ) ∧ Ex (W r) (q.length * zst M L r) (evQ f) (evQ q) := fun r => by
      obtain ⟨g, g1, g2, g3, g4⟩ := hch r hql (by omega) hL he hqe hzf hzr
      exact g4 (Cp.unit (hcp1.dvd g3).symm g2)
    have hl : Loc (fun x y => (V (evQ f :: evQ q :: (chn m q (red (pdv f q).2 (sgS f q))).map evQ) x : Int) - (V (evQ f :: evQ q :: (chn m q (red (pdv f q).2 (sgS f q))).map evQ) y : Int)) (evQ f) :=
      loc_more (key 0).1 (evQ_der f) hk hder hcp1.cop
    rw [hs, List.map_cons, List.map_cons]
    refine ⟨hl, fun r D a b hD hab hA hB hba => ?_⟩
    refine hl.sep (add_V _) hk hder (evQ_der f) (r := r) (e := q.length * zst M L r) (m := M) (n := L) (D := D) (key r).2 hzf (hzr q (by simp)) hL (by omega) ?_ hab hA hB hba
    have := Nat.mul_le_mul_right (zst M L r) (show q.length ≤ L by omega)
    omega
end T
end Go.Proofs.Ytjpalbonclgflaa

/- Sturm's theorem for the program's counts: plain. -/
namespace Go.Proofs.Ytjpalbonclgflaa
namespace T
def Nn (l : List Int) (a b : Rat) : Int := (chg (stmA l) a : Int) - (chg (stmA l) b : Int)
theorem Nn_V (l : List Int) (a b : Rat) : Nn l a b = (V ((stmA l).map evQ) a : Int) - (V ((stmA l).map evQ) b : Int) := by unfold Nn; rw [chg_V, chg_V]
theorem Nn_add (l : List Int) : Additive (Nn l) := fun x y z => by unfold Nn; omega
theorem gcd_le {l : List Int} : (gcdP l (der l)).length ≤ l.length := by
  have hle := gsts_lens (p := (prm l, prm (der l))) (L := l.length) (by show (prm l).length ≤ _; rw [prm_length]; exact Nat.le_refl _) (by show (prm _).length ≤ _; rw [prm_length, der_length]; omega) (prm (der l)).length
  exact hle.1
theorem rad_of {l : List Int} {M : Nat} (hf : AFine l M) : Rad (evQ l) (evQ (sqf l)) := sqf_ev hf.ends hf.pos gcd_le
theorem locs {l : List Int} {M : Nat} (hf : AFine l M) :
    Loc (fun x y => (V ((stm (sqf l)).map evQ) x : Int) - (V ((stm (sqf l)).map evQ) y : Int)) (evQ (sqf l)) ∧
    ∀ r D a b, l.length * zst M l.length r + (M + l.length * (r + 1)) + 2 ≤ D → a ≤ b → In (W r) a → In (W r) b → (b - a) * W D ≤ 1 → (V ((stm (sqf l)).map evQ) a : Int) - (V ((stm (sqf l)).map evQ) b : Int) ≤ 1 := sturm_loc (f := sqf l) (M := M) (L := l.length) (sqf_ends l) hf.sp (sqf_len hf.pos) (rad_of hf).sf hf.c
theorem loc_of {l : List Int} {M : Nat} (hf : AFine l M) : Loc (Nn l) (evQ (sqf l)) := by
  have h := (locs hf).1
  rw [show Nn l = fun x y => (V ((stm (sqf l)).map evQ) x : Int) - (V ((stm (sqf l)).map evQ) y : Int) from funext fun x => funext fun y => Nn_V l x y]
  exact h
theorem nonneg {l : List Int} {M : Nat} (hf : AFine l M) {a b : Rat} (h : a ≤ b) : 0 ≤ Nn l a b := (loc_of hf).mono (Nn_add l) h
theorem sep {l : List Int} {M : Nat} (hf : AFine l M) {r D : Nat} {a b : Rat} (hD : l.length * zst M l.length r + (M + l.length * (r + 1)) + 2 ≤ D) (hab : a ≤ b) (hA : In (W r) a) (hB : In (W r) b) (hba : (b - a) * W D ≤ 1) : Nn l a b ≤ 1 := by
  rw [Nn_V]; exact (locs hf).2 r D a b hD hab hA hB hba
theorem one_lt_bnd (p : List Int) : 2 ≤ bnd p := by
  unfold bnd bndK
  rw [Nat.pow_succ]
  have := Nat.pow_pos (n := Nat.log2 (((p.getLast?.getD 0).natAbs + mostL p.dropLast) / (p.getLast?.getD 0).natAbs)) (show 0 < 2 by decide)
  omega
theorem ab_most {l : List Int} {x : Int} (h : x ∈ l) : ab (x : Rat) ≤ (mostL l : Rat) := by
  have h1 := mostL_le h
  have h2 : (x : Rat) ≤ (((mostL l : Nat) : Int) : Rat) := Rat.intCast_le_intCast.2 (by omega)
  have h3 : ((-x : Int) : Rat) ≤ (((mostL l : Nat) : Int) : Rat) := Rat.intCast_le_intCast.2 (by omega)
  rw [Rat.intCast_natCast] at h2 h3
  rw [Rat.intCast_neg] at h3
  exact ab_le h2 h3
theorem far_low {l : List Int} {m : Rat} (h : ∀ x ∈ l, ab (x : Rat) ≤ m) (x : Rat) (hx : 1 ≤ ab x) : (ab x - 1) * ab (evQ l x) + m ≤ m * ab x ^ l.length := by
  induction l with
  | nil => show (ab x - 1) * ab 0 + m ≤ m * ab x ^ 0; rw [ab_eq0]; grind
  | cons c l ih =>
    have h1 := ih (fun y hy => h y (by simp [hy]))
    have h2 := h c (by simp)
    have h3 := ab_add (evQ l x * x) (c : Rat)
    rw [ab_mul] at h3
    rw [evQ_cons, List.length_cons, Rat.pow_succ]
    have h4 : (ab x - 1) * ab (evQ l x * x + (c : Rat)) ≤ (ab x - 1) * (ab (evQ l x) * ab x + m) := Rat.mul_le_mul_of_nonneg_left (by grind) (by grind)
    have h5 : ((ab x - 1) * ab (evQ l x) + m) * ab x ≤ m * ab x ^ l.length * ab x := Rat.mul_le_mul_of_nonneg_right h1 (ab_nonneg x)
    grind
theorem far {p : List Int} (he : Ends p) (h0 : 0 < p.length) (R : Rat) : ∃ n, 0 < n ∧ ∀ x, (bnd p : Rat) ≤ ab x → ab x ≤ R → n ≤ ab (evQ p x) := by
  have hlt := mt (bnd_le he h0 (bndK p)).1 (Nat.lt_irrefl _)
  obtain ⟨l0, y, hp⟩ : ∃ l0 y, p = l0 ++ [y] := by
    rcases List.eq_nil_or_concat p with rfl | ⟨l0, y, rfl⟩
    · simp at h0
    · exact ⟨l0, y, List.concat_eq_append⟩
  have hy := he _ _ hp
  have hl : p.getLast?.getD 0 = y := by rw [hp]; simp
  have hd : p.dropLast = l0 := by rw [hp]; simp
  rw [hl, hd] at hlt
  have hb : (2 : Nat) ^ bndK p = bnd p := rfl
  rw [hb] at hlt
  have hB2 := one_lt_bnd p
  obtain ⟨B, hB⟩ : ∃ B, B = bnd p := ⟨_, rfl⟩
  rw [← hB] at hlt hB2 ⊢
  have hlt2 : y.natAbs + mostL l0 + 1 ≤ B * y.natAbs := by omega
  have hlt3 : ((y.natAbs : Rat) + (mostL l0 : Rat) + 1) ≤ (B : Rat) * (y.natAbs : Rat) := by
    have h := Rat.natCast_le_natCast.2 hlt2
    rw [Rat.natCast_add, Rat.natCast_add, Rat.natCast_mul] at h
    exact h
  have hya : ab (y : Rat) = (y.natAbs : Rat) := by
    rcases Int.le_total 0 y with h | h
    · have h1 : ((0 : Int) : Rat) ≤ (y : Rat) := Rat.intCast_le_intCast.2 h
      have h2 : ((0 : Int) : Rat) = 0 := rfl
      rw [h2] at h1
      rw [ab_pos h1, ← Rat.intCast_natCast]
      congr 1; omega
    · have h1 : (y : Rat) ≤ ((0 : Int) : Rat) := Rat.intCast_le_intCast.2 h
      have h2 : ((0 : Int) : Rat) = 0 := rfl
      rw [h2] at h1
      rw [ab_npos h1, ← Rat.intCast_natCast, ← Rat.intCast_neg]
      congr 1; omega
  rw [← hya] at hlt3
  have hBr : (2 : Rat) ≤ (B : Rat) := by
    have h := Rat.natCast_le_natCast.2 hB2
    exact h
  have hy1 := ab_ge_one hy
  have hm0 : (0 : Rat) ≤ (mostL l0 : Rat) := by
    have h := Rat.natCast_le_natCast.2 (Nat.zero_le (mostL l0))
    exact h
  refine ⟨1 / (ab R + 1), div_pos (by grind) (by have := ab_nonneg R; grind), fun x hx hR => ?_⟩
  have hX := ab_nonneg x
  have a1 := far_low (l := l0) (m := (mostL l0 : Rat)) (fun y hy => ab_most hy) x (by grind)
  have hxn : 1 ≤ ab x ^ l0.length := by
    have : ∀ n : Nat, 1 ≤ ab x ^ n := fun n => by
      induction n with
      | zero => grind
      | succ n ih =>
        rw [Rat.pow_succ]
        have := Rat.mul_le_mul_of_nonneg_left (show 1 ≤ ab x by grind) (show 0 ≤ ab x ^ n by grind)
        grind
    exact this _
  obtain ⟨Xn, hXn⟩ : ∃ Xn, Xn = ab x ^ l0.length := ⟨_, rfl⟩
  have hpw : ab (x ^ l0.length) = Xn := by
    rw [hXn]
    have : ∀ n : Nat, ab (x ^ n) = ab x ^ n := fun n => by
      induction n with
      | zero => have e1 : x ^ 0 = 1 := by grind
                have e2 : ab x ^ 0 = 1 := by grind
                rw [e1, e2, ab_one]
      | succ n ih => rw [Rat.pow_succ, Rat.pow_succ, ab_mul, ih]
    exact this _
  rw [← hXn] at a1 hxn
  have a2 := ab_sub ((y : Rat) * x ^ l0.length + evQ l0 x) (evQ l0 x)
  rw [show (y : Rat) * x ^ l0.length + evQ l0 x - evQ l0 x = (y : Rat) * x ^ l0.length by grind, ab_mul, hpw, ← evQ_snoc, ← hp] at a2
  -- (|x| - 1) |p| >= ((|x| - 1) |y| - most) |x|^n >= 1
  have a3 : (ab x - 1) * (ab (y : Rat) * Xn) ≤ (ab x - 1) * (ab (evQ p x) + ab (evQ l0 x)) := Rat.mul_le_mul_of_nonneg_left a2 (by grind)
  have a4 : ((B : Rat) - 1) * ab (y : Rat) ≤ (ab x - 1) * ab (y : Rat) := Rat.mul_le_mul_of_nonneg_right (by grind) (ab_nonneg _)
  have a5 : 1 ≤ (ab x - 1) * ab (y : Rat) - (mostL l0 : Rat) := by grind
  have a6 : 1 * Xn ≤ ((ab x - 1) * ab (y : Rat) - (mostL l0 : Rat)) * Xn := Rat.mul_le_mul_of_nonneg_right a5 (by grind)
  have a7 : 1 ≤ (ab x - 1) * ab (evQ p x) := by grind
  have a8 : (ab x - 1) * ab (evQ p x) ≤ (ab R + 1) * ab (evQ p x) := Rat.mul_le_mul_of_nonneg_right (by have := le_ab R; grind) (ab_nonneg _)
  have a9 : (ab R + 1) * (1 / (ab R + 1)) = 1 := by rw [Rat.mul_comm]; exact Rat.div_mul_cancel (by have := ab_nonneg R; grind)
  exact Rat.le_of_mul_le_mul_left (by rw [a9]; grind) (show 0 < ab R + 1 by have := ab_nonneg R; grind)
theorem none_of {l : List Int} {M : Nat} (hf : AFine l M) {a b n : Rat} (hab : a ≤ b) (hn : 0 < n) (h : ∀ x, a ≤ x → x ≤ b → n ≤ ab (evQ l x)) : Nn l a b = 0 := by
  obtain ⟨q, q1, q2⟩ := (rad_of hf).dv
  obtain ⟨G, g0, hG⟩ := q1.bd (ab a + ab b)
  refine (loc_of hf).none (Nn_add l) (evQ_p _) hab (n := n / (G + 1)) (div_pos hn (by grind)) (fun x h1 h2 => ?_)
  have a1 := h x h1 h2
  rw [q2 x, ab_mul] at a1
  have a2 : ab (evQ (sqf l) x) * ab (q x) ≤ ab (evQ (sqf l) x) * (G + 1) := Rat.mul_le_mul_of_nonneg_left (by have := hG x (in_of h1 h2); grind) (ab_nonneg _)
  have a3 : n / (G + 1) * (G + 1) = n := Rat.div_mul_cancel (by grind)
  exact Rat.le_of_mul_le_mul_right (by rw [a3]; grind) (show 0 < G + 1 by grind)
theorem above {l : List Int} {M : Nat} (hf : AFine l M) {a b : Rat} (hab : a ≤ b) (h : (bnd l : Rat) ≤ a) : Nn l a b = 0 := by
  obtain ⟨n, n0, hn⟩ := far hf.ends hf.pos (ab b)
  have hB : (0 : Rat) ≤ (bnd l : Rat) := Rat.natCast_le_natCast.2 (Nat.zero_le _)
  refine none_of hf hab n0 (fun x h1 h2 => hn x ?_ ?_)
  · have := le_ab x; grind
  · rw [ab_pos (by grind)]; have := le_ab b; grind
theorem below {l : List Int} {M : Nat} (hf : AFine l M) {a b : Rat} (hab : a ≤ b) (h : b ≤ -(bnd l : Rat)) : Nn l a b = 0 := by
  obtain ⟨n, n0, hn⟩ := far hf.ends hf.pos (ab a)
  have hB : (0 : Rat) ≤ (bnd l : Rat) := Rat.natCast_le_natCast.2 (Nat.zero_le _)
  refine none_of hf hab n0 (fun x h1 h2 => hn x ?_ ?_)
  · have := neg_le_ab x; grind
  · rw [ab_npos (by grind)]; have := neg_le_ab a; grind
theorem within {l : List Int} {M : Nat} (hf : AFine l M) {a b : Rat} (hab : a ≤ b) : Nn l a b ≤ Nn l (-(bnd l : Rat)) (bnd l : Rat) := by
  have hB : (0 : Rat) ≤ (bnd l : Rat) := Rat.natCast_le_natCast.2 (Nat.zero_le _)
  -- widen to an interval that holds both
  obtain ⟨u, u1, u2⟩ : ∃ u : Rat, u ≤ a ∧ u ≤ -(bnd l : Rat) := by
    rcases @Rat.le_total a (-(bnd l : Rat)) with h | h
    · exact ⟨a, Rat.le_refl, h⟩
    · exact ⟨_, h, Rat.le_refl⟩
  obtain ⟨v, v1, v2⟩ : ∃ v : Rat, b ≤ v ∧ (bnd l : Rat) ≤ v := by
    rcases @Rat.le_total b (bnd l : Rat) with h | h
    · exact ⟨_, h, Rat.le_refl⟩
    · exact ⟨b, Rat.le_refl, h⟩
  have h1 := nonneg hf u1
  have h2 := nonneg hf v1
  have h3 := below hf u2 Rat.le_refl
  have h4 := above hf v2 Rat.le_refl
  have a1 := Nn_add l u a v
  have a2 := Nn_add l a b v
  have a3 := Nn_add l u (-(bnd l : Rat)) v
  have a4 := Nn_add l (-(bnd l : Rat)) (bnd l : Rat) v
  omega
theorem root_in {l : List Int} (he : Ends l) (h0 : 0 < l.length) {r : Rat} (h : evQ l r = 0) : -(bnd l : Rat) < r ∧ r < (bnd l : Rat) := by
  obtain ⟨n, n0, hn⟩ := far he h0 (ab r)
  rcases @Rat.le_total (bnd l : Rat) (ab r) with h1 | h1
  · have := hn r h1 Rat.le_refl
    rw [h, ab_eq0] at this; grind
  · have h2 := le_ab r
    have h3 := neg_le_ab r
    have h4 : ab r ≠ (bnd l : Rat) := fun e => by
      have := hn r (by rw [e]; exact Rat.le_refl) Rat.le_refl
      rw [h, ab_eq0] at this; grind
    exact ⟨by grind, by grind⟩
theorem products {p q r g : List Int} {M1 M2 M3 M4 : Nat} (hp : AFine p M1) (hq : AFine q M2) (hr : AFine r M3) (hg : AFine g M4) (h1 : g = gcdP p q) (h2 : ∀ x, evQ r x = evQ p x * evQ q x) {a b : Rat} (hab : a ≤ b) : Nn r a b + Nn g a b = Nn p a b + Nn q a b := by
  obtain ⟨d1, d2, ⟨u, v, u1, v1, e⟩, -, -⟩ := gcdP_ev hp.ends hq.ends hp.pos
  rw [← h1] at d1 d2 e
  have h := Rad.product (rad_of hp) (rad_of hq) (rad_of hg) (rad_of hr) d1 d2 u1 v1 e h2
  have lp : Eqc (Nn p) (fun x y => cell (evQ (sqf p)) x y) := loc_of hp
  have lq : Eqc (Nn q) (fun x y => cell (evQ (sqf q)) x y) := loc_of hq
  have lr : Eqc (Nn r) (fun x y => cell (evQ (sqf r)) x y) := loc_of hr
  have lg : Eqc (Nn g) (fun x y => cell (evQ (sqf g)) x y) := loc_of hg
  exact (((lr.add lg).trans h).trans (lp.add lq).symm).all ((Nn_add r).add (Nn_add g)) ((Nn_add p).add (Nn_add q)) hab
theorem known {p : List Int} {M : Nat} (hp : AFine p M) {L : List Rat} (hL : L.Nodup) (h1 : Dd (lin L) (evQ p)) (h2 : ∃ m : Nat, Dd (evQ p) (fun x => lin L x ^ m)) {a b : Rat} (hab : a ≤ b) : Nn p a b = cntL L a b := by
  have lp : Eqc (Nn p) (fun x y => cell (evQ (sqf p)) x y) := loc_of hp
  have hR : Rad (evQ p) (lin L) := ⟨evQ_p p, (rad_of hp).nz, lin_p L, lin_sf hL, h1, h2⟩
  exact ((lp.trans ((rad_of hp).same hR)).trans (lin_cells hL)).all (Nn_add p) (cntL_add L) hab
end T
end Go.Proofs.Ytjpalbonclgflaa

/- Isolate ends, and what it returns: plain. -/
namespace Go.Proofs.Ytjpalbonclgflaa
namespace T
def Dy (j : Nat) (q : Rat) : Prop := ∃ z : Int, q * (2 : Rat) ^ j = (z : Rat)
theorem two_pow (j : Nat) : (2 : Rat) ^ j = (((2 ^ j : Nat) : Int) : Rat) := by
  induction j with
  | zero => rfl
  | succ j ih => rw [Rat.pow_succ, ih, Nat.pow_succ, Int.natCast_mul, Rat.intCast_mul]; rfl
theorem Dy.succ {j : Nat} {a : Rat} : Dy j a → Dy (j + 1) a := fun ⟨x, hx⟩ => ⟨x * 2, by rw [Rat.pow_succ, Rat.intCast_mul, ← hx]; show _ = a * 2 ^ j * (2 : Rat); grind⟩
theorem Dy.rs {j K k : Nat} {q : Rat} (h : Dy j q) (hq : ab q ≤ (((2 ^ k : Nat) : Int) : Rat)) (hK : j + k < 8 * K) : rs K q := by
  obtain ⟨z, hz⟩ := h
  rw [two_pow] at hz
  have hd : q.den ≤ 2 ^ j := by
    have h1 : q.num * ((2 ^ j : Nat) : Int) = z * (q.den : Int) := by
      apply Rat.intCast_inj.1
      rw [Rat.intCast_mul, Rat.intCast_mul, num_den q, ← hz, Rat.intCast_natCast q.den]; grind
    have h2 : q.den ∣ q.num.natAbs * 2 ^ j := by
      have h3 : (q.den : Int) ∣ q.num * ((2 ^ j : Nat) : Int) := ⟨z, by rw [h1, Int.mul_comm]⟩
      have h4 := Int.natAbs_dvd_natAbs.2 h3
      rw [Int.natAbs_mul, Int.natAbs_natCast, Int.natAbs_natCast] at h4
      exact h4
    exact Nat.le_of_dvd (Nat.pow_pos (by decide)) (q.reduced.symm.dvd_of_dvd_mul_left h2)
  have h256 : (2 : Nat) ^ (j + k) < 256 ^ K := by
    have e : (256 : Nat) ^ K = 2 ^ (8 * K) := by rw [Nat.pow_mul]
    rw [e]
    exact Nat.pow_lt_pow_right (by decide) hK
  have hj : (2 : Nat) ^ j ≤ 2 ^ (j + k) := Nat.pow_le_pow_right (by decide) (by omega)
  refine ⟨?_, ?_⟩
  · show q.num.natAbs < 256 ^ K
    refine Nat.lt_of_le_of_lt ?_ h256
    have h3 := num_den q
    have h4 : ab (q.num : Rat) ≤ (((2 ^ k : Nat) : Int) : Rat) * (q.den : Rat) := by
      rw [h3, ab_mul, ab_pos (Rat.le_of_lt (den_pos q))]
      exact Rat.mul_le_mul_of_nonneg_right hq (Rat.le_of_lt (den_pos q))
    have h5 : (((2 ^ k : Nat) : Int) : Rat) * (q.den : Rat) = (((2 ^ k * q.den : Nat) : Int) : Rat) := by
      rw [Int.natCast_mul, Rat.intCast_mul, Rat.intCast_natCast q.den]
    rw [h5] at h4
    have h6 := Rat.intCast_le_intCast.1 (Rat.le_trans (le_ab (q.num : Rat)) h4)
    have h7 : ((-q.num : Int) : Rat) ≤ (((2 ^ k * q.den : Nat) : Int) : Rat) := by rw [Rat.intCast_neg]; exact Rat.le_trans (neg_le_ab _) h4
    have h8 := Rat.intCast_le_intCast.1 h7
    have h9 : 2 ^ k * q.den ≤ 2 ^ (j + k) := by rw [Nat.pow_add, Nat.mul_comm]; exact Nat.mul_le_mul_right _ hd
    omega
  · show ((q.den : Int)).natAbs < 256 ^ K
    rw [Int.natAbs_natCast]
    omega
def Asc (l : List Int) : Rat → List Ivl → Rat → Prop
  | a, [], b => a ≤ b
  | a, x :: t, b => a ≤ x.1 ∧ x.1 < x.2 ∧ Nn l x.1 x.2 = 1 ∧ Asc l x.2 t b
theorem Asc.le {l : List Int} : ∀ {t : List Ivl} {a b : Rat}, Asc l a t b → a ≤ b
  | [], _, _, h => h
  | x :: t, a, b, ⟨h1, h2, _, h3⟩ => by have := h3.le; grind
theorem Asc.append {l : List Int} : ∀ {s t : List Ivl} {a m b : Rat}, Asc l a s m → Asc l m t b → Asc l a (s ++ t) b
  | [], t, a, m, b, h, k => by
    cases t with
    | nil => exact Rat.le_trans h k
    | cons x t => exact ⟨Rat.le_trans h k.1, k.2⟩
  | x :: s, _, _, _, _, ⟨h1, h2, h3, h4⟩, k => ⟨h1, h2, h3, h4.append k⟩
structure IsoP (l : List Int) (K : Nat) (a b : Rat) (res : List Ivl) : Prop where
  iso : Iso (stmA l) K a b res
  asc : Asc l a res b
  len : (res.length : Int) = Nn l a b
  dy : ∀ x ∈ res, ∃ j k : Nat, j + k + 1000 ≤ 8 * K ∧ k ≤ 200 ∧ Dy j x.1 ∧ Dy j x.2 ∧ ab x.1 ≤ (((2 ^ k : Nat) : Int) : Rat) ∧ ab x.2 ≤ (((2 ^ k : Nat) : Int) : Rat)
theorem IsoP.sz {l : List Int} {K : Nat} {a b : Rat} {res : List Ivl} (h : IsoP l K a b res) : ∀ x ∈ res, rs K x.1 ∧ rs K x.2 := fun x hx => by
  obtain ⟨j, k, h1, _, h2, h3, h4, h5⟩ := h.dy x hx
  exact ⟨h2.rs h4 (by omega), h3.rs h5 (by omega)⟩
theorem divInt_one (z : Int) : Rat.divInt z 1 = (z : Rat) := by rw [Rat.divInt_eq_div]; show (z : Rat) / (1 : Rat) = z; grind
theorem varS_le : ∀ (a : Int) (l : List Int), varS a l ≤ l.length
  | _, [] => Nat.le_refl _
  | a, s :: l => by
    have h1 := varS_le a l
    have h2 := varS_le s l
    rw [varS, List.length_cons]
    split
    · omega
    · split <;> omega
theorem chg_le (rows : List (List Int)) (r : Rat) : chg rows r ≤ rows.length := by
  rw [chg_V]
  have := varS_le 0 (sgs r (rows.map evQ))
  unfold V
  simpa [sgs] using this
theorem Asc.last {l : List Int} : ∀ {t : List Ivl} {a b : Rat}, Asc l a t b → (if t.length = 0 then a else (t.getD (t.length - 1) (0, 0)).2) ≤ b
  | [], _, _, h => h
  | [y], _, _, ⟨_, _, _, h⟩ => h
  | y :: z :: t, a, b, ⟨_, _, _, h⟩ => by
    have h5 := Asc.last (t := z :: t) h
    rw [if_neg (by simp)] at h5 ⊢
    exact h5
end T
end Go.Proofs.Ytjpalbonclgflaa

