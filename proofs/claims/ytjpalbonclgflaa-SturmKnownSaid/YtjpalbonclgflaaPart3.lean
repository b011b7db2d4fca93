/- Contracts and plain laws of several functions, one after the other: StuE, StuF, StuG. -/
import Derived.Test.YtjpalbonclgflaaPart4
/- Divisibility of polynomial functions; functions without multiple roots: plain. -/
namespace Go.Proofs.Ytjpalbonclgflaa
namespace T
def Dd (f g : Rat → Rat) : Prop := ∃ q, P q ∧ ∀ x, g x = f x * q x
def Cp (f g : Rat → Rat) : Prop := ∃ u v, P u ∧ P v ∧ ∀ x, u x * f x + v x * g x = 1
def Un (f : Rat → Rat) : Prop := ∃ w, P w ∧ ∀ x, f x * w x = 1
def Sf (f : Rat → Rat) : Prop := ∃ f', D f f' ∧ Cp f f'
theorem Dd.refl (f : Rat → Rat) : Dd f f := ⟨fun _ => 1, .const 1, fun x => by grind⟩
theorem Dd.trans {f g h : Rat → Rat} : Dd f g → Dd g h → Dd f h := fun ⟨q, q1, q2⟩ ⟨r, r1, r2⟩ => ⟨_, q1.mul r1, fun x => by rw [r2 x, q2 x]; grind⟩
theorem Dd.mul {f g : Rat → Rat} (h : Dd f g) {k : Rat → Rat} (hk : P k) : Dd f (fun x => g x * k x) := by
  obtain ⟨q, q1, q2⟩ := h
  exact ⟨_, q1.mul hk, fun x => by show g x * k x = f x * (q x * k x); rw [q2 x]; grind⟩
theorem Dd.add {f g h : Rat → Rat} : Dd f g → Dd f h → Dd f (fun x => g x + h x) := fun ⟨q, q1, q2⟩ ⟨r, r1, r2⟩ => ⟨_, q1.add r1, fun x => by show g x + h x = _; rw [q2 x, r2 x]; grind⟩
theorem Dd.congr {f g h : Rat → Rat} (h1 : Dd f g) (e : ∀ x, h x = g x) : Dd f h := by
  obtain ⟨q, q1, q2⟩ := h1
  exact ⟨q, q1, fun x => by rw [e]; exact q2 x⟩
theorem Dd.pow {f g : Rat → Rat} : Dd f g → ∀ n : Nat, Dd (fun x => f x ^ n) (fun x => g x ^ n) := fun ⟨q, q1, q2⟩ n => ⟨_, q1.pow n, fun x => by
  show g x ^ n = f x ^ n * q x ^ n
  rw [q2 x]
  induction n with
  | zero => grind
  | succ n ih => rw [Rat.pow_succ, ih, Rat.pow_succ, Rat.pow_succ]; grind⟩
theorem Cp.symm {f g : Rat → Rat} : Cp f g → Cp g f := fun ⟨u, v, u1, v1, h⟩ => ⟨v, u, v1, u1, fun x => by have := h x; grind⟩
theorem Cp.congr {f g h : Rat → Rat} (h1 : Cp f g) (e : ∀ x, h x = g x) : Cp f h := by
  rw [show h = g from funext e]; exact h1
theorem Cp.mul {f g h : Rat → Rat} (hf : P f) (hg : P g) (hh : P h) : Cp f g → Cp f h → Cp f (fun x => g x * h x) := fun ⟨u, v, u1, v1, h1⟩ ⟨a, b, a1, b1, h2⟩ =>
  ⟨fun x => u x * f x * a x + u x * b x * h x + v x * g x * a x, fun x => v x * b x, (((u1.mul hf).mul a1).add ((u1.mul b1).mul hh)).add ((v1.mul hg).mul a1), v1.mul b1, fun x => by
    have e1 := h1 x; have e2 := h2 x
    have e3 : (u x * f x + v x * g x) * (a x * f x + b x * h x) = 1 := by rw [e1, e2]; grind
    grind⟩
theorem Cp.one {f : Rat → Rat} : Cp f (fun _ => 1) := ⟨fun _ => 0, fun _ => 1, .const 0, .const 1, fun x => by grind⟩
theorem Cp.pow {f g : Rat → Rat} (hf : P f) (hg : P g) (h : Cp f g) : ∀ n : Nat, Cp f (fun x => g x ^ n)
  | 0 => Cp.one.congr fun x => by grind
  | n + 1 => (Cp.mul hf (hg.pow n) hg (h.pow hf hg n) h).congr fun x => by grind
theorem Cp.dvd {f g h : Rat → Rat} : Cp f g → Dd h g → Cp f h := fun ⟨u, v, u1, v1, h1⟩ ⟨q, q1, q2⟩ => ⟨u, _, u1, v1.mul q1, fun x => by have := h1 x; rw [q2 x] at this; grind⟩
theorem Cp.add {f g k : Rat → Rat} (hk : P k) : Cp f g → Cp f (fun x => g x + f x * k x) := fun ⟨u, v, u1, v1, h1⟩ => ⟨fun x => u x - v x * k x, v, u1.sub (v1.mul hk), v1, fun x => by have := h1 x; grind⟩
theorem Cp.gauss {f g h : Rat → Rat} (hh : P h) : Cp f g → Dd f (fun x => g x * h x) → Dd f h := fun ⟨u, v, u1, v1, h1⟩ ⟨q, q1, q2⟩ => ⟨fun x => u x * h x + v x * q x, (u1.mul hh).add (v1.mul q1), fun x => by
  have e1 := h1 x
  have e2 : g x * h x = f x * q x := q2 x
  have e3 : h x = h x * (u x * f x + v x * g x) := by rw [e1]; grind
  grind⟩
theorem Cp.unit {f g : Rat → Rat} (h : Cp f g) (k : Dd f g) : Un f := by
  obtain ⟨u, v, u1, v1, h1⟩ := h
  obtain ⟨q, q1, q2⟩ := k
  exact ⟨_, u1.add (v1.mul q1), fun x => by have := h1 x; rw [q2 x] at this; grind⟩
theorem Un.cp {f : Rat → Rat} (h : Un f) (g : Rat → Rat) : Cp f g := by
  obtain ⟨w, w1, w2⟩ := h
  exact ⟨w, fun _ => 0, w1, .const 0, fun x => by have := w2 x; grind⟩
theorem Un.dvd {f : Rat → Rat} (h : Un f) {g : Rat → Rat} (hg : P g) : Dd f g := by
  obtain ⟨w, w1, w2⟩ := h
  exact ⟨_, w1.mul hg, fun x => by have := w2 x; grind⟩
theorem Un.of_dvd {f g : Rat → Rat} (h : Un g) (k : Dd f g) : Un f := by
  obtain ⟨w, w1, w2⟩ := h
  obtain ⟨q, q1, q2⟩ := k
  exact ⟨_, q1.mul w1, fun x => by have := w2 x; rw [q2 x] at this; grind⟩
theorem Un.const {c : Rat} (h : c ≠ 0) : Un (fun _ => c) := ⟨fun _ => c⁻¹, .const _, fun _ => Rat.mul_inv_cancel c h⟩
theorem Un.of_dg {f : Rat → Rat} (h : Dg 0 f) : Un f := by
  obtain ⟨c, hc, h⟩ := dg_zero h
  rw [show f = fun _ => c from funext h]
  exact Un.const hc
theorem ab_one : ab 1 = 1 := by unfold ab; grind
theorem Un.pos {f : Rat → Rat} (h : Un f) : Pos f := fun R => by
  obtain ⟨w, w1, w2⟩ := h
  obtain ⟨M, m0, hM⟩ := w1.bd R
  have hM1 : 0 < M + 1 := by grind
  refine ⟨1 / (M + 1), div_pos (by grind) hM1, fun x hx => ?_⟩
  have h1 : ab (f x) * ab (w x) = 1 := by rw [← ab_mul, w2 x, ab_one]
  have h2 : ab (f x) * ab (w x) ≤ ab (f x) * (M + 1) := Rat.mul_le_mul_of_nonneg_left (by have := hM x hx; grind) (ab_nonneg _)
  have h3 : 1 / (M + 1) * (M + 1) = 1 := Rat.div_mul_cancel (by grind)
  exact Rat.le_of_mul_le_mul_right (by rw [h3]; grind) hM1
theorem Cp.cop {f g : Rat → Rat} (h : Cp f g) : Cop f g := fun R => by
  obtain ⟨u, v, u1, v1, h1⟩ := h
  obtain ⟨M, m0, hM⟩ := u1.bd R
  obtain ⟨K, k0, hK⟩ := v1.bd R
  have hM1 : 0 < M + K + 1 := by grind
  refine ⟨1 / (M + K + 1), div_pos (by grind) hM1, fun x hx => ?_⟩
  have a1 := ab_add (u x * f x) (v x * g x)
  rw [h1 x, ab_one, ab_mul, ab_mul] at a1
  have a2 : ab (u x) * ab (f x) ≤ (M + K + 1) * ab (f x) := Rat.mul_le_mul_of_nonneg_right (by have := hM x hx; grind) (ab_nonneg _)
  have a3 : ab (v x) * ab (g x) ≤ (M + K + 1) * ab (g x) := Rat.mul_le_mul_of_nonneg_right (by have := hK x hx; grind) (ab_nonneg _)
  have h3 : 1 / (M + K + 1) * (M + K + 1) = 1 := Rat.div_mul_cancel (by grind)
  exact Rat.le_of_mul_le_mul_right (by rw [h3]; grind) hM1
theorem gcd_ex : ∀ (n : Nat) (a b : Rat → Rat), P a → Lt n b → ∃ g u v, P g ∧ P u ∧ P v ∧ Dd g a ∧ Dd g b ∧ ∀ x, g x = u x * a x + v x * b x
  | 0, a, b => fun ha hb => ⟨a, fun _ => 1, fun _ => 0, ha, .const 1, .const 0, Dd.refl a, ⟨fun _ => 0, .const 0, fun x => by rw [hb x]; grind⟩, fun x => by grind⟩
  | n + 1, a, b => fun ha hb => by
    rcases hb.dg with h | ⟨m, hm, h⟩
    · exact gcd_ex n a b ha ((Lt.zero n).congr h)
    · obtain ⟨k, hk⟩ := ha.lt
      obtain ⟨q, r, q1, q2, q3⟩ := divmod h hk
      obtain ⟨g, u, v, g1, u1, v1, d1, d2, e⟩ := gcd_ex n b r hb.p (q2.mono (by omega))
      refine ⟨g, v, fun x => u x - v x * q x, g1, v1, u1.sub (v1.mul q1), ?_, d1, fun x => ?_⟩
      · exact ((d1.mul q1).add d2).congr fun x => by rw [q3 x]; grind
      · have := e x; have := q3 x; grind
theorem gcd_of {a b : Rat → Rat} (ha : P a) (hb : P b) : ∃ g u v, P g ∧ P u ∧ P v ∧ Dd g a ∧ Dd g b ∧ ∀ x, g x = u x * a x + v x * b x := by
  obtain ⟨n, h⟩ := hb.lt
  exact gcd_ex n a b ha h
theorem Nz.left {f g : Rat → Rat} (h : Nz f) (k : Dd g f) : Nz g := by
  obtain ⟨x, hx⟩ := h
  obtain ⟨q, q1, q2⟩ := k
  exact ⟨x, fun h0 => hx (by rw [q2 x, h0]; grind)⟩
theorem Sf.nz {f : Rat → Rat} (h : Sf f) : P f ∧ (Nz f ∨ True) := by obtain ⟨f', h1, _⟩ := h; exact ⟨h1.left, .inr trivial⟩
theorem Sf.cop {f d e : Rat → Rat} (h : Sf f) (hd : P d) (he : P e) (hf : ∀ x, f x = d x * e x) : Cp e d := by
  obtain ⟨f', h1, u, v, u1, v1, h2⟩ := h
  obtain ⟨d', d1⟩ := hd.der
  obtain ⟨e', e1⟩ := he.der
  have h3 := D.uniq h1 ((d1.mul e1).congr hf (fun _ => rfl))
  refine ⟨fun x => u x * d x + v x * d' x, fun x => v x * e' x, (u1.mul hd).add (v1.mul d1.right), v1.mul e1.right, fun x => ?_⟩
  have := h2 x; rw [h3 x, hf x] at this; grind
theorem Sf.left {f d e : Rat → Rat} (h : Sf f) (hd : P d) (he : P e) (hf : ∀ x, f x = d x * e x) : Sf d := by
  obtain ⟨f', h1, u, v, u1, v1, h2⟩ := h
  obtain ⟨d', d1⟩ := hd.der
  obtain ⟨e', e1⟩ := he.der
  have h3 := D.uniq h1 ((d1.mul e1).congr hf (fun _ => rfl))
  refine ⟨d', d1, fun x => u x * e x + v x * e' x, fun x => v x * e x, (u1.mul he).add (v1.mul e1.right), v1.mul he, fun x => ?_⟩
  have := h2 x; rw [h3 x, hf x] at this; grind
theorem Sf.of_dvd {f d : Rat → Rat} (h : Sf f) (hd : P d) (k : Dd d f) : Sf d := by
  obtain ⟨q, q1, q2⟩ := k
  exact h.left hd q1 q2
theorem Sf.mul {f g : Rat → Rat} : Sf f → Sf g → Cp f g → Sf (fun x => f x * g x) := fun ⟨f', f1, f2⟩ ⟨g', g1, g2⟩ h => by
  refine ⟨_, f1.mul g1, ?_⟩
  have hf := f1.left; have hg := g1.left
  have a : Cp f (fun x => f' x * g x + f x * g' x) := Cp.add g1.right (Cp.mul hf f1.right hg f2 h)
  have b : Cp g (fun x => f' x * g x + f x * g' x) := (Cp.add f1.right (Cp.mul hg g1.right hf g2 h.symm)).congr fun x => by grind
  exact (Cp.mul (f1.mul g1).right hf hg a.symm b.symm).symm
theorem Sf.radical {a b : Rat → Rat} (h : Sf a) (hn : Nz a) (hb : P b) {m : Nat} (hd : Dd a (fun x => b x ^ m)) : Dd a b := by
  have ha : P a := by obtain ⟨_, k, _⟩ := h; exact k.left
  obtain ⟨d, u, v, d1, u1, v1, ⟨e, e1, e2⟩, ⟨b2, b1, b3⟩, hg⟩ := gcd_of ha hb
  have hdn : Nz d := hn.left ⟨e, e1, e2⟩
  have hcp := h.cop d1 e1 e2
  have h1 : ∀ x, (1 : Rat) = u x * e x + v x * b2 x := cancel d1 (.const 1) ((u1.mul e1).add (v1.mul b1)) hdn (fun x => by
    have := hg x; rw [e2 x, b3 x] at this; grind)
  have hcp2 : Cp e b2 := ⟨u, v, u1, v1, fun x => (h1 x).symm⟩
  have hcb : Cp e b := (Cp.mul e1 d1 b1 hcp hcp2).congr b3
  have hun : Un e := Cp.unit (hcb.pow e1 hb m) (Dd.trans ⟨d, d1, fun x => by rw [e2 x]; grind⟩ hd)
  obtain ⟨w, w1, w2⟩ := hun
  refine ⟨fun x => w x * b2 x, w1.mul b1, fun x => ?_⟩
  have := w2 x; rw [b3 x, e2 x]; grind
theorem dpow {h h' : Rat → Rat} (hd : D h h') : ∀ j : Nat, ∃ k, D (fun x => h x ^ j) k ∧ ∀ x, k x * h x = (j : Rat) * h' x * h x ^ j
  | 0 => ⟨fun _ => 0, (D.const 1).congr (fun x => by grind) (fun _ => rfl), fun x => by show 0 * _ = ((0 : Nat) : Rat) * _ * _; have : ((0 : Nat) : Rat) = 0 := rfl; rw [this]; grind⟩
  | j + 1 => by
    obtain ⟨k, k1, k2⟩ := dpow hd j
    refine ⟨_, (k1.mul hd).congr (fun x => by grind) (fun _ => rfl), fun x => ?_⟩
    have h1 := k2 x
    have h2 : ((j + 1 : Nat) : Rat) = (j : Rat) + 1 := by rw [Rat.natCast_add]; rfl
    rw [h2]
    grind
theorem Dg.pow {n : Nat} {f : Rat → Rat} (h : Dg n f) : ∀ j : Nat, Dg (n * j) (fun x => f x ^ j)
  | 0 => ⟨1, fun _ => 0, by grind, Lt.zero _, fun x => by grind⟩
  | j + 1 => by
    have h1 := (h.pow j).mul h
    have e : (fun x => f x ^ j * f x) = fun x => f x ^ (j + 1) := by funext x; grind
    rwa [e] at h1
theorem sf_quot {p p' g s t u v : Rat → Rat} (hp : D p p') (hn : Nz p) (hg : P g) (hs : P s) (ht : P t) (hu : P u) (hv : P v) (h1 : ∀ x, p x = s x * g x) (h2 : ∀ x, p' x = t x * g x) (h3 : ∀ x, g x = u x * p x + v x * p' x) : Sf s := by
  have hgn : Nz g := hn.left ⟨s, hs, fun x => by rw [h1 x]; grind⟩
  have hsn : Nz s := hn.left ⟨g, hg, h1⟩
  have c1 : ∀ x, (1 : Rat) = u x * s x + v x * t x := cancel hg (.const 1) ((hu.mul hs).add (hv.mul ht)) hgn (fun x => by
    have := h3 x; rw [h1 x, h2 x] at this; grind)
  obtain ⟨s', s1⟩ := hs.der
  obtain ⟨g', g1⟩ := hg.der
  have h4 := D.uniq hp ((s1.mul g1).congr h1 (fun _ => rfl))
  obtain ⟨h, a1, b1, hh, ha1, hb1, ⟨a, a2, a3⟩, ⟨b, b2, b3⟩, hc⟩ := gcd_of hs s1.right
  have hhn : Nz h := hsn.left ⟨a, a2, a3⟩
  have hht : Cp h t := ⟨fun x => u x * a x, v, hu.mul a2, hv, fun x => by have := c1 x; rw [a3 x] at this; grind⟩
  obtain ⟨h', d1⟩ := hh.der
  obtain ⟨a', d2⟩ := a2.der
  have h5 := D.uniq s1 ((d1.mul d2).congr a3 (fun _ => rfl))
  have key : ∀ j : Nat, Dd (fun x => h x ^ j) g := by
    intro j
    induction j with
    | zero => exact ⟨g, hg, fun x => by grind⟩
    | succ j ih =>
      obtain ⟨c, c2, c3⟩ := ih
      obtain ⟨c', d3⟩ := c2.der
      obtain ⟨k, k1, k2⟩ := dpow d1 j
      have h6 := D.uniq g1 ((k1.mul d3).congr c3 (fun _ => rfl))
      have hP := hh.pow j
      have hPn : Nz (fun x => h x ^ j) := hgn.left ⟨c, c2, c3⟩
      have e1 : ∀ x, t x * c x = h x * ((j : Rat) * (b x - a' x) * c x + a x * c' x + b x * c x) := by
        refine cancel hP (ht.mul c2) (hh.mul (((((P.const _).mul (b2.sub d2.right)).mul c2).add (a2.mul d3.right)).add (b2.mul c2))) hPn (fun x => ?_)
        have q1 := h4 x
        rw [h2 x, h6 x] at q1
        have q2 := k2 x
        have q3 : h' x * a x = h x * (b x - a' x) := by have := h5 x; rw [b3 x] at this; grind
        have q4 := a3 x
        have q5 := b3 x
        have q6 := c3 x
        have q7 : t x * g x = s' x * g x + s x * (k x * c x + h x ^ j * c' x) := q1
        rw [q4, q5, q6] at q7
        have q8 : h x * a x * (k x * c x) = a x * c x * (k x * h x) := by grind
        rw [q2] at q8
        have q9 : a x * c x * ((j : Rat) * h' x * h x ^ j) = (j : Rat) * c x * h x ^ j * (h' x * a x) := by grind
        rw [q3] at q9
        grind
      have e2 : Dd h (fun x => t x * c x) := ⟨_, ((((P.const _).mul (b2.sub d2.right)).mul c2).add (a2.mul d3.right)).add (b2.mul c2), e1⟩
      obtain ⟨c4, c5, c6⟩ := hht.gauss c2 e2
      exact ⟨c4, c5, fun x => by rw [c3 x, c6 x]; grind⟩
  obtain ⟨n, hdg⟩ := hhn.dg hh
  have hun : Un h := by
    rcases Nat.eq_zero_or_pos n with h0 | h0
    · rw [h0] at hdg; exact Un.of_dg hdg
    · obtain ⟨N, hN⟩ := hgn.dg hg
      obtain ⟨q, q1, q2⟩ := key (N + 1)
      have hqn : Nz q := hgn.left ⟨_, hh.pow (N + 1), fun x => by rw [q2 x]; grind⟩
      obtain ⟨m, hm⟩ := hqn.dg q1
      have h7 := (hdg.pow (N + 1)).mul hm
      rw [show (fun x => h x ^ (N + 1) * q x) = g from funext fun x => (q2 x).symm] at h7
      have h8 := h7.uniq hN
      have h9 : 1 * (N + 1) ≤ n * (N + 1) := Nat.mul_le_mul_right _ h0
      omega
  obtain ⟨w, w1, w2⟩ := hun
  exact ⟨s', s1, fun x => w x * a1 x, fun x => w x * b1 x, w1.mul ha1, w1.mul hb1, fun x => by
    have := w2 x; have := hc x; grind⟩
theorem strip {s : Rat → Rat} (hs : P s) : ∀ (n : Nat) (r : Rat → Rat), P r → Dg n r → ∃ (k r2 : Rat → Rat) (m : Nat), P k ∧ P r2 ∧ (∀ x, r x = k x * r2 x) ∧ Dd k (fun x => s x ^ m) ∧ Cp r2 s
  | n, r => fun hr hn => by
    obtain ⟨d, u, v, d1, u1, v1, ⟨e, e1, e2⟩, hds, hg⟩ := gcd_of hr hs
    have hdn : Nz d := hn.nez.left ⟨e, e1, e2⟩
    have hen : Nz e := hn.nez.left ⟨d, d1, fun x => by rw [e2 x]; grind⟩
    obtain ⟨k, hk⟩ := hdn.dg d1
    obtain ⟨l, hl⟩ := hen.dg e1
    have hkl : k + l = n := by
      have := hk.mul hl
      rw [show (fun x => d x * e x) = r from funext fun x => (e2 x).symm] at this
      exact this.uniq hn
    by_cases hk0 : k = 0
    · rw [hk0] at hk
      obtain ⟨w, w1, w2⟩ := Un.of_dg hk
      refine ⟨fun _ => 1, r, 0, .const 1, hr, fun x => by grind, ⟨fun _ => 1, .const 1, fun x => by grind⟩, fun x => w x * u x, fun x => w x * v x, w1.mul u1, w1.mul v1, fun x => ?_⟩
      have := w2 x; have := hg x; grind
    · obtain ⟨k', r2, m, k1, r1, h1, h2, h3⟩ := strip hs l e e1 hl
      refine ⟨fun x => d x * k' x, r2, m + 1, d1.mul k1, r1, fun x => by rw [e2 x, h1 x]; grind, ?_, h3⟩
      obtain ⟨a, a1, a2⟩ := hds
      obtain ⟨b, b1, b2⟩ := h2
      refine ⟨fun x => a x * b x, a1.mul b1, fun x => ?_⟩
      have e3 : s x ^ m = k' x * b x := b2 x
      show s x ^ (m + 1) = d x * k' x * (a x * b x)
      rw [Rat.pow_succ, e3, a2 x]; grind
termination_by n => n
decreasing_by omega
theorem quot_pow {p p' g s t : Rat → Rat} (hp : D p p') (hn : Nz p) (hg : P g) (hs : P s) (ht : P t) (h1 : ∀ x, p x = s x * g x) (h2 : ∀ x, p' x = t x * g x) : ∃ m : Nat, Dd p (fun x => s x ^ m) := by
  have hgn : Nz g := hn.left ⟨s, hs, fun x => by rw [h1 x]; grind⟩
  obtain ⟨n, hdg⟩ := hgn.dg hg
  obtain ⟨k, r, m, k1, r1, e1, e2, e3⟩ := strip hs n g hg hdg
  have hrn : Nz r := hgn.left ⟨k, k1, fun x => by rw [e1 x]; grind⟩
  obtain ⟨r', d1⟩ := r1.der
  obtain ⟨q', d2⟩ := (hs.mul k1).der
  have h3 := D.uniq hp ((d2.mul d1).congr (fun x => by rw [h1 x, e1 x]; grind) (fun _ => rfl))
  have hcp : Cp r (fun x => s x * k x) := Cp.mul r1 hs k1 e3 ((e3.pow r1 hs m).dvd e2)
  have hd : Dd r (fun x => s x * k x * r' x) := ⟨fun x => t x * k x - q' x, (ht.mul k1).sub d2.right, fun x => by
    have := h3 x; rw [h2 x, e1 x] at this; grind⟩
  have hd2 : Dd r r' := hcp.gauss d1.right hd
  have hun : Un r := by
    obtain ⟨n, hr⟩ := hrn.dg r1
    rcases n with _ | n
    · exact Un.of_dg hr
    · exfalso
      have h4 := hr.der d1
      obtain ⟨w, w1, w2⟩ := hd2
      have hwn : Nz w := h4.nez.left ⟨r, r1, fun x => by rw [w2 x]; grind⟩
      obtain ⟨m, hm⟩ := hwn.dg w1
      have h5 := hr.mul hm
      rw [show (fun x => r x * w x) = r' from funext fun x => (w2 x).symm] at h5
      have := h5.uniq h4
      omega
  obtain ⟨w, w1, w2⟩ := hun
  obtain ⟨b, b1, b2⟩ := e2
  refine ⟨m + 1, fun x => w x * b x, w1.mul b1, fun x => ?_⟩
  have e4 : s x ^ m = k x * b x := b2 x
  have e5 := w2 x
  show s x ^ (m + 1) = p x * (w x * b x)
  rw [Rat.pow_succ, e4, h1 x, e1 x]
  grind
end T
end Go.Proofs.Ytjpalbonclgflaa

/- Roots of products, told by small cells: plain. -/
namespace Go.Proofs.Ytjpalbonclgflaa
namespace T
def Eqc (A B : Rat → Rat → Int) : Prop := ∀ R, ∃ d, 0 < d ∧ ∀ x y, In R x → In R y → x ≤ y → y - x ≤ d → A x y = B x y
theorem Eqc.symm {A B : Rat → Rat → Int} (h : Eqc A B) : Eqc B A := fun R => by
  obtain ⟨d, d0, h⟩ := h R
  exact ⟨d, d0, fun x y a b c e => (h x y a b c e).symm⟩
theorem Eqc.trans {A B C : Rat → Rat → Int} (h : Eqc A B) (k : Eqc B C) : Eqc A C := fun R => by
  obtain ⟨d, d0, h⟩ := h R
  obtain ⟨e, e0, k⟩ := k R
  obtain ⟨z, z0, z1, z2⟩ := min_pos d0 e0
  exact ⟨z, z0, fun x y a b c f => (h x y a b c (by grind)).trans (k x y a b c (by grind))⟩
theorem Eqc.add {A B C E : Rat → Rat → Int} (h : Eqc A B) (k : Eqc C E) : Eqc (fun x y => A x y + C x y) (fun x y => B x y + E x y) := fun R => by
  obtain ⟨d, d0, h⟩ := h R
  obtain ⟨e, e0, k⟩ := k R
  obtain ⟨z, z0, z1, z2⟩ := min_pos d0 e0
  exact ⟨z, z0, fun x y a b c f => by show _ + _ = _ + _; rw [h x y a b c (by grind), k x y a b c (by grind)]⟩
theorem Eqc.of {A B : Rat → Rat → Int} (h : ∀ x y, x ≤ y → A x y = B x y) : Eqc A B := fun R => ⟨1, by grind, fun x y _ _ c _ => h x y c⟩
theorem Eqc.all {A B : Rat → Rat → Int} (h : Eqc A B) (ha : Additive A) (hb : Additive B) {a b : Rat} (hab : a ≤ b) : A a b = B a b := by
  obtain ⟨d, d0, hd⟩ := h (ab a + ab b)
  exact walk (Q := fun x y => A x y = B x y) d0 hab (fun x y z _ _ _ _ h1 h2 => by rw [ha x y z, hb x y z, h1, h2]) (fun x y h1 h2 h3 h4 => hd x y (in_of h1 (Rat.le_trans h2 h3)) (in_of (Rat.le_trans h1 h2) h3) h2 h4)
theorem Additive.add {A B : Rat → Rat → Int} (h : Additive A) (k : Additive B) : Additive (fun x y => A x y + B x y) := fun x y z => by show _ + _ = _ + _ + (_ + _); rw [h x y z, k x y z]; omega
theorem mul_le_zero {a b : Rat} (h : 0 < a) : a * b ≤ 0 ↔ b ≤ 0 := by
  constructor
  · intro k
    rcases tri b 0 with c | c | c
    · grind
    · grind
    · have := Rat.mul_pos h c; grind
  · intro k
    have := Rat.mul_nonneg (Rat.le_of_lt h) (show 0 ≤ - b by grind)
    grind
theorem cell_keep {f g : Rat → Rat} {x y : Rat} (h : 0 < f x * f y) : cell (fun x => f x * g x) x y = cell f x y + cell g x y := by
  rw [cell_zero h]
  unfold cell
  have h1 : f x ≠ 0 := fun h0 => by rw [h0] at h; grind
  have h2 : (f x * g x ≠ 0) ↔ g x ≠ 0 := ⟨fun a b => a (by rw [b]; grind), fun a => mul_ne h1 a⟩
  have h3 : f x * g x * (f y * g y) = f x * f y * (g x * g y) := by grind
  have h4 : (f x * g x ≠ 0 ∧ f x * g x * (f y * g y) ≤ 0) ↔ (g x ≠ 0 ∧ g x * g y ≤ 0) := by rw [h3, h2, mul_le_zero h]
  show (if f x * g x ≠ 0 ∧ f x * g x * (f y * g y) ≤ 0 then (1 : Int) else 0) = 0 + (if g x ≠ 0 ∧ g x * g y ≤ 0 then 1 else 0)
  simp only [h4]; omega
theorem cell_mul {f g : Rat → Rat} (hf : P f) (hg : P g) (h : Cp f g) : Eqc (fun x y => cell (fun x => f x * g x) x y) (fun x y => cell f x y + cell g x y) := fun R => by
  obtain ⟨e, e0, he⟩ := h.cop R
  have e2 := half_pos e0
  obtain ⟨d, d0, hd⟩ := hf.keep R e2
  obtain ⟨k, k0, hk⟩ := hg.keep R e2
  obtain ⟨z, z0, z1, z2⟩ := min_pos d0 k0
  refine ⟨z, z0, fun x y hx hy h1 h2 => ?_⟩
  have hab : ab (y - x) = y - x := ab_pos (by grind)
  rcases @Rat.le_total (e / 2) (ab (f x)) with c | c
  · exact cell_keep (hd x y hx hy (by grind) c).2.2
  · have c1 : e / 2 ≤ ab (g x) := by have := he x hx; grind
    have h3 := cell_keep (f := g) (g := f) (hk x y hx hy (by grind) c1).2.2
    show cell (fun x => f x * g x) x y = _
    rw [show (fun x => f x * g x) = fun x => g x * f x from funext fun x => by grind, h3]
    exact Int.add_comm _ _
theorem cell_unit {w : Rat → Rat} (hp : P w) (h : Un w) : Eqc (fun x y => cell w x y) (fun _ _ => 0) := fun R => by
  obtain ⟨e, e0, he⟩ := h.pos R
  obtain ⟨d, d0, hd⟩ := hp.keep R e0
  exact ⟨d, d0, fun x y hx hy h1 h2 => cell_zero (hd x y hx hy (by rw [ab_pos (by grind)]; exact h2) (he x hx)).2.2⟩
theorem cell_assoc {f g : Rat → Rat} (hf : P f) (hn : Nz f) (h : Dd f g) (k : Dd g f) : Eqc (fun x y => cell f x y) (fun x y => cell g x y) := by
  obtain ⟨q, q1, q2⟩ := h
  obtain ⟨r, r1, r2⟩ := k
  have h1 : ∀ x, (1 : Rat) = q x * r x := cancel hf (.const 1) (q1.mul r1) hn (fun x => by have h2 := r2 x; rw [q2 x] at h2; grind)
  have hu : Un q := ⟨r, r1, fun x => (h1 x).symm⟩
  have h2 := (cell_mul hf q1 (hu.cp f).symm).trans ((Eqc.of (B := fun x y => cell f x y) fun _ _ _ => rfl).add (cell_unit q1 hu))
  rw [show (fun x => f x * q x) = g from funext fun x => (q2 x).symm] at h2
  exact (h2.trans (Eqc.of fun x y _ => by show _ + 0 = _; omega)).symm
theorem powMul (x : Rat) (j : Nat) : ∀ n : Nat, (x ^ j) ^ n = x ^ (j * n)
  | 0 => by grind
  | n + 1 => by rw [Rat.pow_succ, powMul x j n, Nat.mul_succ, powAdd]
structure Rad (f g : Rat → Rat) : Prop where
  p : P f
  nz : Nz f
  s : P g
  sf : Sf g
  dv : Dd g f
  pw : ∃ m : Nat, Dd f (fun x => g x ^ m)
theorem Rad.sn {p s : Rat → Rat} (h : Rad p s) : Nz s := h.nz.left h.dv
theorem Rad.dvd {p s q t : Rat → Rat} (h : Rad p s) (k : Rad q t) (hd : Dd p q) : Dd s t := by
  obtain ⟨m, hm⟩ := k.pw
  exact h.sf.radical h.sn k.s (h.dv.trans (hd.trans hm))
theorem Rad.cells {p s q t : Rat → Rat} (h : Rad p s) (k : Rad q t) {n m : Nat} (h1 : Dd p (fun x => q x ^ n)) (h2 : Dd q (fun x => p x ^ m)) : Eqc (fun x y => cell s x y) (fun x y => cell t x y) := by
  have go : ∀ {p s q t : Rat → Rat} {n : Nat}, Rad p s → Rad q t → Dd p (fun x => q x ^ n) → Dd s t := fun {p s q t n} h k h1 => by
    obtain ⟨j, hj⟩ := k.pw
    have h3 := (h.dv.trans h1).trans (hj.pow n)
    have e : (fun x => (t x ^ j) ^ n) = fun x => t x ^ (j * n) := by
      funext x
      exact powMul _ _ _
    rw [e] at h3
    exact h.sf.radical h.sn k.s h3
  exact cell_assoc h.s h.sn (go h k h1) (go k h h2)
theorem Rad.same {p s t : Rat → Rat} (h : Rad p s) (k : Rad p t) : Eqc (fun x y => cell s x y) (fun x y => cell t x y) :=
  cell_assoc h.s h.sn (h.dvd k (Dd.refl p)) (k.dvd h (Dd.refl p))
theorem Rad.product {p q g r sp sq sg sr u v : Rat → Rat} (hp : Rad p sp) (hq : Rad q sq) (hg : Rad g sg) (hr : Rad r sr) (h1 : Dd g p) (h2 : Dd g q) (hu : P u) (hv : P v) (h3 : ∀ x, g x = u x * p x + v x * q x) (h4 : ∀ x, r x = p x * q x) :
    Eqc (fun x y => cell sr x y + cell sg x y) (fun x y => cell sp x y + cell sq x y) := by
  obtain ⟨t, t1, t2⟩ := hg.dvd hq h2
  have hgp := hg.dvd hp h1
  have htn : Nz t := hq.sn.left ⟨sg, hg.s, fun x => by rw [t2 x]; grind⟩
  have hsq : Dd t sq := ⟨sg, hg.s, fun x => by rw [t2 x]; grind⟩
  have htg : Cp t sg := hq.sf.cop hg.s t1 t2
  have hst : Sf t := hq.sf.of_dvd t1 hsq
  obtain ⟨h, a, b, hh, ha, hb, d1, d2, e⟩ := gcd_of hp.s t1
  have hun : Un h := by
    have k1 : Dd h g := ((((d1.trans hp.dv).mul hu).add (((d2.trans hsq).trans hq.dv).mul hv)).congr fun x => by rw [h3 x]; grind)
    obtain ⟨m, hm⟩ := hg.pw
    exact Cp.unit (((htg.symm.dvd d2).symm).pow hh hg.s m) (k1.trans hm)
  have hpt : Cp sp t := by
    obtain ⟨w, w1, w2⟩ := hun
    exact ⟨fun x => w x * a x, fun x => w x * b x, w1.mul ha, w1.mul hb, fun x => by have := w2 x; have := e x; grind⟩
  have hS : Sf (fun x => sp x * t x) := hp.sf.mul hst hpt
  have hSn : Nz (fun x => sp x * t x) := hp.sn.mul hp.s htn t1
  have hSp : P (fun x => sp x * t x) := hp.s.mul t1
  have k2 : Dd (fun x => sp x * t x) r := by
    obtain ⟨a, a1, a2⟩ := hp.dv
    obtain ⟨b, b1, b2⟩ := hsq.trans hq.dv
    exact ⟨_, a1.mul b1, fun x => by rw [h4 x, a2 x, b2 x]; grind⟩
  have k3 : Dd (fun x => sp x * t x) sr := by
    obtain ⟨m, hm⟩ := hr.pw
    exact hS.radical hSn hr.s (k2.trans hm)
  have k4 : Dd sr (fun x => sp x * t x) := by
    obtain ⟨m, a, a1, a2⟩ := hp.pw
    obtain ⟨n, b, b1, b2⟩ := hq.pw
    obtain ⟨c, c1, c2⟩ := hgp
    have hd : Dd sq (fun x => sp x * t x) := ⟨c, c1, fun x => by show sp x * t x = _; rw [c2 x, t2 x]; grind⟩
    obtain ⟨d, d1, d2⟩ := hd.pow n
    have k5 : Dd r (fun x => (sp x * t x) ^ (m + n)) := ⟨fun x => t x ^ m * a x * b x * d x, (((t1.pow m).mul a1).mul b1).mul d1, fun x => by
      have q1 : sp x ^ m = p x * a x := a2 x
      have q2 : sq x ^ n = q x * b x := b2 x
      have q3 : (sp x * t x) ^ n = sq x ^ n * d x := d2 x
      have q4 : ∀ m : Nat, (sp x * t x) ^ m = sp x ^ m * t x ^ m := fun m => by
        induction m with
        | zero => grind
        | succ m ih => rw [Rat.pow_succ, ih, Rat.pow_succ, Rat.pow_succ]; grind
      show (sp x * t x) ^ (m + n) = _
      rw [powAdd, q3, q2, q4 m, q1, h4 x]
      grind⟩
    exact hr.sf.radical hr.sn hSp (hr.dv.trans k5)
  have c1 := (cell_assoc hr.s hr.sn k4 k3).trans (cell_mul hp.s t1 hpt)
  have c2 := cell_mul hg.s t1 htg.symm
  rw [show (fun x => sg x * t x) = sq from funext fun x => (t2 x).symm] at c2
  have c3 := (c1.add (Eqc.of (A := fun x y => cell sg x y) (B := fun x y => cell sg x y) fun _ _ _ => rfl))
  have c4 := (Eqc.of (A := fun x y => cell sp x y) (B := fun x y => cell sp x y) fun _ _ _ => rfl).add c2.symm
  exact c3.trans ((Eqc.of fun x y _ => by show _ + _ + _ = _ + (_ + _); omega).trans c4)
def lin (L : List Rat) : Rat → Rat := fun x => L.foldr (fun r s => (x - r) * s) 1
theorem lin_cons (r : Rat) (L : List Rat) (x : Rat) : lin (r :: L) x = (x - r) * lin L x := rfl
theorem lin_p : ∀ L : List Rat, P (lin L)
  | [] => .const 1
  | r :: L => ((P.id.sub (.const r)).mul (lin_p L))
theorem lin_cop {r : Rat} : ∀ {L : List Rat}, r ∉ L → Cp (fun x => x - r) (lin L)
  | [], _ => Cp.one
  | s :: L, h => by
    have hs : r ≠ s := fun e => h (by simp [e])
    have h1 : Cp (fun x => x - r) (fun x => x - s) := ⟨fun _ => - (1 / (r - s)), fun _ => 1 / (r - s), .const _, .const _, fun x => by
      have : 1 / (r - s) * (r - s) = 1 := Rat.div_mul_cancel (by grind)
      grind⟩
    exact Cp.mul (P.id.sub (.const r)) (P.id.sub (.const s)) (lin_p L) h1 (lin_cop fun e => h (by simp [e]))
theorem lin_sf : ∀ {L : List Rat}, L.Nodup → Sf (lin L)
  | [], _ => ⟨fun _ => 0, D.const 1, ⟨fun _ => 1, fun _ => 0, .const 1, .const 0, fun x => by show 1 * 1 + 0 * 0 = (1 : Rat); grind⟩⟩
  | r :: L, h => by
    have h1 := List.nodup_cons.1 h
    have h2 : Sf (fun x => x - r) := ⟨fun _ => 1, (D.id.add (D.const (-r))).congr (fun x => by grind) (fun x => by grind), fun _ => 0, fun _ => 1, .const 0, .const 1, fun x => by grind⟩
    exact h2.mul (lin_sf h1.2) (lin_cop h1.1)
def cntL (L : List Rat) (a b : Rat) : Int := (L.map fun r => (if a < r then (1 : Int) else 0) - (if b < r then 1 else 0)).sum
theorem cntL_add (L : List Rat) : Additive (cntL L) := fun x y z => by
  unfold cntL
  induction L with
  | nil => rfl
  | cons r L ih => simp only [List.map_cons, List.sum_cons] at ih ⊢; omega
theorem lin_cells : ∀ {L : List Rat}, L.Nodup → Eqc (fun x y => cell (lin L) x y) (cntL L)
  | [], _ => Eqc.of fun x y _ => by
    show cell (fun _ => 1) x y = 0
    exact cell_zero (by grind)
  | r :: L, h => by
    have h1 := List.nodup_cons.1 h
    have h2 := cell_mul (P.id.sub (.const r)) (lin_p L) (lin_cop h1.1)
    have h3 : Eqc (fun x y => cell (fun x => x - r) x y) (fun a b => (if a < r then (1 : Int) else 0) - (if b < r then 1 else 0)) := Eqc.of fun x y hxy => by
      show cell (fun x => x - r) x y = _
      rw [cell_pos (by grind)]
      have : ∀ z : Rat, (z - r < 0) ↔ z < r := fun z => by grind
      simp only [this]
    exact h2.trans ((h3.add (lin_cells h1.2)).trans (Eqc.of fun x y _ => by simp only [cntL, List.map_cons, List.sum_cons]))
theorem lin_dvd {r : Rat} : ∀ {L : List Rat}, r ∈ L → Dd (fun x => x - r) (lin L)
  | [], h => by simp at h
  | s :: L, h => by
    rcases List.mem_cons.1 h with rfl | h
    · exact ⟨lin L, lin_p L, fun x => rfl⟩
    · obtain ⟨q, q1, q2⟩ := lin_dvd h
      exact ⟨fun x => (x - s) * q x, (P.id.sub (.const s)).mul q1, fun x => by rw [lin_cons, q2 x]; grind⟩
end T
end Go.Proofs.Ytjpalbonclgflaa

/- Lists of integers as polynomial functions; explicit bounds: plain. -/
namespace Go.Proofs.Ytjpalbonclgflaa
namespace T
def evQ (l : List Int) (x : Rat) : Rat := l.foldr (fun (c : Int) (s : Rat) => s * x + (c : Rat)) 0
theorem evQ_cons (c : Int) (l : List Int) (x : Rat) : evQ (c :: l) x = evQ l x * x + (c : Rat) := rfl
theorem evQ_p : ∀ l : List Int, P (evQ l)
  | [] => .const 0
  | c :: l => (((evQ_p l).mul .id).add (.const c))
theorem evQ_snoc (l : List Int) (y : Int) (x : Rat) : evQ (l ++ [y]) x = (y : Rat) * x ^ l.length + evQ l x := by
  induction l with
  | nil => show (0 : Rat) * x + (y : Rat) = _ * x ^ 0 + 0; grind
  | cons c l ih => rw [List.cons_append, evQ_cons, ih, evQ_cons, List.length_cons, Rat.pow_succ]; grind
theorem evQ_lt (l : List Int) : Lt l.length (evQ l) := by
  induction l with
  | nil => exact fun _ => rfl
  | cons c l ih =>
    have h1 : Lt (l.length + 1) (fun _ => (c : Rat)) := Lt.mono (n := 1) ⟨(c : Rat), fun _ => 0, fun _ => rfl, fun x => by grind⟩ (by omega)
    exact (ih.xmul.add h1).congr fun x => by rw [evQ_cons]; grind
theorem castNe {y : Int} (h : y ≠ 0) : (y : Rat) ≠ 0 := fun h0 => h (Rat.intCast_inj.1 (h0.trans (show (0 : Rat) = ((0 : Int) : Rat) from rfl)))
theorem evQ_dg (l : List Int) {y : Int} (h : y ≠ 0) : Dg l.length (evQ (l ++ [y])) := ⟨(y : Rat), evQ l, castNe h, evQ_lt l, evQ_snoc l y⟩
theorem evQ_map (c : Int) (l : List Int) (x : Rat) : evQ (l.map (· * c)) x = (c : Rat) * evQ l x := by
  induction l with
  | nil => show (0 : Rat) = c * 0; grind
  | cons a l ih => rw [List.map_cons, evQ_cons, ih, evQ_cons, Rat.intCast_mul]; grind
def W (k : Nat) : Rat := (256 : Rat) ^ k
theorem W_pos (k : Nat) : 0 < W k := pow_ge (by grind) k
theorem W_add (a b : Nat) : W (a + b) = W a * W b := powAdd _ _ _
theorem W_one : W 1 = 256 := by unfold W; grind
theorem W_zero : W 0 = 1 := by unfold W; grind
theorem W_succ (k : Nat) : W (k + 1) = 256 * W k := by rw [W_add, W_one]; grind
theorem W_mono {a b : Nat} (h : a ≤ b) : W a ≤ W b := by
  induction h with
  | refl => exact Rat.le_refl
  | @step m _ ih => rw [W_succ]; have := W_pos m; grind
theorem W_ge (k : Nat) : 1 ≤ W k := by rw [← W_zero]; exact W_mono (Nat.zero_le k)
theorem W_nat (k : Nat) : W k = ((256 ^ k : Nat) : Rat) := by
  induction k with
  | zero => rfl
  | succ k ih => rw [W_succ, ih, Nat.pow_succ, Rat.natCast_mul, Rat.mul_comm]; rfl
theorem ab_zs {x : Int} {m : Nat} (h : x.natAbs < 256 ^ m) : ab (x : Rat) ≤ W m := by
  rw [W_nat]
  have h1 : (x : Rat) ≤ ((256 ^ m : Nat) : Rat) := by
    rw [← Rat.intCast_natCast]
    exact Rat.intCast_le_intCast.2 (by omega)
  have h2 : ((-x : Int) : Rat) ≤ ((256 ^ m : Nat) : Rat) := by
    rw [← Rat.intCast_natCast]
    exact Rat.intCast_le_intCast.2 (by omega)
  rw [Rat.intCast_neg] at h2
  exact ab_le h1 h2
theorem evQ_bd {l : List Int} {m r n : Nat} (hz : ∀ x ∈ l, x.natAbs < 256 ^ m) {x : Rat} (hx : ab x ≤ W r) (hn : l.length ≤ n) : ab (evQ l x) ≤ W (m + n * (r + 1)) := by
  induction l generalizing n with
  | nil => show ab 0 ≤ _; rw [ab_eq0]; exact Rat.le_of_lt (W_pos _)
  | cons c l ih =>
    obtain ⟨k, rfl⟩ : ∃ k, n = k + 1 := ⟨n - 1, by simp at hn; omega⟩
    have h1 := ih (n := k) (fun z hz' => hz z (by simp [hz'])) (by simp at hn; omega)
    have h2 := ab_zs (hz c (by simp))
    have h3 := ab_mul_le h1 hx
    rw [← W_add] at h3
    have h4 := ab_add (evQ l x * x) (c : Rat)
    rw [evQ_cons]
    have h5 : m + (k + 1) * (r + 1) = (m + k * (r + 1) + r) + 1 := by rw [Nat.add_mul]; omega
    rw [h5, W_succ]
    have h6 : W m ≤ W (m + k * (r + 1) + r) := W_mono (by omega)
    have h7 := W_pos (m + k * (r + 1) + r)
    grind
theorem evQ_lip {l : List Int} {m r n : Nat} (hz : ∀ x ∈ l, x.natAbs < 256 ^ m) (hn : l.length ≤ n) : Lip (W r) (evQ l) (W (m + n * (r + 1))) := by
  refine ⟨Rat.le_of_lt (W_pos _), fun x y hx hy => ?_⟩
  induction l generalizing n with
  | nil =>
    have e : evQ [] y - evQ [] x = 0 := by show (0 : Rat) - 0 = 0; grind
    rw [e, ab_eq0]
    exact Rat.mul_nonneg (Rat.le_of_lt (W_pos _)) (ab_nonneg _)
  | cons c l ih =>
    obtain ⟨k, rfl⟩ : ∃ k, n = k + 1 := ⟨n - 1, by simp at hn; omega⟩
    have h1 := ih (n := k) (fun z hz' => hz z (by simp [hz'])) (by simp at hn; omega)
    have h2 := evQ_bd (l := l) (m := m) (r := r) (n := k) (fun z hz' => hz z (by simp [hz'])) hx.ab (by simp at hn; omega)
    have e : evQ (c :: l) y - evQ (c :: l) x = (evQ l y - evQ l x) * y + evQ l x * (y - x) := by rw [evQ_cons, evQ_cons]; grind
    have h3 := ab_mul_le h1 hy.ab
    have h4 := ab_mul_le h2 (Rat.le_refl (a := ab (y - x)))
    have h5 := ab_add ((evQ l y - evQ l x) * y) (evQ l x * (y - x))
    rw [e]
    have h6 : m + (k + 1) * (r + 1) = (m + k * (r + 1) + r) + 1 := by rw [Nat.add_mul]; omega
    have h7 : W (m + k * (r + 1)) * ab (y - x) ≤ W (m + k * (r + 1) + r) * ab (y - x) := Rat.mul_le_mul_of_nonneg_right (W_mono (by omega)) (ab_nonneg _)
    have h8 : W (m + k * (r + 1)) * ab (y - x) * W r = W (m + k * (r + 1) + r) * ab (y - x) := by rw [W_add (m + k * (r + 1)) r]; grind
    rw [h6, W_succ]
    have h9 := Rat.mul_nonneg (Rat.le_of_lt (W_pos (m + k * (r + 1) + r))) (ab_nonneg (y - x))
    grind
def Ex (R : Rat) (k : Nat) (f g : Rat → Rat) : Prop := ∀ x, In R x → 1 ≤ W k * (ab (f x) + ab (g x))
theorem Ex.step {R : Rat} {k z : Nat} {f g h q : Rat → Rat} {a b Q A : Rat} (hE : Ex R k g h) (hQ : ∀ x, In R x → ab (q x) ≤ Q) (ha : ab a ≤ A) (hb : 1 ≤ b) (hr : ∀ x, a * f x = q x * g x - b * h x) (hz : Q + 1 + A ≤ W z) : Ex R (k + z) f g := fun x hx => by
  have h1 := hE x hx
  have h2 := hr x
  have h3 : b * h x = q x * g x - a * f x := by grind
  have h4 := ab_sub (q x * g x) (a * f x)
  rw [← h3, ab_mul, ab_mul, ab_mul, ab_pos (show 0 ≤ b by grind)] at h4
  have g0 := ab_nonneg (g x)
  have f0 := ab_nonneg (f x)
  have h0 := ab_nonneg (h x)
  have h5 : ab (q x) * ab (g x) ≤ Q * ab (g x) := Rat.mul_le_mul_of_nonneg_right (hQ x hx) g0
  have h6 : ab a * ab (f x) ≤ A * ab (f x) := Rat.mul_le_mul_of_nonneg_right ha f0
  have h7 : 1 * ab (h x) ≤ b * ab (h x) := Rat.mul_le_mul_of_nonneg_right hb h0
  have q0 : 0 ≤ Q := Rat.le_trans (ab_nonneg _) (hQ x hx)
  have a0 : 0 ≤ A := Rat.le_trans (ab_nonneg _) ha
  have h8 : (Q + 1 + A) * (ab (f x) + ab (g x)) ≤ W z * (ab (f x) + ab (g x)) := Rat.mul_le_mul_of_nonneg_right hz (by grind)
  have h9 := Rat.mul_nonneg q0 f0
  have h10 := Rat.mul_nonneg a0 g0
  have h11 : ab (g x) + ab (h x) ≤ W z * (ab (f x) + ab (g x)) := by grind
  have h12 : W k * (ab (g x) + ab (h x)) ≤ W k * (W z * (ab (f x) + ab (g x))) := Rat.mul_le_mul_of_nonneg_left h11 (Rat.le_of_lt (W_pos k))
  rw [W_add]; grind
theorem Ex.mono {R : Rat} {k j : Nat} {f g : Rat → Rat} (h : Ex R k f g) (hkj : k ≤ j) : Ex R j f g := fun x hx => by
  have h1 := h x hx
  have h2 : W k * (ab (f x) + ab (g x)) ≤ W j * (ab (f x) + ab (g x)) := Rat.mul_le_mul_of_nonneg_right (W_mono hkj) (by have := ab_nonneg (f x); have := ab_nonneg (g x); grind)
  grind
theorem Loc.sep {N : Rat → Rat → Int} {f f' : List Int} {F' : Rat → Rat} {k : Rat} (h : Loc N (evQ f)) (ha : Additive N) (hk : 0 < k) (hf : ∀ x, F' x = k * evQ f' x) (hD : D (evQ f) F') {r e m n D : Nat} (hE : Ex (W r) e (evQ f) (evQ f'))
    (h1 : ∀ x ∈ f, x.natAbs < 256 ^ m) (h2 : ∀ x ∈ f', x.natAbs < 256 ^ m) (hn1 : f.length ≤ n) (hn2 : f'.length ≤ n) (hD2 : e + (m + n * (r + 1)) + 2 ≤ D) {a b : Rat} (hab : a ≤ b) (hA : In (W r) a) (hB : In (W r) b) (hba : (b - a) * W D ≤ 1) : N a b ≤ 1 := by
  have e0 := W_pos e
  have hei : W e * (1 / W e) = 1 := by rw [Rat.mul_comm]; exact Rat.div_mul_cancel (by grind)
  have hcop : ∀ x, In (W r) x → 1 / W e ≤ ab (evQ f x) + ab (evQ f' x) := fun x hx => by
    have := hE x hx
    exact Rat.le_of_mul_le_mul_left (by rw [hei]; exact this) e0
  have hbd : (b - a) * (W (m + n * (r + 1)) + 1) ≤ 1 / W e / 2 / 2 := by
    have h3 : W e * (W (m + n * (r + 1)) + 1) * 4 ≤ W D := by
      have a1 : W (e + (m + n * (r + 1)) + 2) ≤ W D := W_mono hD2
      rw [W_succ, W_succ, W_add] at a1
      have a2 := Rat.mul_le_mul_of_nonneg_left (W_ge (m + n * (r + 1))) (Rat.le_of_lt e0)
      have a3 := Rat.mul_pos e0 (W_pos (m + n * (r + 1)))
      grind
    have h4 : (b - a) * (W e * (W (m + n * (r + 1)) + 1) * 4) ≤ (b - a) * W D := Rat.mul_le_mul_of_nonneg_left h3 (by grind)
    have h5 : W e * ((b - a) * (W (m + n * (r + 1)) + 1) * 4) ≤ W e * (1 / W e) := by rw [hei]; grind
    have h6 := Rat.le_of_mul_le_mul_left h5 e0
    grind
  exact h.one ha hk hf hD (div_pos (by grind) e0) hcop (evQ_lip h1 hn1) (evQ_lip h2 hn2) hbd hbd hab hA hB Rat.le_refl
end T
end Go.Proofs.Ytjpalbonclgflaa

