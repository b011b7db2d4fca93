/- Contracts and plain laws of several functions, one after the other: StuE, StuF, StuG, SizP, SizQ, StuH, StuI. -/
import Derived.Test.YtjpalbonclgflaaGreatPart12
import Derived.Test.YtjpalbonclgflaaGreatPart16
/- Divisibility of polynomial functions; functions without multiple roots: plain. -/
namespace Go.Proofs.YtjpalbonclgflaaGreat
namespace T
def Dd (f g : Rat → Rat) : Prop := ∃ q, P q ∧ ∀ x, g x = f x * q x
def Cp (f g : Rat → Rat) : Prop := ∃ u v, P u ∧ P v ∧ ∀ x, u x * f x + v x * g x = 1
def Un (f : Rat → Rat) : Prop := ∃ w, P w ∧ ∀ x, f x * w x = 1
def Sf (f : Rat → Rat) : Prop := ∃ f', D f f' ∧ Cp f f'
theorem Dd.refl (f : Rat → Rat) : Dd f f := ⟨fun _ => 1, .const 1, fun x => by grind⟩
theorem Dd.trans {f g h : Rat → Rat} : Dd f g → Dd g h → Dd f h := fun ⟨q, q1, q2⟩ ⟨r, r1, r2⟩ => ⟨_, q1.mul r1, fun x => by rw [r2 x, q2 x]; grind⟩
theorem Dd.mul {f g : Rat → Rat} (h : Dd f g) {k : Rat → Rat} (hk : P k) : Dd f (fun x => g x * k x) := by
  obtain ⟨q, q1, q2⟩ := h
  exact ⟨_, q1.mul hk, fun x => by show g x * k x = f x * (q x * k x); rw [q2 x]; grind⟩
theorem Dd.add {f g h : Rat → Rat} : Dd f g → Dd f h → Dd f (fun x => g x + h x) := fun ⟨q, q1, q2⟩ ⟨r, r1, r2⟩ => ⟨_, q1.add r1, fun x => by show g x + h x = _; rw [q2 x, r2 x]; grind⟩
theorem Dd.congr {f g h : Rat → Rat} (h1 : Dd f g) (e : ∀ x, h x = g x) : Dd f h := by
  obtain ⟨q, q1, q2⟩ := h1
  exact ⟨q, q1, fun x => by rw [e]; exact q2 x⟩
theorem Dd.pow {f g : Rat → Rat} : Dd f g → ∀ n : Nat, Dd (fun x => f x ^ n) (fun x => g x ^ n) := fun ⟨q, q1, q2⟩ n => ⟨_, q1.pow n, fun x => by
  show g x ^ n = f x ^ n * q x ^ n
  rw [q2 x]
  induction n with
  | zero => grind
  | succ n ih => rw [Rat.pow_succ, ih, Rat.pow_succ, Rat.pow_succ]; grind⟩
theorem Cp.symm {f g : Rat → Rat} : Cp f g → Cp g f := fun ⟨u, v, u1, v1, h⟩ => ⟨v, u, v1, u1, fun x => by have := h x; grind⟩
theorem Cp.congr {f g h : Rat → Rat} (h1 : Cp f g) (e : ∀ x, h x = g x) : Cp f h := by
  rw [show h = g from funext e]; exact h1
theorem Cp.mul {f g h : Rat → Rat} (hf : P f) (hg : P g) (hh : P h) : Cp f g → Cp f h → Cp f (fun x => g x * h x) := fun ⟨u, v, u1, v1, h1⟩ ⟨a, b, a1, b1, h2⟩ =>
  ⟨fun x => u x * f x * a x + u x * b x * h x + v x * g x * a x, fun x => v x * b x, (((u1.mul hf).mul a1).add ((u1.mul b1).mul hh)).add ((v1.mul hg).mul a1), v1.mul b1, fun x => by
    have e1 := h1 x; have e2 := h2 x
    have e3 : (u x * f x + v x * g x) * (a x * f x + b x * h x) = 1 := by rw [e1, e2]; grind
    grind⟩
theorem Cp.one {f : Rat → Rat} : Cp f (fun _ => 1) := ⟨fun _ => 0, fun _ => 1, .const 0, .const 1, fun x => by grind⟩
theorem Cp.pow {f g : Rat → Rat} (hf : P f) (hg : P g) (h : Cp f g) : ∀ n : Nat, Cp f (fun x => g x ^ n)
  | 0 => Cp.one.congr fun x => by grind
  | n + 1 => (Cp.mul hf (hg.pow n) hg (h.pow hf hg n) h).congr fun x => by grind
theorem Cp.dvd {f g h : Rat → Rat} : Cp f g → Dd h g → Cp f h := fun ⟨u, v, u1, v1, h1⟩ ⟨q, q1, q2⟩ => ⟨u, _, u1, v1.mul q1, fun x => by have := h1 x; rw [q2 x] at this; grind⟩
theorem Cp.add {f g k : Rat → Rat} (hk : P k) : Cp f g → Cp f (fun x => g x + f x * k x) := fun ⟨u, v, u1, v1, h1⟩ => ⟨fun x => u x - v x * k x, v, u1.sub (v1.mul hk), v1, fun x => by have := h1 x; grind⟩
theorem Cp.gauss {f g h : Rat → Rat} (hh : P h) : Cp f g → Dd f (fun x => g x * h x) → Dd f h := fun ⟨u, v, u1, v1, h1⟩ ⟨q, q1, q2⟩ => ⟨fun x => u x * h x + v x * q x, (u1.mul hh).add (v1.mul q1), fun x => by
  have e1 := h1 x
  have e2 : g x * h x = f x * q x := q2 x
  have e3 : h x = h x * (u x * f x + v x * g x) := by rw [e1]; grind
  grind⟩
theorem Cp.unit {f g : Rat → Rat} (h : Cp f g) (k : Dd f g) : Un f := by
  obtain ⟨u, v, u1, v1, h1⟩ := h
  obtain ⟨q, q1, q2⟩ := k
  exact ⟨_, u1.add (v1.mul q1), fun x => by have := h1 x; rw [q2 x] at this; grind⟩
theorem Un.cp {f : Rat → Rat} (h : Un f) (g : Rat → Rat) : Cp f g := by
  obtain ⟨w, w1, w2⟩ := h
  exact ⟨w, fun _ => 0, w1, .const 0, fun x => by have := w2 x; grind⟩
theorem Un.dvd {f : Rat → Rat} (h : Un f) {g : Rat → Rat} (hg : P g) : Dd f g := by
  obtain ⟨w, w1, w2⟩ := h
  exact ⟨_, w1.mul hg, fun x => by have := w2 x; grind⟩
theorem Un.of_dvd {f g : Rat → Rat} (h : Un g) (k : Dd f g) : Un f := by
  obtain ⟨w, w1, w2⟩ := h
  obtain ⟨q, q1, q2⟩ := k
  exact ⟨_, q1.mul w1, fun x => by have := w2 x; rw [q2 x] at this; grind⟩
theorem Un.const {c : Rat} (h : c ≠ 0) : Un (fun _ => c) := ⟨fun _ => c⁻¹, .const _, fun _ => Rat.mul_inv_cancel c h⟩
theorem Un.of_dg {f : Rat → Rat} (h : Dg 0 f) : Un f := by
  obtain ⟨c, hc, h⟩ := dg_zero h
  rw [show f = fun _ => c from funext h]
  exact Un.const hc
theorem ab_one : ab 1 = 1 := by unfold ab; grind
theorem Un.pos {f : Rat → Rat} (h : Un f) : Pos f := fun R => by
  obtain ⟨w, w1, w2⟩ := h
  obtain ⟨M, m0, hM⟩ := w1.bd R
  have hM1 : 0 < M + 1 := by grind
  refine ⟨1 / (M + 1), div_pos (by grind) hM1, fun x hx => ?_⟩
  have h1 : ab (f x) * ab (w x) = 1 := by rw [← ab_mul, w2 x, ab_one]
  have h2 : ab (f x) * ab (w x) ≤ ab (f x) * (M + 1) := Rat.mul_le_mul_of_nonneg_left (by have := hM x hx; grind) (ab_nonneg _)
  have h3 : 1 / (M + 1) * (M + 1) = 1 := Rat.div_mul_cancel (by grind)
  exact Rat.le_of_mul_le_mul_right (by rw [h3]; grind) hM1
theorem Cp.cop {f g : Rat → Rat} (h : Cp f g) : Cop f g := fun R => by
  obtain ⟨u, v, u1, v1, h1⟩ := h
  obtain ⟨M, m0, hM⟩ := u1.bd R
  obtain ⟨K, k0, hK⟩ := v1.bd R
  have hM1 : 0 < M + K + 1 := by grind
  refine ⟨1 / (M + K + 1), div_pos (by grind) hM1, fun x hx => ?_⟩
  have a1 := ab_add (u x * f x) (v x * g x)
  rw [h1 x, ab_one, ab_mul, ab_mul] at a1
  have a2 : ab (u x) * ab (f x) ≤ (M + K + 1) * ab (f x) := Rat.mul_le_mul_of_nonneg_right (by have := hM x hx; grind) (ab_nonneg _)
  have a3 : ab (v x) * ab (g x) ≤ (M + K + 1) * ab (g x) := Rat.mul_le_mul_of_nonneg_right (by have := hK x hx; grind) (ab_nonneg _)
  have h3 : 1 / (M + K + 1) * (M + K + 1) = 1 := Rat.div_mul_cancel (by grind)
  exact Rat.le_of_mul_le_mul_right (by rw [h3]; grind) hM1
theorem gcd_ex : ∀ (n : Nat) (a b : Rat → Rat), P a → Lt n b → ∃ g u v, P g ∧ P u ∧ P v ∧ Dd g a ∧ Dd g b ∧ ∀ x, g x = u x * a x + v x * b x
  | 0, a, b => fun ha hb => ⟨a, fun _ => 1, fun _ => 0, ha, .const 1, .const 0, Dd.refl a, ⟨fun _ => 0, .const 0, fun x => by rw [hb x]; grind⟩, fun x => by grind⟩
  | n + 1, a, b => fun ha hb => by
    rcases hb.dg with h | ⟨m, hm, h⟩
    · exact gcd_ex n a b ha ((Lt.zero n).congr h)
    · obtain ⟨k, hk⟩ := ha.lt
      obtain ⟨q, r, q1, q2, q3⟩ := divmod h hk
      obtain ⟨g, u, v, g1, u1, v1, d1, d2, e⟩ := gcd_ex n b r hb.p (q2.mono (by omega))
      refine ⟨g, v, fun x => u x - v x * q x, g1, v1, u1.sub (v1.mul q1), ?_, d1, fun x => ?_⟩
      · exact ((d1.mul q1).add d2).congr fun x => by rw [q3 x]; grind
      · have := e x; have := q3 x; grind
theorem gcd_of {a b : Rat → Rat} (ha : P a) (hb : P b) : ∃ g u v, P g ∧ P u ∧ P v ∧ Dd g a ∧ Dd g b ∧ ∀ x, g x = u x * a x + v x * b x := by
  obtain ⟨n, h⟩ := hb.lt
  exact gcd_ex n a b ha h
theorem Nz.left {f g : Rat → Rat} (h : Nz f) (k : Dd g f) : Nz g := by
  obtain ⟨x, hx⟩ := h
  obtain ⟨q, q1, q2⟩ := k
  exact ⟨x, fun h0 => hx (by rw [q2 x, h0]; grind)⟩
theorem Sf.nz {f : Rat → Rat} (h : Sf f) : P f ∧ (Nz f ∨ True) := by obtain ⟨f', h1, _⟩ := h; exact ⟨h1.left, .inr trivial⟩
theorem Sf.cop {f d e : Rat → Rat} (h : Sf f) (hd : P d) (he : P e) (hf : ∀ x, f x = d x * e x) : Cp e d := by
  obtain ⟨f', h1, u, v, u1, v1, h2⟩ := h
  obtain ⟨d', d1⟩ := hd.der
  obtain ⟨e', e1⟩ := he.der
  have h3 := D.uniq h1 ((d1.mul e1).congr hf (fun _ => rfl))
  refine ⟨fun x => u x * d x + v x * d' x, fun x => v x * e' x, (u1.mul hd).add (v1.mul d1.right), v1.mul e1.right, fun x => ?_⟩
  have := h2 x; rw [h3 x, hf x] at this; grind
theorem Sf.left {f d e : Rat → Rat} (h : Sf f) (hd : P d) (he : P e) (hf : ∀ x, f x = d x * e x) : Sf d := by
  obtain ⟨f', h1, u, v, u1, v1, h2⟩ := h
  obtain ⟨d', d1⟩ := hd.der
  obtain ⟨e', e1⟩ := he.der
  have h3 := D.uniq h1 ((d1.mul e1).congr hf (fun _ => rfl))
  refine ⟨d', d1, fun x => u x * e x + v x * e' x, fun x => v x * e x, (u1.mul he).add (v1.mul e1.right), v1.mul he, fun x => ?_⟩
  have := h2 x; rw [h3 x, hf x] at this; grind
theorem Sf.of_dvd {f d : Rat → Rat} (h : Sf f) (hd : P d) (k : Dd d f) : Sf d := by
  obtain ⟨q, q1, q2⟩ := k
  exact h.left hd q1 q2
theorem Sf.mul {f g : Rat → Rat} : Sf f → Sf g → Cp f g → Sf (fun x => f x * g x) := fun ⟨f', f1, f2⟩ ⟨g', g1, g2⟩ h => by
  refine ⟨_, f1.mul g1, ?_⟩
  have hf := f1.left; have hg := g1.left
  have a : Cp f (fun x => f' x * g x + f x * g' x) := Cp.add g1.right (Cp.mul hf f1.right hg f2 h)
  have b : Cp g (fun x => f' x * g x + f x * g' x) := (Cp.add f1.right (Cp.mul hg g1.right hf g2 h.symm)).congr fun x => by grind
  exact (Cp.mul (f1.mul g1).right hf hg a.symm b.symm).symm
theorem Sf.radical {a b : Rat → Rat} (h : Sf a) (hn : Nz a) (hb : P b) {m : Nat} (hd : Dd a (fun x => b x ^ m)) : Dd a b := by
  have ha : P a := by obtain ⟨_, k, _⟩ := h; exact k.left
  obtain ⟨d, u, v, d1, u1, v1, ⟨e, e1, e2⟩, ⟨b2, b1, b3⟩, hg⟩ := gcd_of ha hb
  have hdn : Nz d := hn.left ⟨e, e1, e2⟩
  have hcp := h.cop d1 e1 e2
  have h1 : ∀ x, (1 : Rat) = u x * e x + v x * b2 x := cancel d1 (.const 1) ((u1.mul e1).add (v1.mul b1)) hdn (fun x => by
    have := hg x; rw [e2 x, b3 x] at this; grind)
  have hcp2 : Cp e b2 := ⟨u, v, u1, v1, fun x => (h1 x).symm⟩
  have hcb : Cp e b := (Cp.mul e1 d1 b1 hcp hcp2).congr b3
  have hun : Un e := Cp.unit (hcb.pow e1 hb m) (Dd.trans ⟨d, d1, fun x => by rw [e2 x]; grind⟩ hd)
  obtain ⟨w, w1, w2⟩ := hun
  refine ⟨fun x => w x * b2 x, w1.mul b1, fun x => ?_⟩
  have := w2 x; rw [b3 x, e2 x]; grind
theorem dpow {h h' : Rat → Rat} (hd : D h h') : ∀ j : Nat, ∃ k, D (fun x => h x ^ j) k ∧ ∀ x, k x * h x = (j : Rat) * h' x * h x ^ j
  | 0 => ⟨fun _ => 0, (D.const 1).congr (fun x => by grind) (fun _ => rfl), fun x => by show 0 * _ = ((0 : Nat) : Rat) * _ * _; have : ((0 : Nat) : Rat) = 0 := rfl; rw [this]; grind⟩
  | j + 1 => by
    obtain ⟨k, k1, k2⟩ := dpow hd j
    refine ⟨_, (k1.mul hd).congr (fun x => by grind) (fun _ => rfl), fun x => ?_⟩
    have h1 := k2 x
    have h2 : ((j + 1 : Nat) : Rat) = (j : Rat) + 1 := by rw [Rat.natCast_add]; rfl
    rw [h2]
    grind
theorem Dg.pow {n : Nat} {f : Rat → Rat} (h : Dg n f) : ∀ j : Nat, Dg (n * j) (fun x => f x ^ j)
  | 0 => ⟨1, fun _ => 0, by grind, Lt.zero _, fun x => by grind⟩
  | j + 1 => by
    have h1 := (h.pow j).mul h
    have e : (fun x => f x ^ j * f x) = fun x => f x ^ (j + 1) := by funext x; grind
    rwa [e] at h1
theorem sf_quot {p p' g s t u v : Rat → Rat} (hp : D p p') (hn : Nz p) (hg : P g) (hs : P s) (ht : P t) (hu : P u) (hv : P v) (h1 : ∀ x, p x = s x * g x) (h2 : ∀ x, p' x = t x * g x) (h3 : ∀ x, g x = u x * p x + v x * p' x) : Sf s := by
  have hgn : Nz g := hn.left ⟨s, hs, fun x => by rw [h1 x]; grind⟩
  have hsn : Nz s := hn.left ⟨g, hg, h1⟩
  have c1 : ∀ x, (1 : Rat) = u x * s x + v x * t x := cancel hg (.const 1) ((hu.mul hs).add (hv.mul ht)) hgn (fun x => by
    have := h3 x; rw [h1 x, h2 x] at this; grind)
  obtain ⟨s', s1⟩ := hs.der
  obtain ⟨g', g1⟩ := hg.der
  have h4 := D.uniq hp ((s1.mul g1).congr h1 (fun _ => rfl))
  obtain ⟨h, a1, b1, hh, ha1, hb1, ⟨a, a2, a3⟩, ⟨b, b2, b3⟩, hc⟩ := gcd_of hs s1.right
  have hhn : Nz h := hsn.left ⟨a, a2, a3⟩
  have hht : Cp h t := ⟨fun x => u x * a x, v, hu.mul a2, hv, fun x => by have := c1 x; rw [a3 x] at this; grind⟩
  obtain ⟨h', d1⟩ := hh.der
  obtain ⟨a', d2⟩ := a2.der
  have h5 := D.uniq s1 ((d1.mul d2).congr a3 (fun _ => rfl))
  have key : ∀ j : Nat, Dd (fun x => h x ^ j) g := by
    intro j
    induction j with
    | zero => exact ⟨g, hg, fun x => by grind⟩
    | succ j ih =>
      obtain ⟨c, c2, c3⟩ := ih
      obtain ⟨c', d3⟩ := c2.der
      obtain ⟨k, k1, k2⟩ := dpow d1 j
      have h6 := D.uniq g1 ((k1.mul d3).congr c3 (fun _ => rfl))
      have hP := hh.pow j
      have hPn : Nz (fun x => h x ^ j) := hgn.left ⟨c, c2, c3⟩
      have e1 : ∀ x, t x * c x = h x * ((j : Rat) * (b x - a' x) * c x + a x * c' x + b x * c x) := by
        refine cancel hP (ht.mul c2) (hh.mul (((((P.const _).mul (b2.sub d2.right)).mul c2).add (a2.mul d3.right)).add (b2.mul c2))) hPn (fun x => ?_)
        have q1 := h4 x
        rw [h2 x, h6 x] at q1
        have q2 := k2 x
        have q3 : h' x * a x = h x * (b x - a' x) := by have := h5 x; rw [b3 x] at this; grind
        have q4 := a3 x
        have q5 := b3 x
        have q6 := c3 x
        have q7 : t x * g x = s' x * g x + s x * (k x * c x + h x ^ j * c' x) := q1
        rw [q4, q5, q6] at q7
        have q8 : h x * a x * (k x * c x) = a x * c x * (k x * h x) := by grind
        rw [q2] at q8
        have q9 : a x * c x * ((j : Rat) * h' x * h x ^ j) = (j : Rat) * c x * h x ^ j * (h' x * a x) := by grind
        rw [q3] at q9
        grind
      have e2 : Dd h (fun x => t x * c x) := ⟨_, ((((P.const _).mul (b2.sub d2.right)).mul c2).add (a2.mul d3.right)).add (b2.mul c2), e1⟩
      obtain ⟨c4, c5, c6⟩ := hht.gauss c2 e2
      exact ⟨c4, c5, fun x => by rw [c3 x, c6 x]; grind⟩
  obtain ⟨n, hdg⟩ := hhn.dg hh
  have hun : Un h := by
    rcases Nat.eq_zero_or_pos n with h0 | h0
    · rw [h0] at hdg; exact Un.of_dg hdg
    · obtain ⟨N, hN⟩ := hgn.dg hg
      obtain ⟨q, q1, q2⟩ := key (N + 1)
      have hqn : Nz q := hgn.left ⟨_, hh.pow (N + 1), fun x => by rw [q2 x]; grind⟩
      obtain ⟨m, hm⟩ := hqn.dg q1
      have h7 := (hdg.pow (N + 1)).mul hm
      rw [show (fun x => h x ^ (N + 1) * q x) = g from funext fun x => (q2 x).symm] at h7
      have h8 := h7.uniq hN
      have h9 : 1 * (N + 1) ≤ n * (N + 1) := Nat.mul_le_mul_right _ h0
      omega
  obtain ⟨w, w1, w2⟩ := hun
  exact ⟨s', s1, fun x => w x * a1 x, fun x => w x * b1 x, w1.mul ha1, w1.mul hb1, fun x => by
    have := w2 x; have := hc x; grind⟩
theorem strip {s : Rat → Rat} (hs : P s) : ∀ (n : Nat) (r : Rat → Rat), P r → Dg n r → ∃ (k r2 : Rat → Rat) (m : Nat), P k ∧ P r2 ∧ (∀ x, r x = k x * r2 x) ∧ Dd k (fun x => s x ^ m) ∧ Cp r2 s
  | n, r => fun hr hn => by
    obtain ⟨d, u, v, d1, u1, v1, ⟨e, e1, e2⟩, hds, hg⟩ := gcd_of hr hs
    have hdn : Nz d := hn.nez.left ⟨e, e1, e2⟩
    have hen : Nz e := hn.nez.left ⟨d, d1, fun x => by rw [e2 x]; grind⟩
    obtain ⟨k, hk⟩ := hdn.dg d1
    obtain ⟨l, hl⟩ := hen.dg e1
    have hkl : k + l = n := by
      have := hk.mul hl
      rw [show (fun x => d x * e x) = r from funext fun x => (e2 x).symm] at this
      exact this.uniq hn
    by_cases hk0 : k = 0
    · rw [hk0] at hk
      obtain ⟨w, w1, w2⟩ := Un.of_dg hk
      refine ⟨fun _ => 1, r, 0, .const 1, hr, fun x => by grind, ⟨fun _ => 1, .const 1, fun x => by grind⟩, fun x => w x * u x, fun x => w x * v x, w1.mul u1, w1.mul v1, fun x => ?_⟩
      have := w2 x; have := hg x; grind
    · obtain ⟨k', r2, m, k1, r1, h1, h2, h3⟩ := strip hs l e e1 hl
      refine ⟨fun x => d x * k' x, r2, m + 1, d1.mul k1, r1, fun x => by rw [e2 x, h1 x]; grind, ?_, h3⟩
      obtain ⟨a, a1, a2⟩ := hds
      obtain ⟨b, b1, b2⟩ := h2
      refine ⟨fun x => a x * b x, a1.mul b1, fun x => ?_⟩
      have e3 : s x ^ m = k' x * b x := b2 x
      show s x ^ (m + 1) = d x * k' x * (a x * b x)
      rw [Rat.pow_succ, e3, a2 x]; grind
termination_by n => n
decreasing_by omega
theorem quot_pow {p p' g s t : Rat → Rat} (hp : D p p') (hn : Nz p) (hg : P g) (hs : P s) (ht : P t) (h1 : ∀ x, p x = s x * g x) (h2 : ∀ x, p' x = t x * g x) : ∃ m : Nat, Dd p (fun x => s x ^ m) := by
  have hgn : Nz g := hn.left ⟨s, hs, fun x => by rw [h1 x]; grind⟩
  obtain ⟨n, hdg⟩ := hgn.dg hg
  obtain ⟨k, r, m, k1, r1, e1, e2, e3⟩ := strip hs n g hg hdg
  have hrn : Nz r := hgn.left ⟨k, k1, fun x => by rw [e1 x]; grind⟩
  obtain ⟨r', d1⟩ := r1.der
  obtain ⟨q', d2⟩ := (hs.mul k1).der
  have h3 := D.uniq hp ((d2.mul d1).congr (fun x => by rw [h1 x, e1 x]; grind) (fun _ => rfl))
  have hcp : Cp r (fun x => s x * k x) := Cp.mul r1 hs k1 e3 ((e3.pow r1 hs m).dvd e2)
  have hd : Dd r (fun x => s x * k x * r' x) := ⟨fun x => t x * k x - q' x, (ht.mul k1).sub d2.right, fun x => by
    have := h3 x; rw [h2 x, e1 x] at this; grind⟩
  have hd2 : Dd r r' := hcp.gauss d1.right hd
  have hun : Un r := by
    obtain ⟨n, hr⟩ := hrn.dg r1
    rcases n with _ | n
    · exact Un.of_dg hr
    · exfalso
      have h4 := hr.der d1
      obtain ⟨w, w1, w2⟩ := hd2
      have hwn : Nz w := h4.nez.left ⟨r, r1, fun x => by rw [w2 x]; grind⟩
      obtain ⟨m, hm⟩ := hwn.dg w1
      have h5 := hr.mul hm
      rw [show (fun x => r x * w x) = r' from funext fun x => (w2 x).symm] at h5
      have := h5.uniq h4
      omega
  obtain ⟨w, w1, w2⟩ := hun
  obtain ⟨b, b1, b2⟩ := e2
  refine ⟨m + 1, fun x => w x * b x, w1.mul b1, fun x => ?_⟩
  have e4 : s x ^ m = k x * b x := b2 x
  have e5 := w2 x
  show s x ^ (m + 1) = p x * (w x * b x)
  rw [Rat.pow_succ, e4, h1 x, e1 x]
  grind
end T
end Go.Proofs.YtjpalbonclgflaaGreat

/- Roots of products, told by small cells: plain. -/
namespace Go.Proofs.YtjpalbonclgflaaGreat
namespace T
def Eqc (A B : Rat → Rat → Int) : Prop := ∀ R, ∃ d, 0 < d ∧ ∀ x y, In R x → In R y → x ≤ y → y - x ≤ d → A x y = B x y
theorem Eqc.symm {A B : Rat → Rat → Int} (h : Eqc A B) : Eqc B A := fun R => by
  obtain ⟨d, d0, h⟩ := h R
  exact ⟨d, d0, fun x y a b c e => (h x y a b c e).symm⟩
theorem Eqc.trans {A B C : Rat → Rat → Int} (h : Eqc A B) (k : Eqc B C) : Eqc A C := fun R => by
  obtain ⟨d, d0, h⟩ := h R
  obtain ⟨e, e0, k⟩ := k R
  obtain ⟨z, z0, z1, z2⟩ := min_pos d0 e0
  exact ⟨z, z0, fun x y a b c f => (h x y a b c (by grind)).trans (k x y a b c (by grind))⟩
theorem Eqc.add {A B C E : Rat → Rat → Int} (h : Eqc A B) (k : Eqc C E) : Eqc (fun x y => A x y + C x y) (fun x y => B x y + E x y) := fun R => by
  obtain ⟨d, d0, h⟩ := h R
  obtain ⟨e, e0, k⟩ := k R
  obtain ⟨z, z0, z1, z2⟩ := min_pos d0 e0
  exact ⟨z, z0, fun x y a b c f => by show _ + _ = _ + _; rw [h x y a b c (by grind), k x y a b c (by grind)]⟩
theorem Eqc.of {A B : Rat → Rat → Int} (h : ∀ x y, x ≤ y → A x y = B x y) : Eqc A B := fun R => ⟨1, by grind, fun x y _ _ c _ => h x y c⟩
theorem Eqc.all {A B : Rat → Rat → Int} (h : Eqc A B) (ha : Additive A) (hb : Additive B) {a b : Rat} (hab : a ≤ b) : A a b = B a b := by
  obtain ⟨d, d0, hd⟩ := h (ab a + ab b)
  exact walk (Q := fun x y => A x y = B x y) d0 hab (fun x y z _ _ _ _ h1 h2 => by rw [ha x y z, hb x y z, h1, h2]) (fun x y h1 h2 h3 h4 => hd x y (in_of h1 (Rat.le_trans h2 h3)) (in_of (Rat.le_trans h1 h2) h3) h2 h4)
theorem Additive.add {A B : Rat → Rat → Int} (h : Additive A) (k : Additive B) : Additive (fun x y => A x y + B x y) := fun x y z => by show _ + _ = _ + _ + (_ + _); rw [h x y z, k x y z]; omega
theorem mul_le_zero {a b : Rat} (h : 0 < a) : a * b ≤ 0 ↔ b ≤ 0 := by
  constructor
  · intro k
    rcases tri b 0 with c | c | c
    · grind
    · grind
    · have := Rat.mul_pos h c; grind
  · intro k
    have := Rat.mul_nonneg (Rat.le_of_lt h) (show 0 ≤ - b by grind)
    grind
theorem cell_keep {f g : Rat → Rat} {x y : Rat} (h : 0 < f x * f y) : cell (fun x => f x * g x) x y = cell f x y + cell g x y := by
  rw [cell_zero h]
  unfold cell
  have h1 : f x ≠ 0 := fun h0 => by rw [h0] at h; grind
  have h2 : (f x * g x ≠ 0) ↔ g x ≠ 0 := ⟨fun a b => a (by rw [b]; grind), fun a => mul_ne h1 a⟩
  have h3 : f x * g x * (f y * g y) = f x * f y * (g x * g y) := by grind
  have h4 : (f x * g x ≠ 0 ∧ f x * g x * (f y * g y) ≤ 0) ↔ (g x ≠ 0 ∧ g x * g y ≤ 0) := by rw [h3, h2, mul_le_zero h]
  show (if f x * g x ≠ 0 ∧ f x * g x * (f y * g y) ≤ 0 then (1 : Int) else 0) = 0 + (if g x ≠ 0 ∧ g x * g y ≤ 0 then 1 else 0)
  simp only [h4]; omega
theorem cell_mul {f g : Rat → Rat} (hf : P f) (hg : P g) (h : Cp f g) : Eqc (fun x y => cell (fun x => f x * g x) x y) (fun x y => cell f x y + cell g x y) := fun R => by
  obtain ⟨e, e0, he⟩ := h.cop R
  have e2 := half_pos e0
  obtain ⟨d, d0, hd⟩ := hf.keep R e2
  obtain ⟨k, k0, hk⟩ := hg.keep R e2
  obtain ⟨z, z0, z1, z2⟩ := min_pos d0 k0
  refine ⟨z, z0, fun x y hx hy h1 h2 => ?_⟩
  have hab : ab (y - x) = y - x := ab_pos (by grind)
  rcases @Rat.le_total (e / 2) (ab (f x)) with c | c
  · exact cell_keep (hd x y hx hy (by grind) c).2.2
  · have c1 : e / 2 ≤ ab (g x) := by have := he x hx; grind
    have h3 := cell_keep (f := g) (g := f) (hk x y hx hy (by grind) c1).2.2
    show cell (fun x => f x * g x) x y = _
    rw [show (fun x => f x * g x) = fun x => g x * f x from funext fun x => by grind, h3]
    exact Int.add_comm _ _
theorem cell_unit {w : Rat → Rat} (hp : P w) (h : Un w) : Eqc (fun x y => cell w x y) (fun _ _ => 0) := fun R => by
  obtain ⟨e, e0, he⟩ := h.pos R
  obtain ⟨d, d0, hd⟩ := hp.keep R e0
  exact ⟨d, d0, fun x y hx hy h1 h2 => cell_zero (hd x y hx hy (by rw [ab_pos (by grind)]; exact h2) (he x hx)).2.2⟩
theorem cell_assoc {f g : Rat → Rat} (hf : P f) (hn : Nz f) (h : Dd f g) (k : Dd g f) : Eqc (fun x y => cell f x y) (fun x y => cell g x y) := by
  obtain ⟨q, q1, q2⟩ := h
  obtain ⟨r, r1, r2⟩ := k
  have h1 : ∀ x, (1 : Rat) = q x * r x := cancel hf (.const 1) (q1.mul r1) hn (fun x => by have h2 := r2 x; rw [q2 x] at h2; grind)
  have hu : Un q := ⟨r, r1, fun x => (h1 x).symm⟩
  have h2 := (cell_mul hf q1 (hu.cp f).symm).trans ((Eqc.of (B := fun x y => cell f x y) fun _ _ _ => rfl).add (cell_unit q1 hu))
  rw [show (fun x => f x * q x) = g from funext fun x => (q2 x).symm] at h2
  exact (h2.trans (Eqc.of fun x y _ => by show _ + 0 = _; omega)).symm
theorem powMul (x : Rat) (j : Nat) : ∀ n : Nat, (x ^ j) ^ n = x ^ (j * n)
  | 0 => by grind
  | n + 1 => by rw [Rat.pow_succ, powMul x j n, Nat.mul_succ, powAdd]
structure Rad (f g : Rat → Rat) : Prop where
  p : P f
  nz : Nz f
  s : P g
  sf : Sf g
  dv : Dd g f
  pw : ∃ m : Nat, Dd f (fun x => g x ^ m)
theorem Rad.sn {p s : Rat → Rat} (h : Rad p s) : Nz s := h.nz.left h.dv
theorem Rad.dvd {p s q t : Rat → Rat} (h : Rad p s) (k : Rad q t) (hd : Dd p q) : Dd s t := by
  obtain ⟨m, hm⟩ := k.pw
  exact h.sf.radical h.sn k.s (h.dv.trans (hd.trans hm))
theorem Rad.cells {p s q t : Rat → Rat} (h : Rad p s) (k : Rad q t) {n m : Nat} (h1 : Dd p (fun x => q x ^ n)) (h2 : Dd q (fun x => p x ^ m)) : Eqc (fun x y => cell s x y) (fun x y => cell t x y) := by
  have go : ∀ {p s q t : Rat → Rat} {n : Nat}, Rad p s → Rad q t → Dd p (fun x => q x ^ n) → Dd s t := fun {p s q t n} h k h1 => by
    obtain ⟨j, hj⟩ := k.pw
    have h3 := (h.dv.trans h1).trans (hj.pow n)
    have e : (fun x => (t x ^ j) ^ n) = fun x => t x ^ (j * n) := by
      funext x
      exact powMul _ _ _
    rw [e] at h3
    exact h.sf.radical h.sn k.s h3
  exact cell_assoc h.s h.sn (go h k h1) (go k h h2)
theorem Rad.same {p s t : Rat → Rat} (h : Rad p s) (k : Rad p t) : Eqc (fun x y => cell s x y) (fun x y => cell t x y) :=
  cell_assoc h.s h.sn (h.dvd k (Dd.refl p)) (k.dvd h (Dd.refl p))
theorem Rad.product {p q g r sp sq sg sr u v : Rat → Rat} (hp : Rad p sp) (hq : Rad q sq) (hg : Rad g sg) (hr : Rad r sr) (h1 : Dd g p) (h2 : Dd g q) (hu : P u) (hv : P v) (h3 : ∀ x, g x = u x * p x + v x * q x) (h4 : ∀ x, r x = p x * q x) :
    Eqc (fun x y => cell sr x y + cell sg x y) (fun x y => cell sp x y + cell sq x y) := by
  obtain ⟨t, t1, t2⟩ := hg.dvd hq h2
  have hgp := hg.dvd hp h1
  have htn : Nz t := hq.sn.left ⟨sg, hg.s, fun x => by rw [t2 x]; grind⟩
  have hsq : Dd t sq := ⟨sg, hg.s, fun x => by rw [t2 x]; grind⟩
  have htg : Cp t sg := hq.sf.cop hg.s t1 t2
  have hst : Sf t := hq.sf.of_dvd t1 hsq
  obtain ⟨h, a, b, hh, ha, hb, d1, d2, e⟩ := gcd_of hp.s t1
  have hun : Un h := by
    have k1 : Dd h g := ((((d1.trans hp.dv).mul hu).add (((d2.trans hsq).trans hq.dv).mul hv)).congr fun x => by rw [h3 x]; grind)
    obtain ⟨m, hm⟩ := hg.pw
    exact Cp.unit (((htg.symm.dvd d2).symm).pow hh hg.s m) (k1.trans hm)
  have hpt : Cp sp t := by
    obtain ⟨w, w1, w2⟩ := hun
    exact ⟨fun x => w x * a x, fun x => w x * b x, w1.mul ha, w1.mul hb, fun x => by have := w2 x; have := e x; grind⟩
  have hS : Sf (fun x => sp x * t x) := hp.sf.mul hst hpt
  have hSn : Nz (fun x => sp x * t x) := hp.sn.mul hp.s htn t1
  have hSp : P (fun x => sp x * t x) := hp.s.mul t1
  have k2 : Dd (fun x => sp x * t x) r := by
    obtain ⟨a, a1, a2⟩ := hp.dv
    obtain ⟨b, b1, b2⟩ := hsq.trans hq.dv
    exact ⟨_, a1.mul b1, fun x => by rw [h4 x, a2 x, b2 x]; grind⟩
  have k3 : Dd (fun x => sp x * t x) sr := by
    obtain ⟨m, hm⟩ := hr.pw
    exact hS.radical hSn hr.s (k2.trans hm)
  have k4 : Dd sr (fun x => sp x * t x) := by
    obtain ⟨m, a, a1, a2⟩ := hp.pw
    obtain ⟨n, b, b1, b2⟩ := hq.pw
    obtain ⟨c, c1, c2⟩ := hgp
    have hd : Dd sq (fun x => sp x * t x) := ⟨c, c1, fun x => by show sp x * t x = _; rw [c2 x, t2 x]; grind⟩
    obtain ⟨d, d1, d2⟩ := hd.pow n
    have k5 : Dd r (fun x => (sp x * t x) ^ (m + n)) := ⟨fun x => t x ^ m * a x * b x * d x, (((t1.pow m).mul a1).mul b1).mul d1, fun x => by
      have q1 : sp x ^ m = p x * a x := a2 x
      have q2 : sq x ^ n = q x * b x := b2 x
      have q3 : (sp x * t x) ^ n = sq x ^ n * d x := d2 x
      have q4 : ∀ m : Nat, (sp x * t x) ^ m = sp x ^ m * t x ^ m := fun m => by
        induction m with
        | zero => grind
        | succ m ih => rw [Rat.pow_succ, ih, Rat.pow_succ, Rat.pow_succ]; grind
      show (sp x * t x) ^ (m + n) = _
      rw [powAdd, q3, q2, q4 m, q1, h4 x]
      grind⟩
    exact hr.sf.radical hr.sn hSp (hr.dv.trans k5)
  have c1 := (cell_assoc hr.s hr.sn k4 k3).trans (cell_mul hp.s t1 hpt)
  have c2 := cell_mul hg.s t1 htg.symm
  rw [show (fun x => sg x * t x) = sq from funext fun x => (t2 x).symm] at c2
  have c3 := (c1.add (Eqc.of (A := fun x y => cell sg x y) (B := fun x y => cell sg x y) fun _ _ _ => rfl))
  have c4 := (Eqc.of (A := fun x y => cell sp x y) (B := fun x y => cell sp x y) fun _ _ _ => rfl).add c2.symm
  exact c3.trans ((Eqc.of fun x y _ => by show _ + _ + _ = _ + (_ + _); omega).trans c4)
end T
end Go.Proofs.YtjpalbonclgflaaGreat

/- Lists of integers as polynomial functions; explicit bounds: plain. -/
namespace Go.Proofs.YtjpalbonclgflaaGreat
namespace T
def evQ (l : List Int) (x : Rat) : Rat := l.foldr (fun (c : Int) (s : Rat) => s * x + (c : Rat)) 0
theorem evQ_cons (c : Int) (l : List Int) (x : Rat) : evQ (c :: l) x = evQ l x * x + (c : Rat) := rfl
theorem evQ_p : ∀ l : List Int, P (evQ l)
  | [] => .const 0
  | c :: l => (((evQ_p l).mul .id).add (.const c))
theorem evQ_snoc (l : List Int) (y : Int) (x : Rat) : evQ (l ++ [y]) x = (y : Rat) * x ^ l.length + evQ l x := by
  induction l with
  | nil => show (0 : Rat) * x + (y : Rat) = _ * x ^ 0 + 0; grind
  | cons c l ih => rw [List.cons_append, evQ_cons, ih, evQ_cons, List.length_cons, Rat.pow_succ]; grind
theorem evQ_lt (l : List Int) : Lt l.length (evQ l) := by
  induction l with
  | nil => exact fun _ => rfl
  | cons c l ih =>
    have h1 : Lt (l.length + 1) (fun _ => (c : Rat)) := Lt.mono (n := 1) ⟨(c : Rat), fun _ => 0, fun _ => rfl, fun x => by grind⟩ (by omega)
    exact (ih.xmul.add h1).congr fun x => by rw [evQ_cons]; grind
theorem castNe {y : Int} (h : y ≠ 0) : (y : Rat) ≠ 0 := fun h0 => h (Rat.intCast_inj.1 (h0.trans (show (0 : Rat) = ((0 : Int) : Rat) from rfl)))
theorem evQ_dg (l : List Int) {y : Int} (h : y ≠ 0) : Dg l.length (evQ (l ++ [y])) := ⟨(y : Rat), evQ l, castNe h, evQ_lt l, evQ_snoc l y⟩
theorem evQ_map (c : Int) (l : List Int) (x : Rat) : evQ (l.map (· * c)) x = (c : Rat) * evQ l x := by
  induction l with
  | nil => show (0 : Rat) = c * 0; grind
  | cons a l ih => rw [List.map_cons, evQ_cons, ih, evQ_cons, Rat.intCast_mul]; grind
def W (k : Nat) : Rat := (256 : Rat) ^ k
theorem W_pos (k : Nat) : 0 < W k := pow_ge (by grind) k
theorem W_add (a b : Nat) : W (a + b) = W a * W b := powAdd _ _ _
theorem W_one : W 1 = 256 := by unfold W; grind
theorem W_zero : W 0 = 1 := by unfold W; grind
theorem W_succ (k : Nat) : W (k + 1) = 256 * W k := by rw [W_add, W_one]; grind
theorem W_mono {a b : Nat} (h : a ≤ b) : W a ≤ W b := by
  induction h with
  | refl => exact Rat.le_refl
  | @step m _ ih => rw [W_succ]; have := W_pos m; grind
theorem W_ge (k : Nat) : 1 ≤ W k := by rw [← W_zero]; exact W_mono (Nat.zero_le k)
theorem W_nat (k : Nat) : W k = ((256 ^ k : Nat) : Rat) := by
  induction k with
  | zero => rfl
  | succ k ih => rw [W_succ, ih, Nat.pow_succ, Rat.natCast_mul, Rat.mul_comm]; rfl
theorem ab_zs {x : Int} {m : Nat} (h : x.natAbs < 256 ^ m) : ab (x : Rat) ≤ W m := by
  rw [W_nat]
  have h1 : (x : Rat) ≤ ((256 ^ m : Nat) : Rat) := by
    rw [← Rat.intCast_natCast]
    exact Rat.intCast_le_intCast.2 (by omega)
  have h2 : ((-x : Int) : Rat) ≤ ((256 ^ m : Nat) : Rat) := by
    rw [← Rat.intCast_natCast]
    exact Rat.intCast_le_intCast.2 (by omega)
  rw [Rat.intCast_neg] at h2
  exact ab_le h1 h2
theorem evQ_bd {l : List Int} {m r n : Nat} (hz : ∀ x ∈ l, x.natAbs < 256 ^ m) {x : Rat} (hx : ab x ≤ W r) (hn : l.length ≤ n) : ab (evQ l x) ≤ W (m + n * (r + 1)) := by
  induction l generalizing n with
  | nil => show ab 0 ≤ _; rw [ab_eq0]; exact Rat.le_of_lt (W_pos _)
  | cons c l ih =>
    obtain ⟨k, rfl⟩ : ∃ k, n = k + 1 := ⟨n - 1, by simp at hn; omega⟩
    have h1 := ih (n := k) (fun z hz' => hz z (by simp [hz'])) (by simp at hn; omega)
    have h2 := ab_zs (hz c (by simp))
    have h3 := ab_mul_le h1 hx
    rw [← W_add] at h3
    have h4 := ab_add (evQ l x * x) (c : Rat)
    rw [evQ_cons]
    have h5 : m + (k + 1) * (r + 1) = (m + k * (r + 1) + r) + 1 := by rw [Nat.add_mul]; omega
    rw [h5, W_succ]
    have h6 : W m ≤ W (m + k * (r + 1) + r) := W_mono (by omega)
    have h7 := W_pos (m + k * (r + 1) + r)
    grind
theorem evQ_lip {l : List Int} {m r n : Nat} (hz : ∀ x ∈ l, x.natAbs < 256 ^ m) (hn : l.length ≤ n) : Lip (W r) (evQ l) (W (m + n * (r + 1))) := by
  refine ⟨Rat.le_of_lt (W_pos _), fun x y hx hy => ?_⟩
  induction l generalizing n with
  | nil =>
    have e : evQ [] y - evQ [] x = 0 := by show (0 : Rat) - 0 = 0; grind
    rw [e, ab_eq0]
    exact Rat.mul_nonneg (Rat.le_of_lt (W_pos _)) (ab_nonneg _)
  | cons c l ih =>
    obtain ⟨k, rfl⟩ : ∃ k, n = k + 1 := ⟨n - 1, by simp at hn; omega⟩
    have h1 := ih (n := k) (fun z hz' => hz z (by simp [hz'])) (by simp at hn; omega)
    have h2 := evQ_bd (l := l) (m := m) (r := r) (n := k) (fun z hz' => hz z (by simp [hz'])) hx.ab (by simp at hn; omega)
    have e : evQ (c :: l) y - evQ (c :: l) x = (evQ l y - evQ l x) * y + evQ l x * (y - x) := by rw [evQ_cons, evQ_cons]; grind
    have h3 := ab_mul_le h1 hy.ab
    have h4 := ab_mul_le h2 (Rat.le_refl (a := ab (y - x)))
    have h5 := ab_add ((evQ l y - evQ l x) * y) (evQ l x * (y - x))
    rw [e]
    have h6 : m + (k + 1) * (r + 1) = (m + k * (r + 1) + r) + 1 := by rw [Nat.add_mul]; omega
    have h7 : W (m + k * (r + 1)) * ab (y - x) ≤ W (m + k * (r + 1) + r) * ab (y - x) := Rat.mul_le_mul_of_nonneg_right (W_mono (by omega)) (ab_nonneg _)
    have h8 : W (m + k * (r + 1)) * ab (y - x) * W r = W (m + k * (r + 1) + r) * ab (y - x) := by rw [W_add (m + k * (r + 1)) r]; grind
    rw [h6, W_succ]
    have h9 := Rat.mul_nonneg (Rat.le_of_lt (W_pos (m + k * (r + 1) + r))) (ab_nonneg (y - x))
    grind
def Ex (R : Rat) (k : Nat) (f g : Rat → Rat) : Prop := ∀ x, In R x → 1 ≤ W k * (ab (f x) + ab (g x))
theorem Ex.step {R : Rat} {k z : Nat} {f g h q : Rat → Rat} {a b Q A : Rat} (hE : Ex R k g h) (hQ : ∀ x, In R x → ab (q x) ≤ Q) (ha : ab a ≤ A) (hb : 1 ≤ b) (hr : ∀ x, a * f x = q x * g x - b * h x) (hz : Q + 1 + A ≤ W z) : Ex R (k + z) f g := fun x hx => by
  have h1 := hE x hx
  have h2 := hr x
  have h3 : b * h x = q x * g x - a * f x := by grind
  have h4 := ab_sub (q x * g x) (a * f x)
  rw [← h3, ab_mul, ab_mul, ab_mul, ab_pos (show 0 ≤ b by grind)] at h4
  have g0 := ab_nonneg (g x)
  have f0 := ab_nonneg (f x)
  have h0 := ab_nonneg (h x)
  have h5 : ab (q x) * ab (g x) ≤ Q * ab (g x) := Rat.mul_le_mul_of_nonneg_right (hQ x hx) g0
  have h6 : ab a * ab (f x) ≤ A * ab (f x) := Rat.mul_le_mul_of_nonneg_right ha f0
  have h7 : 1 * ab (h x) ≤ b * ab (h x) := Rat.mul_le_mul_of_nonneg_right hb h0
  have q0 : 0 ≤ Q := Rat.le_trans (ab_nonneg _) (hQ x hx)
  have a0 : 0 ≤ A := Rat.le_trans (ab_nonneg _) ha
  have h8 : (Q + 1 + A) * (ab (f x) + ab (g x)) ≤ W z * (ab (f x) + ab (g x)) := Rat.mul_le_mul_of_nonneg_right hz (by grind)
  have h9 := Rat.mul_nonneg q0 f0
  have h10 := Rat.mul_nonneg a0 g0
  have h11 : ab (g x) + ab (h x) ≤ W z * (ab (f x) + ab (g x)) := by grind
  have h12 : W k * (ab (g x) + ab (h x)) ≤ W k * (W z * (ab (f x) + ab (g x))) := Rat.mul_le_mul_of_nonneg_left h11 (Rat.le_of_lt (W_pos k))
  rw [W_add]; grind
theorem Ex.mono {R : Rat} {k j : Nat} {f g : Rat → Rat} (h : Ex R k f g) (hkj : k ≤ j) : Ex R j f g := fun x hx => by
  have h1 := h x hx
  have h2 : W k * (ab (f x) + ab (g x)) ≤ W j * (ab (f x) + ab (g x)) := Rat.mul_le_mul_of_nonneg_right (W_mono hkj) (by have := ab_nonneg (f x); have := ab_nonneg (g x); grind)
  grind
theorem Loc.sep {N : Rat → Rat → Int} {f f' : List Int} {F' : Rat → Rat} {k : Rat} (h : Loc N (evQ f)) (ha : Additive N) (hk : 0 < k) (hf : ∀ x, F' x = k * evQ f' x) (hD : D (evQ f) F') {r e m n D : Nat} (hE : Ex (W r) e (evQ f) (evQ f'))
    (h1 : ∀ x ∈ f, x.natAbs < 256 ^ m) (h2 : ∀ x ∈ f', x.natAbs < 256 ^ m) (hn1 : f.length ≤ n) (hn2 : f'.length ≤ n) (hD2 : e + (m + n * (r + 1)) + 2 ≤ D) {a b : Rat} (hab : a ≤ b) (hA : In (W r) a) (hB : In (W r) b) (hba : (b - a) * W D ≤ 1) : N a b ≤ 1 := by
  have e0 := W_pos e
  have hei : W e * (1 / W e) = 1 := by rw [Rat.mul_comm]; exact Rat.div_mul_cancel (by grind)
  have hcop : ∀ x, In (W r) x → 1 / W e ≤ ab (evQ f x) + ab (evQ f' x) := fun x hx => by
    have := hE x hx
    exact Rat.le_of_mul_le_mul_left (by rw [hei]; exact this) e0
  have hbd : (b - a) * (W (m + n * (r + 1)) + 1) ≤ 1 / W e / 2 / 2 := by
    have h3 : W e * (W (m + n * (r + 1)) + 1) * 4 ≤ W D := by
      have a1 : W (e + (m + n * (r + 1)) + 2) ≤ W D := W_mono hD2
      rw [W_succ, W_succ, W_add] at a1
      have a2 := Rat.mul_le_mul_of_nonneg_left (W_ge (m + n * (r + 1))) (Rat.le_of_lt e0)
      have a3 := Rat.mul_pos e0 (W_pos (m + n * (r + 1)))
      grind
    have h4 : (b - a) * (W e * (W (m + n * (r + 1)) + 1) * 4) ≤ (b - a) * W D := Rat.mul_le_mul_of_nonneg_left h3 (by grind)
    have h5 : W e * ((b - a) * (W (m + n * (r + 1)) + 1) * 4) ≤ W e * (1 / W e) := by rw [hei]; grind
    have h6 := Rat.le_of_mul_le_mul_left h5 e0
    grind
  exact h.one ha hk hf hD (div_pos (by grind) e0) hcop (evQ_lip h1 hn1) (evQ_lip h2 hn2) hbd hbd hab hA hB Rat.le_refl
end T
end Go.Proofs.YtjpalbonclgflaaGreat

/- How large the coefficients of gcd's rounds become: plain. -/
namespace Go.Proofs.YtjpalbonclgflaaGreat

theorem pow3_step {d : Nat} (h : 2 ≤ d) : 1 + d ≤ 3 ^ (d - 1) := by
  induction d with
  | zero => omega
  | succ d ih =>
    rcases Nat.lt_or_ge d 2 with h1 | h1
    · obtain rfl : d = 1 := by omega
      decide
    · have h2 := ih h1
      have e : d + 1 - 1 = (d - 1) + 1 := by omega
      rw [e, Nat.pow_succ]
      omega
def SizS (A L : Nat) (p : List Int × List Int) : Prop :=
  p.2.length = 0 ∧ (∃ s, (∀ x ∈ p.1, zs s x) ∧ s + 1 ≤ A * 3 ^ (L - p.1.length)) ∨
  p.1.length ≠ p.2.length ∧ p.1.length ≤ L ∧ p.2.length ≤ L ∧ ∃ s, (∀ x ∈ p.1, zs s x) ∧ (∀ x ∈ p.2, zs s x) ∧ s + 1 ≤ A * 3 ^ (L - max p.1.length p.2.length)
theorem gst_siz {A L : Nat} {p : List Int × List Int} (h : SizS A L p) : SizS A L (gst p) := by
  by_cases h0 : p.2.length = 0
  · rw [gst_nil h0]; exact h
  · rcases h with ⟨h1, -⟩ | ⟨hne, h1, h2, s, hs1, hs2, hs⟩
    · exact absurd h1 h0
    · by_cases h3 : p.1.length < p.2.length
      · rw [gst_swap h0 h3]
        exact .inr ⟨fun e => hne e.symm, h2, h1, s, hs2, hs1, by rw [Nat.max_comm]; exact hs⟩
      · rw [gst_div h0 h3]
        have hz := prm_zs (pdv_zs hs1 hs2).2
        have hl : (prm (pdv p.1 p.2).2).length < p.2.length := by rw [prm_length]; exact pdv_len (by omega)
        have hmx : max p.1.length p.2.length = p.1.length := by omega
        rw [hmx] at hs
        have hd := pow3_step (d := p.1.length - p.2.length + 1) (by omega)
        have hbig : s + (p.1.length - p.2.length + 1) * (s + 1) + 1 ≤ A * 3 ^ (L - p.2.length) := by
          have e1 : L - p.2.length = (L - p.1.length) + (p.1.length - p.2.length + 1 - 1) := by omega
          rw [e1, Nat.pow_add, ← Nat.mul_assoc]
          calc s + (p.1.length - p.2.length + 1) * (s + 1) + 1 = (s + 1) * (1 + (p.1.length - p.2.length + 1)) := by grind
            _ ≤ (A * 3 ^ (L - p.1.length)) * 3 ^ (p.1.length - p.2.length + 1 - 1) := Nat.mul_le_mul hs hd
        refine .inr ⟨by show p.2.length ≠ (prm _).length; omega, h2, by show (prm _).length ≤ L; omega, _, fun x hx => (hs2 x hx).mono ?_, hz, ?_⟩
        · have : s ≤ s + (p.1.length - p.2.length + 1) * (s + 1) := Nat.le_add_right _ _
          exact this
        · have hm2 : max p.2.length (prm (pdv p.1 p.2).2).length = p.2.length := by omega
          show _ ≤ A * 3 ^ (L - max p.2.length (prm (pdv p.1 p.2).2).length)
          rw [hm2]
          exact hbig
theorem gsts_siz {A L : Nat} {p : List Int × List Int} (h : SizS A L p) : ∀ n, SizS A L (gsts p n)
  | 0 => h
  | n + 1 => gst_siz (gsts_siz h n)
theorem SizS.fine {A L M : Nat} {p : List Int × List Int} (h : SizS A L p) (hp : 0 < p.1.length) (hM : A * 3 ^ (L - 1) ≤ M + 1) : GFine p M := by
  intro n
  have hpos := gsts_pos hp n
  have hk : ∀ {k s : Nat}, 1 ≤ k → s + 1 ≤ A * 3 ^ (L - k) → s ≤ M := fun {k s} hk hs => by
    have : A * 3 ^ (L - k) ≤ A * 3 ^ (L - 1) := Nat.mul_le_mul_left _ (Nat.pow_le_pow_right (by decide) (by omega))
    omega
  rcases gsts_siz h n with ⟨h0, s, h1, h2⟩ | ⟨-, -, -, s, h1, h2, h3⟩
  · exact ⟨fun x hx => (h1 x hx).mono (hk hpos h2), fun x hx => by rw [List.length_eq_zero_iff.1 h0] at hx; cases hx⟩
  · exact ⟨fun x hx => (h1 x hx).mono (hk (by omega) h3), fun x hx => (h2 x hx).mono (hk (by omega) h3)⟩
end Go.Proofs.YtjpalbonclgflaaGreat

/- A quotient of polynomials is not empty: plain. -/
namespace Go.Proofs.YtjpalbonclgflaaGreat

theorem getD_set_ne {l : List Int} {k n : Nat} {v : Int} (h : k ≠ n) : (l.set k v).getD n 0 = l.getD n 0 := by
  simp only [List.getD, List.getElem?_set, if_neg h]
theorem getD_set_eq {l : List Int} {n : Nat} {v : Int} (h : n < l.length) : (l.set n v).getD n 0 = v := by
  simp [List.getD, List.getElem?_set, h]
theorem dvS_top {c : Int} {b a : List Int} {n : Nat} : ∀ i, i ≤ n → (dvS c b n a (i + 1)).1.getD n 0 = a.getD (n + b.length - 1) 0 * c ^ i
  | 0 => fun _ => by
    rw [dvS]
    show (addT _ _ _).getD n 0 = _
    unfold addT
    rw [Nat.sub_zero, getD_set_eq (by rw [List.length_map, (dvS_length c b n a 0).1]; omega), getD_map_mul]
    have h0 : (dvS c b n a 0).1.getD n 0 = 0 := by simp [dvS, List.getD, List.getElem?_replicate]
    rw [h0]
    show 0 * c + a.getD (n + b.length - 1) 0 = _
    rw [Int.zero_mul, Int.zero_add, Int.pow_zero, Int.mul_one]
  | i + 1 => fun hi => by
    have h := dvS_top (c := c) (b := b) (a := a) (n := n) i (by omega)
    rw [dvS]
    show (addT _ _ _).getD n 0 = _
    unfold addT
    rw [getD_set_ne (by omega), getD_map_mul, h, Int.pow_succ, Int.mul_assoc]
theorem tzI_zero : ∀ (n : Nat) (l : List Int), l.length = n → tzI l = [] → ∀ x ∈ l, x = 0
  | 0, l, h, _ => fun x hx => by rw [List.length_eq_zero_iff.1 h] at hx; cases hx
  | n + 1, l, h, h1 => fun x hx => by
    rcases List.eq_nil_or_concat l with rfl | ⟨l0, y, rfl⟩
    · cases hx
    · rw [List.concat_eq_append] at *
      by_cases hy : y = 0
      · subst hy
        rw [tzI_snoc_zero] at h1
        rcases List.mem_append.1 hx with h2 | h2
        · exact tzI_zero n l0 (by simp at h; omega) h1 x h2
        · simpa using h2
      · rw [tzI_snoc_ne _ hy] at h1
        simp at h1
theorem tzI_pos {l : List Int} {n : Nat} (h : l.getD n 0 ≠ 0) : 0 < (tzI l).length := by
  rcases Nat.eq_zero_or_pos (tzI l).length with h0 | h0
  · exfalso
    have h1 := List.length_eq_zero_iff.1 h0
    have h1 := tzI_zero _ l rfl h1
    apply h
    rcases Nat.lt_or_ge n l.length with h2 | h2
    · rw [List.getD, List.getElem?_eq_getElem h2]
      exact h1 l[n] (List.getElem_mem _)
    · exact getD_ge h2
  · exact h0
theorem Ends.last {l : List Int} (h : Ends l) (h0 : 0 < l.length) : l.getD (l.length - 1) 0 ≠ 0 := by
  rcases List.eq_nil_or_concat l with rfl | ⟨l0, y, rfl⟩
  · simp at h0
  · rw [List.concat_eq_append] at *
    have := h _ _ rfl
    simp [List.getD]
    exact this
theorem pdv_q_pos {a b : List Int} (ha : Ends a) (hb : Ends b) (hb0 : 0 < b.length) (hab : b.length ≤ a.length) : 0 < (pdv a b).1.length := by
  unfold pdv
  rw [if_neg (by omega)]
  show 0 < (tzI _).length
  refine tzI_pos (n := a.length - b.length) ?_
  rw [dvS_top _ (Nat.le_refl _), getLast_getD]
  have e : a.length - b.length + b.length - 1 = a.length - 1 := by omega
  rw [e]
  exact Int.mul_ne_zero (ha.last (by omega)) (Int.pow_ne_zero (hb.last hb0))
def PrmOf (l : List Int) : Prop := ∃ y, l = prm y ∧ Ends y
theorem gsts_prm {p : List Int × List Int} (h1 : PrmOf p.1) (h2 : PrmOf p.2) (e1 : Ends p.1) (e2 : Ends p.2) : ∀ n, PrmOf (gsts p n).1 ∧ PrmOf (gsts p n).2
  | 0 => ⟨h1, h2⟩
  | n + 1 => by
    have h := gsts_prm h1 h2 e1 e2 n
    have he := gsts_ends e1 e2 n
    show PrmOf (gst (gsts p n)).1 ∧ PrmOf (gst (gsts p n)).2
    by_cases h0 : (gsts p n).2.length = 0
    · rw [gst_nil h0]; exact h
    · by_cases h3 : (gsts p n).1.length < (gsts p n).2.length
      · rw [gst_swap h0 h3]; exact ⟨h.2, h.1⟩
      · rw [gst_div h0 h3]; exact ⟨h.2, _, rfl, pdv_ends _ he.1⟩
theorem PrmOf.one {l : List Int} (h : PrmOf l) (h1 : l.length = 1) : l = [1] := by
  obtain ⟨y, rfl, he⟩ := h
  rw [prm_length] at h1
  match y, h1 with
  | [c], _ =>
    have hc : c ≠ 0 := he [] c rfl
    have hs : contS [c] = c := by
      unfold contS
      simp only [gcdL, List.foldl_cons, List.foldl_nil, Nat.gcd_zero_left, List.getLast?_singleton, Option.getD_some]
      split <;> omega
    show [c.fdiv (contS [c])] = [1]
    rw [hs, Int.fdiv_self hc]
end Go.Proofs.YtjpalbonclgflaaGreat

/- The program's operations on lists of coefficients, told by the functions' values: plain. -/
namespace Go.Proofs.YtjpalbonclgflaaGreat
namespace T
def sm (f : Nat → Rat) : Nat → Rat
  | 0 => 0
  | n + 1 => sm f n + f n
theorem sm_congr {f g : Nat → Rat} : ∀ {n : Nat}, (∀ i, i < n → f i = g i) → sm f n = sm g n
  | 0, _ => rfl
  | n + 1, h => by rw [sm, sm, sm_congr (fun i hi => h i (by omega)), h n (by omega)]
theorem sm_add (f g : Nat → Rat) : ∀ n, sm (fun i => f i + g i) n = sm f n + sm g n
  | 0 => by show (0 : Rat) = 0 + 0; grind
  | n + 1 => by rw [sm, sm, sm, sm_add f g n]; grind
theorem sm_smul (c : Rat) (f : Nat → Rat) : ∀ n, sm (fun i => c * f i) n = c * sm f n
  | 0 => by show (0 : Rat) = c * 0; grind
  | n + 1 => by rw [sm, sm, sm_smul c f n]; grind
theorem sm_split (f : Nat → Rat) (k : Nat) : ∀ m, sm f (k + m) = sm f k + sm (fun i => f (k + i)) m
  | 0 => by show sm f k = sm f k + 0; grind
  | m + 1 => by show sm f (k + m) + f (k + m) = sm f k + (sm _ m + f (k + m)); rw [sm_split f k m]; grind
theorem sm_zero {f : Nat → Rat} : ∀ {n : Nat}, (∀ i, i < n → f i = 0) → sm f n = 0
  | 0, _ => rfl
  | n + 1, h => by rw [sm, sm_zero (fun i hi => h i (by omega)), h n (by omega)]; grind
def cf (l : List Int) (i : Nat) : Rat := ((l.getD i 0 : Int) : Rat)
theorem cf_snoc {l : List Int} {y : Int} {i : Nat} (h : i < l.length) : cf (l ++ [y]) i = cf l i := by
  unfold cf; rw [List.getD, List.getD, List.getElem?_append_left h]
theorem cf_last (l : List Int) (y : Int) : cf (l ++ [y]) l.length = (y : Rat) := by unfold cf; simp [List.getD]
theorem evQ_sm (x : Rat) (l : List Int) : evQ l x = sm (fun i => cf l i * x ^ i) l.length := by
  induction h : l.length generalizing l with
  | zero => rw [List.length_eq_zero_iff.1 h]; rfl
  | succ n ih =>
    rcases List.eq_nil_or_concat l with rfl | ⟨l0, y, rfl⟩
    · cases h
    · rw [List.concat_eq_append] at *
      have h0 : l0.length = n := by simpa using h
      rw [evQ_snoc, ih l0 h0, sm, ← h0, cf_last, sm_congr (g := fun i => cf (l0 ++ [y]) i * x ^ i) (fun i hi => by rw [cf_snoc hi])]
      grind
theorem evQ_tz (x : Rat) (l : List Int) : evQ (tzI l) x = evQ l x := by
  induction h : l.length generalizing l with
  | zero => rw [List.length_eq_zero_iff.1 h]; rfl
  | succ n ih =>
    rcases List.eq_nil_or_concat l with rfl | ⟨l0, y, rfl⟩
    · cases h
    · rw [List.concat_eq_append] at *
      by_cases hy : y = 0
      · subst hy
        rw [tzI_snoc_zero, ih l0 (by simpa using h), evQ_snoc]
        show _ = (0 : Rat) * _ + _
        grind
      · rw [tzI_snoc_ne _ hy]
theorem evQ_set (x : Rat) (v : Int) : ∀ {l : List Int} {k : Nat}, k < l.length → evQ (l.set k v) x = evQ l x + ((v : Rat) - cf l k) * x ^ k
  | [], _, h => by simp at h
  | c :: l, 0, _ => by
    have e : cf (c :: l) 0 = (c : Rat) := rfl
    rw [List.set_cons_zero, evQ_cons, evQ_cons, e]; grind
  | c :: l, k + 1, h => by
    have e : cf (c :: l) (k + 1) = cf l k := rfl
    rw [List.set_cons_succ, evQ_cons, evQ_cons, e, evQ_set x v (by simpa using h), Rat.pow_succ]; grind
theorem evQ_addT (x : Rat) {q : List Int} {k : Nat} (t : Int) (h : k < q.length) : evQ (addT q k t) x = evQ q x + (t : Rat) * x ^ k := by
  unfold addT
  rw [evQ_set x _ h, Rat.intCast_add]
  unfold cf
  grind
theorem evQ_subT (x : Rat) (t : Int) {k : Nat} {b r : List Int} (h : k + b.length ≤ r.length) : evQ (subT t k b r b.length) x = evQ r x - (t : Rat) * x ^ k * evQ b x := by
  obtain ⟨m, hm⟩ : ∃ m, r.length = k + (b.length + m) := ⟨r.length - k - b.length, by omega⟩
  rw [evQ_sm x (subT _ _ _ _ _), subT_length, evQ_sm x r, evQ_sm x b]
  have h1 : ∀ i, i < r.length → cf (subT t k b r b.length) i * x ^ i = cf r i * x ^ i + (-(t : Rat)) * (if k ≤ i ∧ i < k + b.length then cf b (i - k) * x ^ i else 0) := fun i hi => by
    unfold cf
    rw [subT_getD _ _ _ _ _ _ hi]
    split
    · rw [Rat.intCast_sub, Rat.intCast_mul]; grind
    · grind
  rw [sm_congr h1, sm_add, sm_smul]
  have h2 : sm (fun i => if k ≤ i ∧ i < k + b.length then cf b (i - k) * x ^ i else 0) r.length = x ^ k * sm (fun i => cf b i * x ^ i) b.length := by
    rw [hm, sm_split, sm_split, sm_zero (fun i hi => by rw [if_neg (by omega)]), sm_zero (n := m) (fun i hi => by rw [if_neg (by omega)]), ← sm_smul]
    rw [sm_congr (f := fun i => if k ≤ k + i ∧ k + i < k + b.length then cf b (k + i - k) * x ^ (k + i) else 0) (g := fun i => x ^ k * (cf b i * x ^ i)) (fun i hi => by
      rw [if_pos (by omega), show k + i - k = i by omega, powAdd]; grind)]
    grind
  rw [h2]; grind
theorem D_sm (c : Nat → Rat) : ∀ n, D (fun x => sm (fun i => c i * x ^ i) n) (fun x => sm (fun i => c (i + 1) * ((i + 1 : Nat) : Rat) * x ^ i) (n - 1))
  | 0 => D.const 0
  | 1 => (D.const (c 0)).congr (fun x => by show 0 + c 0 * x ^ 0 = c 0; grind) (fun x => rfl)
  | n + 2 => ((D_sm c (n + 1)).add ((D.const (c (n + 1))).mul (D.pow n))).congr (fun x => rfl) (fun x => by
    show sm _ (n + 1) = sm _ n + _
    rw [sm]; grind)
theorem evQ_der (l : List Int) : D (evQ l) (evQ (der l)) := by
  refine (D_sm (cf l) l.length).congr (fun x => evQ_sm x l) (fun x => ?_)
  have hl : (der l).length = l.length - 1 := derT_length l l.length
  rw [evQ_sm x (der l), hl]
  refine sm_congr fun i hi => ?_
  have e : cf (der l) i = cf l (i + 1) * ((i + 1 : Nat) : Rat) := by
    unfold cf der derT
    rw [List.getD, List.getElem?_map, List.getElem?_range hi]
    show ((l.getD (i + 1) 0 * ((i + 1 : Nat) : Int) : Int) : Rat) = _
    rw [Rat.intCast_mul, Rat.intCast_natCast]
  rw [e]
theorem evQ_mapk {l : List Int} {g : Int → Int} {k : Rat} (h : ∀ y ∈ l, (y : Rat) = k * (g y : Rat)) (x : Rat) : evQ l x = k * evQ (l.map g) x := by
  induction l with
  | nil => show (0 : Rat) = k * 0; grind
  | cons c l ih => rw [List.map_cons, evQ_cons, evQ_cons, ih (fun y hy => h y (by simp [hy])), h c (by simp)]; grind
theorem fdiv_cast {x c : Int} (h : c ∣ x) : (x : Rat) = (c : Rat) * (x.fdiv c : Rat) := by
  rw [← Rat.intCast_mul]
  congr 1
  obtain ⟨k, rfl⟩ := h
  by_cases hc : c = 0
  · subst hc; simp
  · rw [Int.mul_fdiv_cancel_left _ hc]
theorem evQ_prm (l : List Int) (x : Rat) : evQ l x = (contS l : Rat) * evQ (prm l) x := evQ_mapk (fun _ hy => fdiv_cast (contS_dvd hy)) x
theorem contS_ne {l : List Int} (h : Ends l) (h0 : 0 < l.length) : contS l ≠ 0 := by
  have := h.gcd h0
  unfold contS
  split <;> omega
theorem evQ_red (l : List Int) (s : Int) (x : Rat) : evQ l x = (if s < 0 then -(gcdL l : Rat) else (gcdL l : Rat)) * evQ (red l s) x := by
  unfold red
  rw [evQ_tz]
  refine evQ_mapk (fun y hy => ?_) x
  have h := fdiv_cast (gcdL_dvd hy)
  rw [Rat.intCast_natCast] at h
  unfold redC
  split
  · rw [Rat.intCast_neg, h]; grind
  · exact h
theorem dvS_ev (c : Int) (b : List Int) (n : Nat) (a : List Int) (hn : a.length = n + b.length) (hb : 0 < b.length) (x : Rat) : ∀ i, i ≤ n + 1 → (c : Rat) ^ i * evQ a x = evQ (dvS c b n a i).1 x * evQ b x + evQ (dvS c b n a i).2 x
  | 0 => fun _ => by
    have e : ∀ m, evQ (List.replicate m 0) x = 0 := fun m => by
      induction m with
      | zero => rfl
      | succ m ih => rw [List.replicate_succ, evQ_cons, ih]; show (0 : Rat) * x + 0 = 0; grind
    rw [dvS]
    show _ = evQ (List.replicate (n + 1) 0) x * _ + evQ a x
    rw [e]; grind
  | i + 1 => fun hi => by
    have ih := dvS_ev c b n a hn hb x i (by omega)
    have hl := dvS_length c b n a i
    rw [dvS]
    show _ = evQ (addT _ _ _) x * _ + evQ (subT _ _ _ _ _) x
    rw [evQ_addT x _ (by rw [List.length_map, hl.1]; omega), evQ_subT x _ (by rw [List.length_map, hl.2]; omega), evQ_map, evQ_map, Rat.pow_succ]
    grind
theorem lastD {b : List Int} (h : Ends b) (h0 : 0 < b.length) : b.getLast?.getD 0 ≠ 0 := by rw [getLast_getD]; exact h.last h0
theorem pdv_ev {a b : List Int} (h : b.length ≤ a.length) (hb : 0 < b.length) (x : Rat) : ((b.getLast?.getD 0 : Int) : Rat) ^ (a.length - b.length + 1) * evQ a x = evQ (pdv a b).1 x * evQ b x + evQ (pdv a b).2 x := by
  unfold pdv
  rw [if_neg (by omega)]
  show _ = evQ (tzI _) x * _ + evQ (tzI _) x
  rw [evQ_tz, evQ_tz]
  exact dvS_ev _ b _ a (by omega) hb x _ (Nat.le_refl _)
theorem powNe {c : Rat} (h : c ≠ 0) : ∀ n : Nat, c ^ n ≠ 0
  | 0 => by grind
  | n + 1 => by rw [Rat.pow_succ]; exact mul_ne (powNe h n) h
theorem Ends.dg {l : List Int} (h : Ends l) (h0 : 0 < l.length) : Dg (l.length - 1) (evQ l) := by
  rcases List.eq_nil_or_concat l with rfl | ⟨l0, y, rfl⟩
  · simp at h0
  · rw [List.concat_eq_append] at *
    have := evQ_dg l0 (h _ _ rfl)
    simpa using this
theorem evQ_nil (x : Rat) : evQ [] x = 0 := rfl
theorem dvd_zero {f g : Rat → Rat} (h : ∀ x, g x = 0) : Dd f g := ⟨fun _ => 0, .const 0, fun x => by rw [h x]; grind⟩
theorem Dd.unscale {f g : Rat → Rat} {c : Rat} (hc : c ≠ 0) (h : Dd f (fun x => c * g x)) : Dd f g := by
  obtain ⟨q, q1, q2⟩ := h
  refine ⟨fun x => c⁻¹ * q x, (P.const _).mul q1, fun x => ?_⟩
  have h1 : c * g x = f x * q x := q2 x
  have h2 := Rat.mul_inv_cancel c hc
  have h3 : g x = c⁻¹ * (c * g x) := by grind
  rw [h3, h1]; grind
theorem Dd.scale {f g : Rat → Rat} (c : Rat) (h : Dd f g) : Dd f (fun x => c * g x) := by
  obtain ⟨q, q1, q2⟩ := h
  exact ⟨fun x => c * q x, (P.const _).mul q1, fun x => by show c * g x = _; rw [q2 x]; grind⟩
end T
end Go.Proofs.YtjpalbonclgflaaGreat

/- The greatest common divisor, the squarefree part and the Sturm chain, told by the functions' values: plain. -/
namespace Go.Proofs.YtjpalbonclgflaaGreat
namespace T
def Cb (a b f : Rat → Rat) : Prop := ∃ u v, P u ∧ P v ∧ ∀ x, f x = u x * a x + v x * b x
theorem Cb.left (a b : Rat → Rat) : Cb a b a := ⟨fun _ => 1, fun _ => 0, .const 1, .const 0, fun x => by grind⟩
theorem Cb.right (a b : Rat → Rat) : Cb a b b := ⟨fun _ => 0, fun _ => 1, .const 0, .const 1, fun x => by grind⟩
theorem Cb.comb {a b f g p q : Rat → Rat} (hp : P p) (hq : P q) : Cb a b f → Cb a b g → Cb a b (fun x => p x * f x + q x * g x) := fun ⟨u, v, u1, v1, h1⟩ ⟨s, t, s1, t1, h2⟩ =>
  ⟨fun x => p x * u x + q x * s x, fun x => p x * v x + q x * t x, (hp.mul u1).add (hq.mul s1), (hp.mul v1).add (hq.mul t1), fun x => by show p x * f x + q x * g x = _; rw [h1 x, h2 x]; grind⟩
theorem Cb.congr {a b f g : Rat → Rat} (h : Cb a b f) (e : ∀ x, g x = f x) : Cb a b g := by rw [show g = f from funext e]; exact h
theorem Cb.dvd {a b f d : Rat → Rat} : Cb a b f → Dd d a → Dd d b → Dd d f := fun ⟨u, v, u1, v1, h1⟩ ha hb => ((ha.mul u1).add (hb.mul v1)).congr fun x => by rw [h1 x]; grind
theorem prm_back {l : List Int} (h : Ends l) : ∃ k : Rat, ∀ x, evQ (prm l) x = k * evQ l x := by
  rcases Nat.eq_zero_or_pos l.length with h0 | h0
  · have e := List.length_eq_zero_iff.1 h0
    subst e
    exact ⟨0, fun x => by show (0 : Rat) = 0 * 0; grind⟩
  · have hc := castNe (contS_ne h h0)
    refine ⟨(contS l : Rat)⁻¹, fun x => ?_⟩
    rw [evQ_prm l x]
    have := Rat.mul_inv_cancel _ hc
    grind
theorem gst_ev {p : List Int × List Int} (e1 : Ends p.1) (e2 : Ends p.2) :
    Cb (evQ p.1) (evQ p.2) (evQ (gst p).1) ∧ Cb (evQ p.1) (evQ p.2) (evQ (gst p).2) ∧ ∀ d, Dd d (evQ (gst p).1) → Dd d (evQ (gst p).2) → Dd d (evQ p.1) ∧ Dd d (evQ p.2) := by
  by_cases h0 : p.2.length = 0
  · rw [gst_nil h0]; exact ⟨.left _ _, .right _ _, fun d h k => ⟨h, k⟩⟩
  · by_cases h3 : p.1.length < p.2.length
    · rw [gst_swap h0 h3]; exact ⟨.right _ _, .left _ _, fun d h k => ⟨k, h⟩⟩
    · rw [gst_div h0 h3]
      show Cb _ _ (evQ p.2) ∧ Cb _ _ (evQ (prm (pdv p.1 p.2).2)) ∧ ∀ d, Dd d (evQ p.2) → Dd d (evQ (prm (pdv p.1 p.2).2)) → _
      have hev := pdv_ev (a := p.1) (b := p.2) (by omega) (by omega)
      have hc := powNe (castNe (lastD e2 (by omega))) (p.1.length - p.2.length + 1)
      obtain ⟨C, hC⟩ : ∃ C, C = ((p.2.getLast?.getD 0 : Int) : Rat) ^ (p.1.length - p.2.length + 1) := ⟨_, rfl⟩
      rw [← hC] at hc
      simp only [← hC] at hev
      obtain ⟨k, hk⟩ := prm_back (pdv_ends (a := p.1) p.2 e1)
      refine ⟨.right _ _, ?_, fun d h1 h2 => ⟨?_, h1⟩⟩
      · exact (Cb.comb (P.const (k * C)) ((P.const (-k)).mul (evQ_p (pdv p.1 p.2).1)) (.left _ _) (.right _ _)).congr fun x => by rw [hk x]; have := hev x; grind
      · refine Dd.unscale hc ?_
        exact ((h1.mul (evQ_p (pdv p.1 p.2).1)).add (h2.scale (contS (pdv p.1 p.2).2 : Rat))).congr fun x => by rw [hev x, ← evQ_prm]; grind
theorem Cb.trans {a b c d f : Rat → Rat} : Cb c d f → Cb a b c → Cb a b d → Cb a b f := fun ⟨u, v, u1, v1, h1⟩ h2 h3 => (Cb.comb u1 v1 h2 h3).congr h1
theorem gsts_ev {p : List Int × List Int} (e1 : Ends p.1) (e2 : Ends p.2) : ∀ n,
    Cb (evQ p.1) (evQ p.2) (evQ (gsts p n).1) ∧ Cb (evQ p.1) (evQ p.2) (evQ (gsts p n).2) ∧ ∀ d, Dd d (evQ (gsts p n).1) → Dd d (evQ (gsts p n).2) → Dd d (evQ p.1) ∧ Dd d (evQ p.2)
  | 0 => ⟨.left _ _, .right _ _, fun d h k => ⟨h, k⟩⟩
  | n + 1 => by
    have h := gsts_ev e1 e2 n
    have he := gsts_ends e1 e2 n
    have k := gst_ev he.1 he.2
    exact ⟨k.1.trans h.1 h.2.1, k.2.1.trans h.1 h.2.1, fun d a b => h.2.2 d (k.2.2 d a b).1 (k.2.2 d a b).2⟩
theorem prm_ev_dvd {d : Rat → Rat} {l : List Int} (h : Dd d (evQ (prm l))) : Dd d (evQ l) := (h.scale (contS l : Rat)).congr fun x => evQ_prm l x
theorem gcdP_ev {a b : List Int} (ha : Ends a) (hb : Ends b) (h0 : 0 < a.length) : Dd (evQ (gcdP a b)) (evQ a) ∧ Dd (evQ (gcdP a b)) (evQ b) ∧ Cb (evQ a) (evQ b) (evQ (gcdP a b)) ∧ Ends (gcdP a b) ∧ 0 < (gcdP a b).length := by
  have hs := gsts_ev (p := (prm a, prm b)) (prm_ends ha) (prm_ends hb) (prm b).length
  have h2 : (gsts (prm a, prm b) (prm b).length).2.length = 0 := by have := gsts_len (prm a, prm b) (prm b).length; simp only at this; omega
  have hen := gsts_ends (p := (prm a, prm b)) (prm_ends ha) (prm_ends hb) (prm b).length
  have hpo := gsts_pos (p := (prm a, prm b)) (by show 0 < (prm a).length; rw [prm_length]; exact h0) (prm b).length
  have hg : gcdP a b = (gsts (prm a, prm b) (prm b).length).1 := rfl
  rw [hg]
  have hd := hs.2.2 _ (Dd.refl _) (dvd_zero fun x => by rw [List.length_eq_zero_iff.1 h2]; rfl)
  obtain ⟨k1, hk1⟩ := prm_back ha
  obtain ⟨k2, hk2⟩ := prm_back hb
  refine ⟨prm_ev_dvd hd.1, prm_ev_dvd hd.2, hs.1.trans ?_ ?_, hen.1, hpo⟩
  · exact (Cb.comb (P.const k1) (P.const 0) (.left _ _) (.right _ _)).congr fun x => by show evQ (prm a) x = _; rw [hk1 x]; grind
  · exact (Cb.comb (P.const 0) (P.const k2) (.left _ _) (.right _ _)).congr fun x => by show evQ (prm b) x = _; rw [hk2 x]; grind
theorem rest_zero {a b : List Int} (hb : Ends b) (h0 : 0 < b.length) (hab : b.length ≤ a.length) (h : Dd (evQ b) (evQ a)) : ∀ x, evQ (pdv a b).2 x = 0 := by
  have hev := pdv_ev hab h0
  obtain ⟨C, hC⟩ : ∃ C, C = ((b.getLast?.getD 0 : Int) : Rat) ^ (a.length - b.length + 1) := ⟨_, rfl⟩
  simp only [← hC] at hev
  have hd : Dd (evQ b) (evQ (pdv a b).2) := ((h.scale C).add (((Dd.refl (evQ b)).mul ((P.const (-1)).mul (evQ_p (pdv a b).1))))).congr fun x => by rw [hev x]; grind
  by_cases hz : ∀ x, evQ (pdv a b).2 x = 0
  · exact hz
  · exfalso
    have hn : Nz (evQ (pdv a b).2) := Classical.not_forall.1 hz
    obtain ⟨w, w1, w2⟩ := hd
    have hwn : Nz w := hn.left ⟨evQ b, evQ_p b, fun x => by rw [w2 x]; grind⟩
    obtain ⟨m, hm⟩ := hwn.dg w1
    have h5 := (Ends.dg hb h0).mul hm
    rw [show (fun x => evQ b x * w x) = evQ (pdv a b).2 from funext fun x => (w2 x).symm] at h5
    have := pdv_len (a := a) h0
    exact h5.ne ((evQ_lt _).mono (by omega))
theorem sqf_ev {l : List Int} (he : Ends l) (h0 : 0 < l.length) (hle : (gcdP l (der l)).length ≤ l.length) : Rad (evQ l) (evQ (sqf l)) := by
  obtain ⟨g1, g2, g3, g4, g5⟩ := gcdP_ev he (der_ends he) h0
  obtain ⟨g, hg⟩ : ∃ g, g = gcdP l (der l) := ⟨_, rfl⟩
  have hsq : sqf l = prm (pdv l g).1 := by rw [hg]; rfl
  rw [← hg] at g1 g2 g3 g4 g5 hle
  have hev := pdv_ev hle g5
  have hc := powNe (castNe (lastD g4 g5)) (l.length - g.length + 1)
  obtain ⟨C, hC⟩ : ∃ C, C = ((g.getLast?.getD 0 : Int) : Rat) ^ (l.length - g.length + 1) := ⟨_, rfl⟩
  rw [← hC] at hc
  simp only [← hC] at hev
  have hrest := rest_zero g4 g5 hle g1
  have hk := castNe (contS_ne (pdv_ends1 l g) (pdv_q_pos he g4 g5 hle))
  have hq := evQ_prm (pdv l g).1
  rw [← hsq] at hq
  obtain ⟨k, hkk⟩ : ∃ k : Rat, k = (contS (pdv l g).1 : Rat) := ⟨_, rfl⟩
  rw [← hkk] at hk
  simp only [← hkk] at hq
  have hCi := Rat.mul_inv_cancel C hc
  have hki := Rat.mul_inv_cancel k hk
  have hD := evQ_der l
  have hn : Nz (evQ l) := (Ends.dg he h0).nez
  obtain ⟨t, t1, t2⟩ := g2
  obtain ⟨u, v, u1, v1, huv⟩ := g3
  have hG : P (fun x => k * C⁻¹ * evQ g x) := (P.const _).mul (evQ_p g)
  have e1 : ∀ x, evQ l x = evQ (sqf l) x * (k * C⁻¹ * evQ g x) := fun x => by
    have a1 := hev x; rw [hrest x, hq x] at a1
    have a2 : evQ l x = C⁻¹ * (C * evQ l x) := by grind
    rw [a2, a1]; grind
  have e2 : ∀ x, evQ (der l) x = k⁻¹ * C * t x * (k * C⁻¹ * evQ g x) := fun x => by
    rw [t2 x]; grind
  have e3 : ∀ x, k * C⁻¹ * evQ g x = k * C⁻¹ * u x * evQ l x + k * C⁻¹ * v x * evQ (der l) x := fun x => by rw [huv x]; grind
  have ht : P (fun x => k⁻¹ * C * t x) := (P.const _).mul t1
  exact {
    p := evQ_p l
    nz := hn
    s := evQ_p _
    sf := sf_quot hD hn hG (evQ_p _) ht ((P.const _).mul u1) ((P.const _).mul v1) e1 e2 e3
    dv := ⟨_, hG, e1⟩
    pw := quot_pow hD hn hG (evQ_p _) ht e1 e2 }
end T
end Go.Proofs.YtjpalbonclgflaaGreat

