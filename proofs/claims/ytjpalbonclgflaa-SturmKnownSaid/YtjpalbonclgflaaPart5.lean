/- Contracts and plain laws of several functions, one after the other: SizP, SizQ, StuH, StuI. -/
import Derived.Test.YtjpalbonclgflaaPart17
import Derived.Test.YtjpalbonclgflaaPart3
/- How large the coefficients of gcd's rounds become: plain. -/
namespace Go.Proofs.Ytjpalbonclgflaa

theorem pow3_step {d : Nat} (h : 2 ≤ d) : 1 + d ≤ 3 ^ (d - 1) := by
  induction d with
  | zero => omega
  | succ d ih =>
    rcases Nat.lt_or_ge d 2 with h1 | h1
    · obtain rfl : d = 1 := by omega
      decide
    · have h2 := ih h1
      have e : d + 1 - 1 = (d - 1) + 1 := by omega
      rw [e, Nat.pow_succ]
      omega
def SizS (A L : Nat) (p : List Int × List Int) : Prop :=
  p.2.length = 0 ∧ (∃ s, (∀ x ∈ p.1, zs s x) ∧ s + 1 ≤ A * 3 ^ (L - p.1.length)) ∨
  p.1.length ≠ p.2.length ∧ p.1.length ≤ L ∧ p.2.length ≤ L ∧ ∃ s, (∀ x ∈ p.1, zs s x) ∧ (∀ x ∈ p.2, zs s x) ∧ s + 1 ≤ A * 3 ^ (L - max p.1.length p.2.length)
theorem gst_siz {A L : Nat} {p : List Int × List Int} (h : SizS A L p) : SizS A L (gst p) := by
  by_cases h0 : p.2.length = 0
  · rw [gst_nil h0]; exact h
  · rcases h with ⟨h1, -⟩ | ⟨hne, h1, h2, s, hs1, hs2, hs⟩
    · exact absurd h1 h0
    · by_cases h3 : p.1.length < p.2.length
      · rw [gst_swap h0 h3]
        exact .inr ⟨fun e => hne e.symm, h2, h1, s, hs2, hs1, by rw [Nat.max_comm]; exact hs⟩
      · rw [gst_div h0 h3]
        have hz := prm_zs (pdv_zs hs1 hs2).2
        have hl : (prm (pdv p.1 p.2).2).length < p.2.length := by rw [prm_length]; exact pdv_len (by omega)
        have hmx : max p.1.length p.2.length = p.1.length := by omega
        rw [hmx] at hs
        have hd := pow3_step (d := p.1.length - p.2.length + 1) (by omega)
        have hbig : s + (p.1.length - p.2.length + 1) * (s + 1) + 1 ≤ A * 3 ^ (L - p.2.length) := by
          have e1 : L - p.2.length = (L - p.1.length) + (p.1.length - p.2.length + 1 - 1) := by omega
          rw [e1, Nat.pow_add, ← Nat.mul_assoc]
          calc s + (p.1.length - p.2.length + 1) * (s + 1) + 1 = (s + 1) * (1 + (p.1.length - p.2.length + 1)) := by grind
            _ ≤ (A * 3 ^ (L - p.1.length)) * 3 ^ (p.1.length - p.2.length + 1 - 1) := Nat.mul_le_mul hs hd
        refine .inr ⟨by show p.2.length ≠ (prm _).length; omega, h2, by show (prm _).length ≤ L; omega, _, fun x hx => (hs2 x hx).mono ?_, hz, ?_⟩
        · have : s ≤ s + (p.1.length - p.2.length + 1) * (s + 1) := Nat.le_add_right _ _
          exact this
        · have hm2 : max p.2.length (prm (pdv p.1 p.2).2).length = p.2.length := by omega
          show _ ≤ A * 3 ^ (L - max p.2.length (prm (pdv p.1 p.2).2).length)
          rw [hm2]
          exact hbig
theorem gsts_siz {A L : Nat} {p : List Int × List Int} (h : SizS A L p) : ∀ n, SizS A L (gsts p n)
  | 0 => h
  | n + 1 => gst_siz (gsts_siz h n)
theorem SizS.fine {A L M : Nat} {p : List Int × List Int} (h : SizS A L p) (hp : 0 < p.1.length) (hM : A * 3 ^ (L - 1) ≤ M + 1) : GFine p M := by
  intro n
  have hpos := gsts_pos hp n
  have hk : ∀ {k s : Nat}, 1 ≤ k → s + 1 ≤ A * 3 ^ (L - k) → s ≤ M := fun {k s} hk hs => by
    have : A * 3 ^ (L - k) ≤ A * 3 ^ (L - 1) := Nat.mul_le_mul_left _ (Nat.pow_le_pow_right (by decide) (by omega))
    omega
  rcases gsts_siz h n with ⟨h0, s, h1, h2⟩ | ⟨-, -, -, s, h1, h2, h3⟩
  · exact ⟨fun x hx => (h1 x hx).mono (hk hpos h2), fun x hx => by rw [List.length_eq_zero_iff.1 h0] at hx; cases hx⟩
  · exact ⟨fun x hx => (h1 x hx).mono (hk (by omega) h3), fun x hx => (h2 x hx).mono (hk (by omega) h3)⟩
end Go.Proofs.Ytjpalbonclgflaa

/- A quotient of polynomials is not empty: plain. -/
namespace Go.Proofs.Ytjpalbonclgflaa

theorem getD_set_ne {l : List Int} {k n : Nat} {v : Int} (h : k ≠ n) : (l.set k v).getD n 0 = l.getD n 0 := by
  simp only [List.getD, List.getElem?_set, if_neg h]
theorem getD_set_eq {l : List Int} {n : Nat} {v : Int} (h : n < l.length) : (l.set n v).getD n 0 = v := by
  simp [List.getD, List.getElem?_set, h]
theorem dvS_top {c : Int} {b a : List Int} {n : Nat} : ∀ i, i ≤ n → (dvS c b n a (i + 1)).1.getD n 0 = a.getD (n + b.length - 1) 0 * c ^ i
  | 0 => fun _ => by
    rw [dvS]
    show (addT _ _ _).getD n 0 = _
    unfold addT
    rw [Nat.sub_zero, getD_set_eq (by rw [List.length_map, (dvS_length c b n a 0).1]; omega), getD_map_mul]
    have h0 : (dvS c b n a 0).1.getD n 0 = 0 := by simp [dvS, List.getD, List.getElem?_replicate]
    rw [h0]
    show 0 * c + a.getD (n + b.length - 1) 0 = _
    rw [Int.zero_mul, Int.zero_add, Int.pow_zero, Int.mul_one]
  | i + 1 => fun hi => by
    have h := dvS_top (c := c) (b := b) (a := a) (n := n) i (by omega)
    rw [dvS]
    show (addT _ _ _).getD n 0 = _
    unfold addT
    rw [getD_set_ne (by omega), getD_map_mul, h, Int.pow_succ, Int.mul_assoc]
theorem tzI_zero : ∀ (n : Nat) (l : List Int), l.length = n → tzI l = [] → ∀ x ∈ l, x = 0
  | 0, l, h, _ => fun x hx => by rw [List.length_eq_zero_iff.1 h] at hx; cases hx
  | n + 1, l, h, h1 => fun x hx => by
    rcases List.eq_nil_or_concat l with rfl | ⟨l0, y, rfl⟩
    · cases hx
    · rw [List.concat_eq_append] at *
      by_cases hy : y = 0
      · subst hy
        rw [tzI_snoc_zero] at h1
        rcases List.mem_append.1 hx with h2 | h2
        · exact tzI_zero n l0 (by simp at h; omega) h1 x h2
        · simpa using h2
      · rw [tzI_snoc_ne _ hy] at h1
        simp at h1
theorem tzI_pos {l : List Int} {n : Nat} (h : l.getD n 0 ≠ 0) : 0 < (tzI l).length := by
  rcases Nat.eq_zero_or_pos (tzI l).length with h0 | h0
  · exfalso
    have h1 := List.length_eq_zero_iff.1 h0
    have h1 := tzI_zero _ l rfl h1
    apply h
    rcases Nat.lt_or_ge n l.length with h2 | h2
    · rw [List.getD, List.getElem?_eq_getElem h2]
      exact h1 l[n] (List.getElem_mem _)
    · exact getD_ge h2
  · exact h0
theorem Ends.last {l : List Int} (h : Ends l) (h0 : 0 < l.length) : l.getD (l.length - 1) 0 ≠ 0 := by
  rcases List.eq_nil_or_concat l with rfl | ⟨l0, y, rfl⟩
  · simp at h0
  · rw [List.concat_eq_append] at *
    have := h _ _ rfl
    simp [List.getD]
    exact this
theorem pdv_q_pos {a b : List Int} (ha : Ends a) (hb : Ends b) (hb0 : 0 < b.length) (hab : b.length ≤ a.length) : 0 < (pdv a b).1.length := by
  unfold pdv
  rw [if_neg (by omega)]
  show 0 < (tzI _).length
  refine tzI_pos (n := a.length - b.length) ?_
  rw [dvS_top _ (Nat.le_refl _), getLast_getD]
  have e : a.length - b.length + b.length - 1 = a.length - 1 := by omega
  rw [e]
  exact Int.mul_ne_zero (ha.last (by omega)) (Int.pow_ne_zero (hb.last hb0))
def PrmOf (l : List Int) : Prop := ∃ y, l = prm y ∧ Ends y
theorem gsts_prm {p : List Int × List Int} (h1 : PrmOf p.1) (h2 : PrmOf p.2) (e1 : Ends p.1) (e2 : Ends p.2) : ∀ n, PrmOf (gsts p n).1 ∧ PrmOf (gsts p n).2
  | 0 => ⟨h1, h2⟩
  | n + 1 => by
    have h := gsts_prm h1 h2 e1 e2 n
    have he := gsts_ends e1 e2 n
    show PrmOf (gst (gsts p n)).1 ∧ PrmOf (gst (gsts p n)).2
    by_cases h0 : (gsts p n).2.length = 0
    · rw [gst_nil h0]; exact h
    · by_cases h3 : (gsts p n).1.length < (gsts p n).2.length
      · rw [gst_swap h0 h3]; exact ⟨h.2, h.1⟩
      · rw [gst_div h0 h3]; exact ⟨h.2, _, rfl, pdv_ends _ he.1⟩
theorem PrmOf.one {l : List Int} (h : PrmOf l) (h1 : l.length = 1) : l = [1] := by
  obtain ⟨y, rfl, he⟩ := h
  rw [prm_length] at h1
  match y, h1 with
  | [c], _ =>
    have hc : c ≠ 0 := he [] c rfl
    have hs : contS [c] = c := by
      unfold contS
      simp only [gcdL, List.foldl_cons, List.foldl_nil, Nat.gcd_zero_left, List.getLast?_singleton, Option.getD_some]
      split <;> omega
    show [c.fdiv (contS [c])] = [1]
    rw [hs, Int.fdiv_self hc]
end Go.Proofs.Ytjpalbonclgflaa

/- The program's operations on lists of coefficients, told by the functions' values: plain. -/
namespace Go.Proofs.Ytjpalbonclgflaa
namespace T
def sm (f : Nat → Rat) : Nat → Rat
  | 0 => 0
  | n + 1 => sm f n + f n
theorem sm_congr {f g : Nat → Rat} : ∀ {n : Nat}, (∀ i, i < n → f i = g i) → sm f n = sm g n
  | 0, _ => rfl
  | n + 1, h => by rw [sm, sm, sm_congr (fun i hi => h i (by omega)), h n (by omega)]
theorem sm_add (f g : Nat → Rat) : ∀ n, sm (fun i => f i + g i) n = sm f n + sm g n
  | 0 => by show (0 : Rat) = 0 + 0; grind
  | n + 1 => by rw [sm, sm, sm, sm_add f g n]; grind
theorem sm_smul (c : Rat) (f : Nat → Rat) : ∀ n, sm (fun i => c * f i) n = c * sm f n
  | 0 => by show (0 : Rat) = c * 0; grind
  | n + 1 => by rw [sm, sm, sm_smul c f n]; grind
theorem sm_split (f : Nat → Rat) (k : Nat) : ∀ m, sm f (k + m) = sm f k + sm (fun i => f (k + i)) m
  | 0 => by show sm f k = sm f k + 0; grind
  | m + 1 => by show sm f (k + m) + f (k + m) = sm f k + (sm _ m + f (k + m)); rw [sm_split f k m]; grind
theorem sm_zero {f : Nat → Rat} : ∀ {n : Nat}, (∀ i, i < n → f i = 0) → sm f n = 0
  | 0, _ => rfl
  | n + 1, h => by rw [sm, sm_zero (fun i hi => h i (by omega)), h n (by omega)]; grind
def cf (l : List Int) (i : Nat) : Rat := ((l.getD i 0 : Int) : Rat)
theorem cf_snoc {l : List Int} {y : Int} {i : Nat} (h : i < l.length) : cf (l ++ [y]) i = cf l i := by
  unfold cf; rw [List.getD, List.getD, List.getElem?_append_left h]
theorem cf_last (l : List Int) (y : Int) : cf (l ++ [y]) l.length = (y : Rat) := by unfold cf; simp [List.getD]
theorem evQ_sm (x : Rat) (l : List Int) : evQ l x = sm (fun i => cf l i * x ^ i) l.length := by
  induction h : l.length generalizing l with
  | zero => rw [List.length_eq_zero_iff.1 h]; rfl
  | succ n ih =>
    rcases List.eq_nil_or_concat l with rfl | ⟨l0, y, rfl⟩
    · cases h
    · rw [List.concat_eq_append] at *
      have h0 : l0.length = n := by simpa using h
      rw [evQ_snoc, ih l0 h0, sm, ← h0, cf_last, sm_congr (g := fun i => cf (l0 ++ [y]) i * x ^ i) (fun i hi => by rw [cf_snoc hi])]
      grind
theorem evQ_tz (x : Rat) (l : List Int) : evQ (tzI l) x = evQ l x := by
  induction h : l.length generalizing l with
  | zero => rw [List.length_eq_zero_iff.1 h]; rfl
  | succ n ih =>
    rcases List.eq_nil_or_concat l with rfl | ⟨l0, y, rfl⟩
    · cases h
    · rw [List.concat_eq_append] at *
      by_cases hy : y = 0
      · subst hy
        rw [tzI_snoc_zero, ih l0 (by simpa using h), evQ_snoc]
        show _ = (0 : Rat) * _ + _
        grind
      · rw [tzI_snoc_ne _ hy]
theorem evQ_set (x : Rat) (v : Int) : ∀ {l : List Int} {k : Nat}, k < l.length → evQ (l.set k v) x = evQ l x + ((v : Rat) - cf l k) * x ^ k
  | [], _, h => by simp at h
  | c :: l, 0, _ => by
    have e : cf (c :: l) 0 = (c : Rat) := rfl
    rw [List.set_cons_zero, evQ_cons, evQ_cons, e]; grind
  | c :: l, k + 1, h => by
    have e : cf (c :: l) (k + 1) = cf l k := rfl
    rw [List.set_cons_succ, evQ_cons, evQ_cons, e, evQ_set x v (by simpa using h), Rat.pow_succ]; grind
theorem evQ_addT (x : Rat) {q : List Int} {k : Nat} (t : Int) (h : k < q.length) : evQ (addT q k t) x = evQ q x + (t : Rat) * x ^ k := by
  unfold addT
  rw [evQ_set x _ h, Rat.intCast_add]
  unfold cf
  grind
theorem evQ_subT (x : Rat) (t : Int) {k : Nat} {b r : List Int} (h : k + b.length ≤ r.length) : evQ (subT t k b r b.length) x = evQ r x - (t : Rat) * x ^ k * evQ b x := by
  obtain ⟨m, hm⟩ : ∃ m, r.length = k + (b.length + m) := ⟨r.length - k - b.length, by omega⟩
  rw [evQ_sm x (subT _ _ _ _ _), subT_length, evQ_sm x r, evQ_sm x b]
  have h1 : ∀ i, i < r.length → cf (subT t k b r b.length) i * x ^ i = cf r i * x ^ i + (-(t : Rat)) * (if k ≤ i ∧ i < k + b.length then cf b (i - k) * x ^ i else 0) := fun i hi => by
    unfold cf
    rw [subT_getD _ _ _ _ _ _ hi]
    split
    · rw [Rat.intCast_sub, Rat.intCast_mul]; grind
    · grind
  rw [sm_congr h1, sm_add, sm_smul]
  have h2 : sm (fun i => if k ≤ i ∧ i < k + b.length then cf b (i - k) * x ^ i else 0) r.length = x ^ k * sm (fun i => cf b i * x ^ i) b.length := by
    rw [hm, sm_split, sm_split, sm_zero (fun i hi => by rw [if_neg (by omega)]), sm_zero (n := m) (fun i hi => by rw [if_neg (by omega)]), ← sm_smul]
    rw [sm_congr (f := fun i => if k ≤ k + i ∧ k + i < k + b.length then cf b (k + i - k) * x ^ (k + i) else 0) (g := fun i => x ^ k * (cf b i * x ^ i)) (fun i hi => by
      rw [if_pos (by omega), show k + i - k = i by omega, powAdd]; grind)]
    grind
  rw [h2]; grind
theorem D_sm (c : Nat → Rat) : ∀ n, D (fun x => sm (fun i => c i * x ^ i) n) (fun x => sm (fun i => c (i + 1) * ((i + 1 : Nat) : Rat) * x ^ i) (n - 1))
  | 0 => D.const 0
  | 1 => (D.const (c 0)).congr (fun x => by show 0 + c 0 * x ^ 0 = c 0; grind) (fun x => rfl)
  | n + 2 => ((D_sm c (n + 1)).add ((D.const (c (n + 1))).mul (D.pow n))).congr (fun x => rfl) (fun x => by
    show sm _ (n + 1) = sm _ n + _
    rw [sm]; grind)
theorem evQ_der (l : List Int) : D (evQ l) (evQ (der l)) := by
  refine (D_sm (cf l) l.length).congr (fun x => evQ_sm x l) (fun x => ?_)
  have hl : (der l).length = l.length - 1 := derT_length l l.length
  rw [evQ_sm x (der l), hl]
  refine sm_congr fun i hi => ?_
  have e : cf (der l) i = cf l (i + 1) * ((i + 1 : Nat) : Rat) := by
    unfold cf der derT
    rw [List.getD, List.getElem?_map, List.getElem?_range hi]
    show ((l.getD (i + 1) 0 * ((i + 1 : Nat) : Int) : Int) : Rat) = _
    rw [Rat.intCast_mul, Rat.intCast_natCast]
  rw [e]
theorem evQ_mapk {l : List Int} {g : Int → Int} {k : Rat} (h : ∀ y ∈ l, (y : Rat) = k * (g y : Rat)) (x : Rat) : evQ l x = k * evQ (l.map g) x := by
  induction l with
  | nil => show (0 : Rat) = k * 0; grind
  | cons c l ih => rw [List.map_cons, evQ_cons, evQ_cons, ih (fun y hy => h y (by simp [hy])), h c (by simp)]; grind
theorem fdiv_cast {x c : Int} (h : c ∣ x) : (x : Rat) = (c : Rat) * (x.fdiv c : Rat) := by
  rw [← Rat.intCast_mul]
  congr 1
  obtain ⟨k, rfl⟩ := h
  by_cases hc : c = 0
  · subst hc; simp
  · rw [Int.mul_fdiv_cancel_left _ hc]
theorem evQ_prm (l : List Int) (x : Rat) : evQ l x = (contS l : Rat) * evQ (prm l) x := evQ_mapk (fun _ hy => fdiv_cast (contS_dvd hy)) x
theorem contS_ne {l : List Int} (h : Ends l) (h0 : 0 < l.length) : contS l ≠ 0 := by
  have := h.gcd h0
  unfold contS
  split <;> omega
theorem evQ_red (l : List Int) (s : Int) (x : Rat) : evQ l x = (if s < 0 then -(gcdL l : Rat) else (gcdL l : Rat)) * evQ (red l s) x := by
  unfold red
  rw [evQ_tz]
  refine evQ_mapk (fun y hy => ?_) x
  have h := fdiv_cast (gcdL_dvd hy)
  rw [Rat.intCast_natCast] at h
  unfold redC
  split
  · rw [Rat.intCast_neg, h]; grind
  · exact h
theorem dvS_ev (c : Int) (b : List Int) (n : Nat) (a : List Int) (hn : a.length = n + b.length) (hb : 0 < b.length) (x : Rat) : ∀ i, i ≤ n + 1 → (c : Rat) ^ i * evQ a x = evQ (dvS c b n a i).1 x * evQ b x + evQ (dvS c b n a i).2 x
  | 0 => fun _ => by
    have e : ∀ m, evQ (List.replicate m 0) x = 0 := fun m => by
      induction m with
      | zero => rfl
      | succ m ih => rw [List.replicate_succ, evQ_cons, ih]; show (0 : Rat) * x + 0 = 0; grind
    rw [dvS]
    show _ = evQ (List.replicate (n + 1) 0) x * _ + evQ a x
    rw [e]; grind
  | i + 1 => fun hi => by
    have ih := dvS_ev c b n a hn hb x i (by omega)
    have hl := dvS_length c b n a i
    rw [dvS]
    show _ = evQ (addT _ _ _) x * _ + evQ (subT _ _ _ _ _) x
    rw [evQ_addT x _ (by rw [List.length_map, hl.1]; omega), evQ_subT x _ (by rw [List.length_map, hl.2]; omega), evQ_map, evQ_map, Rat.pow_succ]
    grind
theorem lastD {b : List Int} (h : Ends b) (h0 : 0 < b.length) : b.getLast?.getD 0 ≠ 0 := by rw [getLast_getD]; exact h.last h0
theorem pdv_ev {a b : List Int} (h : b.length ≤ a.length) (hb : 0 < b.length) (x : Rat) : ((b.getLast?.getD 0 : Int) : Rat) ^ (a.length - b.length + 1) * evQ a x = evQ (pdv a b).1 x * evQ b x + evQ (pdv a b).2 x := by
  unfold pdv
  rw [if_neg (by omega)]
  show _ = evQ (tzI _) x * _ + evQ (tzI _) x
  rw [evQ_tz, evQ_tz]
  exact dvS_ev _ b _ a (by omega) hb x _ (Nat.le_refl _)
theorem powNe {c : Rat} (h : c ≠ 0) : ∀ n : Nat, c ^ n ≠ 0
  | 0 => by grind
  | n + 1 => by rw [Rat.pow_succ]; exact mul_ne (powNe h n) h
theorem Ends.dg {l : List Int} (h : Ends l) (h0 : 0 < l.length) : Dg (l.length - 1) (evQ l) := by
  rcases List.eq_nil_or_concat l with rfl | ⟨l0, y, rfl⟩
  · simp at h0
  · rw [List.concat_eq_append] at *
    have := evQ_dg l0 (h _ _ rfl)
    simpa using this
theorem evQ_nil (x : Rat) : evQ [] x = 0 := rfl
theorem dvd_zero {f g : Rat → Rat} (h : ∀ x, g x = 0) : Dd f g := ⟨fun _ => 0, .const 0, fun x => by rw [h x]; grind⟩
theorem Dd.unscale {f g : Rat → Rat} {c : Rat} (hc : c ≠ 0) (h : Dd f (fun x => c * g x)) : Dd f g := by
  obtain ⟨q, q1, q2⟩ := h
  refine ⟨fun x => c⁻¹ * q x, (P.const _).mul q1, fun x => ?_⟩
  have h1 : c * g x = f x * q x := q2 x
  have h2 := Rat.mul_inv_cancel c hc
  have h3 : g x = c⁻¹ * (c * g x) := by grind
  rw [h3, h1]; grind
theorem Dd.scale {f g : Rat → Rat} (c : Rat) (h : Dd f g) : Dd f (fun x => c * g x) := by
  obtain ⟨q, q1, q2⟩ := h
  exact ⟨fun x => c * q x, (P.const _).mul q1, fun x => by show c * g x = _; rw [q2 x]; grind⟩
end T
end Go.Proofs.Ytjpalbonclgflaa

/- The greatest common divisor, the squarefree part and the Sturm chain, told by the functions' values: plain. -/
namespace Go.Proofs.Ytjpalbonclgflaa
namespace T
def Cb (a b f : Rat → Rat) : Prop := ∃ u v, P u ∧ P v ∧ ∀ x, f x = u x * a x + v x * b x
theorem Cb.left (a b : Rat → Rat) : Cb a b a := ⟨fun _ => 1, fun _ => 0, .const 1, .const 0, fun x => by grind⟩
theorem Cb.right (a b : Rat → Rat) : Cb a b b := ⟨fun _ => 0, fun _ => 1, .const 0, .const 1, fun x => by grind⟩
theorem Cb.comb {a b f g p q : Rat → Rat} (hp : P p) (hq : P q) : Cb a b f → Cb a b g → Cb a b (fun x => p x * f x + q x * g x) := fun ⟨u, v, u1, v1, h1⟩ ⟨s, t, s1, t1, h2⟩ =>
  ⟨fun x => p x * u x + q x * s x, fun x => p x * v x + q x * t x, (hp.mul u1).add (hq.mul s1), (hp.mul v1).add (hq.mul t1), fun x => by show p x * f x + q x * g x = _; rw [h1 x, h2 x]; grind⟩
theorem Cb.congr {a b f g : Rat → Rat} (h : Cb a b f) (e : ∀ x, g x = f x) : Cb a b g := by rw [show g = f from funext e]; exact h
theorem Cb.dvd {a b f d : Rat → Rat} : Cb a b f → Dd d a → Dd d b → Dd d f := fun ⟨u, v, u1, v1, h1⟩ ha hb => ((ha.mul u1).add (hb.mul v1)).congr fun x => by rw [h1 x]; grind
theorem prm_back {l : List Int} (h : Ends l) : ∃ k : Rat, ∀ x, evQ (prm l) x = k * evQ l x := by
  rcases Nat.eq_zero_or_pos l.length with h0 | h0
  · have e := List.length_eq_zero_iff.1 h0
    subst e
    exact ⟨0, fun x => by show (0 : Rat) = 0 * 0; grind⟩
  · have hc := castNe (contS_ne h h0)
    refine ⟨(contS l : Rat)⁻¹, fun x => ?_⟩
    rw [evQ_prm l x]
    have := Rat.mul_inv_cancel _ hc
    grind
theorem gst_ev {p : List Int × List Int} (e1 : Ends p.1) (e2 : Ends p.2) :
    Cb (evQ p.1) (evQ p.2) (evQ (gst p).1) ∧ Cb (evQ p.1) (evQ p.2) (evQ (gst p).2) ∧ ∀ d, Dd d (evQ (gst p).1) → Dd d (evQ (gst p).2) → Dd d (evQ p.1) ∧ Dd d (evQ p.2) := by
  by_cases h0 : p.2.length = 0
  · rw [gst_nil h0]; exact ⟨.left _ _, .right _ _, fun d h k => ⟨h, k⟩⟩
  · by_cases h3 : p.1.length < p.2.length
    · rw [gst_swap h0 h3]; exact ⟨.right _ _, .left _ _, fun d h k => ⟨k, h⟩⟩
    · rw [gst_div h0 h3]
      show Cb _ _ (evQ p.2) ∧ Cb _ _ (evQ (prm (pdv p.1 p.2).2)) ∧ ∀ d, Dd d (evQ p.2) → Dd d (evQ (prm (pdv p.1 p.2).2)) → _
      have hev := pdv_ev (a := p.1) (b := p.2) (by omega) (by omega)
      have hc := powNe (castNe (lastD e2 (by omega))) (p.1.length - p.2.length + 1)
      obtain ⟨C, hC⟩ : ∃ C, C = ((p.2.getLast?.getD 0 : Int) : Rat) ^ (p.1.length - p.2.length + 1) := ⟨_, rfl⟩
      rw [← hC] at hc
      simp only [← hC] at hev
      obtain ⟨k, hk⟩ := prm_back (pdv_ends (a := p.1) p.2 e1)
      refine ⟨.right _ _, ?_, fun d h1 h2 => ⟨?_, h1⟩⟩
      · exact (Cb.comb (P.const (k * C)) ((P.const (-k)).mul (evQ_p (pdv p.1 p.2).1)) (.left _ _) (.right _ _)).congr fun x => by rw [hk x]; have := hev x; grind
      · refine Dd.unscale hc ?_
        exact ((h1.mul (evQ_p (pdv p.1 p.2).1)).add (h2.scale (contS (pdv p.1 p.2).2 : Rat))).congr fun x => by rw [hev x, ← evQ_prm]; grind
theorem Cb.trans {a b c d f : Rat → Rat} : Cb c d f → Cb a b c → Cb a b d → Cb a b f := fun ⟨u, v, u1, v1, h1⟩ h2 h3 => (Cb.comb u1 v1 h2 h3).congr h1
theorem gsts_ev {p : List Int × List Int} (e1 : Ends p.1) (e2 : Ends p.2) : ∀ n,
    Cb (evQ p.1) (evQ p.2) (evQ (gsts p n).1) ∧ Cb (evQ p.1) (evQ p.2) (evQ (gsts p n).2) ∧ ∀ d, Dd d (evQ (gsts p n).1) → Dd d (evQ (gsts p n).2) → Dd d (evQ p.1) ∧ Dd d (evQ p.2)
  | 0 => ⟨.left _ _, .right _ _, fun d h k => ⟨h, k⟩⟩
  | n + 1 => by
    have h := gsts_ev e1 e2 n
    have he := gsts_ends e1 e2 n
    have k := gst_ev he.1 he.2
    exact ⟨k.1.trans h.1 h.2.1, k.2.1.trans h.1 h.2.1, fun d a b => h.2.2 d (k.2.2 d a b).1 (k.2.2 d a b).2⟩
theorem prm_ev_dvd {d : Rat → Rat} {l : List Int} (h : Dd d (evQ (prm l))) : Dd d (evQ l) := (h.scale (contS l : Rat)).congr fun x => evQ_prm l x
theorem gcdP_ev {a b : List Int} (ha : Ends a) (hb : Ends b) (h0 : 0 < a.length) : Dd (evQ (gcdP a b)) (evQ a) ∧ Dd (evQ (gcdP a b)) (evQ b) ∧ Cb (evQ a) (evQ b) (evQ (gcdP a b)) ∧ Ends (gcdP a b) ∧ 0 < (gcdP a b).length := by
  have hs := gsts_ev (p := (prm a, prm b)) (prm_ends ha) (prm_ends hb) (prm b).length
  have h2 : (gsts (prm a, prm b) (prm b).length).2.length = 0 := by have := gsts_len (prm a, prm b) (prm b).length; simp only at this; omega
  have hen := gsts_ends (p := (prm a, prm b)) (prm_ends ha) (prm_ends hb) (prm b).length
  have hpo := gsts_pos (p := (prm a, prm b)) (by show 0 < (prm a).length; rw [prm_length]; exact h0) (prm b).length
  have hg : gcdP a b = (gsts (prm a, prm b) (prm b).length).1 := rfl
  rw [hg]
  have hd := hs.2.2 _ (Dd.refl _) (dvd_zero fun x => by rw [List.length_eq_zero_iff.1 h2]; rfl)
  obtain ⟨k1, hk1⟩ := prm_back ha
  obtain ⟨k2, hk2⟩ := prm_back hb
  refine ⟨prm_ev_dvd hd.1, prm_ev_dvd hd.2, hs.1.trans ?_ ?_, hen.1, hpo⟩
  · exact (Cb.comb (P.const k1) (P.const 0) (.left _ _) (.right _ _)).congr fun x => by show evQ (prm a) x = _; rw [hk1 x]; grind
  · exact (Cb.comb (P.const 0) (P.const k2) (.left _ _) (.right _ _)).congr fun x => by show evQ (prm b) x = _; rw [hk2 x]; grind
theorem rest_zero {a b : List Int} (hb : Ends b) (h0 : 0 < b.length) (hab : b.length ≤ a.length) (h : Dd (evQ b) (evQ a)) : ∀ x, evQ (pdv a b).2 x = 0 := by
  have hev := pdv_ev hab h0
  obtain ⟨C, hC⟩ : ∃ C, C = ((b.getLast?.getD 0 : Int) : Rat) ^ (a.length - b.length + 1) := ⟨_, rfl⟩
  simp only [← hC] at hev
  have hd : Dd (evQ b) (evQ (pdv a b).2) := ((h.scale C).add (((Dd.refl (evQ b)).mul ((P.const (-1)).mul (evQ_p (pdv a b).1))))).congr fun x => by rw [hev x]; grind
  by_cases hz : ∀ x, evQ (pdv a b).2 x = 0
  · exact hz
  · exfalso
    have hn : Nz (evQ (pdv a b).2) := Classical.not_forall.1 hz
    obtain ⟨w, w1, w2⟩ := hd
    have hwn : Nz w := hn.left ⟨evQ b, evQ_p b, fun x => by rw [w2 x]; grind⟩
    obtain ⟨m, hm⟩ := hwn.dg w1
    have h5 := (Ends.dg hb h0).mul hm
    rw [show (fun x => evQ b x * w x) = evQ (pdv a b).2 from funext fun x => (w2 x).symm] at h5
    have := pdv_len (a := a) h0
    exact h5.ne ((evQ_lt _).mono (by omega))
theorem sqf_ev {l : List Int} (he : Ends l) (h0 : 0 < l.length) (hle : (gcdP l (der l)).length ≤ l.length) : Rad (evQ l) (evQ (sqf l)) := by
  obtain ⟨g1, g2, g3, g4, g5⟩ := gcdP_ev he (der_ends he) h0
  obtain ⟨g, hg⟩ : ∃ g, g = gcdP l (der l) := ⟨_, rfl⟩
  have hsq : sqf l = prm (pdv l g).1 := by rw [hg]; rfl
  rw [← hg] at g1 g2 g3 g4 g5 hle
  have hev := pdv_ev hle g5
  have hc := powNe (castNe (lastD g4 g5)) (l.length - g.length + 1)
  obtain ⟨C, hC⟩ : ∃ C, C = ((g.getLast?.getD 0 : Int) : Rat) ^ (l.length - g.length + 1) := ⟨_, rfl⟩
  rw [← hC] at hc
  simp only [← hC] at hev
  have hrest := rest_zero g4 g5 hle g1
  have hk := castNe (contS_ne (pdv_ends1 l g) (pdv_q_pos he g4 g5 hle))
  have hq := evQ_prm (pdv l g).1
  rw [← hsq] at hq
  obtain ⟨k, hkk⟩ : ∃ k : Rat, k = (contS (pdv l g).1 : Rat) := ⟨_, rfl⟩
  rw [← hkk] at hk
  simp only [← hkk] at hq
  have hCi := Rat.mul_inv_cancel C hc
  have hki := Rat.mul_inv_cancel k hk
  have hD := evQ_der l
  have hn : Nz (evQ l) := (Ends.dg he h0).nez
  obtain ⟨t, t1, t2⟩ := g2
  obtain ⟨u, v, u1, v1, huv⟩ := g3
  have hG : P (fun x => k * C⁻¹ * evQ g x) := (P.const _).mul (evQ_p g)
  have e1 : ∀ x, evQ l x = evQ (sqf l) x * (k * C⁻¹ * evQ g x) := fun x => by
    have a1 := hev x; rw [hrest x, hq x] at a1
    have a2 : evQ l x = C⁻¹ * (C * evQ l x) := by grind
    rw [a2, a1]; grind
  have e2 : ∀ x, evQ (der l) x = k⁻¹ * C * t x * (k * C⁻¹ * evQ g x) := fun x => by
    rw [t2 x]; grind
  have e3 : ∀ x, k * C⁻¹ * evQ g x = k * C⁻¹ * u x * evQ l x + k * C⁻¹ * v x * evQ (der l) x := fun x => by rw [huv x]; grind
  have ht : P (fun x => k⁻¹ * C * t x) := (P.const _).mul t1
  exact {
    p := evQ_p l
    nz := hn
    s := evQ_p _
    sf := sf_quot hD hn hG (evQ_p _) ht ((P.const _).mul u1) ((P.const _).mul v1) e1 e2 e3
    dv := ⟨_, hG, e1⟩
    pw := quot_pow hD hn hG (evQ_p _) ht e1 e2 }
end T
end Go.Proofs.Ytjpalbonclgflaa

