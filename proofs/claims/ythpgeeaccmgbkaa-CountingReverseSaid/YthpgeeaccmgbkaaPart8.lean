/- Contracts and plain laws of several functions, one after the other: PlainD, NeckC, PlainMx, PsA. -/
import Derived.Test.YthpgeeaccmgbkaaPart9
import Derived.Test.YthpgeeaccmgbkaaAdj
import Derived.Test.YthpgeeaccmgbkaaProdM
/- Sums; the paths to one state; plain. -/
namespace Go.Proofs.Ythpgeeaccmgbkaa
open Go.RowKit

theorem sum_zero' {α : Type} (l : List α) : (l.map fun _ => (0 : Int)).sum = 0 := by
  induction l with
  | nil => rfl
  | cons x l ih => simp [ih]
theorem sum_add' {α : Type} (l : List α) (f g : α → Int) : (l.map fun x => f x + g x).sum = (l.map f).sum + (l.map g).sum := by
  induction l with
  | nil => rfl
  | cons x l ih => simp only [List.map_cons, List.sum_cons, ih]; omega
theorem sum_swap {α β : Type} (l : List α) (m : List β) (f : α → β → Int) : (l.map fun x => (m.map fun y => f x y).sum).sum = (m.map fun y => (l.map fun x => f x y).sum).sum := by
  induction l with
  | nil => simp only [List.map_nil, List.sum_nil]; exact (sum_zero' m).symm
  | cons x l ih => simp only [List.map_cons, List.sum_cons, ih]; exact (sum_add' m _ _).symm
theorem sum_filter' {α : Type} (l : List α) (q : α → Bool) (f : α → Int) : ((l.filter q).map f).sum = (l.map fun x => if q x = true then f x else 0).sum := by
  induction l with
  | nil => rfl
  | cons x l ih =>
    cases h : q x with
    | true => simp [List.filter_cons, h, ih]
    | false => simp [List.filter_cons, h, ih]
def ind (t : Int) : Int → Bool := fun x => x == t
theorem cw_ind0 (es : List E3) (s t : Int) : cw es (ind t) 0 s = if s = t then 1 else 0 := by
  unfold ind; rw [cw]; simp
end Go.Proofs.Ythpgeeaccmgbkaa

/- The closed paths of a graph, counted by least periods; plain. -/
namespace Go.Proofs.Ythpgeeaccmgbkaa
open Go.RowKit

/-- The paths of n edges from s to t, as the edges' places. -/
def wk (es : List E3) (t : Int) : Nat → Int → List (List Nat)
  | 0, s => if s = t then [[]] else []
  | n + 1, s => (es.zipIdx.filter fun x => x.1.f == s).flatMap fun x => (wk es t n x.1.t).map (x.2 :: ·)
theorem flat_len {α β : Type} (f : α → List β) : ∀ l : List α, ((l.flatMap f).length : Int) = (l.map fun x => ((f x).length : Int)).sum
  | [] => rfl
  | a :: l => by rw [List.flatMap_cons, List.length_append, List.map_cons, List.sum_cons, ← flat_len f l]; simp
theorem wk_length (es : List E3) (t : Int) : ∀ (n : Nat) (s : Int), ((wk es t n s).length : Int) = cw es (ind t) n s
  | 0, s => by
    rw [cw_ind0, wk]
    split <;> rfl
  | n + 1, s => by
    rw [wk, flat_len, cw]
    have h1 : (fun x : E3 × Nat => (((wk es t n x.1.t).map (x.2 :: ·)).length : Int)) = (fun e : E3 => cw es (ind t) n e.t) ∘ Prod.fst := by
      funext x
      rw [List.length_map, wk_length es t n]; rfl
    rw [h1, ← List.map_map]
    have h2 : ((es.zipIdx.filter fun x => x.1.f == s).map Prod.fst) = es.filter fun e => e.f == s := by
      conv => rhs; rw [← List.zipIdx_map_fst 0 es]
      rw [List.filter_map]; rfl
    rw [h2]
/-- An edge's ends, by its place. -/
def eF (es : List E3) (i : Nat) : Int := (es[i]?.map E3.f).getD 0
def eT (es : List E3) (i : Nat) : Int := (es[i]?.map E3.t).getD 0
theorem eFT {es : List E3} {i : Nat} {e : E3} (h : es[i]? = some e) : eF es i = e.f ∧ eT es i = e.t := by simp [eF, eT, h]
/-- l leads from s to t. -/
def PT (es : List E3) : Int → List Nat → Int → Prop
  | s, [], t => s = t
  | s, i :: l, t => i < es.length ∧ eF es i = s ∧ PT es (eT es i) l t
theorem mem_wk {es : List E3} {t : Int} : ∀ {n : Nat} {s : Int} {l : List Nat}, l ∈ wk es t n s ↔ l.length = n ∧ PT es s l t
  | 0, s, l => by
    rw [wk]
    cases l with
    | nil => by_cases h : s = t <;> simp [h, PT]
    | cons a l => by_cases h : s = t <;> simp [h]
  | n + 1, s, l => by
    rw [wk, List.mem_flatMap]
    constructor
    · rintro ⟨x, hx, hl⟩
      obtain ⟨h1, h2⟩ := List.mem_filter.1 hx
      have h3 := List.mem_zipIdx_iff_getElem?.1 h1
      obtain ⟨l', hl', rfl⟩ := List.mem_map.1 hl
      obtain ⟨h4, h5⟩ := mem_wk.1 hl'
      obtain ⟨e1, e2⟩ := eFT h3
      refine ⟨by simp [h4], (List.getElem?_eq_some_iff.1 h3).1, by rw [e1]; simpa using h2, ?_⟩
      rw [e2]; exact h5
    · rintro ⟨h1, h2⟩
      cases l with
      | nil => cases h1
      | cons i l =>
        obtain ⟨h3, h4, h5⟩ := h2
        have h6 : es[i]? = some es[i] := List.getElem?_eq_getElem h3
        obtain ⟨e1, e2⟩ := eFT h6
        refine ⟨(es[i], i), List.mem_filter.2 ⟨List.mem_zipIdx_iff_getElem?.2 h6, ?_⟩, List.mem_map.2 ⟨l, mem_wk.2 ⟨by simpa using h1, ?_⟩, rfl⟩⟩
        · simp [← e1, h4]
        · rw [← e2]; exact h5
theorem wk_nodup (es : List E3) (t : Int) : ∀ (n : Nat) (s : Int), (wk es t n s).Nodup
  | 0, s => by rw [wk]; split <;> simp
  | n + 1, s => by
    rw [wk]
    refine List.pairwise_flatMap.2 ⟨fun x _ => List.pairwise_map.2 ((wk_nodup es t n x.1.t).imp fun {a b} h e => h (List.cons.inj e).2), ?_⟩
    have hz : (es.zipIdx).Pairwise fun a b => a.2 ≠ b.2 := by
      have : (es.zipIdx.map Prod.snd).Nodup := by
        rw [List.zipIdx_map_snd]
        exact List.nodup_range'
      exact List.pairwise_map.1 this
    refine (hz.filter _).imp fun {a b} h x hx y hy e => ?_
    obtain ⟨x', -, rfl⟩ := List.mem_map.1 hx
    obtain ⟨y', -, rfl⟩ := List.mem_map.1 hy
    exact h (List.cons.inj e).1
def eR (es : List E3) (i j : Nat) : Bool := decide (eT es i = eF es j)
theorem pt_chain {es : List E3} {t : Int} : ∀ {l : List Nat} {i : Nat} {s : Int}, PT es s (i :: l) t ↔
    eF es i = s ∧ (∀ j, j ≤ l.length → (i :: l).getD j 0 < es.length) ∧ (∀ j, j < l.length → eT es ((i :: l).getD j 0) = eF es ((i :: l).getD (j + 1) 0)) ∧ eT es ((i :: l).getD l.length 0) = t
  | [], i, s => by
    constructor
    · rintro ⟨h1, h2, h3⟩
      exact ⟨h2, fun j hj => by obtain rfl : j = 0 := by simpa using hj
                                exact h1, fun j hj => by simp at hj, h3⟩
    · rintro ⟨h1, h2, -, h4⟩
      exact ⟨h2 0 (Nat.zero_le _), h1, h4⟩
  | k :: l, i, s => by
    have ih := pt_chain (es := es) (t := t) (l := l) (i := k) (s := eT es i)
    constructor
    · rintro ⟨h1, h2, h3⟩
      obtain ⟨k1, k2, k3, k4⟩ := ih.1 h3
      refine ⟨h2, fun j hj => ?_, fun j hj => ?_, k4⟩
      · cases j with
        | zero => exact h1
        | succ j => exact k2 j (by simpa using hj)
      · cases j with
        | zero => exact k1.symm
        | succ j => exact k3 j (by simpa using hj)
    · rintro ⟨h1, h2, h3, h4⟩
      refine ⟨h2 0 (Nat.zero_le _), h1, ih.2 ⟨(h3 0 (by simp)).symm, fun j hj => h2 (j + 1) (by simpa using hj), fun j hj => h3 (j + 1) (by simpa using hj), h4⟩⟩
/-- The closed paths of n edges. -/
def clW (es : List E3) (S n : Nat) : List (List Nat) := (List.range S).flatMap fun (s : Nat) => wk es (s : Int) n (s : Int)
/-- Their number. -/
def clN (es : List E3) (S n : Nat) : Int := ((List.range S).map fun (s : Nat) => cw es (ind (s : Int)) n (s : Int)).sum
theorem clW_length (es : List E3) (S n : Nat) : ((clW es S n).length : Int) = clN es S n := by
  unfold clW clN
  rw [flat_len]
  congr 1
  exact List.map_congr_left fun s _ => wk_length es _ n _
theorem clW_nodup (es : List E3) (S : Nat) {n : Nat} (hn : 0 < n) : (clW es S n).Nodup := by
  refine List.pairwise_flatMap.2 ⟨fun s _ => wk_nodup es _ n _, ?_⟩
  refine List.nodup_range.imp fun {a b} h x hx y hy e => h ?_
  subst e
  obtain ⟨h1, h2⟩ := mem_wk.1 hx
  obtain ⟨-, h3⟩ := mem_wk.1 hy
  cases x with
  | nil => simp at h1; omega
  | cons i l =>
    have e1 := h2.2.1
    have e2 := h3.2.1
    omega
theorem clW_mem {es : List E3} {S : Nat} (hin : InS S es) {n : Nat} (hn : 0 < n) (l : List Nat) : l ∈ clW es S n ↔ Cyc (eR es) es.length n l := by
  unfold clW
  rw [List.mem_flatMap]
  constructor
  · rintro ⟨s, -, hl⟩
    obtain ⟨h1, h2⟩ := mem_wk.1 hl
    cases l with
    | nil => simp at h1; omega
    | cons i l =>
      obtain ⟨k1, k2, k3, k4⟩ := pt_chain.1 h2
      have hnl : n = l.length + 1 := by simpa using h1.symm
      refine ⟨h1, fun j hj => ⟨k2 j (by omega), ?_⟩⟩
      unfold eR
      rw [decide_eq_true_eq]
      rcases Nat.lt_or_ge j l.length with hlt | hge
      · rw [Nat.mod_eq_of_lt (by omega)]; exact k3 j hlt
      · obtain rfl : j = l.length := by omega
        rw [hnl, Nat.mod_self, k4]; exact k1.symm
  · rintro ⟨h1, h2⟩
    cases l with
    | nil => simp at h1; omega
    | cons i l =>
      have hnl : n = l.length + 1 := by simpa using h1.symm
      have hi := (h2 0 hn).1
      rw [List.getD_cons_zero] at hi
      have h6 : es[i]? = some es[i] := List.getElem?_eq_getElem hi
      have hS := hin es[i] (List.mem_of_getElem? h6)
      obtain ⟨e1, e2⟩ := eFT h6
      have hr : ∀ j, j < n → eT es ((i :: l).getD j 0) = eF es ((i :: l).getD ((j + 1) % n) 0) := fun j hj => of_decide_eq_true (h2 j hj).2
      refine ⟨(eF es i).toNat, List.mem_range.2 (by omega), mem_wk.2 ⟨h1, ?_⟩⟩
      have hs : (((eF es i).toNat : Nat) : Int) = eF es i := by omega
      rw [hs]
      refine pt_chain.2 ⟨rfl, fun j hj => (h2 j (by omega)).1, fun j hj => ?_, ?_⟩
      · have := hr j (by omega)
        rwa [Nat.mod_eq_of_lt (by omega)] at this
      · have := hr l.length (by omega)
        rw [← hnl, Nat.mod_self] at this
        exact this
/-- THE NECKLACES: of each length d a multiple of d closed paths has the least period d; those of length n are, for the divisors d of n, these. -/
theorem necklace {es : List E3} {S : Nat} (hin : InS S es) : ∃ P : Nat → Nat, (∀ d, 0 < d → d ∣ P d) ∧
    ∀ n, 0 < n → clN es S n = (((List.range (n + 1)).map fun d => if 0 < d ∧ n % d = 0 then P d else 0).sum : Nat) := by
  refine ⟨fun d => ((clW es S d).filter (perB d)).length, fun d hd => prim_dvd (fun n hn => clW_nodup es S hn) (fun n hn l => clW_mem hin hn l) hd, fun n hn => ?_⟩
  rw [← clW_length, closed_parts (fun n hn => clW_nodup es S hn) (fun n hn l => clW_mem hin hn l) hn]
end Go.Proofs.Ythpgeeaccmgbkaa

/- The powers of a graph's matrix count paths; plain. -/
namespace Go.Proofs.Ythpgeeaccmgbkaa
open Go.RowKit

/-- A path of a + b edges: a edges to some state, then b edges. -/
theorem cw_comp {S : Nat} {es : List E3} (hin : InS S es) (k : Int) (b : Nat) : ∀ (a : Nat) (i : Nat), i < S →
    ((List.range S).map fun (j : Nat) => cw es (ind (j : Int)) a (i : Int) * cw es (ind k) b (j : Int)).sum = cw es (ind k) (a + b) (i : Int)
  | 0, i, hi => by
    rw [Nat.zero_add]
    have h1 : ∀ (M : Nat), ((List.range M).map fun (j : Nat) => cw es (ind (j : Int)) 0 (i : Int) * cw es (ind k) b (j : Int)).sum = if i < M then cw es (ind k) b (i : Int) else 0 := fun M => by
      induction M with
      | zero => simp
      | succ M ih =>
        rw [List.range_succ, List.map_append, sum_append, ih, List.map_cons, List.map_nil, List.sum_cons, List.sum_nil, cw_ind0]
        by_cases e : i = M
        · subst e; simp
        · have : ¬ (i : Int) = (M : Int) := by omega
          rw [if_neg this]
          by_cases h : i < M
          · rw [if_pos h, if_pos (by omega)]; omega
          · rw [if_neg h, if_neg (by omega)]; omega
    rw [h1, if_pos hi]
  | a + 1, i, hi => by
    have h2 : ∀ j : Nat, cw es (ind (j : Int)) (a + 1) (i : Int) * cw es (ind k) b (j : Int) = ((es.filter fun e => e.f == (i : Int)).map fun e => cw es (ind (j : Int)) a e.t * cw es (ind k) b (j : Int)).sum := fun j => by
      rw [cw]
      generalize (es.filter fun e => e.f == (i : Int)) = l
      induction l with
      | nil => simp
      | cons e l ih => rw [List.map_cons, List.map_cons, List.sum_cons, List.sum_cons, Int.add_mul, ih]
    rw [List.map_congr_left (fun j _ => h2 j), sum_swap, Nat.succ_add, cw]
    congr 1
    refine List.map_congr_left fun e he => ?_
    have h3 := hin e (List.mem_filter.1 he).1
    obtain ⟨t, ht⟩ : ∃ t : Nat, e.t = t := ⟨e.t.toNat, by omega⟩
    rw [ht]
    exact cw_comp hin k b a t (by omega)
where
  sum_append {l r : List Int} : (l ++ r).sum = l.sum + r.sum := by
    induction l with
    | nil => simp
    | cons x l ih => simp only [List.cons_append, List.sum_cons, ih]; omega
/-- The power's entries. -/
def pwF (es : List E3) (n : Nat) (i k : Nat) : Int := cw es (ind (k : Int)) n (i : Int)
def pwM (es : List E3) (S n : Nat) : List (List Int) := matF S S (pwF es n)
theorem pw_sm {es : List E3} (h : es.length ≤ 1024) (n i k : Nat) : sm (2 * n + 1) (pwF es n i k) := by
  unfold sm pwF
  have h1 := cw_le_len es (ind (k : Int)) n (i : Int)
  have h2 := cw_nonneg es (ind (k : Int)) n (i : Int)
  have h3 : es.length ^ n ≤ 65536 ^ n := Nat.pow_le_pow_left (by omega) n
  have h4 : (256 : Nat) ^ (2 * n + 1) = 65536 ^ n * 256 := by rw [Nat.pow_succ, Nat.pow_mul]
  have h5 : 0 < (65536 : Nat) ^ n := Nat.pow_pos (by decide)
  rw [h4]
  have h6 : (cw es (ind (k : Int)) n (i : Int)).natAbs ≤ es.length ^ n := by omega
  have h7 : (65536 : Nat) ^ n < 65536 ^ n * 256 := by
    have := Nat.mul_lt_mul_of_pos_left (show 1 < 256 by decide) h5
    omega
  omega
theorem pw_ok {es : List E3} (h : es.length ≤ 1024) (S n : Nat) : MatOk (pwM es S n) S S (2 * n + 1) := matF_ok (pw_sm h n)
theorem ent_matF {n m : Nat} {f : Nat → Nat → Int} {i k : Nat} (hi : i < n) (hk : k < m) : ent (matF n m f) i k = f i k :=
  ent_get (matF_get hi) (by simp [hk])
theorem matF_congr {n m : Nat} {f g : Nat → Nat → Int} (h : ∀ i k, i < n → k < m → f i k = g i k) : matF n m f = matF n m g := by
  unfold matF
  refine List.map_congr_left fun i hi => List.map_congr_left fun k hk => h i k (List.mem_range.1 hi) (List.mem_range.1 hk)
theorem pw_mul {S : Nat} {es : List E3} (hin : InS S es) (a b : Nat) : matF S S (mulF (pwM es S a) (pwM es S b)) = pwM es S (a + b) := by
  refine matF_congr fun i k hi hk => ?_
  unfold mulF pwM
  rw [matF_length, ← show cw es (ind (k : Int)) (a + b) (i : Int) = pwF es (a + b) i k from rfl, ← cw_comp hin (k : Int) b a i hi]
  congr 1
  refine List.map_congr_left fun j hj => ?_
  have hj' := List.mem_range.1 hj
  rw [ent_matF hi hj', ent_matF hj' hk]
  rfl
theorem pw_zero (es : List E3) (S : Nat) : matF S S (diagF 1) = pwM es S 0 := by
  refine matF_congr fun i k _ _ => ?_
  unfold diagF pwF
  rw [cw_ind0]
  by_cases h : i = k
  · subst h; simp
  · have : ¬ (i : Int) = (k : Int) := by omega
    rw [if_neg h, if_neg this]
theorem pw_one (es : List E3) (S : Nat) : matF S S (adjF es) = pwM es S 1 := by
  refine matF_congr fun i k _ _ => ?_
  unfold pwF adjF
  rw [cw]
  induction es with
  | nil => rfl
  | cons e es ih =>
    rw [List.filter_cons, List.filter_cons]
    have hc : cw (e :: es) (ind (k : Int)) 0 = cw es (ind (k : Int)) 0 := by funext s; rw [cw_ind0, cw_ind0]
    by_cases hf : e.f = (i : Int)
    · by_cases ht : e.t = (k : Int)
      · rw [if_pos (by simp [hf, ht]), if_pos (by simp [hf]), List.map_cons, List.sum_cons, hc, ← ih, cw_ind0, if_pos ht, List.length_cons]
        omega
      · rw [if_neg (by simp [ht]), if_pos (by simp [hf]), List.map_cons, List.sum_cons, hc, ← ih, cw_ind0, if_neg ht]
        omega
    · rw [if_neg (by simp [hf]), if_neg (by simp [hf]), hc, ← ih]
/-- The trace. -/
theorem pw_trace (es : List E3) (S n : Nat) : ((List.range S).map fun (s : Nat) => pwF es n s s).sum = clN es S n := rfl
end Go.Proofs.Ythpgeeaccmgbkaa

/- Power series with integer coefficients, plain. -/
namespace Go.Proofs.Ythpgeeaccmgbkaa

abbrev PS := Nat → Int
def tlS (f : PS) : PS := fun n => f (n + 1)
/-- The product. -/
def pm (f g : PS) : Nat → Int
  | 0 => f 0 * g 0
  | n + 1 => f 0 * g (n + 1) + pm (tlS f) g n
def psa (f g : PS) : PS := fun n => f n + g n
def pss (c : Int) (f : PS) : PS := fun n => c * f n
def psz (f : PS) : PS
  | 0 => 0
  | n + 1 => f n
def psC (c : Int) : PS := fun n => if n = 0 then c else 0
def psth (f : PS) : PS := fun n => (n : Int) * f n
def psS {α : Type} (l : List α) (f : α → PS) : PS := fun n => (l.map fun x => f x n).sum

theorem pm_congr {f f' g g' : PS} (n : Nat) (hf : ∀ k, k ≤ n → f k = f' k) (hg : ∀ k, k ≤ n → g k = g' k) : pm f g n = pm f' g' n := by
  induction n generalizing f f' with
  | zero => simp only [pm]; rw [hf 0 (Nat.le_refl _), hg 0 (Nat.le_refl _)]
  | succ n ih =>
    simp only [pm]
    rw [hf 0 (Nat.zero_le _), hg (n + 1) (Nat.le_refl _), ih (f := tlS f) (f' := tlS f') (fun k hk => hf (k + 1) (by omega)) (fun k hk => hg k (by omega))]
theorem pm_addl (f f' g : PS) (n : Nat) : pm (fun k => f k + f' k) g n = pm f g n + pm f' g n := by
  induction n generalizing f f' with
  | zero => simp only [pm, Int.add_mul]
  | succ n ih =>
    simp only [pm, Int.add_mul]
    have : tlS (fun k => f k + f' k) = fun k => tlS f k + tlS f' k := rfl
    rw [this, ih]; omega
theorem pm_smull (c : Int) (f g : PS) (n : Nat) : pm (fun k => c * f k) g n = c * pm f g n := by
  induction n generalizing f with
  | zero => simp only [pm, Int.mul_assoc]
  | succ n ih =>
    simp only [pm]
    have : tlS (fun k => c * f k) = fun k => c * tlS f k := rfl
    rw [this, ih, Int.mul_add, Int.mul_assoc]
theorem pm_zerol (g : PS) (n : Nat) : pm (fun _ => 0) g n = 0 := by
  induction n with
  | zero => simp [pm]
  | succ n ih =>
    simp only [pm]
    have : tlS (fun _ => 0) = fun _ => 0 := rfl
    rw [this, ih]; simp
theorem pm_suml {α : Type} (l : List α) (f : α → PS) (g : PS) (n : Nat) : pm (fun k => (l.map fun x => f x k).sum) g n = (l.map fun x => pm (f x) g n).sum := by
  induction l with
  | nil => simp only [List.map_nil, List.sum_nil]; exact pm_zerol g n
  | cons x l ih => simp only [List.map_cons, List.sum_cons]; rw [pm_addl, ih]
theorem pm_constl (c : Int) (g : PS) (n : Nat) : pm (psC c) g n = c * g n := by
  cases n with
  | zero => simp [pm, psC]
  | succ n =>
    simp only [pm]
    have : tlS (psC c) = fun _ => 0 := by funext k; simp [tlS, psC]
    rw [this, pm_zerol]; simp [psC]
theorem pm_zl (f g : PS) : pm (psz f) g = psz (pm f g) := by
  funext n
  cases n with
  | zero => simp [pm, psz]
  | succ n =>
    simp only [pm]
    have : tlS (psz f) = f := rfl
    rw [this]; simp [psz]
theorem pm_right (f g : PS) (n : Nat) : pm f g (n + 1) = pm f (tlS g) n + f (n + 1) * g 0 := by
  induction n generalizing f with
  | zero => simp only [pm]; rfl
  | succ n ih =>
    have e1 : pm f g (n + 1 + 1) = f 0 * g (n + 1 + 1) + pm (tlS f) g (n + 1) := rfl
    have e2 : pm f (tlS g) (n + 1) = f 0 * tlS g (n + 1) + pm (tlS f) (tlS g) n := rfl
    rw [e1, e2, ih]
    have e3 : tlS g (n + 1) = g (n + 1 + 1) := rfl
    have e4 : tlS f (n + 1) = f (n + 1 + 1) := rfl
    rw [e3, e4]; omega
theorem pm_comm (f g : PS) : pm f g = pm g f := by
  funext n
  induction n generalizing f with
  | zero => simp only [pm, Int.mul_comm]
  | succ n ih =>
    have e1 : pm f g (n + 1) = f 0 * g (n + 1) + pm (tlS f) g n := rfl
    rw [pm_right g f, e1, ih, Int.mul_comm]; omega
theorem pm_assoc (f g h : PS) : pm (pm f g) h = pm f (pm g h) := by
  funext n
  induction n generalizing f with
  | zero => simp only [pm, Int.mul_assoc]
  | succ n ih =>
    have e1 : pm (pm f g) h (n + 1) = pm f g 0 * h (n + 1) + pm (tlS (pm f g)) h n := rfl
    have e2 : tlS (pm f g) = fun k => f 0 * tlS g k + pm (tlS f) g k := rfl
    have e3 : pm f (pm g h) (n + 1) = f 0 * pm g h (n + 1) + pm (tlS f) (pm g h) n := rfl
    have e4 : pm g h (n + 1) = g 0 * h (n + 1) + pm (tlS g) h n := rfl
    have e5 : pm f g 0 = f 0 * g 0 := rfl
    rw [e1, e2, pm_addl (fun k => f 0 * tlS g k) (pm (tlS f) g), pm_smull, ih, e3, e4, e5, Int.mul_add, Int.mul_assoc]; omega
theorem pm_addr (f g g' : PS) (n : Nat) : pm f (fun k => g k + g' k) n = pm f g n + pm f g' n := by
  rw [pm_comm, pm_addl, pm_comm g, pm_comm g']
theorem pm_smulr (c : Int) (f g : PS) (n : Nat) : pm f (fun k => c * g k) n = c * pm f g n := by
  rw [pm_comm, pm_smull, pm_comm]
theorem pm_sumr {α : Type} (l : List α) (f : PS) (g : α → PS) (n : Nat) : pm f (fun k => (l.map fun x => g x k).sum) n = (l.map fun x => pm f (g x) n).sum := by
  rw [pm_comm, pm_suml]
  congr 1
  refine List.map_congr_left fun x _ => ?_
  rw [pm_comm]
theorem pm_zr (f g : PS) : pm f (psz g) = psz (pm f g) := by rw [pm_comm, pm_zl, pm_comm]
theorem pm_one (f : PS) : pm f (psC 1) = f := by funext n; rw [pm_comm, pm_constl]; simp
/-- Leibniz' rule. -/
theorem pm_theta (f g : PS) (n : Nat) : (n : Int) * pm f g n = pm (psth f) g n + pm f (psth g) n := by
  induction n generalizing f with
  | zero => simp [pm, psth]
  | succ n ih =>
    have e0 : tlS (psth f) = fun k => tlS f k + psth (tlS f) k := by
      funext k
      show ((k + 1 : Nat) : Int) * f (k + 1) = f (k + 1) + (k : Int) * f (k + 1)
      rw [show ((k + 1 : Nat) : Int) = 1 + (k : Int) by omega, Int.add_mul, Int.one_mul]
    have e1 : pm (psth f) g (n + 1) = psth f 0 * g (n + 1) + pm (tlS (psth f)) g n := rfl
    have e2 : pm f (psth g) (n + 1) = f 0 * psth g (n + 1) + pm (tlS f) (psth g) n := rfl
    have e3 : pm f g (n + 1) = f 0 * g (n + 1) + pm (tlS f) g n := rfl
    have e4 : psth f 0 = 0 := by simp [psth]
    have e5 : psth g (n + 1) = ((n + 1 : Nat) : Int) * g (n + 1) := rfl
    have e6 := ih (tlS f)
    rw [e1, e0, pm_addl, e2, e3, e4, e5, Int.mul_add, show ((n + 1 : Nat) : Int) * pm (tlS f) g n = (n : Int) * pm (tlS f) g n + pm (tlS f) g n by rw [show ((n + 1 : Nat) : Int) = (n : Int) + 1 by omega, Int.add_mul, Int.one_mul], e6, Int.mul_left_comm]
    omega
/-- A product of series is a sum of products. -/
theorem pm_sum (f g : PS) (n : Nat) : pm f g n = ((List.range (n + 1)).map fun i => f i * g (n - i)).sum := by
  induction n generalizing f with
  | zero => simp [pm]
  | succ n ih =>
    rw [List.range_succ_eq_map, List.map_cons, List.sum_cons, List.map_map]
    have e1 : pm f g (n + 1) = f 0 * g (n + 1) + pm (tlS f) g n := rfl
    rw [e1, ih]
    congr 2
    refine List.map_congr_left fun i _ => ?_
    show f (i + 1) * g (n - i) = f (i + 1) * g (n + 1 - (i + 1))
    rw [show n + 1 - (i + 1) = n - i by omega]
/-- Coefficients from n on are 0. -/
def degB (n : Nat) (f : PS) : Prop := ∀ k, n ≤ k → f k = 0
theorem degB.mono {m n : Nat} {f : PS} (h : degB m f) (hmn : m ≤ n) : degB n f := fun k hk => h k (by omega)
theorem degB_z {n : Nat} {f : PS} (h : degB n f) : degB (n + 1) (psz f) := fun k hk => by
  cases k with
  | zero => omega
  | succ k => exact h k (by omega)
theorem degB_sum {α : Type} {n : Nat} (l : List α) (f : α → PS) (h : ∀ x ∈ l, degB n (f x)) : degB n (fun k => (l.map fun x => f x k).sum) := fun k hk => by
  induction l with
  | nil => rfl
  | cons x l ih =>
    simp only [List.map_cons, List.sum_cons]
    have e := ih (fun y hy => h y (by simp [hy]))
    dsimp only at e
    rw [h x (by simp) k hk, e]; rfl
/-- A series that begins with 1 and has the logarithmic derivative -T is the only one. -/
theorem ps_unique {f g T : PS} (hT : T 0 = 0) (hf0 : f 0 = g 0) (hf : ∀ n : Nat, (n : Int) * f n = - pm T f n) (hg : ∀ n : Nat, (n : Int) * g n = - pm T g n) : f = g := by
  funext n
  induction n using Nat.strongRecOn with
  | _ n ih =>
    cases n with
    | zero => exact hf0
    | succ n =>
      have h1 := hf (n + 1)
      have h2 := hg (n + 1)
      have e : pm T f (n + 1) = pm T g (n + 1) := by
        show T 0 * f (n + 1) + pm (tlS T) f n = T 0 * g (n + 1) + pm (tlS T) g n
        rw [hT, Int.zero_mul, Int.zero_mul, pm_congr n (fun k _ => rfl) (fun k hk => ih k (by omega))]
      rw [e, ← h2] at h1
      exact Int.eq_of_mul_eq_mul_left (by omega) h1
/-- A series that begins with 1 may be cancelled: multiplied by its inverse. -/
theorem ps_sum_const {α : Type} (l : List α) : ∀ (n : Nat) (f g : α → PS) (X : PS), (∀ p q, (l.map fun i => f i p * g i q).sum = X (p + q)) → (l.map fun i => pm (f i) (g i) n).sum = ((n : Int) + 1) * X n
  | 0, f, g, X, h => by
    have := h 0 0
    simp only [pm]
    rw [this]; simp
  | n + 1, f, g, X, h => by
    have h1 := ps_sum_const l n (fun i => tlS (f i)) g (tlS X) (fun p q => by
      have := h (p + 1) q
      rw [show p + 1 + q = p + q + 1 by omega] at this
      exact this)
    have h2 := h 0 (n + 1)
    rw [Nat.zero_add] at h2
    have e : (l.map fun i => pm (f i) (g i) (n + 1)).sum = (l.map fun i => f i 0 * g i (n + 1)).sum + (l.map fun i => pm (tlS (f i)) (g i) n).sum := by
      rw [← sum_add' l (fun i => f i 0 * g i (n + 1)) (fun i => pm (tlS (f i)) (g i) n)]
      rfl
    rw [e, h1, h2]
    show X (n + 1) + ((n : Int) + 1) * X (n + 1) = (((n + 1 : Nat) : Int) + 1) * X (n + 1)
    rw [show ((n + 1 : Nat) : Int) + 1 = 1 + ((n : Int) + 1) by omega, Int.add_mul 1, Int.one_mul]
end Go.Proofs.Ythpgeeaccmgbkaa

