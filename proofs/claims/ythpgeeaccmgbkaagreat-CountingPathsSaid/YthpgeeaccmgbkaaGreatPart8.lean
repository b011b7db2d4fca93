/- Contracts and plain laws of several functions, one after the other: NeckA, NeckB, NeckC, PlainMx. -/
import Derived.Test.YthpgeeaccmgbkaaGreatPart11
import Derived.Test.YthpgeeaccmgbkaaGreatAdj
import Derived.Test.YthpgeeaccmgbkaaGreatProdM
/- A rotation without fixed points: n divides the number of words; plain. -/
namespace Go.Proofs.YthpgeeaccmgbkaaGreat
open Go.RowKit

/-- f, k times. -/
def itr {α : Type} (f : α → α) : Nat → α → α
  | 0, x => x
  | k + 1, x => itr f k (f x)
theorem itr_add {α : Type} (f : α → α) : ∀ (a b : Nat) (x : α), itr f (a + b) x = itr f b (itr f a x)
  | 0, b, x => by rw [Nat.zero_add]; rfl
  | a + 1, b, x => by rw [Nat.succ_add]; exact itr_add f a b (f x)
theorem itr_mul {α : Type} {f : α → α} {n : Nat} {x : α} (h : itr f n x = x) : ∀ k, itr f (n * k) x = x
  | 0 => rfl
  | k + 1 => by rw [Nat.mul_succ, itr_add, itr_mul h k, h]
theorem itr_mod {α : Type} {f : α → α} {n : Nat} {x : α} (h : itr f n x = x) (k : Nat) : itr f k x = itr f (k % n) x := by
  conv => lhs; rw [← Nat.div_add_mod k n]
  rw [itr_add, itr_mul h]
theorem itr_mem {α : Type} {f : α → α} {X : List α} (h : ∀ x ∈ X, f x ∈ X) : ∀ (k : Nat) (x : α), x ∈ X → itr f k x ∈ X
  | 0, _, hx => hx
  | k + 1, x, hx => itr_mem h k (f x) (h x hx)
theorem filter_out {α : Type} [DecidableEq α] {X O : List α} (hX : X.Nodup) (hO : O.Nodup) (hs : ∀ x ∈ O, x ∈ X) : X.length = O.length + (X.filter fun y => !decide (y ∈ O)).length := by
  have h1 : (X.filter fun y => decide (y ∈ O)).Perm O := by
    refine (List.perm_ext_iff_of_nodup (hX.filter _) hO).2 fun x => ?_
    rw [List.mem_filter, decide_eq_true_eq]
    exact ⟨fun h => h.2, fun h => ⟨hs x h, h⟩⟩
  rw [← h1.length_eq]
  clear h1 hs hX hO
  induction X with
  | nil => rfl
  | cons a X ih =>
    by_cases ha : a ∈ O
    · simp [List.filter_cons, ha]; omega
    · simp [List.filter_cons, ha]; omega
theorem orbit_dvd {α : Type} [DecidableEq α] (f : α → α) (n : Nat) (hn : 0 < n) : ∀ (m : Nat) (X : List α), X.length ≤ m → X.Nodup → (∀ x ∈ X, f x ∈ X) → (∀ x ∈ X, itr f n x = x) → (∀ x ∈ X, ∀ j, 0 < j → j < n → itr f j x ≠ x) → n ∣ X.length
  | 0, X, hm, _, _, _, _ => by rw [Nat.le_zero.1 hm]; exact Nat.dvd_zero n
  | m + 1, [], _, _, _, _, _ => Nat.dvd_zero n
  | m + 1, x :: X, hm, hX, hf, hp, hq => by
    obtain ⟨Y, hY⟩ : ∃ Y, Y = x :: X := ⟨_, rfl⟩
    rw [← hY] at hm hX hf hp hq ⊢
    have hx : x ∈ Y := by rw [hY]; simp
    have hxn := hp x hx
    obtain ⟨O, hOd⟩ : ∃ O, O = (List.range n).map fun j => itr f j x := ⟨_, rfl⟩
    have hOm : ∀ k, itr f k x ∈ O := fun k => by
      rw [hOd, List.mem_map]
      exact ⟨k % n, List.mem_range.2 (Nat.mod_lt _ hn), (itr_mod hxn k).symm⟩
    have key : ∀ i j, i < j → j < n → itr f i x ≠ itr f j x := fun i j hij hj e => by
      have e2 : itr f (n - i) (itr f i x) = itr f (n - i) (itr f j x) := by rw [e]
      rw [← itr_add, ← itr_add, show i + (n - i) = n by omega, hxn, show j + (n - i) = n + (j - i) by omega, itr_add, hxn] at e2
      exact hq x hx (j - i) (by omega) (by omega) e2.symm
    have hOn : O.Nodup := by
      rw [hOd]
      refine List.pairwise_map.2 (List.Pairwise.imp_of_mem (R := fun a b : Nat => a < b) (fun {a b} _ hb hab => ?_) List.pairwise_lt_range)
      exact key a b hab (List.mem_range.1 hb)
    have hOs : ∀ y ∈ O, y ∈ Y := fun y hy => by
      rw [hOd] at hy
      obtain ⟨k, -, rfl⟩ := List.mem_map.1 hy
      exact itr_mem hf k x hx
    have hcount := filter_out hX hOn hOs
    have hOl : O.length = n := by rw [hOd]; simp
    have hmem : ∀ y, y ∈ (Y.filter fun y => !decide (y ∈ O)) ↔ y ∈ Y ∧ y ∉ O := fun y => by
      rw [List.mem_filter]; simp
    have hfc : ∀ y ∈ (Y.filter fun y => !decide (y ∈ O)), f y ∈ (Y.filter fun y => !decide (y ∈ O)) := fun y hy => by
      obtain ⟨h1, h2⟩ := (hmem y).1 hy
      refine (hmem _).2 ⟨hf y h1, fun h3 => h2 ?_⟩
      rw [hOd] at h3
      obtain ⟨k, -, hk⟩ := List.mem_map.1 h3
      have e1 : itr f (n - 1) (f y) = y := by
        have := hp y h1
        rw [show n = 1 + (n - 1) by omega, itr_add] at this
        exact this
      rw [← e1, ← hk, ← itr_add]
      exact hOm _
    have ih := orbit_dvd f n hn m (Y.filter fun y => !decide (y ∈ O)) (by omega) (hX.filter _) hfc (fun y hy => hp y ((hmem y).1 hy).1) (fun y hy => hq y ((hmem y).1 hy).1)
    rw [hcount, hOl]
    exact (Nat.dvd_add_iff_right (Nat.dvd_refl n)).1 ih
end Go.Proofs.YthpgeeaccmgbkaaGreat

/- Closed words under rotation: those of length n are those of least period d, for each divisor d of n; plain. -/
namespace Go.Proofs.YthpgeeaccmgbkaaGreat
open Go.RowKit

def rotL : List Nat → List Nat
  | [] => []
  | a :: t => t ++ [a]
theorem rotL_length (l : List Nat) : (rotL l).length = l.length := by cases l <;> simp [rotL]
theorem itr_rot_length : ∀ (k : Nat) (l : List Nat), (itr rotL k l).length = l.length
  | 0, _ => rfl
  | k + 1, l => by rw [itr, itr_rot_length k, rotL_length]
theorem getD_get (l : List Nat) {j : Nat} (h : j < l.length) : l.getD j 0 = l[j] := by simp [List.getD_eq_getElem?_getD, h]
theorem ext_getD {l l' : List Nat} (h : l.length = l'.length) (hj : ∀ j, j < l.length → l.getD j 0 = l'.getD j 0) : l = l' := by
  refine List.ext_getElem h fun j h1 h2 => ?_
  have := hj j h1
  rwa [getD_get l h1, getD_get l' h2] at this
theorem rotL_get (l : List Nat) {j : Nat} (h : j < l.length) : (rotL l).getD j 0 = l.getD ((j + 1) % l.length) 0 := by
  cases l with
  | nil => simp at h
  | cons a t =>
    simp only [List.length_cons] at h ⊢
    rw [rotL]
    by_cases hj : j < t.length
    · rw [Nat.mod_eq_of_lt (by omega), List.getD_cons_succ, List.getD_eq_getElem?_getD, List.getElem?_append_left hj, ← List.getD_eq_getElem?_getD]
    · obtain rfl : j = t.length := by omega
      rw [Nat.mod_self, List.getD_cons_zero, List.getD_eq_getElem?_getD, List.getElem?_append_right (Nat.le_refl _), Nat.sub_self]; rfl
theorem itr_rot_get : ∀ (k : Nat) (l : List Nat) (j : Nat), j < l.length → (itr rotL k l).getD j 0 = l.getD ((j + k) % l.length) 0
  | 0, l, j, h => by rw [itr, Nat.add_zero, Nat.mod_eq_of_lt h]
  | k + 1, l, j, h => by
    rw [itr, itr_rot_get k (rotL l) j (by rw [rotL_length]; exact h), rotL_length, rotL_get l (Nat.mod_lt _ (by omega))]
    congr 1
    rw [Nat.mod_add_mod]; rfl
theorem itr_rot_len (l : List Nat) : itr rotL l.length l = l := by
  refine ext_getD (itr_rot_length _ _) fun j hj => ?_
  rw [itr_rot_length] at hj
  rw [itr_rot_get _ _ _ hj, Nat.add_mod_right, Nat.mod_eq_of_lt hj]
/-- Closed words of n letters below m, neighbours in R. -/
def Cyc (R : Nat → Nat → Bool) (m n : Nat) (l : List Nat) : Prop := l.length = n ∧ ∀ j, j < n → l.getD j 0 < m ∧ R (l.getD j 0) (l.getD ((j + 1) % n) 0) = true
theorem cyc_rot {R : Nat → Nat → Bool} {m n : Nat} {l : List Nat} (h : Cyc R m n l) : Cyc R m n (rotL l) := by
  obtain ⟨rfl, h2⟩ := h
  refine ⟨rotL_length l, fun j hj => ?_⟩
  have hp : 0 < l.length := by omega
  rw [rotL_get l hj, rotL_get l (Nat.mod_lt _ hp)]
  exact h2 _ (Nat.mod_lt _ hp)
/-- The least period is d. -/
def perB (d : Nat) (l : List Nat) : Bool := decide (0 < d) && decide (itr rotL d l = l) && (List.range d).all fun j => decide (j = 0) || !decide (itr rotL j l = l)
theorem perB_iff {d : Nat} {l : List Nat} : perB d l = true ↔ 0 < d ∧ itr rotL d l = l ∧ ∀ j, 0 < j → j < d → itr rotL j l ≠ l := by
  unfold perB
  rw [Bool.and_eq_true, Bool.and_eq_true, decide_eq_true_eq, decide_eq_true_eq, List.all_eq_true, and_assoc]
  constructor
  · rintro ⟨h1, h2, h3⟩
    refine ⟨h1, h2, fun j hj hd e => ?_⟩
    have := h3 j (List.mem_range.2 hd)
    simp only [Bool.or_eq_true, decide_eq_true_eq, Bool.not_eq_true', decide_eq_false_iff_not] at this
    rcases this with h | h
    · omega
    · exact h e
  · rintro ⟨h1, h2, h3⟩
    refine ⟨h1, h2, fun j hj => ?_⟩
    have hd := List.mem_range.1 hj
    by_cases h0 : j = 0
    · simp [h0]
    · simp [h0, h3 j (by omega) hd]
theorem per_unique {d e : Nat} {l : List Nat} (h : perB d l = true) (h' : perB e l = true) : d = e := by
  obtain ⟨h1, h2, h3⟩ := perB_iff.1 h
  obtain ⟨k1, k2, k3⟩ := perB_iff.1 h'
  rcases Nat.lt_trichotomy d e with hlt | he | hlt
  · exact absurd h2 (k3 d h1 hlt)
  · exact he
  · exact absurd k2 (h3 e k1 hlt)
theorem per_ex {l : List Nat} : ∀ (n : Nat), 0 < n → itr rotL n l = l → ∃ d, d ≤ n ∧ perB d l = true := by
  intro n
  induction n using Nat.strongRecOn with
  | _ n ih =>
    intro h0 h
    rcases Classical.em (∃ j, 0 < j ∧ j < n ∧ itr rotL j l = l) with ⟨j, hj, hjn, e⟩ | hne
    · obtain ⟨d, hd, hp⟩ := ih j hjn hj e
      exact ⟨d, by omega, hp⟩
    · exact ⟨n, Nat.le_refl _, perB_iff.2 ⟨h0, h, fun j hj hjn e => hne ⟨j, hj, hjn, e⟩⟩⟩
theorem per_dvd {d : Nat} {l : List Nat} (h : perB d l = true) : d ∣ l.length := by
  obtain ⟨h1, h2, h3⟩ := perB_iff.1 h
  have e := itr_mod h2 l.length
  rw [itr_rot_len] at e
  rcases Nat.eq_zero_or_pos (l.length % d) with h0 | h0
  · exact Nat.dvd_of_mod_eq_zero h0
  · exact absurd e.symm (h3 _ h0 (Nat.mod_lt _ h1))
/-- A word of period d goes on as it begins. -/
theorem per_get {d : Nat} {l : List Nat} (hd : 0 < d) (h : itr rotL d l = l) (hdl : d ∣ l.length) : ∀ (j : Nat), j < l.length → l.getD j 0 = l.getD (j % d) 0 := by
  intro j
  induction j using Nat.strongRecOn with
  | _ j ih =>
    intro hj
    rcases Nat.lt_or_ge j d with hlt | hge
    · rw [Nat.mod_eq_of_lt hlt]
    · have h1 := itr_rot_get d l (j - d) (by omega)
      rw [h, show j - d + d = j by omega, Nat.mod_eq_of_lt hj] at h1
      rw [← h1, ih (j - d) (by omega) (by omega), Nat.mod_eq_sub_mod hge]
theorem take_getD (l : List Nat) {d j : Nat} (h : j < d) : (l.take d).getD j 0 = l.getD j 0 := by
  rw [List.getD_eq_getElem?_getD, List.getD_eq_getElem?_getD, List.getElem?_take, if_pos h]
/-- A word, repeated to n letters. -/
def repL (n : Nat) (u : List Nat) : List Nat := (List.range n).map fun i => u.getD (i % u.length) 0
theorem repL_length (n : Nat) (u : List Nat) : (repL n u).length = n := by simp [repL]
theorem repL_get {n j : Nat} (u : List Nat) (h : j < n) : (repL n u).getD j 0 = u.getD (j % u.length) 0 := by
  rw [getD_get _ (by rw [repL_length]; exact h)]
  simp [repL]
section
variable {R : Nat → Nat → Bool} {m n d : Nat}
theorem cyc_take {l : List Nat} (hn : 0 < n) (h : Cyc R m n l) (hp : perB d l = true) : Cyc R m d (l.take d) ∧ perB d (l.take d) = true := by
  obtain ⟨rfl, hc⟩ := h
  obtain ⟨h1, h2, h3⟩ := perB_iff.1 hp
  have hdl := per_dvd hp
  have hz : 0 < l.length := hn
  have hle := Nat.le_of_dvd hz hdl
  have hul : (l.take d).length = d := by rw [List.length_take]; omega
  have hper := per_get h1 h2 hdl
  have hu : ∀ j, j < l.length → (l.take d).getD (j % d) 0 = l.getD j 0 := fun j hj => by
    rw [take_getD l (Nat.mod_lt _ h1), ← hper j hj]
  refine ⟨⟨hul, fun j hj => ?_⟩, perB_iff.2 ⟨h1, ?_, fun j hj hjd e => h3 j hj hjd ?_⟩⟩
  · have hcj := hc j (by omega)
    rw [take_getD l hj]
    refine ⟨hcj.1, ?_⟩
    have e1 : (l.take d).getD ((j + 1) % d) 0 = l.getD ((j + 1) % l.length) 0 := by
      rw [← hu _ (Nat.mod_lt _ hz), Nat.mod_mod_of_dvd _ hdl]
    rw [e1]; exact hcj.2
  · have := itr_rot_len (l.take d)
    rwa [hul] at this
  · refine ext_getD (itr_rot_length _ _) fun i hi => ?_
    rw [itr_rot_length] at hi
    rw [itr_rot_get _ _ _ hi, ← hu _ (Nat.mod_lt _ hz), Nat.mod_mod_of_dvd _ hdl, ← hu _ hi]
    have h5 := itr_rot_get j (l.take d) (i % d) (by rw [hul]; exact Nat.mod_lt _ h1)
    rw [e, hul, Nat.mod_add_mod] at h5
    exact h5.symm
theorem cyc_rep {u : List Nat} (hn : 0 < n) (h : Cyc R m d u) (hp : perB d u = true) (hdn : d ∣ n) : Cyc R m n (repL n u) ∧ perB d (repL n u) = true ∧ (repL n u).take d = u := by
  obtain ⟨rfl, hc⟩ := h
  obtain ⟨h1, h2, h3⟩ := perB_iff.1 hp
  have hle := Nat.le_of_dvd hn hdn
  have hg := fun j (hj : j < n) => repL_get (n := n) u hj
  refine ⟨⟨repL_length n u, fun j hj => ?_⟩, perB_iff.2 ⟨h1, ?_, fun j hj hjd e => h3 j hj hjd ?_⟩, ?_⟩
  · rw [hg j hj, hg _ (Nat.mod_lt _ hn), Nat.mod_mod_of_dvd _ hdn]
    have hcj := hc (j % u.length) (Nat.mod_lt _ h1)
    rw [Nat.mod_add_mod] at hcj
    exact hcj
  · refine ext_getD (itr_rot_length _ _) fun i hi => ?_
    rw [itr_rot_length, repL_length] at hi
    rw [itr_rot_get _ _ _ (by rw [repL_length]; exact hi), repL_length, hg _ (Nat.mod_lt _ hn), hg _ hi, Nat.mod_mod_of_dvd _ hdn, Nat.add_mod_right]
  · refine ext_getD (itr_rot_length _ _) fun i hi => ?_
    rw [itr_rot_length] at hi
    rw [itr_rot_get _ _ _ hi]
    have h5 := itr_rot_get j (repL n u) i (by rw [repL_length]; omega)
    rw [e, repL_length, hg i (by omega), hg _ (Nat.mod_lt _ hn), Nat.mod_mod_of_dvd _ hdn, Nat.mod_eq_of_lt hi] at h5
    exact h5.symm
  · refine ext_getD (by rw [List.length_take, repL_length]; omega) fun i hi => ?_
    rw [List.length_take, repL_length] at hi
    rw [take_getD _ (by omega), hg i (by omega), Nat.mod_eq_of_lt (by omega)]
/-- X n: all closed words of n letters, each once. -/
theorem per_count {X : Nat → List (List Nat)} (hX : ∀ n, 0 < n → (X n).Nodup) (hm : ∀ n, 0 < n → ∀ l, l ∈ X n ↔ Cyc R m n l) (hn : 0 < n) (hd : 0 < d) (hdn : d ∣ n) : ((X n).filter (perB d)).length = ((X d).filter (perB d)).length := by
  have h1 : (((X n).filter (perB d)).map (List.take d)).Perm ((X d).filter (perB d)) := by
    refine (List.perm_ext_iff_of_nodup ?_ ((hX d hd).filter _)).2 fun u => ?_
    · refine List.pairwise_map.2 (((hX n hn).filter _).imp_of_mem fun {a b} ha hb hne e => hne ?_)
      obtain ⟨ha1, ha2⟩ := List.mem_filter.1 ha
      obtain ⟨hb1, hb2⟩ := List.mem_filter.1 hb
      have ca := (hm n hn a).1 ha1
      have cb := (hm n hn b).1 hb1
      have pa := per_get hd (perB_iff.1 ha2).2.1 (per_dvd ha2)
      have pb := per_get hd (perB_iff.1 hb2).2.1 (per_dvd hb2)
      refine ext_getD (ca.1.trans cb.1.symm) fun j hj => ?_
      rw [pa j hj, pb j (by rw [cb.1]; rw [ca.1] at hj; exact hj), ← take_getD a (Nat.mod_lt j hd), ← take_getD b (Nat.mod_lt j hd), e]
    · rw [List.mem_map, List.mem_filter]
      constructor
      · rintro ⟨l, hl, rfl⟩
        obtain ⟨hl1, hl2⟩ := List.mem_filter.1 hl
        have := cyc_take hn ((hm n hn l).1 hl1) hl2
        exact ⟨(hm d hd _).2 this.1, this.2⟩
      · rintro ⟨hu1, hu2⟩
        have := cyc_rep hn ((hm d hd u).1 hu1) hu2 hdn
        exact ⟨repL n u, List.mem_filter.2 ⟨(hm n hn _).2 this.1, this.2.1⟩, this.2.2⟩
  have h2 := h1.length_eq
  rwa [List.length_map] at h2
theorem part_count {α : Type} (q : Nat → α → Bool) : ∀ (X : List α) (N : Nat), (∀ x ∈ X, ∃ d, d < N ∧ q d x = true) → (∀ x ∈ X, ∀ d e, q d x = true → q e x = true → d = e) → X.length = ((List.range N).map fun d => (X.filter (q d)).length).sum
  | [], N, _, _ => by
    have : ∀ l : List Nat, (l.map fun d => (([] : List α).filter (q d)).length).sum = 0 := fun l => by
      induction l with
      | nil => rfl
      | cons a l ih => simpa using ih
    rw [this]; rfl
  | x :: X, N, h1, h2 => by
    have ih := part_count q X N (fun y hy => h1 y (by simp [hy])) (fun y hy => h2 y (by simp [hy]))
    obtain ⟨d0, hd0, hq0⟩ := h1 x (by simp)
    have hq : ∀ d, q d x = decide (d = d0) := fun d => by
      by_cases e : d = d0
      · rw [e, hq0]; simp
      · cases hqd : q d x with
        | false => simp [e]
        | true => exact absurd (h2 x (by simp) d d0 hqd hq0) e
    have hone : ∀ (g : Nat → Nat) (M : Nat), ((List.range M).map fun d => g d + if d = d0 then 1 else 0).sum = ((List.range M).map g).sum + if d0 < M then 1 else 0 := fun g M => by
      induction M with
      | zero => simp
      | succ M ih2 =>
        rw [List.range_succ, List.map_append, List.map_append, List.sum_append, List.sum_append, ih2]
        simp only [List.map_cons, List.map_nil, List.sum_cons, List.sum_nil]
        by_cases e : M = d0
        · subst e; simp; omega
        · have : (d0 < M + 1) ↔ (d0 < M) := by omega
          simp only [this, e, if_false]
          omega
    have hf : ∀ d, ((x :: X).filter (q d)).length = (X.filter (q d)).length + if d = d0 then 1 else 0 := fun d => by
      rw [List.filter_cons, hq d]
      by_cases e : d = d0 <;> simp [e]
    rw [List.length_cons, ih]
    simp only [hf]
    rw [hone, if_pos hd0]
/-- The words of length n, by least periods. -/
theorem closed_parts {X : Nat → List (List Nat)} (hX : ∀ n, 0 < n → (X n).Nodup) (hm : ∀ n, 0 < n → ∀ l, l ∈ X n ↔ Cyc R m n l) (hn : 0 < n) :
    (X n).length = ((List.range (n + 1)).map fun d => if 0 < d ∧ n % d = 0 then ((X d).filter (perB d)).length else 0).sum := by
  rw [part_count perB (X n) (n + 1) (fun l hl => ?_) (fun l _ d e h1 h2 => per_unique h1 h2)]
  · congr 1
    refine List.map_congr_left fun d hd => ?_
    split
    · rename_i h
      exact per_count hX hm hn h.1 (Nat.dvd_of_mod_eq_zero h.2)
    · rename_i h
      have : ∀ l ∈ X n, ¬ perB d l = true := fun l hl hp => h ⟨(perB_iff.1 hp).1, by
        have h2 := per_dvd hp
        rw [((hm n hn l).1 hl).1] at h2
        exact Nat.mod_eq_zero_of_dvd h2⟩
      rw [List.filter_eq_nil_iff.2 this]; rfl
  · have hc := ((hm n hn l).1 hl).1
    obtain ⟨d, h1, h2⟩ := per_ex n hn (l := l) (by rw [← hc]; exact itr_rot_len l)
    exact ⟨d, by omega, h2⟩
/-- n divides the number of those of least period n. -/
theorem prim_dvd {X : Nat → List (List Nat)} (hX : ∀ n, 0 < n → (X n).Nodup) (hm : ∀ n, 0 < n → ∀ l, l ∈ X n ↔ Cyc R m n l) (hn : 0 < n) : n ∣ ((X n).filter (perB n)).length := by
  have hc : ∀ l, l ∈ (X n).filter (perB n) ↔ Cyc R m n l ∧ perB n l = true := fun l => by rw [List.mem_filter, hm n hn]
  refine orbit_dvd rotL n hn _ _ (Nat.le_refl _) ((hX n hn).filter _) (fun l hl => ?_) (fun l hl => ?_) (fun l hl => ?_)
  · obtain ⟨h1, h2⟩ := (hc l).1 hl
    obtain ⟨p1, p2, p3⟩ := perB_iff.1 h2
    refine (hc _).2 ⟨cyc_rot h1, perB_iff.2 ⟨p1, ?_, fun j hj hjn e => p3 j hj hjn ?_⟩⟩
    · show itr rotL (n) (itr rotL 1 l) = itr rotL 1 l
      rw [← itr_add, Nat.add_comm, itr_add, p2]
    · have e2 : itr rotL (n - 1) (itr rotL j (itr rotL 1 l)) = itr rotL (n - 1) (itr rotL 1 l) := by
        have e' : itr rotL j (itr rotL 1 l) = itr rotL 1 l := e
        rw [e']
      rw [← itr_add, ← itr_add, ← itr_add, show 1 + (j + (n - 1)) = n + j by omega, show 1 + (n - 1) = n by omega, itr_add, p2] at e2
      exact e2
  · have := ((hc l).1 hl).1.1
    have h := itr_rot_len l
    rwa [this] at h
  · exact (perB_iff.1 ((hc l).1 hl).2).2.2
end
end Go.Proofs.YthpgeeaccmgbkaaGreat

/- The closed paths of a graph, counted by least periods; plain. -/
namespace Go.Proofs.YthpgeeaccmgbkaaGreat
open Go.RowKit

/-- The paths of n edges from s to t, as the edges' places. -/
def wk (es : List E3) (t : Int) : Nat → Int → List (List Nat)
  | 0, s => if s = t then [[]] else []
  | n + 1, s => (es.zipIdx.filter fun x => x.1.f == s).flatMap fun x => (wk es t n x.1.t).map (x.2 :: ·)
theorem flat_len {α β : Type} (f : α → List β) : ∀ l : List α, ((l.flatMap f).length : Int) = (l.map fun x => ((f x).length : Int)).sum
  | [] => rfl
  | a :: l => by rw [List.flatMap_cons, List.length_append, List.map_cons, List.sum_cons, ← flat_len f l]; simp
theorem wk_length (es : List E3) (t : Int) : ∀ (n : Nat) (s : Int), ((wk es t n s).length : Int) = cw es (ind t) n s
  | 0, s => by
    rw [cw_ind0, wk]
    split <;> rfl
  | n + 1, s => by
    rw [wk, flat_len, cw]
    have h1 : (fun x : E3 × Nat => (((wk es t n x.1.t).map (x.2 :: ·)).length : Int)) = (fun e : E3 => cw es (ind t) n e.t) ∘ Prod.fst := by
      funext x
      rw [List.length_map, wk_length es t n]; rfl
    rw [h1, ← List.map_map]
    have h2 : ((es.zipIdx.filter fun x => x.1.f == s).map Prod.fst) = es.filter fun e => e.f == s := by
      conv => rhs; rw [← List.zipIdx_map_fst 0 es]
      rw [List.filter_map]; rfl
    rw [h2]
/-- An edge's ends, by its place. -/
def eF (es : List E3) (i : Nat) : Int := (es[i]?.map E3.f).getD 0
def eT (es : List E3) (i : Nat) : Int := (es[i]?.map E3.t).getD 0
theorem eFT {es : List E3} {i : Nat} {e : E3} (h : es[i]? = some e) : eF es i = e.f ∧ eT es i = e.t := by simp [eF, eT, h]
/-- l leads from s to t. -/
def PT (es : List E3) : Int → List Nat → Int → Prop
  | s, [], t => s = t
  | s, i :: l, t => i < es.length ∧ eF es i = s ∧ PT es (eT es i) l t
theorem mem_wk {es : List E3} {t : Int} : ∀ {n : Nat} {s : Int} {l : List Nat}, l ∈ wk es t n s ↔ l.length = n ∧ PT es s l t
  | 0, s, l => by
    rw [wk]
    cases l with
    | nil => by_cases h : s = t <;> simp [h, PT]
    | cons a l => by_cases h : s = t <;> simp [h]
  | n + 1, s, l => by
    rw [wk, List.mem_flatMap]
    constructor
    · rintro ⟨x, hx, hl⟩
      obtain ⟨h1, h2⟩ := List.mem_filter.1 hx
      have h3 := List.mem_zipIdx_iff_getElem?.1 h1
      obtain ⟨l', hl', rfl⟩ := List.mem_map.1 hl
      obtain ⟨h4, h5⟩ := mem_wk.1 hl'
      obtain ⟨e1, e2⟩ := eFT h3
      refine ⟨by simp [h4], (List.getElem?_eq_some_iff.1 h3).1, by rw [e1]; simpa using h2, ?_⟩
      rw [e2]; exact h5
    · rintro ⟨h1, h2⟩
      cases l with
      | nil => cases h1
      | cons i l =>
        obtain ⟨h3, h4, h5⟩ := h2
        have h6 : es[i]? = some es[i] := List.getElem?_eq_getElem h3
        obtain ⟨e1, e2⟩ := eFT h6
        refine ⟨(es[i], i), List.mem_filter.2 ⟨List.mem_zipIdx_iff_getElem?.2 h6, ?_⟩, List.mem_map.2 ⟨l, mem_wk.2 ⟨by simpa using h1, ?_⟩, rfl⟩⟩
        · simp [← e1, h4]
        · rw [← e2]; exact h5
theorem wk_nodup (es : List E3) (t : Int) : ∀ (n : Nat) (s : Int), (wk es t n s).Nodup
  | 0, s => by rw [wk]; split <;> simp
  | n + 1, s => by
    rw [wk]
    refine List.pairwise_flatMap.2 ⟨fun x _ => List.pairwise_map.2 ((wk_nodup es t n x.1.t).imp fun {a b} h e => h (List.cons.inj e).2), ?_⟩
    have hz : (es.zipIdx).Pairwise fun a b => a.2 ≠ b.2 := by
      have : (es.zipIdx.map Prod.snd).Nodup := by
        rw [List.zipIdx_map_snd]
        exact List.nodup_range'
      exact List.pairwise_map.1 this
    refine (hz.filter _).imp fun {a b} h x hx y hy e => ?_
    obtain ⟨x', -, rfl⟩ := List.mem_map.1 hx
    obtain ⟨y', -, rfl⟩ := List.mem_map.1 hy
    exact h (List.cons.inj e).1
def eR (es : List E3) (i j : Nat) : Bool := decide (eT es i = eF es j)
theorem pt_chain {es : List E3} {t : Int} : ∀ {l : List Nat} {i : Nat} {s : Int}, PT es s (i :: l) t ↔
    eF es i = s ∧ (∀ j, j ≤ l.length → (i :: l).getD j 0 < es.length) ∧ (∀ j, j < l.length → eT es ((i :: l).getD j 0) = eF es ((i :: l).getD (j + 1) 0)) ∧ eT es ((i :: l).getD l.length 0) = t
  | [], i, s => by
    constructor
    · rintro ⟨h1, h2, h3⟩
      exact ⟨h2, fun j hj => by obtain rfl : j = 0 := by simpa using hj
                                exact h1, fun j hj => by simp at hj, h3⟩
    · rintro ⟨h1, h2, -, h4⟩
      exact ⟨h2 0 (Nat.zero_le _), h1, h4⟩
  | k :: l, i, s => by
    have ih := pt_chain (es := es) (t := t) (l := l) (i := k) (s := eT es i)
    constructor
    · rintro ⟨h1, h2, h3⟩
      obtain ⟨k1, k2, k3, k4⟩ := ih.1 h3
      refine ⟨h2, fun j hj => ?_, fun j hj => ?_, k4⟩
      · cases j with
        | zero => exact h1
        | succ j => exact k2 j (by simpa using hj)
      · cases j with
        | zero => exact k1.symm
        | succ j => exact k3 j (by simpa using hj)
    · rintro ⟨h1, h2, h3, h4⟩
      refine ⟨h2 0 (Nat.zero_le _), h1, ih.2 ⟨(h3 0 (by simp)).symm, fun j hj => h2 (j + 1) (by simpa using hj), fun j hj => h3 (j + 1) (by simpa using hj), h4⟩⟩
/-- The closed paths of n edges. -/
def clW (es : List E3) (S n : Nat) : List (List Nat) := (List.range S).flatMap fun (s : Nat) => wk es (s : Int) n (s : Int)
/-- Their number. -/
def clN (es : List E3) (S n : Nat) : Int := ((List.range S).map fun (s : Nat) => cw es (ind (s : Int)) n (s : Int)).sum
theorem clW_length (es : List E3) (S n : Nat) : ((clW es S n).length : Int) = clN es S n := by
  unfold clW clN
  rw [flat_len]
  congr 1
  exact List.map_congr_left fun s _ => wk_length es _ n _
theorem clW_nodup (es : List E3) (S : Nat) {n : Nat} (hn : 0 < n) : (clW es S n).Nodup := by
  refine List.pairwise_flatMap.2 ⟨fun s _ => wk_nodup es _ n _, ?_⟩
  refine List.nodup_range.imp fun {a b} h x hx y hy e => h ?_
  subst e
  obtain ⟨h1, h2⟩ := mem_wk.1 hx
  obtain ⟨-, h3⟩ := mem_wk.1 hy
  cases x with
  | nil => simp at h1; omega
  | cons i l =>
    have e1 := h2.2.1
    have e2 := h3.2.1
    omega
theorem clW_mem {es : List E3} {S : Nat} (hin : InS S es) {n : Nat} (hn : 0 < n) (l : List Nat) : l ∈ clW es S n ↔ Cyc (eR es) es.length n l := by
  unfold clW
  rw [List.mem_flatMap]
  constructor
  · rintro ⟨s, -, hl⟩
    obtain ⟨h1, h2⟩ := mem_wk.1 hl
    cases l with
    | nil => simp at h1; omega
    | cons i l =>
      obtain ⟨k1, k2, k3, k4⟩ := pt_chain.1 h2
      have hnl : n = l.length + 1 := by simpa using h1.symm
      refine ⟨h1, fun j hj => ⟨k2 j (by omega), ?_⟩⟩
      unfold eR
      rw [decide_eq_true_eq]
      rcases Nat.lt_or_ge j l.length with hlt | hge
      · rw [Nat.mod_eq_of_lt (by omega)]; exact k3 j hlt
      · obtain rfl : j = l.length := by omega
        rw [hnl, Nat.mod_self, k4]; exact k1.symm
  · rintro ⟨h1, h2⟩
    cases l with
    | nil => simp at h1; omega
    | cons i l =>
      have hnl : n = l.length + 1 := by simpa using h1.symm
      have hi := (h2 0 hn).1
      rw [List.getD_cons_zero] at hi
      have h6 : es[i]? = some es[i] := List.getElem?_eq_getElem hi
      have hS := hin es[i] (List.mem_of_getElem? h6)
      obtain ⟨e1, e2⟩ := eFT h6
      have hr : ∀ j, j < n → eT es ((i :: l).getD j 0) = eF es ((i :: l).getD ((j + 1) % n) 0) := fun j hj => of_decide_eq_true (h2 j hj).2
      refine ⟨(eF es i).toNat, List.mem_range.2 (by omega), mem_wk.2 ⟨h1, ?_⟩⟩
      have hs : (((eF es i).toNat : Nat) : Int) = eF es i := by omega
      rw [hs]
      refine pt_chain.2 ⟨rfl, fun j hj => (h2 j (by omega)).1, fun j hj => ?_, ?_⟩
      · have := hr j (by omega)
        rwa [Nat.mod_eq_of_lt (by omega)] at this
      · have := hr l.length (by omega)
        rw [← hnl, Nat.mod_self] at this
        exact this
/-- THE NECKLACES: of each length d a multiple of d closed paths has the least period d; those of length n are, for the divisors d of n, these. -/
theorem necklace {es : List E3} {S : Nat} (hin : InS S es) : ∃ P : Nat → Nat, (∀ d, 0 < d → d ∣ P d) ∧
    ∀ n, 0 < n → clN es S n = (((List.range (n + 1)).map fun d => if 0 < d ∧ n % d = 0 then P d else 0).sum : Nat) := by
  refine ⟨fun d => ((clW es S d).filter (perB d)).length, fun d hd => prim_dvd (fun n hn => clW_nodup es S hn) (fun n hn l => clW_mem hin hn l) hd, fun n hn => ?_⟩
  rw [← clW_length, closed_parts (fun n hn => clW_nodup es S hn) (fun n hn l => clW_mem hin hn l) hn]
end Go.Proofs.YthpgeeaccmgbkaaGreat

/- The powers of a graph's matrix count paths; plain. -/
namespace Go.Proofs.YthpgeeaccmgbkaaGreat
open Go.RowKit

/-- A path of a + b edges: a edges to some state, then b edges. -/
theorem cw_comp {S : Nat} {es : List E3} (hin : InS S es) (k : Int) (b : Nat) : ∀ (a : Nat) (i : Nat), i < S →
    ((List.range S).map fun (j : Nat) => cw es (ind (j : Int)) a (i : Int) * cw es (ind k) b (j : Int)).sum = cw es (ind k) (a + b) (i : Int)
  | 0, i, hi => by
    rw [Nat.zero_add]
    have h1 : ∀ (M : Nat), ((List.range M).map fun (j : Nat) => cw es (ind (j : Int)) 0 (i : Int) * cw es (ind k) b (j : Int)).sum = if i < M then cw es (ind k) b (i : Int) else 0 := fun M => by
      induction M with
      | zero => simp
      | succ M ih =>
        rw [List.range_succ, List.map_append, sum_append, ih, List.map_cons, List.map_nil, List.sum_cons, List.sum_nil, cw_ind0]
        by_cases e : i = M
        · subst e; simp
        · have : ¬ (i : Int) = (M : Int) := by omega
          rw [if_neg this]
          by_cases h : i < M
          · rw [if_pos h, if_pos (by omega)]; omega
          · rw [if_neg h, if_neg (by omega)]; omega
    rw [h1, if_pos hi]
  | a + 1, i, hi => by
    have h2 : ∀ j : Nat, cw es (ind (j : Int)) (a + 1) (i : Int) * cw es (ind k) b (j : Int) = ((es.filter fun e => e.f == (i : Int)).map fun e => cw es (ind (j : Int)) a e.t * cw es (ind k) b (j : Int)).sum := fun j => by
      rw [cw]
      generalize (es.filter fun e => e.f == (i : Int)) = l
      induction l with
      | nil => simp
      | cons e l ih => rw [List.map_cons, List.map_cons, List.sum_cons, List.sum_cons, Int.add_mul, ih]
    rw [List.map_congr_left (fun j _ => h2 j), sum_swap, Nat.succ_add, cw]
    congr 1
    refine List.map_congr_left fun e he => ?_
    have h3 := hin e (List.mem_filter.1 he).1
    obtain ⟨t, ht⟩ : ∃ t : Nat, e.t = t := ⟨e.t.toNat, by omega⟩
    rw [ht]
    exact cw_comp hin k b a t (by omega)
where
  sum_append {l r : List Int} : (l ++ r).sum = l.sum + r.sum := by
    induction l with
    | nil => simp
    | cons x l ih => simp only [List.cons_append, List.sum_cons, ih]; omega
/-- The power's entries. -/
def pwF (es : List E3) (n : Nat) (i k : Nat) : Int := cw es (ind (k : Int)) n (i : Int)
def pwM (es : List E3) (S n : Nat) : List (List Int) := matF S S (pwF es n)
theorem pw_sm {es : List E3} (h : es.length ≤ 1024) (n i k : Nat) : sm (2 * n + 1) (pwF es n i k) := by
  unfold sm pwF
  have h1 := cw_le_len es (ind (k : Int)) n (i : Int)
  have h2 := cw_nonneg es (ind (k : Int)) n (i : Int)
  have h3 : es.length ^ n ≤ 65536 ^ n := Nat.pow_le_pow_left (by omega) n
  have h4 : (256 : Nat) ^ (2 * n + 1) = 65536 ^ n * 256 := by rw [Nat.pow_succ, Nat.pow_mul]
  have h5 : 0 < (65536 : Nat) ^ n := Nat.pow_pos (by decide)
  rw [h4]
  have h6 : (cw es (ind (k : Int)) n (i : Int)).natAbs ≤ es.length ^ n := by omega
  have h7 : (65536 : Nat) ^ n < 65536 ^ n * 256 := by
    have := Nat.mul_lt_mul_of_pos_left (show 1 < 256 by decide) h5
    omega
  omega
theorem pw_ok {es : List E3} (h : es.length ≤ 1024) (S n : Nat) : MatOk (pwM es S n) S S (2 * n + 1) := matF_ok (pw_sm h n)
theorem ent_matF {n m : Nat} {f : Nat → Nat → Int} {i k : Nat} (hi : i < n) (hk : k < m) : ent (matF n m f) i k = f i k :=
  ent_get (matF_get hi) (by simp [hk])
theorem matF_congr {n m : Nat} {f g : Nat → Nat → Int} (h : ∀ i k, i < n → k < m → f i k = g i k) : matF n m f = matF n m g := by
  unfold matF
  refine List.map_congr_left fun i hi => List.map_congr_left fun k hk => h i k (List.mem_range.1 hi) (List.mem_range.1 hk)
theorem pw_mul {S : Nat} {es : List E3} (hin : InS S es) (a b : Nat) : matF S S (mulF (pwM es S a) (pwM es S b)) = pwM es S (a + b) := by
  refine matF_congr fun i k hi hk => ?_
  unfold mulF pwM
  rw [matF_length, ← show cw es (ind (k : Int)) (a + b) (i : Int) = pwF es (a + b) i k from rfl, ← cw_comp hin (k : Int) b a i hi]
  congr 1
  refine List.map_congr_left fun j hj => ?_
  have hj' := List.mem_range.1 hj
  rw [ent_matF hi hj', ent_matF hj' hk]
  rfl
theorem pw_zero (es : List E3) (S : Nat) : matF S S (diagF 1) = pwM es S 0 := by
  refine matF_congr fun i k _ _ => ?_
  unfold diagF pwF
  rw [cw_ind0]
  by_cases h : i = k
  · subst h; simp
  · have : ¬ (i : Int) = (k : Int) := by omega
    rw [if_neg h, if_neg this]
theorem pw_one (es : List E3) (S : Nat) : matF S S (adjF es) = pwM es S 1 := by
  refine matF_congr fun i k _ _ => ?_
  unfold pwF adjF
  rw [cw]
  induction es with
  | nil => rfl
  | cons e es ih =>
    rw [List.filter_cons, List.filter_cons]
    have hc : cw (e :: es) (ind (k : Int)) 0 = cw es (ind (k : Int)) 0 := by funext s; rw [cw_ind0, cw_ind0]
    by_cases hf : e.f = (i : Int)
    · by_cases ht : e.t = (k : Int)
      · rw [if_pos (by simp [hf, ht]), if_pos (by simp [hf]), List.map_cons, List.sum_cons, hc, ← ih, cw_ind0, if_pos ht, List.length_cons]
        omega
      · rw [if_neg (by simp [ht]), if_pos (by simp [hf]), List.map_cons, List.sum_cons, hc, ← ih, cw_ind0, if_neg ht]
        omega
    · rw [if_neg (by simp [hf]), if_neg (by simp [hf]), hc, ← ih]
/-- The trace. -/
theorem pw_trace (es : List E3) (S n : Nat) : ((List.range S).map fun (s : Nat) => pwF es n s s).sum = clN es S n := rfl
end Go.Proofs.YthpgeeaccmgbkaaGreat

