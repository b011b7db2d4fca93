/- Contracts and plain laws of several functions, one after the other: CharC, PsG, PsC. -/
import Derived.Test.YthpgeeaccmgbkaaChar
import Derived.Test.YthpgeeaccmgbkaaPart11
import Derived.Test.YthpgeeaccmgbkaaPart5
import Derived.Test.YthpgeeaccmgbkaaPart12
/- matrix.square, Characteristic. -/
namespace Go.Proofs.Ythpgeeaccmgbkaa
open Go.RowKit

set_option maxRecDepth 100000 in
set_option maxHeartbeats 3200000 in
theorem square_any (n p : Nat) (A : List (List Int)) (v : Value) (w : World) (hA : Tab w v A) (okA : MatOk A n n p) (hn0 : 0 < n) (hn : n ≤ 32) (hp : p ≤ 1000000) :
    Calls Try.prog 52 #[v] w (Ret w (.int .i64 0)) := by
  obtain ⟨ba, oa, ca, a', c', rfl, hba, hca⟩ := tab_first hA okA hn0
  have hAl := okA.len
  rw [hAl] at hA ⊢
  have bs := Blk.new w 46 [.slice (some ⟨ba, oa, none⟩) n ca]
  have s0 := (Below.refl w.heap.size w).alloc (Nat.le_refl _) (.cells #[.slice (some ⟨ba, oa, none⟩) n ca] 46)
  obtain ⟨w1, hw1⟩ : ∃ w1, w.alloc (.cells #[.slice (some ⟨ba, oa, none⟩) n ca] 46) = w1 := ⟨_, rfl⟩
  rw [hw1] at bs s0
  have hA1 := hA.below s0 (Nat.le_refl _)
  have hbad := bad_any [(some ⟨ba, oa, none⟩, n, ca)] (.slice (some ⟨w.heap.size, 0, none⟩) 1 1) w1
    (Row.ofBlk bs (m := 1) (cap := 1) (Nat.le_refl _) (by decide) 1)
    (fun x hx => by
      simp only [List.mem_cons, List.not_mem_nil, or_false] at hx
      subst hx
      exact ⟨n, n, p, A, hA1, okA, hn0, hn, hn0, hn, by omega⟩)
  have t0 : ((n : Int) == (n : Int)) = true := by simp
  have hn1 : (0 : Int) < (n : Int) := by omega
  have g0 := (s0.cell (p := ⟨ba, oa, none⟩) hba).trans hca
  have hs1 := s0.size
  have hba1 : ba < w1.heap.size := by omega
  have HBAD := Lib.hid hbad; clear hbad
  have S0 := Lib.hid s0; clear s0
  clear bs hA hA1 hca hAl okA
  go_enter Try.func52, Try.ntmps52
  go_wp2_with fail
  go_at_call 71
  refine HBAD.out.mono ?_
  rintro e w2 ⟨hq, rfl⟩
  have s2 := S0.out.trans (hq.mono S0.out.size)
  have g1 := (hq.cell (p := ⟨ba, oa, none⟩) hba1).trans g0
  have S2 := Lib.hid s2; clear s2
  clear hq g0
  go_wp2_with fail
  go_ret
  exact ⟨S2.out, rfl⟩
def ChRet1 (n : Nat) (c : Nat → Int) (w : World) (e : Ending) (w' : World) : Prop :=
  Below w.heap.size w w' ∧ ∃ pb, e = .returned (.tuple #[.slice (some ⟨pb, 0, none⟩) (n + 1) (n + 1), .int .i64 0]) ∧ Blk w' pb 28 (civ (pL c n (n + 1))) ∧ w.heap.size ≤ pb
set_option maxRecDepth 100000 in
set_option maxHeartbeats 3200000 in
theorem Char_any (n P : Nat) (A : List (List Int)) (v : Value) (c r : Nat → Int) (w : World) (hT : Tab w v A) (okA : MatOk A n n P) (hn0 : 0 < n) (hn : n ≤ 32) (hP : P ≤ 40000) (hP1 : 1 ≤ P)
    (hch : ∀ j, j < n → MatOk (chM A n c j) n n P) (hc : ∀ j, j ≤ n → sm P (c j))
    (hdiv : ∀ j, j < n → ∀ w', Calls Try.prog 33 #[IntV (-(trM (nxM A n c j) n)), IntV ((j : Int) + 1)] w' (Ret w' (.tuple #[IntV (c (j + 1)), IntV (r j), .int .i64 0]))) :
    Calls Try.prog 43 #[v] w (ChRet1 n c w) := by
  have hsq := square_any n P A v w hT okA hn0 hn (by omega)
  have hcc := fun w' h => char_any n P A v c r w' h okA hn0 hn hP hP1 hch hc hdiv
  obtain ⟨rvs, h1, h2, -⟩ := id hT
  obtain ⟨aa, ca, rfl, hla⟩ := h2.slice
  clear h1 h2 hdiv
  have HSQ := Lib.hid hsq; clear hsq
  have HCC := Lib.hid hcc; clear hcc
  have HT := Lib.hid hT; clear hT
  go_enter Try.func43, Try.ntmps43
  go_wp2_with fail
  go_at_call 52
  refine HSQ.out.mono ?_
  rintro e w1 ⟨hq, rfl⟩
  have hT1 := HT.out.below hq (Nat.le_refl _)
  have S1 := Lib.hid hq; clear hq
  have HT1 := Lib.hid hT1; clear hT1
  go_wp2_with fail
  go_at_call 67
  refine (HCC.out _ HT1.out).mono ?_
  rintro e w2 ⟨hq, pb, bm, rfl, hb, hle⟩
  have s2 := S1.out.trans (hq.mono S1.out.size)
  have hle2 : w.heap.size ≤ pb := Nat.le_trans S1.out.size hle
  have S2 := Lib.hid s2; clear s2
  have HB := Lib.hid hb; clear hb
  clear hq
  go_wp2_with fail
  go_ret2
  exact ⟨S2.out, pb, rfl, HB.out, hle2⟩
end Go.Proofs.Ythpgeeaccmgbkaa

/- Walks in a part of a graph as power series: first passages, Newton's identities, Cayley and Hamilton; plain. -/
namespace Go.Proofs.Ythpgeeaccmgbkaa

/-- Walks of n steps from i to j within V (the first state may be any). -/
def gw (a : Nat → Nat → Int) (V : List Nat) : Nat → Nat → Nat → Int
  | 0, i, j => if i = j then 1 else 0
  | n + 1, i, j => (V.map fun l => a i l * gw a V n l j).sum
def GW (a : Nat → Nat → Int) (V : List Nat) (i j : Nat) : PS := fun n => gw a V n i j
theorem pick_list {V : List Nat} (hV : V.Nodup) {i : Nat} (hi : i ∈ V) (f : Nat → Int) : (V.map fun l => (if i = l then 1 else 0) * f l).sum = f i := by
  induction V with
  | nil => cases hi
  | cons x V ih =>
    rw [List.nodup_cons] at hV
    simp only [List.map_cons, List.sum_cons]
    by_cases e : i = x
    · subst e
      rw [if_pos rfl, Int.one_mul]
      have : (V.map fun l => (if i = l then 1 else 0) * f l).sum = 0 := by
        rw [List.map_congr_left (g := fun _ => (0 : Int)) (fun l hl => by
          have : ¬ i = l := fun h => hV.1 (h ▸ hl)
          rw [if_neg this]; simp)]
        exact sum_zero' V
      rw [this]; simp
    · have hi2 : i ∈ V := (List.mem_cons.1 hi).resolve_left e
      rw [if_neg e, ih hV.2 hi2]; simp
theorem mul_sumL {α : Type} (c : Int) (l : List α) (f : α → Int) : c * (l.map f).sum = (l.map fun x => c * f x).sum := by
  induction l with
  | nil => simp
  | cons x l ih => simp only [List.map_cons, List.sum_cons, Int.mul_add, ih]
theorem sum_mulL {α : Type} (c : Int) (l : List α) (f : α → Int) : (l.map f).sum * c = (l.map fun x => f x * c).sum := by
  induction l with
  | nil => simp
  | cons x l ih => simp only [List.map_cons, List.sum_cons, Int.add_mul, ih]
theorem sum_congr {α : Type} {l : List α} {f g : α → Int} (h : ∀ x ∈ l, f x = g x) : (l.map f).sum = (l.map g).sum := by rw [List.map_congr_left h]
theorem gw_comp {a : Nat → Nat → Int} {V : List Nat} (hV : V.Nodup) (q j : Nat) : ∀ (p i : Nat), i ∈ V → (V.map fun l => gw a V p i l * gw a V q l j).sum = gw a V (p + q) i j
  | 0, i, hi => by
    rw [Nat.zero_add]
    exact pick_list hV hi (fun l => gw a V q l j)
  | p + 1, i, hi => by
    have h1 : ∀ l ∈ V, gw a V (p + 1) i l * gw a V q l j = (V.map fun m => a i m * (gw a V p m l * gw a V q l j)).sum := fun l _ => by
      show (V.map fun m => a i m * gw a V p m l).sum * _ = _
      rw [sum_mulL]
      exact sum_congr fun m _ => Int.mul_assoc _ _ _
    rw [sum_congr h1, sum_swap, Nat.succ_add]
    show _ = (V.map fun m => a i m * gw a V (p + q) m j).sum
    refine sum_congr fun m hm => ?_
    rw [← mul_sumL, gw_comp hV q j p m hm]
theorem gw_out {a : Nat → Nat → Int} {U : List Nat} {v : Nat} (hv : v ∉ U) : ∀ (n i : Nat), i ∈ U → gw a U n i v = 0
  | 0, i, hi => by
    have : ¬ i = v := fun h => hv (h ▸ hi)
    simp [gw, this]
  | n + 1, i, hi => by
    show (U.map fun l => a i l * gw a U n l v).sum = 0
    rw [sum_congr (g := fun _ => 0) (fun l hl => by rw [gw_out hv n l hl]; simp)]
    exact sum_zero' U
/-- First arrivals at v. -/
def Hs (a : Nat → Nat → Int) (U : List Nat) (v i : Nat) : PS := psz fun n => (U.map fun k => gw a U n i k * a k v).sum
theorem Hs_step {a : Nat → Nat → Int} {U : List Nat} (hU : U.Nodup) (v : Nat) {i : Nat} (hi : i ∈ U) : tlS (Hs a U v i) = fun n => psC (a i v) n + (U.map fun l => a i l * Hs a U v l n).sum := by
  funext n
  show (U.map fun k => gw a U n i k * a k v).sum = _
  cases n with
  | zero =>
    have h1 : (U.map fun k => gw a U 0 i k * a k v).sum = a i v := pick_list hU hi (fun k => a k v)
    have h2 : (U.map fun l => a i l * Hs a U v l 0).sum = 0 := by
      rw [sum_congr (g := fun _ => 0) (fun l _ => by show a i l * 0 = 0; simp)]; exact sum_zero' U
    rw [h1, h2]; simp [psC]
  | succ n =>
    have h1 : ∀ k ∈ U, gw a U (n + 1) i k * a k v = (U.map fun l => a i l * (gw a U n l k * a k v)).sum := fun k _ => by
      show (U.map fun l => a i l * gw a U n l k).sum * _ = _
      rw [sum_mulL]
      exact sum_congr fun l _ => Int.mul_assoc _ _ _
    rw [sum_congr h1, sum_swap]
    have h2 : psC (a i v) (n + 1) = 0 := by simp [psC]
    rw [h2, Int.zero_add]
    refine sum_congr fun l _ => ?_
    rw [← mul_sumL]; rfl
/-- First returns to v. -/
def Wt (a : Nat → Nat → Int) (U : List Nat) (v : Nat) : PS := fun n => psC (a v v) n + (U.map fun l => a v l * Hs a U v l n).sum
def Ws (a : Nat → Nat → Int) (U : List Nat) (v : Nat) : PS := psz (Wt a U v)
/-- Walks that leave v for good. -/
def Ks (a : Nat → Nat → Int) (U : List Nat) (v k : Nat) : PS
  | 0 => if v = k then 1 else 0
  | n + 1 => (U.map fun l => a v l * gw a U n l k).sum
theorem pm_step (c : Int) (U : List Nat) (b : Nat → Int) (f : Nat → PS) (g : PS) (n : Nat) : pm (fun k => psC c k + (U.map fun l => b l * f l k).sum) g n = c * g n + (U.map fun l => b l * pm (f l) g n).sum := by
  rw [pm_addl, pm_constl, pm_suml]
  congr 1
  exact sum_congr fun l _ => pm_smull _ _ _ _
theorem gw_cons (a : Nat → Nat → Int) (v : Nat) (U : List Nat) (n i k : Nat) : gw a (v :: U) (n + 1) i k = a i v * gw a (v :: U) n v k + (U.map fun l => a i l * gw a (v :: U) n l k).sum := rfl
theorem gw_first {a : Nat → Nat → Int} {U : List Nat} (hU : U.Nodup) (v k : Nat) : ∀ (n i : Nat), i ∈ U → gw a (v :: U) n i k = gw a U n i k + pm (Hs a U v i) (GW a (v :: U) v k) n
  | 0, i, hi => by
    show gw a (v :: U) 0 i k = gw a U 0 i k + 0 * _
    rw [Int.zero_mul, Int.add_zero]; rfl
  | n + 1, i, hi => by
    have e : pm (Hs a U v i) (GW a (v :: U) v k) (n + 1) = pm (tlS (Hs a U v i)) (GW a (v :: U) v k) n := by
      show (0 : Int) * _ + _ = _
      simp
    rw [e, Hs_step hU v hi, pm_step, gw_cons, sum_congr (fun l hl => by rw [gw_first hU v k n l hl, Int.mul_add]), sum_add']
    show _ = (U.map fun l => a i l * gw a U n l k).sum + (a i v * gw a (v :: U) n v k + _)
    omega
theorem gw_back {a : Nat → Nat → Int} {U : List Nat} (hU : U.Nodup) (v k n : Nat) : gw a (v :: U) n v k = Ks a U v k n + pm (Ws a U v) (GW a (v :: U) v k) n := by
  cases n with
  | zero =>
    show gw a (v :: U) 0 v k = (if v = k then 1 else 0) + 0 * _
    rw [Int.zero_mul, Int.add_zero]; rfl
  | succ n =>
    have e : pm (Ws a U v) (GW a (v :: U) v k) (n + 1) = pm (Wt a U v) (GW a (v :: U) v k) n := by
      show (0 : Int) * _ + pm (Wt a U v) _ n = _
      simp
    rw [e]
    show _ = _ + pm (fun j => psC (a v v) j + (U.map fun l => a v l * Hs a U v l j).sum) _ n
    rw [pm_step, gw_cons, sum_congr (fun l hl => by rw [gw_first hU v k n l hl, Int.mul_add]), sum_add']
    show _ = (U.map fun l => a v l * gw a U n l k).sum + (a v v * gw a (v :: U) n v k + _)
    omega
/-- One less the first returns. -/
def D1 (a : Nat → Nat → Int) (U : List Nat) (v : Nat) : PS := fun n => psC 1 n + (-1) * Ws a U v n
theorem D1_mul {a : Nat → Nat → Int} {U : List Nat} (hU : U.Nodup) (v k : Nat) : pm (D1 a U v) (GW a (v :: U) v k) = Ks a U v k := by
  funext n
  have h := gw_back (a := a) hU v k n
  show pm (fun n => psC 1 n + (-1) * Ws a U v n) _ n = _
  rw [pm_addl (psC 1) (fun n => (-1) * Ws a U v n), pm_constl, pm_smull]
  show 1 * gw a (v :: U) n v k + _ = _
  omega
theorem Ks_self {a : Nat → Nat → Int} {U : List Nat} {v : Nat} (hv : v ∉ U) : Ks a U v v = psC 1 := by
  funext n
  cases n with
  | zero => simp [Ks, psC]
  | succ n =>
    show (U.map fun l => a v l * gw a U n l v).sum = _
    rw [sum_congr (g := fun _ => 0) (fun l hl => by rw [gw_out hv n l hl]; simp)]
    rw [sum_zero']; simp [psC]
theorem D1_inv {a : Nat → Nat → Int} {U : List Nat} (hU : U.Nodup) {v : Nat} (hv : v ∉ U) : pm (D1 a U v) (GW a (v :: U) v v) = psC 1 := by
  rw [D1_mul hU, Ks_self hv]
theorem gw_last {a : Nat → Nat → Int} {U : List Nat} (hU : U.Nodup) {v : Nat} (hv : v ∉ U) (k : Nat) : GW a (v :: U) v k = pm (GW a (v :: U) v v) (Ks a U v k) := by
  rw [← D1_mul hU, ← pm_assoc, pm_comm (GW a (v :: U) v v), D1_inv hU hv, pm_comm, pm_one]
theorem gw_in {a : Nat → Nat → Int} {U : List Nat} (hU : U.Nodup) {v : Nat} (hv : v ∉ U) {i : Nat} (hi : i ∈ U) : GW a (v :: U) i v = pm (Hs a U v i) (GW a (v :: U) v v) := by
  funext n
  show gw a (v :: U) n i v = _
  rw [gw_first hU v v n i hi, gw_out hv n i hi, Int.zero_add]
/-- Traces. -/
def Ts (a : Nat → Nat → Int) (V : List Nat) : PS := fun n => if n = 0 then 0 else (V.map fun i => gw a V n i i).sum
theorem theta_W {a : Nat → Nat → Int} {U : List Nat} (hU : U.Nodup) {v : Nat} (hv : v ∉ U) (n : Nat) : psth (Ws a U v) n = Ws a U v n + (U.map fun i => pm (Hs a U v i) (Ks a U v i) n).sum := by
  have hK : ∀ i ∈ U, pm (Hs a U v i) (Ks a U v i) = psz (psz (pm (fun n => (U.map fun l => a v l * gw a U n l i).sum) (fun n => (U.map fun k => gw a U n i k * a k v).sum))) := fun i hi => by
    have e : Ks a U v i = psz fun n => (U.map fun l => a v l * gw a U n l i).sum := by
      funext n
      cases n with
      | zero =>
        have : ¬ v = i := fun h => hv (h ▸ hi)
        simp [Ks, psz, this]
      | succ n => rfl
    rw [e, pm_comm, pm_zl]
    unfold Hs
    rw [pm_zr]
  rw [sum_congr (fun i hi => by rw [hK i hi])]
  match n with
  | 0 =>
    have : (U.map fun i => psz (psz (pm (fun n => (U.map fun l => a v l * gw a U n l i).sum) (fun n => (U.map fun k => gw a U n i k * a k v).sum))) 0).sum = 0 := sum_zero' U
    rw [this]; simp [psth, Ws, psz]
  | 1 =>
    have : (U.map fun i => psz (psz (pm (fun n => (U.map fun l => a v l * gw a U n l i).sum) (fun n => (U.map fun k => gw a U n i k * a k v).sum))) 1).sum = 0 := sum_zero' U
    rw [this]; simp [psth]
  | n + 2 =>
    have hs := ps_sum_const U n (fun i => fun n => (U.map fun l => a v l * gw a U n l i).sum) (fun i => fun n => (U.map fun k => gw a U n i k * a k v).sum) (fun n => (U.map fun l => a v l * (U.map fun k => gw a U n l k * a k v).sum).sum) (fun p q => by
      show (U.map fun i => (U.map fun l => a v l * gw a U p l i).sum * (U.map fun k => gw a U q i k * a k v).sum).sum = (U.map fun l => a v l * (U.map fun k => gw a U (p + q) l k * a k v).sum).sum
      have h1 : ∀ i ∈ U, (U.map fun l => a v l * gw a U p l i).sum * (U.map fun k => gw a U q i k * a k v).sum = (U.map fun l => (U.map fun k => a v l * (gw a U p l i * gw a U q i k * a k v)).sum).sum := fun i _ => by
        rw [sum_mulL]
        refine sum_congr fun l _ => ?_
        rw [mul_sumL]
        refine sum_congr fun k _ => ?_
        rw [Int.mul_assoc, Int.mul_assoc]
      rw [sum_congr h1, sum_swap]
      refine sum_congr fun l hl => ?_
      rw [sum_swap, mul_sumL]
      refine sum_congr fun k _ => ?_
      rw [← mul_sumL, ← sum_mulL, gw_comp hU q k p l hl])
    have e1 : Ws a U v (n + 2) = (U.map fun l => a v l * (U.map fun k => gw a U n l k * a k v).sum).sum := by
      show psC (a v v) (n + 1) + _ = _
      rw [show psC (a v v) (n + 1) = 0 by simp [psC], Int.zero_add]; rfl
    show ((n + 2 : Nat) : Int) * Ws a U v (n + 2) = Ws a U v (n + 2) + _
    have e2 : (U.map fun i => psz (psz (pm (fun n => (U.map fun l => a v l * gw a U n l i).sum) (fun n => (U.map fun k => gw a U n i k * a k v).sum))) (n + 2)).sum = ((n : Int) + 1) * Ws a U v (n + 2) := by
      rw [e1, ← hs]; rfl
    rw [e2, show ((n + 2 : Nat) : Int) = 1 + ((n : Int) + 1) by omega, Int.add_mul 1, Int.one_mul]
theorem Ts_cons {a : Nat → Nat → Int} {U : List Nat} (hU : U.Nodup) {v : Nat} (hv : v ∉ U) (n : Nat) : Ts a (v :: U) n = Ts a U n + pm (psth (Ws a U v)) (GW a (v :: U) v v) n := by
  have e : psth (Ws a U v) = fun n => Ws a U v n + (U.map fun i => pm (Hs a U v i) (Ks a U v i) n).sum := by funext n; exact theta_W hU hv n
  rw [e, pm_addl (Ws a U v) (fun n => (U.map fun i => pm (Hs a U v i) (Ks a U v i) n).sum), pm_suml]
  have h1 : ∀ i ∈ U, pm (pm (Hs a U v i) (Ks a U v i)) (GW a (v :: U) v v) n = pm (Hs a U v i) (GW a (v :: U) v i) n := fun i _ => by
    rw [pm_assoc, pm_comm (Ks a U v i), ← gw_last hU hv i]
  rw [sum_congr h1]
  cases n with
  | zero =>
    have : (U.map fun i => pm (Hs a U v i) (GW a (v :: U) v i) 0).sum = 0 := by
      rw [sum_congr (g := fun _ => 0) (fun i _ => by show (0 : Int) * _ = 0; simp)]; exact sum_zero' U
    rw [this]
    show (0 : Int) = 0 + (0 * _ + 0)
    simp
  | succ n =>
    show ((v :: U).map fun i => gw a (v :: U) (n + 1) i i).sum = (U.map fun i => gw a U (n + 1) i i).sum + _
    rw [List.map_cons, List.sum_cons, sum_congr (fun i hi => gw_first hU v i (n + 1) i hi), sum_add', gw_back hU v v (n + 1), Ks_self hv]
    rw [show psC 1 (n + 1) = 0 by simp [psC]]
    omega
/-- The characteristic polynomial, backwards. -/
def DD (a : Nat → Nat → Int) : List Nat → PS
  | [] => psC 1
  | v :: U => pm (DD a U) (D1 a U v)
theorem newton (a : Nat → Nat → Int) : ∀ {V : List Nat}, V.Nodup → ∀ n : Nat, (n : Int) * DD a V n = - pm (Ts a V) (DD a V) n
  | [], _, n => by
    have e : Ts a [] = fun _ => 0 := by funext k; simp [Ts]
    rw [e, pm_zerol]
    simp only [DD, psC]
    split
    · rename_i h; subst h; simp
    · simp
  | v :: U, hV, n => by
    rw [List.nodup_cons] at hV
    have ih := newton a hV.2
    have e1 : psth (DD a U) = fun k => (-1) * pm (Ts a U) (DD a U) k := by
      funext k
      show (k : Int) * DD a U k = _
      rw [ih k]; omega
    have e2 : psth (D1 a U v) = fun k => (-1) * psth (Ws a U v) k := by
      funext k
      show (k : Int) * (psC 1 k + (-1) * Ws a U v k) = (-1) * ((k : Int) * Ws a U v k)
      have : (k : Int) * psC 1 k = 0 := by simp only [psC]; split
                                           · rename_i h; subst h; simp
                                           · simp
      rw [Int.mul_add, this, Int.mul_left_comm]; simp
    have e3 : Ts a (v :: U) = fun k => Ts a U k + pm (psth (Ws a U v)) (GW a (v :: U) v v) k := by funext k; exact Ts_cons hV.2 hV.1 k
    show (n : Int) * pm (DD a U) (D1 a U v) n = - pm (Ts a (v :: U)) (pm (DD a U) (D1 a U v)) n
    rw [pm_theta, e1, e2, pm_smull, pm_smulr, e3, pm_addl (Ts a U) (pm (psth (Ws a U v)) (GW a (v :: U) v v)), pm_assoc, pm_assoc (psth (Ws a U v)), ← pm_assoc (GW a (v :: U) v v), pm_comm (GW a (v :: U) v v), pm_assoc (DD a U), pm_comm (GW a (v :: U) v v), D1_inv hV.2 hV.1, pm_one, pm_comm (DD a U) (psth _)]
    omega
theorem DD_zero (a : Nat → Nat → Int) : ∀ V : List Nat, DD a V 0 = 1
  | [] => by simp [DD, psC]
  | v :: U => by
    show DD a U 0 * (psC 1 0 + (-1) * 0) = 1
    rw [DD_zero a U]; simp [psC]
theorem perm_sum {α : Type} {l l' : List α} (h : l.Perm l') (f : α → Int) : (l.map f).sum = (l'.map f).sum := by
  induction h with
  | nil => rfl
  | cons x _ ih => simp only [List.map_cons, List.sum_cons, ih]
  | swap x y l => simp only [List.map_cons, List.sum_cons]; omega
  | trans _ _ ih1 ih2 => rw [ih1, ih2]
theorem gw_perm (a : Nat → Nat → Int) {V V' : List Nat} (h : V.Perm V') : ∀ (n i j : Nat), gw a V n i j = gw a V' n i j
  | 0, _, _ => rfl
  | n + 1, i, j => by
    show (V.map fun l => a i l * gw a V n l j).sum = (V'.map fun l => a i l * gw a V' n l j).sum
    rw [perm_sum h]
    exact sum_congr fun l _ => by rw [gw_perm a h n l j]
theorem GW_perm (a : Nat → Nat → Int) {V V' : List Nat} (h : V.Perm V') (i j : Nat) : GW a V i j = GW a V' i j := by funext n; exact gw_perm a h n i j
theorem DD_perm (a : Nat → Nat → Int) {V V' : List Nat} (hV : V.Nodup) (h : V.Perm V') : DD a V = DD a V' := by
  have hV' : V'.Nodup := h.nodup_iff.1 hV
  have e : Ts a V = Ts a V' := by
    funext n
    simp only [Ts]
    split
    · rfl
    · rw [perm_sum h]
      exact sum_congr fun i _ => gw_perm a h n i i
  refine ps_unique (T := Ts a V) (by simp [Ts]) (by rw [DD_zero, DD_zero]) (newton a hV) ?_
  rw [e]
  exact newton a hV'
/-- Cayley and Hamilton: the degrees. -/
theorem deg_H {a : Nat → Nat → Int} {U : List Nat} {m v i : Nat} (h : ∀ k ∈ U, degB m (pm (DD a U) (GW a U i k))) : degB (m + 1) (pm (DD a U) (Hs a U v i)) := by
  unfold Hs
  rw [pm_zr]
  refine degB_z fun n hn => ?_
  rw [pm_sumr]
  rw [sum_congr (g := fun _ => 0) (fun k hk => by
    have e : (fun n => gw a U n i k * a k v) = fun n => a k v * GW a U i k n := by funext n; exact Int.mul_comm _ _
    rw [e, pm_smulr, h k hk n hn]; simp)]
  exact sum_zero' U
theorem deg_all (a : Nat → Nat → Int) : ∀ (m : Nat) (V : List Nat), V.Nodup → V.length = m → degB (m + 1) (DD a V) ∧ ∀ i ∈ V, ∀ j ∈ V, degB m (pm (DD a V) (GW a V i j))
  | 0, V, hV, hl => by
    obtain rfl := List.length_eq_zero_iff.1 hl
    refine ⟨fun k hk => ?_, fun i hi => by cases hi⟩
    show psC 1 k = 0
    simp [psC]; omega
  | m + 1, V, hV, hl => by
    constructor
    · match V, hV, hl with
      | v :: U, hV, hl =>
        rw [List.nodup_cons] at hV
        have ih := deg_all a m U hV.2 (by simpa using hl)
        intro k hk
        show pm (DD a U) (fun n => psC 1 n + (-1) * Ws a U v n) k = 0
        rw [pm_addr _ (psC 1) (fun n => (-1) * Ws a U v n), pm_one, pm_smulr, ih.1 k (by omega)]
        have h2 : degB (m + 2) (pm (DD a U) (Ws a U v)) := by
          unfold Ws
          rw [pm_zr]
          refine degB_z fun n hn => ?_
          show pm (DD a U) (fun n => psC (a v v) n + (U.map fun l => a v l * Hs a U v l n).sum) n = 0
          rw [pm_comm, pm_step, ih.1 n hn, sum_congr (g := fun _ => 0) (fun l hl => by
            rw [pm_comm, deg_H (ih.2 l hl) n hn]; simp), sum_zero']
          simp
        rw [h2 k hk]; simp
    · intro i hi j hj
      have hp : V.Perm (j :: V.erase j) := List.perm_cons_erase hj
      have hU : (V.erase j).Nodup := hV.erase j
      have hv : j ∉ V.erase j := fun h => by
        have := (List.Nodup.mem_erase_iff hV).1 h
        exact this.1 rfl
      have hlU : (V.erase j).length = m := by rw [List.length_erase_of_mem hj]; omega
      have ih := deg_all a m (V.erase j) hU hlU
      rw [DD_perm a hV hp, GW_perm a hp]
      show degB (m + 1) (pm (pm (DD a (V.erase j)) (D1 a (V.erase j) j)) _)
      rw [pm_assoc]
      by_cases e : i = j
      · subst e
        rw [D1_inv hU hv, pm_one]
        exact ih.1
      · have hiU : i ∈ V.erase j := (List.Nodup.mem_erase_iff hV).2 ⟨e, hi⟩
        rw [gw_in hU hv hiU, pm_comm (Hs a (V.erase j) j i), ← pm_assoc (D1 a (V.erase j) j), D1_inv hU hv, pm_comm (psC 1), pm_one]
        exact deg_H (ih.2 i hiU)
end Go.Proofs.Ythpgeeaccmgbkaa

/- The characteristic polynomial that matrix.Characteristic computes, at a graph's matrix: the divisions leave no rest; plain. -/
namespace Go.Proofs.Ythpgeeaccmgbkaa

/-- The coefficients. -/
def chC (es : List E3) (S : Nat) : Nat → Int := DD (adjF es) (List.range S)
theorem chC_zero (es : List E3) (S : Nat) : chC es S 0 = 1 := DD_zero _ _
theorem sum_range_eq {f : Nat → Int} {n : Nat} : ((List.range n).map f).sum = ((List.range n).map fun j => f j).sum := rfl
theorem adj_cw (es : List E3) {S i l : Nat} (hi : i < S) (hl : l < S) : adjF es i l = cw es (ind (l : Int)) 1 (i : Int) := by
  have h : ent (matF S S (adjF es)) i l = ent (pwM es S 1) i l := by rw [pw_one]
  rw [ent_matF hi hl] at h
  unfold pwM at h
  rw [ent_matF hi hl] at h
  exact h
/-- Walks by the matrix are paths. -/
theorem gw_cw {es : List E3} {S : Nat} (hin : InS S es) (j : Nat) : ∀ (n i : Nat), i < S → gw (adjF es) (List.range S) n i j = cw es (ind (j : Int)) n (i : Int)
  | 0, i, hi => by
    rw [cw_ind0]
    show (if i = j then (1 : Int) else 0) = _
    by_cases h : i = j
    · rw [if_pos h, if_pos (by omega)]
    · rw [if_neg h, if_neg (by omega)]
  | n + 1, i, hi => by
    show ((List.range S).map fun l => adjF es i l * gw (adjF es) (List.range S) n l j).sum = _
    rw [← Nat.add_comm 1 n, ← cw_comp hin (j : Int) n 1 i hi]
    refine sum_congr fun l hl => ?_
    have hl' := List.mem_range.1 hl
    rw [gw_cw hin j n l hl', adj_cw es hi hl']
theorem ent_ch (es : List E3) {S : Nat} : ∀ (k i l : Nat), i < S → l < S → ent (chM (matF S S (adjF es)) S (chC es S) k) i l = pm (chC es S) (GW (adjF es) (List.range S) i l) k
  | 0, i, l, hi, hl => by
    show ent (matF S S (diagF 1)) i l = chC es S 0 * (if i = l then 1 else 0)
    rw [ent_matF hi hl, chC_zero, Int.one_mul]; rfl
  | k + 1, i, l, hi, hl => by
    show ent (matF S S (addF (matF S S (mulF (matF S S (adjF es)) (chM (matF S S (adjF es)) S (chC es S) k))) (matF S S (diagF (chC es S (k + 1)))))) i l = _
    rw [ent_matF hi hl]
    unfold addF
    rw [ent_matF hi hl, ent_matF hi hl]
    have hlen : (chM (matF S S (adjF es)) S (chC es S) k).length = S := by cases k <;> exact matF_length _ _ _
    unfold mulF
    rw [hlen, pm_right, sum_congr (g := fun j => adjF es i j * pm (chC es S) (GW (adjF es) (List.range S) j l) k) (fun j hj => by
      have hj' := List.mem_range.1 hj
      rw [ent_matF hi hj', ent_ch es k j l hj' hl])]
    have e : tlS (GW (adjF es) (List.range S) i l) = fun n => ((List.range S).map fun j => adjF es i j * GW (adjF es) (List.range S) j l n).sum := rfl
    rw [e, pm_sumr]
    have e2 : ((List.range S).map fun j => pm (chC es S) (fun n => adjF es i j * GW (adjF es) (List.range S) j l n) k).sum = ((List.range S).map fun j => adjF es i j * pm (chC es S) (GW (adjF es) (List.range S) j l) k).sum := sum_congr fun j _ => pm_smulr _ _ _ _
    rw [e2]
    have e3 : diagF (chC es S (k + 1)) i l = chC es S (k + 1) * GW (adjF es) (List.range S) i l 0 := by
      show (if i = l then _ else (0 : Int)) = _ * (if i = l then 1 else 0)
      split <;> simp
    rw [e3]
theorem ent_nx (es : List E3) {S : Nat} (k : Nat) {i l : Nat} (hi : i < S) (hl : l < S) : ent (nxM (matF S S (adjF es)) S (chC es S) k) i l = pm (chC es S) (tlS (GW (adjF es) (List.range S) i l)) k := by
  unfold nxM
  rw [ent_matF hi hl]
  have hlen : (chM (matF S S (adjF es)) S (chC es S) k).length = S := by cases k <;> exact matF_length _ _ _
  unfold mulF
  rw [hlen, sum_congr (g := fun j => adjF es i j * pm (chC es S) (GW (adjF es) (List.range S) j l) k) (fun j hj => by
    have hj' := List.mem_range.1 hj
    rw [ent_matF hi hj', ent_ch es k j l hj' hl])]
  have e : tlS (GW (adjF es) (List.range S) i l) = fun n => ((List.range S).map fun j => adjF es i j * GW (adjF es) (List.range S) j l n).sum := rfl
  rw [e, pm_sumr]
  exact sum_congr fun j _ => (pm_smulr _ _ _ _).symm
/-- Newton's identity as the program uses it. -/
theorem tr_nx (es : List E3) (S k : Nat) : -(trM (nxM (matF S S (adjF es)) S (chC es S) k) S) = ((k : Int) + 1) * chC es S (k + 1) := by
  have h := newton (adjF es) (List.nodup_range (n := S)) (k + 1)
  have e1 : trM (nxM (matF S S (adjF es)) S (chC es S) k) S = pm (chC es S) (tlS (Ts (adjF es) (List.range S))) k := by
    unfold trM
    rw [sum_congr (fun i hi => ent_nx es k (List.mem_range.1 hi) (List.mem_range.1 hi)), ← pm_sumr]
    rfl
  have e2 : pm (Ts (adjF es) (List.range S)) (DD (adjF es) (List.range S)) (k + 1) = pm (chC es S) (tlS (Ts (adjF es) (List.range S))) k := by
    rw [pm_comm, pm_right]
    show _ + DD (adjF es) (List.range S) (k + 1) * 0 = _
    rw [Int.mul_zero, Int.add_zero]; rfl
  rw [e2] at h
  rw [e1, ← h]
  show ((k + 1 : Nat) : Int) * chC es S (k + 1) = _
  rw [show ((k + 1 : Nat) : Int) = (k : Int) + 1 by omega]
/-- The sizes. -/
theorem matF_ok' {n m p : Nat} {f : Nat → Nat → Int} (h : ∀ i k, i < n → k < m → sm p (f i k)) : MatOk (matF n m f) n m p where
  len := matF_length _ _ _
  row := fun r hr => by
    obtain ⟨i, hi, rfl⟩ := List.mem_map.1 hr
    simp
  sm := fun r hr z hz => by
    obtain ⟨i, hi, rfl⟩ := List.mem_map.1 hr
    obtain ⟨k, hk, rfl⟩ := List.mem_map.1 hz
    exact h i k (List.mem_range.1 hi) (List.mem_range.1 hk)
theorem add_sm' {p : Nat} {a b : Int} (h : sm p a) (k : sm p b) : sm (p + 1) (a + b) := by
  unfold sm at h k ⊢
  have : (256 : Nat) ^ (p + 1) = 256 ^ p * 256 := Nat.pow_succ ..
  omega
theorem ch_sm {es : List E3} (hl : es.length ≤ 1024) {S : Nat} (hS : S ≤ 32) : ∀ k, (∀ i l, i < S → l < S → sm (5 * k + 1) (ent (chM (matF S S (adjF es)) S (chC es S) k) i l)) ∧ sm (5 * k + 1) (chC es S k)
  | 0 => by
    refine ⟨fun i l hi hl2 => ?_, by rw [chC_zero]; unfold sm; decide⟩
    show sm 1 (ent (matF S S (diagF 1)) i l)
    rw [ent_matF hi hl2]
    unfold diagF sm
    split <;> decide
  | k + 1 => by
    obtain ⟨ih1, ih2⟩ := ch_sm hl hS k
    have hnx : ∀ i l, i < S → l < S → sm (5 * k + 4) (ent (nxM (matF S S (adjF es)) S (chC es S) k) i l) := fun i l hi hl2 => by
      unfold nxM
      rw [ent_matF hi hl2]
      have hlen : (chM (matF S S (adjF es)) S (chC es S) k).length = S := by cases k <;> exact matF_length _ _ _
      unfold mulF
      rw [hlen]
      refine (sm_sum' (p := 2 + (5 * k + 1)) (fun z hz => ?_) (by simp; omega)).mono (by omega)
      obtain ⟨j, hj, rfl⟩ := List.mem_map.1 hz
      have hj' := List.mem_range.1 hj
      rw [ent_matF hi hj']
      exact (adjF_sm hl i j).mul (ih1 j l hj' hl2)
    have htr : sm (5 * k + 5) (trM (nxM (matF S S (adjF es)) S (chC es S) k) S) := by
      unfold trM
      refine (sm_sum' (p := 5 * k + 4) (fun z hz => ?_) (by simp; omega)).mono (by omega)
      obtain ⟨j, hj, rfl⟩ := List.mem_map.1 hz
      have hj' := List.mem_range.1 hj
      exact hnx j j hj' hj'
    have hc : sm (5 * k + 5) (chC es S (k + 1)) := by
      have e := tr_nx es S k
      unfold sm at htr ⊢
      have e2 : (trM (nxM (matF S S (adjF es)) S (chC es S) k) S).natAbs = (k + 1) * (chC es S (k + 1)).natAbs := by
        rw [← Int.natAbs_neg, e, Int.natAbs_mul]; congr 1
      rw [e2] at htr
      exact Nat.lt_of_le_of_lt (Nat.le_mul_of_pos_left _ (by omega)) htr
    refine ⟨fun i l hi hl2 => ?_, hc.mono (by omega)⟩
    show sm _ (ent (matF S S (addF (matF S S (mulF (matF S S (adjF es)) (chM (matF S S (adjF es)) S (chC es S) k))) (matF S S (diagF (chC es S (k + 1)))))) i l)
    rw [ent_matF hi hl2]
    unfold addF
    have e : 5 * (k + 1) + 1 = (5 * k + 5) + 1 := by omega
    rw [e]
    refine add_sm' ((hnx i l hi hl2).mono (by omega)) ?_
    rw [ent_matF hi hl2]
    unfold diagF
    split
    · exact hc
    · unfold sm; exact Nat.pow_pos (by decide)
theorem ch_ok {es : List E3} (hl : es.length ≤ 1024) {S : Nat} (hS : S ≤ 32) (k : Nat) (hk : k < S) : MatOk (chM (matF S S (adjF es)) S (chC es S) k) S S (5 * S + 1) := by
  have h := (ch_sm hl hS k).1
  cases k with
  | zero => exact matF_ok' fun i l hi hl2 => by
              have := h i l hi hl2
              rw [show chM (matF S S (adjF es)) S (chC es S) 0 = matF S S (diagF 1) from rfl, ent_matF hi hl2] at this
              exact this.mono (by omega)
  | succ k => exact matF_ok' fun i l hi hl2 => by
                have := h i l hi hl2
                rw [show chM (matF S S (adjF es)) S (chC es S) (k + 1) = matF S S (addF (matF S S (mulF (matF S S (adjF es)) (chM (matF S S (adjF es)) S (chC es S) k))) (matF S S (diagF (chC es S (k + 1))))) from rfl, ent_matF hi hl2] at this
                exact this.mono (by omega)
theorem cw_all {es : List E3} {S : Nat} (hin : InS S es) : ∀ (n s : Nat), s < S → cw es allP n (s : Int) = ((List.range S).map fun (j : Nat) => cw es (ind (j : Int)) n (s : Int)).sum
  | 0, s, hs => by
    have h := pick_list (List.nodup_range (n := S)) (List.mem_range.2 hs) (fun _ => 1)
    rw [sum_congr (g := fun l => (if s = l then 1 else 0) * 1) (fun j _ => by
      rw [cw_ind0]
      by_cases e : s = j
      · rw [if_pos (by omega), if_pos e]; rfl
      · rw [if_neg (by omega), if_neg e]; rfl)]
    rw [h]; rw [cw]; rfl
  | n + 1, s, hs => by
    have h : ∀ p, cw es p (n + 1) (s : Int) = ((es.filter fun e => e.f == (s : Int)).map fun e => cw es p n e.t).sum := fun p => by rw [cw]
    rw [h, sum_congr (f := fun (j : Nat) => cw es (ind (j : Int)) (n + 1) (s : Int)) (fun j _ => h _), ← sum_swap]
    refine sum_congr fun e he => ?_
    have h3 := hin e (List.mem_filter.1 he).1
    obtain ⟨t, ht⟩ : ∃ t : Nat, e.t = t := ⟨e.t.toNat, by omega⟩
    rw [ht]
    exact cw_all hin n t (by omega)
/-- Cayley and Hamilton: behind the first S coefficients nothing is left. -/
theorem ch_paths {es : List E3} {S s : Nat} (hin : InS S es) (hs : s < S) {k : Nat} (hk : S ≤ k) : pm (chC es S) (fun n => cw es allP n (s : Int)) k = 0 := by
  have e : (fun n => cw es allP n (s : Int)) = fun n => ((List.range S).map fun j => GW (adjF es) (List.range S) s j n).sum := by
    funext n
    rw [cw_all hin n s hs]
    exact sum_congr fun j _ => (gw_cw hin j n s hs).symm
  rw [e, pm_sumr]
  show ((List.range S).map fun x => pm (DD (adjF es) (List.range S)) (GW (adjF es) (List.range S) s x) k).sum = 0
  rw [sum_congr (g := fun _ => 0) (fun j hj => (deg_all (adjF es) S (List.range S) List.nodup_range (by simp)).2 s (List.mem_range.2 hs) j hj k hk)]
  exact sum_zero' _
theorem ch_deg {es : List E3} {S : Nat} {k : Nat} (hk : S < k) : chC es S k = 0 := (deg_all (adjF es) S (List.range S) List.nodup_range (by simp)).1 k hk
end Go.Proofs.Ythpgeeaccmgbkaa

