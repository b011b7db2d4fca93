/- grooveref04.minors. -/
import Derived.Test.YthpgeeaccmgbkaaGreatRDetm
import Derived.Test.YthpgeeaccmgbkaaGreatPart11
namespace Go.Proofs.YthpgeeaccmgbkaaGreat
open Go.RowKit

theorem wpList_append_row {P : Program} {w : World} {ops : Array Oper} {rest : List Oper} {o : Oper} {a : Act} {Q : Exit → Act → World → Prop} (hgd : o.guard = none) (s x : Operand) (t : TypeId)
  (ho : o.op = .call { callee := .builtin .append, args := #[s, x], argTypes := #[t, t] })
  (base : Nat) (e : TypeId) (z : Value) (size bytes : Nat) (ht : P.underlying t = some (.slice e)) (hinfo : (P.info? e).map (fun i => (i.zero, i.size, i.bytes)) = some (some z, size, bytes))
  (hzs : z.cells.size = size) (hsz : 0 < size) (v : Value) (n : Nat) (xs : List Value) (hs : a.eval s = v) (hown : w.ownsRow base e size v n xs)
  (sv : Value) (m : Nat) (news : List Value) (hx : a.eval x = sv) (hrow : Row w sv m news) (hl : news.length = m * size) (h1 : ∀ u ∈ news, u.oneCell' = true)
  (h63 : n + m ≤ maxLen) (hbytes : (n + m) * bytes ≤ 140737488355328) (hbase : base ≤ w.heap.size)
  (h : ∀ v' w', w'.ownsRow base e size v' (n + m) (xs ++ news) → w.grownBy w' v.ownBlock → wpList P ops Q rest (a.put o.dst v') w') : wpList P ops Q (o :: rest) a w :=
 wpList_plain hgd fun K hK => by
  obtain ⟨v', w', hr, h2, h3⟩ := run_append_row (P := P) w base t o.type e z size bytes ht hinfo hzs hsz v n xs hown sv m news hrow hl h1 h63 hbytes hbase
  unfold Oper.wp execOp
  simp only [ho, resolve, invoke, builtin, Sem.run_bind, Sem.run_pure, Result.andThen_ok, List.map_toArray, List.map_cons, List.map_nil, hs, hx, hr]
  exact hK _ _ (h v' w' h2 h3)
theorem infoI64 : (Tryz.prog.info? 3).map (fun i => (i.zero, i.size, i.bytes)) = some (some (.int .i64 0), 1, 8) := by kernel_rfl
/-- Numbers of states as ints. -/
def nz (T : List Nat) : List Int := T.map fun (i : Nat) => (i : Int)
theorem nz_get {T : List Nat} {k t : Nat} (h : T[k]? = some t) : (ci (nz T))[k]? = some (.int .i64 (t : Int)) := by simp [nz, ci, h]
theorem nz_snoc (T : List Nat) (i : Nat) : ci (nz (T ++ [i])) = ci (nz T) ++ [.int .i64 (i : Int)] := by simp [nz, ci]
/-- A part of a matrix. -/
def rowT (A : List (List Int)) (T : List Nat) (i : Nat) : List Int := T.map fun j => ent A i j
def subT (A : List (List Int)) (T : List Nat) : List (List Int) := T.map fun i => rowT A T i
def rowTP (A : List (List Int)) (T : List Nat) (i k : Nat) : List Int := (T.take k).map fun j => ent A i j
def subTP (A : List (List Int)) (T : List Nat) (k : Nat) : List (List Int) := (T.take k).map fun i => rowT A T i
theorem rowTP_zero (A : List (List Int)) (T : List Nat) (i : Nat) : rowTP A T i 0 = [] := by simp [rowTP]
theorem rowTP_full (A : List (List Int)) (T : List Nat) (i : Nat) : rowTP A T i T.length = rowT A T i := by unfold rowTP rowT; rw [List.take_length]
theorem rowTP_succ {A : List (List Int)} {T : List Nat} {i k t : Nat} (h : T[k]? = some t) : rowTP A T i (k + 1) = rowTP A T i k ++ [ent A i t] := by
 unfold rowTP; rw [List.take_add_one, h]; simp
theorem rowTP_len {A : List (List Int)} {T : List Nat} {i k : Nat} (h : k ≤ T.length) : (rowTP A T i k).length = k := by unfold rowTP; simp; omega
theorem subTP_zero (A : List (List Int)) (T : List Nat) : subTP A T 0 = [] := by simp [subTP]
theorem subTP_full (A : List (List Int)) (T : List Nat) : subTP A T T.length = subT A T := by unfold subTP subT; rw [List.take_length]
theorem subTP_succ {A : List (List Int)} {T : List Nat} {k t : Nat} (h : T[k]? = some t) : subTP A T (k + 1) = subTP A T k ++ [rowT A T t] := by
 unfold subTP; rw [List.take_add_one, h]; simp
theorem subTP_len {A : List (List Int)} {T : List Nat} {k : Nat} (h : k ≤ T.length) : (subTP A T k).length = k := by unfold subTP; simp; omega
theorem sq_ent {S p i j : Nat} {A : List (List Int)} (h : Sq S p A) (hi : i < S) (hj : j < S) : ∃ r, A[i]? = some r ∧ r.length = S ∧ r[j]? = some (ent A i j) ∧ sm p (ent A i j) := by
 have hi' : i < A.length := by rw [h.1]; exact hi
 have hl := h.2.1 A[i] (List.getElem_mem hi')
 have hj' : j < A[i].length := by rw [hl]; exact hj
 have hr : A[i]? = some A[i] := List.getElem?_eq_getElem hi'
 have hx : A[i][j]? = some A[i][j] := List.getElem?_eq_getElem hj'
 have he : ent A i j = A[i][j] := by
  unfold ent
  simp [List.getD, hr, hx]
 exact ⟨_, hr, hl, by rw [he]; exact hx, by rw [he]; exact h.2.2 _ (List.getElem_mem hi') _ (List.getElem_mem hj')⟩
theorem Sq.sub {S p : Nat} {A : List (List Int)} {T : List Nat} (h : Sq S p A) (hT : ∀ t ∈ T, t < S) : Sq T.length p (subT A T) := by
 refine ⟨by simp [subT], fun r hr => ?_, fun r hr z hz => ?_⟩
 ·
  obtain ⟨i, -, rfl⟩ := List.mem_map.1 hr
  simp [rowT]
 ·
  obtain ⟨i, hi, rfl⟩ := List.mem_map.1 hr
  obtain ⟨j, hj, rfl⟩ := List.mem_map.1 hz
  obtain ⟨_, -, -, -, hs⟩ := sq_ent h (hT i hi) (hT j hj)
  exact hs
/-- Sums of principal minors: n rows more, from a row on, besides those that are taken. -/
def mnS (A : List (List Int)) (S : Nat) : Nat → Nat → List Nat → Int
 | 0, _, T => dlN T.length (subT A T)
 | n + 1, f, T => ((List.range (S - f)).map fun d => mnS A S n (f + d + 1) (T ++ [f + d])).sum
def mnP (A : List (List Int)) (S n f : Nat) (T : List Nat) (k : Nat) : Int := ((List.range k).map fun d => mnS A S n (f + d + 1) (T ++ [f + d])).sum
theorem mnP_succ (A : List (List Int)) (S n f : Nat) (T : List Nat) (k : Nat) : mnP A S n f T (k + 1) = mnP A S n f T k + mnS A S n (f + k + 1) (T ++ [f + k]) := by simp [mnP, List.range_succ]
theorem mnS_sm {A : List (List Int)} {S p : Nat} (h : Sq S p A) (hS : S ≤ 32) : ∀ (n f : Nat) (T : List Nat), f ≤ S → (∀ t ∈ T, t < S) → T.length + n ≤ 100 → sm (100 * (p + 1) + 1 + n) (mnS A S n f T) ∧ ∀ k m, n = m + 1 → k ≤ S - f → sm (100 * (p + 1) + 1 + n) (mnP A S m f T k)
 | 0, f, T, hf, hT, hl =>
  by
  refine ⟨(((dlN_sm p T.length _ (h.sub hT) (by omega)).1).mono ?_), fun k m hm => by omega⟩
  have := Nat.mul_le_mul_right (p + 1) (show T.length ≤ 100 by omega)
  omega
 | n + 1, f, T, hf, hT, hl =>
  by
  have key : ∀ k, k ≤ S - f → sm (100 * (p + 1) + 1 + (n + 1)) (mnP A S n f T k) := fun k hk => by
   have e : 100 * (p + 1) + 1 + (n + 1) = (100 * (p + 1) + 1 + n) + 1 := by omega
   rw [e]
   refine sm_sum' (fun z hz => ?_) (by simp; omega)
   obtain ⟨d, hd, rfl⟩ := List.mem_map.1 hz
   have hd' := List.mem_range.1 hd
   refine (mnS_sm h hS n (f + d + 1) (T ++ [f + d]) (by omega) (fun t ht => ?_) (by simp; omega)).1
   rcases List.mem_append.1 ht with h1 | h1
   ·
    exact hT t h1
   ·
    rw [List.mem_singleton.1 h1]; omega
  exact ⟨key (S - f) (Nat.le_refl _), fun k m hm hk => by rw [show m = n by omega]; exact key k hk⟩
set_option maxRecDepth 100000 in
set_option maxHeartbeats 3200000 in
theorem minors_zero (S p : Nat) (A : List (List Int)) (v tv : Value) (T : List Nat) (f : Int) (w : World) (hA : Tab w v A) (hS : Sq S p A) (hS1 : S ≤ 1000) (hp : p ≤ 1000) (hTr : Row w tv T.length (ci (nz T))) (hT : ∀ t ∈ T, t < S) (hTl : T.length ≤ 100) :
  Calls Tryz.prog 96 #[v, .int .i64 f, .int .i64 0, tv] w (Ret w (IntV (dlN T.length (subT A T)))) := by
 obtain ⟨rvs0, hr1, hr2, hr3⟩ := hA
 rw [hS.1] at hr1 hr2
 obtain ⟨va, vc, rfl, hle⟩ := hr2.slice
 obtain ⟨ta, tc, rfl, htle⟩ := hTr.slice
 obtain ⟨i0, hi, hz0, hz1, hz2⟩ := info_parts infoZ
 obtain ⟨j0, hj, hy0, hy1, hy2⟩ := info_parts infoRow
 have hdet := fun v' w' h => det_any p hp T.length (subT A T) v' w' hTl (hS.sub hT) h
 have hent := fun i j (h1 : i < S) (h2 : j < S) => sq_ent hS h1 h2
 have hTg : ∀ k, k < T.length → ∃ t, T[k]? = some t ∧ t < S := fun k hk => ⟨T[k], List.getElem?_eq_getElem hk, hT _ (List.getElem_mem hk)⟩
 have hTc := fun k t (h : T[k]? = some t) => nz_get h
 have hs1 := fun k t (h : T[k]? = some t) => subTP_succ (A := A) h
 have hs2 := fun i k t (h : T[k]? = some t) => rowTP_succ (A := A) (i := i) h
 have hf1 := subTP_full A T
 have hf2 := fun i => rowTP_full A T i
 have hl1 := fun k (h : k ≤ T.length) => subTP_len (A := A) h
 have hl2 := fun i k (h : k ≤ T.length) => rowTP_len (A := A) (i := i) h
 have hz1' := subTP_zero A T
 have hz2' := fun i => rowTP_zero A T i
 have hl3 : ∀ i, (rowT A T i).length = T.length := fun i => by simp [rowT]
 obtain ⟨sT, hsT⟩ : ∃ sT, sT = subTP A T := ⟨_, rfl⟩
 obtain ⟨rT, hrT⟩ : ∃ rT, rT = rowTP A T := ⟨_, rfl⟩
 obtain ⟨rF, hrF⟩ : ∃ rF, rF = rowT A T := ⟨_, rfl⟩
 obtain ⟨sF, hsF⟩ : ∃ sF, sF = subT A T := ⟨_, rfl⟩
 rw [← hsT] at hs1 hf1 hl1 hz1'
 rw [← hrT] at hs2 hf2 hl2 hz2'
 rw [← hrF] at hs1 hf2 hl3
 rw [← hsF] at hf1 hdet ⊢
 obtain ⟨D, hD⟩ : ∃ D, D = dlN T.length sF := ⟨_, rfl⟩
 simp only [← hD] at hdet
 rw [← hD]
 obtain ⟨m, hm⟩ : ∃ m, m = T.length := ⟨_, rfl⟩
 rw [← hm] at hTr htle hTg hf1 hf2 hl1 hl2 hl3 hTl ⊢
 have b0 := Blk.new w 28 [.bool false, .string ⟨#[]⟩]
 have s0 := (Below.refl w.heap.size w).alloc (Nat.le_refl _) (.cells #[.bool false, .string ⟨#[]⟩] 28)
 obtain ⟨w1, hw1⟩ : ∃ w1, w.alloc (.cells #[.bool false, .string ⟨#[]⟩] 28) = w1 := ⟨_, rfl⟩
 rw [hw1] at b0 s0
 have hz1w := b0.lt
 have hmd0 := World.ownsRow_made w1 (#[] : Array Value) 0 (base := w1.heap.size) (e := 32) (size := 1) (Nat.le_refl _) (Nat.zero_le _) rfl
 have s1 := (Below.refl w1.heap.size w1).alloc (Nat.le_refl _) (.cells #[] 32)
 obtain ⟨w2, hw2⟩ : ∃ w2, w1.alloc (.cells #[] 32) = w2 := ⟨_, rfl⟩
 rw [hw2] at hmd0 s1
 have hr2' := hr2.below s0 (Nat.le_refl _)
 have hTr' := hTr.below s0 (Nat.le_refl _)
 have hr3' : ∀ (i : Nat) (r : List Int), A[i]? = some r → ∃ rv : Value, rvs0[i]? = some rv ∧ Row w1 rv r.length (civ r) := fun i r hr => by
  obtain ⟨rv, h1, h2⟩ := hr3 i r hr
  exact ⟨rv, h1, h2.below s0 (Nat.le_refl _)⟩
 have HR2 := Lib.hid hr2'; clear hr2'
 have HR3 := Lib.hid hr3'; clear hr3'
 have HTR := Lib.hid hTr'; clear hTr'
 have HDET := Lib.hid hdet; clear hdet
 have HENT := Lib.hid hent; clear hent
 have HTG := Lib.hid hTg; clear hTg
 have HTC := Lib.hid hTc; clear hTc
 have HS1 := Lib.hid hs1; clear hs1
 have HS2 := Lib.hid hs2; clear hs2
 have HF1 := Lib.hid hf1; clear hf1
 have HF2 := Lib.hid hf2; clear hf2
 have HL1 := Lib.hid hl1; clear hl1
 have HL2 := Lib.hid hl2; clear hl2
 have HL3 := Lib.hid hl3; clear hl3
 have HZ1 := Lib.hid hz1'; clear hz1'
 have HZ2 := Lib.hid hz2'; clear hz2'
 have B0 := Lib.hid b0; clear b0
 have S0 := Lib.hid s0; clear s0
 have S1 := Lib.hid s1; clear s1
 have HMD0 := Lib.hid hmd0; clear hmd0
 clear hr3 hr2 hr1 hTr hT hS hsT hrT hrF hsF hD hm
 go_enter Tryz.func96, Tryz.ntmps96
 go_wp2_with fail
 (try rw [hw2])
 clear hw1 hw2
 go_loopw [9, 10, 11, 12] (fun u i _ _ wr => ∃ (k : Nat) (rvs : List Value), k ≤ m ∧ i = .int .i64 (k : Int) ∧ Below w1.heap.size w1 wr ∧ wr.ownsRow w1.heap.size 32 1 u k rvs ∧ RowsO w1.heap.size wr rvs (sT k)) (fun _ i _ _ _ => m - (intOf i).toNat)
 case atStart => exact ⟨0, [], Nat.zero_le _, rfl, S1.out, HMD0.out, by rw [HZ1.out]; exact RowsO.nil _ _⟩
 case round =>
  obtain ⟨k, rvs, hk, rfl, hbel, hown, hrows⟩ := hrel
  obtain ⟨wo, rfl⟩ : ∃ wo : World, wo = wr := ⟨_, rfl⟩
  have hszo := hbel.size
  by_cases hkn : k < m
  ·
   have tk : decide ((k : Int) < (m : Int)) = true := by simp; omega
   obtain ⟨ti, hti, htiS⟩ := HTG.out k hkn
   have hst := HS1.out k ti hti
   obtain ⟨bt, ot, rfl, hbt, hct⟩ := HTR.out.at_ (by omega)
   have hck1 := hct k _ (HTC.out k ti hti)
   have htk := (hbel.cell (p := ⟨bt, ot + k, none⟩) hbt).trans hck1
   have hmd := World.ownsRow_made wo (#[] : Array Value) 0 (base := wo.heap.size) (e := 28) (size := 2) (Nat.le_refl _) (Nat.zero_le _) rfl
   have s2 := (Below.refl wo.heap.size wo).alloc (Nat.le_refl _) (.cells #[] 28)
   obtain ⟨w3, hw3⟩ : ∃ w3, wo.alloc (.cells #[] 28) = w3 := ⟨_, rfl⟩
   rw [hw3] at hmd s2
   have hf := HF2.out ti
   have hl := HL2.out ti
   have hsu := HS2.out ti
   have hez := HZ2.out ti
   have hlf := HL3.out ti
   obtain ⟨rc, hrc⟩ : ∃ rc, rc = rT ti := ⟨_, rfl⟩
   rw [← hrc] at hf hl hsu hez
   have HBEL := Lib.hid hbel; clear hbel
   have HOWN := Lib.hid hown; clear hown
   have HROWS := Lib.hid hrows; clear hrows
   have HST := Lib.hid hst; clear hst
   have HTK := Lib.hid htk; clear htk
   have HCK1 := Lib.hid hck1; clear hck1
   have HCT := Lib.hid hct; clear hct
   have HF := Lib.hid hf; clear hf
   have HL := Lib.hid hl; clear hl
   have HSU := Lib.hid hsu; clear hsu
   have HEZ := Lib.hid hez; clear hez
   have HLF := Lib.hid hlf; clear hlf
   have HMD := Lib.hid hmd; clear hmd
   have S2 := Lib.hid s2; clear s2
   clear hti hrc
   go_wp2_with fail
   (try rw [hw3])
   clear hw3
   go_loopw [11, 12] (fun u i wr => ∃ j : Nat, j ≤ m ∧ i = .int .i64 (j : Int) ∧ Below wo.heap.size wo wr ∧ wr.ownsRow wo.heap.size 28 2 u j (civ (rc j))) (fun _ i _ => m - (intOf i).toNat)
   case atStart => exact ⟨0, Nat.zero_le _, rfl, S2.out, by rw [HEZ.out]; exact HMD.out⟩
   case round =>
    obtain ⟨j, hjn, rfl, hbe, hin⟩ := hrel
    obtain ⟨wq, rfl⟩ : ∃ wq : World, wq = wr := ⟨_, rfl⟩
    have hszq := hbe.size
    by_cases hjl : j < m
    ·
     have tj : decide ((j : Int) < (m : Int)) = true := by simp; omega
     obtain ⟨tt, htt, httS⟩ := HTG.out j hjl
     have hst2 := HSU.out j tt htt
     have hbw := HBEL.out.trans (hbe.mono HBEL.out.size)
     have hcj1 := HCT.out j _ (HTC.out j tt htt)
     have htj := (hbw.cell (p := ⟨bt, ot + j, none⟩) hbt).trans hcj1
     have htk2 := (hbe.cell (p := ⟨bt, ot + k, none⟩) (show bt < wo.heap.size by omega)).trans HTK.out
     obtain ⟨r, hr, hrl, hrx, hxs⟩ := HENT.out ti tt htiS httS
     obtain ⟨x, hx⟩ : ∃ x, x = ent A ti tt := ⟨_, rfl⟩
     rw [← hx] at hrx hst2
     obtain ⟨rv, hrv, hrow⟩ := HR3.out ti r hr
     rw [hrl] at hrow
     obtain ⟨ra, rcap, rfl, hrle⟩ := hrow.slice
     obtain ⟨bv, ov, rfl, hbv, hcv⟩ := HR2.out.at_ (by omega)
     have hcv1 := hcv ti _ hrv
     have hhd := (hbw.cell (p := ⟨bv, ov + ti, none⟩) hbv).trans hcv1
     obtain ⟨br, orr, rfl, hbr, hcr⟩ := hrow.at_ (by omega)
     obtain ⟨q0, q1⟩ := int_cells hcr hbw hbr hrx
     obtain ⟨a, cap, rfl⟩ := own_slice hin
     have hix1 : (0 : Int) ≤ (k : Int) := by omega
     have hix2 : (k : Int) < (m : Int) := by omega
     have hix3 : (0 : Int) ≤ (j : Int) := by omega
     have hix4 : (j : Int) < (m : Int) := by omega
     have hix5 : (0 : Int) ≤ (ti : Int) := by omega
     have hix6 : (ti : Int) < (S : Int) := by omega
     have hix7 : (0 : Int) ≤ (tt : Int) := by omega
     have hix8 : (tt : Int) < (S : Int) := by omega
     have hbe0 := hbe
     have HIN := Lib.hid hin; clear hin
     have HST2 := Lib.hid hst2; clear hst2
     have HBE := Lib.hid hbe; clear hbe
     have HCR := Lib.hid hcr; clear hcr
     have HCV1 := Lib.hid hcv1; clear hcv1
     have HCJ1 := Lib.hid hcj1; clear hcj1
     clear hcv
     have HRX := Lib.hid hrx; clear hrx
     have HBW := Lib.hid hbw; clear hbw
     clear htt hr hrow hrv hx hxs hrl
     go_wp2_with fail
     refine wp_region_held_drew (S := fun w' => w'.cell? ⟨bt, ot + k, none⟩ = some (.int .i64 (ti : Int)) ∧ w'.cell? ⟨bt, ot + j, none⟩ = some (.int .i64 (tt : Int)) ∧ w'.cell? ⟨bv, ov + ti, none⟩ = some (.slice (some ⟨br, orr, none⟩) S rcap) ∧ w'.cell? ⟨br, orr + tt * 2, none⟩ = some (.bool (ineg x)) ∧ w'.cell? ⟨br, orr + tt * 2 + 1, none⟩ = some (.string (imag x))) (by kernel_rfl) ?_ (fun hHeld => ?_)
     ·
      go_keep
     refine zT 0 (h := ?_)
     (try simp only [Act.put, zA, zB, zC])
     refine zT 1 (h := ?_)
     (try simp only [Act.put, zA, zB, zC])
     refine zT 2 (h := ?_)
     (try simp only [Act.put, zA, zB, zC])
     refine zT 3 (h := ?_)
     (try simp only [Act.put, zA, zB, zC])
     refine zT 4 (h := ?_)
     (try simp only [Act.put, zA, zB, zC])
     refine zT 5 (h := ?_)
     (try simp only [Act.put, zA, zB, zC])
     refine zT 6 (h := ?_)
     (try simp only [Act.put, zA, zB, zC])
     refine zT 7 (h := ?_)
     (try simp only [Act.put, zA, zB, zC])
     refine zT 8 (h := ?_)
     (try simp only [Act.put, zA, zB, zC])
     refine zT 9 (h := ?_)
     (try simp only [Act.put, zA, zB, zC])
     refine zT 10 (h := ?_)
     (try simp only [Act.put, zA, zB, zC])
     refine zT 11 (h := ?_)
     (try simp only [Act.put, zA, zB, zC])
     refine zT 12 (h := ?_)
     (try simp only [Act.put, zA, zB, zC])
     refine zT 13 (h := ?_)
     (try simp only [Act.put, zA, zB, zC])
     have oA := HIN.out.alloc (.cells #[.bool (ineg x), .string (imag x)] 28)
     have oA2 : ((wq.alloc (.cells #[.bool (ineg x), .string (imag x)] 28)).drew).ownsRow wo.heap.size 28 2 (.slice a j cap) j (civ (rc j)) := oA
     have bA := (HBE.out.alloc hszq (.cells #[.bool (ineg x), .string (imag x)] 28)).drew
     have rA : Row ((wq.alloc (.cells #[.bool (ineg x), .string (imag x)] 28)).drew) (.slice (some ⟨wq.heap.size, 0, none⟩) 1 1) 1 [.bool (ineg x), .string (imag x)] := (Row.ofBlk (Blk.new wq 28 [.bool (ineg x), .string (imag x)]) (m := 1) (cap := 1) (Nat.le_refl _) (by unfold maxLen; omega) 2).drew
     refine zR 14 (h := fun K hK => ?_)
     go_simp
     refine hK.out _ _ ?_ (fun hHe => ?_)
     ·
      ((try dsimp only); go_keep)
     clear hK K
     (try simp only [Act.put, zA, zB, zC])
     refine zR 15 (h := fun K hK => ?_)
     refine step_append_row rfl _ _ 32 rfl wo.heap.size 28 _ 2 24 Tryz.underlying32 infoZ rfl (by decide) _ j _ (by rfl) oA2 _ 1 _ (by rfl) rA rfl (by simp [Value.oneCell']) (by unfold maxLen; omega) (by omega) bA.size ?_
     intro v9 W9 own9 hg9
     have s9 : Below wo.heap.size wo W9 := bA.grown hg9 bA.size (fun jj hj => (oA2.lt jj hj).1)
     have s10 := HBEL.out.trans (s9.mono HBEL.out.size)
     have p0 := (s10.cell (p := ⟨bt, ot + k, none⟩) hbt).trans HCK1.out
     have p1 := (s10.cell (p := ⟨bt, ot + j, none⟩) hbt).trans HCJ1.out
     have p2 := (s10.cell (p := ⟨bv, ov + ti, none⟩) hbv).trans HCV1.out
     obtain ⟨p3, p4⟩ := int_cells HCR.out s10 hbr HRX.out
     refine hK.out _ _ ⟨p0, p1, p2, p3, p4⟩ (fun hHf => ?_)
     clear hK K oA oA2 bA rA p0 p1 p2 p3 p4 hHe hHeld s10 hg9
     (try simp only [Act.put, zA, zB, zC])
     obtain ⟨a9, c9, rfl⟩ := own_slice own9
     have OWN9 := Lib.hid own9; clear own9
     have S9 := Lib.hid s9; clear s9
     refine zT 16 (h := ?_)
     (try simp only [Act.put, zA, zB, zC])
     refine wpAnyH_done (by kernel_rfl) ?_ _
     (try simp only [List.getElem_toArray, List.getElem_cons_zero, List.getElem_cons_succ, Act.put, zA, zB, zC])
     go_wp2_with fail
     go_roundw
     case rel => exact ⟨j + 1, by omega, by go_num, S9.out, by rw [HST2.out, civ_snoc]; exact OWN9.out⟩
     case measure => simp [intOf]; omega
    ·
     have hje : j = m := by omega
     have tj : decide ((j : Int) < (m : Int)) = false := by simp; omega
     rw [hje, HF.out] at hin
     have hown2 := own_below HOWN.out hbe
     have hrows2 := HROWS.out.below hbe
     obtain ⟨a, cap, rfl⟩ := own_slice hin
     have hin2 : wq.ownsRow w1.heap.size 28 2 (.slice a m cap) (rF ti).length (civ (rF ti)) := by rw [HLF.out]; exact own_mn hin hszo
     have hnew := hrows2.snoc hin2
     have hbw := HBEL.out.trans (hbe.mono HBEL.out.size)
     have hszw : w1.heap.size ≤ wq.heap.size := by omega
     have HO3 := Lib.hid hown2; clear hown2
     have HNEW := Lib.hid hnew; clear hnew
     have HBW := Lib.hid hbw; clear hbw
     clear hin hin2 hrows2 hbe hje
     go_wp2_with (at_builtin; refine wpList_append_lies _ rfl (.tmp 48) (.tmp 50) 70 rfl w1.heap.size 32 j0 _ 1 24 Tryz.underlying70 hj hy0 hy1 hy2 rfl (by decide) _ _ _ rfl (HO3.out.alloc _) _ 1 1 [.slice a m cap] rfl rfl (World.news_of_block (heap_alloc_new _ _)) (by simp [Value.oneCell']) (by omega) (by unfold maxLen; omega) (by omega) (by simp; omega) _ rfl ?_; intro g' cap' w4 hown' hg hat hlt'; have HG := Lib.hid hg; clear hg; have HO4 := Lib.hid hown'; clear hown'; have HAT := Lib.hid hat; clear hat)
     go_roundw
     case rel =>
      refine ⟨k + 1, rvs ++ [.slice a m cap], by omega, by go_num, (HBW.out.alloc hszw _).grown HG.out (by simp; omega) (fun jj hj => (HO3.out.lt jj hj).1), HO4.out, ?_⟩
      rw [HST.out]
      exact (HNEW.out.below ((Below.refl _ wq).alloc (Nat.le_refl _) (.cells #[.slice a m cap] 32))).grown (HO3.out.alloc _) HG.out
     case measure => simp [intOf]; omega
  ·
   have hkn2 : k = m := by omega
   have tk : decide ((k : Int) < (m : Int)) = false := by simp; omega
   have hlm := HL1.out m (Nat.le_refl _)
   rw [HF1.out] at hlm
   rw [hkn2] at hown hrows
   rw [HF1.out] at hrows
   obtain ⟨a, cap, rfl⟩ := own_slice hown
   have hown2 : wo.ownsRow w1.heap.size 32 1 (.slice a m cap) sF.length rvs := by rw [hlm]; exact hown
   have htab := hrows.tab hown2
   rw [hlm] at hown2
   have hdt := HDET.out _ _ htab
   have k1 := B0.out.below hbel (by omega)
   have s3 := S0.out.trans (hbel.mono S0.out.size)
   have HDT := Lib.hid hdt; clear hdt
   have K1 := Lib.hid k1; clear k1
   have S3 := Lib.hid s3; clear s3
   clear hown hown2 hrows htab hbel hkn2 hlm
   go_wp2_with fail
   go_at_call 118
   refine HDT.out.mono ?_
   rintro e w5 ⟨hq, rfl⟩
   have k2 := K1.out.keep hq
   have z0 := k2.cell (j := 0) rfl
   have z1 := k2.cell (j := 1) rfl
   have f0 := k2.frozen 0
   have f1 := k2.frozen 1
   have r2 := (k2.set 0 (.bool (ineg D))).set 1 (.string (imag D))
   have e0 := r2.cell (j := 0) rfl
   have e1 := r2.cell (j := 1) rfl
   have s4 := S3.out.trans (hq.mono S3.out.size)
   have S4 := Lib.hid s4; clear s4
   clear k2 hq r2
   go_wp2_with fail
   refine bodyPost_ret (v := IntV D) (by simp [results, Tryz.results96, go_sem, e0, e1, IntV]) rfl ⟨(S4.out.setCell (p := ⟨w.heap.size, 0, none⟩) (Nat.le_refl _) _).setCell (p := ⟨w.heap.size, 1, none⟩) (Nat.le_refl _) _, rfl⟩
end Go.Proofs.YthpgeeaccmgbkaaGreat

