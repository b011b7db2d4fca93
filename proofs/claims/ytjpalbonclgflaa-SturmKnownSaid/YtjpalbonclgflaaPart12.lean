/- Contracts and plain laws of several functions, one after the other: Short, ShortN. -/
import Derived.Deep.RegionHeld3
import Derived.Test.YtjpalbonclgflaaIntB
import Derived.Test.YtjpalbonclgflaaPart13
/- integer.short at numbers of one digit. -/
namespace Go.Proofs.Ytjpalbonclgflaa
open Go.RowKit

def ShortRet (q r : Nat) (w : World) (e : Ending) (w' : World) : Prop := Below w.heap.size w w' ∧ ∃ v, e = .returned (.tuple #[v, .int .u32 (r : Int)]) ∧ Row w' v (dg q).length (cs32 (dg q))
theorem or_zero_u64 {X : Nat} (h : X < 18446744073709551616) : bits BinOp.or IntKind.u64 0 (X : Int) = (X : Int) := by
  show IntKind.u64.wrap ((BitVec.ofInt 64 0 ||| BitVec.ofInt 64 (X : Int)).toNat : Int) = _
  have e0 : BitVec.ofInt 64 0 = 0#64 := by decide
  have e1 : (BitVec.ofInt 64 (X : Int)).toNat = X := by
    rw [BitVec.toNat_ofInt]; omega
  rw [e0, BitVec.zero_or, e1, IntKind.wrap_u64]
  omega
set_option maxRecDepth 100000 in
set_option maxHeartbeats 3200000 in
theorem short_one (X D : Nat) (vx : Value) (w : World) (hr : Row w vx 1 (cs32 [X])) (hX : X < 4294967296) (hD0 : 0 < D) (hD : D < 4294967296) :
    Calls Try.prog 82 #[vx, .int .u32 (D : Int)] w (ShortRet (X / D) (X % D) w) := by
  obtain ⟨Q, hQ⟩ : ∃ Q, Q = X / D := ⟨_, rfl⟩
  obtain ⟨Rr, hRr⟩ : ∃ Rr, Rr = X % D := ⟨_, rfl⟩
  have hQX : Q ≤ X := by rw [hQ]; exact Nat.div_le_self _ _
  have hRD : Rr < D := by rw [hRr]; exact Nat.mod_lt _ hD0
  have hwD : IntKind.u64.wrap (D : Int) = (D : Int) := by rw [IntKind.wrap_u64]; omega
  have hwq : IntKind.u64.wrap ((X : Int) / (D : Int)) = (Q : Int) := by
    rw [show (X : Int) / (D : Int) = ((X / D : Nat) : Int) from (Int.natCast_ediv X D).symm, ← hQ, IntKind.wrap_u64]; omega
  have hwr : Int.tmod (X : Int) (D : Int) = (Rr : Int) := by
    rw [Int.tmod_eq_emod_of_nonneg (by omega), ← Int.natCast_emod X D, ← hRr]
  have hwq2 : IntKind.u32.wrap (Q : Int) = (Q : Int) := by rw [IntKind.wrap_u32]; omega
  have hwr2 : IntKind.u32.wrap (Rr : Int) = (Rr : Int) := by rw [IntKind.wrap_u32]; omega
  have htz : tz [Q] = dg Q := by
    have h := tz_lt (l := [Q]) (fun d hd => by obtain rfl : d = Q := by simpa using hd
                                               omega)
    rw [← h]; simp [val]
  rw [← hQ, ← hRr]
  have HTZ := zh htz; clear htz
  clear hQ hRr
  obtain ⟨va, vc, rfl, hle⟩ := hr.slice
  obtain ⟨b, off, rfl, hbw, hce⟩ := hr.at_ (by omega)
  have c0 := hce 0 _ (cs32_get (d := X) (i := 0) rfl)
  rw [Nat.add_zero] at c0
  have hmk := mk32 1 (by omega) 1 rfl
  go_enter Try.func82, Try.ntmps82
  go_wp2_with fail
  clear hmk
  go_loopw [7, 8] (fun u i wr => ∃ (z : Int) (r q : Nat), i = .int .i64 z ∧ u = .int .u64 (r : Int) ∧ ((z = 0 ∧ r = 0 ∧ q = 0) ∨ (z = -1 ∧ r = Rr ∧ q = Q)) ∧ Below w.heap.size w wr ∧ Blk wr w.heap.size 75 (cs32 [q])) (fun _ i _ => (intOf i + 1).toNat)
  case atStart =>
    refine ⟨0, 0, 0, rfl, rfl, .inl ⟨rfl, rfl, rfl⟩, (Below.refl _ _).alloc (Nat.le_refl _) _, ?_⟩
    exact Blk.new w 75 [.int .u32 0]
  case round =>
    obtain ⟨z, r, q, rfl, rfl, hcase, hbel, hblk⟩ := hrel
    rcases hcase with ⟨rfl, rfl, rfl⟩ | ⟨rfl, rfl, rfl⟩
    · have c1 := (hbel.cell (p := ⟨b, off, none⟩) hbw).trans c0
      have n0 := hblk.c 0 rfl
      have f0 := hblk.frozen 0
      have hblt := hblk.lt
      have hor := or_zero_u64 (X := X) (by omega)
      have hDn : ¬ D = 0 := by omega
      have hDn2 : ¬ (D : Int) = 0 := by omega
      have HB := zh hbel; clear hbel
      have HBLK := zh hblk; clear hblk
      go_wp2_with fail
      refine wp_region_held_drew (S := fun _ => True) (by kernel_rfl) trivial (fun hHeld => ?_)
      refine zT 0 (h := ?_)
      (try simp only [Act.put, zA, zB, zC])
      refine zT 1 (h := ?_)
      (try simp only [Act.put, zA, zB, zC])
      refine zT 2 (h := ?_)
      (try simp only [Act.put, zA, zB, zC])
      refine zT 3 (h := ?_)
      (try simp only [Act.put, zA, zB, zC])
      refine zT 4 (h := ?_)
      (try simp only [Act.put, zA, zB, zC])
      refine zT 5 (h := ?_)
      (try simp only [Act.put, zA, zB, zC])
      refine zT 6 (h := ?_)
      (try simp only [Act.put, zA, zB, zC])
      refine zT 7 (h := ?_)
      (try simp only [Act.put, zA, zB, zC])
      refine zT 8 (h := ?_)
      (try simp only [Act.put, zA, zB, zC])
      refine zT 9 (h := ?_)
      (try simp only [Act.put, zA, zB, zC])
      refine zT 10 (h := ?_)
      (try simp only [Act.put, zA, zB, zC])
      refine zT 11 (h := ?_)
      (try simp only [Act.put, zA, zB, zC])
      refine zR 12 (h := fun K hK => ?_)
      go_simp
      refine hK.out _ _ ?_ (fun hHeld => ?_)
      · ((try dsimp only); skip)
      clear hK K
      (try simp only [Act.put, zA, zB, zC])
      refine zT 13 (h := ?_)
      (try simp only [Act.put, zA, zB, zC])
      refine wpAnyH_done (by kernel_rfl) ?_ _
      go_wp2_with fail
      go_roundw
      case rel =>
        refine ⟨-1, _, _, rfl, rfl, .inr ⟨rfl, rfl, rfl⟩, (HB.out.setCell (p := ⟨w.heap.size, 0, none⟩) (Nat.le_refl _) _).drew, ?_⟩
        exact (HBLK.out.set 0 _).drew
      case measure => simp [intOf]
    · have hblk2 : Row wr (.slice (some ⟨w.heap.size, 0, none⟩) 1 1) 1 (cs32 [q]) := Row.ofBlk hblk (m := 1) (cap := 1) (Nat.le_refl _) (by decide) 1
      have htr := trim_any [q] _ wr hblk2
      have HTR := zh htr; clear htr
      have HB := zh hbel; clear hbel
      go_wp2_with fail
      go_at_call 58
      refine HTR.out.mono ?_
      rintro e w2 ⟨rfl, v', rfl, hv⟩
      rw [HTZ.out] at hv
      have HV := zh hv; clear hv
      go_wp2_with fail
      go_ret2
      exact ⟨HB.out, _, rfl, HV.out⟩
end Go.Proofs.Ytjpalbonclgflaa

/- integer.short at any number (division by one digit). -/
namespace Go.Proofs.Ytjpalbonclgflaa
open Go.RowKit

def sd (D : Nat) : List Nat → List Nat × Nat
  | [] => ([], 0)
  | d :: t => (((sd D t).2 * 4294967296 + d) / D :: (sd D t).1, ((sd D t).2 * 4294967296 + d) % D)
theorem sd_length (D : Nat) (l : List Nat) : (sd D l).1.length = l.length := by
  induction l with
  | nil => rfl
  | cons d t ih => simp [sd, ih]
theorem sd_lt {D : Nat} (hD : 0 < D) (l : List Nat) : (sd D l).2 < D := by
  cases l with
  | nil => exact hD
  | cons d t => exact Nat.mod_lt _ hD
theorem sd_val {D : Nat} (hD : 0 < D) (l : List Nat) : val l = D * val (sd D l).1 + (sd D l).2 := by
  induction l with
  | nil => simp [sd, val]
  | cons d t ih =>
    have h := Nat.div_add_mod ((sd D t).2 * 4294967296 + d) D
    show d + 4294967296 * val t = D * (((sd D t).2 * 4294967296 + d) / D + 4294967296 * val (sd D t).1) + ((sd D t).2 * 4294967296 + d) % D
    rw [Nat.mul_add, Nat.mul_left_comm]
    have e : 4294967296 * val t = 4294967296 * (D * val (sd D t).1) + (sd D t).2 * 4294967296 := by omega
    omega
theorem sd_digit {D : Nat} (hD : 0 < D) (l : List Nat) (hl : ∀ d ∈ l, d < 4294967296) : ∀ d ∈ (sd D l).1, d < 4294967296 := by
  induction l with
  | nil => intro d hd; cases hd
  | cons x t ih =>
    intro d hd
    have hx := hl x (by simp)
    have hr := sd_lt hD t
    rcases List.mem_cons.1 hd with rfl | h
    · refine Nat.div_lt_of_lt_mul ?_
      have : (sd D t).2 + 1 ≤ D := hr
      have := Nat.mul_le_mul_right 4294967296 this
      rw [Nat.add_mul] at this
      omega
    · exact ih (fun y hy => hl y (by simp [hy])) d h
theorem sd_quo {D : Nat} (hD : 0 < D) (X : Nat) : tz (sd D (dg X)).1 = dg (X / D) ∧ (sd D (dg X)).2 = X % D := by
  have h := sd_val hD (dg X)
  have hr := sd_lt hD (dg X)
  rw [val_dg] at h
  have e : X / D = val (sd D (dg X)).1 ∧ X % D = (sd D (dg X)).2 := by
    rw [Nat.div_mod_unique hD]
    exact ⟨by omega, hr⟩
  exact ⟨by rw [e.1, tz_lt (sd_digit hD _ (dg_lt X))], e.2.symm⟩
theorem or_u64 {r d : Nat} (hr : r < 4294967296) (hd : d < 4294967296) : bits BinOp.or IntKind.u64 ((r * 4294967296 : Nat) : Int) (d : Int) = ((r * 4294967296 + d : Nat) : Int) := by
  show IntKind.u64.wrap ((BitVec.ofInt 64 ((r * 4294967296 : Nat) : Int) ||| BitVec.ofInt 64 (d : Int)).toNat : Int) = _
  have e0 : (BitVec.ofInt 64 ((r * 4294967296 : Nat) : Int)).toNat = r <<< 32 := by
    rw [BitVec.toNat_ofInt, Nat.shiftLeft_eq]; omega
  have e1 : (BitVec.ofInt 64 (d : Int)).toNat = d := by
    rw [BitVec.toNat_ofInt]; omega
  rw [BitVec.toNat_or, e0, e1, ← Nat.shiftLeft_add_eq_or_of_lt (by omega), Nat.shiftLeft_eq, IntKind.wrap_u64]
  omega
theorem rep_set (k x : Nat) (q : List Nat) : (List.replicate (k + 1) 0 ++ q).set k x = List.replicate k 0 ++ x :: q := by
  rw [List.replicate_succ', List.append_assoc, List.set_append, if_neg (by simp)]
  simp
set_option maxRecDepth 100000 in
set_option maxHeartbeats 3200000 in
theorem short_any (X D : Nat) (vx : Value) (w : World) (hr : Row w vx (dg X).length (cs32 (dg X))) (hX : 0 < X) (hlen : (dg X).length ≤ 100000000000) (hD0 : 0 < D) (hD : D < 4294967296) :
    Calls Try.prog 82 #[vx, .int .u32 (D : Int)] w (ShortRet (X / D) (X % D) w) := by
  obtain ⟨hq1, hq2⟩ := sd_quo hD0 X
  have hdl := dg_lt X
  obtain ⟨Q, hQ⟩ : ∃ Q, Q = X / D := ⟨_, rfl⟩
  obtain ⟨Rr, hRr⟩ : ∃ Rr, Rr = X % D := ⟨_, rfl⟩
  rw [← hQ] at hq1 ⊢
  rw [← hRr] at hq2 ⊢
  obtain ⟨ds, hds⟩ : ∃ ds, ds = dg X := ⟨_, rfl⟩
  rw [← hds] at hr hlen hdl hq1 hq2
  obtain ⟨n, hn⟩ : ∃ n, n = ds.length := ⟨_, rfl⟩
  have hn0 : 0 < n := by rw [hn, hds, dg_pos hX]; simp
  have hql : (sd D ds).1.length = n := by rw [sd_length, hn]
  have hget : ∀ k, k < n → ∃ d, ds[k]? = some d ∧ d < 4294967296 ∧ ds.drop k = d :: ds.drop (k + 1) := fun k hk => by
    have hk' : k < ds.length := by omega
    exact ⟨ds[k], List.getElem?_eq_getElem hk', hdl _ (List.getElem_mem _), List.drop_eq_getElem_cons hk'⟩
  have hdrop : ds.drop n = [] := by rw [hn]; simp
  rw [← hn] at hr hlen
  have hwD : IntKind.u64.wrap (D : Int) = (D : Int) := by rw [IntKind.wrap_u64]; omega
  have hDn : ¬ D = 0 := by omega
  have hDn2 : ¬ (D : Int) = 0 := by omega
  obtain ⟨va, vc, rfl, hle⟩ := hr.slice
  obtain ⟨b, off, rfl, hbw, hce⟩ := hr.at_ (by omega)
  have hmk := mk32 n (by omega) n rfl
  have HGET := zh hget; clear hget
  have HDROP := zh hdrop; clear hdrop
  have HCE := zh hce; clear hce
  have HQL := zh hql; clear hql
  have HN := zh hn; clear hn
  have HQ1 := zh hq1; clear hq1
  have HQ2 := zh hq2; clear hq2
  clear hds hX hQ hRr
  go_enter Try.func82, Try.ntmps82
  go_wp2_with fail
  clear hmk
  go_loopw [7, 8] (fun u i wr => ∃ k : Nat, k ≤ n ∧ i = .int .i64 ((k : Int) - 1) ∧ u = .int .u64 (((sd D (ds.drop k)).2 : Nat) : Int) ∧ Below w.heap.size w wr ∧ Blk wr w.heap.size 75 (cs32 (List.replicate k 0 ++ (sd D (ds.drop k)).1))) (fun _ i _ => (intOf i + 1).toNat)
  case atStart =>
    refine ⟨n, Nat.le_refl _, rfl, by rw [HDROP.out]; rfl, (Below.refl _ _).alloc (Nat.le_refl _) _, ?_⟩
    have h := Blk.zero w 75 (.int .u32 0) n
    rw [zrow_one _ _ rfl] at h
    rw [HDROP.out]
    simpa [sd, cs32] using h
  case round =>
    obtain ⟨k, hk, rfl, rfl, hbel, hblk⟩ := hrel
    obtain ⟨wo, rfl⟩ : ∃ wo : World, wo = wr := ⟨_, rfl⟩
    by_cases hk0 : k = 0
    · subst hk0
      rw [List.drop_zero, List.replicate_zero, List.nil_append] at hblk
      have hblk2 : Row wo (.slice (some ⟨w.heap.size, 0, none⟩) n n) (sd D ds).1.length (cs32 (sd D ds).1) := by
        
        have h := Row.ofBlk hblk (m := n) (cap := n) (Nat.le_refl _) (by unfold maxLen; omega) n
        rw [List.take_of_length_le (by rw [cs32_length, HQL.out]; exact Nat.le_refl n)] at h
        rw [HQL.out]; exact h
      have htr := trim_any (sd D ds).1 _ wo hblk2
      rw [List.drop_zero]
      obtain ⟨r, hr⟩ : ∃ r, r = (sd D ds).2 := ⟨_, rfl⟩
      have hrR : Rr = r := by rw [hr, HQ2.out]
      have hw2 : IntKind.u32.wrap (r : Int) = (r : Int) := by rw [IntKind.wrap_u32]; have := sd_lt hD0 ds; omega
      rw [← hr]
      have HTR := zh htr; clear htr
      have HB := zh hbel; clear hbel
      have HRR := zh hrR; clear hrR
      clear hblk hr hblk2
      go_wp2_with fail
      go_at_call 58
      refine HTR.out.mono ?_
      rintro e w2 ⟨rfl, v', rfl, hv⟩
      rw [HQ1.out] at hv
      have HV := zh hv; clear hv
      go_wp2_with fail
      go_ret2
      exact ⟨HB.out, _, by rw [HRR.out]; rfl, HV.out⟩
    · obtain ⟨j, rfl⟩ : ∃ j, k = j + 1 := ⟨k - 1, by omega⟩
      obtain ⟨d, hd1, hd2, hd3⟩ := HGET.out j (by omega)
      obtain ⟨r, hr⟩ : ∃ r, r = (sd D (ds.drop (j + 1))).2 := ⟨_, rfl⟩
      have hrD : r < D := by rw [hr]; exact sd_lt hD0 _
      obtain ⟨q, hq⟩ : ∃ q, q = (sd D (ds.drop (j + 1))).1 := ⟨_, rfl⟩
      obtain ⟨N, hN⟩ : ∃ N, N = r * 4294967296 + d := ⟨_, rfl⟩
      obtain ⟨Q1, hQ1⟩ : ∃ Q1, Q1 = N / D := ⟨_, rfl⟩
      obtain ⟨R1, hR1⟩ : ∃ R1, R1 = N % D := ⟨_, rfl⟩
      have hsd : sd D (ds.drop j) = (Q1 :: q, R1) := by rw [hd3, sd, ← hr, ← hN, ← hQ1, ← hR1, ← hq]
      have hQl : Q1 < 4294967296 := by
        rw [hQ1]
        refine Nat.div_lt_of_lt_mul ?_
        have := Nat.mul_le_mul_right 4294967296 (show r + 1 ≤ D from hrD)
        rw [Nat.add_mul] at this
        omega
      have hRl : R1 < D := by rw [hR1]; exact Nat.mod_lt _ hD0
      have hNl : N < 18446744073709551616 := by omega
      rw [← hr]
      rw [← hq] at hblk
      have c1 := (hbel.cell (p := ⟨b, off + j, none⟩) hbw).trans (HCE.out j _ (cs32_get hd1))
      have n0 := hblk.cell (j := j) (cs32_get (d := 0) (by rw [List.getElem?_append_left (by simp)]; simp))
      have f0 := hblk.frozen j
      have hblt := hblk.lt
      have hset := hblk.set j (.int .u32 (Q1 : Int))
      rw [cs32_set, rep_set] at hset
      have hor : bits BinOp.or IntKind.u64 ((r : Int) * 4294967296) (d : Int) = (N : Int) := by
        rw [show (r : Int) * 4294967296 = ((r * 4294967296 : Nat) : Int) by omega, or_u64 (by omega) hd2, hN]
      have hwd : IntKind.u64.wrap (d : Int) = (d : Int) := by rw [IntKind.wrap_u64]; omega
      have hwq : IntKind.u64.wrap ((N : Int) / (D : Int)) = (Q1 : Int) := by
        rw [show (N : Int) / (D : Int) = ((N / D : Nat) : Int) from (Int.natCast_ediv N D).symm, ← hQ1, IntKind.wrap_u64]; omega
      have hwr : Int.tmod (N : Int) (D : Int) = (R1 : Int) := by
        rw [Int.tmod_eq_emod_of_nonneg (by omega), ← Int.natCast_emod N D, ← hR1]
      have hwq2 : IntKind.u32.wrap (Q1 : Int) = (Q1 : Int) := by rw [IntKind.wrap_u32]; omega
      have hj1 : (((j + 1 : Nat) : Int) - 1) = (j : Int) := by omega
      have hix1 : (0 : Int) ≤ (j : Int) := by omega
      have hix2 : (j : Int) < (n : Int) := by omega
      rw [hj1]
      have HB := zh hbel; clear hbel
      have HSET := zh hset; clear hset
      have HSD := zh hsd; clear hsd
      clear hq hr hN hQ1 hR1 hblk hd1 hd2 hd3
      go_wp2_with fail
      refine wp_region_held_drew (S := fun _ => True) (by kernel_rfl) trivial (fun hHeld => ?_)
      refine zT 0 (h := ?_)
      (try simp only [Act.put, zA, zB, zC])
      refine zT 1 (h := ?_)
      (try simp only [Act.put, zA, zB, zC])
      refine zT 2 (h := ?_)
      (try simp only [Act.put, zA, zB, zC])
      refine zT 3 (h := ?_)
      (try simp only [Act.put, zA, zB, zC])
      refine zT 4 (h := ?_)
      (try simp only [Act.put, zA, zB, zC])
      refine zT 5 (h := ?_)
      (try simp only [Act.put, zA, zB, zC])
      refine zT 6 (h := ?_)
      (try simp only [Act.put, zA, zB, zC])
      refine zT 7 (h := ?_)
      (try simp only [Act.put, zA, zB, zC])
      refine zT 8 (h := ?_)
      (try simp only [Act.put, zA, zB, zC])
      refine zT 9 (h := ?_)
      (try simp only [Act.put, zA, zB, zC])
      refine zT 10 (h := ?_)
      (try simp only [Act.put, zA, zB, zC])
      refine zT 11 (h := ?_)
      (try simp only [Act.put, zA, zB, zC])
      refine zR 12 (h := fun K hK => ?_)
      go_simp
      refine hK.out _ _ ?_ (fun hHeld => ?_)
      · ((try dsimp only); skip)
      clear hK K
      (try simp only [Act.put, zA, zB, zC])
      refine zT 13 (h := ?_)
      (try simp only [Act.put, zA, zB, zC])
      refine wpAnyH_done (by kernel_rfl) ?_ _
      go_wp2_with fail
      go_roundw
      case rel =>
        refine ⟨j, by omega, rfl, by rw [HSD.out], (HB.out.setCell (p := ⟨w.heap.size, j, none⟩) (Nat.le_refl _) _).drew, ?_⟩
        rw [HSD.out]
        exact HSET.out.drew
      case measure => simp [intOf]
end Go.Proofs.Ytjpalbonclgflaa

