/- integer.Mul. -/
import Derived.Test.YthpgeeaccmgbkaaMul
import Derived.Test.YthpgeeaccmgbkaaIntB
namespace Go.Proofs.Ythpgeeaccmgbkaa
open Go.RowKit

theorem sgn_mul (na nb : Bool) (x y : Nat) : sgn (na != nb) (x * y) = sgn na x * sgn nb y := by
  cases na <;> cases nb <;> simp [sgn, Int.neg_mul, Int.mul_neg]
theorem dg_sized {s : ByteArray} {m : Nat} (hs : s.size ≤ 4 * m) : (dg (bval s.data.toList)).length ≤ m := by
  refine dg_length_le ?_
  have h1 := bval_lt s.data.toList
  have h2 : 256 ^ s.data.toList.length ≤ 256 ^ (4 * m) := Nat.pow_le_pow_right (by decide) (by simpa using hs)
  have h3 : (256 : Nat) ^ (4 * m) = 4294967296 ^ m := by rw [Nat.pow_mul]
  omega
set_option maxRecDepth 100000 in
set_option maxHeartbeats 3200000 in
theorem imul_any (na nb : Bool) (sa sb : ByteArray) (w : World) (hs : sa.size ≤ 400000000000) (ht : sb.size ≤ 400000000000) :
    Calls Try.prog 15 #[.agg #[.bool na, .string sa], .agg #[.bool nb, .string sb]] w (Ret w (IntV (ival na sa * ival nb sb))) := by
  have hs' : sa.size ≤ 1099511627776 := by omega
  have ht' : sb.size ≤ 1099511627776 := by omega
  have hla : (dg (bval sa.data.toList)).length ≤ 100000000000 := dg_sized (by omega)
  have hlb : (dg (bval sb.data.toList)).length ≤ 100000000000 := dg_sized (by omega)
  have hlen : (dg (bval sa.data.toList * bval sb.data.toList)).length ≤ 274877906944 := by
    have := dg_mul_length (bval sa.data.toList) (bval sb.data.toList); omega
  have hw2 : ¬ (w.heap.size + 1 + 1 = w.heap.size) := by omega
  have hB0 := (((Blk.new w 28 [.bool na, .string sa]).alloc (.cells #[.bool nb, .string sb] 28)).alloc (.cells #[.bool false, .string ⟨#[]⟩] 28))
  have HB0 := Lib.hid hB0; clear hB0
  have hB1 := ((Blk.new (w.alloc (.cells #[.bool na, .string sa] 28)) 28 [.bool nb, .string sb]).alloc (.cells #[.bool false, .string ⟨#[]⟩] 28))
  simp only [World.size_alloc, Nat.add_assoc, Nat.reduceAdd] at hB1
  have HB1 := Lib.hid hB1; clear hB1
  have hB2 := (Blk.new ((w.alloc (.cells #[.bool na, .string sa] 28)).alloc (.cells #[.bool nb, .string sb] 28)) 28 [.bool false, .string ⟨#[]⟩])
  simp only [World.size_alloc, Nat.add_assoc, Nat.reduceAdd] at hB2
  have HB2 := Lib.hid hB2; clear hB2
  have hmi := sgn_mul na nb (bval sa.data.toList) (bval sb.data.toList)
  have HMI := Lib.hid hmi; clear hmi
  have HLA := Lib.hid hla; clear hla
  have HLB := Lib.hid hlb; clear hlb
  have HLEN := Lib.hid hlen; clear hlen
  go_enter Try.func15, Try.ntmps15
  go_wp2_with fail
  go_region_held3 (fun w' => w'.cell? ⟨w.heap.size, 0, none⟩ = some (.bool na) ∧ w'.cell? ⟨w.heap.size, 1, none⟩ = some (.string sa) ∧ w'.cell? ⟨w.heap.size + 1, 0, none⟩ = some (.bool nb) ∧ w'.cell? ⟨w.heap.size + 1, 1, none⟩ = some (.string sb)) (go_keep) (first | (go_at_call_of 35 (Value.agg #[.bool na, .string sa]); refine (digits_any na sa _ hs').mono ?_; rintro e w1 ⟨hq1, v1, rfl, hv1⟩; have tk := HB0.out.drew.keep hq1; have x0 := tk.cell (j := 0) rfl; have x1 := tk.cell (j := 1) rfl; have A0 := Lib.hid tk; clear tk; have tk := HB1.out.drew.keep hq1; have y0 := tk.cell (j := 0) rfl; have y1 := tk.cell (j := 1) rfl; have A1 := Lib.hid tk; clear tk; have tk := HB2.out.drew.keep hq1; have z0 := tk.cell (j := 0) rfl; have z1 := tk.cell (j := 1) rfl; have A2 := Lib.hid tk; clear tk; have HV1 := Lib.hid hv1; clear hv1; have HQ1 := Lib.hid hq1; clear hq1) | (go_at_call_of 35 (Value.agg #[.bool nb, .string sb]); refine (digits_any nb sb _ ht').mono ?_; rintro e w2 ⟨hq2, v2, rfl, hv2⟩; have tk := A0.out.keep hq2; have p0 := tk.cell (j := 0) rfl; have p1 := tk.cell (j := 1) rfl; have C0 := Lib.hid tk; clear tk; have tk := A1.out.keep hq2; have q0 := tk.cell (j := 0) rfl; have q1 := tk.cell (j := 1) rfl; have C1 := Lib.hid tk; clear tk; have tk := A2.out.keep hq2; have r0 := tk.cell (j := 0) rfl; have r1 := tk.cell (j := 1) rfl; have C2 := Lib.hid tk; clear tk; have hv3 := HV1.out.below hq2 (Nat.le_refl _); have HV2 := Lib.hid hv2; clear hv2; have HV3 := Lib.hid hv3; clear hv3; have HQ2 := Lib.hid hq2; clear hq2) | (go_at_call 39; refine (multiply_any _ _ _ _ _ HV3.out HV2.out HLA.out HLB.out).mono ?_; rintro e w3 ⟨hq3, v3, rfl, hv4⟩; have tk := C0.out.keep hq3; have s0 := tk.cell (j := 0) rfl; have s1 := tk.cell (j := 1) rfl; have D0 := Lib.hid tk; clear tk; have tk := C1.out.keep hq3; have t0 := tk.cell (j := 0) rfl; have t1 := tk.cell (j := 1) rfl; have D1 := Lib.hid tk; clear tk; have tk := C2.out.keep hq3; have u0 := tk.cell (j := 0) rfl; have u1 := tk.cell (j := 1) rfl; have D2 := Lib.hid tk; clear tk; have HV4 := Lib.hid hv4; clear hv4; have HQ3 := Lib.hid hq3; clear hq3) | (go_at_call 29; refine (number_any _ _ _ _ HV4.out (dg_lt _) HLEN.out).mono ?_; rintro e w5 ⟨hq5, rfl⟩; have tk := D0.out.keep hq5; have a0 := tk.cell (j := 0) rfl; have a1 := tk.cell (j := 1) rfl; have E0 := Lib.hid tk; clear tk; have tk := D1.out.keep hq5; have b0 := tk.cell (j := 0) rfl; have b1 := tk.cell (j := 1) rfl; have E1 := Lib.hid tk; clear tk; have tk := D2.out.keep hq5; have c0 := tk.cell (j := 0) rfl; have c1 := tk.cell (j := 1) rfl; have E2 := Lib.hid tk; clear tk; have fE2 := E2.out.frozen 0; have gE2 := E2.out.frozen 1; have HQ5 := Lib.hid hq5; clear hq5))
  go_wp2
  refine bodyPost_ret (v := IntV (sgn (!na == nb) (val (dg (bval sa.data.toList * bval sb.data.toList))))) (by simp [results, Try.results15, go_sem, c0, c1]) rfl ⟨?_, ?_⟩
  · have s0 := ((((Below.refl w.heap.size w).alloc (Nat.le_refl _) (.cells #[.bool na, .string sa] 28)).alloc (by simp) (.cells #[.bool nb, .string sb] 28)).alloc (by simp <;> omega) (.cells #[.bool false, .string ⟨#[]⟩] 28)).drew
    have s1 := s0.trans (HQ1.out.mono s0.size)
    have s2 := s1.trans (HQ2.out.mono s1.size)
    have s3 := s2.trans (HQ3.out.mono s2.size)
    have s5 := s3.trans (HQ5.out.mono s3.size)
    exact (s5.setCell (p := ⟨w.heap.size + 2, 0, none⟩) (Nat.le_add_right _ _) _).setCell (p := ⟨w.heap.size + 2, 1, none⟩) (Nat.le_add_right _ _) _
  · rw [val_dg, show (!na == nb) = (na != nb) from by cases na <;> cases nb <;> rfl, HMI.out]; rfl
/-- integer.Mul, of canonical integers. -/
theorem imulV (x y : Int) (w : World) (hx : (imag x).size ≤ 400000000000) (hy : (imag y).size ≤ 400000000000) :
    Calls Try.prog 15 #[IntV x, IntV y] w (Ret w (IntV (x * y))) := by
  have h := imul_any (ineg x) (ineg y) (imag x) (imag y) w hx hy
  rwa [ival_canon, ival_canon] at h
end Go.Proofs.Ythpgeeaccmgbkaa
