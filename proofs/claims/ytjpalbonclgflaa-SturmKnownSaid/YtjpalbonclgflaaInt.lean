/- The contracts of integer.Neg, Add, Sub, Compare, Of: they compute with integers; nothing that was there is changed. -/
import Derived.Deep.RegionHeld3
import Derived.Test.YtjpalbonclgflaaNumber
import Derived.Test.YtjpalbonclgflaaAddSub
namespace Go.Proofs.Ytjpalbonclgflaa
open Go.RowKit

def ival (ng : Bool) (s : ByteArray) : Int := sgn ng (bval s.data.toList)
theorem sgn_not (ng : Bool) (x : Nat) : sgn (!ng) x = -sgn ng x := by cases ng <;> simp [sgn]
theorem dg_bytes (l : List UInt8) (m : Nat) (h : l.length ≤ 4 * m) : (dg (bval l)).length ≤ m := by
 apply dg_length_le
 have h1 := bval_lt l
 have h2 : 256 ^ l.length ≤ 256 ^ (4 * m) := Nat.pow_le_pow_right (by decide) h
 rw [Nat.pow_mul] at h2
 have h3 : (256 : Nat) ^ 4 = 4294967296 := by decide
 rw [h3] at h2
 omega
theorem dg_size {s : ByteArray} (hs : s.size ≤ 1099511627776) : (dg (bval s.data.toList)).length ≤ 274877906944 :=
 dg_bytes _ _ (by rw [bytes_size]; omega)

set_option maxRecDepth 100000 in
set_option maxHeartbeats 1600000 in
theorem neg_any (na : Bool) (sa : ByteArray) (w : World) (hs : sa.size ≤ 1099511627776) :
  Calls Try.prog 56 #[.agg #[.bool na, .string sa]] w (Ret w (IntV (-ival na sa))) := by
 have hB0 := ((Blk.new w 33 [.bool na, .string sa]).alloc (.cells #[.bool false, .string ⟨#[]⟩] 33))
 have HB0 := zh hB0; clear hB0
 have hB1 := (Blk.new (w.alloc (.cells #[.bool na, .string sa] 33)) 33 [.bool false, .string ⟨#[]⟩])
 simp only [World.size_alloc, Nat.add_assoc, Nat.reduceAdd] at hB1
 have HB1 := zh hB1; clear hB1
 go_enter Try.func56, Try.ntmps56
 go_wp2_with fail
 go_region_held3 (fun w' => w'.cell? ⟨w.heap.size, 0, none⟩ = some (.bool na) ∧ w'.cell? ⟨w.heap.size, 1, none⟩ = some (.string sa)) (go_keep) (first | (go_at_call 40; refine (digits_any na sa _ hs).mono ?_; rintro e w1 ⟨hq1, v1, rfl, hv1⟩; have hbA0 := HB0.out.drew.below hq1 (by simp <;> omega); have cA0 := hbA0.c 0 rfl; have dA0 := hbA0.c 1 rfl; have HBA0 := zh hbA0; clear hbA0; have hbA1 := HB1.out.drew.below hq1 (by simp <;> omega); have cA1 := hbA1.c 0 rfl; have dA1 := hbA1.c 1 rfl; have HBA1 := zh hbA1; clear hbA1; have HV1 := zh hv1; clear hv1; have HQ1 := zh hq1; clear hq1) | (go_at_call 35; refine (number_any _ _ _ _ HV1.out (dg_lt _) (dg_size hs)).mono ?_; rintro e w2 ⟨hq2, rfl⟩; have hbB0 := HBA0.out.below hq2 (by have := HBA0.out.lt; omega); have cB0 := hbB0.c 0 rfl; have dB0 := hbB0.c 1 rfl; have HBB0 := zh hbB0; clear hbB0; have hbB1 := HBA1.out.below hq2 (by have := HBA1.out.lt; omega); have cB1 := hbB1.c 0 rfl; have dB1 := hbB1.c 1 rfl; have fB1 := hbB1.frozen 0; have gB1 := hbB1.frozen 1; have HBB1 := zh hbB1; clear hbB1; have HQ2 := zh hq2; clear hq2))
 go_wp2
 refine bodyPost_ret (v := IntV (sgn (!na) (val (dg (bval sa.data.toList))))) (by simp [results, Try.results56, go_sem, cB1, dB1]) rfl ⟨?_, ?_⟩
 ·
  have hz1 := HQ1.out.size
  simp at hz1
  exact (((((((Below.refl _ w).alloc (Nat.le_refl _) _).alloc (by simp) _).drew.trans (HQ1.out.mono (by simp <;> omega))).trans (HQ2.out.mono (by omega))).setCell (p := ⟨w.heap.size + 1, 0, none⟩) (by simp) _).setCell (p := ⟨w.heap.size + 1, 1, none⟩) (by simp) _)
 ·
  rw [val_dg, sgn_not]; rfl

theorem dg_add (a b : List UInt8) (m : Nat) (ha : a.length < 4 * m) (hb : b.length < 4 * m) : (dg (bval a + bval b)).length ≤ m := by
 apply dg_length_le
 have h1 := bval_lt a
 have h2 := bval_lt b
 have h3 : 256 ^ a.length ≤ 256 ^ (4 * m - 1) := Nat.pow_le_pow_right (by decide) (by omega)
 have h4 : 256 ^ b.length ≤ 256 ^ (4 * m - 1) := Nat.pow_le_pow_right (by decide) (by omega)
 have h5 : 256 ^ (4 * m) = 256 * 256 ^ (4 * m - 1) := by rw [← Nat.pow_succ']; congr 1; omega
 rw [Nat.pow_mul] at h5
 have h6 : (256 : Nat) ^ 4 = 4294967296 := by decide
 rw [h6] at h5
 omega
theorem dg_le_of_le {x y m : Nat} (h : x ≤ y) (hy : (dg y).length ≤ m) : (dg x).length ≤ m :=
 Nat.le_trans (dg_length_le (Nat.lt_of_le_of_lt h (lt_pow_dg y))) hy
theorem sgn_add_same (n : Bool) (x y : Nat) : sgn n (x + y) = sgn n x + sgn n y := by cases n <;> simp [sgn] <;> omega
theorem sgn_add_lt (n m : Bool) (x y : Nat) (h : ¬ n = m) (hxy : x < y) : sgn m (y - x) = sgn n x + sgn m y := by cases n <;> cases m <;> simp [sgn] at * <;> omega
theorem sgn_add_ge (n m : Bool) (x y : Nat) (h : ¬ n = m) (hxy : ¬ x < y) : sgn n (x - y) = sgn n x + sgn m y := by cases n <;> cases m <;> simp [sgn] at * <;> omega
theorem cmpN_neg {x y : Nat} (h : x < y) : cmpN x y < 0 := by rw [cmpN_lt h]; decide
theorem cmpN_nneg {x y : Nat} (h : ¬ x < y) : ¬ cmpN x y < 0 := by unfold cmpN; rw [if_neg h]; split <;> decide

set_option maxRecDepth 100000 in
set_option maxHeartbeats 3200000 in
theorem add_same (na nb : Bool) (sa sb : ByteArray) (w : World) (hs : sa.size ≤ 1099511627775) (ht : sb.size ≤ 1099511627775) (hn : na = nb) :
  Calls Try.prog 20 #[.agg #[.bool na, .string sa], .agg #[.bool nb, .string sb]] w (Ret w (IntV (ival na sa + ival nb sb))) := by
 subst hn
 have hs' : sa.size ≤ 1099511627776 := by omega
 have ht' : sb.size ≤ 1099511627776 := by omega
 have hlen : (dg (bval sa.data.toList + bval sb.data.toList)).length ≤ 274877906944 := dg_add _ _ _ (by rw [bytes_size]; omega) (by rw [bytes_size]; omega)
 have hw2 : ¬ (w.heap.size + 1 + 1 = w.heap.size) := by omega
 have hB0 := (((Blk.new w 33 [.bool na, .string sa]).alloc (.cells #[.bool na, .string sb] 33)).alloc (.cells #[.bool false, .string ⟨#[]⟩] 33))
 have HB0 := zh hB0; clear hB0
 have hB1 := ((Blk.new (w.alloc (.cells #[.bool na, .string sa] 33)) 33 [.bool na, .string sb]).alloc (.cells #[.bool false, .string ⟨#[]⟩] 33))
 simp only [World.size_alloc, Nat.add_assoc, Nat.reduceAdd] at hB1
 have HB1 := zh hB1; clear hB1
 have hB2 := (Blk.new ((w.alloc (.cells #[.bool na, .string sa] 33)).alloc (.cells #[.bool na, .string sb] 33)) 33 [.bool false, .string ⟨#[]⟩])
 simp only [World.size_alloc, Nat.add_assoc, Nat.reduceAdd] at hB2
 have HB2 := zh hB2; clear hB2
 go_enter Try.func20, Try.ntmps20
 go_wp2_with fail
 go_region_held3 (fun w' => w'.cell? ⟨w.heap.size, 0, none⟩ = some (.bool na) ∧ w'.cell? ⟨w.heap.size, 1, none⟩ = some (.string sa) ∧ w'.cell? ⟨w.heap.size + 1, 0, none⟩ = some (.bool na) ∧ w'.cell? ⟨w.heap.size + 1, 1, none⟩ = some (.string sb)) (go_keep) (first | (go_at_call_of 40 (Value.agg #[.bool na, .string sa]); refine (digits_any na sa _ hs').mono ?_; rintro e w1 ⟨hq1, v1, rfl, hv1⟩; have hbA0 := HB0.out.drew.below hq1 (by simp <;> omega); have cA0 := hbA0.c 0 rfl; have dA0 := hbA0.c 1 rfl; have HBA0 := zh hbA0; clear hbA0; have hbA1 := HB1.out.drew.below hq1 (by simp <;> omega); have cA1 := hbA1.c 0 rfl; have dA1 := hbA1.c 1 rfl; have HBA1 := zh hbA1; clear hbA1; have hbA2 := HB2.out.drew.below hq1 (by simp <;> omega); have cA2 := hbA2.c 0 rfl; have dA2 := hbA2.c 1 rfl; have HBA2 := zh hbA2; clear hbA2; have HV1 := zh hv1; clear hv1; have HQ1 := zh hq1; clear hq1) | (go_at_call_of 40 (Value.agg #[.bool na, .string sb]); refine (digits_any na sb _ ht').mono ?_; rintro e w2 ⟨hq2, v2, rfl, hv2⟩; have hbB0 := HBA0.out.below hq2 (by have := HBA0.out.lt; omega); have cB0 := hbB0.c 0 rfl; have dB0 := hbB0.c 1 rfl; have HBB0 := zh hbB0; clear hbB0; have hbB1 := HBA1.out.below hq2 (by have := HBA1.out.lt; omega); have cB1 := hbB1.c 0 rfl; have dB1 := hbB1.c 1 rfl; have HBB1 := zh hbB1; clear hbB1; have hbB2 := HBA2.out.below hq2 (by have := HBA2.out.lt; omega); have cB2 := hbB2.c 0 rfl; have dB2 := hbB2.c 1 rfl; have HBB2 := zh hbB2; clear hbB2; have hv3 := HV1.out.below hq2 (Nat.le_refl _); have HV2 := zh hv2; clear hv2; have HV3 := zh hv3; clear hv3; have HQ2 := zh hq2; clear hq2))
 go_wp2_with fail
 go_region_held3 (fun w' => w'.cell? ⟨w.heap.size, 0, none⟩ = some (.bool na) ∧ w'.cell? ⟨w.heap.size, 1, none⟩ = some (.string sa) ∧ w'.cell? ⟨w.heap.size + 1, 0, none⟩ = some (.bool na) ∧ w'.cell? ⟨w.heap.size + 1, 1, none⟩ = some (.string sb)) (go_keep) (first | (go_at_call 41; refine (add_any _ _ _ _ _ HV3.out.drew HV2.out.drew (dg_size hs') (dg_size ht')).mono ?_; rintro e w4 ⟨hq4, v4, rfl, hv4⟩; have hbD0 := HBB0.out.drew.below hq4 (by have := HBB0.out.lt; simp only [World.size_drew]; omega); have cD0 := hbD0.c 0 rfl; have dD0 := hbD0.c 1 rfl; have HBD0 := zh hbD0; clear hbD0; have hbD1 := HBB1.out.drew.below hq4 (by have := HBB1.out.lt; simp only [World.size_drew]; omega); have cD1 := hbD1.c 0 rfl; have dD1 := hbD1.c 1 rfl; have HBD1 := zh hbD1; clear hbD1; have hbD2 := HBB2.out.drew.below hq4 (by have := HBB2.out.lt; simp only [World.size_drew]; omega); have cD2 := hbD2.c 0 rfl; have dD2 := hbD2.c 1 rfl; have HBD2 := zh hbD2; clear hbD2; have HV4 := zh hv4; clear hv4; have HQ4 := zh hq4; clear hq4) | (go_at_call 35; refine (number_any _ _ _ _ HV4.out (dg_lt _) ?_).mono ?_; exact hlen; rintro e w5 ⟨hq5, rfl⟩; have hbE0 := HBD0.out.below hq5 (by have := HBD0.out.lt; omega); have cE0 := hbE0.c 0 rfl; have dE0 := hbE0.c 1 rfl; have HBE0 := zh hbE0; clear hbE0; have hbE1 := HBD1.out.below hq5 (by have := HBD1.out.lt; omega); have cE1 := hbE1.c 0 rfl; have dE1 := hbE1.c 1 rfl; have HBE1 := zh hbE1; clear hbE1; have hbE2 := HBD2.out.below hq5 (by have := HBD2.out.lt; omega); have cE2 := hbE2.c 0 rfl; have dE2 := hbE2.c 1 rfl; have fE2 := hbE2.frozen 0; have gE2 := hbE2.frozen 1; have HBE2 := zh hbE2; clear hbE2; have HQ5 := zh hq5; clear hq5))
 go_wp2
 refine bodyPost_ret (v := IntV (sgn na (val (dg (bval sa.data.toList + bval sb.data.toList))))) (by simp [results, Try.results20, go_sem, cE2, dE2]) rfl ⟨?_, ?_⟩
 ·
  have s0 := ((((Below.refl w.heap.size w).alloc (Nat.le_refl _) (.cells #[.bool na, .string sa] 33)).alloc (by simp) (.cells #[.bool na, .string sb] 33)).alloc (by simp <;> omega) (.cells #[.bool false, .string ⟨#[]⟩] 33)).drew
  have s1 := s0.trans (HQ1.out.mono s0.size)
  have s2 := s1.trans (HQ2.out.mono s1.size)
  have s4 := s2.drew.trans (HQ4.out.mono s2.drew.size)
  have s5 := s4.trans (HQ5.out.mono s4.size)
  exact (s5.setCell (p := ⟨w.heap.size + 2, 0, none⟩) (Nat.le_add_right _ _) _).setCell (p := ⟨w.heap.size + 2, 1, none⟩) (Nat.le_add_right _ _) _
 ·
  rw [val_dg, sgn_add_same]; rfl

set_option maxRecDepth 100000 in
set_option maxHeartbeats 3200000 in
theorem add_lt (na nb : Bool) (sa sb : ByteArray) (w : World) (hs : sa.size ≤ 1099511627775) (ht : sb.size ≤ 1099511627775) (hn : ¬ na = nb) (hxy : bval sa.data.toList < bval sb.data.toList) :
  Calls Try.prog 20 #[.agg #[.bool na, .string sa], .agg #[.bool nb, .string sb]] w (Ret w (IntV (ival na sa + ival nb sb))) := by
 have hne : (na == nb) = false := by simp [hn]
 have hcm := cmpN_neg hxy
 have hs' : sa.size ≤ 1099511627776 := by omega
 have ht' : sb.size ≤ 1099511627776 := by omega
 have hlen : (dg (bval sb.data.toList - bval sa.data.toList)).length ≤ 274877906944 := dg_le_of_le (Nat.sub_le _ _) (dg_size ht')
 have hw2 : ¬ (w.heap.size + 1 + 1 = w.heap.size) := by omega
 have hB0 := (((Blk.new w 33 [.bool na, .string sa]).alloc (.cells #[.bool nb, .string sb] 33)).alloc (.cells #[.bool false, .string ⟨#[]⟩] 33))
 have HB0 := zh hB0; clear hB0
 have hB1 := ((Blk.new (w.alloc (.cells #[.bool na, .string sa] 33)) 33 [.bool nb, .string sb]).alloc (.cells #[.bool false, .string ⟨#[]⟩] 33))
 simp only [World.size_alloc, Nat.add_assoc, Nat.reduceAdd] at hB1
 have HB1 := zh hB1; clear hB1
 have hB2 := (Blk.new ((w.alloc (.cells #[.bool na, .string sa] 33)).alloc (.cells #[.bool nb, .string sb] 33)) 33 [.bool false, .string ⟨#[]⟩])
 simp only [World.size_alloc, Nat.add_assoc, Nat.reduceAdd] at hB2
 have HB2 := zh hB2; clear hB2
 go_enter Try.func20, Try.ntmps20
 go_wp2_with fail
 go_region_held3 (fun w' => w'.cell? ⟨w.heap.size, 0, none⟩ = some (.bool na) ∧ w'.cell? ⟨w.heap.size, 1, none⟩ = some (.string sa) ∧ w'.cell? ⟨w.heap.size + 1, 0, none⟩ = some (.bool nb) ∧ w'.cell? ⟨w.heap.size + 1, 1, none⟩ = some (.string sb)) (go_keep) (first | (go_at_call_of 40 (Value.agg #[.bool na, .string sa]); refine (digits_any na sa _ hs').mono ?_; rintro e w1 ⟨hq1, v1, rfl, hv1⟩; have hbA0 := HB0.out.drew.below hq1 (by simp <;> omega); have cA0 := hbA0.c 0 rfl; have dA0 := hbA0.c 1 rfl; have HBA0 := zh hbA0; clear hbA0; have hbA1 := HB1.out.drew.below hq1 (by simp <;> omega); have cA1 := hbA1.c 0 rfl; have dA1 := hbA1.c 1 rfl; have HBA1 := zh hbA1; clear hbA1; have hbA2 := HB2.out.drew.below hq1 (by simp <;> omega); have cA2 := hbA2.c 0 rfl; have dA2 := hbA2.c 1 rfl; have HBA2 := zh hbA2; clear hbA2; have HV1 := zh hv1; clear hv1; have HQ1 := zh hq1; clear hq1) | (go_at_call_of 40 (Value.agg #[.bool nb, .string sb]); refine (digits_any nb sb _ ht').mono ?_; rintro e w2 ⟨hq2, v2, rfl, hv2⟩; have hbB0 := HBA0.out.below hq2 (by have := HBA0.out.lt; omega); have cB0 := hbB0.c 0 rfl; have dB0 := hbB0.c 1 rfl; have HBB0 := zh hbB0; clear hbB0; have hbB1 := HBA1.out.below hq2 (by have := HBA1.out.lt; omega); have cB1 := hbB1.c 0 rfl; have dB1 := hbB1.c 1 rfl; have HBB1 := zh hbB1; clear hbB1; have hbB2 := HBA2.out.below hq2 (by have := HBA2.out.lt; omega); have cB2 := hbB2.c 0 rfl; have dB2 := hbB2.c 1 rfl; have HBB2 := zh hbB2; clear hbB2; have hv3 := HV1.out.below hq2 (Nat.le_refl _); have HV2 := zh hv2; clear hv2; have HV3 := zh hv3; clear hv3; have HQ2 := zh hq2; clear hq2))
 go_wp2_with (go_at_call 42; refine (compare_any _ _ _ _ _ HV3.out HV2.out).mono ?_; rintro e w3 ⟨hq3, rfl⟩; have hbC0 := HBB0.out.below hq3 (by have := HBB0.out.lt; omega); have cC0 := hbC0.c 0 rfl; have dC0 := hbC0.c 1 rfl; have HBC0 := zh hbC0; clear hbC0; have hbC1 := HBB1.out.below hq3 (by have := HBB1.out.lt; omega); have cC1 := hbC1.c 0 rfl; have dC1 := hbC1.c 1 rfl; have HBC1 := zh hbC1; clear hbC1; have hbC2 := HBB2.out.below hq3 (by have := HBB2.out.lt; omega); have cC2 := hbC2.c 0 rfl; have dC2 := hbC2.c 1 rfl; have HBC2 := zh hbC2; clear hbC2; have hv4 := HV2.out.below hq3 (Nat.le_refl _); have HV2 := zh hv4; clear hv4; have hv5 := HV3.out.below hq3 (Nat.le_refl _); have HV3 := zh hv5; clear hv5; have HQ3 := zh hq3; clear hq3)
 go_region_held3 (fun w' => w'.cell? ⟨w.heap.size, 0, none⟩ = some (.bool na) ∧ w'.cell? ⟨w.heap.size, 1, none⟩ = some (.string sa) ∧ w'.cell? ⟨w.heap.size + 1, 0, none⟩ = some (.bool nb) ∧ w'.cell? ⟨w.heap.size + 1, 1, none⟩ = some (.string sb)) (go_keep) (first | (go_at_call 43; refine (subtract_any _ _ _ _ _ HV2.out.drew HV3.out.drew (Nat.le_of_lt hxy) (dg_size ht')).mono ?_; rintro e w4 ⟨hq4, v4, rfl, hv4⟩; have hbD0 := HBC0.out.drew.below hq4 (by have := HBC0.out.lt; simp only [World.size_drew]; omega); have cD0 := hbD0.c 0 rfl; have dD0 := hbD0.c 1 rfl; have HBD0 := zh hbD0; clear hbD0; have hbD1 := HBC1.out.drew.below hq4 (by have := HBC1.out.lt; simp only [World.size_drew]; omega); have cD1 := hbD1.c 0 rfl; have dD1 := hbD1.c 1 rfl; have HBD1 := zh hbD1; clear hbD1; have hbD2 := HBC2.out.drew.below hq4 (by have := HBC2.out.lt; simp only [World.size_drew]; omega); have cD2 := hbD2.c 0 rfl; have dD2 := hbD2.c 1 rfl; have HBD2 := zh hbD2; clear hbD2; have HV4 := zh hv4; clear hv4; have HQ4 := zh hq4; clear hq4) | (go_at_call 35; refine (number_any _ _ _ _ HV4.out (dg_lt _) ?_).mono ?_; exact hlen; rintro e w5 ⟨hq5, rfl⟩; have hbE0 := HBD0.out.below hq5 (by have := HBD0.out.lt; omega); have cE0 := hbE0.c 0 rfl; have dE0 := hbE0.c 1 rfl; have HBE0 := zh hbE0; clear hbE0; have hbE1 := HBD1.out.below hq5 (by have := HBD1.out.lt; omega); have cE1 := hbE1.c 0 rfl; have dE1 := hbE1.c 1 rfl; have HBE1 := zh hbE1; clear hbE1; have hbE2 := HBD2.out.below hq5 (by have := HBD2.out.lt; omega); have cE2 := hbE2.c 0 rfl; have dE2 := hbE2.c 1 rfl; have fE2 := hbE2.frozen 0; have gE2 := hbE2.frozen 1; have HBE2 := zh hbE2; clear hbE2; have HQ5 := zh hq5; clear hq5))
 go_wp2
 refine bodyPost_ret (v := IntV (sgn nb (val (dg (bval sb.data.toList - bval sa.data.toList))))) (by simp [results, Try.results20, go_sem, cE2, dE2]) rfl ⟨?_, ?_⟩
 ·
  have s0 := ((((Below.refl w.heap.size w).alloc (Nat.le_refl _) (.cells #[.bool na, .string sa] 33)).alloc (by simp) (.cells #[.bool nb, .string sb] 33)).alloc (by simp <;> omega) (.cells #[.bool false, .string ⟨#[]⟩] 33)).drew
  have s1 := s0.trans (HQ1.out.mono s0.size)
  have s2 := s1.trans (HQ2.out.mono s1.size)
  have s3 := s2.trans (HQ3.out.mono s2.size)
  have s4 := s3.drew.trans (HQ4.out.mono s3.drew.size)
  have s5 := s4.trans (HQ5.out.mono s4.size)
  exact (s5.setCell (p := ⟨w.heap.size + 2, 0, none⟩) (Nat.le_add_right _ _) _).setCell (p := ⟨w.heap.size + 2, 1, none⟩) (Nat.le_add_right _ _) _
 ·
  rw [val_dg, sgn_add_lt _ _ _ _ hn hxy]; rfl

set_option maxRecDepth 100000 in
set_option maxHeartbeats 3200000 in
theorem add_ge (na nb : Bool) (sa sb : ByteArray) (w : World) (hs : sa.size ≤ 1099511627775) (ht : sb.size ≤ 1099511627775) (hn : ¬ na = nb) (hxy : ¬ bval sa.data.toList < bval sb.data.toList) :
  Calls Try.prog 20 #[.agg #[.bool na, .string sa], .agg #[.bool nb, .string sb]] w (Ret w (IntV (ival na sa + ival nb sb))) := by
 have hne : (na == nb) = false := by simp [hn]
 have hcm := cmpN_nneg hxy
 have hs' : sa.size ≤ 1099511627776 := by omega
 have ht' : sb.size ≤ 1099511627776 := by omega
 have hlen : (dg (bval sa.data.toList - bval sb.data.toList)).length ≤ 274877906944 := dg_le_of_le (Nat.sub_le _ _) (dg_size hs')
 have hw2 : ¬ (w.heap.size + 1 + 1 = w.heap.size) := by omega
 have hB0 := (((Blk.new w 33 [.bool na, .string sa]).alloc (.cells #[.bool nb, .string sb] 33)).alloc (.cells #[.bool false, .string ⟨#[]⟩] 33))
 have HB0 := zh hB0; clear hB0
 have hB1 := ((Blk.new (w.alloc (.cells #[.bool na, .string sa] 33)) 33 [.bool nb, .string sb]).alloc (.cells #[.bool false, .string ⟨#[]⟩] 33))
 simp only [World.size_alloc, Nat.add_assoc, Nat.reduceAdd] at hB1
 have HB1 := zh hB1; clear hB1
 have hB2 := (Blk.new ((w.alloc (.cells #[.bool na, .string sa] 33)).alloc (.cells #[.bool nb, .string sb] 33)) 33 [.bool false, .string ⟨#[]⟩])
 simp only [World.size_alloc, Nat.add_assoc, Nat.reduceAdd] at hB2
 have HB2 := zh hB2; clear hB2
 go_enter Try.func20, Try.ntmps20
 go_wp2_with fail
 go_region_held3 (fun w' => w'.cell? ⟨w.heap.size, 0, none⟩ = some (.bool na) ∧ w'.cell? ⟨w.heap.size, 1, none⟩ = some (.string sa) ∧ w'.cell? ⟨w.heap.size + 1, 0, none⟩ = some (.bool nb) ∧ w'.cell? ⟨w.heap.size + 1, 1, none⟩ = some (.string sb)) (go_keep) (first | (go_at_call_of 40 (Value.agg #[.bool na, .string sa]); refine (digits_any na sa _ hs').mono ?_; rintro e w1 ⟨hq1, v1, rfl, hv1⟩; have hbA0 := HB0.out.drew.below hq1 (by simp <;> omega); have cA0 := hbA0.c 0 rfl; have dA0 := hbA0.c 1 rfl; have HBA0 := zh hbA0; clear hbA0; have hbA1 := HB1.out.drew.below hq1 (by simp <;> omega); have cA1 := hbA1.c 0 rfl; have dA1 := hbA1.c 1 rfl; have HBA1 := zh hbA1; clear hbA1; have hbA2 := HB2.out.drew.below hq1 (by simp <;> omega); have cA2 := hbA2.c 0 rfl; have dA2 := hbA2.c 1 rfl; have HBA2 := zh hbA2; clear hbA2; have HV1 := zh hv1; clear hv1; have HQ1 := zh hq1; clear hq1) | (go_at_call_of 40 (Value.agg #[.bool nb, .string sb]); refine (digits_any nb sb _ ht').mono ?_; rintro e w2 ⟨hq2, v2, rfl, hv2⟩; have hbB0 := HBA0.out.below hq2 (by have := HBA0.out.lt; omega); have cB0 := hbB0.c 0 rfl; have dB0 := hbB0.c 1 rfl; have HBB0 := zh hbB0; clear hbB0; have hbB1 := HBA1.out.below hq2 (by have := HBA1.out.lt; omega); have cB1 := hbB1.c 0 rfl; have dB1 := hbB1.c 1 rfl; have HBB1 := zh hbB1; clear hbB1; have hbB2 := HBA2.out.below hq2 (by have := HBA2.out.lt; omega); have cB2 := hbB2.c 0 rfl; have dB2 := hbB2.c 1 rfl; have HBB2 := zh hbB2; clear hbB2; have hv3 := HV1.out.below hq2 (Nat.le_refl _); have HV2 := zh hv2; clear hv2; have HV3 := zh hv3; clear hv3; have HQ2 := zh hq2; clear hq2))
 go_wp2_with (go_at_call 42; refine (compare_any _ _ _ _ _ HV3.out HV2.out).mono ?_; rintro e w3 ⟨hq3, rfl⟩; have hbC0 := HBB0.out.below hq3 (by have := HBB0.out.lt; omega); have cC0 := hbC0.c 0 rfl; have dC0 := hbC0.c 1 rfl; have HBC0 := zh hbC0; clear hbC0; have hbC1 := HBB1.out.below hq3 (by have := HBB1.out.lt; omega); have cC1 := hbC1.c 0 rfl; have dC1 := hbC1.c 1 rfl; have HBC1 := zh hbC1; clear hbC1; have hbC2 := HBB2.out.below hq3 (by have := HBB2.out.lt; omega); have cC2 := hbC2.c 0 rfl; have dC2 := hbC2.c 1 rfl; have HBC2 := zh hbC2; clear hbC2; have hv4 := HV2.out.below hq3 (Nat.le_refl _); have HV2 := zh hv4; clear hv4; have hv5 := HV3.out.below hq3 (Nat.le_refl _); have HV3 := zh hv5; clear hv5; have HQ3 := zh hq3; clear hq3)
 go_region_held3 (fun w' => w'.cell? ⟨w.heap.size, 0, none⟩ = some (.bool na) ∧ w'.cell? ⟨w.heap.size, 1, none⟩ = some (.string sa) ∧ w'.cell? ⟨w.heap.size + 1, 0, none⟩ = some (.bool nb) ∧ w'.cell? ⟨w.heap.size + 1, 1, none⟩ = some (.string sb)) (go_keep) (first | (go_at_call 43; refine (subtract_any _ _ _ _ _ HV3.out.drew HV2.out.drew (Nat.le_of_not_lt hxy) (dg_size hs')).mono ?_; rintro e w4 ⟨hq4, v4, rfl, hv4⟩; have hbD0 := HBC0.out.drew.below hq4 (by have := HBC0.out.lt; simp only [World.size_drew]; omega); have cD0 := hbD0.c 0 rfl; have dD0 := hbD0.c 1 rfl; have HBD0 := zh hbD0; clear hbD0; have hbD1 := HBC1.out.drew.below hq4 (by have := HBC1.out.lt; simp only [World.size_drew]; omega); have cD1 := hbD1.c 0 rfl; have dD1 := hbD1.c 1 rfl; have HBD1 := zh hbD1; clear hbD1; have hbD2 := HBC2.out.drew.below hq4 (by have := HBC2.out.lt; simp only [World.size_drew]; omega); have cD2 := hbD2.c 0 rfl; have dD2 := hbD2.c 1 rfl; have HBD2 := zh hbD2; clear hbD2; have HV4 := zh hv4; clear hv4; have HQ4 := zh hq4; clear hq4) | (go_at_call 35; refine (number_any _ _ _ _ HV4.out (dg_lt _) ?_).mono ?_; exact hlen; rintro e w5 ⟨hq5, rfl⟩; have hbE0 := HBD0.out.below hq5 (by have := HBD0.out.lt; omega); have cE0 := hbE0.c 0 rfl; have dE0 := hbE0.c 1 rfl; have HBE0 := zh hbE0; clear hbE0; have hbE1 := HBD1.out.below hq5 (by have := HBD1.out.lt; omega); have cE1 := hbE1.c 0 rfl; have dE1 := hbE1.c 1 rfl; have HBE1 := zh hbE1; clear hbE1; have hbE2 := HBD2.out.below hq5 (by have := HBD2.out.lt; omega); have cE2 := hbE2.c 0 rfl; have dE2 := hbE2.c 1 rfl; have fE2 := hbE2.frozen 0; have gE2 := hbE2.frozen 1; have HBE2 := zh hbE2; clear hbE2; have HQ5 := zh hq5; clear hq5))
 go_wp2
 refine bodyPost_ret (v := IntV (sgn na (val (dg (bval sa.data.toList - bval sb.data.toList))))) (by simp [results, Try.results20, go_sem, cE2, dE2]) rfl ⟨?_, ?_⟩
 ·
  have s0 := ((((Below.refl w.heap.size w).alloc (Nat.le_refl _) (.cells #[.bool na, .string sa] 33)).alloc (by simp) (.cells #[.bool nb, .string sb] 33)).alloc (by simp <;> omega) (.cells #[.bool false, .string ⟨#[]⟩] 33)).drew
  have s1 := s0.trans (HQ1.out.mono s0.size)
  have s2 := s1.trans (HQ2.out.mono s1.size)
  have s3 := s2.trans (HQ3.out.mono s2.size)
  have s4 := s3.drew.trans (HQ4.out.mono s3.drew.size)
  have s5 := s4.trans (HQ5.out.mono s4.size)
  exact (s5.setCell (p := ⟨w.heap.size + 2, 0, none⟩) (Nat.le_add_right _ _) _).setCell (p := ⟨w.heap.size + 2, 1, none⟩) (Nat.le_add_right _ _) _
 ·
  rw [val_dg, sgn_add_ge _ _ _ _ hn hxy]; rfl

theorem iadd_any (na nb : Bool) (sa sb : ByteArray) (w : World) (hs : sa.size ≤ 1099511627775) (ht : sb.size ≤ 1099511627775) :
  Calls Try.prog 20 #[.agg #[.bool na, .string sa], .agg #[.bool nb, .string sb]] w (Ret w (IntV (ival na sa + ival nb sb))) := by
 by_cases hn : na = nb
 ·
  exact add_same na nb sa sb w hs ht hn
 ·
  by_cases hxy : bval sa.data.toList < bval sb.data.toList
  ·
   exact add_lt na nb sa sb w hs ht hn hxy
  ·
   exact add_ge na nb sa sb w hs ht hn hxy
end Go.Proofs.Ytjpalbonclgflaa
