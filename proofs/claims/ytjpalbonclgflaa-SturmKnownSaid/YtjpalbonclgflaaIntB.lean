/- The contracts of integer.Sub, Compare, Of, Check: they compute with integers; nothing that was there is changed. -/
import Derived.Lib.Strings
import Derived.Test.YtjpalbonclgflaaInt
namespace Go.Proofs.Ytjpalbonclgflaa
open Go.RowKit

theorem imag_list (z : Int) : (imag z).data.toList = bb z.natAbs := by simp [imag]
theorem imag_size (z : Int) : (imag z).size = (bb z.natAbs).length := by simp [imag, ByteArray.size]
theorem ival_canon (z : Int) : ival (ineg z) (imag z) = z := by
 rw [ival, imag_list, bval_bb, ineg]
 by_cases h : z < 0
 ·
  rw [decide_eq_true h]; simp [sgn]; omega
 ·
  rw [decide_eq_false h]; simp [sgn]; omega
theorem sgn_natAbs (n : Bool) (x : Nat) : (sgn n x).natAbs = x := sgn_abs n x
theorem imag_size_ival (n : Bool) (s : ByteArray) : (imag (ival n s)).size ≤ s.size := by
 rw [imag_size, ival, sgn_natAbs]
 have h := bval_lt s.data.toList
 rw [bytes_size] at h
 exact bb_length_le h
theorem imag_neg (z : Int) : imag (-z) = imag z := by rw [imag, imag, Int.natAbs_neg]
def cmpZ (a b : Int) : Int := if a < b then -1 else if a = b then 0 else 1

set_option maxRecDepth 100000 in
set_option maxHeartbeats 1600000 in
theorem isub_any (na nb : Bool) (sa sb : ByteArray) (w : World) (hs : sa.size ≤ 1099511627775) (ht : sb.size ≤ 1099511627775) :
  Calls Try.prog 47 #[.agg #[.bool na, .string sa], .agg #[.bool nb, .string sb]] w (Ret w (IntV (ival na sa - ival nb sb))) := by
 have ht' : sb.size ≤ 1099511627776 := by omega
 have hm : (imag (-ival nb sb)).size ≤ 1099511627775 := by rw [imag_neg]; exact Nat.le_trans (imag_size_ival nb sb) ht
 have hw2 : ¬ (w.heap.size + 1 + 1 = w.heap.size) := by omega
 have hB0 := (((Blk.new w 33 [.bool na, .string sa]).alloc (.cells #[.bool nb, .string sb] 33)).alloc (.cells #[.bool false, .string ⟨#[]⟩] 33))
 have HB0 := zh hB0; clear hB0
 have hB1 := ((Blk.new (w.alloc (.cells #[.bool na, .string sa] 33)) 33 [.bool nb, .string sb]).alloc (.cells #[.bool false, .string ⟨#[]⟩] 33))
 simp only [World.size_alloc, Nat.add_assoc, Nat.reduceAdd] at hB1
 have HB1 := zh hB1; clear hB1
 have hB2 := (Blk.new ((w.alloc (.cells #[.bool na, .string sa] 33)).alloc (.cells #[.bool nb, .string sb] 33)) 33 [.bool false, .string ⟨#[]⟩])
 simp only [World.size_alloc, Nat.add_assoc, Nat.reduceAdd] at hB2
 have HB2 := zh hB2; clear hB2
 go_enter Try.func47, Try.ntmps47
 go_wp2_with fail
 go_region_held3 (fun w' => w'.cell? ⟨w.heap.size, 0, none⟩ = some (.bool na) ∧ w'.cell? ⟨w.heap.size, 1, none⟩ = some (.string sa) ∧ w'.cell? ⟨w.heap.size + 1, 0, none⟩ = some (.bool nb) ∧ w'.cell? ⟨w.heap.size + 1, 1, none⟩ = some (.string sb)) (go_keep) (first | (go_at_call 56; refine (neg_any nb sb _ ht').mono ?_; rintro e w1 ⟨hq1, rfl⟩; have hbA0 := HB0.out.drew.below hq1 (by simp <;> omega); have cA0 := hbA0.c 0 rfl; have dA0 := hbA0.c 1 rfl; have HBA0 := zh hbA0; clear hbA0; have hbA1 := HB1.out.drew.below hq1 (by simp <;> omega); have cA1 := hbA1.c 0 rfl; have dA1 := hbA1.c 1 rfl; have HBA1 := zh hbA1; clear hbA1; have hbA2 := HB2.out.drew.below hq1 (by simp <;> omega); have cA2 := hbA2.c 0 rfl; have dA2 := hbA2.c 1 rfl; have HBA2 := zh hbA2; clear hbA2; have HQ1 := zh hq1; clear hq1) | (go_at_call 20; refine (iadd_any na _ sa _ _ hs hm).mono ?_; rintro e w2 ⟨hq2, rfl⟩; have hbB0 := HBA0.out.below hq2 (by have := HBA0.out.lt; omega); have cB0 := hbB0.c 0 rfl; have dB0 := hbB0.c 1 rfl; have HBB0 := zh hbB0; clear hbB0; have hbB1 := HBA1.out.below hq2 (by have := HBA1.out.lt; omega); have cB1 := hbB1.c 0 rfl; have dB1 := hbB1.c 1 rfl; have HBB1 := zh hbB1; clear hbB1; have hbB2 := HBA2.out.below hq2 (by have := HBA2.out.lt; omega); have cB2 := hbB2.c 0 rfl; have dB2 := hbB2.c 1 rfl; have fB2 := hbB2.frozen 0; have gB2 := hbB2.frozen 1; have HBB2 := zh hbB2; clear hbB2; have HQ2 := zh hq2; clear hq2))
 go_wp2
 refine bodyPost_ret (v := IntV (ival na sa + ival (ineg (-ival nb sb)) (imag (-ival nb sb)))) (by simp [results, Try.results47, go_sem, cB2, dB2]) rfl ⟨?_, ?_⟩
 ·
  have s0 := ((((Below.refl w.heap.size w).alloc (Nat.le_refl _) (.cells #[.bool na, .string sa] 33)).alloc (by simp) (.cells #[.bool nb, .string sb] 33)).alloc (by simp <;> omega) (.cells #[.bool false, .string ⟨#[]⟩] 33)).drew
  have s1 := s0.trans (HQ1.out.mono s0.size)
  have s2 := s1.trans (HQ2.out.mono s1.size)
  exact (s2.setCell (p := ⟨w.heap.size + 2, 0, none⟩) (Nat.le_add_right _ _) _).setCell (p := ⟨w.heap.size + 2, 1, none⟩) (Nat.le_add_right _ _) _
 ·
  rw [ival_canon]; rfl

theorem imag_empty {z : Int} : (imag z).data.toList = [] ↔ z = 0 := by
 rw [imag_list]
 constructor
 ·
  intro h; have := bb_nil h; omega
 ·
  intro h; subst h; simp [bb_zero]

set_option maxRecDepth 100000 in
set_option maxHeartbeats 1600000 in
theorem icompare_any (na nb : Bool) (sa sb : ByteArray) (w : World) (hs : sa.size ≤ 1099511627775) (ht : sb.size ≤ 1099511627775) :
  Calls Try.prog 25 #[.agg #[.bool na, .string sa], .agg #[.bool nb, .string sb]] w (Ret w (.int .i64 (cmpZ (ival na sa) (ival nb sb)))) := by
 obtain ⟨z, hz⟩ : ∃ z, z = ival na sa - ival nb sb := ⟨_, rfl⟩
 have hc : cmpZ (ival na sa) (ival nb sb) = if z < 0 then -1 else if z = 0 then 0 else 1 := by
  unfold cmpZ
  by_cases h1 : z < 0
  ·
   rw [if_pos h1, if_pos (by omega)]
  ·
   rw [if_neg h1, if_neg (by omega)]
   by_cases h2 : z = 0
   ·
    rw [if_pos h2, if_pos (by omega)]
   ·
    rw [if_neg h2, if_neg (by omega)]
 have hsub := isub_any na nb sa sb
 rw [← hz] at hsub
 have HC := zh hc; clear hc
 have HS := zh hsub; clear hsub hz
 have s0 := (((Below.refl w.heap.size w).alloc (Nat.le_refl _) (.cells #[.bool na, .string sa] 33)).alloc (by simp) (.cells #[.bool nb, .string sb] 33))
 have S0 := zh s0; clear s0
 by_cases h1 : z < 0
 ·
  have hn : ineg z = true := by simp [ineg, h1]
  have HR := zh h1; clear h1
  go_enter Try.func25, Try.ntmps25
  go_wp2_with (go_at_call 47; refine (HS.out _ hs ht).mono ?_; rintro e w1 ⟨hq1, rfl⟩; have HQ1 := zh hq1; clear hq1)
  go_ret
  refine ⟨?_, ?_⟩
  ·
   exact (S0.out.trans (HQ1.out.mono S0.out.size)).alloc (S0.out.trans (HQ1.out.mono S0.out.size)).size _
  ·
   rw [HC.out, if_pos HR.out]; rfl
 ·
  have hn : ineg z = false := by simp [ineg]; omega
  by_cases h2 : z = 0
  ·
   have hm : (imag z).data.toList = [] := imag_empty.2 h2
   have hm2 : (imag z).toList = [] := by rw [Lib.toList_data]; exact hm
   have HR := zh h1; clear h1
   have HR2 := zh h2; clear h2 hm
   go_enter Try.func25, Try.ntmps25
   go_wp2_with (go_at_call 47; refine (HS.out _ hs ht).mono ?_; rintro e w1 ⟨hq1, rfl⟩; have HQ1 := zh hq1; clear hq1)
   go_ret
   refine ⟨?_, ?_⟩
   ·
    exact (S0.out.trans (HQ1.out.mono S0.out.size)).alloc (S0.out.trans (HQ1.out.mono S0.out.size)).size _
   ·
    rw [HC.out, if_neg (by have := HR.out; omega), if_pos HR2.out]; rfl
  ·
   have hm2 : (imag z).toList.isEmpty = false := by
    rw [Lib.toList_data, List.isEmpty_eq_false_iff]
    exact fun e => h2 (imag_empty.1 e)
   have HR := zh h1; clear h1
   have HR2 := zh h2; clear h2
   go_enter Try.func25, Try.ntmps25
   go_wp2_with (go_at_call 47; refine (HS.out _ hs ht).mono ?_; rintro e w1 ⟨hq1, rfl⟩; have HQ1 := zh hq1; clear hq1)
   go_ret
   refine ⟨?_, ?_⟩
   ·
    exact (S0.out.trans (HQ1.out.mono S0.out.size)).alloc (S0.out.trans (HQ1.out.mono S0.out.size)).size _
   ·
    rw [HC.out, if_neg (by have := HR.out; omega), if_neg HR2.out]; rfl

theorem row_two (w : World) (m : Nat) (o : Obj) : Row ((w.alloc o).alloc (.cells #[.int .u32 ((m : Int) % 4294967296), .int .u32 ((m : Int) / 4294967296)] 75)) (.slice (some ⟨w.heap.size + 1, 0, none⟩) 2 2) [m % 4294967296, m / 4294967296].length (cs32 [m % 4294967296, m / 4294967296]) := by
 have h := Blk.new (w.alloc o) 75 [.int .u32 ((m : Int) % 4294967296), .int .u32 ((m : Int) / 4294967296)]
 rw [World.size_alloc] at h
 have h2 := Row.ofBlk h (m := 2) (cap := 2) (Nat.le_refl _) (by decide) 2
 have e : cs32 [m % 4294967296, m / 4294967296] = [.int .u32 ((m : Int) % 4294967296), .int .u32 ((m : Int) / 4294967296)] := by
  simp [cs32]
 rw [e]
 exact h2
theorem val_two (m : Nat) (h : m < 18446744073709551616) : val [m % 4294967296, m / 4294967296] = m := by simp [val]; omega
theorem lt_two (m : Nat) (h : m ≤ 9223372036854775808) : ∀ d ∈ [m % 4294967296, m / 4294967296], d < 4294967296 := by
 intro d hd
 simp at hd
 omega
theorem wrap_neg (m : Nat) (h : m ≤ 9223372036854775808) (h0 : 0 < m) : IntKind.u64.wrap (-IntKind.u64.wrap (-(m : Int))) = (m : Int) := by
 simp [IntKind.wrap, IntKind.bits, IntKind.signed]; omega
set_option maxRecDepth 100000 in
set_option maxHeartbeats 1600000 in
theorem iof_any (n : Int) (w : World) (h1 : -9223372036854775808 ≤ n) (h2 : n ≤ 9223372036854775807) :
  Calls Try.prog 16 #[.int .i64 n] w (Ret w (IntV n)) := by
 have hr := Blk.new w 33 [.bool false, .string ⟨#[]⟩]
 have HR := zh hr; clear hr
 have s0 := ((Below.refl w.heap.size w).alloc (Nat.le_refl _) (.cells #[.bool false, .string ⟨#[]⟩] 33))
 have S0 := zh s0; clear s0
 by_cases h0 : n < 0
 ·
  obtain ⟨m, rfl⟩ : ∃ m : Nat, n = -(m : Int) := ⟨n.natAbs, by omega⟩
  have hw := wrap_neg m (by omega) (by omega)
  have hval := val_two m (by omega)
  have hrow := row_two w m (.cells #[.bool false, .string ⟨#[]⟩] 33)
  have HROW := zh hrow; clear hrow
  have HV := zh hval; clear hval
  go_enter Try.func16, Try.ntmps16
  go_wp2_with (go_at_call 35; refine (number_any _ _ _ _ HROW.out (lt_two m (by omega)) (by simp)).mono ?_; rintro e w1 ⟨hq1, rfl⟩; have r1 := (HR.out.alloc _).below hq1 (by simp <;> omega); have c0 := r1.c 0 rfl; have c1 := r1.c 1 rfl; have f0 := r1.frozen 0; have f1 := r1.frozen 1; clear r1; have HQ1 := zh hq1; clear hq1)
  refine bodyPost_ret (v := IntV (sgn true (val [m % 4294967296, m / 4294967296]))) (by simp [results, Try.results16, go_sem, c0, c1]) rfl ⟨?_, ?_⟩
  ·
   have s1 := (S0.out.alloc S0.out.size _).trans (HQ1.out.mono (S0.out.alloc S0.out.size _).size)
   exact (s1.setCell (p := ⟨w.heap.size, 0, none⟩) (Nat.le_refl _) _).setCell (p := ⟨w.heap.size, 1, none⟩) (Nat.le_refl _) _
  ·
   rw [HV.out]; rfl
 ·
  obtain ⟨m, rfl⟩ : ∃ m : Nat, n = (m : Int) := ⟨n.natAbs, by omega⟩
  have hval := val_two m (by omega)
  have hrow := row_two w m (.cells #[.bool false, .string ⟨#[]⟩] 33)
  have HROW := zh hrow; clear hrow
  have HV := zh hval; clear hval
  go_enter Try.func16, Try.ntmps16
  go_wp2_with (go_at_call 35; refine (number_any _ _ _ _ HROW.out (lt_two m (by omega)) (by simp)).mono ?_; rintro e w1 ⟨hq1, rfl⟩; have r1 := (HR.out.alloc _).below hq1 (by simp <;> omega); have c0 := r1.c 0 rfl; have c1 := r1.c 1 rfl; have f0 := r1.frozen 0; have f1 := r1.frozen 1; clear r1; have HQ1 := zh hq1; clear hq1)
  refine bodyPost_ret (v := IntV (sgn false (val [m % 4294967296, m / 4294967296]))) (by simp [results, Try.results16, go_sem, c0, c1]) rfl ⟨?_, ?_⟩
  ·
   have s1 := (S0.out.alloc S0.out.size _).trans (HQ1.out.mono (S0.out.alloc S0.out.size _).size)
   exact (s1.setCell (p := ⟨w.heap.size, 0, none⟩) (Nat.le_refl _) _).setCell (p := ⟨w.heap.size, 1, none⟩) (Nat.le_refl _) _
  ·
   rw [HV.out]; rfl
end Go.Proofs.Ytjpalbonclgflaa
