/- Contracts and plain laws of several functions, one after the other: IntB, RefA. -/
import Derived.Lib.Strings
import Derived.Lib.IndexBytes
import Derived.Test.YtjpalbonclgflaaGreatInt
import Derived.Test.YtjpalbonclgflaaGreatPart7
import Derived.Test.YtjpalbonclgflaaGreatPart2
/- The contracts of integer.Sub, Compare, Of, Check: they compute with integers; nothing that was there is changed. -/
namespace Go.Proofs.YtjpalbonclgflaaGreat
open Go.RowKit

theorem imag_list (z : Int) : (imag z).data.toList = bb z.natAbs := by simp [imag]
theorem imag_size (z : Int) : (imag z).size = (bb z.natAbs).length := by simp [imag, ByteArray.size]
theorem ival_canon (z : Int) : ival (ineg z) (imag z) = z := by
  rw [ival, imag_list, bval_bb, ineg]
  by_cases h : z < 0
  · rw [decide_eq_true h]; simp [sgn]; omega
  · rw [decide_eq_false h]; simp [sgn]; omega
theorem sgn_natAbs (n : Bool) (x : Nat) : (sgn n x).natAbs = x := sgn_abs n x
theorem imag_size_ival (n : Bool) (s : ByteArray) : (imag (ival n s)).size ≤ s.size := by
  rw [imag_size, ival, sgn_natAbs]
  have h := bval_lt s.data.toList
  rw [bytes_size] at h
  exact bb_length_le h
theorem imag_neg (z : Int) : imag (-z) = imag z := by rw [imag, imag, Int.natAbs_neg]
def cmpZ (a b : Int) : Int := if a < b then -1 else if a = b then 0 else 1

set_option maxRecDepth 100000 in
set_option maxHeartbeats 1600000 in
theorem isub_any (na nb : Bool) (sa sb : ByteArray) (w : World) (hs : sa.size ≤ 1099511627775) (ht : sb.size ≤ 1099511627775) :
    Calls Tryz.prog 94 #[.agg #[.bool na, .string sa], .agg #[.bool nb, .string sb]] w (Ret w (IntV (ival na sa - ival nb sb))) := by
  have ht' : sb.size ≤ 1099511627776 := by omega
  have hm : (imag (-ival nb sb)).size ≤ 1099511627775 := by rw [imag_neg]; exact Nat.le_trans (imag_size_ival nb sb) ht
  have hw2 : ¬ (w.heap.size + 1 + 1 = w.heap.size) := by omega
  have hB0 := (((Blk.new w 25 [.bool na, .string sa]).alloc (.cells #[.bool nb, .string sb] 25)).alloc (.cells #[.bool false, .string ⟨#[]⟩] 25))
  have HB0 := zh hB0; clear hB0
  have hB1 := ((Blk.new (w.alloc (.cells #[.bool na, .string sa] 25)) 25 [.bool nb, .string sb]).alloc (.cells #[.bool false, .string ⟨#[]⟩] 25))
  simp only [World.size_alloc, Nat.add_assoc, Nat.reduceAdd] at hB1
  have HB1 := zh hB1; clear hB1
  have hB2 := (Blk.new ((w.alloc (.cells #[.bool na, .string sa] 25)).alloc (.cells #[.bool nb, .string sb] 25)) 25 [.bool false, .string ⟨#[]⟩])
  simp only [World.size_alloc, Nat.add_assoc, Nat.reduceAdd] at hB2
  have HB2 := zh hB2; clear hB2
  go_enter Tryz.func94, Tryz.ntmps94
  go_wp2_with fail
  go_region_held3 (fun w' => w'.cell? ⟨w.heap.size, 0, none⟩ = some (.bool na) ∧ w'.cell? ⟨w.heap.size, 1, none⟩ = some (.string sa) ∧ w'.cell? ⟨w.heap.size + 1, 0, none⟩ = some (.bool nb) ∧ w'.cell? ⟨w.heap.size + 1, 1, none⟩ = some (.string sb)) (go_keep) (first | (go_at_call 82; refine (neg_any nb sb _ ht').mono ?_; rintro e w1 ⟨hq1, rfl⟩; have hbA0 := HB0.out.drew.below hq1 (by simp <;> omega); have cA0 := hbA0.c 0 rfl; have dA0 := hbA0.c 1 rfl; have HBA0 := zh hbA0; clear hbA0; have hbA1 := HB1.out.drew.below hq1 (by simp <;> omega); have cA1 := hbA1.c 0 rfl; have dA1 := hbA1.c 1 rfl; have HBA1 := zh hbA1; clear hbA1; have hbA2 := HB2.out.drew.below hq1 (by simp <;> omega); have cA2 := hbA2.c 0 rfl; have dA2 := hbA2.c 1 rfl; have HBA2 := zh hbA2; clear hbA2; have HQ1 := zh hq1; clear hq1) | (go_at_call 85; refine (iadd_any na _ sa _ _ hs hm).mono ?_; rintro e w2 ⟨hq2, rfl⟩; have hbB0 := HBA0.out.below hq2 (by have := HBA0.out.lt; omega); have cB0 := hbB0.c 0 rfl; have dB0 := hbB0.c 1 rfl; have HBB0 := zh hbB0; clear hbB0; have hbB1 := HBA1.out.below hq2 (by have := HBA1.out.lt; omega); have cB1 := hbB1.c 0 rfl; have dB1 := hbB1.c 1 rfl; have HBB1 := zh hbB1; clear hbB1; have hbB2 := HBA2.out.below hq2 (by have := HBA2.out.lt; omega); have cB2 := hbB2.c 0 rfl; have dB2 := hbB2.c 1 rfl; have fB2 := hbB2.frozen 0; have gB2 := hbB2.frozen 1; have HBB2 := zh hbB2; clear hbB2; have HQ2 := zh hq2; clear hq2))
  go_wp2
  refine bodyPost_ret (v := IntV (ival na sa + ival (ineg (-ival nb sb)) (imag (-ival nb sb)))) (by simp [results, Tryz.results94, go_sem, cB2, dB2]) rfl ⟨?_, ?_⟩
  · have s0 := ((((Below.refl w.heap.size w).alloc (Nat.le_refl _) (.cells #[.bool na, .string sa] 25)).alloc (by simp) (.cells #[.bool nb, .string sb] 25)).alloc (by simp <;> omega) (.cells #[.bool false, .string ⟨#[]⟩] 25)).drew
    have s1 := s0.trans (HQ1.out.mono s0.size)
    have s2 := s1.trans (HQ2.out.mono s1.size)
    exact (s2.setCell (p := ⟨w.heap.size + 2, 0, none⟩) (Nat.le_add_right _ _) _).setCell (p := ⟨w.heap.size + 2, 1, none⟩) (Nat.le_add_right _ _) _
  · rw [ival_canon]; rfl

theorem imag_empty {z : Int} : (imag z).data.toList = [] ↔ z = 0 := by
  rw [imag_list]
  constructor
  · intro h; have := bb_nil h; omega
  · intro h; subst h; simp [bb_zero]

set_option maxRecDepth 100000 in
set_option maxHeartbeats 1600000 in
theorem icompare_any (na nb : Bool) (sa sb : ByteArray) (w : World) (hs : sa.size ≤ 1099511627775) (ht : sb.size ≤ 1099511627775) :
    Calls Tryz.prog 47 #[.agg #[.bool na, .string sa], .agg #[.bool nb, .string sb]] w (Ret w (.int .i64 (cmpZ (ival na sa) (ival nb sb)))) := by
  obtain ⟨z, hz⟩ : ∃ z, z = ival na sa - ival nb sb := ⟨_, rfl⟩
  have hc : cmpZ (ival na sa) (ival nb sb) = if z < 0 then -1 else if z = 0 then 0 else 1 := by
    unfold cmpZ
    by_cases h1 : z < 0
    · rw [if_pos h1, if_pos (by omega)]
    · rw [if_neg h1, if_neg (by omega)]
      by_cases h2 : z = 0
      · rw [if_pos h2, if_pos (by omega)]
      · rw [if_neg h2, if_neg (by omega)]
  have hsub := isub_any na nb sa sb
  rw [← hz] at hsub
  have HC := zh hc; clear hc
  have HS := zh hsub; clear hsub hz
  have s0 := (((Below.refl w.heap.size w).alloc (Nat.le_refl _) (.cells #[.bool na, .string sa] 25)).alloc (by simp) (.cells #[.bool nb, .string sb] 25))
  have S0 := zh s0; clear s0
  by_cases h1 : z < 0
  · have hn : ineg z = true := by simp [ineg, h1]
    have HR := zh h1; clear h1
    go_enter Tryz.func47, Tryz.ntmps47
    go_wp2_with (go_at_call 94; refine (HS.out _ hs ht).mono ?_; rintro e w1 ⟨hq1, rfl⟩; have HQ1 := zh hq1; clear hq1)
    go_ret
    refine ⟨?_, ?_⟩
    · exact (S0.out.trans (HQ1.out.mono S0.out.size)).alloc (S0.out.trans (HQ1.out.mono S0.out.size)).size _
    · rw [HC.out, if_pos HR.out]; rfl
  · have hn : ineg z = false := by simp [ineg]; omega
    by_cases h2 : z = 0
    · have hm : (imag z).data.toList = [] := imag_empty.2 h2
      have hm2 : (imag z).toList = [] := by rw [Lib.toList_data]; exact hm
      have HR := zh h1; clear h1
      have HR2 := zh h2; clear h2 hm
      go_enter Tryz.func47, Tryz.ntmps47
      go_wp2_with (go_at_call 94; refine (HS.out _ hs ht).mono ?_; rintro e w1 ⟨hq1, rfl⟩; have HQ1 := zh hq1; clear hq1)
      go_ret
      refine ⟨?_, ?_⟩
      · exact (S0.out.trans (HQ1.out.mono S0.out.size)).alloc (S0.out.trans (HQ1.out.mono S0.out.size)).size _
      · rw [HC.out, if_neg (by have := HR.out; omega), if_pos HR2.out]; rfl
    · have hm2 : (imag z).toList.isEmpty = false := by
        rw [Lib.toList_data, List.isEmpty_eq_false_iff]
        exact fun e => h2 (imag_empty.1 e)
      have HR := zh h1; clear h1
      have HR2 := zh h2; clear h2
      go_enter Tryz.func47, Tryz.ntmps47
      go_wp2_with (go_at_call 94; refine (HS.out _ hs ht).mono ?_; rintro e w1 ⟨hq1, rfl⟩; have HQ1 := zh hq1; clear hq1)
      go_ret
      refine ⟨?_, ?_⟩
      · exact (S0.out.trans (HQ1.out.mono S0.out.size)).alloc (S0.out.trans (HQ1.out.mono S0.out.size)).size _
      · rw [HC.out, if_neg (by have := HR.out; omega), if_neg HR2.out]; rfl

theorem row_two (w : World) (m : Nat) (o : Obj) : Row ((w.alloc o).alloc (.cells #[.int .u32 ((m : Int) % 4294967296), .int .u32 ((m : Int) / 4294967296)] 105)) (.slice (some ⟨w.heap.size + 1, 0, none⟩) 2 2) [m % 4294967296, m / 4294967296].length (cs32 [m % 4294967296, m / 4294967296]) := by
  have h := Blk.new (w.alloc o) 105 [.int .u32 ((m : Int) % 4294967296), .int .u32 ((m : Int) / 4294967296)]
  rw [World.size_alloc] at h
  have h2 := Row.ofBlk h (m := 2) (cap := 2) (Nat.le_refl _) (by decide) 2
  have e : cs32 [m % 4294967296, m / 4294967296] = [.int .u32 ((m : Int) % 4294967296), .int .u32 ((m : Int) / 4294967296)] := by
    simp [cs32]
  rw [e]
  exact h2
theorem val_two (m : Nat) (h : m < 18446744073709551616) : val [m % 4294967296, m / 4294967296] = m := by simp [val]; omega
theorem lt_two (m : Nat) (h : m ≤ 9223372036854775808) : ∀ d ∈ [m % 4294967296, m / 4294967296], d < 4294967296 := by
  intro d hd
  simp at hd
  omega
theorem wrap_neg (m : Nat) (h : m ≤ 9223372036854775808) (h0 : 0 < m) : IntKind.u64.wrap (-IntKind.u64.wrap (-(m : Int))) = (m : Int) := by
  simp [IntKind.wrap, IntKind.bits, IntKind.signed]; omega
set_option maxRecDepth 100000 in
set_option maxHeartbeats 1600000 in
theorem iof_any (n : Int) (w : World) (h1 : -9223372036854775808 ≤ n) (h2 : n ≤ 9223372036854775807) :
    Calls Tryz.prog 44 #[.int .i64 n] w (Ret w (IntV n)) := by
  have hr := Blk.new w 25 [.bool false, .string ⟨#[]⟩]
  have HR := zh hr; clear hr
  have s0 := ((Below.refl w.heap.size w).alloc (Nat.le_refl _) (.cells #[.bool false, .string ⟨#[]⟩] 25))
  have S0 := zh s0; clear s0
  by_cases h0 : n < 0
  · obtain ⟨m, rfl⟩ : ∃ m : Nat, n = -(m : Int) := ⟨n.natAbs, by omega⟩
    have hw := wrap_neg m (by omega) (by omega)
    have hval := val_two m (by omega)
    have hrow := row_two w m (.cells #[.bool false, .string ⟨#[]⟩] 25)
    have HROW := zh hrow; clear hrow
    have HV := zh hval; clear hval
    go_enter Tryz.func44, Tryz.ntmps44
    go_wp2_with (go_at_call 90; refine (number_any _ _ _ _ HROW.out (lt_two m (by omega)) (by simp)).mono ?_; rintro e w1 ⟨hq1, rfl⟩; have r1 := (HR.out.alloc _).below hq1 (by simp <;> omega); have c0 := r1.c 0 rfl; have c1 := r1.c 1 rfl; have f0 := r1.frozen 0; have f1 := r1.frozen 1; clear r1; have HQ1 := zh hq1; clear hq1)
    refine bodyPost_ret (v := IntV (sgn true (val [m % 4294967296, m / 4294967296]))) (by simp [results, Tryz.results44, go_sem, c0, c1]) rfl ⟨?_, ?_⟩
    · have s1 := (S0.out.alloc S0.out.size _).trans (HQ1.out.mono (S0.out.alloc S0.out.size _).size)
      exact (s1.setCell (p := ⟨w.heap.size, 0, none⟩) (Nat.le_refl _) _).setCell (p := ⟨w.heap.size, 1, none⟩) (Nat.le_refl _) _
    · rw [HV.out]; rfl
  · obtain ⟨m, rfl⟩ : ∃ m : Nat, n = (m : Int) := ⟨n.natAbs, by omega⟩
    have hval := val_two m (by omega)
    have hrow := row_two w m (.cells #[.bool false, .string ⟨#[]⟩] 25)
    have HROW := zh hrow; clear hrow
    have HV := zh hval; clear hval
    go_enter Tryz.func44, Tryz.ntmps44
    go_wp2_with (go_at_call 90; refine (number_any _ _ _ _ HROW.out (lt_two m (by omega)) (by simp)).mono ?_; rintro e w1 ⟨hq1, rfl⟩; have r1 := (HR.out.alloc _).below hq1 (by simp <;> omega); have c0 := r1.c 0 rfl; have c1 := r1.c 1 rfl; have f0 := r1.frozen 0; have f1 := r1.frozen 1; clear r1; have HQ1 := zh hq1; clear hq1)
    refine bodyPost_ret (v := IntV (sgn false (val [m % 4294967296, m / 4294967296]))) (by simp [results, Tryz.results44, go_sem, c0, c1]) rfl ⟨?_, ?_⟩
    · have s1 := (S0.out.alloc S0.out.size _).trans (HQ1.out.mono (S0.out.alloc S0.out.size _).size)
      exact (s1.setCell (p := ⟨w.heap.size, 0, none⟩) (Nat.le_refl _) _).setCell (p := ⟨w.heap.size, 1, none⟩) (Nat.le_refl _) _
    · rw [HV.out]; rfl
end Go.Proofs.YtjpalbonclgflaaGreat

/- The contracts of the reference's trim, small, mag, value, Of, Canonical, compareMag (grooveref01). -/
namespace Go.Proofs.YtjpalbonclgflaaGreat
open Go.RowKit

def bstr (x : Nat) : ByteArray := ⟨(bb x).toArray⟩
theorem bstr_list (x : Nat) : (bstr x).data.toList = bb x := by simp [bstr]
theorem extract_one (t : ByteArray) : (t.extract 1 t.size).data.toList = t.data.toList.drop 1 := Lib.extract_to_end t 1

theorem rtrim_any (s : ByteArray) (w : World) (hs : s.size ≤ 1099511627776) :
    Calls Tryz.prog 164 #[.string s] w fun e w' => e = .returned (.string (bstr (bval s.data.toList))) ∧ w = w' := by
  go_enter Tryz.func164, Tryz.ntmps164
  go_wp2
  go_loop [0] (fun x => ∃ t : ByteArray, x = .string t ∧ t.size ≤ s.size ∧ bval t.data.toList = bval s.data.toList) (fun x => match x with | .string t => t.size | _ => 0)
  case atStart => exact ⟨s, rfl, Nat.le_refl _, rfl⟩
  case round =>
    obtain ⟨t, rfl, hle, he⟩ := hrel
    have HE := zh he; clear he
    by_cases h0 : 0 < t.size
    · have hd := drop_at t 0 h0
      rw [List.drop_zero] at hd
      by_cases hz : t[0] = 0
      · rw [hz] at hd
        have hz2 : ((t[0].toNat : Int) == 0) = true := by rw [hz]; rfl
        have HD := zh hd; clear hd
        have HZ := zh hz; clear hz
        go_wp2
        go_round
        case rel =>
          refine ⟨_, rfl, ?_, ?_⟩
          · have h1 := congrArg List.length (extract_one t)
            simp only [bytes_size, List.length_drop] at h1
            omega
          · rw [extract_one, ← HE.out, HD.out, bval_zero]; rfl
        case measure =>
          have h1 := congrArg List.length (extract_one t)
          simp only [bytes_size, List.length_drop] at h1
          simp only []
          omega
      · have hz2 : ((t[0].toNat : Int) == 0) = false := by
          rw [beq_eq_false_iff_ne]; intro e
          apply hz
          have : t[0].toNat = 0 := by omega
          rw [← UInt8.toNat_inj, this]; rfl
        have hb : bb (bval t.data.toList) = t.data.toList := bb_bval (by
          intro c l e
          rw [hd, List.cons.injEq] at e
          rw [← e.1]; exact hz)
        have HB := zh hb; clear hb hd
        have HZ := zh hz; clear hz
        go_wp2
        go_ret
        refine ⟨?_, rfl⟩
        rw [← HE.out]
        show Ending.returned (.string t) = _
        rw [show t = bstr (bval t.data.toList) from str_ext (by rw [bstr_list, HB.out])]
        rw [bstr_list, bval_bb]
    · have hn : t.data.toList = [] := List.length_eq_zero_iff.1 (by rw [bytes_size]; omega)
      have HN := zh hn; clear hn
      go_wp2
      go_ret
      refine ⟨?_, rfl⟩
      rw [← HE.out, HN.out]
      show Ending.returned (.string t) = _
      rw [show t = bstr (bval []) from str_ext (by rw [bstr_list, HN.out, bval, bb_zero])]

theorem ofInt_i64 (a : Nat) (ha : a < 9223372036854775808) : (BitVec.ofInt 64 (a : Int)).toNat = a := by
  simp [BitVec.toNat_ofInt]; omega
theorem i64_or_nat (a b : Nat) (ha : a < 9223372036854775808) (hb : b < 9223372036854775808) : bits .or .i64 (a : Int) (b : Int) = ((a ||| b : Nat) : Int) := by
  have h : a ||| b < 2 ^ 63 := Nat.or_lt_two_pow ha hb
  show IntKind.i64.wrap ((BitVec.ofInt 64 (a : Int) ||| BitVec.ofInt 64 (b : Int)).toNat : Int) = _
  rw [BitVec.toNat_or, ofInt_i64 a ha, ofInt_i64 b hb, IntKind.wrap_i64]; omega
theorem or_i64 (n c : Nat) (hn : n < 281474976710656) (hc : c < 256) : bits BinOp.or IntKind.i64 ((n : Int) * 256) (c : Int) = ((256 * n + c : Nat) : Int) := by
  have h := i64_or_nat (n * 256) c (by omega) (by omega)
  rw [Int.natCast_mul] at h
  refine h.trans ?_
  have h2 := Nat.shiftLeft_add_eq_or_of_lt (b := c) (i := 8) hc n
  rw [Nat.shiftLeft_eq] at h2
  rw [show (2 : Nat) ^ 8 = 256 by decide] at h2
  rw [← h2, Nat.mul_comm]

theorem small_any (s : ByteArray) (w : World) (hs : s.size ≤ 7) :
    Calls Tryz.prog 170 #[.string s] w fun e w' => e = .returned (.int .i64 (bval s.data.toList : Nat)) ∧ w = w' := by
  go_enter Tryz.func170, Tryz.ntmps170
  go_wp2
  go_loop [3, 4] (fun n i => ∃ k : Nat, k ≤ s.size ∧ i = .int .i64 k ∧ n = .int .i64 (bval (s.data.toList.take k) : Nat)) (fun _ i => s.size - (intOf i).toNat)
  case atStart => exact ⟨0, Nat.zero_le _, rfl, rfl⟩
  case round =>
    obtain ⟨k, hk, rfl, rfl⟩ := hrel
    by_cases hlt : k < s.size
    · have hb : bval (s.data.toList.take k) < 281474976710656 := by
        have h1 := bval_lt (s.data.toList.take k)
        have h2 : 256 ^ (s.data.toList.take k).length ≤ 256 ^ 6 := Nat.pow_le_pow_right (by decide) (by simp; omega)
        have h3 : 256 ^ 6 = 281474976710656 := by decide
        omega
      have hstep : bval (s.data.toList.take (k + 1)) = 256 * bval (s.data.toList.take k) + s[k].toNat := by
        rw [List.take_succ_eq_append_getElem (by simpa using hlt), bval_snoc]; rfl
      obtain ⟨x, hx⟩ : ∃ x, x = bval (s.data.toList.take k) := ⟨_, rfl⟩
      rw [← hx] at hb hstep ⊢
      have hor := or_i64 x s[k].toNat hb (UInt8.toNat_lt _)
      have hc256 : s[k].toNat < 256 := UInt8.toNat_lt _
      have HO := zh hor; clear hor
      have HS := zh hstep; clear hstep hx
      go_wp2
      go_round
      case rel =>
        refine ⟨k + 1, by omega, by go_num, ?_⟩
        rw [HO.out, HS.out]
      case measure => simp [intOf]; omega
    · have hks : s.data.toList.take k = s.data.toList := List.take_of_length_le (by simp; omega)
      have HK := zh hks; clear hks
      go_wp2
      go_ret
      exact ⟨ret_int (by rw [HK.out]), rfl⟩


theorem arr8_len : Tryz.prog.arrayLen 159 = 8 := by kernel_rfl
theorem arr8_under : Tryz.prog.underlying 159 = some (.array (Tryz.prog.arrayLen 159) (Tryz.prog.elem 159)) := by kernel_rfl
theorem arr8_size (w : World) : (sizeOf (Tryz.prog.elem 159)).run Tryz.prog w = .ok 1 w := by kernel_rfl
theorem arr8_slice (b q : Nat) (hq : q < 8) (w : World) : (Instr.sliceAt 159 (.pointer (some ⟨b, 0, none⟩)) (some (.int .i64 (q : Int))) none none).run Tryz.prog w = .ok (.slice (some ⟨b, q, none⟩) (8 - q) (8 - q)) w := by
  rw [run_sliceAt_array_l w 159 ⟨b, 0, none⟩ arr8_under .i64 (q : Int) (by omega) (by rw [arr8_len]; omega), arr8_size, arr8_len]
  have h : ¬ 8 = q := by omega
  have h2 : (⟨b, 0, none⟩ : Addr).add q = ⟨b, q, none⟩ := by unfold Addr.add; split <;> simp_all
  simp [Result.andThen, slicedAt, h, h2]
set_option maxRecDepth 100000 in
set_option maxHeartbeats 800000 in
theorem mag_any (n : Nat) (w : World) (hn : n ≤ 9223372036854775807) :
    Calls Tryz.prog 126 #[.int .i64 (n : Int)] w (Ret w (.string (bstr n))) := by
  by_cases h0 : n < 256
  · by_cases hz : n = 0
    · subst hz
      go_enter Tryz.func126, Tryz.ntmps126
      go_wp2
      go_ret
      exact ⟨Below.refl _ _, by simp [bstr, bb_zero]⟩
    · have hconv := conv_row (P := Tryz.prog) (w.alloc (.cells #[.int .u8 (n : Int)] 5)) 139 9 5 Tryz.underlying139 Tryz.underlying5 Tryz.underlying9 (some ⟨w.heap.size, 0, none⟩) 1 [UInt8.ofNat n] (by
        have h := Row.ofBlk (Blk.new w 5 [.int .u8 (n : Int)]) (m := 1) (cap := 1) (Nat.le_refl _) (by decide) 1
        have e : cb [UInt8.ofNat n] = [.int .u8 (n : Int)] := by simp [cb]; omega
        rw [e]; exact h)
      simp only [List.length_cons, List.length_nil, Nat.zero_add] at hconv
      have hne : ((n : Int) == 0) = false := by simp; omega
      go_enter Tryz.func126, Tryz.ntmps126
      go_wp2
      go_ret
      refine ⟨(Below.refl _ _).alloc (Nat.le_refl _) _, ?_⟩
      have hb := bb_step 0 n h0 (.inr (by omega))
      rw [Nat.mul_zero, Nat.zero_add, bb_zero, List.nil_append] at hb
      rw [bstr, hb]; rfl
  · go_enter Tryz.func126, Tryz.ntmps126
    go_wp2
    have hN8 : n < 256 ^ 8 := by have : 256 ^ 8 = 18446744073709551616 := by decide
                                 omega
    go_loopw [0, 4] (fun x i wr => ∃ k : Nat, k ≤ 8 ∧ x = .int .i64 ((n / 256 ^ k : Nat) : Int) ∧ i = .int .i64 ((8 - k : Nat) : Int) ∧ Below w.heap.size w wr ∧ (k = 0 ∨ 0 < n / 256 ^ (k - 1)) ∧ Blk wr w.heap.size 159 (List.replicate (8 - k) (.int .u8 0) ++ cb (be k n))) (fun x _ _ => (intOf x).toNat)
    case atStart => exact ⟨0, by omega, by simp, rfl, (Below.refl _ _).alloc (Nat.le_refl _) _, .inl rfl, Blk.new w 159 _⟩
    case round =>
      obtain ⟨k, hk, rfl, rfl, hbel, htop, hrow⟩ := hrel
      have HB := zh hbel; clear hbel
      have HR := zh hrow; clear hrow
      have HT := zh htop; clear htop
      obtain ⟨m, hm⟩ : ∃ m, m = n / 256 ^ k := ⟨_, rfl⟩
      have hml : m ≤ n := by rw [hm]; exact Nat.div_le_self _ _
      rw [← hm]
      by_cases h1 : 0 < m
      · have hk8 : k < 8 := by
          rcases Nat.lt_or_ge k 8 with h | h
          · exact h
          · have : k = 8 := by omega
            subst this
            rw [Nat.div_eq_of_lt hN8] at hm; omega
        have hget : (List.replicate (8 - k) (Value.int .u8 0) ++ cb (be k n))[7 - k]? = some (.int .u8 0) := by
          rw [List.getElem?_append_left (by simp; omega), List.getElem?_replicate, if_pos (by omega)]
        have hcell := HR.out.cell hget
        have hfz := HR.out.frozen (7 - k)
        have hm2 : m / 256 = n / 256 ^ (k + 1) := by rw [hm, Nat.pow_succ, Nat.div_div_eq_div_mul]
        have hmb : m % 256 = byt n k := by rw [hm]; rfl
        have e8 : ((8 - k : Nat) : Int) - 1 = ((7 - k : Nat) : Int) := by omega
        have HM := zh hm; clear hm
        have HM2 := zh hm2; clear hm2
        have HMB := zh hmb; clear hmb
        obtain ⟨q, hq⟩ : ∃ q, q = 7 - k := ⟨_, rfl⟩
        have hq8 : 8 - k = q + 1 := by omega
        rw [← hq] at hcell hfz e8
        rw [hq8] at e8 HR ⊢
        have HQ := zh hq; clear hq hget hq8 hk
        clear e8
        have hq7 : q < 8 := by have := HQ.out; omega
        go_wp2
        go_roundw
        case rel =>
          refine ⟨k + 1, by omega, ?_, ?_, HB.out.setCell (p := ⟨w.heap.size, q, none⟩) (Nat.le_refl _) _, .inr ?_, ?_⟩
          · rw [← HM2.out]; first | rfl | go_num
          · have := HQ.out; congr 1; omega
          · rw [Nat.add_sub_cancel, ← HM.out]; exact h1
          · refine (HR.out.set q _).congr ?_
            have hq1 : 8 - (k + 1) = q := by have := HQ.out; omega
            rw [hq1, List.replicate_succ', List.append_assoc, List.set_append_right _ _ (by simp), List.length_replicate, Nat.sub_self, List.singleton_append, List.set_cons_zero, be]
            simp only [cb, List.map_cons]
            congr 3
            rw [← HMB.out]
            simp
        case measure => simp [intOf]; omega
      · have hm0 : m = 0 := by omega
        have hk1 : 0 < k := by
          rcases Nat.eq_zero_or_pos k with e | e
          · subst e; rw [Nat.pow_zero, Nat.div_one] at hm; omega
          · exact e
        have hbe : be k n = bb n := by
          obtain ⟨j, rfl⟩ : ∃ j, k = j + 1 := ⟨k - 1, by omega⟩
          rw [hm0] at hm
          have h2 := HT.out
          refine be_bb ?_ (by rcases h2 with h | h; · omega
                              · simpa using h)
          rcases Nat.lt_or_ge n (256 ^ (j + 1)) with h | h
          · exact h
          · have := Nat.div_pos h (pos256 _); omega
        have hrow : Row wr (.slice (some ⟨w.heap.size, 8 - k, none⟩) k k) (bb n).length (cb (bb n)) := by
          rw [← hbe]
          refine .inr ⟨w.heap.size, 8 - k, k, by rw [be_length], by rw [be_length]; exact Nat.le_refl _, by unfold maxLen; omega, HR.out.lt, fun j u hu => HR.out.cell ?_⟩
          rw [List.getElem?_append_right (by simp)]
          simpa using hu
        have hbl : (bb n).length = k := by rw [← hbe, be_length]
        have hconv := conv_row (P := Tryz.prog) wr 139 9 5 Tryz.underlying139 Tryz.underlying5 Tryz.underlying9 (some ⟨w.heap.size, 8 - k, none⟩) k (bb n) (by rw [hbl]; rw [hbl] at hrow; exact hrow)
        rw [hbl] at hconv
        clear hm hbe hrow hbl
        subst hm0
        obtain ⟨q, rfl⟩ : ∃ q, k = 8 - q := ⟨8 - k, by omega⟩
        have h88 : 8 - (8 - q) = q := by omega
        rw [h88] at hconv ⊢
        have hsl := arr8_slice w.heap.size q (by omega) wr
        clear h88
        go_wp2
        go_ret
        exact ⟨HB.out, rfl⟩
end Go.Proofs.YtjpalbonclgflaaGreat

