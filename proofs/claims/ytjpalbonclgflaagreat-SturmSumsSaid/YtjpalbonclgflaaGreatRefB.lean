/- The reference integers: Canonical, value, Of, compareMag. -/
import Derived.Test.YtjpalbonclgflaaGreatPart1
namespace Go.Proofs.YtjpalbonclgflaaGreat
open Go.RowKit

theorem intv_nat (x : Nat) : IntV (x : Int) = .agg #[.bool false, .string (bstr x)] := by
 simp [IntV, ineg, imag, bstr]
theorem intv_neg (x : Nat) (h : ¬ x = 0) : IntV (-(x : Int)) = .agg #[.bool true, .string (bstr x)] := by
 have : (-(x : Int)) < 0 := by omega
 simp [IntV, ineg, imag, bstr]; omega
theorem intv_own (ng : Bool) (s : ByteArray) (hb : bb (bval s.data.toList) = s.data.toList) (hne : ¬ bval s.data.toList = 0) : IntV (ival ng s) = .agg #[.bool ng, .string s] := by
 have e : bstr (bval s.data.toList) = s := str_ext (by rw [bstr_list, hb])
 cases ng with
 | false => rw [ival, sgn, if_neg (by simp), intv_nat, e]
 | true => rw [ival, sgn, if_pos rfl, intv_neg _ hne, e]
theorem bstr_empty {x : Nat} : (bstr x).toList = [] ↔ x = 0 := by
 rw [Lib.toList_data, bstr_list]
 exact ⟨bb_nil, fun h => by rw [h, bb_zero]⟩

set_option maxRecDepth 100000 in
set_option maxHeartbeats 1600000 in
theorem rcanon_any (ng : Bool) (s : ByteArray) (w : World) (hs : s.size ≤ 1099511627776) :
  Calls Tryz.prog 117 #[.agg #[.bool ng, .string s]] w (Ret w (IntV (ival ng s))) := by
 have hX : ∀ v : Value, (ng = false → v = .agg #[.bool false, .string (bstr (bval s.data.toList))]) → (ng = true → bval s.data.toList = 0 → v = .agg #[.bool false, .string (bstr (bval s.data.toList))]) → (ng = true → ¬ bval s.data.toList = 0 → v = .agg #[.bool true, .string (bstr (bval s.data.toList))]) → v = IntV (ival ng s) := by
  intro v h1 h2 h3
  cases ng with
  | false => rw [h1 rfl, ival, sgn, if_neg (by simp), intv_nat]
  | true =>
   by_cases h0 : bval s.data.toList = 0
   ·
    rw [h2 rfl h0, ival, sgn, if_pos rfl, h0]; rfl
   ·
    rw [h3 rfl h0, ival, sgn, if_pos rfl, intv_neg _ h0]
 have HX := zh hX; clear hX
 by_cases h0 : 0 < s.size
 ·
  by_cases hz : s[0] = 0
  ·
   have hz2 : ((s[0].toNat : Int) == 0) = true := by rw [hz]; rfl
   have hz3 : ((s[0].toNat : Int) != 0) = false := by rw [hz]; rfl
   clear hz
   cases ng with
   | false =>
    go_enter Tryz.func117, Tryz.ntmps117
    go_wp2_with (go_at_call 164; refine (rtrim_any s _ hs).mono ?_; rintro e w' ⟨rfl, rfl⟩)
    refine bodyPost_ret (v := .agg #[.bool false, .string (bstr (bval s.data.toList))]) (by simp [results, Tryz.results117, go_sem]) rfl ⟨((Below.refl _ _).alloc (Nat.le_refl _) _).alloc (by simp) _, ret_of (HX.out _ (fun _ => rfl) (fun h => by cases h) (fun h => by cases h))⟩
   | true =>
    by_cases hb : bval s.data.toList = 0
    ·
     have he := bstr_empty.2 hb
     have HBV := zh hb; clear hb
     go_enter Tryz.func117, Tryz.ntmps117
     go_wp2_with (go_at_call 164; refine (rtrim_any s _ hs).mono ?_; rintro e w' ⟨rfl, rfl⟩)
     refine bodyPost_ret (v := .agg #[.bool false, .string (bstr (bval s.data.toList))]) (by simp [results, Tryz.results117, go_sem]) rfl ⟨((Below.refl _ _).alloc (Nat.le_refl _) _).alloc (by simp) _, ret_of (HX.out _ (fun h => by cases h) (fun _ _ => rfl) (fun _ h => absurd HBV.out h))⟩
    ·
     have he : (bstr (bval s.data.toList)).toList.isEmpty = false := by rw [List.isEmpty_eq_false_iff]; exact fun h => hb (bstr_empty.1 h)
     have HBV := zh hb; clear hb
     go_enter Tryz.func117, Tryz.ntmps117
     go_wp2_with (go_at_call 164; refine (rtrim_any s _ hs).mono ?_; rintro e w' ⟨rfl, rfl⟩)
     refine bodyPost_ret (v := .agg #[.bool true, .string (bstr (bval s.data.toList))]) (by simp [results, Tryz.results117, go_sem]) rfl ⟨((Below.refl _ _).alloc (Nat.le_refl _) _).alloc (by simp) _, ret_of (HX.out _ (fun h => by cases h) (fun _ h => absurd h HBV.out) (fun _ _ => rfl))⟩
  ·
   have hd := drop_at s 0 h0
   rw [List.drop_zero] at hd
   have hb : bb (bval s.data.toList) = s.data.toList := bb_bval (by
    intro c l e
    rw [hd, List.cons.injEq] at e
    rw [← e.1]; exact hz)
   have hne : ¬ bval s.data.toList = 0 := by
    intro e
    rw [e, bb_zero] at hb
    rw [← hb] at hd; cases hd
   have hown := intv_own ng s hb hne
   have hz2 : ((s[0].toNat : Int) == 0) = false := by
    rw [beq_eq_false_iff_ne]; intro e
    apply hz
    have : s[0].toNat = 0 := by omega
    rw [← UInt8.toNat_inj, this]; rfl
   have hz3 : ((s[0].toNat : Int) != 0) = true := by simp [bne, hz2]
   have HO := zh hown; clear hown hb hne hd hz
   go_enter Tryz.func117, Tryz.ntmps117
   go_wp2_with fail
   refine bodyPost_ret (v := .agg #[.bool ng, .string s]) (by simp [results, Tryz.results117, go_sem]) rfl ⟨((Below.refl _ _).alloc (Nat.le_refl _) _).alloc (by simp) _, ret_of HO.out.symm⟩
 ·
  have hn : s.data.toList = [] := List.length_eq_zero_iff.1 (by rw [bytes_size]; omega)
  have hb : bval s.data.toList = 0 := by rw [hn]; rfl
  have he := bstr_empty.2 hb
  have HBV := zh hb; clear hb hn
  cases ng with
  | false =>
   go_enter Tryz.func117, Tryz.ntmps117
   go_wp2_with (go_at_call 164; refine (rtrim_any s _ hs).mono ?_; rintro e w' ⟨rfl, rfl⟩)
   refine bodyPost_ret (v := .agg #[.bool false, .string (bstr (bval s.data.toList))]) (by simp [results, Tryz.results117, go_sem]) rfl ⟨((Below.refl _ _).alloc (Nat.le_refl _) _).alloc (by simp) _, ret_of (HX.out _ (fun _ => rfl) (fun h => by cases h) (fun h => by cases h))⟩
  | true =>
   go_enter Tryz.func117, Tryz.ntmps117
   go_wp2_with (go_at_call 164; refine (rtrim_any s _ hs).mono ?_; rintro e w' ⟨rfl, rfl⟩)
   refine bodyPost_ret (v := .agg #[.bool false, .string (bstr (bval s.data.toList))]) (by simp [results, Tryz.results117, go_sem]) rfl ⟨((Below.refl _ _).alloc (Nat.le_refl _) _).alloc (by simp) _, ret_of (HX.out _ (fun h => by cases h) (fun _ _ => rfl) (fun _ h => absurd HBV.out h))⟩

set_option maxRecDepth 100000 in
theorem rvalue_any (ng : Bool) (s : ByteArray) (w : World) (hs : s.size ≤ 7) :
  Calls Tryz.prog 123 #[.agg #[.bool ng, .string s]] w (Ret w (.int .i64 (ival ng s))) := by
 have hsm := fun w' => small_any s w' hs
 have hlt : bval s.data.toList < 72057594037927936 := by
  have h1 := bval_lt s.data.toList
  rw [bytes_size] at h1
  have h2 : 256 ^ s.size ≤ 256 ^ 7 := Nat.pow_le_pow_right (by decide) hs
  have h3 : 256 ^ 7 = 72057594037927936 := by decide
  omega
 have hiv : ival ng s = sgn ng (bval s.data.toList) := rfl
 obtain ⟨x, hx⟩ : ∃ x, x = bval s.data.toList := ⟨_, rfl⟩
 simp only [← hx] at hsm hlt hiv
 have HS := zh hsm; clear hsm hx
 have HI := zh hiv; clear hiv
 cases ng with
 | false =>
  go_enter Tryz.func123, Tryz.ntmps123
  go_wp2_with (go_at_call 170; refine (HS.out _).mono ?_; rintro e w' ⟨rfl, rfl⟩)
  go_ret
  exact ⟨(Below.refl _ _).alloc (Nat.le_refl _) _, ret_int (by rw [HI.out]; rfl)⟩
 | true =>
  go_enter Tryz.func123, Tryz.ntmps123
  go_wp2_with (go_at_call 170; refine (HS.out _).mono ?_; rintro e w' ⟨rfl, rfl⟩)
  go_ret
  exact ⟨(Below.refl _ _).alloc (Nat.le_refl _) _, ret_int (by rw [HI.out]; rfl)⟩

set_option maxRecDepth 100000 in
set_option maxHeartbeats 800000 in
theorem rof_any (n : Int) (w : World) (h1 : -9223372036854775808 < n) (h2 : n ≤ 9223372036854775807) :
  Calls Tryz.prog 80 #[.int .i64 n] w (Ret w (IntV n)) := by
 have hB0 := Blk.new w 25 [.bool false, .string ⟨#[]⟩]
 have HB0 := zh hB0; clear hB0
 have s0 := (Below.refl w.heap.size w).alloc (Nat.le_refl _) (.cells #[.bool false, .string ⟨#[]⟩] 25)
 have S0 := zh s0; clear s0
 by_cases h0 : 0 ≤ n
 ·
  obtain ⟨m, rfl⟩ : ∃ m : Nat, n = m := ⟨n.toNat, by omega⟩
  have hm := fun w' => mag_any m w' (by omega)
  have HM := zh hm; clear hm
  go_enter Tryz.func80, Tryz.ntmps80
  go_wp2_with (go_at_call 126; refine (HM.out _).mono ?_; rintro e w1 ⟨hq1, rfl⟩; have hbA0 := HB0.out.below hq1 (by simp); have cA0 := hbA0.c 0 rfl; have dA0 := hbA0.c 1 rfl; have fA0 := hbA0.frozen 0; have gA0 := hbA0.frozen 1; have HBA0 := zh hbA0; clear hbA0; have HQ1 := zh hq1; clear hq1)
  refine bodyPost_ret (v := .agg #[.bool false, .string (bstr m)]) (by simp [results, Tryz.results80, go_sem, cA0, dA0]) rfl ⟨?_, ret_of (intv_nat m).symm⟩
  exact ((S0.out.trans (HQ1.out.mono S0.out.size)).setCell (p := ⟨w.heap.size, 0, none⟩) (Nat.le_refl _) _).setCell (p := ⟨w.heap.size, 1, none⟩) (Nat.le_refl _) _
 ·
  obtain ⟨m, rfl⟩ : ∃ m : Nat, n = -(m : Int) := ⟨n.natAbs, by omega⟩
  have hm := fun w' => mag_any m w' (by omega)
  have HM := zh hm; clear hm
  have hne : ((-(m : Int)) == (m : Int)) = false := by rw [beq_eq_false_iff_ne]; omega
  have hm0 : ¬ m = 0 := by omega
  have HM0 := zh hm0; clear hm0
  go_enter Tryz.func80, Tryz.ntmps80
  go_wp2_with (go_at_call 126; refine (HM.out _).mono ?_; rintro e w1 ⟨hq1, rfl⟩; have hbA0 := HB0.out.below hq1 (by simp); have cA0 := hbA0.c 0 rfl; have dA0 := hbA0.c 1 rfl; have fA0 := hbA0.frozen 0; have gA0 := hbA0.frozen 1; have HBA0 := zh hbA0; clear hbA0; have HQ1 := zh hq1; clear hq1)
  refine bodyPost_ret (v := .agg #[.bool true, .string (bstr m)]) (by simp [results, Tryz.results80, go_sem, cA0, dA0]) rfl ⟨?_, ret_of (intv_neg m HM0.out).symm⟩
  exact ((S0.out.trans (HQ1.out.mono S0.out.size)).setCell (p := ⟨w.heap.size, 0, none⟩) (Nat.le_refl _) _).setCell (p := ⟨w.heap.size, 1, none⟩) (Nat.le_refl _) _

set_option maxRecDepth 100000 in
set_option maxHeartbeats 800000 in
theorem rcmp_any (x y : Nat) (s t : ByteArray) (w : World) (hs : s.size ≤ 1099511627776) (ht : t.size ≤ 1099511627776) (es : s.data.toList = bb x) (et : t.data.toList = bb y) :
  Calls Tryz.prog 122 #[.string s, .string t] w fun e w' => e = .returned (.int .i64 (cmpN x y)) ∧ w = w' := by
 have ls : s.size = (bb x).length := by rw [← bytes_size, es]
 have lt : t.size = (bb y).length := by rw [← bytes_size, et]
 by_cases h1 : s.size < t.size
 ·
  have hc : cmpN x y = -1 := cmpN_lt (bb_len_lt (by rw [← ls, ← lt]; exact h1))
  have HC := zh hc; clear hc es et ls lt
  have hne : (s.size != t.size) = true := by simp; omega
  have hne2 : ((s.size : Int) != (t.size : Int)) = true := by simp; omega
  go_enter Tryz.func122, Tryz.ntmps122
  go_wp2_with fail
  go_ret
  exact ⟨ret_int HC.out.symm, rfl⟩
 ·
  by_cases h2 : t.size < s.size
  ·
   have hc : cmpN x y = 1 := cmpN_gt (bb_len_lt (by rw [← ls, ← lt]; exact h2))
   have HC := zh hc; clear hc es et ls lt
   have hne : (s.size != t.size) = true := by simp; omega
   have hne2 : ((s.size : Int) != (t.size : Int)) = true := by simp; omega
   go_enter Tryz.func122, Tryz.ntmps122
   go_wp2_with fail
   go_ret
   exact ⟨ret_int HC.out.symm, rfl⟩
  ·
   have hl : s.data.toList.length = t.data.toList.length := by rw [bytes_size, bytes_size]; omega
   have b1 := less_bval s.data.toList t.data.toList hl
   have b2 := less_bval t.data.toList s.data.toList hl.symm
   rw [es, et, bval_bb, bval_bb, ← es, ← et] at b1
   rw [es, et, bval_bb, bval_bb, ← es, ← et] at b2
   rw [← Lib.toList_data, ← Lib.toList_data] at b1
   have be : (s.toList == t.toList) = decide (x = y) := by
    rw [Lib.toList_data, Lib.toList_data, es, et, Bool.eq_iff_iff]; simp
    exact ⟨bb_inj, fun h => by rw [h]⟩
   have hne : (s.size != t.size) = false := by simp; omega
   have hne2 : ((s.size : Int) != (t.size : Int)) = false := by simp; omega
   rcases Nat.lt_trichotomy x y with h | h | h
   ·
    have hc := cmpN_lt h
    rw [decide_eq_true h] at b1
    have HC := zh hc; clear hc es et ls lt b2 h hl be
    go_enter Tryz.func122, Tryz.ntmps122
    go_wp2_with fail
    go_ret
    exact ⟨ret_int HC.out.symm, rfl⟩
   ·
    subst h
    have hc := cmpN_eq x
    rw [decide_eq_false (Nat.lt_irrefl _)] at b1
    rw [decide_eq_true rfl] at be
    have HC := zh hc; clear hc es et ls lt hl b2
    go_enter Tryz.func122, Tryz.ntmps122
    go_wp2_with fail
    go_ret
    exact ⟨ret_int HC.out.symm, rfl⟩
   ·
    have hc := cmpN_gt h
    rw [decide_eq_false (by omega)] at be
    rw [decide_eq_false (by omega)] at b1
    have HC := zh hc; clear hc es et ls lt h hl b2
    go_enter Tryz.func122, Tryz.ntmps122
    go_wp2_with fail
    go_ret
    exact ⟨ret_int HC.out.symm, rfl⟩
end Go.Proofs.YtjpalbonclgflaaGreat
