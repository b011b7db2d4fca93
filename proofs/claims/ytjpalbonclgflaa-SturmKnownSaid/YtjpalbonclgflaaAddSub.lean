/- The contracts of integer.compare, integer.add, integer.subtract: on digits they compare, add and subtract numbers; nothing that was there is changed. -/
import Derived.Deep.QuietTactic
import Derived.BigQuiet
import Derived.Test.YtjpalbonclgflaaPart11
namespace Go.Proofs.Ytjpalbonclgflaa
open Go.RowKit

set_option maxRecDepth 100000 in
set_option maxHeartbeats 800000 in
theorem compare_any (x y : Nat) (vx vy : Value) (w : World) (hx : Row w vx (dg x).length (cs32 (dg x))) (hy : Row w vy (dg y).length (cs32 (dg y))) :
  Calls Try.prog 42 #[vx, vy] w (Ret w (.int .i64 (cmpN x y))) := by
 obtain ⟨ax, cx, rfl, hlx⟩ := hx.slice
 obtain ⟨ay, cy, rfl, hly⟩ := hy.slice
 obtain ⟨m, hm⟩ : ∃ m, m = (dg x).length := ⟨_, rfl⟩
 obtain ⟨n, hn⟩ : ∃ n, n = (dg y).length := ⟨_, rfl⟩
 rw [← hm] at hx hlx ⊢
 rw [← hn] at hy hly ⊢
 have HX := zh hx; clear hx
 have HY := zh hy; clear hy
 rcases Nat.lt_trichotomy m n with hl | hl | hl
 ·
  have hc := cmpN_lt (lt_of_len (by rw [← hm, ← hn]; exact hl) : x < y)
  have HC := zh hc; clear hc hm hn
  have hne : ((m : Int) != n) = true := by simp; omega
  go_enter Try.func42, Try.ntmps42
  go_wp2
  go_ret
  exact ⟨Below.refl _ _, by rw [HC.out]; rfl⟩
 ·
  subst hl
  have HM := zh hm; clear hm
  have HN := zh hn; clear hn
  go_enter Try.func42, Try.ntmps42
  go_wp2
  go_loopw [5] (fun i wr => ∃ (j : Nat) (z : Int), j ≤ m ∧ i = .int .i64 z ∧ z = (j : Int) - 1 ∧ Below w.heap.size w wr ∧ x / 4294967296 ^ j = y / 4294967296 ^ j) (fun i _ => (intOf i + 1).toNat)
  case atStart =>
   refine ⟨m, _, Nat.le_refl _, rfl, rfl, Below.refl _ _, ?_⟩
   rw [Nat.div_eq_of_lt (by rw [HM.out]; exact lt_pow_dg x), Nat.div_eq_of_lt (by rw [HN.out]; exact lt_pow_dg y)]
  case round =>
   obtain ⟨j, z, hj, rfl, hz, hbel, he⟩ := hrel
   have HB := zh hbel; clear hbel
   have HE := zh he; clear he
   cases j with
   | zero =>
    obtain rfl : z = -1 := by omega
    clear hz
    go_wp2
    go_ret
    have hxy := HE.out
    rw [Nat.pow_zero, Nat.div_one, Nat.div_one] at hxy
    refine ⟨HB.out, ?_⟩
    rw [hxy, cmpN_eq]; rfl
   | succ j =>
    obtain rfl : z = (j : Int) := by omega
    clear hz
    obtain ⟨bx, ox, rfl, hbx, hcx⟩ := HX.out.at_ (by omega)
    obtain ⟨by_, oy, rfl, hby, hcy⟩ := HY.out.at_ (by omega)
    have c1 := hcx j _ (cs32_get (dg_get x j (by rw [← HM.out]; omega)))
    have c2 := hcy j _ (cs32_get (dg_get y j (by rw [← HN.out]; omega)))
    rw [← HB.out.cell (p := ⟨bx, ox + j, none⟩) hbx] at c1
    rw [← HB.out.cell (p := ⟨by_, oy + j, none⟩) hby] at c2
    clear hcx hcy hbx hby
    obtain ⟨d, hd⟩ : ∃ d, d = dig x j := ⟨_, rfl⟩
    obtain ⟨e, he⟩ : ∃ e, e = dig y j := ⟨_, rfl⟩
    rw [← hd] at c1
    rw [← he] at c2
    have HD := zh hd; clear hd
    have HE2 := zh he; clear he
    have hjm : (j : Int) < m := by omega
    rcases Nat.lt_trichotomy d e with hl | hl | hl
    ·
     have hne : ((d : Int) != e) = true := by simp; omega
     have hl2 : (d : Int) < e := by omega
     go_wp2
     go_quiet (fail)
     go_wp2
     go_quiet (fail)
     go_wp2
     go_ret
     refine ⟨?_, ?_⟩
     ·
      exact below_drewN (below_drewN HB.out _) _
     ·
      rw [cmpN_lt (lt_of_div HE.out (by rw [← HD.out, ← HE2.out]; exact hl))]; rfl
    ·
     subst hl
     have hne : ((d : Int) != d) = false := by simp
     go_wp2
     go_quiet (fail)
     go_wp2
     go_roundw
     case rel =>
      refine ⟨j, _, by omega, rfl, rfl, ?_, ?_⟩
      ·
       exact below_drewN HB.out _
      ·
       rw [div_step x j, div_step y j, HE.out, ← HD.out, ← HE2.out]
     case measure => simp [intOf]
    ·
     have hne : ((d : Int) != e) = true := by simp; omega
     have hl2 : ¬ (d : Int) < e := by omega
     go_wp2
     go_quiet (fail)
     go_wp2
     go_quiet (fail)
     go_wp2
     go_ret
     refine ⟨?_, ?_⟩
     ·
      exact below_drewN (below_drewN HB.out _) _
     ·
      rw [cmpN_gt (lt_of_div HE.out.symm (by rw [← HD.out, ← HE2.out]; exact hl))]; rfl
 ·
  have hc := cmpN_gt (lt_of_len (by rw [← hm, ← hn]; exact hl) : y < x)
  have HC := zh hc; clear hc hm hn
  have hne : ((m : Int) != n) = true := by simp; omega
  go_enter Try.func42, Try.ntmps42
  go_wp2
  go_ret
  exact ⟨Below.refl _ _, by rw [HC.out]; rfl⟩

set_option maxRecDepth 100000 in
set_option maxHeartbeats 1600000 in
theorem add_core (sw : Bool) (x y : Nat) (vx vy : Value) (w : World) (hx : Row w vx (dg x).length (cs32 (dg x))) (hy : Row w vy (dg y).length (cs32 (dg y)))
  (h1 : sw = false → (dg y).length ≤ (dg x).length) (h2 : sw = true → (dg y).length < (dg x).length) (hb : (dg x).length ≤ 274877906944) :
  Calls Try.prog 41 #[cond sw vy vx, cond sw vx vy] w (RetNat w (x + y)) := by
 obtain ⟨ax, cx, rfl, hlx⟩ := hx.slice
 obtain ⟨ay, cy, rfl, hly⟩ := hy.slice
 obtain ⟨m, hm⟩ : ∃ m, m = (dg x).length := ⟨_, rfl⟩
 obtain ⟨n, hn⟩ : ∃ n, n = (dg y).length := ⟨_, rfl⟩
 rw [← hm] at hx hlx hb h1 h2
 rw [← hn] at hy hly h1 h2
 rw [← hm, ← hn]
 have HX := zh hx; clear hx
 have HY := zh hy; clear hy
 have HM := zh hm; clear hm
 have HN := zh hn; clear hn
 have hmk := mk32 (m + 1) (by omega) ((m : Int) + 1) (by omega)
 have hnm : n ≤ m := by cases sw <;> simp at h1 h2 <;> omega
 cases sw
 case false =>
  have hlt : ¬ (m : Int) < n := by have := h1 rfl; omega
  clear h1 h2
  simp only [cond]
  go_enter Try.func41, Try.ntmps41
  go_wp2
  clear hmk
  go_loopw [6, 22] (fun c i wr => ∃ k : Nat, k ≤ m ∧ i = .int .i64 k ∧ c = .int .u64 (carry x y k : Nat) ∧ Below w.heap.size w wr ∧ Blk wr w.heap.size 75 (part k (m + 1) (x + y))) (fun _ i _ => m - (intOf i).toNat)
  case atStart =>
   refine ⟨0, Nat.zero_le _, rfl, by rw [carry_zero]; rfl, (Below.refl _ _).alloc (Nat.le_refl _) _, ?_⟩
   rw [part_zero]
   exact Blk.zero w 75 (.int .u32 0) (m + 1)
  case round =>
   obtain ⟨k, hk, rfl, rfl, hbel, hrow⟩ := hrel
   have HB := zh hbel; clear hbel
   have HR := zh hrow; clear hrow
   have hst := add_step x y k
   have hc1 := (carry_div x y k).2
   obtain ⟨c, hc⟩ : ∃ c, c = carry x y k := ⟨_, rfl⟩
   rw [← hc] at hst hc1 ⊢
   have HC := zh hc; clear hc
   obtain ⟨d, hd⟩ : ∃ d, d = dig x k := ⟨_, rfl⟩
   have hd32 : d < 4294967296 := by rw [hd]; exact dig_lt _ _
   obtain ⟨e, he⟩ : ∃ e, e = dig y k := ⟨_, rfl⟩
   have he32 : e < 4294967296 := by rw [he]; exact dig_lt _ _
   rw [← hd, ← he] at hst
   have HST := zh hst; clear hst
   have hcell := HR.out.cell (part_at (x := x + y) (show k < m + 1 by omega))
   have hfz := HR.out.frozen k
   by_cases hkm : k < m
   ·
    obtain ⟨bx, ox, rfl, hbx, hcx⟩ := HX.out.at_ (by omega)
    have c1 := hcx k _ (cs32_get (dg_get x k (by rw [← HM.out]; omega)))
    rw [← HB.out.cell (p := ⟨bx, ox + k, none⟩) hbx, ← hd] at c1
    clear hcx
    have HD := zh hd; clear hd
    by_cases hkn : k < n
    ·
     obtain ⟨by_, oy, rfl, hby, hcy⟩ := HY.out.at_ (by omega)
     have c2 := hcy k _ (cs32_get (dg_get y k (by rw [← HN.out]; omega)))
     rw [← HB.out.cell (p := ⟨by_, oy + k, none⟩) hby, ← he] at c2
     clear hcy
     have HE := zh he; clear he
     go_wp2
     go_roundw
     case rel =>
      refine ⟨k + 1, by omega, by go_num, ?_, HB.out.setCell (p := ⟨w.heap.size, k, none⟩) (Nat.le_refl _) _, ?_⟩
      ·
       rw [← HST.out.2]; first | rfl | (congr 1; omega)
      ·
       refine (HR.out.set k _).congr ?_
       rw [← part_set (by omega), ← HST.out.1]
       first | rfl | (congr 2; omega)
     case measure => simp [intOf]; omega
    ·
     have he0 : e = 0 := by rw [he]; exact dig_beyond _ _ (by rw [← HN.out]; omega)
     clear he
     have HE0 := zh he0; clear he0
     go_wp2
     go_roundw
     case rel =>
      refine ⟨k + 1, by omega, by go_num, ?_, HB.out.setCell (p := ⟨w.heap.size, k, none⟩) (Nat.le_refl _) _, ?_⟩
      ·
       rw [← HST.out.2, HE0.out, Nat.add_zero]; first | rfl | (congr 1; omega)
      ·
       refine (HR.out.set k _).congr ?_
       rw [← part_set (by omega), ← HST.out.1, HE0.out, Nat.add_zero]
       first | rfl | (congr 2; omega)
     case measure => simp [intOf]; omega
   ·
    obtain rfl : k = m := by omega
    clear hd he
    have hc2 : c = dig (x + y) k := by
     have h1 := carry_div x y k
     have h2 : x < 4294967296 ^ k := by rw [HM.out]; exact lt_pow_dg x
     have h3 : y < 4294967296 ^ k := by
      have h4 := lt_pow_dg y
      have h5 : 4294967296 ^ (dg y).length ≤ 4294967296 ^ k := Nat.pow_le_pow_right (by decide) (by rw [← HN.out]; exact hnm)
      omega
     rw [Nat.div_eq_of_lt h2, Nat.div_eq_of_lt h3, Nat.zero_add, ← HC.out] at h1
     rw [dig, h1.1]; omega
    have hrow : Row (wr.setCell ⟨w.heap.size, k, none⟩ (.int .u32 (c : Int))) (.slice (some ⟨w.heap.size, 0, none⟩) (k + 1) (k + 1)) (Dn (k + 1) (x + y)).length (cs32 (Dn (k + 1) (x + y))) := by
     have h := (HR.out.set k (.int .u32 (c : Int)))
     rw [hc2, part_set (by omega), part_full] at h
     have h2 := Row.ofBlk h (m := k + 1) (cap := k + 1) (Nat.le_refl _) (by unfold maxLen; omega) (k + 1)
     rw [List.take_of_length_le (by simp [cs32, Dn_length])] at h2
     rw [Dn_length, hc2]; exact h2
    have HC2 := zh hc2; clear hc2
    have HRW := zh hrow; clear hrow
    have hcm : (c : Int) % 4294967296 = c := by omega
    go_wp2_with (go_at_call 58; refine (trim_any _ _ _ HRW.out).mono ?_; rintro e w' ⟨rfl, v', rfl, hv'⟩)
    go_ret
    refine ⟨HB.out.setCell (p := ⟨w.heap.size, k, none⟩) (Nat.le_refl _) _, v', rfl, ?_⟩
    have hlt2 : x + y < 4294967296 ^ (k + 1) := by
     have h2 : x < 4294967296 ^ k := by rw [HM.out]; exact lt_pow_dg x
     have h3 : y < 4294967296 ^ k := by
      have h4 := lt_pow_dg y
      have h5 : 4294967296 ^ (dg y).length ≤ 4294967296 ^ k := Nat.pow_le_pow_right (by decide) (by rw [← HN.out]; exact hnm)
      omega
     rw [Nat.pow_succ]; omega
    rwa [tz_Dn hlt2] at hv'
 case true =>
  have hlt : (n : Int) < m := by have := h2 rfl; omega
  clear h1 h2
  simp only [cond]
  go_enter Try.func41, Try.ntmps41
  go_wp2
  clear hmk
  go_loopw [6, 22] (fun c i wr => ∃ k : Nat, k ≤ m ∧ i = .int .i64 k ∧ c = .int .u64 (carry x y k : Nat) ∧ Below w.heap.size w wr ∧ Blk wr w.heap.size 75 (part k (m + 1) (x + y))) (fun _ i _ => m - (intOf i).toNat)
  case atStart =>
   refine ⟨0, Nat.zero_le _, rfl, by rw [carry_zero]; rfl, (Below.refl _ _).alloc (Nat.le_refl _) _, ?_⟩
   rw [part_zero]
   exact Blk.zero w 75 (.int .u32 0) (m + 1)
  case round =>
   obtain ⟨k, hk, rfl, rfl, hbel, hrow⟩ := hrel
   have HB := zh hbel; clear hbel
   have HR := zh hrow; clear hrow
   have hst := add_step x y k
   have hc1 := (carry_div x y k).2
   obtain ⟨c, hc⟩ : ∃ c, c = carry x y k := ⟨_, rfl⟩
   rw [← hc] at hst hc1 ⊢
   have HC := zh hc; clear hc
   obtain ⟨d, hd⟩ : ∃ d, d = dig x k := ⟨_, rfl⟩
   have hd32 : d < 4294967296 := by rw [hd]; exact dig_lt _ _
   obtain ⟨e, he⟩ : ∃ e, e = dig y k := ⟨_, rfl⟩
   have he32 : e < 4294967296 := by rw [he]; exact dig_lt _ _
   rw [← hd, ← he] at hst
   have HST := zh hst; clear hst
   have hcell := HR.out.cell (part_at (x := x + y) (show k < m + 1 by omega))
   have hfz := HR.out.frozen k
   by_cases hkm : k < m
   ·
    obtain ⟨bx, ox, rfl, hbx, hcx⟩ := HX.out.at_ (by omega)
    have c1 := hcx k _ (cs32_get (dg_get x k (by rw [← HM.out]; omega)))
    rw [← HB.out.cell (p := ⟨bx, ox + k, none⟩) hbx, ← hd] at c1
    clear hcx
    have HD := zh hd; clear hd
    by_cases hkn : k < n
    ·
     obtain ⟨by_, oy, rfl, hby, hcy⟩ := HY.out.at_ (by omega)
     have c2 := hcy k _ (cs32_get (dg_get y k (by rw [← HN.out]; omega)))
     rw [← HB.out.cell (p := ⟨by_, oy + k, none⟩) hby, ← he] at c2
     clear hcy
     have HE := zh he; clear he
     go_wp2
     go_roundw
     case rel =>
      refine ⟨k + 1, by omega, by go_num, ?_, HB.out.setCell (p := ⟨w.heap.size, k, none⟩) (Nat.le_refl _) _, ?_⟩
      ·
       rw [← HST.out.2]; first | rfl | (congr 1; omega)
      ·
       refine (HR.out.set k _).congr ?_
       rw [← part_set (by omega), ← HST.out.1]
       first | rfl | (congr 2; omega)
     case measure => simp [intOf]; omega
    ·
     have he0 : e = 0 := by rw [he]; exact dig_beyond _ _ (by rw [← HN.out]; omega)
     clear he
     have HE0 := zh he0; clear he0
     go_wp2
     go_roundw
     case rel =>
      refine ⟨k + 1, by omega, by go_num, ?_, HB.out.setCell (p := ⟨w.heap.size, k, none⟩) (Nat.le_refl _) _, ?_⟩
      ·
       rw [← HST.out.2, HE0.out, Nat.add_zero]; first | rfl | (congr 1; omega)
      ·
       refine (HR.out.set k _).congr ?_
       rw [← part_set (by omega), ← HST.out.1, HE0.out, Nat.add_zero]
       first | rfl | (congr 2; omega)
     case measure => simp [intOf]; omega
   ·
    obtain rfl : k = m := by omega
    clear hd he
    have hc2 : c = dig (x + y) k := by
     have h1 := carry_div x y k
     have h2 : x < 4294967296 ^ k := by rw [HM.out]; exact lt_pow_dg x
     have h3 : y < 4294967296 ^ k := by
      have h4 := lt_pow_dg y
      have h5 : 4294967296 ^ (dg y).length ≤ 4294967296 ^ k := Nat.pow_le_pow_right (by decide) (by rw [← HN.out]; exact hnm)
      omega
     rw [Nat.div_eq_of_lt h2, Nat.div_eq_of_lt h3, Nat.zero_add, ← HC.out] at h1
     rw [dig, h1.1]; omega
    have hrow : Row (wr.setCell ⟨w.heap.size, k, none⟩ (.int .u32 (c : Int))) (.slice (some ⟨w.heap.size, 0, none⟩) (k + 1) (k + 1)) (Dn (k + 1) (x + y)).length (cs32 (Dn (k + 1) (x + y))) := by
     have h := (HR.out.set k (.int .u32 (c : Int)))
     rw [hc2, part_set (by omega), part_full] at h
     have h2 := Row.ofBlk h (m := k + 1) (cap := k + 1) (Nat.le_refl _) (by unfold maxLen; omega) (k + 1)
     rw [List.take_of_length_le (by simp [cs32, Dn_length])] at h2
     rw [Dn_length, hc2]; exact h2
    have HC2 := zh hc2; clear hc2
    have HRW := zh hrow; clear hrow
    have hcm : (c : Int) % 4294967296 = c := by omega
    go_wp2_with (go_at_call 58; refine (trim_any _ _ _ HRW.out).mono ?_; rintro e w' ⟨rfl, v', rfl, hv'⟩)
    go_ret
    refine ⟨HB.out.setCell (p := ⟨w.heap.size, k, none⟩) (Nat.le_refl _) _, v', rfl, ?_⟩
    have hlt2 : x + y < 4294967296 ^ (k + 1) := by
     have h2 : x < 4294967296 ^ k := by rw [HM.out]; exact lt_pow_dg x
     have h3 : y < 4294967296 ^ k := by
      have h4 := lt_pow_dg y
      have h5 : 4294967296 ^ (dg y).length ≤ 4294967296 ^ k := Nat.pow_le_pow_right (by decide) (by rw [← HN.out]; exact hnm)
      omega
     rw [Nat.pow_succ]; omega
    rwa [tz_Dn hlt2] at hv'

theorem add_any (x y : Nat) (vx vy : Value) (w : World) (hx : Row w vx (dg x).length (cs32 (dg x))) (hy : Row w vy (dg y).length (cs32 (dg y)))
  (hb1 : (dg x).length ≤ 274877906944) (hb2 : (dg y).length ≤ 274877906944) :
  Calls Try.prog 41 #[vx, vy] w (RetNat w (x + y)) := by
 by_cases h : (dg x).length < (dg y).length
 ·
  have := add_core true y x vy vx w hy hx (by simp) (fun _ => h) hb2
  rw [Nat.add_comm y x] at this
  exact this
 ·
  exact add_core false x y vx vy w hx hy (fun _ => by omega) (by simp) hb1

set_option maxRecDepth 100000 in
set_option maxHeartbeats 1600000 in
theorem subtract_any (x y : Nat) (vx vy : Value) (w : World) (hx : Row w vx (dg x).length (cs32 (dg x))) (hy : Row w vy (dg y).length (cs32 (dg y)))
  (hle : y ≤ x) (hb : (dg x).length ≤ 274877906944) :
  Calls Try.prog 43 #[vx, vy] w (RetNat w (x - y)) := by
 obtain ⟨ax, cx, rfl, hlx⟩ := hx.slice
 obtain ⟨ay, cy, rfl, hly⟩ := hy.slice
 have hnm : (dg y).length ≤ (dg x).length := dg_length_le (Nat.lt_of_le_of_lt hle (lt_pow_dg x))
 obtain ⟨m, hm⟩ : ∃ m, m = (dg x).length := ⟨_, rfl⟩
 obtain ⟨n, hn⟩ : ∃ n, n = (dg y).length := ⟨_, rfl⟩
 rw [← hm] at hx hlx hb hnm
 rw [← hn] at hy hly hnm
 rw [← hm, ← hn]
 have HX := zh hx; clear hx
 have HY := zh hy; clear hy
 have HM := zh hm; clear hm
 have HN := zh hn; clear hn
 have HLE := zh hle; clear hle
 have hmk := mk32 m (by omega) (m : Int) rfl
 go_enter Try.func43, Try.ntmps43
 go_wp2
 clear hmk
 go_loopw [6, 14] (fun c i wr => ∃ k : Nat, k ≤ m ∧ i = .int .i64 k ∧ c = .int .i64 (borrow x y k : Nat) ∧ Below w.heap.size w wr ∧ Blk wr w.heap.size 75 (part k m (x - y))) (fun _ i _ => m - (intOf i).toNat)
 case atStart =>
  refine ⟨0, Nat.zero_le _, rfl, by rw [borrow_zero HLE.out]; rfl, (Below.refl _ _).alloc (Nat.le_refl _) _, ?_⟩
  rw [part_zero]
  exact Blk.zero w 75 (.int .u32 0) m
 case round =>
  obtain ⟨k, hk, rfl, rfl, hbel, hrow⟩ := hrel
  have HB := zh hbel; clear hbel
  have HR := zh hrow; clear hrow
  have hst := sub_step HLE.out k
  have hc1 := (borrow_div HLE.out k).2
  obtain ⟨c, hc⟩ : ∃ c, c = borrow x y k := ⟨_, rfl⟩
  rw [← hc] at hst hc1 ⊢
  clear hc
  obtain ⟨d, hd⟩ : ∃ d, d = dig x k := ⟨_, rfl⟩
  have hd32 : d < 4294967296 := by rw [hd]; exact dig_lt _ _
  obtain ⟨e, he⟩ : ∃ e, e = dig y k := ⟨_, rfl⟩
  have he32 : e < 4294967296 := by rw [he]; exact dig_lt _ _
  rw [← hd, ← he] at hst
  by_cases hkm : k < m
  ·
   have hcell := HR.out.cell (part_at (x := x - y) hkm)
   have hfz := HR.out.frozen k
   obtain ⟨bx, ox, rfl, hbx, hcx⟩ := HX.out.at_ (by omega)
   have c1 := hcx k _ (cs32_get (dg_get x k (by rw [← HM.out]; omega)))
   rw [← HB.out.cell (p := ⟨bx, ox + k, none⟩) hbx, ← hd] at c1
   clear hcx
   have HD := zh hd; clear hd
   by_cases hkn : k < n
   ·
    obtain ⟨by_, oy, rfl, hby, hcy⟩ := HY.out.at_ (by omega)
    have c2 := hcy k _ (cs32_get (dg_get y k (by rw [← HN.out]; omega)))
    rw [← HB.out.cell (p := ⟨by_, oy + k, none⟩) hby, ← he] at c2
    clear hcy
    have HE := zh he; clear he
    by_cases hlt : d < c + e
    ·
     rw [if_pos hlt, if_pos hlt] at hst
     have HST := zh hst; clear hst
     have hneg : (d : Int) - c - e < 0 := by omega
     go_wp2
     go_roundw
     case rel =>
      refine ⟨k + 1, by omega, by go_num, ?_, HB.out.setCell (p := ⟨w.heap.size, k, none⟩) (Nat.le_refl _) _, ?_⟩
      ·
       rw [← HST.out.2]; rfl
      ·
       refine (HR.out.set k _).congr ?_
       rw [← part_set hkm, ← HST.out.1]
       congr 2; omega
     case measure => simp [intOf]; omega
    ·
     rw [if_neg hlt, if_neg hlt] at hst
     have HST := zh hst; clear hst
     have hneg : ¬ (d : Int) - c - e < 0 := by omega
     go_wp2
     go_roundw
     case rel =>
      refine ⟨k + 1, by omega, by go_num, ?_, HB.out.setCell (p := ⟨w.heap.size, k, none⟩) (Nat.le_refl _) _, ?_⟩
      ·
       rw [← HST.out.2]; rfl
      ·
       refine (HR.out.set k _).congr ?_
       rw [← part_set hkm, ← HST.out.1]
       congr 2; omega
     case measure => simp [intOf]; omega
   ·
    have he0 : e = 0 := by rw [he]; exact dig_beyond _ _ (by rw [← HN.out]; omega)
    subst he0
    clear he
    by_cases hlt : d < c + 0
    ·
     rw [if_pos hlt, if_pos hlt] at hst
     have HST := zh hst; clear hst
     have hneg : (d : Int) - c < 0 := by omega
     go_wp2
     go_roundw
     case rel =>
      refine ⟨k + 1, by omega, by go_num, ?_, HB.out.setCell (p := ⟨w.heap.size, k, none⟩) (Nat.le_refl _) _, ?_⟩
      ·
       rw [← HST.out.2]; rfl
      ·
       refine (HR.out.set k _).congr ?_
       rw [← part_set hkm, ← HST.out.1]
       congr 2; omega
     case measure => simp [intOf]; omega
    ·
     rw [if_neg hlt, if_neg hlt] at hst
     have HST := zh hst; clear hst
     have hneg : ¬ (d : Int) - c < 0 := by omega
     go_wp2
     go_roundw
     case rel =>
      refine ⟨k + 1, by omega, by go_num, ?_, HB.out.setCell (p := ⟨w.heap.size, k, none⟩) (Nat.le_refl _) _, ?_⟩
      ·
       rw [← HST.out.2]; rfl
      ·
       refine (HR.out.set k _).congr ?_
       rw [← part_set hkm, ← HST.out.1]
       congr 2; omega
     case measure => simp [intOf]; omega
  ·
   obtain rfl : k = m := by omega
   clear hd he hst
   have hrow : Row wr (.slice (some ⟨w.heap.size, 0, none⟩) k k) (Dn k (x - y)).length (cs32 (Dn k (x - y))) := by
    have h := HR.out
    rw [part_full] at h
    have h2 := Row.ofBlk h (m := k) (cap := k) (Nat.le_refl _) (by unfold maxLen; omega) k
    rw [List.take_of_length_le (by simp [cs32, Dn_length])] at h2
    rw [Dn_length]; exact h2
   have HRW := zh hrow; clear hrow
   go_wp2_with (go_at_call 58; refine (trim_any _ _ _ HRW.out).mono ?_; rintro e w' ⟨rfl, v', rfl, hv'⟩)
   go_ret
   refine ⟨HB.out, v', rfl, ?_⟩
   have hlt2 : x - y < 4294967296 ^ k := by
    have h2 : x < 4294967296 ^ k := by rw [HM.out]; exact lt_pow_dg x
    omega
   rwa [tz_Dn hlt2] at hv'
end Go.Proofs.Ytjpalbonclgflaa
