/- grooveref22.Expand, where it refuses (printed by gen_rexpe.py). -/
import Derived.Test.YthpgeeaccmgbkaaGreatPart18
import Derived.Test.YthpgeeaccmgbkaaGreatPart15
import Derived.Test.YthpgeeaccmgbkaaGreatR22E
import Derived.Test.YthpgeeaccmgbkaaGreatPart17
namespace Go.Proofs.YthpgeeaccmgbkaaGreat
open Go.RowKit

theorem odd_all {l : List (Bool × ByteArray)} (h : ∀ j, j < l.length → ∀ x, l[j]? = some x → cnB x.1 x.2 = true) : oddB l = false := by
 unfold oddB
 rw [List.any_eq_false]
 intro x hx
 obtain ⟨j, hj, rfl⟩ := List.getElem_of_mem hx
 simp [h j hj _ (List.getElem?_eq_getElem hj)]
set_option maxRecDepth 100000 in
set_option maxHeartbeats 3200000 in
theorem rexpE_odd (l1 l2 : List (Bool × ByteArray)) (v1 v2 : Value) (n : Int) (w : World) (hr1 : Row w v1 l1.length (cnv l1)) (hr2 : Row w v2 l2.length (cnv l2)) (hs1 : ∀ x ∈ l1, x.2.size ≤ 1099511627775) (hs2 : ∀ x ∈ l2, x.2.size ≤ 1099511627775) (ho : (oddB l1 || oddB l2) = true) :
  Calls Tryz.prog 23 #[v1, v2, .int .i64 n] w (LstRet [] 1 w) := by
 have hck := fun (a : Bool) (s : ByteArray) w' (h : s.size ≤ 1099511627775) => rcheck01_any a s w' h
 obtain ⟨va, vc, rfl, hle1⟩ := hr1.slice
 obtain ⟨vb, vd, rfl, hle2⟩ := hr2.slice
 have hg1 : ∀ k, k < l1.length → ∃ x, l1[k]? = some x ∧ x.2.size ≤ 1099511627775 := fun k hk => ⟨l1[k], List.getElem?_eq_getElem hk, hs1 _ (List.getElem_mem hk)⟩
 have hg2 : ∀ k, k < l2.length → ∃ x, l2[k]? = some x ∧ x.2.size ≤ 1099511627775 := fun k hk => ⟨l2[k], List.getElem?_eq_getElem hk, hs2 _ (List.getElem_mem hk)⟩
 have ha1 := @odd_all l1
 have ha2 := @odd_all l2
 obtain ⟨m1, hm1⟩ : ∃ m, m = l1.length := ⟨_, rfl⟩
 obtain ⟨m2, hm2⟩ : ∃ m, m = l2.length := ⟨_, rfl⟩
 rw [← hm1] at hr1 hg1 ha1 hle1 ⊢
 rw [← hm2] at hr2 hg2 ha2 hle2 ⊢
 have HCK := Lib.hid hck; clear hck
 have HR1 := Lib.hid hr1; clear hr1
 have HR2 := Lib.hid hr2; clear hr2
 have HGl1 := Lib.hid hg1; clear hg1
 have HGl2 := Lib.hid hg2; clear hg2
 have HA1 := Lib.hid ha1; clear ha1
 have HA2 := Lib.hid ha2; clear ha2
 have HO := Lib.hid ho; clear ho
 clear hs1 hs2 hm1 hm2
 go_enter Tryz.func23, Tryz.ntmps23
 go_wp2_with fail
 go_loopw [8] (fun i wr => ∃ k : Nat, k ≤ m1 ∧ i = .int .i64 (k : Int) ∧ Below w.heap.size w wr ∧ ∀ j, j < k → ∀ x, l1[j]? = some x → cnB x.1 x.2 = true) (fun i _ => m1 - (intOf i).toNat)
 case atStart => exact ⟨0, Nat.zero_le _, rfl, Below.refl _ _, fun j hj => absurd hj (Nat.not_lt_zero _)⟩
 case round =>
  obtain ⟨ka, hkka, rfl, hbel, hev⟩ := hrel
  by_cases hlt : ka < m1
  ·
   have tk : decide ((ka : Int) < (m1 : Int)) = true := by simp; omega
   obtain ⟨x, hx, hxs⟩ := HGl1.out ka hlt
   obtain ⟨b1, o1, rfl, hb1, hc1⟩ := HR1.out.at_ (by omega)
   obtain ⟨q0, q1⟩ := num_cells hc1 hbel hb1 hx
   have hix1 : (0 : Int) ≤ (ka : Int) := by omega
   have hix2 : (ka : Int) < (m1 : Int) := by omega
   have hck := fun w' => HCK.out x.1 x.2 w' hxs
   have hev2 : cnB x.1 x.2 = true → ∀ j, j < ka + 1 → ∀ y, l1[j]? = some y → cnB y.1 y.2 = true := fun hc j hj y hy => by
    by_cases e : j = ka
    ·
     subst e; rw [hx] at hy; obtain rfl := Option.some.inj hy; exact hc
    ·
     exact hev j (by omega) y hy
   obtain ⟨x1, x2⟩ := x
   dsimp only at q0 q1 hck hev2
   obtain ⟨cb, hcb⟩ : ∃ cb, cb = cnB x1 x2 := ⟨_, rfl⟩
   rw [← hcb] at hck hev2
   have HBEL := Lib.hid hbel; clear hbel
   have HEV2 := Lib.hid hev2; clear hev2
   clear hx hxs hc1 hev hcb
   cases cb with
   | true =>
    simp only [chkZ] at hck
    have HCKZ := Lib.hid hck; clear hck
    go_wp2_with fail
    go_at_call 62
    refine (HCKZ.out _).mono ?_
    rintro e wk ⟨hq, rfl⟩
    have hb2 := HBEL.out.trans (hq.mono HBEL.out.size)
    have HB2 := Lib.hid hb2; clear hb2
    clear hq q0 q1
    go_wp2_with fail
    go_roundw
    case rel => exact ⟨ka + 1, by omega, by go_num, HB2.out, HEV2.out (by simp)⟩
    case measure => simp [intOf]; omega
   | false =>
    simp only [chkZ] at hck
    have HCKZ := Lib.hid hck; clear hck
    go_wp2_with fail
    go_at_call 62
    refine (HCKZ.out _).mono ?_
    rintro e wk ⟨hq, rfl⟩
    have hb2 := HBEL.out.trans (hq.mono HBEL.out.size)
    have HB2 := Lib.hid hb2; clear hb2
    clear hq q0 q1
    go_wp2_with fail
    refine bodyPost_ret (v := .tuple #[.slice (some ⟨wk.heap.size, 0, none⟩) 0 0, .int .i64 1]) (by simp [results, Tryz.results23, go_sem]) rfl ⟨HB2.out.alloc HB2.out.size _, _, rfl, Row.ofBlk (Blk.new wk 28 []) (m := 0) (cap := 0) (Nat.le_refl _) (by unfold maxLen; omega) 0⟩
  ·
   have tk : decide ((ka : Int) < (m1 : Int)) = false := by simp; omega
   have hkm : ka = m1 := by omega
   rw [hkm] at hev
   obtain ⟨wa, rfl⟩ : ∃ wa : World, wa = wr := ⟨_, rfl⟩
   have he1 := HA1.out hev
   have HE1 := Lib.hid he1; clear he1
   have HBA := Lib.hid hbel; clear hbel
   clear hev hkm
   go_wp2_with fail
   go_loopw [9] (fun i wr => ∃ k : Nat, k ≤ m2 ∧ i = .int .i64 (k : Int) ∧ Below w.heap.size w wr ∧ ∀ j, j < k → ∀ x, l2[j]? = some x → cnB x.1 x.2 = true) (fun i _ => m2 - (intOf i).toNat)
   case atStart => exact ⟨0, Nat.zero_le _, rfl, HBA.out, fun j hj => absurd hj (Nat.not_lt_zero _)⟩
   case round =>
    obtain ⟨kb, hkkb, rfl, hbel, hev⟩ := hrel
    by_cases hlt : kb < m2
    ·
     have tk : decide ((kb : Int) < (m2 : Int)) = true := by simp; omega
     obtain ⟨x, hx, hxs⟩ := HGl2.out kb hlt
     obtain ⟨b1, o1, rfl, hb1, hc1⟩ := HR2.out.at_ (by omega)
     obtain ⟨q0, q1⟩ := num_cells hc1 hbel hb1 hx
     have hix1 : (0 : Int) ≤ (kb : Int) := by omega
     have hix2 : (kb : Int) < (m2 : Int) := by omega
     have hck := fun w' => HCK.out x.1 x.2 w' hxs
     have hev2 : cnB x.1 x.2 = true → ∀ j, j < kb + 1 → ∀ y, l2[j]? = some y → cnB y.1 y.2 = true := fun hc j hj y hy => by
      by_cases e : j = kb
      ·
       subst e; rw [hx] at hy; obtain rfl := Option.some.inj hy; exact hc
      ·
       exact hev j (by omega) y hy
     obtain ⟨x1, x2⟩ := x
     dsimp only at q0 q1 hck hev2
     obtain ⟨cb, hcb⟩ : ∃ cb, cb = cnB x1 x2 := ⟨_, rfl⟩
     rw [← hcb] at hck hev2
     have HBEL := Lib.hid hbel; clear hbel
     have HEV2 := Lib.hid hev2; clear hev2
     clear hx hxs hc1 hev hcb
     cases cb with
     | true =>
      simp only [chkZ] at hck
      have HCKZ := Lib.hid hck; clear hck
      go_wp2_with fail
      go_at_call 62
      refine (HCKZ.out _).mono ?_
      rintro e wk ⟨hq, rfl⟩
      have hb2 := HBEL.out.trans (hq.mono HBEL.out.size)
      have HB2 := Lib.hid hb2; clear hb2
      clear hq q0 q1
      go_wp2_with fail
      go_roundw
      case rel => exact ⟨kb + 1, by omega, by go_num, HB2.out, HEV2.out (by simp)⟩
      case measure => simp [intOf]; omega
     | false =>
      simp only [chkZ] at hck
      have HCKZ := Lib.hid hck; clear hck
      go_wp2_with fail
      go_at_call 62
      refine (HCKZ.out _).mono ?_
      rintro e wk ⟨hq, rfl⟩
      have hb2 := HBEL.out.trans (hq.mono HBEL.out.size)
      have HB2 := Lib.hid hb2; clear hb2
      clear hq q0 q1
      go_wp2_with fail
      refine bodyPost_ret (v := .tuple #[.slice (some ⟨wk.heap.size, 0, none⟩) 0 0, .int .i64 1]) (by simp [results, Tryz.results23, go_sem]) rfl ⟨HB2.out.alloc HB2.out.size _, _, rfl, Row.ofBlk (Blk.new wk 28 []) (m := 0) (cap := 0) (Nat.le_refl _) (by unfold maxLen; omega) 0⟩
    ·
     have tk : decide ((kb : Int) < (m2 : Int)) = false := by simp; omega
     have hkm : kb = m2 := by omega
     rw [hkm] at hev
     obtain ⟨wb, rfl⟩ : ∃ wb : World, wb = wr := ⟨_, rfl⟩
     have he2 := HA2.out hev
     have ho := HO.out
     rw [HE1.out, he2] at ho
     exact absurd ho (by simp)
set_option maxRecDepth 100000 in
set_option maxHeartbeats 3200000 in
theorem rexpE_lena (p : Nat) (n : Int) (N D : List Int) (v1 v2 : Value) (w : World) (hr1 : Row w v1 N.length (civ N)) (hr2 : Row w v2 D.length (civ D)) (hN : ∀ z ∈ N, sm p z) (hD : ∀ z ∈ D, sm p z) (hp : p ≤ 100) (hl : 65 < N.length) :
  Calls Tryz.prog 23 #[v1, v2, .int .i64 n] w (LstRet [] 4 w) := by
 have hck := fun (z : Int) w' (h : sm p z) => rcheck01_any (ineg z) (imag z) w' (Nat.le_trans h.size (by omega))
 simp only [cnB_can, chkZ] at hck
 have hNX : ∀ k, k < N.length → ∃ z, N[k]? = some z ∧ sm p z := fun k hk => ⟨N[k], List.getElem?_eq_getElem hk, hN _ (List.getElem_mem hk)⟩
 have hDX : ∀ k, k < D.length → ∃ z, D[k]? = some z ∧ sm p z := fun k hk => ⟨D[k], List.getElem?_eq_getElem hk, hD _ (List.getElem_mem hk)⟩
 obtain ⟨va, vc, rfl, hle1⟩ := hr1.slice
 obtain ⟨vb, vd, rfl, hle2⟩ := hr2.slice
 obtain ⟨m1, hm1⟩ : ∃ m, m = N.length := ⟨_, rfl⟩
 obtain ⟨m2, hm2⟩ : ∃ m, m = D.length := ⟨_, rfl⟩
 rw [← hm1] at hl
 have t1 : decide (65 < (m1 : Int)) = true := by simp; omega
 rw [← hm1] at hr1 hNX hle1 ⊢
 rw [← hm2] at hr2 hDX hle2 ⊢
 have HCK := Lib.hid hck; clear hck
 have HNX := Lib.hid hNX; clear hNX
 have HDX := Lib.hid hDX; clear hDX
 have HR1 := Lib.hid hr1; clear hr1
 have HR2 := Lib.hid hr2; clear hr2
 clear hN hD hm1 hm2
 go_enter Tryz.func23, Tryz.ntmps23
 go_wp2_with fail
 go_loopw [8] (fun i wr => ∃ k : Nat, k ≤ m1 ∧ i = .int .i64 (k : Int) ∧ Below w.heap.size w wr) (fun i _ => m1 - (intOf i).toNat)
 case atStart => exact ⟨0, Nat.zero_le _, rfl, Below.refl _ _⟩
 case round =>
  obtain ⟨ka, hkka, rfl, hbel⟩ := hrel
  by_cases hltka : ka < m1
  ·
   have tk : decide ((ka : Int) < (m1 : Int)) = true := by simp; omega
   obtain ⟨z, hz, hzs⟩ := HNX.out ka hltka
   obtain ⟨b1', o1', rfl, hb1', hc1'⟩ := HR1.out.at_ (by omega)
   obtain ⟨q0, q1⟩ := int_cells hc1' hbel hb1' hz
   clear hc1'
   have hix1 : (0 : Int) ≤ (ka : Int) := by omega
   have hix2 : (ka : Int) < (m1 : Int) := by omega
   have hck := fun w' => HCK.out z w' hzs
   have HCKZ := Lib.hid hck; clear hck
   have HBEL := Lib.hid hbel; clear hbel
   clear hz hzs
   go_wp2_with fail
   go_at_call 62
   refine (HCKZ.out _).mono ?_
   rintro e wk ⟨hq, rfl⟩
   have hb2 := HBEL.out.trans (hq.mono HBEL.out.size)
   have HB2 := Lib.hid hb2; clear hb2
   clear hq q0 q1
   go_wp2_with fail
   go_roundw
   case rel => exact ⟨ka + 1, by omega, by go_num, HB2.out⟩
   case measure => simp [intOf]; omega
  ·
   have tkka : decide ((ka : Int) < (m1 : Int)) = false := by simp; omega
   obtain ⟨wa, rfl⟩ : ∃ wa : World, wa = wr := ⟨_, rfl⟩
   have HBA := Lib.hid hbel; clear hbel
   go_wp2_with fail
   go_loopw [9] (fun i wr => ∃ k : Nat, k ≤ m2 ∧ i = .int .i64 (k : Int) ∧ Below w.heap.size w wr) (fun i _ => m2 - (intOf i).toNat)
   case atStart => exact ⟨0, Nat.zero_le _, rfl, HBA.out⟩
   case round =>
    obtain ⟨kb, hkkb, rfl, hbel⟩ := hrel
    by_cases hltkb : kb < m2
    ·
     have tk : decide ((kb : Int) < (m2 : Int)) = true := by simp; omega
     obtain ⟨z, hz, hzs⟩ := HDX.out kb hltkb
     obtain ⟨b2', o2', rfl, hb2', hc2'⟩ := HR2.out.at_ (by omega)
     obtain ⟨q0, q1⟩ := int_cells hc2' hbel hb2' hz
     clear hc2'
     have hix1 : (0 : Int) ≤ (kb : Int) := by omega
     have hix2 : (kb : Int) < (m2 : Int) := by omega
     have hck := fun w' => HCK.out z w' hzs
     have HCKZ := Lib.hid hck; clear hck
     have HBEL := Lib.hid hbel; clear hbel
     clear hz hzs
     go_wp2_with fail
     go_at_call 62
     refine (HCKZ.out _).mono ?_
     rintro e wk ⟨hq, rfl⟩
     have hb2 := HBEL.out.trans (hq.mono HBEL.out.size)
     have HB2 := Lib.hid hb2; clear hb2
     clear hq q0 q1
     go_wp2_with fail
     go_roundw
     case rel => exact ⟨kb + 1, by omega, by go_num, HB2.out⟩
     case measure => simp [intOf]; omega
    ·
     have tkkb : decide ((kb : Int) < (m2 : Int)) = false := by simp; omega
     obtain ⟨w2, rfl⟩ : ∃ w2 : World, w2 = wr := ⟨_, rfl⟩
     have s2 := hbel
     have S2 := Lib.hid s2; clear s2
     clear hbel
     go_wp2_with fail
     refine bodyPost_ret (v := .tuple #[.slice (some ⟨w2.heap.size, 0, none⟩) 0 0, .int .i64 4]) (by simp [results, Tryz.results23, go_sem]) rfl ⟨S2.out.alloc S2.out.size _, _, rfl, Row.ofBlk (Blk.new w2 28 []) (m := 0) (cap := 0) (Nat.le_refl _) (by unfold maxLen; omega) 0⟩
set_option maxRecDepth 100000 in
set_option maxHeartbeats 3200000 in
theorem rexpE_lenb (p : Nat) (n : Int) (N D : List Int) (v1 v2 : Value) (w : World) (hr1 : Row w v1 N.length (civ N)) (hr2 : Row w v2 D.length (civ D)) (hN : ∀ z ∈ N, sm p z) (hD : ∀ z ∈ D, sm p z) (hp : p ≤ 100) (hl : ¬ 65 < N.length ∧ 65 < D.length) :
  Calls Tryz.prog 23 #[v1, v2, .int .i64 n] w (LstRet [] 4 w) := by
 have hck := fun (z : Int) w' (h : sm p z) => rcheck01_any (ineg z) (imag z) w' (Nat.le_trans h.size (by omega))
 simp only [cnB_can, chkZ] at hck
 have hNX : ∀ k, k < N.length → ∃ z, N[k]? = some z ∧ sm p z := fun k hk => ⟨N[k], List.getElem?_eq_getElem hk, hN _ (List.getElem_mem hk)⟩
 have hDX : ∀ k, k < D.length → ∃ z, D[k]? = some z ∧ sm p z := fun k hk => ⟨D[k], List.getElem?_eq_getElem hk, hD _ (List.getElem_mem hk)⟩
 obtain ⟨va, vc, rfl, hle1⟩ := hr1.slice
 obtain ⟨vb, vd, rfl, hle2⟩ := hr2.slice
 obtain ⟨m1, hm1⟩ : ∃ m, m = N.length := ⟨_, rfl⟩
 obtain ⟨m2, hm2⟩ : ∃ m, m = D.length := ⟨_, rfl⟩
 rw [← hm1, ← hm2] at hl
 have t1 : decide (65 < (m1 : Int)) = false := by simp; omega
 have t2 : decide (65 < (m2 : Int)) = true := by simp; omega
 rw [← hm1] at hr1 hNX hle1 ⊢
 rw [← hm2] at hr2 hDX hle2 ⊢
 have HCK := Lib.hid hck; clear hck
 have HNX := Lib.hid hNX; clear hNX
 have HDX := Lib.hid hDX; clear hDX
 have HR1 := Lib.hid hr1; clear hr1
 have HR2 := Lib.hid hr2; clear hr2
 clear hN hD hm1 hm2
 go_enter Tryz.func23, Tryz.ntmps23
 go_wp2_with fail
 go_loopw [8] (fun i wr => ∃ k : Nat, k ≤ m1 ∧ i = .int .i64 (k : Int) ∧ Below w.heap.size w wr) (fun i _ => m1 - (intOf i).toNat)
 case atStart => exact ⟨0, Nat.zero_le _, rfl, Below.refl _ _⟩
 case round =>
  obtain ⟨ka, hkka, rfl, hbel⟩ := hrel
  by_cases hltka : ka < m1
  ·
   have tk : decide ((ka : Int) < (m1 : Int)) = true := by simp; omega
   obtain ⟨z, hz, hzs⟩ := HNX.out ka hltka
   obtain ⟨b1', o1', rfl, hb1', hc1'⟩ := HR1.out.at_ (by omega)
   obtain ⟨q0, q1⟩ := int_cells hc1' hbel hb1' hz
   clear hc1'
   have hix1 : (0 : Int) ≤ (ka : Int) := by omega
   have hix2 : (ka : Int) < (m1 : Int) := by omega
   have hck := fun w' => HCK.out z w' hzs
   have HCKZ := Lib.hid hck; clear hck
   have HBEL := Lib.hid hbel; clear hbel
   clear hz hzs
   go_wp2_with fail
   go_at_call 62
   refine (HCKZ.out _).mono ?_
   rintro e wk ⟨hq, rfl⟩
   have hb2 := HBEL.out.trans (hq.mono HBEL.out.size)
   have HB2 := Lib.hid hb2; clear hb2
   clear hq q0 q1
   go_wp2_with fail
   go_roundw
   case rel => exact ⟨ka + 1, by omega, by go_num, HB2.out⟩
   case measure => simp [intOf]; omega
  ·
   have tkka : decide ((ka : Int) < (m1 : Int)) = false := by simp; omega
   obtain ⟨wa, rfl⟩ : ∃ wa : World, wa = wr := ⟨_, rfl⟩
   have HBA := Lib.hid hbel; clear hbel
   go_wp2_with fail
   go_loopw [9] (fun i wr => ∃ k : Nat, k ≤ m2 ∧ i = .int .i64 (k : Int) ∧ Below w.heap.size w wr) (fun i _ => m2 - (intOf i).toNat)
   case atStart => exact ⟨0, Nat.zero_le _, rfl, HBA.out⟩
   case round =>
    obtain ⟨kb, hkkb, rfl, hbel⟩ := hrel
    by_cases hltkb : kb < m2
    ·
     have tk : decide ((kb : Int) < (m2 : Int)) = true := by simp; omega
     obtain ⟨z, hz, hzs⟩ := HDX.out kb hltkb
     obtain ⟨b2', o2', rfl, hb2', hc2'⟩ := HR2.out.at_ (by omega)
     obtain ⟨q0, q1⟩ := int_cells hc2' hbel hb2' hz
     clear hc2'
     have hix1 : (0 : Int) ≤ (kb : Int) := by omega
     have hix2 : (kb : Int) < (m2 : Int) := by omega
     have hck := fun w' => HCK.out z w' hzs
     have HCKZ := Lib.hid hck; clear hck
     have HBEL := Lib.hid hbel; clear hbel
     clear hz hzs
     go_wp2_with fail
     go_at_call 62
     refine (HCKZ.out _).mono ?_
     rintro e wk ⟨hq, rfl⟩
     have hb2 := HBEL.out.trans (hq.mono HBEL.out.size)
     have HB2 := Lib.hid hb2; clear hb2
     clear hq q0 q1
     go_wp2_with fail
     go_roundw
     case rel => exact ⟨kb + 1, by omega, by go_num, HB2.out⟩
     case measure => simp [intOf]; omega
    ·
     have tkkb : decide ((kb : Int) < (m2 : Int)) = false := by simp; omega
     obtain ⟨w2, rfl⟩ : ∃ w2 : World, w2 = wr := ⟨_, rfl⟩
     have s2 := hbel
     have S2 := Lib.hid s2; clear s2
     clear hbel
     go_wp2_with fail
     refine bodyPost_ret (v := .tuple #[.slice (some ⟨w2.heap.size, 0, none⟩) 0 0, .int .i64 4]) (by simp [results, Tryz.results23, go_sem]) rfl ⟨S2.out.alloc S2.out.size _, _, rfl, Row.ofBlk (Blk.new w2 28 []) (m := 0) (cap := 0) (Nat.le_refl _) (by unfold maxLen; omega) 0⟩
set_option maxRecDepth 100000 in
set_option maxHeartbeats 3200000 in
theorem rexpE_none (p : Nat) (n : Int) (N D : List Int) (v1 v2 : Value) (w : World) (hr1 : Row w v1 N.length (civ N)) (hr2 : Row w v2 D.length (civ D)) (hN : ∀ z ∈ N, sm p z) (hD : ∀ z ∈ D, sm p z) (hp : p ≤ 100) (hl1 : N.length ≤ 65) (hl2 : D.length = 0) :
  Calls Tryz.prog 23 #[v1, v2, .int .i64 n] w (LstRet [] 9 w) := by
 have hck := fun (z : Int) w' (h : sm p z) => rcheck01_any (ineg z) (imag z) w' (Nat.le_trans h.size (by omega))
 simp only [cnB_can, chkZ] at hck
 have hNX : ∀ k, k < N.length → ∃ z, N[k]? = some z ∧ sm p z := fun k hk => ⟨N[k], List.getElem?_eq_getElem hk, hN _ (List.getElem_mem hk)⟩
 have hDX : ∀ k, k < D.length → ∃ z, D[k]? = some z ∧ sm p z := fun k hk => ⟨D[k], List.getElem?_eq_getElem hk, hD _ (List.getElem_mem hk)⟩
 obtain ⟨va, vc, rfl, hle1⟩ := hr1.slice
 obtain ⟨vb, vd, rfl, hle2⟩ := hr2.slice
 obtain ⟨m1, hm1⟩ : ∃ m, m = N.length := ⟨_, rfl⟩
 obtain ⟨m2, hm2⟩ : ∃ m, m = D.length := ⟨_, rfl⟩
 rw [← hm1] at hl1
 rw [← hm2] at hl2
 have t1 : decide (65 < (m1 : Int)) = false := by simp; omega
 have t2 : decide (65 < (m2 : Int)) = false := by simp; omega
 have t3 : ((m2 : Int) == 0) = true := by simp; omega
 have hl2' : m2 ≤ 0 := by omega
 clear hl2
 rw [← hm1] at hr1 hNX hle1 ⊢
 rw [← hm2] at hr2 hDX hle2 ⊢
 have HCK := Lib.hid hck; clear hck
 have HNX := Lib.hid hNX; clear hNX
 have HDX := Lib.hid hDX; clear hDX
 have HR1 := Lib.hid hr1; clear hr1
 have HR2 := Lib.hid hr2; clear hr2
 clear hN hD hm1 hm2
 go_enter Tryz.func23, Tryz.ntmps23
 go_wp2_with fail
 go_loopw [8] (fun i wr => ∃ k : Nat, k ≤ m1 ∧ i = .int .i64 (k : Int) ∧ Below w.heap.size w wr) (fun i _ => m1 - (intOf i).toNat)
 case atStart => exact ⟨0, Nat.zero_le _, rfl, Below.refl _ _⟩
 case round =>
  obtain ⟨ka, hkka, rfl, hbel⟩ := hrel
  by_cases hltka : ka < m1
  ·
   have tk : decide ((ka : Int) < (m1 : Int)) = true := by simp; omega
   obtain ⟨z, hz, hzs⟩ := HNX.out ka hltka
   obtain ⟨b1', o1', rfl, hb1', hc1'⟩ := HR1.out.at_ (by omega)
   obtain ⟨q0, q1⟩ := int_cells hc1' hbel hb1' hz
   clear hc1'
   have hix1 : (0 : Int) ≤ (ka : Int) := by omega
   have hix2 : (ka : Int) < (m1 : Int) := by omega
   have hck := fun w' => HCK.out z w' hzs
   have HCKZ := Lib.hid hck; clear hck
   have HBEL := Lib.hid hbel; clear hbel
   clear hz hzs
   go_wp2_with fail
   go_at_call 62
   refine (HCKZ.out _).mono ?_
   rintro e wk ⟨hq, rfl⟩
   have hb2 := HBEL.out.trans (hq.mono HBEL.out.size)
   have HB2 := Lib.hid hb2; clear hb2
   clear hq q0 q1
   go_wp2_with fail
   go_roundw
   case rel => exact ⟨ka + 1, by omega, by go_num, HB2.out⟩
   case measure => simp [intOf]; omega
  ·
   have tkka : decide ((ka : Int) < (m1 : Int)) = false := by simp; omega
   obtain ⟨wa, rfl⟩ : ∃ wa : World, wa = wr := ⟨_, rfl⟩
   have HBA := Lib.hid hbel; clear hbel
   go_wp2_with fail
   go_loopw [9] (fun i wr => ∃ k : Nat, k ≤ m2 ∧ i = .int .i64 (k : Int) ∧ Below w.heap.size w wr) (fun i _ => m2 - (intOf i).toNat)
   case atStart => exact ⟨0, Nat.zero_le _, rfl, HBA.out⟩
   case round =>
    obtain ⟨kb, hkkb, rfl, hbel⟩ := hrel
    by_cases hltkb : kb < m2
    ·
     have tk : decide ((kb : Int) < (m2 : Int)) = true := by simp; omega
     obtain ⟨z, hz, hzs⟩ := HDX.out kb hltkb
     obtain ⟨b2', o2', rfl, hb2', hc2'⟩ := HR2.out.at_ (by omega)
     obtain ⟨q0, q1⟩ := int_cells hc2' hbel hb2' hz
     clear hc2'
     have hix1 : (0 : Int) ≤ (kb : Int) := by omega
     have hix2 : (kb : Int) < (m2 : Int) := by omega
     have hck := fun w' => HCK.out z w' hzs
     have HCKZ := Lib.hid hck; clear hck
     have HBEL := Lib.hid hbel; clear hbel
     clear hz hzs
     go_wp2_with fail
     go_at_call 62
     refine (HCKZ.out _).mono ?_
     rintro e wk ⟨hq, rfl⟩
     have hb2 := HBEL.out.trans (hq.mono HBEL.out.size)
     have HB2 := Lib.hid hb2; clear hb2
     clear hq q0 q1
     go_wp2_with fail
     go_roundw
     case rel => exact ⟨kb + 1, by omega, by go_num, HB2.out⟩
     case measure => simp [intOf]; omega
    ·
     have tkkb : decide ((kb : Int) < (m2 : Int)) = false := by simp; omega
     obtain ⟨w2, rfl⟩ : ∃ w2 : World, w2 = wr := ⟨_, rfl⟩
     have s2 := hbel
     have S2 := Lib.hid s2; clear s2
     clear hbel
     go_wp2_with fail
     refine wp_region_held_drew (S := fun _ => True) (by kernel_rfl) trivial (fun hHeld => ?_)
     refine zT 0 (h := ?_)
     (try simp only [Act.put, zA, zB, zC])
     refine zT 1 (h := ?_)
     (try simp only [Act.put, zA, zB, zC])
     refine zT 2 (h := ?_)
     (try simp only [Act.put, zA, zB, zC])
     refine zT 3 (h := ?_)
     (try simp only [Act.put, zA, zB, zC])
     refine wpAnyH_take (i := 4) (v := undef) rfl (by kernel_rfl) (by kernel_rfl) (by kernel_rfl) (fun _ _ _ h => h) (Or.inr ⟨by kernel_rfl, rfl⟩) (by assumption) ?_
     (try simp only [Act.put, zA, zB, zC])
     refine wpAnyH_take (i := 5) (v := undef) rfl (by kernel_rfl) (by kernel_rfl) (by kernel_rfl) (fun _ _ _ h => h) (Or.inr ⟨by kernel_rfl, rfl⟩) (by assumption) ?_
     (try simp only [Act.put, zA, zB, zC])
     refine wpAnyH_take (i := 6) (v := undef) rfl (by kernel_rfl) (by kernel_rfl) (by kernel_rfl) (fun _ _ _ h => h) (Or.inr ⟨by kernel_rfl, rfl⟩) (by assumption) ?_
     (try simp only [Act.put, zA, zB, zC])
     refine wpAnyH_take (i := 7) (v := undef) rfl (by kernel_rfl) (by kernel_rfl) (by kernel_rfl) (fun _ _ _ h => h) (Or.inr ⟨by kernel_rfl, rfl⟩) (by assumption) ?_
     (try simp only [Act.put, zA, zB, zC])
     refine wpAnyH_take (i := 8) (v := undef) rfl (by kernel_rfl) (by kernel_rfl) (by kernel_rfl) (fun _ _ _ h => h) (Or.inr ⟨by kernel_rfl, rfl⟩) (by assumption) ?_
     (try simp only [Act.put, zA, zB, zC])
     refine wpAnyH_take (i := 9) (v := undef) rfl (by kernel_rfl) (by kernel_rfl) (by kernel_rfl) (fun _ _ _ h => h) (Or.inr ⟨by kernel_rfl, rfl⟩) (by assumption) ?_
     (try simp only [Act.put, zA, zB, zC])
     refine wpAnyH_take (i := 10) (v := undef) rfl (by kernel_rfl) (by kernel_rfl) (by kernel_rfl) (fun _ _ _ h => h) (Or.inr ⟨by kernel_rfl, rfl⟩) (by assumption) ?_
     (try simp only [Act.put, zA, zB, zC])
     refine wpAnyH_take (i := 11) (v := undef) rfl (by kernel_rfl) (by kernel_rfl) (by kernel_rfl) (fun _ _ _ h => h) (Or.inr ⟨by kernel_rfl, rfl⟩) (by assumption) ?_
     (try simp only [Act.put, zA, zB, zC])
     refine wpAnyH_take (i := 12) (v := undef) rfl (by kernel_rfl) (by kernel_rfl) (by kernel_rfl) (fun _ _ _ h => h) (Or.inr ⟨by kernel_rfl, rfl⟩) (by assumption) ?_
     (try simp only [Act.put, zA, zB, zC])
     refine wpAnyH_take (i := 13) (v := undef) rfl (by kernel_rfl) (by kernel_rfl) (by kernel_rfl) (fun _ _ _ h => h) (Or.inr ⟨by kernel_rfl, rfl⟩) (by assumption) ?_
     (try simp only [Act.put, zA, zB, zC])
     refine wpAnyH_take (i := 14) (v := undef) rfl (by kernel_rfl) (by kernel_rfl) (by kernel_rfl) (fun _ _ _ h => h) (Or.inr ⟨by kernel_rfl, rfl⟩) (by assumption) ?_
     (try simp only [Act.put, zA, zB, zC])
     refine wpAnyH_take (i := 15) (v := undef) rfl (by kernel_rfl) (by kernel_rfl) (by kernel_rfl) (fun _ _ _ h => h) (Or.inr ⟨by kernel_rfl, rfl⟩) (by assumption) ?_
     (try simp only [Act.put, zA, zB, zC])
     refine zT 16 (h := ?_)
     (try simp only [Act.put, zA, zB, zC])
     refine wpAnyH_done (by kernel_rfl) ?_ _
     (try simp only [List.getElem_toArray, List.getElem_cons_zero, List.getElem_cons_succ, Act.put, zA, zB, zC])
     go_wp2_with fail
     refine bodyPost_ret (v := .tuple #[.slice (some ⟨w2.drew.heap.size, 0, none⟩) 0 0, .int .i64 9]) (by simp [results, Tryz.results23, go_sem]) rfl ⟨S2.out.drew.alloc S2.out.drew.size _, _, rfl, Row.ofBlk (Blk.new w2.drew 28 []) (m := 0) (cap := 0) (Nat.le_refl _) (by unfold maxLen; omega) 0⟩
set_option maxRecDepth 100000 in
set_option maxHeartbeats 3200000 in
theorem rexpE_den (p : Nat) (n : Int) (N D : List Int) (v1 v2 : Value) (w : World) (hr1 : Row w v1 N.length (civ N)) (hr2 : Row w v2 D.length (civ D)) (hN : ∀ z ∈ N, sm p z) (hD : ∀ z ∈ D, sm p z) (hp : p ≤ 100) (hl1 : N.length ≤ 65) (hl2 : D.length ≤ 65) (D0 : Int) (h0 : D[0]? = some D0) (hD1 : D0 ≠ 1) (hD2 : D0 ≠ -1) :
  Calls Tryz.prog 23 #[v1, v2, .int .i64 n] w (LstRet [] 9 w) := by
 have hck := fun (z : Int) w' (h : sm p z) => rcheck01_any (ineg z) (imag z) w' (Nat.le_trans h.size (by omega))
 simp only [cnB_can, chkZ] at hck
 have hNX : ∀ k, k < N.length → ∃ z, N[k]? = some z ∧ sm p z := fun k hk => ⟨N[k], List.getElem?_eq_getElem hk, hN _ (List.getElem_mem hk)⟩
 have hDX : ∀ k, k < D.length → ∃ z, D[k]? = some z ∧ sm p z := fun k hk => ⟨D[k], List.getElem?_eq_getElem hk, hD _ (List.getElem_mem hk)⟩
 obtain ⟨va, vc, rfl, hle1⟩ := hr1.slice
 obtain ⟨vb, vd, rfl, hle2⟩ := hr2.slice
 obtain ⟨m1, hm1⟩ : ∃ m, m = N.length := ⟨_, rfl⟩
 obtain ⟨m2, hm2⟩ : ∃ m, m = D.length := ⟨_, rfl⟩
 rw [← hm1] at hl1
 rw [← hm2] at hl2
 have t1 : decide (65 < (m1 : Int)) = false := by simp; omega
 have t2 : decide (65 < (m2 : Int)) = false := by simp; omega
 have hlp : 0 < D.length := by
  rcases D with _ | ⟨x, t⟩
  ·
   cases h0
  ·
   simp
 rw [← hm2] at hlp
 have t3 : ((m2 : Int) == 0) = false := by simp; omega
 have hof1 := fun w' => rof_any 1 w' (by decide) (by decide)
 have hof2 := fun w' => rof_any (-1) w' (by decide) (by decide)
 have HOF1 := Lib.hid hof1; clear hof1
 have HOF2 := Lib.hid hof2; clear hof2
 have H0 := Lib.hid h0; clear h0
 have hn1 : ∀ w', (binOp .neq 28 (.agg #[.bool (ineg D0), .string (imag D0)]) (.agg #[.bool (ineg 1), .string (imag 1)])).run Tryz.prog w' = .ok (.bool true) w' := fun w' => by rw [neq_int]; simp [hD1]
 have hn2 : ∀ w', (binOp .neq 28 (.agg #[.bool (ineg D0), .string (imag D0)]) (.agg #[.bool (ineg (-1)), .string (imag (-1))])).run Tryz.prog w' = .ok (.bool true) w' := fun w' => by rw [neq_int]; simp [hD2]
 rw [← hm1] at hr1 hNX hle1 ⊢
 rw [← hm2] at hr2 hDX hle2 ⊢
 obtain ⟨b, off, rfl, hbw, hce⟩ := hr2.at_ (by omega)
 have HCE := Lib.hid hce; clear hce
 have HCK := Lib.hid hck; clear hck
 have HNX := Lib.hid hNX; clear hNX
 have HDX := Lib.hid hDX; clear hDX
 have HR1 := Lib.hid hr1; clear hr1
 have HR2 := Lib.hid hr2; clear hr2
 clear hN hD hm1 hm2
 go_enter Tryz.func23, Tryz.ntmps23
 go_wp2_with fail
 go_loopw [8] (fun i wr => ∃ k : Nat, k ≤ m1 ∧ i = .int .i64 (k : Int) ∧ Below w.heap.size w wr) (fun i _ => m1 - (intOf i).toNat)
 case atStart => exact ⟨0, Nat.zero_le _, rfl, Below.refl _ _⟩
 case round =>
  obtain ⟨ka, hkka, rfl, hbel⟩ := hrel
  by_cases hltka : ka < m1
  ·
   have tk : decide ((ka : Int) < (m1 : Int)) = true := by simp; omega
   obtain ⟨z, hz, hzs⟩ := HNX.out ka hltka
   obtain ⟨b1', o1', rfl, hb1', hc1'⟩ := HR1.out.at_ (by omega)
   obtain ⟨q0, q1⟩ := int_cells hc1' hbel hb1' hz
   clear hc1'
   have hix1 : (0 : Int) ≤ (ka : Int) := by omega
   have hix2 : (ka : Int) < (m1 : Int) := by omega
   have hck := fun w' => HCK.out z w' hzs
   have HCKZ := Lib.hid hck; clear hck
   have HBEL := Lib.hid hbel; clear hbel
   clear hz hzs
   go_wp2_with fail
   go_at_call 62
   refine (HCKZ.out _).mono ?_
   rintro e wk ⟨hq, rfl⟩
   have hb2 := HBEL.out.trans (hq.mono HBEL.out.size)
   have HB2 := Lib.hid hb2; clear hb2
   clear hq q0 q1
   go_wp2_with fail
   go_roundw
   case rel => exact ⟨ka + 1, by omega, by go_num, HB2.out⟩
   case measure => simp [intOf]; omega
  ·
   have tkka : decide ((ka : Int) < (m1 : Int)) = false := by simp; omega
   obtain ⟨wa, rfl⟩ : ∃ wa : World, wa = wr := ⟨_, rfl⟩
   have HBA := Lib.hid hbel; clear hbel
   go_wp2_with fail
   go_loopw [9] (fun i wr => ∃ k : Nat, k ≤ m2 ∧ i = .int .i64 (k : Int) ∧ Below w.heap.size w wr) (fun i _ => m2 - (intOf i).toNat)
   case atStart => exact ⟨0, Nat.zero_le _, rfl, HBA.out⟩
   case round =>
    obtain ⟨kb, hkkb, rfl, hbel⟩ := hrel
    by_cases hltkb : kb < m2
    ·
     have tk : decide ((kb : Int) < (m2 : Int)) = true := by simp; omega
     obtain ⟨z, hz, hzs⟩ := HDX.out kb hltkb
     obtain ⟨q0, q1⟩ := int_cells HCE.out hbel hbw hz
     have hix1 : (0 : Int) ≤ (kb : Int) := by omega
     have hix2 : (kb : Int) < (m2 : Int) := by omega
     have hck := fun w' => HCK.out z w' hzs
     have HCKZ := Lib.hid hck; clear hck
     have HBEL := Lib.hid hbel; clear hbel
     clear hz hzs
     go_wp2_with fail
     go_at_call 62
     refine (HCKZ.out _).mono ?_
     rintro e wk ⟨hq, rfl⟩
     have hb2 := HBEL.out.trans (hq.mono HBEL.out.size)
     have HB2 := Lib.hid hb2; clear hb2
     clear hq q0 q1
     go_wp2_with fail
     go_roundw
     case rel => exact ⟨kb + 1, by omega, by go_num, HB2.out⟩
     case measure => simp [intOf]; omega
    ·
     have tkkb : decide ((kb : Int) < (m2 : Int)) = false := by simp; omega
     obtain ⟨w2, rfl⟩ : ∃ w2 : World, w2 = wr := ⟨_, rfl⟩
     have s2 := hbel
     have S2 := Lib.hid s2; clear s2
     clear hbel
     obtain ⟨c0, c1⟩ := int_cells HCE.out S2.out hbw H0.out
     rw [Nat.zero_mul, Nat.add_zero] at c0
     rw [Nat.zero_mul] at c1
     have hbw2 : b < w2.heap.size := by have := S2.out.size; omega
     have sW := (Below.refl w2.heap.size w2).drew
     go_wp2_with fail
     refine wp_region_held_drew (S := fun w' => w'.cell? ⟨b, off, none⟩ = some (.bool (ineg D0)) ∧ w'.cell? ⟨b, off + (0 + 1), none⟩ = some (.string (imag D0))) (by kernel_rfl) ?_ (fun hHeld => ?_)
     ·
      go_keep
     refine zT 0 (h := ?_)
     (try simp only [Act.put, zA, zB, zC])
     refine zT 1 (h := ?_)
     (try simp only [Act.put, zA, zB, zC])
     refine zT 2 (h := ?_)
     (try simp only [Act.put, zA, zB, zC])
     refine zT 3 (h := ?_)
     (try simp only [Act.put, zA, zB, zC])
     refine zT 4 (h := ?_)
     (try simp only [Act.put, zA, zB, zC])
     refine zT 5 (h := ?_)
     (try simp only [Act.put, zA, zB, zC])
     refine zT 6 (h := ?_)
     (try simp only [Act.put, zA, zB, zC])
     refine zR 7 (h := fun K hK => ?_)
     rw [if_pos (by kernel_rfl)]
     go_simp
     go_at_call 49
     refine (HOF1.out _).mono ?_
     rintro e' wa1 ⟨hq, rfl⟩
     dsimp only
     have z0 := (hq.cell (p := ⟨b, off, none⟩) (show b < w2.heap.size by omega)).trans hHeld.1
     have z1 := (hq.cell (p := ⟨b, off + (0 + 1), none⟩) (show b < w2.heap.size by omega)).trans hHeld.2
     refine hK.out _ _ ⟨z0, z1⟩ (fun hH2 => ?_)
     clear hK K z0  z1
     (try simp only [Act.put, zA, zB, zC])
     have sa3 : Below w2.heap.size w2 wa1 := sW.trans (hq.mono sW.size)
     clear hq
     have hlwa1 : w2.heap.size ≤ wa1.heap.size := sa3.size
     refine zT 8 (h := ?_)
     (try simp only [Act.put, zA, zB, zC])
     refine zT 9 (h := ?_)
     (try simp only [Act.put, zA, zB, zC])
     refine zT 10 (h := ?_)
     (try simp only [Act.put, zA, zB, zC])
     refine zT 11 (h := ?_)
     (try simp only [Act.put, zA, zB, zC])
     refine zT 12 (h := ?_)
     (try simp only [Act.put, zA, zB, zC])
     refine zR 13 (h := fun K hK => ?_)
     rw [if_pos (by kernel_rfl)]
     go_simp
     go_at_call 49
     refine (HOF2.out _).mono ?_
     rintro e' wa5 ⟨hq, rfl⟩
     dsimp only
     have z0 := (hq.cell (p := ⟨b, off, none⟩) (show b < wa1.heap.size by omega)).trans hH2.1
     have z1 := (hq.cell (p := ⟨b, off + (0 + 1), none⟩) (show b < wa1.heap.size by omega)).trans hH2.2
     refine hK.out _ _ ⟨z0, z1⟩ (fun hH6 => ?_)
     clear hK K z0  z1
     (try simp only [Act.put, zA, zB, zC])
     have sa7 : Below w2.heap.size w2 wa5 := sa3.trans (hq.mono sa3.size)
     clear hq
     have hlwa5 : w2.heap.size ≤ wa5.heap.size := sa7.size
     refine zT 14 (h := ?_)
     (try simp only [Act.put, zA, zB, zC])
     refine zT 15 (h := ?_)
     (try simp only [Act.put, zA, zB, zC])
     refine zT 16 (h := ?_)
     (try simp only [Act.put, zA, zB, zC])
     refine wpAnyH_done (by kernel_rfl) ?_ _
     (try simp only [List.getElem_toArray, List.getElem_cons_zero, List.getElem_cons_succ, Act.put, zA, zB, zC])
     have s5 := S2.out.trans (sa7.mono S2.out.size)
     have S5 := Lib.hid s5; clear s5
     go_wp2_with fail
     refine bodyPost_ret (v := .tuple #[.slice (some ⟨wa5.heap.size, 0, none⟩) 0 0, .int .i64 9]) (by simp [results, Tryz.results23, go_sem]) rfl ⟨S5.out.alloc S5.out.size _, _, rfl, Row.ofBlk (Blk.new wa5 28 []) (m := 0) (cap := 0) (Nat.le_refl _) (by unfold maxLen; omega) 0⟩
set_option maxRecDepth 100000 in
set_option maxHeartbeats 3200000 in
theorem rexpE_rng_one (p : Nat) (n : Int) (N D : List Int) (v1 v2 : Value) (w : World) (hr1 : Row w v1 N.length (civ N)) (hr2 : Row w v2 D.length (civ D)) (hN : ∀ z ∈ N, sm p z) (hD : ∀ z ∈ D, sm p z) (hp : p ≤ 100) (hl1 : N.length ≤ 65) (hl2 : D.length ≤ 65) (h0 : D[0]? = some (1)) (hb : n < 0 ∨ 4096 < n) :
  Calls Tryz.prog 23 #[v1, v2, .int .i64 n] w (LstRet [] 2 w) := by
 have hck := fun (z : Int) w' (h : sm p z) => rcheck01_any (ineg z) (imag z) w' (Nat.le_trans h.size (by omega))
 simp only [cnB_can, chkZ] at hck
 have hNX : ∀ k, k < N.length → ∃ z, N[k]? = some z ∧ sm p z := fun k hk => ⟨N[k], List.getElem?_eq_getElem hk, hN _ (List.getElem_mem hk)⟩
 have hDX : ∀ k, k < D.length → ∃ z, D[k]? = some z ∧ sm p z := fun k hk => ⟨D[k], List.getElem?_eq_getElem hk, hD _ (List.getElem_mem hk)⟩
 obtain ⟨va, vc, rfl, hle1⟩ := hr1.slice
 obtain ⟨vb, vd, rfl, hle2⟩ := hr2.slice
 obtain ⟨m1, hm1⟩ : ∃ m, m = N.length := ⟨_, rfl⟩
 obtain ⟨m2, hm2⟩ : ∃ m, m = D.length := ⟨_, rfl⟩
 rw [← hm1] at hl1
 rw [← hm2] at hl2
 have t1 : decide (65 < (m1 : Int)) = false := by simp; omega
 have t2 : decide (65 < (m2 : Int)) = false := by simp; omega
 have hlp : 0 < D.length := by
  rcases D with _ | ⟨x, t⟩
  ·
   cases h0
  ·
   simp
 rw [← hm2] at hlp
 have t3 : ((m2 : Int) == 0) = false := by simp; omega
 have hof1 := fun w' => rof_any 1 w' (by decide) (by decide)
 have hof2 := fun w' => rof_any (-1) w' (by decide) (by decide)
 have HOF1 := Lib.hid hof1; clear hof1
 have HOF2 := Lib.hid hof2; clear hof2
 have H0 := Lib.hid h0; clear h0
 have hn1 : ∀ w', (binOp .neq 28 (.agg #[.bool (ineg (1)), .string (imag (1))]) (.agg #[.bool (ineg 1), .string (imag 1)])).run Tryz.prog w' = .ok (.bool false) w' := fun w' => (neq_int (1) 1 w').trans rfl
 have hb2 : n < 0 ∨ (¬ n < 0 ∧ 4096 < n) := by omega
 clear hb
 rw [← hm1] at hr1 hNX hle1 ⊢
 rw [← hm2] at hr2 hDX hle2 ⊢
 obtain ⟨b, off, rfl, hbw, hce⟩ := hr2.at_ (by omega)
 have HCE := Lib.hid hce; clear hce
 have HCK := Lib.hid hck; clear hck
 have HNX := Lib.hid hNX; clear hNX
 have HDX := Lib.hid hDX; clear hDX
 have HR1 := Lib.hid hr1; clear hr1
 have HR2 := Lib.hid hr2; clear hr2
 clear hN hD hm1 hm2
 go_enter Tryz.func23, Tryz.ntmps23
 go_wp2_with fail
 go_loopw [8] (fun i wr => ∃ k : Nat, k ≤ m1 ∧ i = .int .i64 (k : Int) ∧ Below w.heap.size w wr) (fun i _ => m1 - (intOf i).toNat)
 case atStart => exact ⟨0, Nat.zero_le _, rfl, Below.refl _ _⟩
 case round =>
  obtain ⟨ka, hkka, rfl, hbel⟩ := hrel
  by_cases hltka : ka < m1
  ·
   have tk : decide ((ka : Int) < (m1 : Int)) = true := by simp; omega
   obtain ⟨z, hz, hzs⟩ := HNX.out ka hltka
   obtain ⟨b1', o1', rfl, hb1', hc1'⟩ := HR1.out.at_ (by omega)
   obtain ⟨q0, q1⟩ := int_cells hc1' hbel hb1' hz
   clear hc1'
   have hix1 : (0 : Int) ≤ (ka : Int) := by omega
   have hix2 : (ka : Int) < (m1 : Int) := by omega
   have hck := fun w' => HCK.out z w' hzs
   have HCKZ := Lib.hid hck; clear hck
   have HBEL := Lib.hid hbel; clear hbel
   clear hz hzs
   go_wp2_with fail
   go_at_call 62
   refine (HCKZ.out _).mono ?_
   rintro e wk ⟨hq, rfl⟩
   have hb2 := HBEL.out.trans (hq.mono HBEL.out.size)
   have HB2 := Lib.hid hb2; clear hb2
   clear hq q0 q1
   go_wp2_with fail
   go_roundw
   case rel => exact ⟨ka + 1, by omega, by go_num, HB2.out⟩
   case measure => simp [intOf]; omega
  ·
   have tkka : decide ((ka : Int) < (m1 : Int)) = false := by simp; omega
   obtain ⟨wa, rfl⟩ : ∃ wa : World, wa = wr := ⟨_, rfl⟩
   have HBA := Lib.hid hbel; clear hbel
   go_wp2_with fail
   go_loopw [9] (fun i wr => ∃ k : Nat, k ≤ m2 ∧ i = .int .i64 (k : Int) ∧ Below w.heap.size w wr) (fun i _ => m2 - (intOf i).toNat)
   case atStart => exact ⟨0, Nat.zero_le _, rfl, HBA.out⟩
   case round =>
    obtain ⟨kb, hkkb, rfl, hbel⟩ := hrel
    by_cases hltkb : kb < m2
    ·
     have tk : decide ((kb : Int) < (m2 : Int)) = true := by simp; omega
     obtain ⟨z, hz, hzs⟩ := HDX.out kb hltkb
     obtain ⟨q0, q1⟩ := int_cells HCE.out hbel hbw hz
     have hix1 : (0 : Int) ≤ (kb : Int) := by omega
     have hix2 : (kb : Int) < (m2 : Int) := by omega
     have hck := fun w' => HCK.out z w' hzs
     have HCKZ := Lib.hid hck; clear hck
     have HBEL := Lib.hid hbel; clear hbel
     clear hz hzs
     go_wp2_with fail
     go_at_call 62
     refine (HCKZ.out _).mono ?_
     rintro e wk ⟨hq, rfl⟩
     have hb2 := HBEL.out.trans (hq.mono HBEL.out.size)
     have HB2 := Lib.hid hb2; clear hb2
     clear hq q0 q1
     go_wp2_with fail
     go_roundw
     case rel => exact ⟨kb + 1, by omega, by go_num, HB2.out⟩
     case measure => simp [intOf]; omega
    ·
     have tkkb : decide ((kb : Int) < (m2 : Int)) = false := by simp; omega
     obtain ⟨w2, rfl⟩ : ∃ w2 : World, w2 = wr := ⟨_, rfl⟩
     have s2 := hbel
     have S2 := Lib.hid s2; clear s2
     clear hbel
     obtain ⟨c0, c1⟩ := int_cells HCE.out S2.out hbw H0.out
     rw [Nat.zero_mul, Nat.add_zero] at c0
     rw [Nat.zero_mul] at c1
     have hbw2 : b < w2.heap.size := by have := S2.out.size; omega
     have sW := (Below.refl w2.heap.size w2).drew
     go_wp2_with fail
     refine wp_region_held_drew (S := fun w' => w'.cell? ⟨b, off, none⟩ = some (.bool (ineg (1))) ∧ w'.cell? ⟨b, off + (0 + 1), none⟩ = some (.string (imag (1)))) (by kernel_rfl) ?_ (fun hHeld => ?_)
     ·
      go_keep
     refine zT 0 (h := ?_)
     (try simp only [Act.put, zA, zB, zC])
     refine zT 1 (h := ?_)
     (try simp only [Act.put, zA, zB, zC])
     refine zT 2 (h := ?_)
     (try simp only [Act.put, zA, zB, zC])
     refine zT 3 (h := ?_)
     (try simp only [Act.put, zA, zB, zC])
     refine zT 4 (h := ?_)
     (try simp only [Act.put, zA, zB, zC])
     refine zT 5 (h := ?_)
     (try simp only [Act.put, zA, zB, zC])
     refine zT 6 (h := ?_)
     (try simp only [Act.put, zA, zB, zC])
     refine zR 7 (h := fun K hK => ?_)
     rw [if_pos (by kernel_rfl)]
     go_simp
     go_at_call 49
     refine (HOF1.out _).mono ?_
     rintro e' wa1 ⟨hq, rfl⟩
     dsimp only
     have z0 := (hq.cell (p := ⟨b, off, none⟩) (show b < w2.heap.size by omega)).trans hHeld.1
     have z1 := (hq.cell (p := ⟨b, off + (0 + 1), none⟩) (show b < w2.heap.size by omega)).trans hHeld.2
     refine hK.out _ _ ⟨z0, z1⟩ (fun hH2 => ?_)
     clear hK K z0  z1
     (try simp only [Act.put, zA, zB, zC])
     have sa3 : Below w2.heap.size w2 wa1 := sW.trans (hq.mono sW.size)
     clear hq
     have hlwa1 : w2.heap.size ≤ wa1.heap.size := sa3.size
     refine zT 8 (h := ?_)
     (try simp only [Act.put, zA, zB, zC])
     refine zT 9 (h := ?_)
     (try simp only [Act.put, zA, zB, zC])
     refine wpAnyH_take (i := 10) (v := undef) rfl (by kernel_rfl) (by kernel_rfl) (by kernel_rfl) (fun _ _ _ h => h) (Or.inr ⟨by kernel_rfl, rfl⟩) (by assumption) ?_
     (try simp only [Act.put, zA, zB, zC])
     refine wpAnyH_take (i := 11) (v := undef) rfl (by kernel_rfl) (by kernel_rfl) (by kernel_rfl) (fun _ _ _ h => h) (Or.inr ⟨by kernel_rfl, rfl⟩) (by assumption) ?_
     (try simp only [Act.put, zA, zB, zC])
     refine wpAnyH_take (i := 12) (v := undef) rfl (by kernel_rfl) (by kernel_rfl) (by kernel_rfl) (fun _ _ _ h => h) (Or.inr ⟨by kernel_rfl, rfl⟩) (by assumption) ?_
     (try simp only [Act.put, zA, zB, zC])
     refine wpAnyH_take (i := 13) (v := undef) rfl (by kernel_rfl) (by kernel_rfl) (by kernel_rfl) (fun _ _ _ h => h) (Or.inr ⟨by kernel_rfl, rfl⟩) (by assumption) ?_
     (try simp only [Act.put, zA, zB, zC])
     refine wpAnyH_take (i := 14) (v := undef) rfl (by kernel_rfl) (by kernel_rfl) (by kernel_rfl) (fun _ _ _ h => h) (Or.inr ⟨by kernel_rfl, rfl⟩) (by assumption) ?_
     (try simp only [Act.put, zA, zB, zC])
     refine zT 15 (h := ?_)
     (try simp only [Act.put, zA, zB, zC])
     refine zT 16 (h := ?_)
     (try simp only [Act.put, zA, zB, zC])
     refine wpAnyH_done (by kernel_rfl) ?_ _
     (try simp only [List.getElem_toArray, List.getElem_cons_zero, List.getElem_cons_succ, Act.put, zA, zB, zC])
     have s5 := S2.out.trans (sa3.mono S2.out.size)
     have S5 := Lib.hid s5; clear s5
     rcases hb2 with hb | ⟨hb1, hb⟩
     ·
      have t4 : decide (n < 0) = true := decide_eq_true (by omega)
      go_wp2_with fail
      refine bodyPost_ret (v := .tuple #[.slice (some ⟨wa1.heap.size, 0, none⟩) 0 0, .int .i64 2]) (by simp [results, Tryz.results23, go_sem]) rfl ⟨S5.out.alloc S5.out.size _, _, rfl, Row.ofBlk (Blk.new wa1 28 []) (m := 0) (cap := 0) (Nat.le_refl _) (by unfold maxLen; omega) 0⟩
     ·
      have t4 : decide (n < 0) = false := decide_eq_false (by omega)
      have t5 : decide (4096 < n) = true := decide_eq_true (by omega)
      go_wp2_with fail
      refine bodyPost_ret (v := .tuple #[.slice (some ⟨wa1.heap.size, 0, none⟩) 0 0, .int .i64 2]) (by simp [results, Tryz.results23, go_sem]) rfl ⟨S5.out.alloc S5.out.size _, _, rfl, Row.ofBlk (Blk.new wa1 28 []) (m := 0) (cap := 0) (Nat.le_refl _) (by unfold maxLen; omega) 0⟩
set_option maxRecDepth 100000 in
set_option maxHeartbeats 3200000 in
theorem rexpE_rng_neg (p : Nat) (n : Int) (N D : List Int) (v1 v2 : Value) (w : World) (hr1 : Row w v1 N.length (civ N)) (hr2 : Row w v2 D.length (civ D)) (hN : ∀ z ∈ N, sm p z) (hD : ∀ z ∈ D, sm p z) (hp : p ≤ 100) (hl1 : N.length ≤ 65) (hl2 : D.length ≤ 65) (h0 : D[0]? = some (-1)) (hb : n < 0 ∨ 4096 < n) :
  Calls Tryz.prog 23 #[v1, v2, .int .i64 n] w (LstRet [] 2 w) := by
 have hck := fun (z : Int) w' (h : sm p z) => rcheck01_any (ineg z) (imag z) w' (Nat.le_trans h.size (by omega))
 simp only [cnB_can, chkZ] at hck
 have hNX : ∀ k, k < N.length → ∃ z, N[k]? = some z ∧ sm p z := fun k hk => ⟨N[k], List.getElem?_eq_getElem hk, hN _ (List.getElem_mem hk)⟩
 have hDX : ∀ k, k < D.length → ∃ z, D[k]? = some z ∧ sm p z := fun k hk => ⟨D[k], List.getElem?_eq_getElem hk, hD _ (List.getElem_mem hk)⟩
 obtain ⟨va, vc, rfl, hle1⟩ := hr1.slice
 obtain ⟨vb, vd, rfl, hle2⟩ := hr2.slice
 obtain ⟨m1, hm1⟩ : ∃ m, m = N.length := ⟨_, rfl⟩
 obtain ⟨m2, hm2⟩ : ∃ m, m = D.length := ⟨_, rfl⟩
 rw [← hm1] at hl1
 rw [← hm2] at hl2
 have t1 : decide (65 < (m1 : Int)) = false := by simp; omega
 have t2 : decide (65 < (m2 : Int)) = false := by simp; omega
 have hlp : 0 < D.length := by
  rcases D with _ | ⟨x, t⟩
  ·
   cases h0
  ·
   simp
 rw [← hm2] at hlp
 have t3 : ((m2 : Int) == 0) = false := by simp; omega
 have hof1 := fun w' => rof_any 1 w' (by decide) (by decide)
 have hof2 := fun w' => rof_any (-1) w' (by decide) (by decide)
 have HOF1 := Lib.hid hof1; clear hof1
 have HOF2 := Lib.hid hof2; clear hof2
 have H0 := Lib.hid h0; clear h0
 have hn1 : ∀ w', (binOp .neq 28 (.agg #[.bool (ineg (-1)), .string (imag (-1))]) (.agg #[.bool (ineg 1), .string (imag 1)])).run Tryz.prog w' = .ok (.bool true) w' := fun w' => (neq_int (-1) 1 w').trans rfl
 have hn2 : ∀ w', (binOp .neq 28 (.agg #[.bool (ineg (-1)), .string (imag (-1))]) (.agg #[.bool (ineg (-1)), .string (imag (-1))])).run Tryz.prog w' = .ok (.bool false) w' := fun w' => (neq_int (-1) (-1) w').trans rfl
 have hb2 : n < 0 ∨ (¬ n < 0 ∧ 4096 < n) := by omega
 clear hb
 rw [← hm1] at hr1 hNX hle1 ⊢
 rw [← hm2] at hr2 hDX hle2 ⊢
 obtain ⟨b, off, rfl, hbw, hce⟩ := hr2.at_ (by omega)
 have HCE := Lib.hid hce; clear hce
 have HCK := Lib.hid hck; clear hck
 have HNX := Lib.hid hNX; clear hNX
 have HDX := Lib.hid hDX; clear hDX
 have HR1 := Lib.hid hr1; clear hr1
 have HR2 := Lib.hid hr2; clear hr2
 clear hN hD hm1 hm2
 go_enter Tryz.func23, Tryz.ntmps23
 go_wp2_with fail
 go_loopw [8] (fun i wr => ∃ k : Nat, k ≤ m1 ∧ i = .int .i64 (k : Int) ∧ Below w.heap.size w wr) (fun i _ => m1 - (intOf i).toNat)
 case atStart => exact ⟨0, Nat.zero_le _, rfl, Below.refl _ _⟩
 case round =>
  obtain ⟨ka, hkka, rfl, hbel⟩ := hrel
  by_cases hltka : ka < m1
  ·
   have tk : decide ((ka : Int) < (m1 : Int)) = true := by simp; omega
   obtain ⟨z, hz, hzs⟩ := HNX.out ka hltka
   obtain ⟨b1', o1', rfl, hb1', hc1'⟩ := HR1.out.at_ (by omega)
   obtain ⟨q0, q1⟩ := int_cells hc1' hbel hb1' hz
   clear hc1'
   have hix1 : (0 : Int) ≤ (ka : Int) := by omega
   have hix2 : (ka : Int) < (m1 : Int) := by omega
   have hck := fun w' => HCK.out z w' hzs
   have HCKZ := Lib.hid hck; clear hck
   have HBEL := Lib.hid hbel; clear hbel
   clear hz hzs
   go_wp2_with fail
   go_at_call 62
   refine (HCKZ.out _).mono ?_
   rintro e wk ⟨hq, rfl⟩
   have hb2 := HBEL.out.trans (hq.mono HBEL.out.size)
   have HB2 := Lib.hid hb2; clear hb2
   clear hq q0 q1
   go_wp2_with fail
   go_roundw
   case rel => exact ⟨ka + 1, by omega, by go_num, HB2.out⟩
   case measure => simp [intOf]; omega
  ·
   have tkka : decide ((ka : Int) < (m1 : Int)) = false := by simp; omega
   obtain ⟨wa, rfl⟩ : ∃ wa : World, wa = wr := ⟨_, rfl⟩
   have HBA := Lib.hid hbel; clear hbel
   go_wp2_with fail
   go_loopw [9] (fun i wr => ∃ k : Nat, k ≤ m2 ∧ i = .int .i64 (k : Int) ∧ Below w.heap.size w wr) (fun i _ => m2 - (intOf i).toNat)
   case atStart => exact ⟨0, Nat.zero_le _, rfl, HBA.out⟩
   case round =>
    obtain ⟨kb, hkkb, rfl, hbel⟩ := hrel
    by_cases hltkb : kb < m2
    ·
     have tk : decide ((kb : Int) < (m2 : Int)) = true := by simp; omega
     obtain ⟨z, hz, hzs⟩ := HDX.out kb hltkb
     obtain ⟨q0, q1⟩ := int_cells HCE.out hbel hbw hz
     have hix1 : (0 : Int) ≤ (kb : Int) := by omega
     have hix2 : (kb : Int) < (m2 : Int) := by omega
     have hck := fun w' => HCK.out z w' hzs
     have HCKZ := Lib.hid hck; clear hck
     have HBEL := Lib.hid hbel; clear hbel
     clear hz hzs
     go_wp2_with fail
     go_at_call 62
     refine (HCKZ.out _).mono ?_
     rintro e wk ⟨hq, rfl⟩
     have hb2 := HBEL.out.trans (hq.mono HBEL.out.size)
     have HB2 := Lib.hid hb2; clear hb2
     clear hq q0 q1
     go_wp2_with fail
     go_roundw
     case rel => exact ⟨kb + 1, by omega, by go_num, HB2.out⟩
     case measure => simp [intOf]; omega
    ·
     have tkkb : decide ((kb : Int) < (m2 : Int)) = false := by simp; omega
     obtain ⟨w2, rfl⟩ : ∃ w2 : World, w2 = wr := ⟨_, rfl⟩
     have s2 := hbel
     have S2 := Lib.hid s2; clear s2
     clear hbel
     obtain ⟨c0, c1⟩ := int_cells HCE.out S2.out hbw H0.out
     rw [Nat.zero_mul, Nat.add_zero] at c0
     rw [Nat.zero_mul] at c1
     have hbw2 : b < w2.heap.size := by have := S2.out.size; omega
     have sW := (Below.refl w2.heap.size w2).drew
     go_wp2_with fail
     refine wp_region_held_drew (S := fun w' => w'.cell? ⟨b, off, none⟩ = some (.bool (ineg (-1))) ∧ w'.cell? ⟨b, off + (0 + 1), none⟩ = some (.string (imag (-1)))) (by kernel_rfl) ?_ (fun hHeld => ?_)
     ·
      go_keep
     refine zT 0 (h := ?_)
     (try simp only [Act.put, zA, zB, zC])
     refine zT 1 (h := ?_)
     (try simp only [Act.put, zA, zB, zC])
     refine zT 2 (h := ?_)
     (try simp only [Act.put, zA, zB, zC])
     refine zT 3 (h := ?_)
     (try simp only [Act.put, zA, zB, zC])
     refine zT 4 (h := ?_)
     (try simp only [Act.put, zA, zB, zC])
     refine zT 5 (h := ?_)
     (try simp only [Act.put, zA, zB, zC])
     refine zT 6 (h := ?_)
     (try simp only [Act.put, zA, zB, zC])
     refine zR 7 (h := fun K hK => ?_)
     rw [if_pos (by kernel_rfl)]
     go_simp
     go_at_call 49
     refine (HOF1.out _).mono ?_
     rintro e' wa1 ⟨hq, rfl⟩
     dsimp only
     have z0 := (hq.cell (p := ⟨b, off, none⟩) (show b < w2.heap.size by omega)).trans hHeld.1
     have z1 := (hq.cell (p := ⟨b, off + (0 + 1), none⟩) (show b < w2.heap.size by omega)).trans hHeld.2
     refine hK.out _ _ ⟨z0, z1⟩ (fun hH2 => ?_)
     clear hK K z0  z1
     (try simp only [Act.put, zA, zB, zC])
     have sa3 : Below w2.heap.size w2 wa1 := sW.trans (hq.mono sW.size)
     clear hq
     have hlwa1 : w2.heap.size ≤ wa1.heap.size := sa3.size
     refine zT 8 (h := ?_)
     (try simp only [Act.put, zA, zB, zC])
     refine zT 9 (h := ?_)
     (try simp only [Act.put, zA, zB, zC])
     refine zT 10 (h := ?_)
     (try simp only [Act.put, zA, zB, zC])
     refine zT 11 (h := ?_)
     (try simp only [Act.put, zA, zB, zC])
     refine zT 12 (h := ?_)
     (try simp only [Act.put, zA, zB, zC])
     refine zR 13 (h := fun K hK => ?_)
     rw [if_pos (by kernel_rfl)]
     go_simp
     go_at_call 49
     refine (HOF2.out _).mono ?_
     rintro e' wa5 ⟨hq, rfl⟩
     dsimp only
     have z0 := (hq.cell (p := ⟨b, off, none⟩) (show b < wa1.heap.size by omega)).trans hH2.1
     have z1 := (hq.cell (p := ⟨b, off + (0 + 1), none⟩) (show b < wa1.heap.size by omega)).trans hH2.2
     refine hK.out _ _ ⟨z0, z1⟩ (fun hH6 => ?_)
     clear hK K z0  z1
     (try simp only [Act.put, zA, zB, zC])
     have sa7 : Below w2.heap.size w2 wa5 := sa3.trans (hq.mono sa3.size)
     clear hq
     have hlwa5 : w2.heap.size ≤ wa5.heap.size := sa7.size
     refine zT 14 (h := ?_)
     (try simp only [Act.put, zA, zB, zC])
     refine zT 15 (h := ?_)
     (try simp only [Act.put, zA, zB, zC])
     refine zT 16 (h := ?_)
     (try simp only [Act.put, zA, zB, zC])
     refine wpAnyH_done (by kernel_rfl) ?_ _
     (try simp only [List.getElem_toArray, List.getElem_cons_zero, List.getElem_cons_succ, Act.put, zA, zB, zC])
     have s5 := S2.out.trans (sa7.mono S2.out.size)
     have S5 := Lib.hid s5; clear s5
     rcases hb2 with hb | ⟨hb1, hb⟩
     ·
      have t4 : decide (n < 0) = true := decide_eq_true (by omega)
      go_wp2_with fail
      refine bodyPost_ret (v := .tuple #[.slice (some ⟨wa5.heap.size, 0, none⟩) 0 0, .int .i64 2]) (by simp [results, Tryz.results23, go_sem]) rfl ⟨S5.out.alloc S5.out.size _, _, rfl, Row.ofBlk (Blk.new wa5 28 []) (m := 0) (cap := 0) (Nat.le_refl _) (by unfold maxLen; omega) 0⟩
     ·
      have t4 : decide (n < 0) = false := decide_eq_false (by omega)
      have t5 : decide (4096 < n) = true := decide_eq_true (by omega)
      go_wp2_with fail
      refine bodyPost_ret (v := .tuple #[.slice (some ⟨wa5.heap.size, 0, none⟩) 0 0, .int .i64 2]) (by simp [results, Tryz.results23, go_sem]) rfl ⟨S5.out.alloc S5.out.size _, _, rfl, Row.ofBlk (Blk.new wa5 28 []) (m := 0) (cap := 0) (Nat.le_refl _) (by unfold maxLen; omega) 0⟩
end Go.Proofs.YthpgeeaccmgbkaaGreat
