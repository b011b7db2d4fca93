/- The reference integers: Add, of canonical integers. -/
import Derived.Test.YthpgeeaccmgbkaaGreatPart4
import Derived.Test.YthpgeeaccmgbkaaGreatPart14
namespace Go.Proofs.YthpgeeaccmgbkaaGreat
open Go.RowKit


theorem keep_cell {w : World} {p q : Addr} {v u : Value} (h : w.cell? q = some v) (hpq : p = q → u = v) : (w.setCell p u).cell? q = some v := by
 by_cases e : p = q
 ·
  subst e; rw [World.cell?_setCell_same _ _ _ h, hpq rfl]
 ·
  rw [World.cell?_setCell_other _ _ _ _ e]; exact h
theorem can_bb (a : Bool) (s : ByteArray) (h : IntV (ival a s) = .agg #[.bool a, .string s]) : s.data.toList = bb (bval s.data.toList) := by
 have h1 : #[Value.bool (ineg (ival a s)), Value.string (imag (ival a s))] = #[Value.bool a, Value.string s] := by simpa [IntV] using h
 have h2 : imag (ival a s) = s := by
  have := congrArg (fun (x : Array Value) => x.toList) h1
  simp only [List.cons.injEq, Value.string.injEq] at this
  exact this.2.1
 have h3 := congrArg (fun (x : ByteArray) => x.data.toList) h2
 simp only [imag_list] at h3
 rw [← h3, ival, sgn_abs, bval_bb]
theorem can_size (s : ByteArray) (h : s.data.toList = bb (bval s.data.toList)) (n : Nat) (hn : n ≤ s.size) (h0 : 0 < n) : ¬ bval s.data.toList = 0 := by
 intro e
 rw [e, bb_zero] at h
 have := congrArg List.length h
 rw [bytes_size, List.length_nil] at this; omega
theorem intv_sgn (a : Bool) (x : Nat) (h : ¬ x = 0) : IntV (sgn a x) = .agg #[.bool a, .string (bstr x)] := by
 cases a with
 | false => exact intv_nat x
 | true => exact intv_neg x h

set_option maxRecDepth 100000 in
set_option maxHeartbeats 3200000 in
theorem radd_small    (a b : Bool) (s t : ByteArray) (w : World) (hs : s.size ≤ 1099511627775) (ht : t.size ≤ 1099511627775)
  (hca : IntV (ival a s) = .agg #[.bool a, .string s]) (hcb : IntV (ival b t) = .agg #[.bool b, .string t]) (h1 : s.size < 8) (h2 : t.size < 8) :
  Calls Tryz.prog 40 #[.agg #[.bool a, .string s], .agg #[.bool b, .string t]] w (Ret w (IntV (ival a s + ival b t))) := by
 have hCA : ∀ w', Calls Tryz.prog 73 #[.agg #[.bool a, .string s]] w' (Ret w' (.agg #[.bool a, .string s])) := fun w' => by
  have h := rcanon_any a s w' (by omega)
  rwa [hca] at h
 have hCB : ∀ w', Calls Tryz.prog 73 #[.agg #[.bool b, .string t]] w' (Ret w' (.agg #[.bool b, .string t])) := fun w' => by
  have h := rcanon_any b t w' (by omega)
  rwa [hcb] at h
 have HCA := Lib.hid hCA; clear hCA
 have HCB := Lib.hid hCB; clear hCB
 have eX := can_bb a s hca
 have eY := can_bb b t hcb
 have hlt : ∀ (c : Bool) (u : ByteArray), u.size < 8 → -72057594037927936 < ival c u ∧ ival c u < 72057594037927936 := by
  intro c u hu
  have h1 := bval_lt u.data.toList
  rw [bytes_size] at h1
  have h2 : 256 ^ u.size ≤ 256 ^ 7 := Nat.pow_le_pow_right (by decide) (by omega)
  have h3 : 256 ^ 7 = 72057594037927936 := by decide
  have h4 : (ival c u).natAbs = bval u.data.toList := sgn_abs _ _
  omega
 have l1 := hlt a s h1
 have l2 := hlt b t h2
 have v1 := fun w' => rvalue_any a s w' (by omega)
 have v2 := fun w' => rvalue_any b t w' (by omega)
 have hof : ∀ w', Calls Tryz.prog 49 #[.int .i64 (IntKind.i64.wrap (ival a s + ival b t))] w' (Ret w' (IntV (ival a s + ival b t))) := fun w' => by
  rw [IntWalk.i64_in _ (by omega)]
  exact rof_any _ w' (by omega) (by omega)
 obtain ⟨xv, hxv⟩ : ∃ x, x = ival a s := ⟨_, rfl⟩
 obtain ⟨yv, hyv⟩ : ∃ x, x = ival b t := ⟨_, rfl⟩
 simp only [← hxv] at v1 hof ⊢
 simp only [← hyv] at v2 hof ⊢
 have V1 := Lib.hid v1; clear v1
 have V2 := Lib.hid v2; clear v2
 have HOF := Lib.hid hof; clear hof
 clear hlt l1 l2 hxv hyv eX eY hca hcb
 have hA0 := ((Blk.new w 28 [.bool a, .string s]).alloc (.cells #[.bool b, .string t] 28)).alloc (.cells #[.bool false, .string ⟨#[]⟩] 28)
 have HA0 := Lib.hid hA0; clear hA0
 have hA1 := ((Blk.new (w.alloc (.cells #[.bool a, .string s] 28)) 28 [.bool b, .string t]).alloc (.cells #[.bool false, .string ⟨#[]⟩] 28))
 simp only [World.size_alloc, Nat.add_assoc, Nat.reduceAdd] at hA1
 have HA1 := Lib.hid hA1; clear hA1
 have hA2 := (Blk.new ((w.alloc (.cells #[.bool a, .string s] 28)).alloc (.cells #[.bool b, .string t] 28)) 28 [.bool false, .string ⟨#[]⟩])
 simp only [World.size_alloc, Nat.add_assoc, Nat.reduceAdd] at hA2
 have HA2 := Lib.hid hA2; clear hA2
 have s0 := (((Below.refl w.heap.size w).alloc (Nat.le_refl _) (.cells #[.bool a, .string s] 28)).alloc (by simp) (.cells #[.bool b, .string t] 28)).alloc (by simp <;> omega) (.cells #[.bool false, .string ⟨#[]⟩] 28)
 have S0 := Lib.hid s0; clear s0
 go_enter Tryz.func40, Tryz.ntmps40
 go_wp2_with fail
 go_region_held3 (fun w' => w'.cell? ⟨w.heap.size, 0, none⟩ = some (.bool a) ∧ w'.cell? ⟨w.heap.size, 1, none⟩ = some (.string s) ∧ w'.cell? ⟨w.heap.size + 1, 0, none⟩ = some (.bool b) ∧ w'.cell? ⟨w.heap.size + 1, 1, none⟩ = some (.string t)) ((try refine ⟨?_, ?_, ?_, ?_⟩) <;> (first | (simp [*, World.cell?_alloc_some, World.cell?_setCell_far]; done) | ((repeat (refine keep_cell ?_ (by intro e; first | rfl | (simp at e; done) | (simp at e; omega)))); assumption))) (first | (go_at_call_of 73 (Value.agg #[.bool a, .string s]); ((with_reducible refine (HCA.out _).mono ?_)); rintro e w1 ⟨hq, rfl⟩; have hB0 := HA0.out.drew.keep hq; have cB0 := hB0.cell (j := 0) rfl; have dB0 := hB0.cell (j := 1) rfl; have HB0 := Lib.hid hB0; clear hB0; have hB1 := HA1.out.drew.keep hq; have cB1 := hB1.cell (j := 0) rfl; have dB1 := hB1.cell (j := 1) rfl; have HB1 := Lib.hid hB1; clear hB1; have hB2 := HA2.out.drew.keep hq; have cB2 := hB2.cell (j := 0) rfl; have dB2 := hB2.cell (j := 1) rfl; have fB2 := hB2.frozen 0; have gB2 := hB2.frozen 1; have HB2 := Lib.hid hB2; clear hB2; have HQ1 := Lib.hid hq; clear hq) | (go_at_call_of 73 (Value.agg #[.bool b, .string t]); ((with_reducible refine (HCB.out _).mono ?_)); rintro e w2 ⟨hq, rfl⟩; have hC0 := HB0.out.keep hq; have cC0 := hC0.cell (j := 0) rfl; have dC0 := hC0.cell (j := 1) rfl; have fC0 := hC0.frozen 0; have gC0 := hC0.frozen 1; have HC0 := Lib.hid hC0; clear hC0; have hC1 := HB1.out.keep hq; have cC1 := hC1.cell (j := 0) rfl; have dC1 := hC1.cell (j := 1) rfl; have fC1 := hC1.frozen 0; have gC1 := hC1.frozen 1; have HC1 := Lib.hid hC1; clear hC1; have hC2 := HB2.out.keep hq; have cC2 := hC2.cell (j := 0) rfl; have dC2 := hC2.cell (j := 1) rfl; have fC2 := hC2.frozen 0; have gC2 := hC2.frozen 1; have HC2 := Lib.hid hC2; clear hC2; have HQ2 := Lib.hid hq; clear hq))
 have n01 : ¬ w.heap.size + 1 = w.heap.size := by omega
 have n02 : ¬ w.heap.size = w.heap.size + 1 := by omega
 have n03 : ¬ w.heap.size + 2 = w.heap.size := by omega
 have n04 : ¬ w.heap.size + 2 = w.heap.size + 1 := by omega
 have hD0 := (((HC0.out.set 0 (.bool a)).set 1 (.string s)).setOther (a := ⟨w.heap.size + 1, 0, none⟩) n01 (.bool b)).setOther (a := ⟨w.heap.size + 1, 1, none⟩) n01 (.string t)
 have hD1 := (((HC1.out.setOther (a := ⟨w.heap.size, 0, none⟩) n02 (.bool a)).setOther (a := ⟨w.heap.size, 1, none⟩) n02 (.string s)).set 0 (.bool b)).set 1 (.string t)
 have hD2 := (((HC2.out.setOther (a := ⟨w.heap.size, 0, none⟩) (fun e => n03 e.symm) (.bool a)).setOther (a := ⟨w.heap.size, 1, none⟩) (fun e => n03 e.symm) (.string s)).setOther (a := ⟨w.heap.size + 1, 0, none⟩) (fun e => n04 e.symm) (.bool b)).setOther (a := ⟨w.heap.size + 1, 1, none⟩) (fun e => n04 e.symm) (.string t)
 have s1 := S0.out.drew.trans (HQ1.out.mono S0.out.size)
 have s2 := s1.trans (HQ2.out.mono s1.size)
 have s3 := (((s2.setCell (p := ⟨w.heap.size, 0, none⟩) (Nat.le_refl _) (.bool a)).setCell (p := ⟨w.heap.size, 1, none⟩) (Nat.le_refl _) (.string s)).setCell (p := ⟨w.heap.size + 1, 0, none⟩) (Nat.le_add_right _ _) (.bool b)).setCell (p := ⟨w.heap.size + 1, 1, none⟩) (Nat.le_add_right _ _) (.string t)
 clear s1 s2 cB0 dB0 cB1 dB1 cB2 dB2 fB2 gB2 cC0 dC0 cC1 dC1 cC2 dC2 fC0 gC0 fC1 gC1 fC2 gC2
 obtain ⟨W, hW⟩ : ∃ W, W = (((w2.setCell ⟨w.heap.size, 0, none⟩ (.bool a)).setCell ⟨w.heap.size, 1, none⟩ (.string s)).setCell ⟨w.heap.size + 1, 0, none⟩ (.bool b)).setCell ⟨w.heap.size + 1, 1, none⟩ (.string t) := ⟨_, rfl⟩
 rw [← hW] at hD0 hD1 hD2 s3 ⊢
 have HW := Lib.hid hW; clear hW
 have S3 := Lib.hid s3; clear s3
 have cD0 := hD0.cell (j := 0) rfl
 have dD0 := hD0.cell (j := 1) rfl
 have cD1 := hD1.cell (j := 0) rfl
 have dD1 := hD1.cell (j := 1) rfl
 have cD2 := hD2.cell (j := 0) rfl
 have dD2 := hD2.cell (j := 1) rfl
 have fD2 := hD2.frozen 0
 have gD2 := hD2.frozen 1
 have HD0 := Lib.hid hD0; clear hD0
 have HD1 := Lib.hid hD1; clear hD1
 have HD2 := Lib.hid hD2; clear hD2
 clear n01 n02 n03 n04
 go_wp2_with fail
 go_region_held3 (fun w' => w'.cell? ⟨w.heap.size, 0, none⟩ = some (.bool a) ∧ w'.cell? ⟨w.heap.size, 1, none⟩ = some (.string s) ∧ w'.cell? ⟨w.heap.size + 1, 0, none⟩ = some (.bool b) ∧ w'.cell? ⟨w.heap.size + 1, 1, none⟩ = some (.string t)) ((try refine ⟨?_, ?_, ?_, ?_⟩) <;> (first | (simp [*, World.cell?_alloc_some, World.cell?_setCell_far]; done) | ((repeat (refine keep_cell ?_ (by intro e; first | rfl | (simp at e; done) | (simp at e; omega)))); assumption))) (first | (go_at_call_of 74 (Value.agg #[.bool a, .string s]); ((with_reducible refine (V1.out _).mono ?_)); rintro e w5 ⟨hq, rfl⟩; have hE0 := HD0.out.drew.keep hq; have cE0 := hE0.cell (j := 0) rfl; have dE0 := hE0.cell (j := 1) rfl; have HE0 := Lib.hid hE0; clear hE0; have hE1 := HD1.out.drew.keep hq; have cE1 := hE1.cell (j := 0) rfl; have dE1 := hE1.cell (j := 1) rfl; have HE1 := Lib.hid hE1; clear hE1; have hE2 := HD2.out.drew.keep hq; have cE2 := hE2.cell (j := 0) rfl; have dE2 := hE2.cell (j := 1) rfl; have fE2 := hE2.frozen 0; have gE2 := hE2.frozen 1; have HE2 := Lib.hid hE2; clear hE2; have HQ5 := Lib.hid hq; clear hq) | (go_at_call_of 74 (Value.agg #[.bool b, .string t]); ((with_reducible refine (V2.out _).mono ?_)); rintro e w6 ⟨hq, rfl⟩; have hF0 := HE0.out.keep hq; have cF0 := hF0.cell (j := 0) rfl; have dF0 := hF0.cell (j := 1) rfl; have HF0 := Lib.hid hF0; clear hF0; have hF1 := HE1.out.keep hq; have cF1 := hF1.cell (j := 0) rfl; have dF1 := hF1.cell (j := 1) rfl; have HF1 := Lib.hid hF1; clear hF1; have hF2 := HE2.out.keep hq; have cF2 := hF2.cell (j := 0) rfl; have dF2 := hF2.cell (j := 1) rfl; have fF2 := hF2.frozen 0; have gF2 := hF2.frozen 1; have HF2 := Lib.hid hF2; clear hF2; have HQ6 := Lib.hid hq; clear hq) | (go_at_call 49; ((with_reducible refine (HOF.out _).mono ?_)); rintro e w7 ⟨hq, rfl⟩; have hG0 := HF0.out.keep hq; have cG0 := hG0.cell (j := 0) rfl; have dG0 := hG0.cell (j := 1) rfl; have HG0 := Lib.hid hG0; clear hG0; have hG1 := HF1.out.keep hq; have cG1 := hG1.cell (j := 0) rfl; have dG1 := hG1.cell (j := 1) rfl; have HG1 := Lib.hid hG1; clear hG1; have hG2 := HF2.out.keep hq; have cG2 := hG2.cell (j := 0) rfl; have dG2 := hG2.cell (j := 1) rfl; have fG2 := hG2.frozen 0; have gG2 := hG2.frozen 1; have HG2 := Lib.hid hG2; clear hG2; have HQ7 := Lib.hid hq; clear hq))
 go_wp2_with fail
 refine bodyPost_ret (v := IntV (xv + yv)) (by simp [results, Tryz.results40, go_sem, cG2, dG2]) rfl ⟨?_, ?_⟩
 ·
  have s4 := S3.out.drew.trans (HQ5.out.mono S3.out.size)
  have s5 := s4.trans (HQ6.out.mono s4.size)
  have s6 := s5.trans (HQ7.out.mono s5.size)
  exact (s6.setCell (p := ⟨w.heap.size + 2, 0, none⟩) (Nat.le_add_right _ _) _).setCell (p := ⟨w.heap.size + 2, 1, none⟩) (Nat.le_add_right _ _) _
 ·
  rfl

set_option maxRecDepth 100000 in
set_option maxHeartbeats 3200000 in
theorem radd_same    (a : Bool) (s t : ByteArray) (w : World) (hs : s.size ≤ 1099511627775) (ht : t.size ≤ 1099511627775)
  (hca : IntV (ival a s) = .agg #[.bool a, .string s]) (hcb : IntV (ival a t) = .agg #[.bool a, .string t]) (hbig : 8 ≤ s.size ∨ s.size < 8 ∧ 8 ≤ t.size) :
  Calls Tryz.prog 40 #[.agg #[.bool a, .string s], .agg #[.bool a, .string t]] w (Ret w (IntV (ival a s + ival a t))) := by
 have hCA : ∀ w', Calls Tryz.prog 73 #[.agg #[.bool a, .string s]] w' (Ret w' (.agg #[.bool a, .string s])) := fun w' => by
  have h := rcanon_any a s w' (by omega)
  rwa [hca] at h
 have hCB : ∀ w', Calls Tryz.prog 73 #[.agg #[.bool a, .string t]] w' (Ret w' (.agg #[.bool a, .string t])) := fun w' => by
  have h := rcanon_any a t w' (by omega)
  rwa [hcb] at h
 have HCA := Lib.hid hCA; clear hCA
 have HCB := Lib.hid hCB; clear hCB
 have eX := can_bb a s hca
 have eY := can_bb a t hcb
 have hx0 : ¬ (bval s.data.toList = 0 ∧ bval t.data.toList = 0) := by
  rintro ⟨e1, e2⟩
  rcases hbig with h | ⟨h, h'⟩
  ·
   exact can_size s eX 8 h (by decide) e1
  ·
   exact can_size t eY 8 h' (by decide) e2
 have hadd := fun w' => raddmag_any s t w' hs ht
 have hv : IntV (ival a s + ival a t) = .agg #[.bool a, .string (bstr (bval s.data.toList + bval t.data.toList))] := by
  rw [ival, ival, ← sgn_add_same]
  exact intv_sgn a _ (by omega)
 have HV := Lib.hid hv; clear hv
 have HADD := Lib.hid hadd; clear hadd hx0 eX eY hca hcb
 have hA0 := ((Blk.new w 28 [.bool a, .string s]).alloc (.cells #[.bool a, .string t] 28)).alloc (.cells #[.bool false, .string ⟨#[]⟩] 28)
 have HA0 := Lib.hid hA0; clear hA0
 have hA1 := ((Blk.new (w.alloc (.cells #[.bool a, .string s] 28)) 28 [.bool a, .string t]).alloc (.cells #[.bool false, .string ⟨#[]⟩] 28))
 simp only [World.size_alloc, Nat.add_assoc, Nat.reduceAdd] at hA1
 have HA1 := Lib.hid hA1; clear hA1
 have hA2 := (Blk.new ((w.alloc (.cells #[.bool a, .string s] 28)).alloc (.cells #[.bool a, .string t] 28)) 28 [.bool false, .string ⟨#[]⟩])
 simp only [World.size_alloc, Nat.add_assoc, Nat.reduceAdd] at hA2
 have HA2 := Lib.hid hA2; clear hA2
 have s0 := (((Below.refl w.heap.size w).alloc (Nat.le_refl _) (.cells #[.bool a, .string s] 28)).alloc (by simp) (.cells #[.bool a, .string t] 28)).alloc (by simp <;> omega) (.cells #[.bool false, .string ⟨#[]⟩] 28)
 have S0 := Lib.hid s0; clear s0
 go_enter Tryz.func40, Tryz.ntmps40
 go_wp2_with fail
 go_region_held3 (fun w' => w'.cell? ⟨w.heap.size, 0, none⟩ = some (.bool a) ∧ w'.cell? ⟨w.heap.size, 1, none⟩ = some (.string s) ∧ w'.cell? ⟨w.heap.size + 1, 0, none⟩ = some (.bool a) ∧ w'.cell? ⟨w.heap.size + 1, 1, none⟩ = some (.string t)) ((try refine ⟨?_, ?_, ?_, ?_⟩) <;> (first | (simp [*, World.cell?_alloc_some, World.cell?_setCell_far]; done) | ((repeat (refine keep_cell ?_ (by intro e; first | rfl | (simp at e; done) | (simp at e; omega)))); assumption))) (first | (go_at_call_of 73 (Value.agg #[.bool a, .string s]); ((with_reducible refine (HCA.out _).mono ?_)); rintro e w1 ⟨hq, rfl⟩; have hB0 := HA0.out.drew.keep hq; have cB0 := hB0.cell (j := 0) rfl; have dB0 := hB0.cell (j := 1) rfl; have HB0 := Lib.hid hB0; clear hB0; have hB1 := HA1.out.drew.keep hq; have cB1 := hB1.cell (j := 0) rfl; have dB1 := hB1.cell (j := 1) rfl; have HB1 := Lib.hid hB1; clear hB1; have hB2 := HA2.out.drew.keep hq; have cB2 := hB2.cell (j := 0) rfl; have dB2 := hB2.cell (j := 1) rfl; have fB2 := hB2.frozen 0; have gB2 := hB2.frozen 1; have HB2 := Lib.hid hB2; clear hB2; have HQ1 := Lib.hid hq; clear hq) | (go_at_call_of 73 (Value.agg #[.bool a, .string t]); ((with_reducible refine (HCB.out _).mono ?_)); rintro e w2 ⟨hq, rfl⟩; have hC0 := HB0.out.keep hq; have cC0 := hC0.cell (j := 0) rfl; have dC0 := hC0.cell (j := 1) rfl; have fC0 := hC0.frozen 0; have gC0 := hC0.frozen 1; have HC0 := Lib.hid hC0; clear hC0; have hC1 := HB1.out.keep hq; have cC1 := hC1.cell (j := 0) rfl; have dC1 := hC1.cell (j := 1) rfl; have fC1 := hC1.frozen 0; have gC1 := hC1.frozen 1; have HC1 := Lib.hid hC1; clear hC1; have hC2 := HB2.out.keep hq; have cC2 := hC2.cell (j := 0) rfl; have dC2 := hC2.cell (j := 1) rfl; have fC2 := hC2.frozen 0; have gC2 := hC2.frozen 1; have HC2 := Lib.hid hC2; clear hC2; have HQ2 := Lib.hid hq; clear hq))
 have n01 : ¬ w.heap.size + 1 = w.heap.size := by omega
 have n02 : ¬ w.heap.size = w.heap.size + 1 := by omega
 have n03 : ¬ w.heap.size + 2 = w.heap.size := by omega
 have n04 : ¬ w.heap.size + 2 = w.heap.size + 1 := by omega
 have hD0 := (((HC0.out.set 0 (.bool a)).set 1 (.string s)).setOther (a := ⟨w.heap.size + 1, 0, none⟩) n01 (.bool a)).setOther (a := ⟨w.heap.size + 1, 1, none⟩) n01 (.string t)
 have hD1 := (((HC1.out.setOther (a := ⟨w.heap.size, 0, none⟩) n02 (.bool a)).setOther (a := ⟨w.heap.size, 1, none⟩) n02 (.string s)).set 0 (.bool a)).set 1 (.string t)
 have hD2 := (((HC2.out.setOther (a := ⟨w.heap.size, 0, none⟩) (fun e => n03 e.symm) (.bool a)).setOther (a := ⟨w.heap.size, 1, none⟩) (fun e => n03 e.symm) (.string s)).setOther (a := ⟨w.heap.size + 1, 0, none⟩) (fun e => n04 e.symm) (.bool a)).setOther (a := ⟨w.heap.size + 1, 1, none⟩) (fun e => n04 e.symm) (.string t)
 have s1 := S0.out.drew.trans (HQ1.out.mono S0.out.size)
 have s2 := s1.trans (HQ2.out.mono s1.size)
 have s3 := (((s2.setCell (p := ⟨w.heap.size, 0, none⟩) (Nat.le_refl _) (.bool a)).setCell (p := ⟨w.heap.size, 1, none⟩) (Nat.le_refl _) (.string s)).setCell (p := ⟨w.heap.size + 1, 0, none⟩) (Nat.le_add_right _ _) (.bool a)).setCell (p := ⟨w.heap.size + 1, 1, none⟩) (Nat.le_add_right _ _) (.string t)
 clear s1 s2 cB0 dB0 cB1 dB1 cB2 dB2 fB2 gB2 cC0 dC0 cC1 dC1 cC2 dC2 fC0 gC0 fC1 gC1 fC2 gC2
 obtain ⟨W, hW⟩ : ∃ W, W = (((w2.setCell ⟨w.heap.size, 0, none⟩ (.bool a)).setCell ⟨w.heap.size, 1, none⟩ (.string s)).setCell ⟨w.heap.size + 1, 0, none⟩ (.bool a)).setCell ⟨w.heap.size + 1, 1, none⟩ (.string t) := ⟨_, rfl⟩
 rw [← hW] at hD0 hD1 hD2 s3 ⊢
 have HW := Lib.hid hW; clear hW
 have S3 := Lib.hid s3; clear s3
 have cD0 := hD0.cell (j := 0) rfl
 have dD0 := hD0.cell (j := 1) rfl
 have cD1 := hD1.cell (j := 0) rfl
 have dD1 := hD1.cell (j := 1) rfl
 have cD2 := hD2.cell (j := 0) rfl
 have dD2 := hD2.cell (j := 1) rfl
 have fD2 := hD2.frozen 0
 have gD2 := hD2.frozen 1
 have HD0 := Lib.hid hD0; clear hD0
 have HD1 := Lib.hid hD1; clear hD1
 have HD2 := Lib.hid hD2; clear hD2
 clear n01 n02 n03 n04
 rcases hbig with hb1 | ⟨hb1, hb2⟩
 all_goals
  go_wp2_with fail
  go_region_held3 (fun w' => w'.cell? ⟨w.heap.size, 0, none⟩ = some (.bool a) ∧ w'.cell? ⟨w.heap.size, 1, none⟩ = some (.string s) ∧ w'.cell? ⟨w.heap.size + 1, 0, none⟩ = some (.bool a) ∧ w'.cell? ⟨w.heap.size + 1, 1, none⟩ = some (.string t)) ((try refine ⟨?_, ?_, ?_, ?_⟩) <;> (first | (simp [*, World.cell?_alloc_some, World.cell?_setCell_far]; done) | ((repeat (refine keep_cell ?_ (by intro e; first | rfl | (simp at e; done) | (simp at e; omega)))); assumption))) (first | (go_at_call 75; ((with_reducible refine (HADD.out _).mono ?_)); rintro e w5 ⟨hq, rfl⟩; have hE0 := HD0.out.drew.keep hq; have cE0 := hE0.cell (j := 0) rfl; have dE0 := hE0.cell (j := 1) rfl; have HE0 := Lib.hid hE0; clear hE0; have hE1 := HD1.out.drew.keep hq; have cE1 := hE1.cell (j := 0) rfl; have dE1 := hE1.cell (j := 1) rfl; have HE1 := Lib.hid hE1; clear hE1; have hE2 := HD2.out.drew.keep hq; have cE2 := hE2.cell (j := 0) rfl; have dE2 := hE2.cell (j := 1) rfl; have fE2 := hE2.frozen 0; have gE2 := hE2.frozen 1; have HE2 := Lib.hid hE2; clear hE2; have HQ5 := Lib.hid hq; clear hq))
  go_wp2_with fail
  refine bodyPost_ret (v := .agg #[.bool a, .string (bstr (bval s.data.toList + bval t.data.toList))]) (by simp [results, Tryz.results40, go_sem, cE2, dE2]) rfl ⟨?_, ?_⟩
  ·
   exact ((S3.out.drew.trans (HQ5.out.mono S3.out.size)).setCell (p := ⟨w.heap.size + 2, 0, none⟩) (Nat.le_add_right _ _) _).setCell (p := ⟨w.heap.size + 2, 1, none⟩) (Nat.le_add_right _ _) _
  ·
   exact ret_of HV.out.symm

set_option maxRecDepth 100000 in
set_option maxHeartbeats 3200000 in
theorem radd_eq    (a b : Bool) (s t : ByteArray) (w : World) (hs : s.size ≤ 1099511627775) (ht : t.size ≤ 1099511627775)
  (hca : IntV (ival a s) = .agg #[.bool a, .string s]) (hcb : IntV (ival b t) = .agg #[.bool b, .string t]) (hbig : 8 ≤ s.size ∨ s.size < 8 ∧ 8 ≤ t.size) (hab : ¬ a = b) (hxy : bval s.data.toList = bval t.data.toList) :
  Calls Tryz.prog 40 #[.agg #[.bool a, .string s], .agg #[.bool b, .string t]] w (Ret w (IntV (ival a s + ival b t))) := by
 have hCA : ∀ w', Calls Tryz.prog 73 #[.agg #[.bool a, .string s]] w' (Ret w' (.agg #[.bool a, .string s])) := fun w' => by
  have h := rcanon_any a s w' (by omega)
  rwa [hca] at h
 have hCB : ∀ w', Calls Tryz.prog 73 #[.agg #[.bool b, .string t]] w' (Ret w' (.agg #[.bool b, .string t])) := fun w' => by
  have h := rcanon_any b t w' (by omega)
  rwa [hcb] at h
 have HCA := Lib.hid hCA; clear hCA
 have HCB := Lib.hid hCB; clear hCB
 have eX := can_bb a s hca
 have eY := can_bb b t hcb
 have hx0 : ¬ (bval s.data.toList = 0 ∧ bval t.data.toList = 0) := by
  rintro ⟨e1, e2⟩
  rcases hbig with h | ⟨h, h'⟩
  ·
   exact can_size s eX 8 h (by decide) e1
  ·
   exact can_size t eY 8 h' (by decide) e2
 have hab2 : (a == b) = false := by simpa using hab
 have hcm := fun w' => rcmp_any (bval s.data.toList) (bval t.data.toList) s t w' (by omega) (by omega) eX eY
 simp only [hxy, cmpN_eq] at hcm
 have HCM := Lib.hid hcm; clear hcm
 have hv : IntV (ival a s + ival b t) = .agg #[.bool false, .string ⟨#[]⟩] := by
  have e : ival a s + ival b t = ((0 : Nat) : Int) := by rw [ival, ival, hxy]; revert hab; cases a <;> cases b <;> simp [sgn] <;> omega
  rw [e, intv_nat, bstr, bb_zero]
 have HV := Lib.hid hv; clear hv hx0 eX eY hca hcb hxy hab
 have hA0 := ((Blk.new w 28 [.bool a, .string s]).alloc (.cells #[.bool b, .string t] 28)).alloc (.cells #[.bool false, .string ⟨#[]⟩] 28)
 have HA0 := Lib.hid hA0; clear hA0
 have hA1 := ((Blk.new (w.alloc (.cells #[.bool a, .string s] 28)) 28 [.bool b, .string t]).alloc (.cells #[.bool false, .string ⟨#[]⟩] 28))
 simp only [World.size_alloc, Nat.add_assoc, Nat.reduceAdd] at hA1
 have HA1 := Lib.hid hA1; clear hA1
 have hA2 := (Blk.new ((w.alloc (.cells #[.bool a, .string s] 28)).alloc (.cells #[.bool b, .string t] 28)) 28 [.bool false, .string ⟨#[]⟩])
 simp only [World.size_alloc, Nat.add_assoc, Nat.reduceAdd] at hA2
 have HA2 := Lib.hid hA2; clear hA2
 have s0 := (((Below.refl w.heap.size w).alloc (Nat.le_refl _) (.cells #[.bool a, .string s] 28)).alloc (by simp) (.cells #[.bool b, .string t] 28)).alloc (by simp <;> omega) (.cells #[.bool false, .string ⟨#[]⟩] 28)
 have S0 := Lib.hid s0; clear s0
 go_enter Tryz.func40, Tryz.ntmps40
 go_wp2_with fail
 go_region_held3 (fun w' => w'.cell? ⟨w.heap.size, 0, none⟩ = some (.bool a) ∧ w'.cell? ⟨w.heap.size, 1, none⟩ = some (.string s) ∧ w'.cell? ⟨w.heap.size + 1, 0, none⟩ = some (.bool b) ∧ w'.cell? ⟨w.heap.size + 1, 1, none⟩ = some (.string t)) ((try refine ⟨?_, ?_, ?_, ?_⟩) <;> (first | (simp [*, World.cell?_alloc_some, World.cell?_setCell_far]; done) | ((repeat (refine keep_cell ?_ (by intro e; first | rfl | (simp at e; done) | (simp at e; omega)))); assumption))) (first | (go_at_call_of 73 (Value.agg #[.bool a, .string s]); ((with_reducible refine (HCA.out _).mono ?_)); rintro e w1 ⟨hq, rfl⟩; have hB0 := HA0.out.drew.keep hq; have cB0 := hB0.cell (j := 0) rfl; have dB0 := hB0.cell (j := 1) rfl; have HB0 := Lib.hid hB0; clear hB0; have hB1 := HA1.out.drew.keep hq; have cB1 := hB1.cell (j := 0) rfl; have dB1 := hB1.cell (j := 1) rfl; have HB1 := Lib.hid hB1; clear hB1; have hB2 := HA2.out.drew.keep hq; have cB2 := hB2.cell (j := 0) rfl; have dB2 := hB2.cell (j := 1) rfl; have fB2 := hB2.frozen 0; have gB2 := hB2.frozen 1; have HB2 := Lib.hid hB2; clear hB2; have HQ1 := Lib.hid hq; clear hq) | (go_at_call_of 73 (Value.agg #[.bool b, .string t]); ((with_reducible refine (HCB.out _).mono ?_)); rintro e w2 ⟨hq, rfl⟩; have hC0 := HB0.out.keep hq; have cC0 := hC0.cell (j := 0) rfl; have dC0 := hC0.cell (j := 1) rfl; have fC0 := hC0.frozen 0; have gC0 := hC0.frozen 1; have HC0 := Lib.hid hC0; clear hC0; have hC1 := HB1.out.keep hq; have cC1 := hC1.cell (j := 0) rfl; have dC1 := hC1.cell (j := 1) rfl; have fC1 := hC1.frozen 0; have gC1 := hC1.frozen 1; have HC1 := Lib.hid hC1; clear hC1; have hC2 := HB2.out.keep hq; have cC2 := hC2.cell (j := 0) rfl; have dC2 := hC2.cell (j := 1) rfl; have fC2 := hC2.frozen 0; have gC2 := hC2.frozen 1; have HC2 := Lib.hid hC2; clear hC2; have HQ2 := Lib.hid hq; clear hq))
 have n01 : ¬ w.heap.size + 1 = w.heap.size := by omega
 have n02 : ¬ w.heap.size = w.heap.size + 1 := by omega
 have n03 : ¬ w.heap.size + 2 = w.heap.size := by omega
 have n04 : ¬ w.heap.size + 2 = w.heap.size + 1 := by omega
 have hD0 := (((HC0.out.set 0 (.bool a)).set 1 (.string s)).setOther (a := ⟨w.heap.size + 1, 0, none⟩) n01 (.bool b)).setOther (a := ⟨w.heap.size + 1, 1, none⟩) n01 (.string t)
 have hD1 := (((HC1.out.setOther (a := ⟨w.heap.size, 0, none⟩) n02 (.bool a)).setOther (a := ⟨w.heap.size, 1, none⟩) n02 (.string s)).set 0 (.bool b)).set 1 (.string t)
 have hD2 := (((HC2.out.setOther (a := ⟨w.heap.size, 0, none⟩) (fun e => n03 e.symm) (.bool a)).setOther (a := ⟨w.heap.size, 1, none⟩) (fun e => n03 e.symm) (.string s)).setOther (a := ⟨w.heap.size + 1, 0, none⟩) (fun e => n04 e.symm) (.bool b)).setOther (a := ⟨w.heap.size + 1, 1, none⟩) (fun e => n04 e.symm) (.string t)
 have s1 := S0.out.drew.trans (HQ1.out.mono S0.out.size)
 have s2 := s1.trans (HQ2.out.mono s1.size)
 have s3 := (((s2.setCell (p := ⟨w.heap.size, 0, none⟩) (Nat.le_refl _) (.bool a)).setCell (p := ⟨w.heap.size, 1, none⟩) (Nat.le_refl _) (.string s)).setCell (p := ⟨w.heap.size + 1, 0, none⟩) (Nat.le_add_right _ _) (.bool b)).setCell (p := ⟨w.heap.size + 1, 1, none⟩) (Nat.le_add_right _ _) (.string t)
 clear s1 s2 cB0 dB0 cB1 dB1 cB2 dB2 fB2 gB2 cC0 dC0 cC1 dC1 cC2 dC2 fC0 gC0 fC1 gC1 fC2 gC2
 obtain ⟨W, hW⟩ : ∃ W, W = (((w2.setCell ⟨w.heap.size, 0, none⟩ (.bool a)).setCell ⟨w.heap.size, 1, none⟩ (.string s)).setCell ⟨w.heap.size + 1, 0, none⟩ (.bool b)).setCell ⟨w.heap.size + 1, 1, none⟩ (.string t) := ⟨_, rfl⟩
 rw [← hW] at hD0 hD1 hD2 s3 ⊢
 have HW := Lib.hid hW; clear hW
 have S3 := Lib.hid s3; clear s3
 have cD0 := hD0.cell (j := 0) rfl
 have dD0 := hD0.cell (j := 1) rfl
 have cD1 := hD1.cell (j := 0) rfl
 have dD1 := hD1.cell (j := 1) rfl
 have cD2 := hD2.cell (j := 0) rfl
 have dD2 := hD2.cell (j := 1) rfl
 have fD2 := hD2.frozen 0
 have gD2 := hD2.frozen 1
 have HD0 := Lib.hid hD0; clear hD0
 have HD1 := Lib.hid hD1; clear hD1
 have HD2 := Lib.hid hD2; clear hD2
 clear n01 n02 n03 n04
 rcases hbig with hb1 | ⟨hb1, hb2⟩
 all_goals
  go_wp2_with (go_at_call 76; refine (HCM.out _).mono ?_; rintro e w' ⟨rfl, rfl⟩)
  go_wp2_with fail
  refine bodyPost_ret (v := .agg #[.bool false, .string ⟨#[]⟩]) (by simp [results, Tryz.results40, go_sem, cD2, dD2]) rfl ⟨?_, ?_⟩
  ·
   exact (S3.out.setCell (p := ⟨w.heap.size + 2, 0, none⟩) (Nat.le_add_right _ _) _).setCell (p := ⟨w.heap.size + 2, 1, none⟩) (Nat.le_add_right _ _) _
  ·
   exact ret_of HV.out.symm

set_option maxRecDepth 100000 in
set_option maxHeartbeats 3200000 in
theorem radd_gt    (a b : Bool) (s t : ByteArray) (w : World) (hs : s.size ≤ 1099511627775) (ht : t.size ≤ 1099511627775)
  (hca : IntV (ival a s) = .agg #[.bool a, .string s]) (hcb : IntV (ival b t) = .agg #[.bool b, .string t]) (hbig : 8 ≤ s.size ∨ s.size < 8 ∧ 8 ≤ t.size) (hab : ¬ a = b) (hxy : bval t.data.toList < bval s.data.toList) :
  Calls Tryz.prog 40 #[.agg #[.bool a, .string s], .agg #[.bool b, .string t]] w (Ret w (IntV (ival a s + ival b t))) := by
 have hCA : ∀ w', Calls Tryz.prog 73 #[.agg #[.bool a, .string s]] w' (Ret w' (.agg #[.bool a, .string s])) := fun w' => by
  have h := rcanon_any a s w' (by omega)
  rwa [hca] at h
 have hCB : ∀ w', Calls Tryz.prog 73 #[.agg #[.bool b, .string t]] w' (Ret w' (.agg #[.bool b, .string t])) := fun w' => by
  have h := rcanon_any b t w' (by omega)
  rwa [hcb] at h
 have HCA := Lib.hid hCA; clear hCA
 have HCB := Lib.hid hCB; clear hCB
 have eX := can_bb a s hca
 have eY := can_bb b t hcb
 have hx0 : ¬ (bval s.data.toList = 0 ∧ bval t.data.toList = 0) := by
  rintro ⟨e1, e2⟩
  rcases hbig with h | ⟨h, h'⟩
  ·
   exact can_size s eX 8 h (by decide) e1
  ·
   exact can_size t eY 8 h' (by decide) e2
 have hab2 : (a == b) = false := by simpa using hab
 have hcm := fun w' => rcmp_any (bval s.data.toList) (bval t.data.toList) s t w' (by omega) (by omega) eX eY
 simp only [cmpN_gt hxy] at hcm
 have HCM := Lib.hid hcm; clear hcm
 have htz : t.size ≤ s.size := by
  rw [← bytes_size, ← bytes_size, eX, eY]
  rcases Nat.lt_or_ge (bb (bval s.data.toList)).length (bb (bval t.data.toList)).length with h | h
  ·
   have := bb_len_lt h; omega
  ·
   exact h
 have hsub := fun w' => rsubmag_any s t w' hs htz (by omega)
 have hv : IntV (ival a s + ival b t) = .agg #[.bool a, .string (bstr (bval s.data.toList - bval t.data.toList))] := by
  rw [← intv_sgn a _ (by omega), ival, ival, sgn_add_ge a b _ _ hab (by omega)]
 have HV := Lib.hid hv; clear hv
 have HSUB := Lib.hid hsub; clear hsub htz hx0 eX eY hca hcb hxy hab
 have hA0 := ((Blk.new w 28 [.bool a, .string s]).alloc (.cells #[.bool b, .string t] 28)).alloc (.cells #[.bool false, .string ⟨#[]⟩] 28)
 have HA0 := Lib.hid hA0; clear hA0
 have hA1 := ((Blk.new (w.alloc (.cells #[.bool a, .string s] 28)) 28 [.bool b, .string t]).alloc (.cells #[.bool false, .string ⟨#[]⟩] 28))
 simp only [World.size_alloc, Nat.add_assoc, Nat.reduceAdd] at hA1
 have HA1 := Lib.hid hA1; clear hA1
 have hA2 := (Blk.new ((w.alloc (.cells #[.bool a, .string s] 28)).alloc (.cells #[.bool b, .string t] 28)) 28 [.bool false, .string ⟨#[]⟩])
 simp only [World.size_alloc, Nat.add_assoc, Nat.reduceAdd] at hA2
 have HA2 := Lib.hid hA2; clear hA2
 have s0 := (((Below.refl w.heap.size w).alloc (Nat.le_refl _) (.cells #[.bool a, .string s] 28)).alloc (by simp) (.cells #[.bool b, .string t] 28)).alloc (by simp <;> omega) (.cells #[.bool false, .string ⟨#[]⟩] 28)
 have S0 := Lib.hid s0; clear s0
 go_enter Tryz.func40, Tryz.ntmps40
 go_wp2_with fail
 go_region_held3 (fun w' => w'.cell? ⟨w.heap.size, 0, none⟩ = some (.bool a) ∧ w'.cell? ⟨w.heap.size, 1, none⟩ = some (.string s) ∧ w'.cell? ⟨w.heap.size + 1, 0, none⟩ = some (.bool b) ∧ w'.cell? ⟨w.heap.size + 1, 1, none⟩ = some (.string t)) ((try refine ⟨?_, ?_, ?_, ?_⟩) <;> (first | (simp [*, World.cell?_alloc_some, World.cell?_setCell_far]; done) | ((repeat (refine keep_cell ?_ (by intro e; first | rfl | (simp at e; done) | (simp at e; omega)))); assumption))) (first | (go_at_call_of 73 (Value.agg #[.bool a, .string s]); ((with_reducible refine (HCA.out _).mono ?_)); rintro e w1 ⟨hq, rfl⟩; have hB0 := HA0.out.drew.keep hq; have cB0 := hB0.cell (j := 0) rfl; have dB0 := hB0.cell (j := 1) rfl; have HB0 := Lib.hid hB0; clear hB0; have hB1 := HA1.out.drew.keep hq; have cB1 := hB1.cell (j := 0) rfl; have dB1 := hB1.cell (j := 1) rfl; have HB1 := Lib.hid hB1; clear hB1; have hB2 := HA2.out.drew.keep hq; have cB2 := hB2.cell (j := 0) rfl; have dB2 := hB2.cell (j := 1) rfl; have fB2 := hB2.frozen 0; have gB2 := hB2.frozen 1; have HB2 := Lib.hid hB2; clear hB2; have HQ1 := Lib.hid hq; clear hq) | (go_at_call_of 73 (Value.agg #[.bool b, .string t]); ((with_reducible refine (HCB.out _).mono ?_)); rintro e w2 ⟨hq, rfl⟩; have hC0 := HB0.out.keep hq; have cC0 := hC0.cell (j := 0) rfl; have dC0 := hC0.cell (j := 1) rfl; have fC0 := hC0.frozen 0; have gC0 := hC0.frozen 1; have HC0 := Lib.hid hC0; clear hC0; have hC1 := HB1.out.keep hq; have cC1 := hC1.cell (j := 0) rfl; have dC1 := hC1.cell (j := 1) rfl; have fC1 := hC1.frozen 0; have gC1 := hC1.frozen 1; have HC1 := Lib.hid hC1; clear hC1; have hC2 := HB2.out.keep hq; have cC2 := hC2.cell (j := 0) rfl; have dC2 := hC2.cell (j := 1) rfl; have fC2 := hC2.frozen 0; have gC2 := hC2.frozen 1; have HC2 := Lib.hid hC2; clear hC2; have HQ2 := Lib.hid hq; clear hq))
 have n01 : ¬ w.heap.size + 1 = w.heap.size := by omega
 have n02 : ¬ w.heap.size = w.heap.size + 1 := by omega
 have n03 : ¬ w.heap.size + 2 = w.heap.size := by omega
 have n04 : ¬ w.heap.size + 2 = w.heap.size + 1 := by omega
 have hD0 := (((HC0.out.set 0 (.bool a)).set 1 (.string s)).setOther (a := ⟨w.heap.size + 1, 0, none⟩) n01 (.bool b)).setOther (a := ⟨w.heap.size + 1, 1, none⟩) n01 (.string t)
 have hD1 := (((HC1.out.setOther (a := ⟨w.heap.size, 0, none⟩) n02 (.bool a)).setOther (a := ⟨w.heap.size, 1, none⟩) n02 (.string s)).set 0 (.bool b)).set 1 (.string t)
 have hD2 := (((HC2.out.setOther (a := ⟨w.heap.size, 0, none⟩) (fun e => n03 e.symm) (.bool a)).setOther (a := ⟨w.heap.size, 1, none⟩) (fun e => n03 e.symm) (.string s)).setOther (a := ⟨w.heap.size + 1, 0, none⟩) (fun e => n04 e.symm) (.bool b)).setOther (a := ⟨w.heap.size + 1, 1, none⟩) (fun e => n04 e.symm) (.string t)
 have s1 := S0.out.drew.trans (HQ1.out.mono S0.out.size)
 have s2 := s1.trans (HQ2.out.mono s1.size)
 have s3 := (((s2.setCell (p := ⟨w.heap.size, 0, none⟩) (Nat.le_refl _) (.bool a)).setCell (p := ⟨w.heap.size, 1, none⟩) (Nat.le_refl _) (.string s)).setCell (p := ⟨w.heap.size + 1, 0, none⟩) (Nat.le_add_right _ _) (.bool b)).setCell (p := ⟨w.heap.size + 1, 1, none⟩) (Nat.le_add_right _ _) (.string t)
 clear s1 s2 cB0 dB0 cB1 dB1 cB2 dB2 fB2 gB2 cC0 dC0 cC1 dC1 cC2 dC2 fC0 gC0 fC1 gC1 fC2 gC2
 obtain ⟨W, hW⟩ : ∃ W, W = (((w2.setCell ⟨w.heap.size, 0, none⟩ (.bool a)).setCell ⟨w.heap.size, 1, none⟩ (.string s)).setCell ⟨w.heap.size + 1, 0, none⟩ (.bool b)).setCell ⟨w.heap.size + 1, 1, none⟩ (.string t) := ⟨_, rfl⟩
 rw [← hW] at hD0 hD1 hD2 s3 ⊢
 have HW := Lib.hid hW; clear hW
 have S3 := Lib.hid s3; clear s3
 have cD0 := hD0.cell (j := 0) rfl
 have dD0 := hD0.cell (j := 1) rfl
 have cD1 := hD1.cell (j := 0) rfl
 have dD1 := hD1.cell (j := 1) rfl
 have cD2 := hD2.cell (j := 0) rfl
 have dD2 := hD2.cell (j := 1) rfl
 have fD2 := hD2.frozen 0
 have gD2 := hD2.frozen 1
 have HD0 := Lib.hid hD0; clear hD0
 have HD1 := Lib.hid hD1; clear hD1
 have HD2 := Lib.hid hD2; clear hD2
 clear n01 n02 n03 n04
 rcases hbig with hb1 | ⟨hb1, hb2⟩
 all_goals
  go_wp2_with (go_at_call 76; refine (HCM.out _).mono ?_; rintro e w' ⟨rfl, rfl⟩)
  go_region_held3 (fun w' => w'.cell? ⟨w.heap.size, 0, none⟩ = some (.bool a) ∧ w'.cell? ⟨w.heap.size, 1, none⟩ = some (.string s) ∧ w'.cell? ⟨w.heap.size + 1, 0, none⟩ = some (.bool b) ∧ w'.cell? ⟨w.heap.size + 1, 1, none⟩ = some (.string t)) ((try refine ⟨?_, ?_, ?_, ?_⟩) <;> (first | (simp [*, World.cell?_alloc_some, World.cell?_setCell_far]; done) | ((repeat (refine keep_cell ?_ (by intro e; first | rfl | (simp at e; done) | (simp at e; omega)))); assumption))) (first | (go_at_call 77; ((with_reducible refine (HSUB.out _).mono ?_)); rintro e w5 ⟨hq, rfl⟩; have hE0 := HD0.out.drew.keep hq; have cE0 := hE0.cell (j := 0) rfl; have dE0 := hE0.cell (j := 1) rfl; have HE0 := Lib.hid hE0; clear hE0; have hE1 := HD1.out.drew.keep hq; have cE1 := hE1.cell (j := 0) rfl; have dE1 := hE1.cell (j := 1) rfl; have HE1 := Lib.hid hE1; clear hE1; have hE2 := HD2.out.drew.keep hq; have cE2 := hE2.cell (j := 0) rfl; have dE2 := hE2.cell (j := 1) rfl; have fE2 := hE2.frozen 0; have gE2 := hE2.frozen 1; have HE2 := Lib.hid hE2; clear hE2; have HQ5 := Lib.hid hq; clear hq))
  go_wp2_with fail
  refine bodyPost_ret (v := .agg #[.bool a, .string (bstr (bval s.data.toList - bval t.data.toList))]) (by simp [results, Tryz.results40, go_sem, cE2, dE2]) rfl ⟨?_, ?_⟩
  ·
   exact ((S3.out.drew.trans (HQ5.out.mono S3.out.size)).setCell (p := ⟨w.heap.size + 2, 0, none⟩) (Nat.le_add_right _ _) _).setCell (p := ⟨w.heap.size + 2, 1, none⟩) (Nat.le_add_right _ _) _
  ·
   exact ret_of HV.out.symm

set_option maxRecDepth 100000 in
set_option maxHeartbeats 3200000 in
theorem radd_lt    (a b : Bool) (s t : ByteArray) (w : World) (hs : s.size ≤ 1099511627775) (ht : t.size ≤ 1099511627775)
  (hca : IntV (ival a s) = .agg #[.bool a, .string s]) (hcb : IntV (ival b t) = .agg #[.bool b, .string t]) (hbig : 8 ≤ s.size ∨ s.size < 8 ∧ 8 ≤ t.size) (hab : ¬ a = b) (hxy : bval s.data.toList < bval t.data.toList) :
  Calls Tryz.prog 40 #[.agg #[.bool a, .string s], .agg #[.bool b, .string t]] w (Ret w (IntV (ival a s + ival b t))) := by
 have hCA : ∀ w', Calls Tryz.prog 73 #[.agg #[.bool a, .string s]] w' (Ret w' (.agg #[.bool a, .string s])) := fun w' => by
  have h := rcanon_any a s w' (by omega)
  rwa [hca] at h
 have hCB : ∀ w', Calls Tryz.prog 73 #[.agg #[.bool b, .string t]] w' (Ret w' (.agg #[.bool b, .string t])) := fun w' => by
  have h := rcanon_any b t w' (by omega)
  rwa [hcb] at h
 have HCA := Lib.hid hCA; clear hCA
 have HCB := Lib.hid hCB; clear hCB
 have eX := can_bb a s hca
 have eY := can_bb b t hcb
 have hx0 : ¬ (bval s.data.toList = 0 ∧ bval t.data.toList = 0) := by
  rintro ⟨e1, e2⟩
  rcases hbig with h | ⟨h, h'⟩
  ·
   exact can_size s eX 8 h (by decide) e1
  ·
   exact can_size t eY 8 h' (by decide) e2
 have hab2 : (a == b) = false := by simpa using hab
 have hcm := fun w' => rcmp_any (bval s.data.toList) (bval t.data.toList) s t w' (by omega) (by omega) eX eY
 simp only [cmpN_lt hxy] at hcm
 have HCM := Lib.hid hcm; clear hcm
 have htz : s.size ≤ t.size := by
  rw [← bytes_size, ← bytes_size, eX, eY]
  rcases Nat.lt_or_ge (bb (bval t.data.toList)).length (bb (bval s.data.toList)).length with h | h
  ·
   have := bb_len_lt h; omega
  ·
   exact h
 have hsub := fun w' => rsubmag_any t s w' ht htz (by omega)
 have hv : IntV (ival a s + ival b t) = .agg #[.bool b, .string (bstr (bval t.data.toList - bval s.data.toList))] := by
  rw [← intv_sgn b _ (by omega), ival, ival, sgn_add_lt a b _ _ hab hxy]
 have HV := Lib.hid hv; clear hv
 have HSUB := Lib.hid hsub; clear hsub htz hx0 eX eY hca hcb hxy hab
 have hA0 := ((Blk.new w 28 [.bool a, .string s]).alloc (.cells #[.bool b, .string t] 28)).alloc (.cells #[.bool false, .string ⟨#[]⟩] 28)
 have HA0 := Lib.hid hA0; clear hA0
 have hA1 := ((Blk.new (w.alloc (.cells #[.bool a, .string s] 28)) 28 [.bool b, .string t]).alloc (.cells #[.bool false, .string ⟨#[]⟩] 28))
 simp only [World.size_alloc, Nat.add_assoc, Nat.reduceAdd] at hA1
 have HA1 := Lib.hid hA1; clear hA1
 have hA2 := (Blk.new ((w.alloc (.cells #[.bool a, .string s] 28)).alloc (.cells #[.bool b, .string t] 28)) 28 [.bool false, .string ⟨#[]⟩])
 simp only [World.size_alloc, Nat.add_assoc, Nat.reduceAdd] at hA2
 have HA2 := Lib.hid hA2; clear hA2
 have s0 := (((Below.refl w.heap.size w).alloc (Nat.le_refl _) (.cells #[.bool a, .string s] 28)).alloc (by simp) (.cells #[.bool b, .string t] 28)).alloc (by simp <;> omega) (.cells #[.bool false, .string ⟨#[]⟩] 28)
 have S0 := Lib.hid s0; clear s0
 go_enter Tryz.func40, Tryz.ntmps40
 go_wp2_with fail
 go_region_held3 (fun w' => w'.cell? ⟨w.heap.size, 0, none⟩ = some (.bool a) ∧ w'.cell? ⟨w.heap.size, 1, none⟩ = some (.string s) ∧ w'.cell? ⟨w.heap.size + 1, 0, none⟩ = some (.bool b) ∧ w'.cell? ⟨w.heap.size + 1, 1, none⟩ = some (.string t)) ((try refine ⟨?_, ?_, ?_, ?_⟩) <;> (first | (simp [*, World.cell?_alloc_some, World.cell?_setCell_far]; done) | ((repeat (refine keep_cell ?_ (by intro e; first | rfl | (simp at e; done) | (simp at e; omega)))); assumption))) (first | (go_at_call_of 73 (Value.agg #[.bool a, .string s]); ((with_reducible refine (HCA.out _).mono ?_)); rintro e w1 ⟨hq, rfl⟩; have hB0 := HA0.out.drew.keep hq; have cB0 := hB0.cell (j := 0) rfl; have dB0 := hB0.cell (j := 1) rfl; have HB0 := Lib.hid hB0; clear hB0; have hB1 := HA1.out.drew.keep hq; have cB1 := hB1.cell (j := 0) rfl; have dB1 := hB1.cell (j := 1) rfl; have HB1 := Lib.hid hB1; clear hB1; have hB2 := HA2.out.drew.keep hq; have cB2 := hB2.cell (j := 0) rfl; have dB2 := hB2.cell (j := 1) rfl; have fB2 := hB2.frozen 0; have gB2 := hB2.frozen 1; have HB2 := Lib.hid hB2; clear hB2; have HQ1 := Lib.hid hq; clear hq) | (go_at_call_of 73 (Value.agg #[.bool b, .string t]); ((with_reducible refine (HCB.out _).mono ?_)); rintro e w2 ⟨hq, rfl⟩; have hC0 := HB0.out.keep hq; have cC0 := hC0.cell (j := 0) rfl; have dC0 := hC0.cell (j := 1) rfl; have fC0 := hC0.frozen 0; have gC0 := hC0.frozen 1; have HC0 := Lib.hid hC0; clear hC0; have hC1 := HB1.out.keep hq; have cC1 := hC1.cell (j := 0) rfl; have dC1 := hC1.cell (j := 1) rfl; have fC1 := hC1.frozen 0; have gC1 := hC1.frozen 1; have HC1 := Lib.hid hC1; clear hC1; have hC2 := HB2.out.keep hq; have cC2 := hC2.cell (j := 0) rfl; have dC2 := hC2.cell (j := 1) rfl; have fC2 := hC2.frozen 0; have gC2 := hC2.frozen 1; have HC2 := Lib.hid hC2; clear hC2; have HQ2 := Lib.hid hq; clear hq))
 have n01 : ¬ w.heap.size + 1 = w.heap.size := by omega
 have n02 : ¬ w.heap.size = w.heap.size + 1 := by omega
 have n03 : ¬ w.heap.size + 2 = w.heap.size := by omega
 have n04 : ¬ w.heap.size + 2 = w.heap.size + 1 := by omega
 have hD0 := (((HC0.out.set 0 (.bool a)).set 1 (.string s)).setOther (a := ⟨w.heap.size + 1, 0, none⟩) n01 (.bool b)).setOther (a := ⟨w.heap.size + 1, 1, none⟩) n01 (.string t)
 have hD1 := (((HC1.out.setOther (a := ⟨w.heap.size, 0, none⟩) n02 (.bool a)).setOther (a := ⟨w.heap.size, 1, none⟩) n02 (.string s)).set 0 (.bool b)).set 1 (.string t)
 have hD2 := (((HC2.out.setOther (a := ⟨w.heap.size, 0, none⟩) (fun e => n03 e.symm) (.bool a)).setOther (a := ⟨w.heap.size, 1, none⟩) (fun e => n03 e.symm) (.string s)).setOther (a := ⟨w.heap.size + 1, 0, none⟩) (fun e => n04 e.symm) (.bool b)).setOther (a := ⟨w.heap.size + 1, 1, none⟩) (fun e => n04 e.symm) (.string t)
 have s1 := S0.out.drew.trans (HQ1.out.mono S0.out.size)
 have s2 := s1.trans (HQ2.out.mono s1.size)
 have s3 := (((s2.setCell (p := ⟨w.heap.size, 0, none⟩) (Nat.le_refl _) (.bool a)).setCell (p := ⟨w.heap.size, 1, none⟩) (Nat.le_refl _) (.string s)).setCell (p := ⟨w.heap.size + 1, 0, none⟩) (Nat.le_add_right _ _) (.bool b)).setCell (p := ⟨w.heap.size + 1, 1, none⟩) (Nat.le_add_right _ _) (.string t)
 clear s1 s2 cB0 dB0 cB1 dB1 cB2 dB2 fB2 gB2 cC0 dC0 cC1 dC1 cC2 dC2 fC0 gC0 fC1 gC1 fC2 gC2
 obtain ⟨W, hW⟩ : ∃ W, W = (((w2.setCell ⟨w.heap.size, 0, none⟩ (.bool a)).setCell ⟨w.heap.size, 1, none⟩ (.string s)).setCell ⟨w.heap.size + 1, 0, none⟩ (.bool b)).setCell ⟨w.heap.size + 1, 1, none⟩ (.string t) := ⟨_, rfl⟩
 rw [← hW] at hD0 hD1 hD2 s3 ⊢
 have HW := Lib.hid hW; clear hW
 have S3 := Lib.hid s3; clear s3
 have cD0 := hD0.cell (j := 0) rfl
 have dD0 := hD0.cell (j := 1) rfl
 have cD1 := hD1.cell (j := 0) rfl
 have dD1 := hD1.cell (j := 1) rfl
 have cD2 := hD2.cell (j := 0) rfl
 have dD2 := hD2.cell (j := 1) rfl
 have fD2 := hD2.frozen 0
 have gD2 := hD2.frozen 1
 have HD0 := Lib.hid hD0; clear hD0
 have HD1 := Lib.hid hD1; clear hD1
 have HD2 := Lib.hid hD2; clear hD2
 clear n01 n02 n03 n04
 rcases hbig with hb1 | ⟨hb1, hb2⟩
 all_goals
  go_wp2_with (go_at_call 76; refine (HCM.out _).mono ?_; rintro e w' ⟨rfl, rfl⟩)
  go_region_held3 (fun w' => w'.cell? ⟨w.heap.size, 0, none⟩ = some (.bool a) ∧ w'.cell? ⟨w.heap.size, 1, none⟩ = some (.string s) ∧ w'.cell? ⟨w.heap.size + 1, 0, none⟩ = some (.bool b) ∧ w'.cell? ⟨w.heap.size + 1, 1, none⟩ = some (.string t)) ((try refine ⟨?_, ?_, ?_, ?_⟩) <;> (first | (simp [*, World.cell?_alloc_some, World.cell?_setCell_far]; done) | ((repeat (refine keep_cell ?_ (by intro e; first | rfl | (simp at e; done) | (simp at e; omega)))); assumption))) (first | (go_at_call 77; ((with_reducible refine (HSUB.out _).mono ?_)); rintro e w5 ⟨hq, rfl⟩; have hE0 := HD0.out.drew.keep hq; have cE0 := hE0.cell (j := 0) rfl; have dE0 := hE0.cell (j := 1) rfl; have HE0 := Lib.hid hE0; clear hE0; have hE1 := HD1.out.drew.keep hq; have cE1 := hE1.cell (j := 0) rfl; have dE1 := hE1.cell (j := 1) rfl; have HE1 := Lib.hid hE1; clear hE1; have hE2 := HD2.out.drew.keep hq; have cE2 := hE2.cell (j := 0) rfl; have dE2 := hE2.cell (j := 1) rfl; have fE2 := hE2.frozen 0; have gE2 := hE2.frozen 1; have HE2 := Lib.hid hE2; clear hE2; have HQ5 := Lib.hid hq; clear hq))
  go_wp2_with fail
  refine bodyPost_ret (v := .agg #[.bool b, .string (bstr (bval t.data.toList - bval s.data.toList))]) (by simp [results, Tryz.results40, go_sem, cE2, dE2]) rfl ⟨?_, ?_⟩
  ·
   exact ((S3.out.drew.trans (HQ5.out.mono S3.out.size)).setCell (p := ⟨w.heap.size + 2, 0, none⟩) (Nat.le_add_right _ _) _).setCell (p := ⟨w.heap.size + 2, 1, none⟩) (Nat.le_add_right _ _) _
  ·
   exact ret_of HV.out.symm

theorem radd_bytes
  (a b : Bool) (s t : ByteArray) (w : World) (hs : s.size ≤ 1099511627775) (ht : t.size ≤ 1099511627775)
  (hca : IntV (ival a s) = .agg #[.bool a, .string s]) (hcb : IntV (ival b t) = .agg #[.bool b, .string t]) :
  Calls Tryz.prog 40 #[.agg #[.bool a, .string s], .agg #[.bool b, .string t]] w (Ret w (IntV (ival a s + ival b t))) := by
 by_cases h : s.size < 8 ∧ t.size < 8
 ·
  exact radd_small a b s t w hs ht hca hcb h.1 h.2
 ·
  have hbig : 8 ≤ s.size ∨ s.size < 8 ∧ 8 ≤ t.size := by omega
  by_cases hab : a = b
  ·
   subst hab
   exact radd_same a s t w hs ht hca hcb hbig
  ·
   rcases Nat.lt_trichotomy (bval s.data.toList) (bval t.data.toList) with h | h | h
   ·
    exact radd_lt a b s t w hs ht hca hcb hbig hab h
   ·
    exact radd_eq a b s t w hs ht hca hcb hbig hab h
   ·
    exact radd_gt a b s t w hs ht hca hcb hbig hab h
/-- grooveref01.Add, of canonical integers. -/
theorem radd_any (x y : Int) (w : World) (hx : (imag x).size ≤ 1099511627775) (hy : (imag y).size ≤ 1099511627775) :
  Calls Tryz.prog 40 #[IntV x, IntV y] w (Ret w (IntV (x + y))) := by
 have h := radd_bytes (ineg x) (ineg y) (imag x) (imag y) w hx hy (by rw [ival_canon]) (by rw [ival_canon])
 rwa [ival_canon, ival_canon] at h
end Go.Proofs.YthpgeeaccmgbkaaGreat
