/- grooveref01.Div, of canonical integers that are not negative. -/
import Derived.BigQuiet
import Derived.Test.YthpgeeaccmgbkaaGreatRDivM
namespace Go.Proofs.YthpgeeaccmgbkaaGreat
open Go.RowKit

set_option maxRecDepth 100000 in
set_option maxHeartbeats 6400000 in
theorem rdiv_small (X D : Nat) (w : World) (hX8 : (bstr X).size < 8) (hD8 : (bstr D).size < 8) (hs0 : (bstr X).size ≤ 1048576) (ht0 : (bstr D).size ≤ 1048576) (hD : 0 < D) :
    Calls Tryz.prog 50 #[IntV (X : Int), IntV (D : Int)] w (Ret w (.tuple #[IntV ((X / D : Nat) : Int), IntV ((X % D : Nat) : Int), .int .i64 0])) := by
  have hca : ∀ w', Calls Tryz.prog 73 #[.agg #[.bool false, .string (bstr X)]] w' (Ret w' (.agg #[.bool false, .string (bstr X)])) := fun w' => by
    have h := rcanon_any false (bstr X) w' (by omega)
    rwa [ival, bval_bstr, sgn, if_neg (by simp), intv_nat] at h
  have hcb : ∀ w', Calls Tryz.prog 73 #[.agg #[.bool false, .string (bstr D)]] w' (Ret w' (.agg #[.bool false, .string (bstr D)])) := fun w' => by
    have h := rcanon_any false (bstr D) w' (by omega)
    rwa [ival, bval_bstr, sgn, if_neg (by simp), intv_nat] at h
  have htl : (bstr D).toList ≠ [] := fun e => by have := bstr_empty.1 e; omega
  have hX7 : X < 72057594037927936 := by
    have h1 := bval_lt (bstr X).data.toList
    rw [bval_bstr, bytes_size] at h1
    have h2 : 256 ^ (bstr X).size ≤ 256 ^ 7 := Nat.pow_le_pow_right (by decide) (by omega)
    have h3 : 256 ^ 7 = 72057594037927936 := by decide
    omega
  have hD7 : D < 72057594037927936 := by
    have h1 := bval_lt (bstr D).data.toList
    rw [bval_bstr, bytes_size] at h1
    have h2 : 256 ^ (bstr D).size ≤ 256 ^ 7 := Nat.pow_le_pow_right (by decide) (by omega)
    have h3 : 256 ^ 7 = 72057594037927936 := by decide
    omega
  have hsmX := fun w' => small_any (bstr X) w' (by omega)
  have hsmD := fun w' => small_any (bstr D) w' (by omega)
  simp only [bval_bstr] at hsmX hsmD
  have hq1 : X / D ≤ X := Nat.div_le_self _ _
  have hq2 : X % D ≤ X := Nat.mod_le _ _
  obtain ⟨Q, hQ⟩ : ∃ Q, Q = X / D := ⟨_, rfl⟩
  obtain ⟨R, hR⟩ : ∃ R, R = X % D := ⟨_, rfl⟩
  have eQ : (X : Int) / (D : Int) = (Q : Int) := by rw [hQ, Int.natCast_ediv]
  have eR : (X : Int) % (D : Int) = (R : Int) := by rw [hR, Int.natCast_emod]
  rw [← hQ] at hq1 ⊢
  rw [← hR] at hq2 ⊢
  have hof1 := fun w' => rof_any (Q : Int) w' (by omega) (by omega)
  have hof2 := fun w' => rof_any (R : Int) w' (by omega) (by omega)
  have eR2 : (X : Int).tmod (D : Int) = (R : Int) := by rw [Int.tmod_eq_emod_of_nonneg (by omega)]; exact eR
  have hwQ : IntKind.i64.wrap (Q : Int) = (Q : Int) := IntWalk.i64_in _ (by omega)
  have hwR : IntKind.i64.wrap (R : Int) = (R : Int) := IntWalk.i64_in _ (by omega)
  have HOF1 := Lib.hid hof1; clear hof1
  have HOF2 := Lib.hid hof2; clear hof2
  clear hQ hR
  have hdz : ¬ (D : Int) = 0 := by omega
  have hdz2 : ¬ D = 0 := by omega
  rw [intv_nat X, intv_nat D]
  obtain ⟨s, hs⟩ : ∃ s, s = bstr X := ⟨_, rfl⟩
  obtain ⟨t, ht⟩ : ∃ t, t = bstr D := ⟨_, rfl⟩
  simp only [← hs, ← ht] at *
  have e1 : (t.toList == []) = false := by rw [beq_eq_false_iff_ne]; exact htl
  have e2 : t.toList.isEmpty = false := by rw [List.isEmpty_eq_false_iff]; exact htl
  have HSMX := Lib.hid hsmX; clear hsmX
  have HSMD := Lib.hid hsmD; clear hsmD
  have HCA := Lib.hid hca; clear hca
  have HCB := Lib.hid hcb; clear hcb
  have HS := Lib.hid hs; clear hs
  have HT := Lib.hid ht; clear ht
  clear htl
  have hA0 := (((Blk.new w 28 [.bool false, .string s]).alloc (.cells #[.bool false, .string t] 28)).alloc (.cells #[.bool false, .string ⟨#[]⟩] 28)).alloc (.cells #[.bool false, .string ⟨#[]⟩] 28)
  have hA1 := ((Blk.new (w.alloc (.cells #[.bool false, .string s] 28)) 28 [.bool false, .string t]).alloc (.cells #[.bool false, .string ⟨#[]⟩] 28)).alloc (.cells #[.bool false, .string ⟨#[]⟩] 28)
  have hA2 := (Blk.new ((w.alloc (.cells #[.bool false, .string s] 28)).alloc (.cells #[.bool false, .string t] 28)) 28 [.bool false, .string ⟨#[]⟩]).alloc (.cells #[.bool false, .string ⟨#[]⟩] 28)
  have hA3 := Blk.new (((w.alloc (.cells #[.bool false, .string s] 28)).alloc (.cells #[.bool false, .string t] 28)).alloc (.cells #[.bool false, .string ⟨#[]⟩] 28)) 28 [.bool false, .string ⟨#[]⟩]
  simp only [World.size_alloc, Nat.add_assoc, Nat.reduceAdd] at hA1 hA2 hA3
  have s0 := ((((Below.refl w.heap.size w).alloc (Nat.le_refl _) (.cells #[.bool false, .string s] 28)).alloc (by simp) (.cells #[.bool false, .string t] 28)).alloc (by simp <;> omega) (.cells #[.bool false, .string ⟨#[]⟩] 28)).alloc (by simp <;> omega) (.cells #[.bool false, .string ⟨#[]⟩] 28)
  have HA0 := Lib.hid hA0; clear hA0
  have HA1 := Lib.hid hA1; clear hA1
  have HA2 := Lib.hid hA2; clear hA2
  have HA3 := Lib.hid hA3; clear hA3
  have S0 := Lib.hid s0; clear s0
  go_enter Tryz.func50, Tryz.ntmps50
  go_wp2_with fail
  go_region_held3 (fun w' => w'.cell? ⟨w.heap.size, 0, none⟩ = some (.bool false) ∧ w'.cell? ⟨w.heap.size, 1, none⟩ = some (.string s) ∧ w'.cell? ⟨w.heap.size + 1, 0, none⟩ = some (.bool false) ∧ w'.cell? ⟨w.heap.size + 1, 1, none⟩ = some (.string t)) (((try refine ⟨?_, ?_, ?_, ?_⟩) <;> (first | (simp [*, World.cell?_alloc_some, World.cell?_setCell_far]; done) | ((repeat (refine keep_cell ?_ (by intro e; first | rfl | (simp at e; done) | (simp at e; omega)))); assumption)))) (first | (go_at_call_of 73 (Value.agg #[.bool false, .string s]); ((with_reducible refine (HCA.out _).mono ?_)); rintro e w1 ⟨hq, rfl⟩; have hB0 : Blk w1 (w.heap.size) 28 [.bool false, .string s] := (by refine Blk.keep ?_ hq <;> exact HA0.out); have cB0 := hB0.cell (j := 0) rfl; have dB0 := hB0.cell (j := 1) rfl; have HB0 := Lib.hid hB0; clear hB0; have hB1 : Blk w1 (w.heap.size + 1) 28 [.bool false, .string t] := (by refine Blk.keep ?_ hq <;> exact HA1.out); have cB1 := hB1.cell (j := 0) rfl; have dB1 := hB1.cell (j := 1) rfl; have HB1 := Lib.hid hB1; clear hB1; have hB2 : Blk w1 (w.heap.size + 2) 28 [.bool false, .string ⟨#[]⟩] := (by refine Blk.keep ?_ hq <;> exact HA2.out); have cB2 := hB2.cell (j := 0) rfl; have dB2 := hB2.cell (j := 1) rfl; have HB2 := Lib.hid hB2; clear hB2; have hB3 : Blk w1 (w.heap.size + 3) 28 [.bool false, .string ⟨#[]⟩] := (by refine Blk.keep ?_ hq <;> exact HA3.out); have cB3 := hB3.cell (j := 0) rfl; have dB3 := hB3.cell (j := 1) rfl; have HB3 := Lib.hid hB3; clear hB3; have HQ1 := Lib.hid hq; clear hq) | (go_at_call_of 73 (Value.agg #[.bool false, .string t]); ((with_reducible refine (HCB.out _).mono ?_)); rintro e w2 ⟨hq, rfl⟩; have hC0 : Blk w2 (w.heap.size) 28 [.bool false, .string s] := (by refine Blk.keep ?_ hq <;> exact HB0.out); have cC0 := hC0.cell (j := 0) rfl; have dC0 := hC0.cell (j := 1) rfl; have fC0 := hC0.frozen 0; have gC0 := hC0.frozen 1; have HC0 := Lib.hid hC0; clear hC0; have hC1 : Blk w2 (w.heap.size + 1) 28 [.bool false, .string t] := (by refine Blk.keep ?_ hq <;> exact HB1.out); have cC1 := hC1.cell (j := 0) rfl; have dC1 := hC1.cell (j := 1) rfl; have fC1 := hC1.frozen 0; have gC1 := hC1.frozen 1; have HC1 := Lib.hid hC1; clear hC1; have hC2 : Blk w2 (w.heap.size + 2) 28 [.bool false, .string ⟨#[]⟩] := (by refine Blk.keep ?_ hq <;> exact HB2.out); have cC2 := hC2.cell (j := 0) rfl; have dC2 := hC2.cell (j := 1) rfl; have fC2 := hC2.frozen 0; have gC2 := hC2.frozen 1; have HC2 := Lib.hid hC2; clear hC2; have hC3 : Blk w2 (w.heap.size + 3) 28 [.bool false, .string ⟨#[]⟩] := (by refine Blk.keep ?_ hq <;> exact HB3.out); have cC3 := hC3.cell (j := 0) rfl; have dC3 := hC3.cell (j := 1) rfl; have fC3 := hC3.frozen 0; have gC3 := hC3.frozen 1; have HC3 := Lib.hid hC3; clear hC3; have HQ2 := Lib.hid hq; clear hq))
  have n01 : ¬ w.heap.size + 1 = w.heap.size := by omega
  have n10 : ¬ w.heap.size = w.heap.size + 1 := by omega
  have n02 : ¬ w.heap.size = w.heap.size + 2 := by omega
  have n12 : ¬ w.heap.size + 1 = w.heap.size + 2 := by omega
  have n03 : ¬ w.heap.size = w.heap.size + 3 := by omega
  have n13 : ¬ w.heap.size + 1 = w.heap.size + 3 := by omega
  have hD0 := (((HC0.out.set 0 (.bool false)).set 1 (.string s)).setOther (a := ⟨w.heap.size + 1, 0, none⟩) n01 (.bool false)).setOther (a := ⟨w.heap.size + 1, 1, none⟩) n01 (.string t)
  have hD1 := (((HC1.out.setOther (a := ⟨w.heap.size, 0, none⟩) n10 (.bool false)).setOther (a := ⟨w.heap.size, 1, none⟩) n10 (.string s)).set 0 (.bool false)).set 1 (.string t)
  have hD2 := (((HC2.out.setOther (a := ⟨w.heap.size, 0, none⟩) n02 (.bool false)).setOther (a := ⟨w.heap.size, 1, none⟩) n02 (.string s)).setOther (a := ⟨w.heap.size + 1, 0, none⟩) n12 (.bool false)).setOther (a := ⟨w.heap.size + 1, 1, none⟩) n12 (.string t)
  have hD3 := (((HC3.out.setOther (a := ⟨w.heap.size, 0, none⟩) n03 (.bool false)).setOther (a := ⟨w.heap.size, 1, none⟩) n03 (.string s)).setOther (a := ⟨w.heap.size + 1, 0, none⟩) n13 (.bool false)).setOther (a := ⟨w.heap.size + 1, 1, none⟩) n13 (.string t)
  have s1 := S0.out.drew.trans (HQ1.out.mono S0.out.size)
  have s2 := s1.trans (HQ2.out.mono s1.size)
  have s3 := (((s2.setCell (p := ⟨w.heap.size, 0, none⟩) (Nat.le_refl _) (.bool false)).setCell (p := ⟨w.heap.size, 1, none⟩) (Nat.le_refl _) (.string s)).setCell (p := ⟨w.heap.size + 1, 0, none⟩) (Nat.le_add_right _ _) (.bool false)).setCell (p := ⟨w.heap.size + 1, 1, none⟩) (Nat.le_add_right _ _) (.string t)
  clear s1 s2 n01 n10 n02 n03 n12 n13
  (try clear cB0 dB0 cB1 dB1 cB2 dB2 cB3 dB3)
  (try clear cC0 dC0 cC1 dC1 cC2 dC2 cC3 dC3 fC0 gC0 fC1 gC1 fC2 gC2 fC3 gC3)
  obtain ⟨W, hW⟩ : ∃ W, W = (((w2.setCell ⟨w.heap.size, 0, none⟩ (.bool false)).setCell ⟨w.heap.size, 1, none⟩ (.string s)).setCell ⟨w.heap.size + 1, 0, none⟩ (.bool false)).setCell ⟨w.heap.size + 1, 1, none⟩ (.string t) := ⟨_, rfl⟩
  rw [← hW] at hD0 hD1 hD2 hD3 s3 ⊢
  clear hW
  have hnW : w.heap.size + 3 < W.heap.size := hD3.lt
  have hn0 : w.heap.size < W.heap.size := by omega
  have hn1 : w.heap.size + 1 < W.heap.size := by omega
  have hn2 : w.heap.size + 2 < W.heap.size := by omega
  have cD0 := hD0.cell (j := 0) rfl
  have dD0 := hD0.cell (j := 1) rfl
  have cD1 := hD1.cell (j := 0) rfl
  have dD1 := hD1.cell (j := 1) rfl
  have hE0 := (hD0.alloc (.cells #[.bool false, .string ⟨#[]⟩] 28)).alloc (.cells #[.bool false, .string ⟨#[]⟩] 28)
  have hE1 := (hD1.alloc (.cells #[.bool false, .string ⟨#[]⟩] 28)).alloc (.cells #[.bool false, .string ⟨#[]⟩] 28)
  have hE2 := (hD2.alloc (.cells #[.bool false, .string ⟨#[]⟩] 28)).alloc (.cells #[.bool false, .string ⟨#[]⟩] 28)
  have hE3 := (hD3.alloc (.cells #[.bool false, .string ⟨#[]⟩] 28)).alloc (.cells #[.bool false, .string ⟨#[]⟩] 28)
  have hE4 := (Blk.new W 28 [.bool false, .string ⟨#[]⟩]).alloc (.cells #[.bool false, .string ⟨#[]⟩] 28)
  have hE5 := Blk.new (W.alloc (.cells #[.bool false, .string ⟨#[]⟩] 28)) 28 [.bool false, .string ⟨#[]⟩]
  simp only [World.size_alloc] at hE5
  have s4 := (s3.alloc (by omega) (.cells #[.bool false, .string ⟨#[]⟩] 28)).alloc (by simp; omega) (.cells #[.bool false, .string ⟨#[]⟩] 28)
  clear hD0 hD1 hD2 hD3 s3
  have HE0 := Lib.hid hE0; clear hE0
  have HE1 := Lib.hid hE1; clear hE1
  have HE2 := Lib.hid hE2; clear hE2
  have HE3 := Lib.hid hE3; clear hE3
  have HE4 := Lib.hid hE4; clear hE4
  have HE5 := Lib.hid hE5; clear hE5
  have S4 := Lib.hid s4; clear s4
  go_wp2_with fail
  obtain ⟨V, hV⟩ : ∃ V, V = (W.alloc (.cells #[.bool false, .string ⟨#[]⟩] 28)).alloc (.cells #[.bool false, .string ⟨#[]⟩] 28) := ⟨_, rfl⟩
  rw [← hV] at HE0 HE1 HE2 HE3 HE4 HE5 S4 ⊢
  clear hV
  have cE0 := HE0.out.cell (j := 0) rfl
  have dE0 := HE0.out.cell (j := 1) rfl
  have cE1 := HE1.out.cell (j := 0) rfl
  have dE1 := HE1.out.cell (j := 1) rfl
  go_region_held3 (fun w' => w'.cell? ⟨w.heap.size, 0, none⟩ = some (.bool false) ∧ w'.cell? ⟨w.heap.size, 1, none⟩ = some (.string s) ∧ w'.cell? ⟨w.heap.size + 1, 0, none⟩ = some (.bool false) ∧ w'.cell? ⟨w.heap.size + 1, 1, none⟩ = some (.string t)) (((try refine ⟨?_, ?_, ?_, ?_⟩) <;> (first | (simp [*, World.cell?_alloc_some, World.cell?_setCell_far]; done) | ((repeat (refine keep_cell ?_ (by intro e; first | rfl | (simp at e; done) | (simp at e; omega)))); assumption)))) (first | (go_at_call_of 90 (Value.string s); ((with_reducible refine (HSMX.out _).mono ?_)); rintro e w' ⟨rfl, rfl⟩) | (go_at_call_of 90 (Value.string t); ((with_reducible refine (HSMD.out _).mono ?_)); rintro e w' ⟨rfl, rfl⟩))
  go_wp2_with fail
  go_region_held3 (fun _ => True) (first | trivial | (intros; trivial)) (first | (go_at_call_of 49 (Value.int IntKind.i64 (Q : Int)); ((with_reducible refine (HOF1.out _).mono ?_)); rintro e w3 ⟨hq, rfl⟩; have hF0 : Blk w3 (w.heap.size) 28 (([.bool false, .string s] : List Value).set 0 (.bool false) |>.set 1 (.string s)) := (by refine Blk.keep ?_ hq <;> exact HE0.out); have cF0 := hF0.cell (j := 0) rfl; have dF0 := hF0.cell (j := 1) rfl; have HF0 := Lib.hid hF0; clear hF0; have hF1 : Blk w3 (w.heap.size + 1) 28 (([.bool false, .string t] : List Value).set 0 (.bool false) |>.set 1 (.string t)) := (by refine Blk.keep ?_ hq <;> exact HE1.out); have cF1 := hF1.cell (j := 0) rfl; have dF1 := hF1.cell (j := 1) rfl; have HF1 := Lib.hid hF1; clear hF1; have hF2 : Blk w3 (w.heap.size + 2) 28 [.bool false, .string ⟨#[]⟩] := (by refine Blk.keep ?_ hq <;> exact HE2.out); have cF2 := hF2.cell (j := 0) rfl; have dF2 := hF2.cell (j := 1) rfl; have HF2 := Lib.hid hF2; clear hF2; have hF3 : Blk w3 (w.heap.size + 3) 28 [.bool false, .string ⟨#[]⟩] := (by refine Blk.keep ?_ hq <;> exact HE3.out); have cF3 := hF3.cell (j := 0) rfl; have dF3 := hF3.cell (j := 1) rfl; have HF3 := Lib.hid hF3; clear hF3; have hF4 : Blk w3 (W.heap.size) 28 [.bool false, .string ⟨#[]⟩] := (by refine Blk.keep ?_ hq <;> exact HE4.out); have cF4 := hF4.cell (j := 0) rfl; have dF4 := hF4.cell (j := 1) rfl; have HF4 := Lib.hid hF4; clear hF4; have hF5 : Blk w3 (W.heap.size + 1) 28 [.bool false, .string ⟨#[]⟩] := (by refine Blk.keep ?_ hq <;> exact HE5.out); have cF5 := hF5.cell (j := 0) rfl; have dF5 := hF5.cell (j := 1) rfl; have HF5 := Lib.hid hF5; clear hF5; have HQ3 := Lib.hid hq; clear hq) | (go_at_call_of 49 (Value.int IntKind.i64 (R : Int)); ((with_reducible refine (HOF2.out _).mono ?_)); rintro e w4 ⟨hq, rfl⟩; have hG0 : Blk w4 (w.heap.size) 28 (([.bool false, .string s] : List Value).set 0 (.bool false) |>.set 1 (.string s)) := (by refine Blk.keep ?_ hq <;> exact HF0.out); have cG0 := hG0.cell (j := 0) rfl; have dG0 := hG0.cell (j := 1) rfl; have fG0 := hG0.frozen 0; have gG0 := hG0.frozen 1; have HG0 := Lib.hid hG0; clear hG0; have hG1 : Blk w4 (w.heap.size + 1) 28 (([.bool false, .string t] : List Value).set 0 (.bool false) |>.set 1 (.string t)) := (by refine Blk.keep ?_ hq <;> exact HF1.out); have cG1 := hG1.cell (j := 0) rfl; have dG1 := hG1.cell (j := 1) rfl; have fG1 := hG1.frozen 0; have gG1 := hG1.frozen 1; have HG1 := Lib.hid hG1; clear hG1; have hG2 : Blk w4 (w.heap.size + 2) 28 [.bool false, .string ⟨#[]⟩] := (by refine Blk.keep ?_ hq <;> exact HF2.out); have cG2 := hG2.cell (j := 0) rfl; have dG2 := hG2.cell (j := 1) rfl; have fG2 := hG2.frozen 0; have gG2 := hG2.frozen 1; have HG2 := Lib.hid hG2; clear hG2; have hG3 : Blk w4 (w.heap.size + 3) 28 [.bool false, .string ⟨#[]⟩] := (by refine Blk.keep ?_ hq <;> exact HF3.out); have cG3 := hG3.cell (j := 0) rfl; have dG3 := hG3.cell (j := 1) rfl; have fG3 := hG3.frozen 0; have gG3 := hG3.frozen 1; have HG3 := Lib.hid hG3; clear hG3; have hG4 : Blk w4 (W.heap.size) 28 [.bool false, .string ⟨#[]⟩] := (by refine Blk.keep ?_ hq <;> exact HF4.out); have cG4 := hG4.cell (j := 0) rfl; have dG4 := hG4.cell (j := 1) rfl; have fG4 := hG4.frozen 0; have gG4 := hG4.frozen 1; have HG4 := Lib.hid hG4; clear hG4; have hG5 : Blk w4 (W.heap.size + 1) 28 [.bool false, .string ⟨#[]⟩] := (by refine Blk.keep ?_ hq <;> exact HF5.out); have cG5 := hG5.cell (j := 0) rfl; have dG5 := hG5.cell (j := 1) rfl; have fG5 := hG5.frozen 0; have gG5 := hG5.frozen 1; have HG5 := Lib.hid hG5; clear hG5; have HQ4 := Lib.hid hq; clear hq))
  have na0 : ¬ W.heap.size = w.heap.size := by omega
  have nb0 : ¬ W.heap.size + 1 = w.heap.size := by omega
  have na1 : ¬ W.heap.size = w.heap.size + 1 := by omega
  have nb1 : ¬ W.heap.size + 1 = w.heap.size + 1 := by omega
  have na2 : ¬ W.heap.size = w.heap.size + 2 := by omega
  have nb2 : ¬ W.heap.size + 1 = w.heap.size + 2 := by omega
  have na3 : ¬ W.heap.size = w.heap.size + 3 := by omega
  have nb3 : ¬ W.heap.size + 1 = w.heap.size + 3 := by omega
  have nc : ¬ W.heap.size + 1 = W.heap.size := by omega
  have nd : ¬ W.heap.size = W.heap.size + 1 := by omega
  have hH0 := ((((HG0.out.setOther (a := ⟨W.heap.size, 0, none⟩) na0 (.bool (ineg (Q : Int)))).setOther (a := ⟨W.heap.size, 1, none⟩) na0 (.string (imag (Q : Int)))).setOther (a := ⟨W.heap.size + 1, 0, none⟩) nb0 (.bool (ineg (R : Int)))).setOther (a := ⟨W.heap.size + 1, 1, none⟩) nb0 (.string (imag (R : Int))))
  have hH1 := ((((HG1.out.setOther (a := ⟨W.heap.size, 0, none⟩) na1 (.bool (ineg (Q : Int)))).setOther (a := ⟨W.heap.size, 1, none⟩) na1 (.string (imag (Q : Int)))).setOther (a := ⟨W.heap.size + 1, 0, none⟩) nb1 (.bool (ineg (R : Int)))).setOther (a := ⟨W.heap.size + 1, 1, none⟩) nb1 (.string (imag (R : Int))))
  have hH2 := ((((HG2.out.setOther (a := ⟨W.heap.size, 0, none⟩) na2 (.bool (ineg (Q : Int)))).setOther (a := ⟨W.heap.size, 1, none⟩) na2 (.string (imag (Q : Int)))).setOther (a := ⟨W.heap.size + 1, 0, none⟩) nb2 (.bool (ineg (R : Int)))).setOther (a := ⟨W.heap.size + 1, 1, none⟩) nb2 (.string (imag (R : Int))))
  have hH3 := ((((HG3.out.setOther (a := ⟨W.heap.size, 0, none⟩) na3 (.bool (ineg (Q : Int)))).setOther (a := ⟨W.heap.size, 1, none⟩) na3 (.string (imag (Q : Int)))).setOther (a := ⟨W.heap.size + 1, 0, none⟩) nb3 (.bool (ineg (R : Int)))).setOther (a := ⟨W.heap.size + 1, 1, none⟩) nb3 (.string (imag (R : Int))))
  have hH4 := ((((HG4.out.set 0 (.bool (ineg (Q : Int)))).set 1 (.string (imag (Q : Int)))).setOther (a := ⟨W.heap.size + 1, 0, none⟩) nc (.bool (ineg (R : Int)))).setOther (a := ⟨W.heap.size + 1, 1, none⟩) nc (.string (imag (R : Int))))
  have hH5 := ((((HG5.out.setOther (a := ⟨W.heap.size, 0, none⟩) nd (.bool (ineg (Q : Int)))).setOther (a := ⟨W.heap.size, 1, none⟩) nd (.string (imag (Q : Int)))).set 0 (.bool (ineg (R : Int)))).set 1 (.string (imag (R : Int))))
  have s5 := (S4.out.drew.drew.trans (HQ3.out.mono S4.out.size)).trans (HQ4.out.mono (S4.out.drew.drew.trans (HQ3.out.mono S4.out.size)).size)
  have s6 := ((((s5.setCell (p := ⟨W.heap.size, 0, none⟩) (show w.heap.size ≤ W.heap.size by omega) (.bool (ineg (Q : Int)))).setCell (p := ⟨W.heap.size, 1, none⟩) (show w.heap.size ≤ W.heap.size by omega) (.string (imag (Q : Int)))).setCell (p := ⟨W.heap.size + 1, 0, none⟩) (show w.heap.size ≤ W.heap.size + 1 by omega) (.bool (ineg (R : Int)))).setCell (p := ⟨W.heap.size + 1, 1, none⟩) (show w.heap.size ≤ W.heap.size + 1 by omega) (.string (imag (R : Int))))
  (try clear cE0 dE0 cE1 dE1)
  (try clear cF0 dF0 cF1 dF1 cF2 dF2 cF3 dF3 cF4 dF4 cF5 dF5)
  (try clear cG0 dG0 cG1 dG1 cG2 dG2 cG3 dG3 cG4 dG4 cG5 dG5 fG0 gG0 fG1 gG1 fG2 gG2 fG3 gG3 fG4 gG4 fG5 gG5)
  (try clear cD0 dD0 cD1 dD1)
  obtain ⟨U, hU⟩ : ∃ U, U = ((((w4.setCell ⟨W.heap.size, 0, none⟩ (.bool (ineg (Q : Int)))).setCell ⟨W.heap.size, 1, none⟩ (.string (imag (Q : Int)))).setCell ⟨W.heap.size + 1, 0, none⟩ (.bool (ineg (R : Int)))).setCell ⟨W.heap.size + 1, 1, none⟩ (.string (imag (R : Int)))) := ⟨_, rfl⟩
  rw [← hU] at hH0 hH1 hH2 hH3 hH4 hH5 s6 ⊢
  clear hU s5
  have cH0 := hH0.cell (j := 0) rfl
  have cH1 := hH1.cell (j := 0) rfl
  have cH2 := hH2.cell (j := 0) rfl
  have dH2 := hH2.cell (j := 1) rfl
  have fH2 := hH2.frozen 0
  have gH2 := hH2.frozen 1
  have cH3 := hH3.cell (j := 0) rfl
  have dH3 := hH3.cell (j := 1) rfl
  have fH3 := hH3.frozen 0
  have gH3 := hH3.frozen 1
  have cH4 := hH4.cell (j := 0) rfl
  have dH4 := hH4.cell (j := 1) rfl
  have fH4 := hH4.frozen 0
  have gH4 := hH4.frozen 1
  have cH5 := hH5.cell (j := 0) rfl
  have dH5 := hH5.cell (j := 1) rfl
  have fH5 := hH5.frozen 0
  have gH5 := hH5.frozen 1
  have S6 := Lib.hid s6; clear s6
  clear hH0 hH1 hH2 hH3 hH4 hH5
  have n22 : ¬ w.heap.size + 2 = w.heap.size + 3 := by omega
  have n23 : ¬ w.heap.size + 3 = w.heap.size + 2 := by omega
  go_wp2_with fail
  go_region_held3 (fun w' => w'.cell? ⟨W.heap.size, 0, none⟩ = some (.bool (ineg (Q : Int))) ∧ w'.cell? ⟨W.heap.size, 1, none⟩ = some (.string (imag (Q : Int))) ∧ w'.cell? ⟨W.heap.size + 1, 0, none⟩ = some (.bool (ineg (R : Int))) ∧ w'.cell? ⟨W.heap.size + 1, 1, none⟩ = some (.string (imag (R : Int)))) (((try refine ⟨?_, ?_, ?_, ?_⟩) <;> (first | (simp [*, World.cell?_alloc_some, World.cell?_setCell_far]; done) | ((repeat (refine keep_cell ?_ (by intro e; first | rfl | (simp at e; done) | (simp at e; omega)))); assumption)))) (fail)
  go_wp2_with fail
  refine bodyPost_ret (v := .tuple #[.agg #[.bool (ineg (Q : Int)), .string (imag (Q : Int))], .agg #[.bool (ineg (R : Int)), .string (imag (R : Int))], .int .i64 0]) (by simp [results, Tryz.results50, go_sem, cH2, dH2, cH3, dH3]) rfl ⟨?_, ?_⟩
  · exact ((((S6.out.drew.setCell (p := ⟨w.heap.size + 2, 0, none⟩) (show w.heap.size ≤ w.heap.size + 2 by omega) (.bool (ineg (Q : Int)))).setCell (p := ⟨w.heap.size + 2, 1, none⟩) (show w.heap.size ≤ w.heap.size + 2 by omega) (.string (imag (Q : Int)))).setCell (p := ⟨w.heap.size + 3, 0, none⟩) (show w.heap.size ≤ w.heap.size + 3 by omega) (.bool (ineg (R : Int)))).setCell (p := ⟨w.heap.size + 3, 1, none⟩) (show w.heap.size ≤ w.heap.size + 3 by omega) (.string (imag (R : Int))))
  · rfl
set_option maxRecDepth 100000 in
set_option maxHeartbeats 6400000 in
theorem rdiv_big (X D : Nat) (w : World) (hX8 : 8 ≤ (bstr X).size) (hs0 : (bstr X).size ≤ 1048576) (ht0 : (bstr D).size ≤ 1048576) (hD : 0 < D) :
    Calls Tryz.prog 50 #[IntV (X : Int), IntV (D : Int)] w (Ret w (.tuple #[IntV ((X / D : Nat) : Int), IntV ((X % D : Nat) : Int), .int .i64 0])) := by
  have hca : ∀ w', Calls Tryz.prog 73 #[.agg #[.bool false, .string (bstr X)]] w' (Ret w' (.agg #[.bool false, .string (bstr X)])) := fun w' => by
    have h := rcanon_any false (bstr X) w' (by omega)
    rwa [ival, bval_bstr, sgn, if_neg (by simp), intv_nat] at h
  have hcb : ∀ w', Calls Tryz.prog 73 #[.agg #[.bool false, .string (bstr D)]] w' (Ret w' (.agg #[.bool false, .string (bstr D)])) := fun w' => by
    have h := rcanon_any false (bstr D) w' (by omega)
    rwa [ival, bval_bstr, sgn, if_neg (by simp), intv_nat] at h
  have htl : (bstr D).toList ≠ [] := fun e => by have := bstr_empty.1 e; omega
  have hdm := fun w' => rdivmag_any (bstr X) D w' hs0 hD ht0
  simp only [bval_bstr] at hdm
  obtain ⟨Q, hQ⟩ : ∃ Q, Q = X / D := ⟨_, rfl⟩
  obtain ⟨R, hR⟩ : ∃ R, R = X % D := ⟨_, rfl⟩
  rw [← hQ, ← hR]
  simp only [← hQ, ← hR] at hdm
  clear hQ hR
  rw [intv_nat X, intv_nat D]
  obtain ⟨s, hs⟩ : ∃ s, s = bstr X := ⟨_, rfl⟩
  obtain ⟨t, ht⟩ : ∃ t, t = bstr D := ⟨_, rfl⟩
  simp only [← hs, ← ht] at *
  have e1 : (t.toList == []) = false := by rw [beq_eq_false_iff_ne]; exact htl
  have e2 : t.toList.isEmpty = false := by rw [List.isEmpty_eq_false_iff]; exact htl
  have HDM := Lib.hid hdm; clear hdm
  have HCA := Lib.hid hca; clear hca
  have HCB := Lib.hid hcb; clear hcb
  have HS := Lib.hid hs; clear hs
  have HT := Lib.hid ht; clear ht
  clear htl
  have hA0 := (((Blk.new w 28 [.bool false, .string s]).alloc (.cells #[.bool false, .string t] 28)).alloc (.cells #[.bool false, .string ⟨#[]⟩] 28)).alloc (.cells #[.bool false, .string ⟨#[]⟩] 28)
  have hA1 := ((Blk.new (w.alloc (.cells #[.bool false, .string s] 28)) 28 [.bool false, .string t]).alloc (.cells #[.bool false, .string ⟨#[]⟩] 28)).alloc (.cells #[.bool false, .string ⟨#[]⟩] 28)
  have hA2 := (Blk.new ((w.alloc (.cells #[.bool false, .string s] 28)).alloc (.cells #[.bool false, .string t] 28)) 28 [.bool false, .string ⟨#[]⟩]).alloc (.cells #[.bool false, .string ⟨#[]⟩] 28)
  have hA3 := Blk.new (((w.alloc (.cells #[.bool false, .string s] 28)).alloc (.cells #[.bool false, .string t] 28)).alloc (.cells #[.bool false, .string ⟨#[]⟩] 28)) 28 [.bool false, .string ⟨#[]⟩]
  simp only [World.size_alloc, Nat.add_assoc, Nat.reduceAdd] at hA1 hA2 hA3
  have s0 := ((((Below.refl w.heap.size w).alloc (Nat.le_refl _) (.cells #[.bool false, .string s] 28)).alloc (by simp) (.cells #[.bool false, .string t] 28)).alloc (by simp <;> omega) (.cells #[.bool false, .string ⟨#[]⟩] 28)).alloc (by simp <;> omega) (.cells #[.bool false, .string ⟨#[]⟩] 28)
  have HA0 := Lib.hid hA0; clear hA0
  have HA1 := Lib.hid hA1; clear hA1
  have HA2 := Lib.hid hA2; clear hA2
  have HA3 := Lib.hid hA3; clear hA3
  have S0 := Lib.hid s0; clear s0
  go_enter Tryz.func50, Tryz.ntmps50
  go_wp2_with fail
  go_region_held3 (fun w' => w'.cell? ⟨w.heap.size, 0, none⟩ = some (.bool false) ∧ w'.cell? ⟨w.heap.size, 1, none⟩ = some (.string s) ∧ w'.cell? ⟨w.heap.size + 1, 0, none⟩ = some (.bool false) ∧ w'.cell? ⟨w.heap.size + 1, 1, none⟩ = some (.string t)) (((try refine ⟨?_, ?_, ?_, ?_⟩) <;> (first | (simp [*, World.cell?_alloc_some, World.cell?_setCell_far]; done) | ((repeat (refine keep_cell ?_ (by intro e; first | rfl | (simp at e; done) | (simp at e; omega)))); assumption)))) (first | (go_at_call_of 73 (Value.agg #[.bool false, .string s]); ((with_reducible refine (HCA.out _).mono ?_)); rintro e w1 ⟨hq, rfl⟩; have hB0 : Blk w1 (w.heap.size) 28 [.bool false, .string s] := (by refine Blk.keep ?_ hq <;> exact HA0.out); have cB0 := hB0.cell (j := 0) rfl; have dB0 := hB0.cell (j := 1) rfl; have HB0 := Lib.hid hB0; clear hB0; have hB1 : Blk w1 (w.heap.size + 1) 28 [.bool false, .string t] := (by refine Blk.keep ?_ hq <;> exact HA1.out); have cB1 := hB1.cell (j := 0) rfl; have dB1 := hB1.cell (j := 1) rfl; have HB1 := Lib.hid hB1; clear hB1; have hB2 : Blk w1 (w.heap.size + 2) 28 [.bool false, .string ⟨#[]⟩] := (by refine Blk.keep ?_ hq <;> exact HA2.out); have cB2 := hB2.cell (j := 0) rfl; have dB2 := hB2.cell (j := 1) rfl; have HB2 := Lib.hid hB2; clear hB2; have hB3 : Blk w1 (w.heap.size + 3) 28 [.bool false, .string ⟨#[]⟩] := (by refine Blk.keep ?_ hq <;> exact HA3.out); have cB3 := hB3.cell (j := 0) rfl; have dB3 := hB3.cell (j := 1) rfl; have HB3 := Lib.hid hB3; clear hB3; have HQ1 := Lib.hid hq; clear hq) | (go_at_call_of 73 (Value.agg #[.bool false, .string t]); ((with_reducible refine (HCB.out _).mono ?_)); rintro e w2 ⟨hq, rfl⟩; have hC0 : Blk w2 (w.heap.size) 28 [.bool false, .string s] := (by refine Blk.keep ?_ hq <;> exact HB0.out); have cC0 := hC0.cell (j := 0) rfl; have dC0 := hC0.cell (j := 1) rfl; have fC0 := hC0.frozen 0; have gC0 := hC0.frozen 1; have HC0 := Lib.hid hC0; clear hC0; have hC1 : Blk w2 (w.heap.size + 1) 28 [.bool false, .string t] := (by refine Blk.keep ?_ hq <;> exact HB1.out); have cC1 := hC1.cell (j := 0) rfl; have dC1 := hC1.cell (j := 1) rfl; have fC1 := hC1.frozen 0; have gC1 := hC1.frozen 1; have HC1 := Lib.hid hC1; clear hC1; have hC2 : Blk w2 (w.heap.size + 2) 28 [.bool false, .string ⟨#[]⟩] := (by refine Blk.keep ?_ hq <;> exact HB2.out); have cC2 := hC2.cell (j := 0) rfl; have dC2 := hC2.cell (j := 1) rfl; have fC2 := hC2.frozen 0; have gC2 := hC2.frozen 1; have HC2 := Lib.hid hC2; clear hC2; have hC3 : Blk w2 (w.heap.size + 3) 28 [.bool false, .string ⟨#[]⟩] := (by refine Blk.keep ?_ hq <;> exact HB3.out); have cC3 := hC3.cell (j := 0) rfl; have dC3 := hC3.cell (j := 1) rfl; have fC3 := hC3.frozen 0; have gC3 := hC3.frozen 1; have HC3 := Lib.hid hC3; clear hC3; have HQ2 := Lib.hid hq; clear hq))
  have n01 : ¬ w.heap.size + 1 = w.heap.size := by omega
  have n10 : ¬ w.heap.size = w.heap.size + 1 := by omega
  have n02 : ¬ w.heap.size = w.heap.size + 2 := by omega
  have n12 : ¬ w.heap.size + 1 = w.heap.size + 2 := by omega
  have n03 : ¬ w.heap.size = w.heap.size + 3 := by omega
  have n13 : ¬ w.heap.size + 1 = w.heap.size + 3 := by omega
  have hD0 := (((HC0.out.set 0 (.bool false)).set 1 (.string s)).setOther (a := ⟨w.heap.size + 1, 0, none⟩) n01 (.bool false)).setOther (a := ⟨w.heap.size + 1, 1, none⟩) n01 (.string t)
  have hD1 := (((HC1.out.setOther (a := ⟨w.heap.size, 0, none⟩) n10 (.bool false)).setOther (a := ⟨w.heap.size, 1, none⟩) n10 (.string s)).set 0 (.bool false)).set 1 (.string t)
  have hD2 := (((HC2.out.setOther (a := ⟨w.heap.size, 0, none⟩) n02 (.bool false)).setOther (a := ⟨w.heap.size, 1, none⟩) n02 (.string s)).setOther (a := ⟨w.heap.size + 1, 0, none⟩) n12 (.bool false)).setOther (a := ⟨w.heap.size + 1, 1, none⟩) n12 (.string t)
  have hD3 := (((HC3.out.setOther (a := ⟨w.heap.size, 0, none⟩) n03 (.bool false)).setOther (a := ⟨w.heap.size, 1, none⟩) n03 (.string s)).setOther (a := ⟨w.heap.size + 1, 0, none⟩) n13 (.bool false)).setOther (a := ⟨w.heap.size + 1, 1, none⟩) n13 (.string t)
  have s1 := S0.out.drew.trans (HQ1.out.mono S0.out.size)
  have s2 := s1.trans (HQ2.out.mono s1.size)
  have s3 := (((s2.setCell (p := ⟨w.heap.size, 0, none⟩) (Nat.le_refl _) (.bool false)).setCell (p := ⟨w.heap.size, 1, none⟩) (Nat.le_refl _) (.string s)).setCell (p := ⟨w.heap.size + 1, 0, none⟩) (Nat.le_add_right _ _) (.bool false)).setCell (p := ⟨w.heap.size + 1, 1, none⟩) (Nat.le_add_right _ _) (.string t)
  clear s1 s2 n01 n10 n02 n03 n12 n13
  (try clear cB0 dB0 cB1 dB1 cB2 dB2 cB3 dB3)
  (try clear cC0 dC0 cC1 dC1 cC2 dC2 cC3 dC3 fC0 gC0 fC1 gC1 fC2 gC2 fC3 gC3)
  obtain ⟨W, hW⟩ : ∃ W, W = (((w2.setCell ⟨w.heap.size, 0, none⟩ (.bool false)).setCell ⟨w.heap.size, 1, none⟩ (.string s)).setCell ⟨w.heap.size + 1, 0, none⟩ (.bool false)).setCell ⟨w.heap.size + 1, 1, none⟩ (.string t) := ⟨_, rfl⟩
  rw [← hW] at hD0 hD1 hD2 hD3 s3 ⊢
  clear hW
  have hnW : w.heap.size + 3 < W.heap.size := hD3.lt
  have hn0 : w.heap.size < W.heap.size := by omega
  have hn1 : w.heap.size + 1 < W.heap.size := by omega
  have hn2 : w.heap.size + 2 < W.heap.size := by omega
  have cD0 := hD0.cell (j := 0) rfl
  have dD0 := hD0.cell (j := 1) rfl
  have cD1 := hD1.cell (j := 0) rfl
  have dD1 := hD1.cell (j := 1) rfl
  have hE0 := (hD0.alloc (.cells #[.bool false, .string ⟨#[]⟩] 28)).alloc (.cells #[.bool false, .string ⟨#[]⟩] 28)
  have hE1 := (hD1.alloc (.cells #[.bool false, .string ⟨#[]⟩] 28)).alloc (.cells #[.bool false, .string ⟨#[]⟩] 28)
  have hE2 := (hD2.alloc (.cells #[.bool false, .string ⟨#[]⟩] 28)).alloc (.cells #[.bool false, .string ⟨#[]⟩] 28)
  have hE3 := (hD3.alloc (.cells #[.bool false, .string ⟨#[]⟩] 28)).alloc (.cells #[.bool false, .string ⟨#[]⟩] 28)
  have hE4 := (Blk.new W 28 [.bool false, .string ⟨#[]⟩]).alloc (.cells #[.bool false, .string ⟨#[]⟩] 28)
  have hE5 := Blk.new (W.alloc (.cells #[.bool false, .string ⟨#[]⟩] 28)) 28 [.bool false, .string ⟨#[]⟩]
  simp only [World.size_alloc] at hE5
  have s4 := (s3.alloc (by omega) (.cells #[.bool false, .string ⟨#[]⟩] 28)).alloc (by simp; omega) (.cells #[.bool false, .string ⟨#[]⟩] 28)
  clear hD0 hD1 hD2 hD3 s3
  have HE0 := Lib.hid hE0; clear hE0
  have HE1 := Lib.hid hE1; clear hE1
  have HE2 := Lib.hid hE2; clear hE2
  have HE3 := Lib.hid hE3; clear hE3
  have HE4 := Lib.hid hE4; clear hE4
  have HE5 := Lib.hid hE5; clear hE5
  have S4 := Lib.hid s4; clear s4
  go_wp2_with fail
  obtain ⟨V, hV⟩ : ∃ V, V = (W.alloc (.cells #[.bool false, .string ⟨#[]⟩] 28)).alloc (.cells #[.bool false, .string ⟨#[]⟩] 28) := ⟨_, rfl⟩
  rw [← hV] at HE0 HE1 HE2 HE3 HE4 HE5 S4 ⊢
  clear hV
  have cE0 := HE0.out.cell (j := 0) rfl
  have dE0 := HE0.out.cell (j := 1) rfl
  have cE1 := HE1.out.cell (j := 0) rfl
  have dE1 := HE1.out.cell (j := 1) rfl
  go_wp2_with (go_at_call 91; ((with_reducible refine (HDM.out _).mono ?_)); rintro e w3 ⟨hq, rfl⟩; have hF0 : Blk w3 (w.heap.size) 28 (([.bool false, .string s] : List Value).set 0 (.bool false) |>.set 1 (.string s)) := (by refine Blk.keep ?_ hq <;> exact HE0.out); have cF0 := hF0.cell (j := 0) rfl; have dF0 := hF0.cell (j := 1) rfl; have HF0 := Lib.hid hF0; clear hF0; have hF1 : Blk w3 (w.heap.size + 1) 28 (([.bool false, .string t] : List Value).set 0 (.bool false) |>.set 1 (.string t)) := (by refine Blk.keep ?_ hq <;> exact HE1.out); have cF1 := hF1.cell (j := 0) rfl; have dF1 := hF1.cell (j := 1) rfl; have HF1 := Lib.hid hF1; clear hF1; have hF2 : Blk w3 (w.heap.size + 2) 28 [.bool false, .string ⟨#[]⟩] := (by refine Blk.keep ?_ hq <;> exact HE2.out); have cF2 := hF2.cell (j := 0) rfl; have dF2 := hF2.cell (j := 1) rfl; have HF2 := Lib.hid hF2; clear hF2; have hF3 : Blk w3 (w.heap.size + 3) 28 [.bool false, .string ⟨#[]⟩] := (by refine Blk.keep ?_ hq <;> exact HE3.out); have cF3 := hF3.cell (j := 0) rfl; have dF3 := hF3.cell (j := 1) rfl; have HF3 := Lib.hid hF3; clear hF3; have hF4 : Blk w3 (W.heap.size) 28 [.bool false, .string ⟨#[]⟩] := (by refine Blk.keep ?_ hq <;> exact HE4.out); have cF4 := hF4.cell (j := 0) rfl; have dF4 := hF4.cell (j := 1) rfl; have fF4 := hF4.frozen 0; have gF4 := hF4.frozen 1; have HF4 := Lib.hid hF4; clear hF4; have hF5 : Blk w3 (W.heap.size + 1) 28 [.bool false, .string ⟨#[]⟩] := (by refine Blk.keep ?_ hq <;> exact HE5.out); have cF5 := hF5.cell (j := 0) rfl; have dF5 := hF5.cell (j := 1) rfl; have fF5 := hF5.frozen 0; have gF5 := hF5.frozen 1; have HF5 := Lib.hid hF5; clear hF5; have HQ3 := Lib.hid hq; clear hq)
  have na0 : ¬ W.heap.size = w.heap.size := by omega
  have nb0 : ¬ W.heap.size + 1 = w.heap.size := by omega
  have na1 : ¬ W.heap.size = w.heap.size + 1 := by omega
  have nb1 : ¬ W.heap.size + 1 = w.heap.size + 1 := by omega
  have na2 : ¬ W.heap.size = w.heap.size + 2 := by omega
  have nb2 : ¬ W.heap.size + 1 = w.heap.size + 2 := by omega
  have na3 : ¬ W.heap.size = w.heap.size + 3 := by omega
  have nb3 : ¬ W.heap.size + 1 = w.heap.size + 3 := by omega
  have nc : ¬ W.heap.size + 1 = W.heap.size := by omega
  have nd : ¬ W.heap.size = W.heap.size + 1 := by omega
  have hH0 := ((((HF0.out.setOther (a := ⟨W.heap.size, 0, none⟩) na0 (.bool false)).setOther (a := ⟨W.heap.size, 1, none⟩) na0 (.string (bstr Q))).setOther (a := ⟨W.heap.size + 1, 0, none⟩) nb0 (.bool false)).setOther (a := ⟨W.heap.size + 1, 1, none⟩) nb0 (.string (bstr R)))
  have hH1 := ((((HF1.out.setOther (a := ⟨W.heap.size, 0, none⟩) na1 (.bool false)).setOther (a := ⟨W.heap.size, 1, none⟩) na1 (.string (bstr Q))).setOther (a := ⟨W.heap.size + 1, 0, none⟩) nb1 (.bool false)).setOther (a := ⟨W.heap.size + 1, 1, none⟩) nb1 (.string (bstr R)))
  have hH2 := ((((HF2.out.setOther (a := ⟨W.heap.size, 0, none⟩) na2 (.bool false)).setOther (a := ⟨W.heap.size, 1, none⟩) na2 (.string (bstr Q))).setOther (a := ⟨W.heap.size + 1, 0, none⟩) nb2 (.bool false)).setOther (a := ⟨W.heap.size + 1, 1, none⟩) nb2 (.string (bstr R)))
  have hH3 := ((((HF3.out.setOther (a := ⟨W.heap.size, 0, none⟩) na3 (.bool false)).setOther (a := ⟨W.heap.size, 1, none⟩) na3 (.string (bstr Q))).setOther (a := ⟨W.heap.size + 1, 0, none⟩) nb3 (.bool false)).setOther (a := ⟨W.heap.size + 1, 1, none⟩) nb3 (.string (bstr R)))
  have hH4 := ((((HF4.out.set 0 (.bool false)).set 1 (.string (bstr Q))).setOther (a := ⟨W.heap.size + 1, 0, none⟩) nc (.bool false)).setOther (a := ⟨W.heap.size + 1, 1, none⟩) nc (.string (bstr R)))
  have hH5 := ((((HF5.out.setOther (a := ⟨W.heap.size, 0, none⟩) nd (.bool false)).setOther (a := ⟨W.heap.size, 1, none⟩) nd (.string (bstr Q))).set 0 (.bool false)).set 1 (.string (bstr R)))
  have s5 := S4.out.trans (HQ3.out.mono S4.out.size)
  have s6 := ((((s5.setCell (p := ⟨W.heap.size, 0, none⟩) (show w.heap.size ≤ W.heap.size by omega) (.bool false)).setCell (p := ⟨W.heap.size, 1, none⟩) (show w.heap.size ≤ W.heap.size by omega) (.string (bstr Q))).setCell (p := ⟨W.heap.size + 1, 0, none⟩) (show w.heap.size ≤ W.heap.size + 1 by omega) (.bool false)).setCell (p := ⟨W.heap.size + 1, 1, none⟩) (show w.heap.size ≤ W.heap.size + 1 by omega) (.string (bstr R)))
  (try clear cE0 dE0 cE1 dE1)
  (try clear cF0 dF0 cF1 dF1 cF2 dF2 cF3 dF3 cF4 dF4 cF5 dF5)
  (try clear cG0 dG0 cG1 dG1 cG2 dG2 cG3 dG3 cG4 dG4 cG5 dG5 fG0 gG0 fG1 gG1 fG2 gG2 fG3 gG3 fG4 gG4 fG5 gG5)
  (try clear cD0 dD0 cD1 dD1)
  obtain ⟨U, hU⟩ : ∃ U, U = ((((w3.setCell ⟨W.heap.size, 0, none⟩ (.bool false)).setCell ⟨W.heap.size, 1, none⟩ (.string (bstr Q))).setCell ⟨W.heap.size + 1, 0, none⟩ (.bool false)).setCell ⟨W.heap.size + 1, 1, none⟩ (.string (bstr R))) := ⟨_, rfl⟩
  rw [← hU] at hH0 hH1 hH2 hH3 hH4 hH5 s6 ⊢
  clear hU s5
  have cH0 := hH0.cell (j := 0) rfl
  have cH1 := hH1.cell (j := 0) rfl
  have cH2 := hH2.cell (j := 0) rfl
  have dH2 := hH2.cell (j := 1) rfl
  have fH2 := hH2.frozen 0
  have gH2 := hH2.frozen 1
  have cH3 := hH3.cell (j := 0) rfl
  have dH3 := hH3.cell (j := 1) rfl
  have fH3 := hH3.frozen 0
  have gH3 := hH3.frozen 1
  have cH4 := hH4.cell (j := 0) rfl
  have dH4 := hH4.cell (j := 1) rfl
  have fH4 := hH4.frozen 0
  have gH4 := hH4.frozen 1
  have cH5 := hH5.cell (j := 0) rfl
  have dH5 := hH5.cell (j := 1) rfl
  have fH5 := hH5.frozen 0
  have gH5 := hH5.frozen 1
  have S6 := Lib.hid s6; clear s6
  clear hH0 hH1 hH2 hH3 hH4 hH5
  have n22 : ¬ w.heap.size + 2 = w.heap.size + 3 := by omega
  have n23 : ¬ w.heap.size + 3 = w.heap.size + 2 := by omega
  go_wp2_with fail
  go_region_held3 (fun w' => w'.cell? ⟨W.heap.size, 0, none⟩ = some (.bool false) ∧ w'.cell? ⟨W.heap.size, 1, none⟩ = some (.string (bstr Q)) ∧ w'.cell? ⟨W.heap.size + 1, 0, none⟩ = some (.bool false) ∧ w'.cell? ⟨W.heap.size + 1, 1, none⟩ = some (.string (bstr R))) (((try refine ⟨?_, ?_, ?_, ?_⟩) <;> (first | (simp [*, World.cell?_alloc_some, World.cell?_setCell_far]; done) | ((repeat (refine keep_cell ?_ (by intro e; first | rfl | (simp at e; done) | (simp at e; omega)))); assumption)))) (fail)
  go_wp2_with fail
  refine bodyPost_ret (v := .tuple #[.agg #[.bool false, .string (bstr Q)], .agg #[.bool false, .string (bstr R)], .int .i64 0]) (by simp [results, Tryz.results50, go_sem, cH2, dH2, cH3, dH3]) rfl ⟨?_, ?_⟩
  · exact ((((S6.out.drew.setCell (p := ⟨w.heap.size + 2, 0, none⟩) (show w.heap.size ≤ w.heap.size + 2 by omega) (.bool false)).setCell (p := ⟨w.heap.size + 2, 1, none⟩) (show w.heap.size ≤ w.heap.size + 2 by omega) (.string (bstr Q))).setCell (p := ⟨w.heap.size + 3, 0, none⟩) (show w.heap.size ≤ w.heap.size + 3 by omega) (.bool false)).setCell (p := ⟨w.heap.size + 3, 1, none⟩) (show w.heap.size ≤ w.heap.size + 3 by omega) (.string (bstr R)))
  · rw [intv_nat, intv_nat]
/-- grooveref01.Div, where the dividend and the divisor are not negative; the divisor has less than 8 digits, or the dividend at least 8. -/
theorem rdiv_any (X D : Nat) (w : World) (hs0 : (bstr X).size ≤ 1048576) (ht0 : (bstr D).size < 8) (hD : 0 < D) :
    Calls Tryz.prog 50 #[IntV (X : Int), IntV (D : Int)] w (Ret w (.tuple #[IntV ((X / D : Nat) : Int), IntV ((X % D : Nat) : Int), .int .i64 0])) := by
  rcases Nat.lt_or_ge (bstr X).size 8 with h | h
  · exact rdiv_small X D w h ht0 hs0 (by omega) hD
  · exact rdiv_big X D w h hs0 (by omega) hD
end Go.Proofs.YthpgeeaccmgbkaaGreat

