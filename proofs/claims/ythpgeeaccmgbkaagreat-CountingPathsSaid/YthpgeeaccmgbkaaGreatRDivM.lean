/- grooveref01.divMag. -/
import Derived.Deep.RegionHeld3
import Derived.Test.YthpgeeaccmgbkaaGreatRMul
namespace Go.Proofs.YthpgeeaccmgbkaaGreat
open Go.RowKit

theorem bval_bstr (x : Nat) : bval (bstr x).data.toList = x := by rw [bstr_list, bval_bb]
theorem bstr_le {x k : Nat} (h : x < 256 ^ k) : (bstr x).size ≤ k := by rw [bstr_size]; exact bb_length_le h
def tmF (Y m : Nat) (j : Nat) : Value := .string (if j < m then bstr (Y * 2 ^ j) else ⟨#[]⟩)
theorem tmF_get {Y m j : Nat} (h : j < m) (h8 : j < 8) : (rowf 8 (tmF Y m))[j]? = some (.string (bstr (Y * 2 ^ j))) := by
  rw [rowf_get h8, tmF, if_pos h]
theorem tmF_set (Y m : Nat) : (rowf 8 (tmF Y m)).set m (.string (bstr (Y * 2 ^ m))) = rowf 8 (tmF Y (m + 1)) := by
  refine rowf_set ?_ ?_
  · unfold tmF; rw [if_pos (by omega)]
  · intro j hj hne
    unfold tmF
    by_cases h : j < m
    · rw [if_pos h, if_pos (by omega)]
    · rw [if_neg h, if_neg (by omega)]
/-- The next digit of a division. -/
theorem div_digit (X Y la i : Nat) (hi : i < la) (hY : 0 < Y) :
    256 * (X / 256 ^ (la - i) % Y) + byt X (la - 1 - i) < 256 * Y ∧
    (256 * (X / 256 ^ (la - i) % Y) + byt X (la - 1 - i)) / Y = byt (X / Y) (la - 1 - i) ∧
    (256 * (X / 256 ^ (la - i) % Y) + byt X (la - 1 - i)) % Y = X / 256 ^ (la - (i + 1)) % Y := by
  have e1 : la - i = (la - 1 - i) + 1 := by omega
  have e2 : la - (i + 1) = la - 1 - i := by omega
  rw [e1, e2]
  obtain ⟨k, hk⟩ : ∃ k, k = la - 1 - i := ⟨_, rfl⟩
  rw [← hk]
  have hb := byt_lt X k
  have hs : X / 256 ^ k = 256 * (X / 256 ^ (k + 1)) + byt X k := by
    unfold byt
    rw [Nat.pow_succ, ← Nat.div_div_eq_div_mul]
    exact (Nat.div_add_mod _ _).symm
  have hq : byt (X / Y) k = X / 256 ^ k / Y % 256 := by
    unfold byt; rw [Nat.div_div_eq_div_mul, Nat.mul_comm, ← Nat.div_div_eq_div_mul]
  obtain ⟨Z, hZ⟩ : ∃ Z, Z = X / 256 ^ (k + 1) := ⟨_, rfl⟩
  rw [← hZ] at hs ⊢
  have hm := Nat.mod_lt Z hY
  have hd := Nat.div_add_mod Z Y
  obtain ⟨T, hT⟩ : ∃ T, T = 256 * (Z % Y) + byt X k := ⟨_, rfl⟩
  rw [← hT]
  have hTl : T < 256 * Y := by
    have : 256 * (Z % Y) + 256 ≤ 256 * Y := by
      have : 256 * (Z % Y + 1) ≤ 256 * Y := Nat.mul_le_mul_left _ hm
      omega
    omega
  have hsT : X / 256 ^ k = T + Y * (256 * (Z / Y)) := by
    rw [hs, hT]
    have : Y * (256 * (Z / Y)) = 256 * (Y * (Z / Y)) := by simp only [Nat.mul_left_comm]
    omega
  have hT2 : T / Y < 256 := Nat.div_lt_of_lt_mul (by rw [Nat.mul_comm]; exact hTl)
  refine ⟨hTl, ?_, ?_⟩
  · rw [hq, hsT, Nat.add_mul_div_left _ _ hY, Nat.add_mul_mod_self_left, Nat.mod_eq_of_lt hT2]
  · rw [hsT, Nat.add_mul_mod_self_left]
theorem cat_bval (R : Nat) (s : ByteArray) (i : Nat) (h : i < s.size) : bval (bstr R ++ s.extract i (i + 1)).data.toList = 256 * R + (s[i]).toNat := by
  have e : (bstr R ++ s.extract i (i + 1)).data.toList = bb R ++ [s[i]] := by
    rw [ByteArray.data_append, Array.toList_append, bstr_list]
    congr 1
    have := Lib.extract_toList s i (i + 1)
    rw [Lib.toList_data] at this
    rw [this, drop_at s i h, show i + 1 - i = 1 by omega]; rfl
  rw [e, bval_snoc, bval_bb]
theorem bstr_shift {Y K j : Nat} (h : (bstr Y).size ≤ K) (hj : j ≤ 8) : (bstr (Y * 2 ^ j)).size ≤ K + 1 := by
  refine bstr_le ?_
  have h1 : Y < 256 ^ K := by
    have := bval_lt (bstr Y).data.toList
    rw [bval_bstr, bytes_size] at this
    exact Nat.lt_of_lt_of_le this (Nat.pow_le_pow_right (by decide) h)
  have h2 : 2 ^ j ≤ 256 ^ 1 := Nat.le_trans (Nat.pow_le_pow_right (by decide) hj) (by decide)
  rw [Nat.pow_add 256 K 1]
  exact Nat.mul_lt_mul_of_lt_of_le h1 h2 (by decide)
set_option maxRecDepth 100000 in
set_option maxHeartbeats 3200000 in
theorem rdivmag_any (s : ByteArray) (Y : Nat) (w : World) (hs : s.size ≤ 1048576) (hY : 0 < Y) (hYs : (bstr Y).size ≤ 1048576) :
    Calls Tryz.prog 91 #[.string s, .string (bstr Y)] w (Ret w (.tuple #[.string (bstr (bval s.data.toList / Y)), .string (bstr (bval s.data.toList % Y))])) := by
  obtain ⟨X, hX⟩ : ∃ X, X = bval s.data.toList := ⟨_, rfl⟩
  rw [← hX]
  have hXl : X < 256 ^ s.size := by have := bval_lt s.data.toList; rwa [bytes_size, ← hX] at this
  have hbs : ∀ i j : Nat, (h : i < s.size) → i + j + 1 = s.size → (s[i]).toNat = byt X j := fun i j h hj => by rw [hX]; exact byt_str2 s i j h hj
  have hpw : ∀ j : Nat, j ≤ 8 → (bstr (Y * 2 ^ j)).size ≤ 1048577 := fun j hj => by
    exact bstr_shift hYs hj
  have hadd : ∀ j : Nat, j < 8 → ∀ w', Calls Tryz.prog 75 #[.string (bstr (Y * 2 ^ j)), .string (bstr (Y * 2 ^ j))] w' (Ret w' (.string (bstr (Y * 2 ^ (j + 1))))) := fun j hj w' => by
    have h := raddmag_any (bstr (Y * 2 ^ j)) (bstr (Y * 2 ^ j)) w' (by have := hpw j (by omega); omega) (by have := hpw j (by omega); omega)
    rwa [bval_bstr, show Y * 2 ^ j + Y * 2 ^ j = Y * 2 ^ (j + 1) by rw [Nat.pow_succ, ← Nat.mul_assoc]; omega] at h
  have b2 := Blk.new w 136 [.string (bstr Y), .string ⟨#[]⟩, .string ⟨#[]⟩, .string ⟨#[]⟩, .string ⟨#[]⟩, .string ⟨#[]⟩, .string ⟨#[]⟩, .string ⟨#[]⟩]
  have e2 : ([.string (bstr Y), .string ⟨#[]⟩, .string ⟨#[]⟩, .string ⟨#[]⟩, .string ⟨#[]⟩, .string ⟨#[]⟩, .string ⟨#[]⟩, .string ⟨#[]⟩] : List Value) = rowf 8 (tmF Y 1) := by simp [rowf, tmF, List.range, List.range.loop]
  replace b2 := b2.congr e2
  have s1 := (Below.refl w.heap.size w).alloc (Nat.le_refl _) (.cells #[.string (bstr Y), .string ⟨#[]⟩, .string ⟨#[]⟩, .string ⟨#[]⟩, .string ⟨#[]⟩, .string ⟨#[]⟩, .string ⟨#[]⟩, .string ⟨#[]⟩] 136)
  have B2 := Lib.hid b2; clear b2
  have S1 := Lib.hid s1; clear s1
  have HBS := Lib.hid hbs; clear hbs
  have HXL := Lib.hid hXl; clear hXl
  have HPW := Lib.hid hpw; clear hpw
  have HADD := Lib.hid hadd; clear hadd
  clear hX e2
  go_enter Tryz.func91, Tryz.ntmps91
  go_wp2_with fail
  go_loopw [7] (fun i wr => ∃ p : Nat, p ≤ 7 ∧ i = .int .i64 ((p : Int) + 1) ∧ Below w.heap.size w wr ∧ Blk wr w.heap.size 136 (rowf 8 (tmF Y (p + 1)))) (fun i _ => 8 - (intOf i).toNat)
  case atStart => exact ⟨0, by omega, rfl, S1.out, B2.out⟩
  case round =>
    obtain ⟨p, hp, rfl, hbel, hblk⟩ := hrel
    obtain ⟨wq, rfl⟩ : ∃ wq : World, wq = wr := ⟨_, rfl⟩
    have hwl := hblk.lt
    by_cases hp7 : p < 7
    · have tp : decide ((p : Int) + 1 < 8) = true := by simp; omega
      obtain ⟨V, hV⟩ : ∃ V, V = bstr (Y * 2 ^ p) := ⟨_, rfl⟩
      obtain ⟨U, hU⟩ : ∃ U, U = bstr (Y * 2 ^ (p + 1)) := ⟨_, rfl⟩
      have hcell := hblk.cell (tmF_get (Y := Y) (show p < p + 1 by omega) (by omega))
      have hca := HADD.out p (by omega)
      have hcell2 := hblk.cell (rowf_get (f := tmF Y (p + 1)) (show p + 1 < 8 by omega))
      rw [show tmF Y (p + 1) (p + 1) = .string ⟨#[]⟩ by unfold tmF; rw [if_neg (by omega)]] at hcell2
      rw [← hV] at hcell hca
      rw [← hU] at hca
      have hset := tmF_set Y (p + 1)
      rw [← hU] at hset
      have hi1 : (p : Int) < 8 := by omega
      have hi2 : (p : Int) + 1 < 8 := by omega
      have hi3 : (0 : Int) ≤ (p : Int) := by omega
      have hi4 : p < 8 := by omega
      have hi5 : p + 1 < 8 := by omega
      have hi6 : (0 : Int) ≤ (p : Int) + 1 := by omega
      have hw : IntKind.i64.wrap (p : Int) = (p : Int) := IntWalk.i64_in _ (by omega)
      have HSET := Lib.hid hset; clear hset
      have HCA := Lib.hid hca; clear hca
      have HBEL := Lib.hid hbel; clear hbel
      have HBLK := Lib.hid hblk; clear hblk
      clear hV hU
      go_wp2_with fail
      refine wp_region_held_drew (S := fun w' => w'.cell? ⟨w.heap.size, p, none⟩ = some (.string V)) (by kernel_rfl) ?_ (fun hHeld => ?_)
      · go_keep
      refine wpAnyH_take (i := 0) (v := ?_) rfl (by kernel_rfl) (by kernel_rfl) (by kernel_rfl) (fun _ _ _ h => h) (Or.inl ⟨by rfl, ?_⟩) (by assumption) ?_
      rotate_left
      · (intro wS hSw; (try dsimp only at hSw); go_simp; (try with_reducible rfl))
      (try simp only [Act.put, List.setIfInBounds_toArray, List.set_cons_zero, List.set_cons_succ])
      refine wpAnyH_take (i := 1) (v := ?_) rfl (by kernel_rfl) (by kernel_rfl) (by kernel_rfl) (fun _ _ _ h => h) (Or.inl ⟨by rfl, ?_⟩) (by assumption) ?_
      rotate_left
      · (intro wS hSw; (try dsimp only at hSw); go_simp; (try with_reducible rfl))
      (try simp only [Act.put, List.setIfInBounds_toArray, List.set_cons_zero, List.set_cons_succ])
      refine wpAnyH_take (i := 2) (v := ?_) rfl (by kernel_rfl) (by kernel_rfl) (by kernel_rfl) (fun _ _ _ h => h) (Or.inl ⟨by rfl, ?_⟩) (by assumption) ?_
      rotate_left
      · (intro wS hSw; (try dsimp only at hSw); go_simp; (try with_reducible rfl))
      (try simp only [Act.put, List.setIfInBounds_toArray, List.set_cons_zero, List.set_cons_succ])
      refine wpAnyH_take (i := 3) (v := ?_) rfl (by kernel_rfl) (by kernel_rfl) (by kernel_rfl) (fun _ _ _ h => h) (Or.inl ⟨by rfl, ?_⟩) (by assumption) ?_
      rotate_left
      · (intro wS hSw; (try dsimp only at hSw); go_simp; (try with_reducible rfl))
      (try simp only [Act.put, List.setIfInBounds_toArray, List.set_cons_zero, List.set_cons_succ])
      refine wpAnyH_take (i := 4) (v := ?_) rfl (by kernel_rfl) (by kernel_rfl) (by kernel_rfl) (fun _ _ _ h => h) (Or.inl ⟨by rfl, ?_⟩) (by assumption) ?_
      rotate_left
      · (intro wS hSw; (try dsimp only at hSw); go_simp; (try with_reducible rfl))
      (try simp only [Act.put, List.setIfInBounds_toArray, List.set_cons_zero, List.set_cons_succ])
      refine wpAnyH_take (i := 5) (v := ?_) rfl (by kernel_rfl) (by kernel_rfl) (by kernel_rfl) (fun _ _ _ h => h) (Or.inl ⟨by rfl, ?_⟩) (by assumption) ?_
      rotate_left
      · (intro wS hSw; (try dsimp only at hSw); go_simp; (try with_reducible rfl))
      (try simp only [Act.put, List.setIfInBounds_toArray, List.set_cons_zero, List.set_cons_succ])
      refine wpAnyH_take (i := 6) (v := ?_) rfl (by kernel_rfl) (by kernel_rfl) (by kernel_rfl) (fun _ _ _ h => h) (Or.inl ⟨by rfl, ?_⟩) (by assumption) ?_
      rotate_left
      · (intro wS hSw; (try dsimp only at hSw); go_simp; (try with_reducible rfl))
      (try simp only [Act.put, List.setIfInBounds_toArray, List.set_cons_zero, List.set_cons_succ])
      refine wpAnyH_take (i := 7) (v := ?_) rfl (by kernel_rfl) (by kernel_rfl) (by kernel_rfl) (fun _ _ _ h => h) (Or.inl ⟨by rfl, ?_⟩) (by assumption) ?_
      rotate_left
      · (intro wS hSw; (try dsimp only at hSw); go_simp; (try with_reducible rfl))
      (try simp only [Act.put, List.setIfInBounds_toArray, List.set_cons_zero, List.set_cons_succ])
      refine wpAnyH_take (i := 8) (v := ?_) rfl (by kernel_rfl) (by kernel_rfl) (by kernel_rfl) (fun _ _ _ h => h) (Or.inl ⟨by rfl, ?_⟩) (by assumption) ?_
      rotate_left
      · (intro wS hSw; (try dsimp only at hSw); go_simp; (try with_reducible rfl))
      (try simp only [Act.put, List.setIfInBounds_toArray, List.set_cons_zero, List.set_cons_succ])
      refine wpAnyH_ready (rs := [9]) (by kernel_rfl) (by simp) ?_
      refine AllReadyH.cons rfl (fun K hK => ?_) AllReadyH.nil
      go_simp
      go_at_call 75
      refine (HCA.out _).mono ?_
      rintro e w2 ⟨hq2, rfl⟩
      dsimp only
      have z0 := (hq2.cell (p := ⟨w.heap.size, p, none⟩) (by simp; omega)).trans hHeld
      refine hK.out _ _ z0 (fun hHeld2 => ?_)
      clear hK K
      have hn2 := HBLK.out.drew.keep hq2
      have u0 := hn2.cell (rowf_get (f := tmF Y (p + 1)) (show p + 1 < 8 by omega))
      have v0 := hn2.frozen (p + 1)
      have HN2 := Lib.hid hn2; clear hn2
      have HQ2 := Lib.hid hq2; clear hq2
      (try simp only [Act.put, List.setIfInBounds_toArray, List.set_cons_zero, List.set_cons_succ])
      refine wpAnyH_take (i := 10) (v := ?_) rfl (by kernel_rfl) (by kernel_rfl) (by kernel_rfl) (fun _ _ _ h => h) (Or.inl ⟨by kernel_rfl, ?_⟩) (by assumption) ?_
      rotate_left
      · (intro wS hSw; (try dsimp only at hSw); go_simp; (try with_reducible rfl))
      (try simp only [Act.put, List.setIfInBounds_toArray, List.set_cons_zero, List.set_cons_succ])
      refine wpAnyH_ready (rs := [11]) (by kernel_rfl) (by simp) ?_
      refine AllReadyH.cons rfl (fun K hK => ?_) AllReadyH.nil
      go_simp
      refine hK.out _ _ ?_ (fun hHeld => ?_)
      · ((try dsimp only); (rw [World.cell?_setCell_other _ _ _ _ (by intro e; simp at e)]; exact hHeld2))
      clear hK K
      (try simp only [Act.put, List.setIfInBounds_toArray, List.set_cons_zero, List.set_cons_succ])
      refine wpAnyH_done (by kernel_rfl) ?_ _
      go_wp2_with fail
      go_roundw
      case rel =>
        have s2 := HBEL.out.drew.trans (HQ2.out.mono HBEL.out.size)
        refine ⟨p + 1, by omega, by go_num, s2.setCell (p := ⟨w.heap.size, p + 1, none⟩) (Nat.le_refl _) _, ?_⟩
        rw [← HSET.out]
        exact HN2.out.set _ _
      case measure => simp [intOf]; omega
    · obtain rfl : p = 7 := by omega
      have tp : decide (((7 : Nat) : Int) + 1 < 8) = false := by decide
      have hmk2 := mk8 s.size (by omega) (s.size : Int) rfl
      have b3 := Blk.zero wq 5 (.int .u8 0) s.size
      rw [zrow_one _ _ rfl, txtF_zero s.size (X / Y)] at b3
      have bt := hblk.alloc (.cells (zarr (.int .u8 0) s.size) 5)
      have s3 := hbel.alloc (Nat.le_of_lt hwl) (.cells (zarr (.int .u8 0) s.size) 5)
      have B3 := Lib.hid b3; clear b3
      have BT := Lib.hid bt; clear bt
      have S3 := Lib.hid s3; clear s3
      clear hbel hblk
      go_wp2_with fail
      obtain ⟨we, hwe⟩ : ∃ we, we = wq.alloc (.cells (zarr (.int .u8 0) s.size) 5) := ⟨_, rfl⟩
      rw [← hwe] at B3 BT S3 ⊢
      clear hwe hmk2
      go_loopw [9, 10] (fun r i wr => ∃ j : Nat, j ≤ s.size ∧ i = .int .i64 (j : Int) ∧ r = .string (bstr (X / 256 ^ (s.size - j) % Y)) ∧ Below w.heap.size w wr ∧ Blk wr w.heap.size 136 (rowf 8 (tmF Y 8)) ∧ Blk wr wq.heap.size 5 (rowf s.size (txtF s.size (X / Y) j))) (fun _ i _ => s.size - (intOf i).toNat)
      case atStart =>
        refine ⟨0, by omega, rfl, ?_, S3.out, BT.out, B3.out⟩
        rw [Nat.sub_zero, Nat.div_eq_of_lt HXL.out, Nat.zero_mod]
        simp [bstr, bb_zero]
      case round =>
        obtain ⟨j, hj, rfl, rfl, hbel, hblk, hq⟩ := hrel
        obtain ⟨wv, rfl⟩ : ∃ wv : World, wv = wr := ⟨_, rfl⟩
        have hwl2 := hblk.lt
        have hwl3 := hq.lt
        by_cases hjs : j < s.size
        · have tj : decide ((j : Int) < (s.size : Int)) = true := by simp; omega
          obtain ⟨hT1, hT2, hT3⟩ := div_digit X Y s.size j hjs hY
          have hcat := cat_bval (X / 256 ^ (s.size - j) % Y) s j hjs
          rw [HBS.out j (s.size - 1 - j) hjs (by omega)] at hcat
          obtain ⟨R, hR⟩ : ∃ R, R = X / 256 ^ (s.size - j) % Y := ⟨_, rfl⟩
          rw [← hR] at hT1 hT2 hT3 hcat ⊢
          obtain ⟨T, hT⟩ : ∃ T, T = 256 * R + byt X (s.size - 1 - j) := ⟨_, rfl⟩
          rw [← hT] at hT1 hT2 hT3 hcat
          have hRs : (bstr R).size ≤ 1048577 := by
            have h1 := HPW.out 8 (by omega)
            refine Nat.le_trans ?_ h1
            rw [bstr_size, bstr_size]
            rcases Nat.lt_or_ge (bb (Y * 2 ^ 8)).length (bb R).length with h | h
            · have := bb_len_lt h
              omega
            · exact h
          have htr := fun w' => rtrim_any (bstr R ++ s.extract j (j + 1)) w' (by
            have h1 : (s.extract j (j + 1)).size ≤ 1 := by rw [ByteArray.size_extract]; omega
            rw [ByteArray.size_append]; omega)
          rw [hcat] at htr
          have hsz : ¬ 9223372036854775807 < (bstr R).size + (min (j + 1) s.size - j) := by omega
          have HTR := Lib.hid htr; clear htr
          have HT1 := Lib.hid hT1; clear hT1
          have HT2 := Lib.hid hT2; clear hT2
          have HT3 := Lib.hid hT3; clear hT3
          have HBEL := Lib.hid hbel; clear hbel
          have HBLK := Lib.hid hblk; clear hblk
          have HQ := Lib.hid hq; clear hq
          clear hcat hR hT hRs
          go_wp2_with (go_at_call 108; refine (HTR.out _).mono ?_; rintro e w' ⟨rfl, rfl⟩)
          have hi7 : (0 : Int) ≤ (j : Int) := by omega
          go_loopw [9, 11, 12] (fun r d k wr => ∃ (c D Rc : Nat), c ≤ 8 ∧ k = .int .i64 (7 - (c : Int)) ∧ d = .int .i64 (D : Int) ∧ r = .string (bstr Rc) ∧ T = D * Y + Rc ∧ Rc < Y * 2 ^ (8 - c) ∧ Below wv.heap.size wv wr) (fun _ _ k _ => ((intOf k) + 1).toNat)
          case atStart => exact ⟨0, 0, T, by omega, rfl, rfl, rfl, by omega, by have := HT1.out; rw [show 2 ^ (8 - 0) = 256 by decide]; omega, Below.refl _ _⟩
          case round =>
            obtain ⟨c, D, Rc, hc, rfl, rfl, rfl, hTD, hRc, hbe⟩ := hrel
            obtain ⟨wz, rfl⟩ : ∃ wz : World, wz = wr := ⟨_, rfl⟩
            have hD : D < 256 := by
              have h1 := HT1.out
              rcases Nat.lt_or_ge D 256 with h | h
              · exact h
              · have := Nat.mul_le_mul_right Y h
                omega
            by_cases hc8 : c < 8
            · obtain ⟨k, hk⟩ : ∃ k : Nat, k + c = 7 := ⟨7 - c, by omega⟩
              have hki : (7 : Int) - (c : Int) = (k : Int) := by omega
              rw [hki]
              have hk8 : k < 8 := by omega
              have tk : decide (0 ≤ (k : Int)) = true := by simp
              have hi1 : (0 : Int) ≤ (k : Int) := by omega
              have hi2 : (k : Int) < 8 := by omega
              have hi3 : (k : Int) ≤ 64 := by omega
              have hbt := HBLK.out.below hbe hwl2
              have hcell := hbt.cell (tmF_get (Y := Y) (show k < 8 by omega) hk8)
              obtain ⟨M, hM⟩ : ∃ M, M = 2 ^ k := ⟨_, rfl⟩
              have hM1 : 1 ≤ M := by rw [hM]; exact Nat.two_pow_pos _
              have hM2 : M ≤ 128 := by rw [hM]; exact Nat.le_trans (Nat.pow_le_pow_right (by decide) (show k ≤ 7 by omega)) (by decide)
              have hMi : (2 : Int) ^ k = (M : Int) := by rw [hM]; simp
              have hVs := HPW.out k (by omega)
              rw [← hM] at hcell hVs
              rw [show 8 - c = k + 1 by omega, Nat.pow_succ, ← hM] at hRc
              obtain ⟨V, hV⟩ : ∃ V, V = Y * M := ⟨_, rfl⟩
              rw [← hV] at hcell hVs
              rw [← Nat.mul_assoc, ← hV] at hRc
              have hRcs : (bstr Rc).size ≤ 1048577 := by
                refine Nat.le_trans ?_ (HPW.out 8 (by omega))
                rw [bstr_size, bstr_size]
                rcases Nat.lt_or_ge (bb (Y * 2 ^ 8)).length (bb Rc).length with h | h
                · have h1 := bb_len_lt h
                  have h2 : V ≤ Y * 128 := by rw [hV]; exact Nat.mul_le_mul_left _ hM2
                  omega
                · exact h
              have hcm := fun w' => rcmp_any Rc V (bstr Rc) (bstr V) w' (by omega) (by omega) (bstr_list _) (bstr_list _)
              have hd9 : k - 1 + 1 = k ∨ k = 0 := by omega
              by_cases hle : V ≤ Rc
              · have tc : decide (0 ≤ cmpN Rc V) = true := by
                  simp; have := cmpN_nneg (show ¬ Rc < V by omega); omega
                obtain ⟨cv, hcv⟩ : ∃ cv, cv = cmpN Rc V := ⟨_, rfl⟩
                rw [← hcv] at tc
                simp only [← hcv] at hcm
                have hsub := fun w' => rsubmag_any (bstr Rc) (bstr V) w' (by omega) (by
                  rw [bstr_size, bstr_size]
                  rcases Nat.lt_or_ge (bb Rc).length (bb V).length with h | h
                  · have h1 := bb_len_lt h
                    omega
                  · exact h) (by rw [bval_bstr, bval_bstr]; exact hle)
                simp only [bval_bstr] at hsub
                have hTD2 : T = (D + M) * Y + (Rc - V) := by rw [Nat.add_mul, Nat.mul_comm M Y, ← hV]; omega
                have hRc2 : Rc - V < V := by omega
                have HCM := Lib.hid hcm; clear hcm
                have HSUB := Lib.hid hsub; clear hsub
                have HTD2 := Lib.hid hTD2; clear hTD2
                have HRC2 := Lib.hid hRc2; clear hRc2
                have HBE := Lib.hid hbe; clear hbe
                have HK := Lib.hid hk; clear hk
                have HM := Lib.hid hM; clear hM
                have HV := Lib.hid hV; clear hV
                clear hcv hbt hTD hRc hRcs hVs hki
                go_wp2_with (first | (go_at_call 76; refine (HCM.out _).mono ?_; rintro e w' ⟨rfl, rfl⟩) | (go_at_call 77; refine (HSUB.out _).mono ?_; rintro e w' ⟨hq9, rfl⟩; have HQ9 := Lib.hid hq9; clear hq9))
                go_roundw
                case rel =>
                  have hk := HK.out
                  refine ⟨c + 1, D + M, Rc - V, by omega, ?_, ?_, rfl, HTD2.out, ?_, ?_⟩
                  · congr 1; omega
                  · rw [Int.natCast_add]
                  · rw [show 8 - (c + 1) = k by omega, ← HM.out, ← HV.out]; exact HRC2.out
                  · exact HBE.out.trans (HQ9.out.mono HBE.out.size)
                case measure => simp [intOf]
              · have tc : decide (0 ≤ cmpN Rc V) = false := by
                  simp; exact cmpN_neg (by omega)
                obtain ⟨cv, hcv⟩ : ∃ cv, cv = cmpN Rc V := ⟨_, rfl⟩
                rw [← hcv] at tc
                simp only [← hcv] at hcm
                have hRc2 : Rc < V := by omega
                have HCM := Lib.hid hcm; clear hcm
                have HTD := Lib.hid hTD; clear hTD
                have HRC2 := Lib.hid hRc2; clear hRc2
                have HBE := Lib.hid hbe; clear hbe
                have HK := Lib.hid hk; clear hk
                have HM := Lib.hid hM; clear hM
                have HV := Lib.hid hV; clear hV
                clear hcv hbt hRc hRcs hVs hki
                go_wp2_with (go_at_call 76; refine (HCM.out _).mono ?_; rintro e w' ⟨rfl, rfl⟩)
                go_roundw
                case rel =>
                  have hk := HK.out
                  refine ⟨c + 1, D, Rc, by omega, ?_, rfl, rfl, HTD.out, ?_, HBE.out⟩
                  · congr 1; omega
                  · rw [show 8 - (c + 1) = k by omega, ← HM.out, ← HV.out]; exact HRC2.out
                case measure => simp [intOf]
            · obtain rfl : c = 8 := by omega
              have tk : decide (0 ≤ (7 : Int) - ((8 : Nat) : Int)) = false := by decide
              rw [Nat.sub_self, Nat.pow_zero, Nat.mul_one] at hRc
              have hDq : D = byt (X / Y) (s.size - 1 - j) := by
                rw [← HT2.out, hTD, Nat.add_comm, Nat.add_mul_div_right _ _ hY, Nat.div_eq_of_lt hRc, Nat.zero_add]
              have hRq : Rc = X / 256 ^ (s.size - (j + 1)) % Y := by
                rw [← HT3.out, hTD, Nat.add_comm, Nat.add_mul_mod_self_right, Nat.mod_eq_of_lt hRc]
              have hq2 := HQ.out.below hbe hwl3
              have hcell := hq2.cell (rowf_get hjs)
              have hfz := hq2.frozen j
              have hset := hq2.set j (.int .u8 ((D : Nat) : Int))
              rw [hDq, txtF_set, ← hDq] at hset
              have hbl2 := HBLK.out.below hbe hwl2
              have hbl3 := hbl2.setOther (a := ⟨wq.heap.size, j, none⟩) (show ¬ wq.heap.size = w.heap.size by omega) (.int .u8 ((D : Nat) : Int))
              have hb5 := (HBEL.out.trans (hbe.mono HBEL.out.size)).setCell (p := ⟨wq.heap.size, j, none⟩) (show w.heap.size ≤ wq.heap.size by omega) (.int .u8 ((D : Nat) : Int))
              have hDm : (D : Int) % 256 = (D : Int) := by omega
              have HSET := Lib.hid hset; clear hset
              have HBL3 := Lib.hid hbl3; clear hbl3
              have HB5 := Lib.hid hb5; clear hb5
              have HRQ := Lib.hid hRq; clear hRq
              clear hDq hTD hbe hq2 hbl2
              go_wp2_with fail
              refine ⟨?_, ?measure⟩
              · (repeat apply Exists.intro)
                refine ⟨?_, rfl⟩
                exact ⟨j + 1, by omega, by go_num, by rw [HRQ.out], HB5.out, HBL3.out, HSET.out⟩
              case measure => simp [intOf]; omega
        · obtain ⟨n, hn⟩ : ∃ n, n = s.size := ⟨_, rfl⟩
          obtain rfl : j = n := by omega
          have tj : decide ((j : Int) < (s.size : Int)) = false := by simp; omega
          rw [← hn, Nat.sub_self, Nat.pow_zero, Nat.div_one]
          rw [← hn, txtF_end] at hq
          have hlt : X / Y < 256 ^ j := by rw [hn]; exact Nat.lt_of_le_of_lt (Nat.div_le_self _ _) HXL.out
          have hrw := Row.ofBlk hq (m := j) (cap := j) (Nat.le_refl _) (by unfold maxLen; omega) j
          rw [List.take_of_length_le (by rw [cb_length, be_length]; exact Nat.le_refl _)] at hrw
          have hconv := conv_row (P := Tryz.prog) wv 125 9 5 Tryz.underlying125 Tryz.underlying5 Tryz.underlying9 (some ⟨wq.heap.size, 0, none⟩) j (be j (X / Y)) (by rw [be_length]; exact hrw)
          rw [be_length] at hconv
          have htr := fun w' => rtrim_any ⟨(be j (X / Y)).toArray⟩ w' (by show (be j (X / Y)).length ≤ _; rw [be_length]; omega)
          simp only [List.toList_toArray, be_of_lt hlt] at htr
          rw [hn] at hconv
          have HTR := Lib.hid htr; clear htr
          have HBEL := Lib.hid hbel; clear hbel
          rw [hn] at HTR
          clear hrw hq hblk hlt
          go_wp2_with (go_at_call 108; refine (HTR.out _).mono ?_; rintro e w' ⟨rfl, rfl⟩)
          refine bodyPost_ret (v := .tuple #[.string (bstr (X / Y)), .string (bstr (X % Y))]) (by simp [results, Tryz.results91, go_sem]) rfl ⟨HBEL.out, rfl⟩
end Go.Proofs.YthpgeeaccmgbkaaGreat
