/- The law RunlengthCounts: true at every input. -/
import Derived.Test.YtadibbbaegbljaaPlainC
import Derived.Test.YtadibbbaegbljaaAwakeB
import Derived.Test.YtadibbbaegbljaaEqInt
import Derived.Test.YtadibbbaegbljaaRefA
namespace Go.Proofs.Ytadibbbaegbljaa
open Go.RowKit

theorem Blk.keep {w w' : World} {b : Nat} {t : TypeId} {xs : List Value} (h : Blk w b t xs) (k : Below w.heap.size w w') : Blk w' b t xs := h.below k h.lt

set_option maxRecDepth 100000 in
set_option maxHeartbeats 1600000 in
theorem law_counts (a b n m : Int) (w : World) (ha : 0 ≤ a ∧ a ≤ 255) (hb : 0 ≤ b ∧ b ≤ 255) (hn : 0 ≤ n ∧ n ≤ 255) (hm : 0 ≤ m ∧ m ≤ 255) :
    Calls Try.prog 6 #[.int .u8 a, .int .u8 b, .int .u8 n, .int .u8 m] w (Ret w (.bool true)) := by
  have hp := ofK_pair a b
  obtain ⟨d, hd⟩ : ∃ d, d = ofD a := ⟨_, rfl⟩
  obtain ⟨k, hk⟩ : ∃ k, k = ofK a b := ⟨_, rfl⟩
  have hof := of_any a b w ha hb
  have hd4 : 0 ≤ d ∧ d ≤ 4 := by rw [hd]; unfold ofD; omega
  have hk4 : -1 ≤ k ∧ k ≤ 10 := by rw [hk]; unfold ofK; split <;> omega
  rw [← hd, ← hk] at hp hof
  clear hd hk
  have HOF := Lib.hid hof; clear hof
  have HP := Lib.hid hp; clear hp
  obtain ⟨x, rfl⟩ : ∃ x : Nat, n = x := ⟨n.toNat, by omega⟩
  obtain ⟨y, rfl⟩ : ∃ y : Nat, m = y := ⟨m.toNat, by omega⟩
  obtain ⟨S, hS⟩ : ∃ S, S = x % 9 := ⟨_, rfl⟩
  obtain ⟨G, hG⟩ : ∃ G, G = y % 60 := ⟨_, rfl⟩
  have hS8 : S ≤ 8 := by omega
  have hG59 : G ≤ 59 := by omega
  have t1 : (x : Int).tmod 9 = (S : Int) := by rw [hS, Int.tmod_eq_emod_of_nonneg (by omega)]; rfl
  have t2 : (y : Int).tmod 60 = (G : Int) := by rw [hG, Int.tmod_eq_emod_of_nonneg (by omega)]; rfl
  have t1' : (x : Int) % 9 = (S : Int) := by omega
  have t2' : (y : Int) % 60 = (G : Int) := by omega
  clear hS hG
  obtain ⟨X, hX⟩ : ∃ X : Nat, X = 2 ^ S := ⟨_, rfl⟩
  obtain ⟨P, hP⟩ : ∃ P : Nat, P = 2 ^ G := ⟨_, rfl⟩
  have hX256 : X ≤ 256 := by rw [hX]; exact Nat.pow_le_pow_right (by decide) hS8
  have hP60 : P ≤ 576460752303423488 := by rw [hP]; exact Nat.pow_le_pow_right (n := 2) (by decide) hG59
  have t3 : wrap64 ((2 : Int) ^ S) = (X : Int) := by
    rw [show (2 : Int) ^ S = ((2 ^ S : Nat) : Int) by simp, ← hX]; exact IntWalk.wrap64_in _ (by omega)
  have t4 : IntKind.i64.wrap ((2 : Int) ^ G) = (P : Int) := by
    rw [show (2 : Int) ^ G = ((2 ^ G : Nat) : Int) by simp, ← hP]; exact IntWalk.i64_in _ (by omega)
  have HV : Hid (∀ (j : Nat) (s : ByteArray) (w' : World), s.data.toList = wb S j → Calls Try.prog 13 #[.int .i64 d, .int .i64 k, .string s] w' (Ret w' (.tuple #[.bool (okB d k (wb S j) 0 false), .int .i64 0]))) := by
    refine Lib.hid fun j s w' hs => ?_
    have hsz : s.size = S := by rw [← bytes_size, hs, wb_length]
    have hw : IsWord s := ⟨by omega, by rw [hs]; exact wb_word S j⟩
    have h := Valid_any d k s w' (by omega)
    rw [rchk_word HP.out hw.len hw.2, validR_word HP.out hw, hs] at h
    have e : okW d k (wb S j) = okB d k (wb S j) 0 false := by rw [Bool.eq_iff_iff, okW_iff, okB_iff]
    rw [e] at h; exact h
  have T3 := Lib.hid t3; clear t3
  have T4 := Lib.hid t4; clear t4
  obtain ⟨p, hpp⟩ : ∃ p : Nat → Bool, p = fun j => okB d k (wb S j) 0 false := ⟨_, rfl⟩
  have hcx : ((cnt p X : Nat) : Int) = countC d k S := by rw [hpp, hX, cnt_NN, count_NN d k HP.out]
  have hcl : ∀ j, cnt p j ≤ j := fun j => cnt_le p j
  have HCX := Lib.hid hcx; clear hcx
  have HX := Lib.hid hX; clear hX
  have HPP := Lib.hid hP; clear hP
  have HCL := Lib.hid hcl; clear hcl
  have HV2 : Hid (∀ (j : Nat) (s : ByteArray) (w' : World), s.data.toList = wb S j → Calls Try.prog 13 #[.int .i64 d, .int .i64 k, .string s] w' (Ret w' (.tuple #[.bool (p j), .int .i64 0]))) := by
    rw [hpp]; exact HV
  clear HV hpp
  have hle : countC d k G ≤ countC d k (G + 1) := by rw [count_NN d k HP.out, count_NN d k HP.out]; exact NN_mono d k HP.out G 0 false
  have hs2 : small (countC d k G) := by rw [count_NN d k HP.out]; exact NN_small d k G (by omega) 0 false
  have hs3 : small (countC d k (G + 1)) := by rw [count_NN d k HP.out]; exact NN_small d k (G + 1) (by omega) 0 false
  have h4 : countC 0 (-1) G = (P : Int) := by rw [count_NN 0 (-1) (by decide), NN_all G 0 false (by omega), HPP.out]; simp
  have HC1 : Hid (∀ w', Calls Try.prog 17 #[.int .i64 d, .int .i64 k, .int .i64 (S : Int)] w' (Ret w' (.tuple #[IntV ((cnt p X : Nat) : Int), .int .i64 0]))) := Lib.hid fun w' => by
    have h := count_yes d k S w' HP.out (by omega) (by omega) (by omega)
    rwa [← HCX.out] at h
  obtain ⟨x2, hx2⟩ : ∃ x, x = countC d k G := ⟨_, rfl⟩
  obtain ⟨x3, hx3⟩ : ∃ x, x = countC d k (G + 1) := ⟨_, rfl⟩
  have HC2 : Hid (∀ w', Calls Try.prog 17 #[.int .i64 d, .int .i64 k, .int .i64 (G : Int)] w' (Ret w' (.tuple #[IntV x2, .int .i64 0]))) := Lib.hid fun w' => by
    have h := count_yes d k G w' HP.out (by omega) (by omega) (by omega)
    rwa [← hx2] at h
  have HC3 : Hid (∀ w', Calls Try.prog 17 #[.int .i64 d, .int .i64 k, .int .i64 ((G : Int) + 1)] w' (Ret w' (.tuple #[IntV x3, .int .i64 0]))) := Lib.hid fun w' => by
    have h := count_yes d k (G + 1) w' HP.out (by omega) (by omega) (by omega)
    have e : ((G + 1 : Nat) : Int) = (G : Int) + 1 := by omega
    rwa [← hx3, e] at h
  have HC4 : Hid (∀ w', Calls Try.prog 17 #[.int .i64 0, .int .i64 (-1), .int .i64 (G : Int)] w' (Ret w' (.tuple #[IntV (P : Int), .int .i64 0]))) := Lib.hid fun w' => by
    have h := count_yes 0 (-1) G w' (by decide) (by omega) (by omega) (by omega)
    rwa [h4] at h
  rw [← hx2, ← hx3] at hle
  rw [← hx2] at hs2
  rw [← hx3] at hs3
  clear hx2 hx3 h4
  obtain ⟨z, hz⟩ : ∃ z, z = cmpZ x2 x3 := ⟨_, rfl⟩
  have hz0 : decide (z ≤ 0) = true := by
    rw [hz]; unfold cmpZ
    by_cases h : x2 < x3
    · rw [if_pos h]; rfl
    · rw [if_neg h, if_pos (by omega)]; rfl
  have HCmp : Hid (∀ w', Calls Try.prog 22 #[IntV x2, IntV x3] w' (Ret w' (.int .i64 z))) := Lib.hid fun w' => by
    have h := icompare_any (ineg x2) (ineg x3) (imag x2) (imag x3) w' hs2 hs3
    rwa [ival_canon, ival_canon, ← hz] at h
  have HO1 : Hid (∀ w', Calls Try.prog 21 #[.int .i64 ((cnt p X : Nat) : Int)] w' (Ret w' (IntV ((cnt p X : Nat) : Int)))) := Lib.hid fun w' => iof_any _ w' (by omega) (by have := HCL.out X; omega)
  have HO2 : Hid (∀ w', Calls Try.prog 21 #[.int .i64 (IntKind.i64.wrap ((2 : Int) ^ G))] w' (Ret w' (IntV (P : Int)))) := Lib.hid fun w' => by
    rw [T4.out]
    exact iof_any _ w' (by omega) (by omega)
  have heq : ∀ (u : Int) w', (binOp .eql 34 (.agg #[.bool (ineg u), .string (imag u)]) (.agg #[.bool (ineg u), .string (imag u)])).run Try.prog w' = .ok (.bool true) w' := fun u w' => by rw [eql_int, beq_toListBytes]; simp
  have heq1 := heq ((cnt p X : Nat) : Int)
  have heq2 := heq (P : Int)
  have HE1 := Lib.hid heq1; clear heq1
  have HE2 := Lib.hid heq2; clear heq2 heq
  have HZ := Lib.hid hz0; clear hz0 hz
  clear hle hs2 hs3
  have t3 := T3.out; clear T3
  go_enter Try.func6, Try.ntmps6
  go_wp2_with (go_at_call 11; refine HOF.out.mono ?_; rintro e w' ⟨rfl, rfl⟩)
  rw [t3]
  clear t1 t2 t1' t2' t3
  go_loopw [13, 41] (fun u i wr => ∃ j : Nat, j ≤ X ∧ i = .int .i64 j ∧ u = .int .i64 (cnt p j : Nat) ∧ Below w.heap.size w wr) (fun _ i _ => X - (intOf i).toNat)
  case atStart => exact ⟨0, by omega, rfl, rfl, Below.refl _ _⟩
  case round =>
    obtain ⟨j, hj, rfl, rfl, hb⟩ := hrel
    have hcj := HCL.out j
    have HB := Lib.hid hb; clear hb
    by_cases hlt : j < X
    · obtain ⟨wo, rfl⟩ : ∃ wo : World, wo = wr := ⟨_, rfl⟩
      go_wp2_with fail
      go_loopw [15, 45] (fun u i wr => ∃ (q : Nat) (s : ByteArray), q ≤ S ∧ i = .int .i64 q ∧ u = .string s ∧ s.data.toList = wb q j ∧ Below wo.heap.size wo wr) (fun _ i _ => S - (intOf i).toNat)
      case atStart => exact ⟨0, ⟨#[]⟩, by omega, rfl, rfl, rfl, Below.refl _ _⟩
      case round =>
        obtain ⟨q, s, hq, rfl, rfl, hs, hb⟩ := hrel
        have HB2 := Lib.hid hb; clear hb
        have HS := Lib.hid hs; clear hs
        by_cases hlt2 : q < S
        · obtain ⟨bt, hbt⟩ : ∃ bt, bt = j / 2 ^ q % 2 := ⟨_, rfl⟩
          have hb1 : bt ≤ 1 := by omega
          have hand : bits BinOp.and IntKind.i64 ((j : Int) / 2 ^ q) 1 = (bt : Int) := by
            have h := i64_and_nat (j / 2 ^ q) 1 (by have := Nat.div_le_self j (2 ^ q); omega) (by decide)
            rw [Nat.and_one_is_mod, ← hbt] at h
            rw [show ((j : Int) / 2 ^ q) = ((j / 2 ^ q : Nat) : Int) by simp]
            exact h
          have hcc : (48 + (bt : Int)) = ((bitL (j / 2 ^ q)).toNat : Int) := by
            unfold bitL; rw [← hbt]
            rcases Nat.lt_or_ge 0 bt with h | h
            · have : bt = 1 := by omega
              subst this; rfl
            · have : bt = 0 := by omega
              subst this; rfl
          have hrow := Row.ofBlk (Blk.new wr 5 [.int .u8 (48 + (bt : Int))]) (m := 1) (cap := 1) (Nat.le_refl _) (by decide) 1
          have hconv : (convert 29 9 (.slice (some ⟨wr.heap.size, 0, none⟩) 1 1)).run Try.prog (wr.alloc (.cells #[.int .u8 (48 + (bt : Int))] 5)) = .ok (.string ⟨#[bitL (j / 2 ^ q)]⟩) (wr.alloc (.cells #[.int .u8 (48 + (bt : Int))] 5)) := conv_row (P := Try.prog) _ 29 9 5 Try.underlying29 Try.underlying5 Try.underlying9 (some ⟨wr.heap.size, 0, none⟩) 1 [bitL (j / 2 ^ q)] (by
            have e : cb [bitL (j / 2 ^ q)] = [.int .u8 (48 + (bt : Int))] := by rw [hcc]; rfl
            rw [e]; exact hrow)
          have HBT := Lib.hid hbt; clear hbt hcc hrow
          have hsz : s.size ≤ 8 := by
            have := congrArg List.length HS.out
            rw [bytes_size, wb_length] at this; omega
          go_wp2_with fail
          go_roundw
          case rel =>
            refine ⟨q + 1, s ++ ⟨#[bitL (j / 2 ^ q)]⟩, by omega, by go_num, rfl, ?_, HB2.out.alloc HB2.out.size _⟩
            rw [ByteArray.data_append, Array.toList_append, HS.out, wb_snoc]
          case measure => simp [intOf]; omega
        · obtain rfl : S = q := by omega
          have hV := fun w' => HV2.out j s w' HS.out
          have HV := Lib.hid hV; clear hV
          obtain ⟨pj, hpj⟩ : ∃ b, b = p j := ⟨_, rfl⟩
          have hcs : cnt p (j + 1) = cnt p j + (if pj = true then 1 else 0) := by rw [hpj]; rfl
          rw [← hpj] at HV
          clear hpj
          cases pj with
          | true =>
            have HCS := Lib.hid hcs; clear hcs
            go_wp2_with (go_at_call 13; refine (HV.out _).mono ?_; rintro e w2 ⟨hq, rfl⟩; have HQ := Lib.hid hq; clear hq)
            go_roundw
            case rel =>
              have hs1 := HB.out.trans (HB2.out.mono HB.out.size)
              exact ⟨j + 1, by omega, by go_num, by rw [HCS.out]; first | rfl | go_num, hs1.trans (HQ.out.mono hs1.size)⟩
            case measure => simp [intOf]; omega
          | false =>
            have HCS := Lib.hid hcs; clear hcs
            go_wp2_with (go_at_call 13; refine (HV.out _).mono ?_; rintro e w2 ⟨hq, rfl⟩; have HQ := Lib.hid hq; clear hq)
            go_roundw
            case rel =>
              have hs1 := HB.out.trans (HB2.out.mono HB.out.size)
              exact ⟨j + 1, by omega, by go_num, by rw [HCS.out]; first | rfl | go_num, hs1.trans (HQ.out.mono hs1.size)⟩
            case measure => simp [intOf]; omega
    · obtain rfl : X = j := by omega
      go_wp2_with fail
      go_at_call 17
      refine (HC1.out _).mono ?_
      rintro e w1 ⟨hq, rfl⟩
      have HQ1 := Lib.hid hq; clear hq
      go_wp2_with fail
      go_at_call 17
      refine (HC2.out _).mono ?_
      rintro e w2 ⟨hq, rfl⟩
      have HQ2 := Lib.hid hq; clear hq
      go_wp2_with fail
      go_at_call 17
      refine (HC3.out _).mono ?_
      rintro e w3 ⟨hq, rfl⟩
      have HQ3 := Lib.hid hq; clear hq
      go_wp2_with fail
      go_at_call 17
      refine (HC4.out _).mono ?_
      rintro e w4 ⟨hq, rfl⟩
      have HQ4 := Lib.hid hq; clear hq
      go_wp2_with fail
      have hb1 := Blk.new w1 34 [.bool (ineg ((cnt p X : Nat) : Int)), .string (imag ((cnt p X : Nat) : Int))]
      have hb1 := (hb1.keep HQ2.out).alloc (.cells #[.bool (ineg x2), .string (imag x2)] 34)
      have hb1 := (hb1.keep HQ3.out).alloc (.cells #[.bool (ineg x3), .string (imag x3)] 34)
      have hb1 := (hb1.keep HQ4.out).alloc (.cells #[.bool (ineg (P : Int)), .string (imag (P : Int))] 34)
      have hb2 := Blk.new w2 34 [.bool (ineg x2), .string (imag x2)]
      have hb2 := (hb2.keep HQ3.out).alloc (.cells #[.bool (ineg x3), .string (imag x3)] 34)
      have hb2 := (hb2.keep HQ4.out).alloc (.cells #[.bool (ineg (P : Int)), .string (imag (P : Int))] 34)
      have hb3 := Blk.new w3 34 [.bool (ineg x3), .string (imag x3)]
      have hb3 := (hb3.keep HQ4.out).alloc (.cells #[.bool (ineg (P : Int)), .string (imag (P : Int))] 34)
      have hb4 := Blk.new w4 34 [.bool (ineg (P : Int)), .string (imag (P : Int))]
      have c1 := hb1.cell (j := 0) rfl
      have d1 := hb1.cell (j := 1) rfl
      have HA1 := Lib.hid hb1; clear hb1
      have c2 := hb2.cell (j := 0) rfl
      have d2 := hb2.cell (j := 1) rfl
      have HA2 := Lib.hid hb2; clear hb2
      have c3 := hb3.cell (j := 0) rfl
      have d3 := hb3.cell (j := 1) rfl
      have HA3 := Lib.hid hb3; clear hb3
      have c4 := hb4.cell (j := 0) rfl
      have d4 := hb4.cell (j := 1) rfl
      have HA4 := Lib.hid hb4; clear hb4
      have hmax : ∀ (w : World) (ts : Array TypeId) (t : TypeId), (Builtin.max_ ts t #[.int .i64 0, .int .i64 0, .int .i64 0, .int .i64 0]).run Try.prog w = .ok (.int .i64 0) w := fun w ts t => by simp [Builtin.max_, Builtin.max2]
      have he1 := HE1.out
      have he2 := HE2.out
      have hz0 := HZ.out
      go_region_held3 (fun w' => w'.cell? ⟨w1.heap.size, 0, none⟩ = some (.bool (ineg ((cnt p X : Nat) : Int))) ∧ w'.cell? ⟨w1.heap.size, 1, none⟩ = some (.string (imag ((cnt p X : Nat) : Int))) ∧ w'.cell? ⟨w2.heap.size, 0, none⟩ = some (.bool (ineg x2)) ∧ w'.cell? ⟨w2.heap.size, 1, none⟩ = some (.string (imag x2)) ∧ w'.cell? ⟨w3.heap.size, 0, none⟩ = some (.bool (ineg x3)) ∧ w'.cell? ⟨w3.heap.size, 1, none⟩ = some (.string (imag x3)) ∧ w'.cell? ⟨w4.heap.size, 0, none⟩ = some (.bool (ineg (P : Int))) ∧ w'.cell? ⟨w4.heap.size, 1, none⟩ = some (.string (imag (P : Int)))) (go_keep) (first | (go_at_call 21; ((with_reducible refine (HO1.out _).mono ?_)); rintro e w5 ⟨hq, rfl⟩; have hB1 := HA1.out.drew.keep hq; have cB1 := hB1.cell (j := 0) rfl; have dB1 := hB1.cell (j := 1) rfl; have HB1 := Lib.hid hB1; clear hB1; have hB2 := HA2.out.drew.keep hq; have cB2 := hB2.cell (j := 0) rfl; have dB2 := hB2.cell (j := 1) rfl; have HB2 := Lib.hid hB2; clear hB2; have hB3 := HA3.out.drew.keep hq; have cB3 := hB3.cell (j := 0) rfl; have dB3 := hB3.cell (j := 1) rfl; have HB3 := Lib.hid hB3; clear hB3; have hB4 := HA4.out.drew.keep hq; have cB4 := hB4.cell (j := 0) rfl; have dB4 := hB4.cell (j := 1) rfl; have HB4 := Lib.hid hB4; clear hB4; have HQ5 := Lib.hid hq; clear hq) | (go_at_call 22; ((with_reducible refine (HCmp.out _).mono ?_)); rintro e w6 ⟨hq, rfl⟩; have hC1 := HB1.out.keep hq; have cC1 := hC1.cell (j := 0) rfl; have dC1 := hC1.cell (j := 1) rfl; have HC1 := Lib.hid hC1; clear hC1; have hC2 := HB2.out.keep hq; have cC2 := hC2.cell (j := 0) rfl; have dC2 := hC2.cell (j := 1) rfl; have HC2 := Lib.hid hC2; clear hC2; have hC3 := HB3.out.keep hq; have cC3 := hC3.cell (j := 0) rfl; have dC3 := hC3.cell (j := 1) rfl; have HC3 := Lib.hid hC3; clear hC3; have hC4 := HB4.out.keep hq; have cC4 := hC4.cell (j := 0) rfl; have dC4 := hC4.cell (j := 1) rfl; have HC4 := Lib.hid hC4; clear hC4; have HQ6 := Lib.hid hq; clear hq) | (go_at_call 21; ((with_reducible refine (HO2.out _).mono ?_)); rintro e w7 ⟨hq, rfl⟩; have hD1 := HC1.out.keep hq; have cD1 := hD1.cell (j := 0) rfl; have dD1 := hD1.cell (j := 1) rfl; have HD1 := Lib.hid hD1; clear hD1; have hD2 := HC2.out.keep hq; have cD2 := hD2.cell (j := 0) rfl; have dD2 := hD2.cell (j := 1) rfl; have HD2 := Lib.hid hD2; clear hD2; have hD3 := HC3.out.keep hq; have cD3 := hD3.cell (j := 0) rfl; have dD3 := hD3.cell (j := 1) rfl; have HD3 := Lib.hid hD3; clear hD3; have hD4 := HC4.out.keep hq; have cD4 := hD4.cell (j := 0) rfl; have dD4 := hD4.cell (j := 1) rfl; have HD4 := Lib.hid hD4; clear hD4; have HQ7 := Lib.hid hq; clear hq) | (go_at_call 15; refine (awake_any _).mono ?_; rintro e w8 ⟨hq, rfl⟩; have hD1 := HD1.out.keep hq; have cE1 := hD1.cell (j := 0) rfl; have dE1 := hD1.cell (j := 1) rfl; have hD2 := HD2.out.keep hq; have cE2 := hD2.cell (j := 0) rfl; have dE2 := hD2.cell (j := 1) rfl; have hD3 := HD3.out.keep hq; have cE3 := hD3.cell (j := 0) rfl; have dE3 := hD3.cell (j := 1) rfl; have hD4 := HD4.out.keep hq; have cE4 := hD4.cell (j := 0) rfl; have dE4 := hD4.cell (j := 1) rfl; clear hD1 hD2 hD3 hD4; have HQ8 := Lib.hid hq; clear hq))
      go_wp2_with fail
      go_ret
      have s1 := HB.out.trans (HQ1.out.mono HB.out.size)
      have s2 := s1.alloc s1.size (.cells #[.bool (ineg ((cnt p X : Nat) : Int)), .string (imag ((cnt p X : Nat) : Int))] 34)
      have s2 := s2.trans (HQ2.out.mono s2.size)
      have s2 := s2.alloc s2.size (.cells #[.bool (ineg x2), .string (imag x2)] 34)
      have s2 := s2.trans (HQ3.out.mono s2.size)
      have s2 := s2.alloc s2.size (.cells #[.bool (ineg x3), .string (imag x3)] 34)
      have s2 := s2.trans (HQ4.out.mono s2.size)
      have s2 := s2.alloc s2.size (.cells #[.bool (ineg (P : Int)), .string (imag (P : Int))] 34)
      have s3 := s2.drew.trans (HQ5.out.mono s2.size)
      have s4 := s3.trans (HQ6.out.mono s3.size)
      have s5 := s4.trans (HQ7.out.mono s4.size)
      exact ⟨s5.trans (HQ8.out.mono s5.size), rfl⟩
end Go.Proofs.Ytadibbbaegbljaa
