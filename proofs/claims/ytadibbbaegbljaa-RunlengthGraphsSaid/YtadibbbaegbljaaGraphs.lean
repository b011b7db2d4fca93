/- The run-length graphs and the reference's: the same graph, the same error. -/
import Derived.Test.YtadibbbaegbljaaRefG
import Derived.Test.YtadibbbaegbljaaRefL
import Derived.Test.YtadibbbaegbljaaWrapS
import Derived.Test.YtadibbbaegbljaaWrapT
import Derived.Test.YtadibbbaegbljaaWrapL
import Derived.Test.YtadibbbaegbljaaGraphB
import Derived.Test.YtadibbbaegbljaaGErr
import Derived.Test.YtadibbbaegbljaaRefSame
import Derived.Test.YtadibbbaegbljaaLaw
import Derived.Test.YtadibbbaegbljaaAwakeB
import Derived.BigQuiet
namespace Go.Proofs.Ytadibbbaegbljaa
open Go.RowKit

/-- Two calls that answer with one graph. -/
def Both (f g : Nat) (args : Array Value) : Prop := ∃ (L S : Int) (es : List E3) (err : Int),
  (∀ w, Calls Try.prog f args w (GOut L S es err w)) ∧ (∀ w, Calls Try.prog g args w (GOut L S es err w))
theorem graph_ne2 (d E : Nat) (inf : Bool) (h : d ≤ E) : gL (gG d inf E) (E + 1) ≠ [] := by
  intro e
  unfold gL at e
  rw [List.flatMap_eq_nil_iff] at e
  have h0 := e 0 (by simp)
  unfold gG at h0
  by_cases hE : 0 < E
  · rw [if_pos hE] at h0; simp at h0
  · rw [if_neg hE, if_pos (c := d ≤ 0) (by omega)] at h0; simp at h0
theorem gout_of_make2 {w w' : World} {e : Ending} {S : Nat} {T : Nat → Nat → Option Nat} {es : List E3} {Si : Int} (hS : Si = (S : Int)) (ht : Tells S T es) (h : MakeRet w 2 Si es e w') : GOut 2 (S : Int) (canon S T) 0 w e w' := by
  obtain ⟨hb, g, cap, rfl, hown⟩ := h
  subst hS
  refine ⟨hb, _, rfl, ?_⟩
  have h := own_row hown
  rw [ht.sort, ht.perm.length_eq] at h
  rw [ht.perm.length_eq]
  exact h
theorem graphC' (d E : Nat) (k : Int) (w : World) (hp : pairB (d : Int) k = true) (hl : lastI (d : Int) k = E) (hdE : d ≤ E) (hE : E < 64) :
    Calls Try.prog 23 #[.int .i64 (d : Int), .int .i64 k] w (GOut 2 ((E + 1 : Nat) : Int) (canon (E + 1) (tG d (k == -1) E)) 0 w) := by
  have ht := graph_tells d E k hE
  refine (graph_any (d : Int) k E w hp hl hE ht.ok (by rw [graphEs_eq]; exact graph_ne2 d E _ hdE) ht.no (by have h := ht.chk; exact h)).mono fun e w' h => ?_
  exact gout_of_make2 (by omega) ht h
theorem levelsC' (d E : Nat) (k : Int) (w : World) (hp : pairB (d : Int) k = true) (hl : lastI (d : Int) k = E) (hdE : d ≤ E) (hE : E < 32) :
    Calls Try.prog 25 #[.int .i64 (d : Int), .int .i64 k] w (GOut 2 ((2 * (E + 1) : Nat) : Int) (canon (2 * (E + 1)) (tL d (k == -1) (E + 1))) 0 w) :=
  (levels_any d (E + 1) k w hp (by omega) (by omega) (by omega) (by omega)).mono fun e w' h => gout_of_make2 (by omega) (levels_tells d (k == -1) (E + 1) (by omega) (by omega)) h
theorem both_graph (d k : Int) : Both 23 24 #[.int .i64 d, .int .i64 k] := by
  by_cases hp : pairB d k = true
  · have hp' := hp
    simp [pairB] at hp'
    obtain ⟨D, rfl⟩ : ∃ D : Nat, d = D := ⟨d.toNat, by omega⟩
    by_cases hk : k = -1
    · subst hk
      have hl : lastI (D : Int) (-1) = D := rfl
      by_cases h64 : 64 ≤ D
      · exact ⟨0, 0, [], 4, fun w => graph_no4 _ _ w hp (by omega), fun w => rgraph_no4 _ _ w hp (.inl ⟨rfl, by omega⟩)⟩
      · have h1 := fun w => graphC' D D (-1) w hp hl (Nat.le_refl _) (by omega)
        have h2 := fun w => rgraph_inf D w (by omega)
        rw [Int.natCast_add] at h1
        exact ⟨_, _, _, _, h1, h2⟩
    · obtain ⟨E, rfl⟩ : ∃ E : Nat, k = E := ⟨k.toNat, by omega⟩
      have hl : lastI (D : Int) (E : Int) = E := by simp [lastI, hk]
      have hb : ((E : Int) == -1) = false := by simp <;> omega
      by_cases h64 : 64 ≤ E
      · exact ⟨0, 0, [], 4, fun w => graph_no4 _ _ w hp (by omega), fun w => rgraph_no4 _ _ w hp (.inr ⟨hk, by omega⟩)⟩
      · have h1 := fun w => graphC' D E E w hp hl (by omega) (by omega)
        have h2 := fun w => rgraph_fin D E w (by omega) (by omega)
        rw [hb, Int.natCast_add] at h1
        exact ⟨_, _, _, _, h1, h2⟩
  · have hp := Bool.eq_false_iff.2 hp
    exact ⟨0, 0, [], 2, fun w => graph_no2 d k w hp, fun w => rgraph_no2 d k w hp⟩
theorem both_levels (d k : Int) : Both 25 26 #[.int .i64 d, .int .i64 k] := by
  by_cases hp : pairB d k = true
  · have hp' := hp
    simp [pairB] at hp'
    obtain ⟨D, rfl⟩ : ∃ D : Nat, d = D := ⟨d.toNat, by omega⟩
    by_cases hk : k = -1
    · subst hk
      have hl : lastI (D : Int) (-1) = D := rfl
      by_cases h64 : 64 ≤ D
      · exact ⟨0, 0, [], 4, fun w => levels_no4 _ _ w hp (by omega), fun w => rlevels_no4 _ _ w hp (.inl ⟨rfl, by omega⟩)⟩
      · by_cases h32 : 32 ≤ D
        · exact ⟨0, 0, [], 4, fun w => levels_long _ _ ((D : Int) + 1) w hp (by omega) (by omega) (by omega), fun w => rlevels_inf_long D w (by omega) (by omega)⟩
        · have h1 := fun w => levelsC' D D (-1) w hp hl (Nat.le_refl _) (by omega)
          have h2 := fun w => rlevels_inf D w (by omega)
          rw [show ((2 * (D + 1) : Nat) : Int) = 2 * ((D : Int) + 1) by omega] at h1
          exact ⟨_, _, _, _, h1, h2⟩
    · obtain ⟨E, rfl⟩ : ∃ E : Nat, k = E := ⟨k.toNat, by omega⟩
      have hl : lastI (D : Int) (E : Int) = E := by simp [lastI, hk]
      have hb : ((E : Int) == -1) = false := by simp <;> omega
      by_cases h64 : 64 ≤ E
      · exact ⟨0, 0, [], 4, fun w => levels_no4 _ _ w hp (by omega), fun w => rlevels_no4 _ _ w hp (.inr ⟨hk, by omega⟩)⟩
      · by_cases h32 : 32 ≤ E
        · exact ⟨0, 0, [], 4, fun w => levels_long _ _ ((E : Int) + 1) w hp (by omega) (by omega) (by omega), fun w => rlevels_fin_long D E w (by omega) (by omega) (by omega)⟩
        · have h1 := fun w => levelsC' D E E w hp hl (by omega) (by omega)
          have h2 := fun w => rlevels_fin D E w (by omega) (by omega)
          rw [hb, show ((2 * (E + 1) : Nat) : Int) = 2 * ((E : Int) + 1) by omega] at h1
          exact ⟨_, _, _, _, h1, h2⟩
  · have hp := Bool.eq_false_iff.2 hp
    exact ⟨0, 0, [], 2, fun w => levels_no2 d k w hp, fun w => rlevels_no2 d k w hp⟩
theorem both_spaced (d k st : Int) (hk : k ≤ 9223372036854775807) (hst : st ≤ 9223372036854775807) : Both 27 28 #[.int .i64 d, .int .i64 k, .int .i64 st] := by
  by_cases hb : d < 0 ∨ (0 ≤ d ∧ k < d) ∨ (0 ≤ d ∧ d ≤ k ∧ st < 1)
  · exact ⟨0, 0, [], 2, fun w => spaced_no2 d k st w hb, fun w => rspaced_no2 d k st w hb⟩
  · obtain ⟨D, rfl⟩ : ∃ D : Nat, d = D := ⟨d.toNat, by omega⟩
    obtain ⟨K, rfl⟩ : ∃ K : Nat, k = K := ⟨k.toNat, by omega⟩
    obtain ⟨T, rfl⟩ : ∃ T : Nat, st = T := ⟨st.toNat, by omega⟩
    have hdK : D ≤ K := by omega
    have hE : ((K : Int) - ((K : Int) - D) % T) = ((K - (K - D) % T : Nat) : Int) := by
      have h1 : (K - D) % T ≤ K - D := Nat.mod_le _ _
      rw [show (K : Int) - (D : Int) = ((K - D : Nat) : Int) by omega, ← Int.natCast_emod]; omega
    by_cases h64 : 64 ≤ K - (K - D) % T
    · exact ⟨0, 0, [], 4, fun w => spaced_no4 _ _ _ w (by omega) (by omega) (by omega) (by omega) (by rw [hE]; omega), fun w => rspaced_no4 D K T w hdK (by omega) (by omega) (by omega) h64⟩
    · refine ⟨_, _, _, _, fun w => (spaced_any D K T _ w hdK (by omega) (by omega) (by omega) rfl (by omega)).mono fun e w' h => gout_of_make2 ?_ (spaced_tells D T _ (by omega)) h, fun w => ?_⟩
      · rw [Int.natCast_add]; rfl
      · have h2 := rspaced_ok D K T _ w hdK (by omega) (by omega) (by omega) rfl (by omega)
        rw [Int.natCast_add]
        exact h2
theorem both_trans (j k : Int) : Both 29 30 #[.int .i64 j, .int .i64 k] := by
  by_cases hb : j < 1 ∨ (1 ≤ j ∧ k < 1)
  · exact ⟨0, 0, [], 2, fun w => trans_no2 j k w hb, fun w => rtrans_no2 j k w hb⟩
  · by_cases hc : 64 < j ∨ (j ≤ 64 ∧ 64 < k)
    · exact ⟨0, 0, [], 4, fun w => trans_no4 j k w (by omega) (by omega) hc, fun w => rtrans_no4 j k w (by omega) (by omega) (by omega)⟩
    · by_cases hs : 64 < j + k
      · exact ⟨0, 0, [], 4, fun w => trans_long j k w (by omega) (by omega) (by omega) (by omega) hs, fun w => rtrans_no4 j k w (by omega) (by omega) (by omega)⟩
      · obtain ⟨J, rfl⟩ : ∃ J : Nat, j = J := ⟨j.toNat, by omega⟩
        obtain ⟨K, rfl⟩ : ∃ K : Nat, k = K := ⟨k.toNat, by omega⟩
        refine ⟨_, _, _, _, fun w => (trans_any J K w (by omega) (by omega) (by omega)).mono fun e w' h => gout_of_make2 ?_ (trans_tells J K (by omega) (by omega) (by omega)) h, fun w => ?_⟩
        · rw [Int.natCast_add]
        · have h2 := rtrans_ok J K w (by omega) (by omega) (by omega)
          rw [Nat.add_comm J K, Int.natCast_add]
          exact h2

set_option maxRecDepth 100000 in
set_option maxHeartbeats 3200000 in
theorem graphs_walk (d k st : Int) (w : World) (hG : Both 23 24 #[.int .i64 d, .int .i64 k]) (hS : Both 27 28 #[.int .i64 d, .int .i64 k, .int .i64 st]) (hL : Both 25 26 #[.int .i64 d, .int .i64 k]) (hT : Both 29 30 #[.int .i64 d, .int .i64 k]) :
    Calls Try.prog 7 #[.int .i64 d, .int .i64 k, .int .i64 st] w (Ret w (.bool true)) := by
  obtain ⟨L1, S1, e1, r1, g1, g2⟩ := hG
  obtain ⟨L2, S2, e2, r2, l1, l2⟩ := hL
  obtain ⟨L3, S3, e3, r3, s1, s2⟩ := hS
  obtain ⟨L4, S4, e4, r4, t1, t2⟩ := hT
  have G1 := Lib.hid g1; clear g1
  have G2 := Lib.hid g2; clear g2
  have M1 := Lib.hid l1; clear l1
  have M2 := Lib.hid l2; clear l2
  have P1 := Lib.hid s1; clear s1
  have P2 := Lib.hid s2; clear s2
  have T1 := Lib.hid t1; clear t1
  have T2 := Lib.hid t2; clear t2
  go_enter Try.func7, Try.ntmps7
  go_wp2_with fail
  have s0 := Below.refl w.heap.size w
  have S0 := Lib.hid s0; clear s0
  go_at_call 23
  refine (G1.out _).mono ?_
  rintro e w0 ⟨hq, v, rfl, hrow⟩
  obtain ⟨a0, c0, rfl, -⟩ := hrow.slice
  have ha := (Below.refl w0.heap.size w0).alloc (Nat.le_refl _) (.cells #[.int .i64 L1, .int .i64 S1, .slice a0 e1.length c0] 46)
  have sn := S0.out.trans (hq.mono S0.out.size); clear S0
  have sn := sn.alloc sn.size (.cells #[.int .i64 L1, .int .i64 S1, .slice a0 e1.length c0] 46)
  have S0 := Lib.hid sn; clear sn
  have tk := Blk.new w0 46 [.int .i64 L1, .int .i64 S1, .slice a0 e1.length c0]; have B0 := Lib.hid tk; clear tk
  have tk := hrow.below ha (Nat.le_refl _); have R0 := Lib.hid tk; clear tk
  clear ha hq hrow
  go_wp2_with fail
  go_at_call 24
  refine (G2.out _).mono ?_
  rintro e w1 ⟨hq, v, rfl, hrow⟩
  obtain ⟨a1, c1, rfl, -⟩ := hrow.slice
  have ha := (Below.refl w1.heap.size w1).alloc (Nat.le_refl _) (.cells #[.int .i64 L1, .int .i64 S1, .slice a1 e1.length c1] 46)
  have sn := S0.out.trans (hq.mono S0.out.size); clear S0
  have sn := sn.alloc sn.size (.cells #[.int .i64 L1, .int .i64 S1, .slice a1 e1.length c1] 46)
  have S0 := Lib.hid sn; clear sn
  have tk := (B0.out.keep hq).alloc (.cells #[.int .i64 L1, .int .i64 S1, .slice a1 e1.length c1] 46); clear B0; have B0 := Lib.hid tk; clear tk
  have tk := (R0.out.below hq (Nat.le_refl _)).below ha (Nat.le_refl _); clear R0; have R0 := Lib.hid tk; clear tk
  have tk := Blk.new w1 46 [.int .i64 L1, .int .i64 S1, .slice a1 e1.length c1]; have B1 := Lib.hid tk; clear tk
  have tk := hrow.below ha (Nat.le_refl _); have R1 := Lib.hid tk; clear tk
  clear ha hq hrow
  go_wp2_with fail
  go_at_call 25
  refine (M1.out _).mono ?_
  rintro e w2 ⟨hq, v, rfl, hrow⟩
  obtain ⟨a2, c2, rfl, -⟩ := hrow.slice
  have ha := (Below.refl w2.heap.size w2).alloc (Nat.le_refl _) (.cells #[.int .i64 L2, .int .i64 S2, .slice a2 e2.length c2] 46)
  have sn := S0.out.trans (hq.mono S0.out.size); clear S0
  have sn := sn.alloc sn.size (.cells #[.int .i64 L2, .int .i64 S2, .slice a2 e2.length c2] 46)
  have S0 := Lib.hid sn; clear sn
  have tk := (B0.out.keep hq).alloc (.cells #[.int .i64 L2, .int .i64 S2, .slice a2 e2.length c2] 46); clear B0; have B0 := Lib.hid tk; clear tk
  have tk := (R0.out.below hq (Nat.le_refl _)).below ha (Nat.le_refl _); clear R0; have R0 := Lib.hid tk; clear tk
  have tk := (B1.out.keep hq).alloc (.cells #[.int .i64 L2, .int .i64 S2, .slice a2 e2.length c2] 46); clear B1; have B1 := Lib.hid tk; clear tk
  have tk := (R1.out.below hq (Nat.le_refl _)).below ha (Nat.le_refl _); clear R1; have R1 := Lib.hid tk; clear tk
  have tk := Blk.new w2 46 [.int .i64 L2, .int .i64 S2, .slice a2 e2.length c2]; have B2 := Lib.hid tk; clear tk
  have tk := hrow.below ha (Nat.le_refl _); have R2 := Lib.hid tk; clear tk
  clear ha hq hrow
  go_wp2_with fail
  go_at_call 26
  refine (M2.out _).mono ?_
  rintro e w3 ⟨hq, v, rfl, hrow⟩
  obtain ⟨a3, c3, rfl, -⟩ := hrow.slice
  have ha := (Below.refl w3.heap.size w3).alloc (Nat.le_refl _) (.cells #[.int .i64 L2, .int .i64 S2, .slice a3 e2.length c3] 46)
  have sn := S0.out.trans (hq.mono S0.out.size); clear S0
  have sn := sn.alloc sn.size (.cells #[.int .i64 L2, .int .i64 S2, .slice a3 e2.length c3] 46)
  have S0 := Lib.hid sn; clear sn
  have tk := (B0.out.keep hq).alloc (.cells #[.int .i64 L2, .int .i64 S2, .slice a3 e2.length c3] 46); clear B0; have B0 := Lib.hid tk; clear tk
  have tk := (R0.out.below hq (Nat.le_refl _)).below ha (Nat.le_refl _); clear R0; have R0 := Lib.hid tk; clear tk
  have tk := (B1.out.keep hq).alloc (.cells #[.int .i64 L2, .int .i64 S2, .slice a3 e2.length c3] 46); clear B1; have B1 := Lib.hid tk; clear tk
  have tk := (R1.out.below hq (Nat.le_refl _)).below ha (Nat.le_refl _); clear R1; have R1 := Lib.hid tk; clear tk
  have tk := (B2.out.keep hq).alloc (.cells #[.int .i64 L2, .int .i64 S2, .slice a3 e2.length c3] 46); clear B2; have B2 := Lib.hid tk; clear tk
  have tk := (R2.out.below hq (Nat.le_refl _)).below ha (Nat.le_refl _); clear R2; have R2 := Lib.hid tk; clear tk
  have tk := Blk.new w3 46 [.int .i64 L2, .int .i64 S2, .slice a3 e2.length c3]; have B3 := Lib.hid tk; clear tk
  have tk := hrow.below ha (Nat.le_refl _); have R3 := Lib.hid tk; clear tk
  clear ha hq hrow
  go_wp2_with fail
  go_at_call 27
  refine (P1.out _).mono ?_
  rintro e w4 ⟨hq, v, rfl, hrow⟩
  obtain ⟨a4, c4, rfl, -⟩ := hrow.slice
  have ha := (Below.refl w4.heap.size w4).alloc (Nat.le_refl _) (.cells #[.int .i64 L3, .int .i64 S3, .slice a4 e3.length c4] 46)
  have sn := S0.out.trans (hq.mono S0.out.size); clear S0
  have sn := sn.alloc sn.size (.cells #[.int .i64 L3, .int .i64 S3, .slice a4 e3.length c4] 46)
  have S0 := Lib.hid sn; clear sn
  have tk := (B0.out.keep hq).alloc (.cells #[.int .i64 L3, .int .i64 S3, .slice a4 e3.length c4] 46); clear B0; have B0 := Lib.hid tk; clear tk
  have tk := (R0.out.below hq (Nat.le_refl _)).below ha (Nat.le_refl _); clear R0; have R0 := Lib.hid tk; clear tk
  have tk := (B1.out.keep hq).alloc (.cells #[.int .i64 L3, .int .i64 S3, .slice a4 e3.length c4] 46); clear B1; have B1 := Lib.hid tk; clear tk
  have tk := (R1.out.below hq (Nat.le_refl _)).below ha (Nat.le_refl _); clear R1; have R1 := Lib.hid tk; clear tk
  have tk := (B2.out.keep hq).alloc (.cells #[.int .i64 L3, .int .i64 S3, .slice a4 e3.length c4] 46); clear B2; have B2 := Lib.hid tk; clear tk
  have tk := (R2.out.below hq (Nat.le_refl _)).below ha (Nat.le_refl _); clear R2; have R2 := Lib.hid tk; clear tk
  have tk := (B3.out.keep hq).alloc (.cells #[.int .i64 L3, .int .i64 S3, .slice a4 e3.length c4] 46); clear B3; have B3 := Lib.hid tk; clear tk
  have tk := (R3.out.below hq (Nat.le_refl _)).below ha (Nat.le_refl _); clear R3; have R3 := Lib.hid tk; clear tk
  have tk := Blk.new w4 46 [.int .i64 L3, .int .i64 S3, .slice a4 e3.length c4]; have B4 := Lib.hid tk; clear tk
  have tk := hrow.below ha (Nat.le_refl _); have R4 := Lib.hid tk; clear tk
  clear ha hq hrow
  go_wp2_with fail
  go_at_call 28
  refine (P2.out _).mono ?_
  rintro e w5 ⟨hq, v, rfl, hrow⟩
  obtain ⟨a5, c5, rfl, -⟩ := hrow.slice
  have ha := (Below.refl w5.heap.size w5).alloc (Nat.le_refl _) (.cells #[.int .i64 L3, .int .i64 S3, .slice a5 e3.length c5] 46)
  have sn := S0.out.trans (hq.mono S0.out.size); clear S0
  have sn := sn.alloc sn.size (.cells #[.int .i64 L3, .int .i64 S3, .slice a5 e3.length c5] 46)
  have S0 := Lib.hid sn; clear sn
  have tk := (B0.out.keep hq).alloc (.cells #[.int .i64 L3, .int .i64 S3, .slice a5 e3.length c5] 46); clear B0; have B0 := Lib.hid tk; clear tk
  have tk := (R0.out.below hq (Nat.le_refl _)).below ha (Nat.le_refl _); clear R0; have R0 := Lib.hid tk; clear tk
  have tk := (B1.out.keep hq).alloc (.cells #[.int .i64 L3, .int .i64 S3, .slice a5 e3.length c5] 46); clear B1; have B1 := Lib.hid tk; clear tk
  have tk := (R1.out.below hq (Nat.le_refl _)).below ha (Nat.le_refl _); clear R1; have R1 := Lib.hid tk; clear tk
  have tk := (B2.out.keep hq).alloc (.cells #[.int .i64 L3, .int .i64 S3, .slice a5 e3.length c5] 46); clear B2; have B2 := Lib.hid tk; clear tk
  have tk := (R2.out.below hq (Nat.le_refl _)).below ha (Nat.le_refl _); clear R2; have R2 := Lib.hid tk; clear tk
  have tk := (B3.out.keep hq).alloc (.cells #[.int .i64 L3, .int .i64 S3, .slice a5 e3.length c5] 46); clear B3; have B3 := Lib.hid tk; clear tk
  have tk := (R3.out.below hq (Nat.le_refl _)).below ha (Nat.le_refl _); clear R3; have R3 := Lib.hid tk; clear tk
  have tk := (B4.out.keep hq).alloc (.cells #[.int .i64 L3, .int .i64 S3, .slice a5 e3.length c5] 46); clear B4; have B4 := Lib.hid tk; clear tk
  have tk := (R4.out.below hq (Nat.le_refl _)).below ha (Nat.le_refl _); clear R4; have R4 := Lib.hid tk; clear tk
  have tk := Blk.new w5 46 [.int .i64 L3, .int .i64 S3, .slice a5 e3.length c5]; have B5 := Lib.hid tk; clear tk
  have tk := hrow.below ha (Nat.le_refl _); have R5 := Lib.hid tk; clear tk
  clear ha hq hrow
  go_wp2_with fail
  go_at_call 29
  refine (T1.out _).mono ?_
  rintro e w6 ⟨hq, v, rfl, hrow⟩
  obtain ⟨a6, c6, rfl, -⟩ := hrow.slice
  have ha := (Below.refl w6.heap.size w6).alloc (Nat.le_refl _) (.cells #[.int .i64 L4, .int .i64 S4, .slice a6 e4.length c6] 46)
  have sn := S0.out.trans (hq.mono S0.out.size); clear S0
  have sn := sn.alloc sn.size (.cells #[.int .i64 L4, .int .i64 S4, .slice a6 e4.length c6] 46)
  have S0 := Lib.hid sn; clear sn
  have tk := (B0.out.keep hq).alloc (.cells #[.int .i64 L4, .int .i64 S4, .slice a6 e4.length c6] 46); clear B0; have B0 := Lib.hid tk; clear tk
  have tk := (R0.out.below hq (Nat.le_refl _)).below ha (Nat.le_refl _); clear R0; have R0 := Lib.hid tk; clear tk
  have tk := (B1.out.keep hq).alloc (.cells #[.int .i64 L4, .int .i64 S4, .slice a6 e4.length c6] 46); clear B1; have B1 := Lib.hid tk; clear tk
  have tk := (R1.out.below hq (Nat.le_refl _)).below ha (Nat.le_refl _); clear R1; have R1 := Lib.hid tk; clear tk
  have tk := (B2.out.keep hq).alloc (.cells #[.int .i64 L4, .int .i64 S4, .slice a6 e4.length c6] 46); clear B2; have B2 := Lib.hid tk; clear tk
  have tk := (R2.out.below hq (Nat.le_refl _)).below ha (Nat.le_refl _); clear R2; have R2 := Lib.hid tk; clear tk
  have tk := (B3.out.keep hq).alloc (.cells #[.int .i64 L4, .int .i64 S4, .slice a6 e4.length c6] 46); clear B3; have B3 := Lib.hid tk; clear tk
  have tk := (R3.out.below hq (Nat.le_refl _)).below ha (Nat.le_refl _); clear R3; have R3 := Lib.hid tk; clear tk
  have tk := (B4.out.keep hq).alloc (.cells #[.int .i64 L4, .int .i64 S4, .slice a6 e4.length c6] 46); clear B4; have B4 := Lib.hid tk; clear tk
  have tk := (R4.out.below hq (Nat.le_refl _)).below ha (Nat.le_refl _); clear R4; have R4 := Lib.hid tk; clear tk
  have tk := (B5.out.keep hq).alloc (.cells #[.int .i64 L4, .int .i64 S4, .slice a6 e4.length c6] 46); clear B5; have B5 := Lib.hid tk; clear tk
  have tk := (R5.out.below hq (Nat.le_refl _)).below ha (Nat.le_refl _); clear R5; have R5 := Lib.hid tk; clear tk
  have tk := Blk.new w6 46 [.int .i64 L4, .int .i64 S4, .slice a6 e4.length c6]; have B6 := Lib.hid tk; clear tk
  have tk := hrow.below ha (Nat.le_refl _); have R6 := Lib.hid tk; clear tk
  clear ha hq hrow
  go_wp2_with fail
  go_at_call 30
  refine (T2.out _).mono ?_
  rintro e w7 ⟨hq, v, rfl, hrow⟩
  obtain ⟨a7, c7, rfl, -⟩ := hrow.slice
  have ha := (Below.refl w7.heap.size w7).alloc (Nat.le_refl _) (.cells #[.int .i64 L4, .int .i64 S4, .slice a7 e4.length c7] 46)
  have sn := S0.out.trans (hq.mono S0.out.size); clear S0
  have sn := sn.alloc sn.size (.cells #[.int .i64 L4, .int .i64 S4, .slice a7 e4.length c7] 46)
  have S0 := Lib.hid sn; clear sn
  have tk := (B0.out.keep hq).alloc (.cells #[.int .i64 L4, .int .i64 S4, .slice a7 e4.length c7] 46); clear B0; have B0 := Lib.hid tk; clear tk
  have tk := (R0.out.below hq (Nat.le_refl _)).below ha (Nat.le_refl _); clear R0; have R0 := Lib.hid tk; clear tk
  have tk := (B1.out.keep hq).alloc (.cells #[.int .i64 L4, .int .i64 S4, .slice a7 e4.length c7] 46); clear B1; have B1 := Lib.hid tk; clear tk
  have tk := (R1.out.below hq (Nat.le_refl _)).below ha (Nat.le_refl _); clear R1; have R1 := Lib.hid tk; clear tk
  have tk := (B2.out.keep hq).alloc (.cells #[.int .i64 L4, .int .i64 S4, .slice a7 e4.length c7] 46); clear B2; have B2 := Lib.hid tk; clear tk
  have tk := (R2.out.below hq (Nat.le_refl _)).below ha (Nat.le_refl _); clear R2; have R2 := Lib.hid tk; clear tk
  have tk := (B3.out.keep hq).alloc (.cells #[.int .i64 L4, .int .i64 S4, .slice a7 e4.length c7] 46); clear B3; have B3 := Lib.hid tk; clear tk
  have tk := (R3.out.below hq (Nat.le_refl _)).below ha (Nat.le_refl _); clear R3; have R3 := Lib.hid tk; clear tk
  have tk := (B4.out.keep hq).alloc (.cells #[.int .i64 L4, .int .i64 S4, .slice a7 e4.length c7] 46); clear B4; have B4 := Lib.hid tk; clear tk
  have tk := (R4.out.below hq (Nat.le_refl _)).below ha (Nat.le_refl _); clear R4; have R4 := Lib.hid tk; clear tk
  have tk := (B5.out.keep hq).alloc (.cells #[.int .i64 L4, .int .i64 S4, .slice a7 e4.length c7] 46); clear B5; have B5 := Lib.hid tk; clear tk
  have tk := (R5.out.below hq (Nat.le_refl _)).below ha (Nat.le_refl _); clear R5; have R5 := Lib.hid tk; clear tk
  have tk := (B6.out.keep hq).alloc (.cells #[.int .i64 L4, .int .i64 S4, .slice a7 e4.length c7] 46); clear B6; have B6 := Lib.hid tk; clear tk
  have tk := (R6.out.below hq (Nat.le_refl _)).below ha (Nat.le_refl _); clear R6; have R6 := Lib.hid tk; clear tk
  have tk := Blk.new w7 46 [.int .i64 L4, .int .i64 S4, .slice a7 e4.length c7]; have B7 := Lib.hid tk; clear tk
  have tk := hrow.below ha (Nat.le_refl _); have R7 := Lib.hid tk; clear tk
  clear ha hq hrow
  have z00 := B0.out.cell (j := 0) rfl
  have z01 := B0.out.cell (j := 1) rfl
  have z02 := B0.out.cell (j := 2) rfl
  have z10 := B1.out.cell (j := 0) rfl
  have z11 := B1.out.cell (j := 1) rfl
  have z12 := B1.out.cell (j := 2) rfl
  go_wp2_with fail
  go_at_call 31
  refine (rsame_yes _ _ _ _ _ _ R0.out R1.out).mono ?_
  rintro e u0 ⟨hq, rfl⟩
  have sn := S0.out.trans (hq.mono S0.out.size); clear S0
  have S0 := Lib.hid sn; clear sn
  clear z00 z01 z02 B0 R0
  clear z10 z11 z12 B1 R1
  have tk := B2.out.keep hq; clear B2; have B2 := Lib.hid tk; clear tk
  have tk := R2.out.below hq (Nat.le_refl _); clear R2; have R2 := Lib.hid tk; clear tk
  have tk := B3.out.keep hq; clear B3; have B3 := Lib.hid tk; clear tk
  have tk := R3.out.below hq (Nat.le_refl _); clear R3; have R3 := Lib.hid tk; clear tk
  have tk := B4.out.keep hq; clear B4; have B4 := Lib.hid tk; clear tk
  have tk := R4.out.below hq (Nat.le_refl _); clear R4; have R4 := Lib.hid tk; clear tk
  have tk := B5.out.keep hq; clear B5; have B5 := Lib.hid tk; clear tk
  have tk := R5.out.below hq (Nat.le_refl _); clear R5; have R5 := Lib.hid tk; clear tk
  have tk := B6.out.keep hq; clear B6; have B6 := Lib.hid tk; clear tk
  have tk := R6.out.below hq (Nat.le_refl _); clear R6; have R6 := Lib.hid tk; clear tk
  have tk := B7.out.keep hq; clear B7; have B7 := Lib.hid tk; clear tk
  have tk := R7.out.below hq (Nat.le_refl _); clear R7; have R7 := Lib.hid tk; clear tk
  have z20 := B2.out.cell (j := 0) rfl
  have z21 := B2.out.cell (j := 1) rfl
  have z22 := B2.out.cell (j := 2) rfl
  have z30 := B3.out.cell (j := 0) rfl
  have z31 := B3.out.cell (j := 1) rfl
  have z32 := B3.out.cell (j := 2) rfl
  clear hq
  go_wp2_with fail
  go_at_call 31
  refine (rsame_yes _ _ _ _ _ _ R2.out R3.out).mono ?_
  rintro e u1 ⟨hq, rfl⟩
  have sn := S0.out.trans (hq.mono S0.out.size); clear S0
  have S0 := Lib.hid sn; clear sn
  clear z20 z21 z22 B2 R2
  clear z30 z31 z32 B3 R3
  have tk := B4.out.keep hq; clear B4; have B4 := Lib.hid tk; clear tk
  have tk := R4.out.below hq (Nat.le_refl _); clear R4; have R4 := Lib.hid tk; clear tk
  have tk := B5.out.keep hq; clear B5; have B5 := Lib.hid tk; clear tk
  have tk := R5.out.below hq (Nat.le_refl _); clear R5; have R5 := Lib.hid tk; clear tk
  have tk := B6.out.keep hq; clear B6; have B6 := Lib.hid tk; clear tk
  have tk := R6.out.below hq (Nat.le_refl _); clear R6; have R6 := Lib.hid tk; clear tk
  have tk := B7.out.keep hq; clear B7; have B7 := Lib.hid tk; clear tk
  have tk := R7.out.below hq (Nat.le_refl _); clear R7; have R7 := Lib.hid tk; clear tk
  have z40 := B4.out.cell (j := 0) rfl
  have z41 := B4.out.cell (j := 1) rfl
  have z42 := B4.out.cell (j := 2) rfl
  have z50 := B5.out.cell (j := 0) rfl
  have z51 := B5.out.cell (j := 1) rfl
  have z52 := B5.out.cell (j := 2) rfl
  clear hq
  go_wp2_with fail
  go_at_call 31
  refine (rsame_yes _ _ _ _ _ _ R4.out R5.out).mono ?_
  rintro e u2 ⟨hq, rfl⟩
  have sn := S0.out.trans (hq.mono S0.out.size); clear S0
  have S0 := Lib.hid sn; clear sn
  clear z40 z41 z42 B4 R4
  clear z50 z51 z52 B5 R5
  have tk := B6.out.keep hq; clear B6; have B6 := Lib.hid tk; clear tk
  have tk := R6.out.below hq (Nat.le_refl _); clear R6; have R6 := Lib.hid tk; clear tk
  have tk := B7.out.keep hq; clear B7; have B7 := Lib.hid tk; clear tk
  have tk := R7.out.below hq (Nat.le_refl _); clear R7; have R7 := Lib.hid tk; clear tk
  have z60 := B6.out.cell (j := 0) rfl
  have z61 := B6.out.cell (j := 1) rfl
  have z62 := B6.out.cell (j := 2) rfl
  have z70 := B7.out.cell (j := 0) rfl
  have z71 := B7.out.cell (j := 1) rfl
  have z72 := B7.out.cell (j := 2) rfl
  clear hq
  go_wp2_with fail
  go_at_call 31
  refine (rsame_yes _ _ _ _ _ _ R6.out R7.out).mono ?_
  rintro e u3 ⟨hq, rfl⟩
  have sn := S0.out.trans (hq.mono S0.out.size); clear S0
  have S0 := Lib.hid sn; clear sn
  clear z60 z61 z62 B6 R6
  clear z70 z71 z72 B7 R7
  clear hq
  go_wp2_with (go_at_call 15; refine (awake_any _).mono ?_; rintro e w9 ⟨hq, rfl⟩; have HQ9 := Lib.hid hq; clear hq)
  go_ret
  exact ⟨S0.out.trans (HQ9.out.mono S0.out.size), rfl⟩
theorem law_graphs (d k s : Int) (w : World) (hd : -9223372036854775808 ≤ d ∧ d ≤ 9223372036854775807) (hk : -9223372036854775808 ≤ k ∧ k ≤ 9223372036854775807) (hs : -9223372036854775808 ≤ s ∧ s ≤ 9223372036854775807) :
    Calls Try.prog 7 #[.int .i64 d, .int .i64 k, .int .i64 s] w (Ret w (.bool true)) :=
  graphs_walk d k s w (both_graph d k) (both_spaced d k s hk.2 hs.2) (both_levels d k) (both_trans d k)
end Go.Proofs.Ytadibbbaegbljaa
