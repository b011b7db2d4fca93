/- Contracts and plain laws of several functions, one after the other: EqZ, LPrin. -/
import Derived.BigQuiet
import Derived.Test.YtalipfnbpnkgnaaDel
import Derived.Test.YtalipfnbpnkgnaaGreat29
import Derived.Test.YtalipfnbpnkgnaaRBit
import Derived.Test.YtalipfnbpnkgnaaPart7
/- slices.Equal at ints: of equal rows. -/
namespace Go.Proofs.Ytalipfnbpnkgnaa
open Go.RowKit

set_option maxRecDepth 100000 in
set_option maxHeartbeats 3200000 in
theorem equalZ_yes (l : List Int) (va vb : Value) (w : World) (ha : Row w va l.length (ci l)) (hb : Row w vb l.length (ci l)) :
    Calls Try.prog 16 #[va, vb] w (Ret w (.bool true)) := by
  obtain ⟨a1, c1, rfl, hle⟩ := ha.slice
  obtain ⟨a2, c2, rfl, -⟩ := hb.slice
  obtain ⟨n, hn⟩ : ∃ n, n = l.length := ⟨_, rfl⟩
  rw [← hn] at ha hb hle ⊢
  have HA := Lib.hid ha; clear ha
  have HB := Lib.hid hb; clear hb
  have HN := Lib.hid hn; clear hn
  have hne : ((n : Int) != (n : Int)) = false := by simp
  go_enter Try.func16, Try.ntmps16
  go_wp2_with fail
  go_loopw [5, 13] (fun _ i wr => ∃ k : Nat, k ≤ n ∧ i = .int .i64 k ∧ Below w.heap.size w wr) (fun _ i _ => n - (intOf i).toNat)
  case atStart => exact ⟨0, Nat.zero_le _, rfl, Below.refl _ _⟩
  case round =>
    obtain ⟨k, hk, rfl, hbel⟩ := hrel
    have HBEL := Lib.hid hbel; clear hbel
    by_cases hlt : k < n
    · have hget : l[k]? = some (l[k]'(by rw [← HN.out]; exact hlt)) := List.getElem?_eq_getElem _
      obtain ⟨x, hx⟩ : ∃ x, x = l[k]'(by rw [← HN.out]; exact hlt) := ⟨_, rfl⟩
      rw [← hx] at hget
      obtain ⟨b1, o1, rfl, hb1, hc1⟩ := HA.out.at_ (by omega)
      obtain ⟨b2, o2, rfl, hb2, hc2⟩ := HB.out.at_ (by omega)
      have x0 := (HBEL.out.cell (p := ⟨b1, o1 + k, none⟩) hb1).trans (hc1 k _ (ci_at hget))
      have x1 := (HBEL.out.cell (p := ⟨b2, o2 + k, none⟩) hb2).trans (hc2 k _ (ci_at hget))
      have hxx : (x != x) = false := by simp
      clear hx hget hc1 hc2
      go_wp2_with fail
      go_quiet (fail)
      go_wp2_with fail
      go_roundw
      case rel => exact ⟨k + 1, by omega, by go_num, below_drewN HBEL.out _⟩
      case measure => simp [intOf]; omega
    · obtain rfl : k = n := by omega
      go_wp2_with fail
      go_ret
      exact ⟨HBEL.out, rfl⟩
end Go.Proofs.Ytalipfnbpnkgnaa

/- The law EnumerativePrincipal, given that awake answers yes. -/
namespace Go.Proofs.Ytalipfnbpnkgnaa
open Go.RowKit

theorem both_bits (L S : Int) (es : List E3) (n : Int) (hok : okEs es) : ∃ P err : Int,
    (∀ v w, Row w v es.length (ce es) → Calls Try.prog 14 #[.agg #[.int .i64 L, .int .i64 S, v], .int .i64 n] w (NOut P err w)) ∧
    (∀ v w, Row w v es.length (ce es) → Calls Try.prog 15 #[.agg #[.int .i64 L, .int .i64 S, v], .int .i64 n] w (NOut P err w)) := by
  by_cases hE : eck L S es = 0
  · by_cases hn : n < 1 ∨ 4096 < n
    · exact ⟨0, 2, fun v w h => ebits_rng L S es v n w h hok hE hn, fun v w h => rbits_rng L S es v n w h hE hn⟩
    · have hca := chk_all (eck_zero hE).1
      obtain ⟨S', rfl⟩ : ∃ S' : Nat, S = S' := ⟨S.toNat, by omega⟩
      obtain ⟨n', rfl⟩ : ∃ n' : Nat, n = n' := ⟨n.toNat, by omega⟩
      rcases bits_ex hE n' with h0 | ⟨p, hp, hall⟩
      · refine ⟨0, 15, fun v w h => ebits_ok L S' n' es v w h hok hE (by omega) (by omega) 0 15 (.inl ⟨h0, rfl, rfl⟩), fun v w h => rbits_ok L S' n' 0 es v w h hE (by omega) (by omega) (by omega) (fun m => ?_) 0 15 (fun _ => ⟨rfl, rfl⟩) (fun h => absurd rfl h)⟩
        cases hm : hasB S' es n' m with
        | false => simp
        | true => rw [hasB_down (Nat.zero_le m) hm] at h0; cases h0
      · refine ⟨p, 0, fun v w h => ebits_ok L S' n' es v w h hok hE (by omega) (by omega) p 0 (.inr ⟨p, rfl, rfl, hp, hall⟩), fun v w h => rbits_ok L S' n' (p + 1) es v w h hE (by omega) (by omega) (by omega) (fun m => ?_) p 0 (fun h => by omega) (fun _ => ⟨by omega, rfl⟩)⟩
        rw [hall m]
        by_cases hm : m ≤ p
        · rw [decide_eq_true hm, decide_eq_true (by omega)]
        · rw [decide_eq_false hm, decide_eq_false (by omega)]
  · exact ⟨0, eck L S es, fun v w h => ebits_chk L S es v n w h hok hE, fun v w h => rbits_chk L S es v n w h hE⟩
set_option maxRecDepth 100000 in
set_option maxHeartbeats 3200000 in
theorem lprin_walk (L S : Int) (es : List E3) (v : Value) (n : Int) (ng : Bool) (s : ByteArray) (w : World) (hr : Row w v es.length (ce es)) (hok : okEs es) (hsz : s.size ≤ 9223372036854775807)
    (haw : ∀ w, Calls Try.prog 11 #[] w (Ret w (.bool true))) :
    Calls Try.prog 3 #[.agg #[.int .i64 L, .int .i64 S, v], .int .i64 n, .agg #[.bool ng, .string s]] w (Ret w (.bool true)) := by
  obtain ⟨va, vc, rfl, hle⟩ := hr.slice
  obtain ⟨P, err, hb1, hb2⟩ := both_bits L S es n hok
  have hb1 := hb1 (.slice va es.length vc)
  have hb2 := hb2 (.slice va es.length vc)
  have s0 := ((Below.refl w.heap.size w).alloc (Nat.le_refl _) (.cells #[.int .i64 L, .int .i64 S, .slice va es.length vc] 24)).alloc (by simp) (.cells #[.bool ng, .string s] 26)
  have b0 := (Blk.new w 24 [.int .i64 L, .int .i64 S, .slice va es.length vc]).alloc (.cells #[.bool ng, .string s] 26)
  have b1 := Blk.new (w.alloc (.cells #[.int .i64 L, .int .i64 S, .slice va es.length vc] 24)) 26 [.bool ng, .string s]
  simp only [World.size_alloc] at b1
  have hr0 := hr.below s0 (Nat.le_refl _)
  have hp1 := fun w' h hs => eprc_any L S es (.slice va es.length vc) n ng s w' h hok hs
  have hp2 := fun w' h hs => rprc_any L S es (.slice va es.length vc) n ng s w' h hs
  obtain ⟨l, hl⟩ : ∃ l, l = (prcP L S es n ng s).1 := ⟨_, rfl⟩
  obtain ⟨er, her⟩ : ∃ er, er = (prcP L S es n ng s).2 := ⟨_, rfl⟩
  rw [← hl, ← her] at hp1 hp2
  obtain ⟨mm, hmm⟩ : ∃ mm, mm = es.length := ⟨_, rfl⟩
  rw [← hmm] at s0 b0 b1 hr0 hb1 hb2 hp1 hp2 hle ⊢
  have HMM := Lib.hid hmm; clear hmm
  have S0 := Lib.hid s0; clear s0
  have B0 := Lib.hid b0; clear b0
  have B1 := Lib.hid b1; clear b1
  have HR := Lib.hid hr0; clear hr0
  have HB1 := Lib.hid hb1; clear hb1
  have HB2 := Lib.hid hb2; clear hb2
  have HP1 := Lib.hid hp1; clear hp1
  have HP2 := Lib.hid hp2; clear hp2
  have HAW := Lib.hid haw; clear haw
  clear hr hok hl her
  go_enter Try.func3, Try.ntmps3
  go_wp2_with fail
  go_at_call 8
  refine (great29_any _ _ _ _ _ _).mono ?_
  rintro e w1 ⟨hq, gb1, rfl⟩
  have s1 := S0.out.trans (hq.mono S0.out.size)
  have hr1 := HR.out.below hq (Nat.le_refl _)
  have tk := B0.out.keep hq; have x0 := tk.cell (j := 0) rfl; have x1 := tk.cell (j := 1) rfl; have x2 := tk.cell (j := 2) rfl; have C0 := Lib.hid tk; clear tk
  have tk := B1.out.keep hq; have y0 := tk.cell (j := 0) rfl; have y1 := tk.cell (j := 1) rfl; have C1 := Lib.hid tk; clear tk
  have S1 := Lib.hid s1; clear s1
  have HR1 := Lib.hid hr1; clear hr1
  clear hq
  cases gb1 with
  | true =>
    go_wp2_with (go_at_call 11; refine (HAW.out _).mono ?_; rintro e w9 ⟨hq9, rfl⟩; have HQ9 := Lib.hid hq9; clear hq9)
    go_ret
    exact ⟨S1.out.trans (HQ9.out.mono S1.out.size), rfl⟩
  | false =>
  go_wp2_with fail
  go_at_call 9
  refine (long_any _ _).mono ?_
  rintro e w2 ⟨hq, gb2, rfl⟩
  have s2 := S1.out.trans (hq.mono S1.out.size)
  have hr2 := HR1.out.below hq (Nat.le_refl _)
  clear x0 x1 x2 y0 y1
  have tk := C0.out.keep hq; have x0 := tk.cell (j := 0) rfl; have x1 := tk.cell (j := 1) rfl; have x2 := tk.cell (j := 2) rfl; have D0 := Lib.hid tk; clear tk
  have tk := C1.out.keep hq; have y0 := tk.cell (j := 0) rfl; have y1 := tk.cell (j := 1) rfl; have D1 := Lib.hid tk; clear tk
  have S2 := Lib.hid s2; clear s2
  have HR2 := Lib.hid hr2; clear hr2
  clear hq
  cases gb2 with
  | true =>
    go_wp2_with (go_at_call 11; refine (HAW.out _).mono ?_; rintro e w9 ⟨hq9, rfl⟩; have HQ9 := Lib.hid hq9; clear hq9)
    go_ret
    exact ⟨S2.out.trans (HQ9.out.mono S2.out.size), rfl⟩
  | false =>
  go_wp2_with fail
  go_at_call 10
  refine (great01_any _ _ _).mono ?_
  rintro e w3 ⟨hq, rfl⟩
  have s3 := S2.out.trans (hq.mono S2.out.size)
  have hr3 := HR2.out.below hq (Nat.le_refl _)
  clear x0 x1 x2 y0 y1
  have tk := D0.out.keep hq; have x0 := tk.cell (j := 0) rfl; have x1 := tk.cell (j := 1) rfl; have x2 := tk.cell (j := 2) rfl; have E0 := Lib.hid tk; clear tk
  have tk := D1.out.keep hq; have y0 := tk.cell (j := 0) rfl; have y1 := tk.cell (j := 1) rfl; have E1 := Lib.hid tk; clear tk
  have S3 := Lib.hid s3; clear s3
  have HR3 := Lib.hid hr3; clear hr3
  clear hq
  by_cases hgs : 60 < (s.size : Int)
  · have t1 : decide (60 < (s.size : Int)) = true := by simpa using hgs
    go_wp2_with (go_at_call 11; refine (HAW.out _).mono ?_; rintro e w9 ⟨hq9, rfl⟩; have HQ9 := Lib.hid hq9; clear hq9)
    go_ret
    exact ⟨S3.out.trans (HQ9.out.mono S3.out.size), rfl⟩
  have t1 : decide (60 < (s.size : Int)) = false := by simp; omega
  have hss : s.size ≤ 1099511627775 := by omega
  go_wp2_with fail
  go_at_call 12
  refine (HP1.out _ HR3.out hss).mono ?_
  rintro e w4 ⟨hq, v1, rfl, hrow1⟩
  have s4 := S3.out.trans (hq.mono S3.out.size)
  have hr4 := HR3.out.below hq (Nat.le_refl _)
  clear x0 x1 x2 y0 y1
  have tk := E0.out.keep hq; have x0 := tk.cell (j := 0) rfl; have x1 := tk.cell (j := 1) rfl; have x2 := tk.cell (j := 2) rfl; have F0 := Lib.hid tk; clear tk
  have tk := E1.out.keep hq; have y0 := tk.cell (j := 0) rfl; have y1 := tk.cell (j := 1) rfl; have F1 := Lib.hid tk; clear tk
  have S4 := Lib.hid s4; clear s4
  have HR4 := Lib.hid hr4; clear hr4
  have HV1 := Lib.hid hrow1; clear hrow1
  clear hq
  go_wp2_with fail
  go_at_call 13
  refine (HP2.out _ HR4.out hss).mono ?_
  rintro e w5 ⟨hq, v2, rfl, hrow2⟩
  have s5 := S4.out.trans (hq.mono S4.out.size)
  have hr5 := HR4.out.below hq (Nat.le_refl _)
  have hv1 := HV1.out.below hq (Nat.le_refl _)
  clear x0 x1 x2 y0 y1
  have tk := F0.out.keep hq; have x0 := tk.cell (j := 0) rfl; have x1 := tk.cell (j := 1) rfl; have x2 := tk.cell (j := 2) rfl; have G0 := Lib.hid tk; clear tk
  have tk := F1.out.keep hq; have y0 := tk.cell (j := 0) rfl; have y1 := tk.cell (j := 1) rfl; have G1 := Lib.hid tk; clear tk
  have S5 := Lib.hid s5; clear s5
  have HR5 := Lib.hid hr5; clear hr5
  have HV1' := Lib.hid hv1; clear hv1
  have HV2 := Lib.hid hrow2; clear hrow2
  clear hq
  go_wp2_with fail
  go_at_call 14
  refine (HB1.out _ HR5.out).mono ?_
  rintro e w6 ⟨hq, rfl⟩
  have s6 := S5.out.trans (hq.mono S5.out.size)
  have hr6 := HR5.out.below hq (Nat.le_refl _)
  have hv1 := HV1'.out.below hq (Nat.le_refl _)
  have hv2 := HV2.out.below hq (Nat.le_refl _)
  clear x0 x1 x2 y0 y1
  have tk := G0.out.keep hq; have x0 := tk.cell (j := 0) rfl; have x1 := tk.cell (j := 1) rfl; have x2 := tk.cell (j := 2) rfl; have H0 := Lib.hid tk; clear tk
  have S6 := Lib.hid s6; clear s6
  have HR6 := Lib.hid hr6; clear hr6
  have HV3 := Lib.hid hv1; clear hv1
  have HV4 := Lib.hid hv2; clear hv2
  clear hq
  go_wp2_with fail
  go_at_call 15
  refine (HB2.out _ HR6.out).mono ?_
  rintro e w7 ⟨hq, rfl⟩
  have s7 := S6.out.trans (hq.mono S6.out.size)
  have hv1 := HV3.out.below hq (Nat.le_refl _)
  have hv2 := HV4.out.below hq (Nat.le_refl _)
  have heq := equalZ_yes l v1 v2 w7 hv1 hv2
  have S7 := Lib.hid s7; clear s7
  have HEQ := Lib.hid heq; clear heq
  clear hq x0 x1 x2 hv1 hv2
  have t2 : (er == er) = true := by simp
  have t3 : (P == P) = true := by simp
  have t4 : (err == err) = true := by simp
  go_wp2_with fail
  go_at_call 16
  refine HEQ.out.mono ?_
  rintro e w8 ⟨hq, rfl⟩
  have s8 := S7.out.trans (hq.mono S7.out.size)
  have S8 := Lib.hid s8; clear s8
  clear hq
  go_wp2_with (go_at_call 11; refine (HAW.out _).mono ?_; rintro e w9 ⟨hq9, rfl⟩; have HQ9 := Lib.hid hq9; clear hq9)
  go_ret
  exact ⟨S8.out.trans (HQ9.out.mono S8.out.size), rfl⟩
end Go.Proofs.Ytalipfnbpnkgnaa

