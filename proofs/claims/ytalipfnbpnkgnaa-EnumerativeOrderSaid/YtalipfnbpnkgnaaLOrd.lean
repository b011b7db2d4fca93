/- The law EnumerativeOrder (printed by gen_lord.py). -/
import Derived.Test.YtalipfnbpnkgnaaLawOrd
namespace Go.Proofs.Ytalipfnbpnkgnaa
open Go.RowKit

theorem neq_self (x : Int) (w : World) : (binOp .neq 26 (.agg #[.bool (ineg x), .string (imag x)]) (.agg #[.bool (ineg x), .string (imag x)])).run Try.prog w = .ok (.bool false) w := by
  rw [run_neq_struct, eqIn_int]
  have e : (ineg x == ineg x && imag x == imag x) = true := by rw [beq_str]; simp
  rw [e]; rfl
set_option maxRecDepth 100000 in
set_option maxHeartbeats 3200000 in
theorem lord_bad (L S : Int) (es : List E3) (v : Value) (aa ab nn xx yy : Nat) (w : World) (hr : Row w v es.length (ce es)) (hok : okEs es) (hF : ¬ FineP L S es) :
    Calls Try.prog 7 #[.agg #[.int .i64 L, .int .i64 S, v], .int .u8 (aa : Int), .int .u8 (ab : Int), .int .u8 (nn : Int), .int .u16 (xx : Int), .int .u16 (yy : Int)] w (Ret w (.bool true)) := by
  obtain ⟨va, vc, rfl, hle⟩ := hr.slice
  obtain ⟨mz, hmz⟩ : ∃ mz, mz = es.length := ⟨_, rfl⟩
  have s0 := (Below.refl w.heap.size w).alloc (Nat.le_refl _) (.cells #[.int .i64 L, .int .i64 S, .slice va es.length vc] 24)
  have b0 := Blk.new w 24 [.int .i64 L, .int .i64 S, .slice va es.length vc]
  have hr0 := hr.below s0 (Nat.le_refl _)
  have hfi := fine_any L S es _ _ hr0 hok
  have haw := awake29_true
  rw [← hmz] at s0 b0 hr0 hfi
  have HMM := Lib.hid hmz; clear hmz
  have HFI := Lib.hid hfi; clear hfi
  have HAW := Lib.hid haw; clear haw
  have S0 := Lib.hid s0; clear s0
  have B0 := Lib.hid b0; clear b0
  clear hr hr0
  go_enter Try.func7, Try.ntmps7
  rw [← HMM.out]
  go_wp2_with fail
  go_at_call 17
  refine HFI.out.mono ?_
  rintro e w1 ⟨hq, b, rfl, hb⟩
  have s1 := S0.out.trans (hq.mono S0.out.size)
  have tk := B0.out.keep hq; have x0 := tk.cell (j := 0) rfl; have x1 := tk.cell (j := 1) rfl; have x2 := tk.cell (j := 2) rfl; have C0 := Lib.hid tk; clear tk
  have S1 := Lib.hid s1; clear s1
  clear hq
  cases b with
  | false =>
    go_wp2_with fail
    go_at_call 11
    refine (HAW.out _).mono ?_
    rintro e w2 ⟨hq, rfl⟩
    have HQ := Lib.hid hq; clear hq
    go_wp2_with fail
    go_ret
    exact ⟨S1.out.trans (HQ.out.mono S1.out.size), rfl⟩
  | true => exact absurd (hb rfl) hF
set_option maxRecDepth 100000 in
set_option maxHeartbeats 3200000 in
theorem lord_zero (l k s0 N c : Nat) (es : List E3) (v : Value) (aa ab nn xx yy : Nat) (w : World) (hr : Row w v es.length (ce es)) (hok : okEs es) (hE : eck (l : Int) (k : Int) es = 0) (hl4 : l ≤ 4) (hN : N = nn % 9) (hk0 : 0 < k) (hs : s0 = aa % k) (haa : aa ≤ 255) (hnn : nn ≤ 255) (hxx : xx ≤ 65535) (hyy : yy ≤ 65535) (hcw : cw es allP N (s0 : Int) = (c : Int)) (hc : c = 0) :
    Calls Try.prog 7 #[.agg #[.int .i64 (l : Int), .int .i64 (k : Int), v], .int .u8 (aa : Int), .int .u8 (ab : Int), .int .u8 (nn : Int), .int .u16 (xx : Int), .int .u16 (yy : Int)] w (Ret w (.bool true)) := by
  have hN8 : N ≤ 8 := by omega
  have hs0 : s0 < k := by rw [hs]; exact Nat.mod_lt _ hk0
  have hca := chk_all (eck_zero hE).1
  obtain ⟨va, vc, rfl, hle⟩ := hr.slice
  obtain ⟨mm, hmm⟩ : ∃ mm, mm = es.length := ⟨_, rfl⟩
  have s0' := (Below.refl w.heap.size w).alloc (Nat.le_refl _) (.cells #[.int .i64 (l : Int), .int .i64 (k : Int), .slice va es.length vc] 24)
  have b0 := Blk.new w 24 [.int .i64 (l : Int), .int .i64 (k : Int), .slice va es.length vc]
  have hr0 := hr.below s0' (Nat.le_refl _)
  have hfi := fine_any (l : Int) (k : Int) es _ _ hr0 hok
  have haw := awake29_true
  have hfr := fun v' w' (h : Row w' v' es.length (ce es)) => cfrom_ok (l : Int) k N es v' w' h hok (eck_zero hE).1 (by omega)
  have hkz : ¬ (k : Int) = 0 := by omega
  have hkn : ¬ k = 0 := by omega
  have hsI : (aa : Int) % (k : Int) = (s0 : Int) := by rw [← Int.natCast_emod, ← hs]
  have hNz : (nn : Int) % 9 = (N : Int) := by omega
  have hS64 : k ≤ 64 := by omega
  have hgr := rowK_get (es := es) (p := allP) (k := N) hs0
  rw [hcw] at hgr
  obtain ⟨R, hR⟩ : ∃ R, R = rowK es k allP N := ⟨_, rfl⟩
  rw [← hR] at hgr
  rw [← hR] at hfr
  have huo := fun v' w' (h : Row w' v' es.length (ce es)) => eunr_big (l : Int) k s0 N 0 es v' w' h hok hE hs0 (by omega) (small_nat (x := 0) (by omega)) (Int.le_refl _) (by omega)
  subst hc
  rw [← hmm] at s0' b0 hr0 hfi hfr huo
  have HMM := Lib.hid hmm; clear hmm
  have HFI := Lib.hid hfi; clear hfi
  have HAW := Lib.hid haw; clear haw
  have HFR := Lib.hid hfr; clear hfr
  have S0 := Lib.hid s0'; clear s0'
  have B0 := Lib.hid b0; clear b0
  have HR := Lib.hid hr0; clear hr0
  have HUO := Lib.hid huo; clear huo
  have HNZ := Lib.hid hNz; clear hNz
  have HSI := Lib.hid hsI; clear hsI
  have HGR := Lib.hid hgr; clear hgr
  clear hR hN hs hE hok hr hca hcw
  go_enter Try.func7, Try.ntmps7
  rw [← HMM.out]
  go_wp2_with fail
  go_at_call 17
  refine HFI.out.mono ?_
  rintro e w1 ⟨hq, b, rfl, hb⟩
  have s1 := S0.out.trans (hq.mono S0.out.size)
  have hr1 := HR.out.below hq (Nat.le_refl _)
  have tk := B0.out.keep hq; have x0 := tk.cell (j := 0) rfl; have x1 := tk.cell (j := 1) rfl; have x2 := tk.cell (j := 2) rfl; have C0 := Lib.hid tk; clear tk
  have S1 := Lib.hid s1; clear s1
  have HR1 := Lib.hid hr1; clear hr1
  clear hq
  clear hb
  cases b with
  | false =>
    go_wp2_with fail
    go_at_call 11
    refine (HAW.out _).mono ?_
    rintro e w2 ⟨hq, rfl⟩
    have HQ := Lib.hid hq; clear hq
    go_wp2_with fail
    go_ret
    exact ⟨S1.out.trans (HQ.out.mono S1.out.size), rfl⟩
  | true =>
    go_wp2_with fail
    rw [HNZ.out]
    rw [HSI.out]
    go_at_call 27
    refine (HFR.out _ _ HR1.out).mono ?_
    rintro e w2 ⟨hq, fb, rfl, hfb⟩
    have s2 := S1.out.trans (hq.mono S1.out.size)
    have hr2 := HR1.out.below hq (Nat.le_refl _)
    clear x0 x1 x2
    have tk := C0.out.keep hq; have x0 := tk.cell (j := 0) rfl; have x1 := tk.cell (j := 1) rfl; have x2 := tk.cell (j := 2) rfl; have D0 := Lib.hid tk; clear tk
    have S2 := Lib.hid s2; clear s2
    have HR2 := Lib.hid hr2; clear hr2
    clear hq
    have u0 := hfb.cell (civ_get HGR.out).1
    have u1 := hfb.cell (civ_get HGR.out).2
    have hfl := hfb.lt
    have HFB := Lib.hid hfb; clear hfb
    replace u0 : w2.cell? ⟨fb, s0 * 2, none⟩ = some (.bool false) := u0
    replace u1 : w2.cell? ⟨fb, s0 * 2 + 1, none⟩ = some (.string ⟨#[]⟩) := by rw [u1]; exact congrArg (fun x => some (Value.string x)) imag_zero
    go_wp2_with fail
    go_at_call 28
    have huo2 := HUO.out _ _ HR2.out
    rw [show imag 0 = (⟨#[]⟩ : ByteArray) from imag_zero] at huo2
    refine huo2.mono ?_
    rintro e w3 ⟨hq, rfl⟩
    have s3 := S2.out.trans (hq.mono S2.out.size)
    have S3 := Lib.hid s3; clear s3
    clear hq huo2
    go_wp2_with fail
    go_at_call 11
    refine (HAW.out _).mono ?_
    rintro e w4 ⟨hq, rfl⟩
    have HQ := Lib.hid hq; clear hq
    go_wp2_with fail
    go_ret
    exact ⟨S3.out.trans (HQ.out.mono S3.out.size), rfl⟩
set_option maxRecDepth 100000 in
set_option maxHeartbeats 16000000 in
theorem lord_pos (l k s0 N c : Nat) (es : List E3) (v : Value) (aa ab nn xx yy : Nat) (w : World) (hr : Row w v es.length (ce es)) (hok : okEs es) (hE : eck (l : Int) (k : Int) es = 0) (hl4 : l ≤ 4) (hN : N = nn % 9) (hk0 : 0 < k) (hs : s0 = aa % k) (haa : aa ≤ 255) (hnn : nn ≤ 255) (hxx : xx ≤ 65535) (hyy : yy ≤ 65535) (hcw : cw es allP N (s0 : Int) = (c : Int)) (hc : 0 < c) :
    Calls Try.prog 7 #[.agg #[.int .i64 (l : Int), .int .i64 (k : Int), v], .int .u8 (aa : Int), .int .u8 (ab : Int), .int .u8 (nn : Int), .int .u16 (xx : Int), .int .u16 (yy : Int)] w (Ret w (.bool true)) := by
  have hN8 : N ≤ 8 := by omega
  have hs0 : s0 < k := by rw [hs]; exact Nat.mod_lt _ hk0
  have hca := chk_all (eck_zero hE).1
  obtain ⟨va, vc, rfl, hle⟩ := hr.slice
  obtain ⟨mm, hmm⟩ : ∃ mm, mm = es.length := ⟨_, rfl⟩
  have s0' := (Below.refl w.heap.size w).alloc (Nat.le_refl _) (.cells #[.int .i64 (l : Int), .int .i64 (k : Int), .slice va es.length vc] 24)
  have b0 := Blk.new w 24 [.int .i64 (l : Int), .int .i64 (k : Int), .slice va es.length vc]
  have hr0 := hr.below s0' (Nat.le_refl _)
  have hfi := fine_any (l : Int) (k : Int) es _ _ hr0 hok
  have haw := awake29_true
  have hfr := fun v' w' (h : Row w' v' es.length (ce es)) => cfrom_ok (l : Int) k N es v' w' h hok (eck_zero hE).1 (by omega)
  have hkz : ¬ (k : Int) = 0 := by omega
  have hkn : ¬ k = 0 := by omega
  have hsI : (aa : Int) % (k : Int) = (s0 : Int) := by rw [← Int.natCast_emod, ← hs]
  have hNz : (nn : Int) % 9 = (N : Int) := by omega
  have hS64 : k ≤ 64 := by omega
  have hgr := rowK_get (es := es) (p := allP) (k := N) hs0
  rw [hcw] at hgr
  obtain ⟨R, hR⟩ : ∃ R, R = rowK es k allP N := ⟨_, rfl⟩
  rw [← hR] at hgr
  rw [← hR] at hfr
  have hcb : c ≤ 65536 := by
    have h1 := cw_leL hE allP N (s0 : Int)
    rw [hcw, Int.toNat_natCast] at h1
    have h2 : l ^ N ≤ 4 ^ N := Nat.pow_le_pow_left hl4 N
    have h3 : 4 ^ N ≤ 4 ^ 8 := Nat.pow_le_pow_right (by decide) hN8
    have h4 : (4 : Nat) ^ 8 = 65536 := by decide
    have h5 : c ≤ l ^ N := Int.ofNat_le.1 h1
    omega
  have hox := fun w' => iof_any (xx : Int) w' (by omega) (by omega)
  have hoy := fun w' => iof_any (yy : Int) w' (by omega) (by omega)
  have hdx := fun w' => div_one xx c w' (by omega) hc (by omega)
  have hdy := fun w' => div_one yy c w' (by omega) hc (by omega)
  obtain ⟨p, hp⟩ : ∃ p, p = xx % c := ⟨_, rfl⟩
  obtain ⟨q, hq⟩ : ∃ q, q = yy % c := ⟨_, rfl⟩
  obtain ⟨px, hpx⟩ : ∃ px, px = xx / c := ⟨_, rfl⟩
  obtain ⟨qy, hqy⟩ : ∃ qy, qy = yy / c := ⟨_, rfl⟩
  rw [← hp, ← hpx] at hdx
  rw [← hq, ← hqy] at hdy
  have hpc : p < c := by rw [hp]; exact Nat.mod_lt _ hc
  have hqc : q < c := by rw [hq]; exact Nat.mod_lt _ hc
  have hup := fun v' w' (h : Row w' v' es.length (ce es)) => eunr_ok (l : Int) k s0 N (p : Int) es v' w' h hok hE hs0 (by omega) (by omega) (by omega)
  have huq := fun v' w' (h : Row w' v' es.length (ce es)) => eunr_ok (l : Int) k s0 N (q : Int) es v' w' h hok hE hs0 (by omega) (by omega) (by omega)
  have hub := fun v' w' (h : Row w' v' es.length (ce es)) => eunr_big (l : Int) k s0 N (c : Int) es v' w' h hok hE hs0 (by omega) (small_nat (x := c) (by omega)) (by omega) (by omega)
  have hls := ur_lss hE (p := allP) (n := N) (s := (s0 : Int)) (a := (p : Int)) (b := (q : Int)) (by omega) (by omega) (by omega) (by omega)
  have hrp := (rk_ur hE allP N (s0 : Int) (p : Int) 0 (by omega) (by omega)).1
  have hckp := ur_ckw hE allP N (by omega) (s0 : Int) (p : Int) (by omega) (by omega)
  have hlp := ur_length (es := es) (p := allP) N (s0 : Int) (p : Int) (by omega) (by omega)
  have hlq := ur_length (es := es) (p := allP) N (s0 : Int) (q : Int) (by omega) (by omega)
  have hrk := fun v' w' (h : Row w' v' es.length (ce es)) => erank_some (l : Int) k s0 es v' ⟨(ur es allP N (s0 : Int) (p : Int)).1.toArray⟩ w' h hok hE hs0 (by simpa using hckp) (by show (ur es allP N (s0 : Int) (p : Int)).1.toArray.size ≤ 4096; rw [List.size_toArray, hlp]; omega) (p : Int) _ (by simpa using hrp)
  obtain ⟨us, hus⟩ : ∃ us : ByteArray, us = ⟨(ur es allP N (s0 : Int) (p : Int)).1.toArray⟩ := ⟨_, rfl⟩
  obtain ⟨vs, hvs⟩ : ∃ vs : ByteArray, vs = ⟨(ur es allP N (s0 : Int) (q : Int)).1.toArray⟩ := ⟨_, rfl⟩
  have hul : us.toList = (ur es allP N (s0 : Int) (p : Int)).1 := by rw [Lib.toList_data, hus]
  have hvl : vs.toList = (ur es allP N (s0 : Int) (q : Int)).1 := by rw [Lib.toList_data, hvs]
  have husz : us.size = N := by rw [hus]; show (ur es allP N (s0 : Int) (p : Int)).1.toArray.size = N; rw [List.size_toArray, hlp]
  have hvsz : vs.size = N := by rw [hvs]; show (ur es allP N (s0 : Int) (q : Int)).1.toArray.size = N; rw [List.size_toArray, hlq]
  rw [← hul, ← hvl] at hls
  rw [← hus] at hup hrk
  rw [← hvs] at huq
  have hcm := fun w' => icompare_any (ineg (p : Int)) (ineg (q : Int)) (imag (p : Int)) (imag (q : Int)) w' (by have := small_nat (x := p) (by omega); unfold small at this; omega) (by have := small_nat (x := q) (by omega); unfold small at this; omega)
  simp only [ival_canon] at hcm
  have hcl : ¬ (imag (c : Int)).toList = [] := fun e => by
    rw [Lib.toList_data] at e
    have := imag_empty.1 e
    omega
  have hcn : ineg (c : Int) = false := by simp [ineg]
  have hwx : IntKind.i64.wrap (xx : Int) = (xx : Int) := IntWalk.i64_in _ (by omega)
  have hwy : IntKind.i64.wrap (yy : Int) = (yy : Int) := IntWalk.i64_in _ (by omega)
  clear hp hq hpx hqy hus hvs hckp hlp hlq hul hvl hrp
  rw [← hmm] at s0' b0 hr0 hfi hfr hup huq hub hrk
  have HMM := Lib.hid hmm; clear hmm
  have HFI := Lib.hid hfi; clear hfi
  have HAW := Lib.hid haw; clear haw
  have HFR := Lib.hid hfr; clear hfr
  have S0 := Lib.hid s0'; clear s0'
  have B0 := Lib.hid b0; clear b0
  have HR := Lib.hid hr0; clear hr0
  have HOX := Lib.hid hox; clear hox
  have HOY := Lib.hid hoy; clear hoy
  have HDX := Lib.hid hdx; clear hdx
  have HDY := Lib.hid hdy; clear hdy
  have HUP := Lib.hid hup; clear hup
  have HUQ := Lib.hid huq; clear huq
  have HUB := Lib.hid hub; clear hub
  have HRK := Lib.hid hrk; clear hrk
  have HCM := Lib.hid hcm; clear hcm
  have HLS := Lib.hid hls; clear hls
  have HNZ := Lib.hid hNz; clear hNz
  have HSI := Lib.hid hsI; clear hsI
  have HGR := Lib.hid hgr; clear hgr
  clear hR hN hs hE hok hr hca hcw
  go_enter Try.func7, Try.ntmps7
  rw [← HMM.out]
  go_wp2_with fail
  go_at_call 17
  refine HFI.out.mono ?_
  rintro e w1 ⟨hq, b, rfl, hb⟩
  have s1 := S0.out.trans (hq.mono S0.out.size)
  have hr1 := HR.out.below hq (Nat.le_refl _)
  have tk := B0.out.keep hq; have x0 := tk.cell (j := 0) rfl; have x1 := tk.cell (j := 1) rfl; have x2 := tk.cell (j := 2) rfl; have C0 := Lib.hid tk; clear tk
  have S1 := Lib.hid s1; clear s1
  have HR1 := Lib.hid hr1; clear hr1
  clear hq
  clear hb
  cases b with
  | false =>
    go_wp2_with fail
    go_at_call 11
    refine (HAW.out _).mono ?_
    rintro e w2 ⟨hq, rfl⟩
    have HQ := Lib.hid hq; clear hq
    go_wp2_with fail
    go_ret
    exact ⟨S1.out.trans (HQ.out.mono S1.out.size), rfl⟩
  | true =>
    go_wp2_with fail
    rw [HNZ.out]
    rw [HSI.out]
    go_at_call 27
    refine (HFR.out _ _ HR1.out).mono ?_
    rintro e w2 ⟨hq, fb, rfl, hfb⟩
    have s2 := S1.out.trans (hq.mono S1.out.size)
    have hr2 := HR1.out.below hq (Nat.le_refl _)
    clear x0 x1 x2
    have tk := C0.out.keep hq; have x0 := tk.cell (j := 0) rfl; have x1 := tk.cell (j := 1) rfl; have x2 := tk.cell (j := 2) rfl; have D0 := Lib.hid tk; clear tk
    have S2 := Lib.hid s2; clear s2
    have HR2 := Lib.hid hr2; clear hr2
    clear hq
    have u0 := hfb.cell (civ_get HGR.out).1
    have u1 := hfb.cell (civ_get HGR.out).2
    have hfl := hfb.lt
    have HFB := Lib.hid hfb; clear hfb
    go_upto_region 10 with fail
    go_cut [16, 19, 20] (fun sa sb sc wx => ∃ i j, sa = .int .i64 0 ∧ sb = .pointer (some ⟨i, 0, none⟩) ∧ sc = .pointer (some ⟨j, 0, none⟩) ∧ Below w2.heap.size w2 wx ∧ Blk wx i 26 [.bool (ineg (px : Int)), .string (imag (px : Int))] ∧ Blk wx j 26 [.bool (ineg (p : Int)), .string (imag (p : Int))])
    case first =>
      as_aux_lemma =>
        refine wp_region_held_drew (S := fun w' => w'.cell? ⟨fb, s0 * 2, none⟩ = some (.bool (ineg (c : Int))) ∧ w'.cell? ⟨fb, s0 * 2 + 1, none⟩ = some (.string (imag (c : Int)))) (by kernel_rfl) ?_ (fun hHeld => ?_)
        · go_keep
        refine wpAnyH_take (i := 0) (v := ?_) rfl (by kernel_rfl) (by kernel_rfl) (by kernel_rfl) (fun _ _ _ h => h) (Or.inl ⟨by rfl, ?_⟩) (by assumption) ?_
        rotate_left
        · (intro wS hSw; (try dsimp only at hSw); go_simp; (try with_reducible rfl))
        (try simp only [Act.put, List.setIfInBounds_toArray, List.set_cons_zero, List.set_cons_succ])
        refine wpAnyH_take (i := 1) (v := ?_) rfl (by kernel_rfl) (by kernel_rfl) (by kernel_rfl) (fun _ _ _ h => h) (Or.inl ⟨by rfl, ?_⟩) (by assumption) ?_
        rotate_left
        · (intro wS hSw; (try dsimp only at hSw); go_simp; (try with_reducible rfl))
        (try simp only [Act.put, List.setIfInBounds_toArray, List.set_cons_zero, List.set_cons_succ])
        refine wpAnyH_take (i := 3) (v := ?_) rfl (by kernel_rfl) (by kernel_rfl) (by kernel_rfl) (fun _ _ _ h => h) (Or.inl ⟨by rfl, ?_⟩) (by assumption) ?_
        rotate_left
        · (intro wS hSw; (try dsimp only at hSw); go_simp; (try with_reducible rfl))
        (try simp only [Act.put, List.setIfInBounds_toArray, List.set_cons_zero, List.set_cons_succ])
        refine wpAnyH_take (i := 4) (v := ?_) rfl (by kernel_rfl) (by kernel_rfl) (by kernel_rfl) (fun _ _ _ h => h) (Or.inl ⟨by rfl, ?_⟩) (by assumption) ?_
        rotate_left
        · (intro wS hSw; (try dsimp only at hSw); go_simp; (try with_reducible rfl))
        (try simp only [Act.put, List.setIfInBounds_toArray, List.set_cons_zero, List.set_cons_succ])
        refine wpAnyH_take (i := 5) (v := ?_) rfl (by kernel_rfl) (by kernel_rfl) (by kernel_rfl) (fun _ _ _ h => h) (Or.inl ⟨by rfl, ?_⟩) (by assumption) ?_
        rotate_left
        · (intro wS hSw; (try dsimp only at hSw); go_simp; (try with_reducible rfl))
        (try simp only [Act.put, List.setIfInBounds_toArray, List.set_cons_zero, List.set_cons_succ])
        refine wpAnyH_take (i := 6) (v := ?_) rfl (by kernel_rfl) (by kernel_rfl) (by kernel_rfl) (fun _ _ _ h => h) (Or.inl ⟨by rfl, ?_⟩) (by assumption) ?_
        rotate_left
        · (intro wS hSw; (try dsimp only at hSw); go_simp; (try with_reducible rfl))
        (try simp only [Act.put, List.setIfInBounds_toArray, List.set_cons_zero, List.set_cons_succ])
        refine wpAnyH_ready (rs := [2, 12, 13]) (by kernel_rfl) (by simp) ?_
        refine AllReadyH.cons rfl (fun K hK => ?_) (AllReadyH.cons rfl (fun K hK => ?_) (AllReadyH.cons rfl (fun K hK => ?_) AllReadyH.nil))
        · go_simp
          go_at_call 18
          refine (HOX.out _).mono ?_
          rintro e w2r35 ⟨hq, rfl⟩
          dsimp only
          have z0 := (hq.cell (p := ⟨fb, s0 * 2, none⟩) (show fb < w2.heap.size by omega)).trans hHeld.1
          have z1 := (hq.cell (p := ⟨fb, s0 * 2 + 1, none⟩) (show fb < w2.heap.size by omega)).trans hHeld.2
          refine hK.out _ _ ⟨z0, z1⟩ (fun hHeld => ?_)
          clear hK K
          (try simp only [Act.put, List.setIfInBounds_toArray, List.set_cons_zero, List.set_cons_succ])
          have s5 := ((Below.refl w2.heap.size w2).drew).trans (hq.mono ((Below.refl w2.heap.size w2).drew).size)
          have l5 : w2.heap.size ≤ w2r35.heap.size := s5.size
          have Sw2r35 := Lib.hid s5; clear s5
          clear hq z0 z1
          refine wpAnyH_ready (rs := [7, 12, 13]) (by kernel_rfl) (by simp) ?_
          refine AllReadyH.cons rfl (fun K hK => ?_) (AllReadyH.cons rfl (fun K hK => ?_) (AllReadyH.cons rfl (fun K hK => ?_) AllReadyH.nil))
          · go_simp
            go_at_call 29
            refine (HDX.out _).mono ?_
            rintro e w2r36 ⟨hq, rfl⟩
            dsimp only
            have z0 := (hq.cell (p := ⟨fb, s0 * 2, none⟩) (show fb < w2r35.heap.size by omega)).trans hHeld.1
            have z1 := (hq.cell (p := ⟨fb, s0 * 2 + 1, none⟩) (show fb < w2r35.heap.size by omega)).trans hHeld.2
            refine hK.out _ _ ⟨z0, z1⟩ (fun hHeld => ?_)
            clear hK K
            (try simp only [Act.put, List.setIfInBounds_toArray, List.set_cons_zero, List.set_cons_succ])
            have s5 := (Sw2r35.out).trans (hq.mono (Sw2r35.out).size)
            have l5 : w2.heap.size ≤ w2r36.heap.size := s5.size
            have Sw2r36 := Lib.hid s5; clear s5
            clear hq z0 z1
            refine wpAnyH_take (i := 8) (v := ?_) rfl (by kernel_rfl) (by kernel_rfl) (by kernel_rfl) (fun _ _ _ h => h) (Or.inl ⟨by rfl, ?_⟩) (by assumption) ?_
            rotate_left
            · (intro wS hSw; (try dsimp only at hSw); go_simp; (try with_reducible rfl))
            (try simp only [Act.put, List.setIfInBounds_toArray, List.set_cons_zero, List.set_cons_succ])
            refine wpAnyH_take (i := 9) (v := ?_) rfl (by kernel_rfl) (by kernel_rfl) (by kernel_rfl) (fun _ _ _ h => h) (Or.inl ⟨by rfl, ?_⟩) (by assumption) ?_
            rotate_left
            · (intro wS hSw; (try dsimp only at hSw); go_simp; (try with_reducible rfl))
            (try simp only [Act.put, List.setIfInBounds_toArray, List.set_cons_zero, List.set_cons_succ])
            refine wpAnyH_take (i := 10) (v := ?_) rfl (by kernel_rfl) (by kernel_rfl) (by kernel_rfl) (fun _ _ _ h => h) (Or.inl ⟨by rfl, ?_⟩) (by assumption) ?_
            rotate_left
            · (intro wS hSw; (try dsimp only at hSw); go_simp; (try with_reducible rfl))
            (try simp only [Act.put, List.setIfInBounds_toArray, List.set_cons_zero, List.set_cons_succ])
            refine wpAnyH_take (i := 11) (v := ?_) rfl (by kernel_rfl) (by kernel_rfl) (by kernel_rfl) (fun _ _ _ h => h) (Or.inl ⟨by rfl, ?_⟩) (by assumption) ?_
            rotate_left
            · (intro wS hSw; (try dsimp only at hSw); go_simp; (try with_reducible rfl))
            (try simp only [Act.put, List.setIfInBounds_toArray, List.set_cons_zero, List.set_cons_succ])
            refine wpAnyH_ready (rs := [12, 13]) (by kernel_rfl) (by simp) ?_
            refine AllReadyH.cons rfl (fun K hK => ?_) (AllReadyH.cons rfl (fun K hK => ?_) AllReadyH.nil)
            · go_simp
              refine hK.out _ _ ?_ (fun hHeld => ?_)
              · ((try dsimp only); go_keep)
              clear hK K
              (try simp only [Act.put, List.setIfInBounds_toArray, List.set_cons_zero, List.set_cons_succ])
              have hbq : Below (w2r36).heap.size (w2r36) ((w2r36).alloc (.cells #[.bool false, .string ⟨#[]⟩] 26)) := (Below.refl _ _).alloc (Nat.le_refl _) _
              have a5 := Blk.new (w2r36) 26 [.bool false, .string ⟨#[]⟩]
              have g5 : (w2r36).heap.size = w2r36.heap.size := rfl
              rw [g5] at a5
              have s5 := (Sw2r36.out).trans (hbq.mono (Sw2r36.out).size)
              obtain ⟨bAw2r37, hba⟩ : ∃ ba, ba = w2r36.heap.size := ⟨_, rfl⟩
              have hanew2r37 : w2.heap.size ≤ bAw2r37 := by have := (Sw2r36.out).size; omega
              rw [← hba] at a5
              have e5 : (w2r36).alloc (.cells #[.bool false, .string ⟨#[]⟩] 26) = (w2r36).alloc (.cells #[.bool false, .string ⟨#[]⟩] 26) := rfl
              rw [e5] at a5 s5 hbq
              obtain ⟨w2r37, hv5⟩ : ∃ w2r37, (w2r36).alloc (.cells #[.bool false, .string ⟨#[]⟩] 26) = w2r37 := ⟨_, rfl⟩
              rw [hv5] at hHeld a5 s5 hbq
              have l5 : w2.heap.size ≤ w2r37.heap.size := s5.size
              have AAw2r37 := Lib.hid a5; clear a5
              have Sw2r37 := Lib.hid s5; clear s5
              have hpa : (Value.pointer (some ⟨w2r36.heap.size, 0, none⟩)) = Value.pointer (some ⟨bAw2r37, 0, none⟩) := by rw [hba]
              (try simp only [World.size_drew])
              rw [hv5]
              (try rw [hpa])
              clear hbq hv5 hba hpa g5 e5
              refine wpAnyH_ready (rs := [13]) (by kernel_rfl) (by simp) ?_
              refine AllReadyH.cons rfl (fun K hK => ?_) AllReadyH.nil
              go_simp
              refine hK.out _ _ ?_ (fun hHeld => ?_)
              · ((try dsimp only); go_keep)
              clear hK K
              (try simp only [Act.put, List.setIfInBounds_toArray, List.set_cons_zero, List.set_cons_succ])
              have hbq : Below (w2r37).heap.size (w2r37) ((w2r37).alloc (.cells #[.bool false, .string ⟨#[]⟩] 26)) := (Below.refl _ _).alloc (Nat.le_refl _) _
              have a5 := Blk.new (w2r37) 26 [.bool false, .string ⟨#[]⟩]
              have g5 : (w2r37).heap.size = w2r37.heap.size := rfl
              rw [g5] at a5
              have s5 := (Sw2r37.out).trans (hbq.mono (Sw2r37.out).size)
              obtain ⟨bBw2r38, hba⟩ : ∃ ba, ba = w2r37.heap.size := ⟨_, rfl⟩
              have hanew2r38 : w2.heap.size ≤ bBw2r38 := by have := (Sw2r37.out).size; omega
              rw [← hba] at a5
              have e5 : (w2r37).alloc (.cells #[.bool false, .string ⟨#[]⟩] 26) = (w2r37).alloc (.cells #[.bool false, .string ⟨#[]⟩] 26) := rfl
              rw [e5] at a5 s5 hbq
              have a6A := (AAw2r37.out).keep hbq
              have hnnw2r38 : ¬ bAw2r37 = bBw2r38 := by have := (AAw2r37.out).lt; omega
              obtain ⟨w2r38, hv5⟩ : ∃ w2r38, (w2r37).alloc (.cells #[.bool false, .string ⟨#[]⟩] 26) = w2r38 := ⟨_, rfl⟩
              rw [hv5] at hHeld a5 s5 hbq a6A
              have l5 : w2.heap.size ≤ w2r38.heap.size := s5.size
              have ABw2r38 := Lib.hid a5; clear a5
              have AAw2r38 := Lib.hid a6A; clear a6A
              have Sw2r38 := Lib.hid s5; clear s5
              have hpa : (Value.pointer (some ⟨w2r37.heap.size, 0, none⟩)) = Value.pointer (some ⟨bBw2r38, 0, none⟩) := by rw [hba]
              (try simp only [World.size_drew])
              rw [hv5]
              (try rw [hpa])
              clear hbq hv5 hba hpa g5 e5
              have a0 := (AAw2r38.out).cell (j := 0) rfl
              have a1 := (AAw2r38.out).cell (j := 1) rfl
              have b0 := (ABw2r38.out).cell (j := 0) rfl
              have b1 := (ABw2r38.out).cell (j := 1) rfl
              have f0 := (AAw2r38.out).frozen 0
              have f1 := (AAw2r38.out).frozen 1
              have f2 := (ABw2r38.out).frozen 0
              have f3 := (ABw2r38.out).frozen 1
              have hne1 : ¬ bAw2r37 = fb := by omega
              have hne2 : ¬ bBw2r38 = fb := by omega
              have hne3 : ¬ bAw2r37 = bBw2r38 := by omega
              have hne4 : ¬ bBw2r38 = bAw2r37 := by omega
              refine wpAnyH_ready (rs := [14]) (by kernel_rfl) (by simp) ?_
              refine AllReadyH.cons rfl (fun K hK => ?_) AllReadyH.nil
              go_simp
              refine hK.out _ _ ?_ (fun hHeld => ?_)
              · ((try dsimp only); go_keep)
              clear hK K
              (try simp only [Act.put, List.setIfInBounds_toArray, List.set_cons_zero, List.set_cons_succ])
              refine wpAnyH_ready (rs := [15]) (by kernel_rfl) (by simp) ?_
              refine AllReadyH.cons rfl (fun K hK => ?_) AllReadyH.nil
              go_simp
              refine hK.out _ _ ?_ (fun hHeld => ?_)
              · ((try dsimp only); go_keep)
              clear hK K
              (try simp only [Act.put, List.setIfInBounds_toArray, List.set_cons_zero, List.set_cons_succ])
              refine wpAnyH_take (i := 16) (v := ?_) rfl (by kernel_rfl) (by kernel_rfl) (by kernel_rfl) (fun _ _ _ h => h) (Or.inl ⟨by rfl, ?_⟩) (by assumption) ?_
              rotate_left
              · (intro wS hSw; (try dsimp only at hSw); go_simp; (try with_reducible rfl))
              (try simp only [Act.put, List.setIfInBounds_toArray, List.set_cons_zero, List.set_cons_succ])
              refine wpAnyH_done (by kernel_rfl) ?_ _
              (try simp only [List.getElem_toArray, List.getElem_cons_zero, List.getElem_cons_succ, Act.put, List.setIfInBounds_toArray, List.set_cons_zero, List.set_cons_succ])
              have hA := (((AAw2r38.out).set 0 (.bool (ineg (px : Int)))).set 1 (.string (imag (px : Int)))).of_block ((Below.heap_setCell _ ⟨bBw2r38, 1, none⟩ (.string (imag (p : Int))) bAw2r37 hne3).trans (Below.heap_setCell _ ⟨bBw2r38, 0, none⟩ (.bool (ineg (p : Int))) bAw2r37 hne3))
              have hB := (((ABw2r38.out).of_block ((Below.heap_setCell _ ⟨bAw2r37, 1, none⟩ (.string (imag (px : Int))) bBw2r38 hne4).trans (Below.heap_setCell _ ⟨bAw2r37, 0, none⟩ (.bool (ineg (px : Int))) bBw2r38 hne4))).set 0 (.bool (ineg (p : Int)))).set 1 (.string (imag (p : Int)))
              have hS := ((((Sw2r38.out).setCell (p := ⟨bAw2r37, 0, none⟩) (show w2.heap.size ≤ bAw2r37 by omega) (.bool (ineg (px : Int)))).setCell (p := ⟨bAw2r37, 1, none⟩) (show w2.heap.size ≤ bAw2r37 by omega) (.string (imag (px : Int)))).setCell (p := ⟨bBw2r38, 0, none⟩) (show w2.heap.size ≤ bBw2r38 by omega) (.bool (ineg (p : Int)))).setCell (p := ⟨bBw2r38, 1, none⟩) (show w2.heap.size ≤ bBw2r38 by omega) (.string (imag (p : Int)))
              clear hHeld
              go_wp2_with fail
              go_meet
              exact ⟨_, _, rfl, rfl, rfl, hS, hA, hB⟩
            · go_simp
              refine hK.out _ _ ?_ (fun hHeld => ?_)
              · ((try dsimp only); go_keep)
              clear hK K
              (try simp only [Act.put, List.setIfInBounds_toArray, List.set_cons_zero, List.set_cons_succ])
              have hbq : Below (w2r36).heap.size (w2r36) ((w2r36).alloc (.cells #[.bool false, .string ⟨#[]⟩] 26)) := (Below.refl _ _).alloc (Nat.le_refl _) _
              have a5 := Blk.new (w2r36) 26 [.bool false, .string ⟨#[]⟩]
              have g5 : (w2r36).heap.size = w2r36.heap.size := rfl
              rw [g5] at a5
              have s5 := (Sw2r36.out).trans (hbq.mono (Sw2r36.out).size)
              obtain ⟨bBw2r39, hba⟩ : ∃ ba, ba = w2r36.heap.size := ⟨_, rfl⟩
              have hanew2r39 : w2.heap.size ≤ bBw2r39 := by have := (Sw2r36.out).size; omega
              rw [← hba] at a5
              have e5 : (w2r36).alloc (.cells #[.bool false, .string ⟨#[]⟩] 26) = (w2r36).alloc (.cells #[.bool false, .string ⟨#[]⟩] 26) := rfl
              rw [e5] at a5 s5 hbq
              obtain ⟨w2r39, hv5⟩ : ∃ w2r39, (w2r36).alloc (.cells #[.bool false, .string ⟨#[]⟩] 26) = w2r39 := ⟨_, rfl⟩
              rw [hv5] at hHeld a5 s5 hbq
              have l5 : w2.heap.size ≤ w2r39.heap.size := s5.size
              have ABw2r39 := Lib.hid a5; clear a5
              have Sw2r39 := Lib.hid s5; clear s5
              have hpa : (Value.pointer (some ⟨w2r36.heap.size, 0, none⟩)) = Value.pointer (some ⟨bBw2r39, 0, none⟩) := by rw [hba]
              (try simp only [World.size_drew])
              rw [hv5]
              (try rw [hpa])
              clear hbq hv5 hba hpa g5 e5
              refine wpAnyH_ready (rs := [12]) (by kernel_rfl) (by simp) ?_
              refine AllReadyH.cons rfl (fun K hK => ?_) AllReadyH.nil
              go_simp
              refine hK.out _ _ ?_ (fun hHeld => ?_)
              · ((try dsimp only); go_keep)
              clear hK K
              (try simp only [Act.put, List.setIfInBounds_toArray, List.set_cons_zero, List.set_cons_succ])
              have hbq : Below (w2r39).heap.size (w2r39) ((w2r39).alloc (.cells #[.bool false, .string ⟨#[]⟩] 26)) := (Below.refl _ _).alloc (Nat.le_refl _) _
              have a5 := Blk.new (w2r39) 26 [.bool false, .string ⟨#[]⟩]
              have g5 : (w2r39).heap.size = w2r39.heap.size := rfl
              rw [g5] at a5
              have s5 := (Sw2r39.out).trans (hbq.mono (Sw2r39.out).size)
              obtain ⟨bAw2r40, hba⟩ : ∃ ba, ba = w2r39.heap.size := ⟨_, rfl⟩
              have hanew2r40 : w2.heap.size ≤ bAw2r40 := by have := (Sw2r39.out).size; omega
              rw [← hba] at a5
              have e5 : (w2r39).alloc (.cells #[.bool false, .string ⟨#[]⟩] 26) = (w2r39).alloc (.cells #[.bool false, .string ⟨#[]⟩] 26) := rfl
              rw [e5] at a5 s5 hbq
              have a6B := (ABw2r39.out).keep hbq
              have hnnw2r40 : ¬ bBw2r39 = bAw2r40 := by have := (ABw2r39.out).lt; omega
              obtain ⟨w2r40, hv5⟩ : ∃ w2r40, (w2r39).alloc (.cells #[.bool false, .string ⟨#[]⟩] 26) = w2r40 := ⟨_, rfl⟩
              rw [hv5] at hHeld a5 s5 hbq a6B
              have l5 : w2.heap.size ≤ w2r40.heap.size := s5.size
              have AAw2r40 := Lib.hid a5; clear a5
              have ABw2r40 := Lib.hid a6B; clear a6B
              have Sw2r40 := Lib.hid s5; clear s5
              have hpa : (Value.pointer (some ⟨w2r39.heap.size, 0, none⟩)) = Value.pointer (some ⟨bAw2r40, 0, none⟩) := by rw [hba]
              (try simp only [World.size_drew])
              rw [hv5]
              (try rw [hpa])
              clear hbq hv5 hba hpa g5 e5
              have a0 := (AAw2r40.out).cell (j := 0) rfl
              have a1 := (AAw2r40.out).cell (j := 1) rfl
              have b0 := (ABw2r40.out).cell (j := 0) rfl
              have b1 := (ABw2r40.out).cell (j := 1) rfl
              have f0 := (AAw2r40.out).frozen 0
              have f1 := (AAw2r40.out).frozen 1
              have f2 := (ABw2r40.out).frozen 0
              have f3 := (ABw2r40.out).frozen 1
              have hne1 : ¬ bAw2r40 = fb := by omega
              have hne2 : ¬ bBw2r39 = fb := by omega
              have hne3 : ¬ bAw2r40 = bBw2r39 := by omega
              have hne4 : ¬ bBw2r39 = bAw2r40 := by omega
              refine wpAnyH_ready (rs := [14]) (by kernel_rfl) (by simp) ?_
              refine AllReadyH.cons rfl (fun K hK => ?_) AllReadyH.nil
              go_simp
              refine hK.out _ _ ?_ (fun hHeld => ?_)
              · ((try dsimp only); go_keep)
              clear hK K
              (try simp only [Act.put, List.setIfInBounds_toArray, List.set_cons_zero, List.set_cons_succ])
              refine wpAnyH_ready (rs := [15]) (by kernel_rfl) (by simp) ?_
              refine AllReadyH.cons rfl (fun K hK => ?_) AllReadyH.nil
              go_simp
              refine hK.out _ _ ?_ (fun hHeld => ?_)
              · ((try dsimp only); go_keep)
              clear hK K
              (try simp only [Act.put, List.setIfInBounds_toArray, List.set_cons_zero, List.set_cons_succ])
              refine wpAnyH_take (i := 16) (v := ?_) rfl (by kernel_rfl) (by kernel_rfl) (by kernel_rfl) (fun _ _ _ h => h) (Or.inl ⟨by rfl, ?_⟩) (by assumption) ?_
              rotate_left
              · (intro wS hSw; (try dsimp only at hSw); go_simp; (try with_reducible rfl))
              (try simp only [Act.put, List.setIfInBounds_toArray, List.set_cons_zero, List.set_cons_succ])
              refine wpAnyH_done (by kernel_rfl) ?_ _
              (try simp only [List.getElem_toArray, List.getElem_cons_zero, List.getElem_cons_succ, Act.put, List.setIfInBounds_toArray, List.set_cons_zero, List.set_cons_succ])
              have hA := (((AAw2r40.out).set 0 (.bool (ineg (px : Int)))).set 1 (.string (imag (px : Int)))).of_block ((Below.heap_setCell _ ⟨bBw2r39, 1, none⟩ (.string (imag (p : Int))) bAw2r40 hne3).trans (Below.heap_setCell _ ⟨bBw2r39, 0, none⟩ (.bool (ineg (p : Int))) bAw2r40 hne3))
              have hB := (((ABw2r40.out).of_block ((Below.heap_setCell _ ⟨bAw2r40, 1, none⟩ (.string (imag (px : Int))) bBw2r39 hne4).trans (Below.heap_setCell _ ⟨bAw2r40, 0, none⟩ (.bool (ineg (px : Int))) bBw2r39 hne4))).set 0 (.bool (ineg (p : Int)))).set 1 (.string (imag (p : Int)))
              have hS := ((((Sw2r40.out).setCell (p := ⟨bAw2r40, 0, none⟩) (show w2.heap.size ≤ bAw2r40 by omega) (.bool (ineg (px : Int)))).setCell (p := ⟨bAw2r40, 1, none⟩) (show w2.heap.size ≤ bAw2r40 by omega) (.string (imag (px : Int)))).setCell (p := ⟨bBw2r39, 0, none⟩) (show w2.heap.size ≤ bBw2r39 by omega) (.bool (ineg (p : Int)))).setCell (p := ⟨bBw2r39, 1, none⟩) (show w2.heap.size ≤ bBw2r39 by omega) (.string (imag (p : Int)))
              clear hHeld
              go_wp2_with fail
              go_meet
              exact ⟨_, _, rfl, rfl, rfl, hS, hA, hB⟩
          · go_simp
            refine hK.out _ _ ?_ (fun hHeld => ?_)
            · ((try dsimp only); go_keep)
            clear hK K
            (try simp only [Act.put, List.setIfInBounds_toArray, List.set_cons_zero, List.set_cons_succ])
            have hbq : Below (w2r35).heap.size (w2r35) ((w2r35).alloc (.cells #[.bool false, .string ⟨#[]⟩] 26)) := (Below.refl _ _).alloc (Nat.le_refl _) _
            have a5 := Blk.new (w2r35) 26 [.bool false, .string ⟨#[]⟩]
            have g5 : (w2r35).heap.size = w2r35.heap.size := rfl
            rw [g5] at a5
            have s5 := (Sw2r35.out).trans (hbq.mono (Sw2r35.out).size)
            obtain ⟨bAw2r41, hba⟩ : ∃ ba, ba = w2r35.heap.size := ⟨_, rfl⟩
            have hanew2r41 : w2.heap.size ≤ bAw2r41 := by have := (Sw2r35.out).size; omega
            rw [← hba] at a5
            have e5 : (w2r35).alloc (.cells #[.bool false, .string ⟨#[]⟩] 26) = (w2r35).alloc (.cells #[.bool false, .string ⟨#[]⟩] 26) := rfl
            rw [e5] at a5 s5 hbq
            obtain ⟨w2r41, hv5⟩ : ∃ w2r41, (w2r35).alloc (.cells #[.bool false, .string ⟨#[]⟩] 26) = w2r41 := ⟨_, rfl⟩
            rw [hv5] at hHeld a5 s5 hbq
            have l5 : w2.heap.size ≤ w2r41.heap.size := s5.size
            have AAw2r41 := Lib.hid a5; clear a5
            have Sw2r41 := Lib.hid s5; clear s5
            have hpa : (Value.pointer (some ⟨w2r35.heap.size, 0, none⟩)) = Value.pointer (some ⟨bAw2r41, 0, none⟩) := by rw [hba]
            (try simp only [World.size_drew])
            rw [hv5]
            (try rw [hpa])
            clear hbq hv5 hba hpa g5 e5
            refine wpAnyH_ready (rs := [7, 13]) (by kernel_rfl) (by simp) ?_
            refine AllReadyH.cons rfl (fun K hK => ?_) (AllReadyH.cons rfl (fun K hK => ?_) AllReadyH.nil)
            · go_simp
              go_at_call 29
              refine (HDX.out _).mono ?_
              rintro e w2r42 ⟨hq, rfl⟩
              dsimp only
              have z0 := (hq.cell (p := ⟨fb, s0 * 2, none⟩) (show fb < w2r41.heap.size by omega)).trans hHeld.1
              have z1 := (hq.cell (p := ⟨fb, s0 * 2 + 1, none⟩) (show fb < w2r41.heap.size by omega)).trans hHeld.2
              refine hK.out _ _ ⟨z0, z1⟩ (fun hHeld => ?_)
              clear hK K
              (try simp only [Act.put, List.setIfInBounds_toArray, List.set_cons_zero, List.set_cons_succ])
              have s5 := (Sw2r41.out).trans (hq.mono (Sw2r41.out).size)
              have l5 : w2.heap.size ≤ w2r42.heap.size := s5.size
              have a5 := (AAw2r41.out).keep hq
              have AAw2r42 := Lib.hid a5; clear a5
              have Sw2r42 := Lib.hid s5; clear s5
              clear hq z0 z1
              refine wpAnyH_take (i := 8) (v := ?_) rfl (by kernel_rfl) (by kernel_rfl) (by kernel_rfl) (fun _ _ _ h => h) (Or.inl ⟨by rfl, ?_⟩) (by assumption) ?_
              rotate_left
              · (intro wS hSw; (try dsimp only at hSw); go_simp; (try with_reducible rfl))
              (try simp only [Act.put, List.setIfInBounds_toArray, List.set_cons_zero, List.set_cons_succ])
              refine wpAnyH_take (i := 9) (v := ?_) rfl (by kernel_rfl) (by kernel_rfl) (by kernel_rfl) (fun _ _ _ h => h) (Or.inl ⟨by rfl, ?_⟩) (by assumption) ?_
              rotate_left
              · (intro wS hSw; (try dsimp only at hSw); go_simp; (try with_reducible rfl))
              (try simp only [Act.put, List.setIfInBounds_toArray, List.set_cons_zero, List.set_cons_succ])
              refine wpAnyH_take (i := 10) (v := ?_) rfl (by kernel_rfl) (by kernel_rfl) (by kernel_rfl) (fun _ _ _ h => h) (Or.inl ⟨by rfl, ?_⟩) (by assumption) ?_
              rotate_left
              · (intro wS hSw; (try dsimp only at hSw); go_simp; (try with_reducible rfl))
              (try simp only [Act.put, List.setIfInBounds_toArray, List.set_cons_zero, List.set_cons_succ])
              refine wpAnyH_take (i := 11) (v := ?_) rfl (by kernel_rfl) (by kernel_rfl) (by kernel_rfl) (fun _ _ _ h => h) (Or.inl ⟨by rfl, ?_⟩) (by assumption) ?_
              rotate_left
              · (intro wS hSw; (try dsimp only at hSw); go_simp; (try with_reducible rfl))
              (try simp only [Act.put, List.setIfInBounds_toArray, List.set_cons_zero, List.set_cons_succ])
              refine wpAnyH_ready (rs := [13]) (by kernel_rfl) (by simp) ?_
              refine AllReadyH.cons rfl (fun K hK => ?_) AllReadyH.nil
              go_simp
              refine hK.out _ _ ?_ (fun hHeld => ?_)
              · ((try dsimp only); go_keep)
              clear hK K
              (try simp only [Act.put, List.setIfInBounds_toArray, List.set_cons_zero, List.set_cons_succ])
              have hbq : Below (w2r42).heap.size (w2r42) ((w2r42).alloc (.cells #[.bool false, .string ⟨#[]⟩] 26)) := (Below.refl _ _).alloc (Nat.le_refl _) _
              have a5 := Blk.new (w2r42) 26 [.bool false, .string ⟨#[]⟩]
              have g5 : (w2r42).heap.size = w2r42.heap.size := rfl
              rw [g5] at a5
              have s5 := (Sw2r42.out).trans (hbq.mono (Sw2r42.out).size)
              obtain ⟨bBw2r43, hba⟩ : ∃ ba, ba = w2r42.heap.size := ⟨_, rfl⟩
              have hanew2r43 : w2.heap.size ≤ bBw2r43 := by have := (Sw2r42.out).size; omega
              rw [← hba] at a5
              have e5 : (w2r42).alloc (.cells #[.bool false, .string ⟨#[]⟩] 26) = (w2r42).alloc (.cells #[.bool false, .string ⟨#[]⟩] 26) := rfl
              rw [e5] at a5 s5 hbq
              have a6A := (AAw2r42.out).keep hbq
              have hnnw2r43 : ¬ bAw2r41 = bBw2r43 := by have := (AAw2r42.out).lt; omega
              obtain ⟨w2r43, hv5⟩ : ∃ w2r43, (w2r42).alloc (.cells #[.bool false, .string ⟨#[]⟩] 26) = w2r43 := ⟨_, rfl⟩
              rw [hv5] at hHeld a5 s5 hbq a6A
              have l5 : w2.heap.size ≤ w2r43.heap.size := s5.size
              have ABw2r43 := Lib.hid a5; clear a5
              have AAw2r43 := Lib.hid a6A; clear a6A
              have Sw2r43 := Lib.hid s5; clear s5
              have hpa : (Value.pointer (some ⟨w2r42.heap.size, 0, none⟩)) = Value.pointer (some ⟨bBw2r43, 0, none⟩) := by rw [hba]
              (try simp only [World.size_drew])
              rw [hv5]
              (try rw [hpa])
              clear hbq hv5 hba hpa g5 e5
              have a0 := (AAw2r43.out).cell (j := 0) rfl
              have a1 := (AAw2r43.out).cell (j := 1) rfl
              have b0 := (ABw2r43.out).cell (j := 0) rfl
              have b1 := (ABw2r43.out).cell (j := 1) rfl
              have f0 := (AAw2r43.out).frozen 0
              have f1 := (AAw2r43.out).frozen 1
              have f2 := (ABw2r43.out).frozen 0
              have f3 := (ABw2r43.out).frozen 1
              have hne1 : ¬ bAw2r41 = fb := by omega
              have hne2 : ¬ bBw2r43 = fb := by omega
              have hne3 : ¬ bAw2r41 = bBw2r43 := by omega
              have hne4 : ¬ bBw2r43 = bAw2r41 := by omega
              refine wpAnyH_ready (rs := [14]) (by kernel_rfl) (by simp) ?_
              refine AllReadyH.cons rfl (fun K hK => ?_) AllReadyH.nil
              go_simp
              refine hK.out _ _ ?_ (fun hHeld => ?_)
              · ((try dsimp only); go_keep)
              clear hK K
              (try simp only [Act.put, List.setIfInBounds_toArray, List.set_cons_zero, List.set_cons_succ])
              refine wpAnyH_ready (rs := [15]) (by kernel_rfl) (by simp) ?_
              refine AllReadyH.cons rfl (fun K hK => ?_) AllReadyH.nil
              go_simp
              refine hK.out _ _ ?_ (fun hHeld => ?_)
              · ((try dsimp only); go_keep)
              clear hK K
              (try simp only [Act.put, List.setIfInBounds_toArray, List.set_cons_zero, List.set_cons_succ])
              refine wpAnyH_take (i := 16) (v := ?_) rfl (by kernel_rfl) (by kernel_rfl) (by kernel_rfl) (fun _ _ _ h => h) (Or.inl ⟨by rfl, ?_⟩) (by assumption) ?_
              rotate_left
              · (intro wS hSw; (try dsimp only at hSw); go_simp; (try with_reducible rfl))
              (try simp only [Act.put, List.setIfInBounds_toArray, List.set_cons_zero, List.set_cons_succ])
              refine wpAnyH_done (by kernel_rfl) ?_ _
              (try simp only [List.getElem_toArray, List.getElem_cons_zero, List.getElem_cons_succ, Act.put, List.setIfInBounds_toArray, List.set_cons_zero, List.set_cons_succ])
              have hA := (((AAw2r43.out).set 0 (.bool (ineg (px : Int)))).set 1 (.string (imag (px : Int)))).of_block ((Below.heap_setCell _ ⟨bBw2r43, 1, none⟩ (.string (imag (p : Int))) bAw2r41 hne3).trans (Below.heap_setCell _ ⟨bBw2r43, 0, none⟩ (.bool (ineg (p : Int))) bAw2r41 hne3))
              have hB := (((ABw2r43.out).of_block ((Below.heap_setCell _ ⟨bAw2r41, 1, none⟩ (.string (imag (px : Int))) bBw2r43 hne4).trans (Below.heap_setCell _ ⟨bAw2r41, 0, none⟩ (.bool (ineg (px : Int))) bBw2r43 hne4))).set 0 (.bool (ineg (p : Int)))).set 1 (.string (imag (p : Int)))
              have hS := ((((Sw2r43.out).setCell (p := ⟨bAw2r41, 0, none⟩) (show w2.heap.size ≤ bAw2r41 by omega) (.bool (ineg (px : Int)))).setCell (p := ⟨bAw2r41, 1, none⟩) (show w2.heap.size ≤ bAw2r41 by omega) (.string (imag (px : Int)))).setCell (p := ⟨bBw2r43, 0, none⟩) (show w2.heap.size ≤ bBw2r43 by omega) (.bool (ineg (p : Int)))).setCell (p := ⟨bBw2r43, 1, none⟩) (show w2.heap.size ≤ bBw2r43 by omega) (.string (imag (p : Int)))
              clear hHeld
              go_wp2_with fail
              go_meet
              exact ⟨_, _, rfl, rfl, rfl, hS, hA, hB⟩
            · go_simp
              refine hK.out _ _ ?_ (fun hHeld => ?_)
              · ((try dsimp only); go_keep)
              clear hK K
              (try simp only [Act.put, List.setIfInBounds_toArray, List.set_cons_zero, List.set_cons_succ])
              have hbq : Below (w2r41).heap.size (w2r41) ((w2r41).alloc (.cells #[.bool false, .string ⟨#[]⟩] 26)) := (Below.refl _ _).alloc (Nat.le_refl _) _
              have a5 := Blk.new (w2r41) 26 [.bool false, .string ⟨#[]⟩]
              have g5 : (w2r41).heap.size = w2r41.heap.size := rfl
              rw [g5] at a5
              have s5 := (Sw2r41.out).trans (hbq.mono (Sw2r41.out).size)
              obtain ⟨bBw2r44, hba⟩ : ∃ ba, ba = w2r41.heap.size := ⟨_, rfl⟩
              have hanew2r44 : w2.heap.size ≤ bBw2r44 := by have := (Sw2r41.out).size; omega
              rw [← hba] at a5
              have e5 : (w2r41).alloc (.cells #[.bool false, .string ⟨#[]⟩] 26) = (w2r41).alloc (.cells #[.bool false, .string ⟨#[]⟩] 26) := rfl
              rw [e5] at a5 s5 hbq
              have a6A := (AAw2r41.out).keep hbq
              have hnnw2r44 : ¬ bAw2r41 = bBw2r44 := by have := (AAw2r41.out).lt; omega
              obtain ⟨w2r44, hv5⟩ : ∃ w2r44, (w2r41).alloc (.cells #[.bool false, .string ⟨#[]⟩] 26) = w2r44 := ⟨_, rfl⟩
              rw [hv5] at hHeld a5 s5 hbq a6A
              have l5 : w2.heap.size ≤ w2r44.heap.size := s5.size
              have ABw2r44 := Lib.hid a5; clear a5
              have AAw2r44 := Lib.hid a6A; clear a6A
              have Sw2r44 := Lib.hid s5; clear s5
              have hpa : (Value.pointer (some ⟨w2r41.heap.size, 0, none⟩)) = Value.pointer (some ⟨bBw2r44, 0, none⟩) := by rw [hba]
              (try simp only [World.size_drew])
              rw [hv5]
              (try rw [hpa])
              clear hbq hv5 hba hpa g5 e5
              refine wpAnyH_ready (rs := [7]) (by kernel_rfl) (by simp) ?_
              refine AllReadyH.cons rfl (fun K hK => ?_) AllReadyH.nil
              go_simp
              go_at_call 29
              refine (HDX.out _).mono ?_
              rintro e w2r45 ⟨hq, rfl⟩
              dsimp only
              have z0 := (hq.cell (p := ⟨fb, s0 * 2, none⟩) (show fb < w2r44.heap.size by omega)).trans hHeld.1
              have z1 := (hq.cell (p := ⟨fb, s0 * 2 + 1, none⟩) (show fb < w2r44.heap.size by omega)).trans hHeld.2
              refine hK.out _ _ ⟨z0, z1⟩ (fun hHeld => ?_)
              clear hK K
              (try simp only [Act.put, List.setIfInBounds_toArray, List.set_cons_zero, List.set_cons_succ])
              have s5 := (Sw2r44.out).trans (hq.mono (Sw2r44.out).size)
              have l5 : w2.heap.size ≤ w2r45.heap.size := s5.size
              have a5 := (AAw2r44.out).keep hq
              have AAw2r45 := Lib.hid a5; clear a5
              have a5 := (ABw2r44.out).keep hq
              have ABw2r45 := Lib.hid a5; clear a5
              have Sw2r45 := Lib.hid s5; clear s5
              clear hq z0 z1
              refine wpAnyH_take (i := 8) (v := ?_) rfl (by kernel_rfl) (by kernel_rfl) (by kernel_rfl) (fun _ _ _ h => h) (Or.inl ⟨by rfl, ?_⟩) (by assumption) ?_
              rotate_left
              · (intro wS hSw; (try dsimp only at hSw); go_simp; (try with_reducible rfl))
              (try simp only [Act.put, List.setIfInBounds_toArray, List.set_cons_zero, List.set_cons_succ])
              refine wpAnyH_take (i := 9) (v := ?_) rfl (by kernel_rfl) (by kernel_rfl) (by kernel_rfl) (fun _ _ _ h => h) (Or.inl ⟨by rfl, ?_⟩) (by assumption) ?_
              rotate_left
              · (intro wS hSw; (try dsimp only at hSw); go_simp; (try with_reducible rfl))
              (try simp only [Act.put, List.setIfInBounds_toArray, List.set_cons_zero, List.set_cons_succ])
              refine wpAnyH_take (i := 10) (v := ?_) rfl (by kernel_rfl) (by kernel_rfl) (by kernel_rfl) (fun _ _ _ h => h) (Or.inl ⟨by rfl, ?_⟩) (by assumption) ?_
              rotate_left
              · (intro wS hSw; (try dsimp only at hSw); go_simp; (try with_reducible rfl))
              (try simp only [Act.put, List.setIfInBounds_toArray, List.set_cons_zero, List.set_cons_succ])
              refine wpAnyH_take (i := 11) (v := ?_) rfl (by kernel_rfl) (by kernel_rfl) (by kernel_rfl) (fun _ _ _ h => h) (Or.inl ⟨by rfl, ?_⟩) (by assumption) ?_
              rotate_left
              · (intro wS hSw; (try dsimp only at hSw); go_simp; (try with_reducible rfl))
              (try simp only [Act.put, List.setIfInBounds_toArray, List.set_cons_zero, List.set_cons_succ])
              have a0 := (AAw2r45.out).cell (j := 0) rfl
              have a1 := (AAw2r45.out).cell (j := 1) rfl
              have b0 := (ABw2r45.out).cell (j := 0) rfl
              have b1 := (ABw2r45.out).cell (j := 1) rfl
              have f0 := (AAw2r45.out).frozen 0
              have f1 := (AAw2r45.out).frozen 1
              have f2 := (ABw2r45.out).frozen 0
              have f3 := (ABw2r45.out).frozen 1
              have hne1 : ¬ bAw2r41 = fb := by omega
              have hne2 : ¬ bBw2r44 = fb := by omega
              have hne3 : ¬ bAw2r41 = bBw2r44 := by omega
              have hne4 : ¬ bBw2r44 = bAw2r41 := by omega
              refine wpAnyH_ready (rs := [14]) (by kernel_rfl) (by simp) ?_
              refine AllReadyH.cons rfl (fun K hK => ?_) AllReadyH.nil
              go_simp
              refine hK.out _ _ ?_ (fun hHeld => ?_)
              · ((try dsimp only); go_keep)
              clear hK K
              (try simp only [Act.put, List.setIfInBounds_toArray, List.set_cons_zero, List.set_cons_succ])
              refine wpAnyH_ready (rs := [15]) (by kernel_rfl) (by simp) ?_
              refine AllReadyH.cons rfl (fun K hK => ?_) AllReadyH.nil
              go_simp
              refine hK.out _ _ ?_ (fun hHeld => ?_)
              · ((try dsimp only); go_keep)
              clear hK K
              (try simp only [Act.put, List.setIfInBounds_toArray, List.set_cons_zero, List.set_cons_succ])
              refine wpAnyH_take (i := 16) (v := ?_) rfl (by kernel_rfl) (by kernel_rfl) (by kernel_rfl) (fun _ _ _ h => h) (Or.inl ⟨by rfl, ?_⟩) (by assumption) ?_
              rotate_left
              · (intro wS hSw; (try dsimp only at hSw); go_simp; (try with_reducible rfl))
              (try simp only [Act.put, List.setIfInBounds_toArray, List.set_cons_zero, List.set_cons_succ])
              refine wpAnyH_done (by kernel_rfl) ?_ _
              (try simp only [List.getElem_toArray, List.getElem_cons_zero, List.getElem_cons_succ, Act.put, List.setIfInBounds_toArray, List.set_cons_zero, List.set_cons_succ])
              have hA := (((AAw2r45.out).set 0 (.bool (ineg (px : Int)))).set 1 (.string (imag (px : Int)))).of_block ((Below.heap_setCell _ ⟨bBw2r44, 1, none⟩ (.string (imag (p : Int))) bAw2r41 hne3).trans (Below.heap_setCell _ ⟨bBw2r44, 0, none⟩ (.bool (ineg (p : Int))) bAw2r41 hne3))
              have hB := (((ABw2r45.out).of_block ((Below.heap_setCell _ ⟨bAw2r41, 1, none⟩ (.string (imag (px : Int))) bBw2r44 hne4).trans (Below.heap_setCell _ ⟨bAw2r41, 0, none⟩ (.bool (ineg (px : Int))) bBw2r44 hne4))).set 0 (.bool (ineg (p : Int)))).set 1 (.string (imag (p : Int)))
              have hS := ((((Sw2r45.out).setCell (p := ⟨bAw2r41, 0, none⟩) (show w2.heap.size ≤ bAw2r41 by omega) (.bool (ineg (px : Int)))).setCell (p := ⟨bAw2r41, 1, none⟩) (show w2.heap.size ≤ bAw2r41 by omega) (.string (imag (px : Int)))).setCell (p := ⟨bBw2r44, 0, none⟩) (show w2.heap.size ≤ bBw2r44 by omega) (.bool (ineg (p : Int)))).setCell (p := ⟨bBw2r44, 1, none⟩) (show w2.heap.size ≤ bBw2r44 by omega) (.string (imag (p : Int)))
              clear hHeld
              go_wp2_with fail
              go_meet
              exact ⟨_, _, rfl, rfl, rfl, hS, hA, hB⟩
          · go_simp
            refine hK.out _ _ ?_ (fun hHeld => ?_)
            · ((try dsimp only); go_keep)
            clear hK K
            (try simp only [Act.put, List.setIfInBounds_toArray, List.set_cons_zero, List.set_cons_succ])
            have hbq : Below (w2r35).heap.size (w2r35) ((w2r35).alloc (.cells #[.bool false, .string ⟨#[]⟩] 26)) := (Below.refl _ _).alloc (Nat.le_refl _) _
            have a5 := Blk.new (w2r35) 26 [.bool false, .string ⟨#[]⟩]
            have g5 : (w2r35).heap.size = w2r35.heap.size := rfl
            rw [g5] at a5
            have s5 := (Sw2r35.out).trans (hbq.mono (Sw2r35.out).size)
            obtain ⟨bBw2r46, hba⟩ : ∃ ba, ba = w2r35.heap.size := ⟨_, rfl⟩
            have hanew2r46 : w2.heap.size ≤ bBw2r46 := by have := (Sw2r35.out).size; omega
            rw [← hba] at a5
            have e5 : (w2r35).alloc (.cells #[.bool false, .string ⟨#[]⟩] 26) = (w2r35).alloc (.cells #[.bool false, .string ⟨#[]⟩] 26) := rfl
            rw [e5] at a5 s5 hbq
            obtain ⟨w2r46, hv5⟩ : ∃ w2r46, (w2r35).alloc (.cells #[.bool false, .string ⟨#[]⟩] 26) = w2r46 := ⟨_, rfl⟩
            rw [hv5] at hHeld a5 s5 hbq
            have l5 : w2.heap.size ≤ w2r46.heap.size := s5.size
            have ABw2r46 := Lib.hid a5; clear a5
            have Sw2r46 := Lib.hid s5; clear s5
            have hpa : (Value.pointer (some ⟨w2r35.heap.size, 0, none⟩)) = Value.pointer (some ⟨bBw2r46, 0, none⟩) := by rw [hba]
            (try simp only [World.size_drew])
            rw [hv5]
            (try rw [hpa])
            clear hbq hv5 hba hpa g5 e5
            refine wpAnyH_ready (rs := [7, 12]) (by kernel_rfl) (by simp) ?_
            refine AllReadyH.cons rfl (fun K hK => ?_) (AllReadyH.cons rfl (fun K hK => ?_) AllReadyH.nil)
            · go_simp
              go_at_call 29
              refine (HDX.out _).mono ?_
              rintro e w2r47 ⟨hq, rfl⟩
              dsimp only
              have z0 := (hq.cell (p := ⟨fb, s0 * 2, none⟩) (show fb < w2r46.heap.size by omega)).trans hHeld.1
              have z1 := (hq.cell (p := ⟨fb, s0 * 2 + 1, none⟩) (show fb < w2r46.heap.size by omega)).trans hHeld.2
              refine hK.out _ _ ⟨z0, z1⟩ (fun hHeld => ?_)
              clear hK K
              (try simp only [Act.put, List.setIfInBounds_toArray, List.set_cons_zero, List.set_cons_succ])
              have s5 := (Sw2r46.out).trans (hq.mono (Sw2r46.out).size)
              have l5 : w2.heap.size ≤ w2r47.heap.size := s5.size
              have a5 := (ABw2r46.out).keep hq
              have ABw2r47 := Lib.hid a5; clear a5
              have Sw2r47 := Lib.hid s5; clear s5
              clear hq z0 z1
              refine wpAnyH_take (i := 8) (v := ?_) rfl (by kernel_rfl) (by kernel_rfl) (by kernel_rfl) (fun _ _ _ h => h) (Or.inl ⟨by rfl, ?_⟩) (by assumption) ?_
              rotate_left
              · (intro wS hSw; (try dsimp only at hSw); go_simp; (try with_reducible rfl))
              (try simp only [Act.put, List.setIfInBounds_toArray, List.set_cons_zero, List.set_cons_succ])
              refine wpAnyH_take (i := 9) (v := ?_) rfl (by kernel_rfl) (by kernel_rfl) (by kernel_rfl) (fun _ _ _ h => h) (Or.inl ⟨by rfl, ?_⟩) (by assumption) ?_
              rotate_left
              · (intro wS hSw; (try dsimp only at hSw); go_simp; (try with_reducible rfl))
              (try simp only [Act.put, List.setIfInBounds_toArray, List.set_cons_zero, List.set_cons_succ])
              refine wpAnyH_take (i := 10) (v := ?_) rfl (by kernel_rfl) (by kernel_rfl) (by kernel_rfl) (fun _ _ _ h => h) (Or.inl ⟨by rfl, ?_⟩) (by assumption) ?_
              rotate_left
              · (intro wS hSw; (try dsimp only at hSw); go_simp; (try with_reducible rfl))
              (try simp only [Act.put, List.setIfInBounds_toArray, List.set_cons_zero, List.set_cons_succ])
              refine wpAnyH_take (i := 11) (v := ?_) rfl (by kernel_rfl) (by kernel_rfl) (by kernel_rfl) (fun _ _ _ h => h) (Or.inl ⟨by rfl, ?_⟩) (by assumption) ?_
              rotate_left
              · (intro wS hSw; (try dsimp only at hSw); go_simp; (try with_reducible rfl))
              (try simp only [Act.put, List.setIfInBounds_toArray, List.set_cons_zero, List.set_cons_succ])
              refine wpAnyH_ready (rs := [12]) (by kernel_rfl) (by simp) ?_
              refine AllReadyH.cons rfl (fun K hK => ?_) AllReadyH.nil
              go_simp
              refine hK.out _ _ ?_ (fun hHeld => ?_)
              · ((try dsimp only); go_keep)
              clear hK K
              (try simp only [Act.put, List.setIfInBounds_toArray, List.set_cons_zero, List.set_cons_succ])
              have hbq : Below (w2r47).heap.size (w2r47) ((w2r47).alloc (.cells #[.bool false, .string ⟨#[]⟩] 26)) := (Below.refl _ _).alloc (Nat.le_refl _) _
              have a5 := Blk.new (w2r47) 26 [.bool false, .string ⟨#[]⟩]
              have g5 : (w2r47).heap.size = w2r47.heap.size := rfl
              rw [g5] at a5
              have s5 := (Sw2r47.out).trans (hbq.mono (Sw2r47.out).size)
              obtain ⟨bAw2r48, hba⟩ : ∃ ba, ba = w2r47.heap.size := ⟨_, rfl⟩
              have hanew2r48 : w2.heap.size ≤ bAw2r48 := by have := (Sw2r47.out).size; omega
              rw [← hba] at a5
              have e5 : (w2r47).alloc (.cells #[.bool false, .string ⟨#[]⟩] 26) = (w2r47).alloc (.cells #[.bool false, .string ⟨#[]⟩] 26) := rfl
              rw [e5] at a5 s5 hbq
              have a6B := (ABw2r47.out).keep hbq
              have hnnw2r48 : ¬ bBw2r46 = bAw2r48 := by have := (ABw2r47.out).lt; omega
              obtain ⟨w2r48, hv5⟩ : ∃ w2r48, (w2r47).alloc (.cells #[.bool false, .string ⟨#[]⟩] 26) = w2r48 := ⟨_, rfl⟩
              rw [hv5] at hHeld a5 s5 hbq a6B
              have l5 : w2.heap.size ≤ w2r48.heap.size := s5.size
              have AAw2r48 := Lib.hid a5; clear a5
              have ABw2r48 := Lib.hid a6B; clear a6B
              have Sw2r48 := Lib.hid s5; clear s5
              have hpa : (Value.pointer (some ⟨w2r47.heap.size, 0, none⟩)) = Value.pointer (some ⟨bAw2r48, 0, none⟩) := by rw [hba]
              (try simp only [World.size_drew])
              rw [hv5]
              (try rw [hpa])
              clear hbq hv5 hba hpa g5 e5
              have a0 := (AAw2r48.out).cell (j := 0) rfl
              have a1 := (AAw2r48.out).cell (j := 1) rfl
              have b0 := (ABw2r48.out).cell (j := 0) rfl
              have b1 := (ABw2r48.out).cell (j := 1) rfl
              have f0 := (AAw2r48.out).frozen 0
              have f1 := (AAw2r48.out).frozen 1
              have f2 := (ABw2r48.out).frozen 0
              have f3 := (ABw2r48.out).frozen 1
              have hne1 : ¬ bAw2r48 = fb := by omega
              have hne2 : ¬ bBw2r46 = fb := by omega
              have hne3 : ¬ bAw2r48 = bBw2r46 := by omega
              have hne4 : ¬ bBw2r46 = bAw2r48 := by omega
              refine wpAnyH_ready (rs := [14]) (by kernel_rfl) (by simp) ?_
              refine AllReadyH.cons rfl (fun K hK => ?_) AllReadyH.nil
              go_simp
              refine hK.out _ _ ?_ (fun hHeld => ?_)
              · ((try dsimp only); go_keep)
              clear hK K
              (try simp only [Act.put, List.setIfInBounds_toArray, List.set_cons_zero, List.set_cons_succ])
              refine wpAnyH_ready (rs := [15]) (by kernel_rfl) (by simp) ?_
              refine AllReadyH.cons rfl (fun K hK => ?_) AllReadyH.nil
              go_simp
              refine hK.out _ _ ?_ (fun hHeld => ?_)
              · ((try dsimp only); go_keep)
              clear hK K
              (try simp only [Act.put, List.setIfInBounds_toArray, List.set_cons_zero, List.set_cons_succ])
              refine wpAnyH_take (i := 16) (v := ?_) rfl (by kernel_rfl) (by kernel_rfl) (by kernel_rfl) (fun _ _ _ h => h) (Or.inl ⟨by rfl, ?_⟩) (by assumption) ?_
              rotate_left
              · (intro wS hSw; (try dsimp only at hSw); go_simp; (try with_reducible rfl))
              (try simp only [Act.put, List.setIfInBounds_toArray, List.set_cons_zero, List.set_cons_succ])
              refine wpAnyH_done (by kernel_rfl) ?_ _
              (try simp only [List.getElem_toArray, List.getElem_cons_zero, List.getElem_cons_succ, Act.put, List.setIfInBounds_toArray, List.set_cons_zero, List.set_cons_succ])
              have hA := (((AAw2r48.out).set 0 (.bool (ineg (px : Int)))).set 1 (.string (imag (px : Int)))).of_block ((Below.heap_setCell _ ⟨bBw2r46, 1, none⟩ (.string (imag (p : Int))) bAw2r48 hne3).trans (Below.heap_setCell _ ⟨bBw2r46, 0, none⟩ (.bool (ineg (p : Int))) bAw2r48 hne3))
              have hB := (((ABw2r48.out).of_block ((Below.heap_setCell _ ⟨bAw2r48, 1, none⟩ (.string (imag (px : Int))) bBw2r46 hne4).trans (Below.heap_setCell _ ⟨bAw2r48, 0, none⟩ (.bool (ineg (px : Int))) bBw2r46 hne4))).set 0 (.bool (ineg (p : Int)))).set 1 (.string (imag (p : Int)))
              have hS := ((((Sw2r48.out).setCell (p := ⟨bAw2r48, 0, none⟩) (show w2.heap.size ≤ bAw2r48 by omega) (.bool (ineg (px : Int)))).setCell (p := ⟨bAw2r48, 1, none⟩) (show w2.heap.size ≤ bAw2r48 by omega) (.string (imag (px : Int)))).setCell (p := ⟨bBw2r46, 0, none⟩) (show w2.heap.size ≤ bBw2r46 by omega) (.bool (ineg (p : Int)))).setCell (p := ⟨bBw2r46, 1, none⟩) (show w2.heap.size ≤ bBw2r46 by omega) (.string (imag (p : Int)))
              clear hHeld
              go_wp2_with fail
              go_meet
              exact ⟨_, _, rfl, rfl, rfl, hS, hA, hB⟩
            · go_simp
              refine hK.out _ _ ?_ (fun hHeld => ?_)
              · ((try dsimp only); go_keep)
              clear hK K
              (try simp only [Act.put, List.setIfInBounds_toArray, List.set_cons_zero, List.set_cons_succ])
              have hbq : Below (w2r46).heap.size (w2r46) ((w2r46).alloc (.cells #[.bool false, .string ⟨#[]⟩] 26)) := (Below.refl _ _).alloc (Nat.le_refl _) _
              have a5 := Blk.new (w2r46) 26 [.bool false, .string ⟨#[]⟩]
              have g5 : (w2r46).heap.size = w2r46.heap.size := rfl
              rw [g5] at a5
              have s5 := (Sw2r46.out).trans (hbq.mono (Sw2r46.out).size)
              obtain ⟨bAw2r49, hba⟩ : ∃ ba, ba = w2r46.heap.size := ⟨_, rfl⟩
              have hanew2r49 : w2.heap.size ≤ bAw2r49 := by have := (Sw2r46.out).size; omega
              rw [← hba] at a5
              have e5 : (w2r46).alloc (.cells #[.bool false, .string ⟨#[]⟩] 26) = (w2r46).alloc (.cells #[.bool false, .string ⟨#[]⟩] 26) := rfl
              rw [e5] at a5 s5 hbq
              have a6B := (ABw2r46.out).keep hbq
              have hnnw2r49 : ¬ bBw2r46 = bAw2r49 := by have := (ABw2r46.out).lt; omega
              obtain ⟨w2r49, hv5⟩ : ∃ w2r49, (w2r46).alloc (.cells #[.bool false, .string ⟨#[]⟩] 26) = w2r49 := ⟨_, rfl⟩
              rw [hv5] at hHeld a5 s5 hbq a6B
              have l5 : w2.heap.size ≤ w2r49.heap.size := s5.size
              have AAw2r49 := Lib.hid a5; clear a5
              have ABw2r49 := Lib.hid a6B; clear a6B
              have Sw2r49 := Lib.hid s5; clear s5
              have hpa : (Value.pointer (some ⟨w2r46.heap.size, 0, none⟩)) = Value.pointer (some ⟨bAw2r49, 0, none⟩) := by rw [hba]
              (try simp only [World.size_drew])
              rw [hv5]
              (try rw [hpa])
              clear hbq hv5 hba hpa g5 e5
              refine wpAnyH_ready (rs := [7]) (by kernel_rfl) (by simp) ?_
              refine AllReadyH.cons rfl (fun K hK => ?_) AllReadyH.nil
              go_simp
              go_at_call 29
              refine (HDX.out _).mono ?_
              rintro e w2r50 ⟨hq, rfl⟩
              dsimp only
              have z0 := (hq.cell (p := ⟨fb, s0 * 2, none⟩) (show fb < w2r49.heap.size by omega)).trans hHeld.1
              have z1 := (hq.cell (p := ⟨fb, s0 * 2 + 1, none⟩) (show fb < w2r49.heap.size by omega)).trans hHeld.2
              refine hK.out _ _ ⟨z0, z1⟩ (fun hHeld => ?_)
              clear hK K
              (try simp only [Act.put, List.setIfInBounds_toArray, List.set_cons_zero, List.set_cons_succ])
              have s5 := (Sw2r49.out).trans (hq.mono (Sw2r49.out).size)
              have l5 : w2.heap.size ≤ w2r50.heap.size := s5.size
              have a5 := (ABw2r49.out).keep hq
              have ABw2r50 := Lib.hid a5; clear a5
              have a5 := (AAw2r49.out).keep hq
              have AAw2r50 := Lib.hid a5; clear a5
              have Sw2r50 := Lib.hid s5; clear s5
              clear hq z0 z1
              refine wpAnyH_take (i := 8) (v := ?_) rfl (by kernel_rfl) (by kernel_rfl) (by kernel_rfl) (fun _ _ _ h => h) (Or.inl ⟨by rfl, ?_⟩) (by assumption) ?_
              rotate_left
              · (intro wS hSw; (try dsimp only at hSw); go_simp; (try with_reducible rfl))
              (try simp only [Act.put, List.setIfInBounds_toArray, List.set_cons_zero, List.set_cons_succ])
              refine wpAnyH_take (i := 9) (v := ?_) rfl (by kernel_rfl) (by kernel_rfl) (by kernel_rfl) (fun _ _ _ h => h) (Or.inl ⟨by rfl, ?_⟩) (by assumption) ?_
              rotate_left
              · (intro wS hSw; (try dsimp only at hSw); go_simp; (try with_reducible rfl))
              (try simp only [Act.put, List.setIfInBounds_toArray, List.set_cons_zero, List.set_cons_succ])
              refine wpAnyH_take (i := 10) (v := ?_) rfl (by kernel_rfl) (by kernel_rfl) (by kernel_rfl) (fun _ _ _ h => h) (Or.inl ⟨by rfl, ?_⟩) (by assumption) ?_
              rotate_left
              · (intro wS hSw; (try dsimp only at hSw); go_simp; (try with_reducible rfl))
              (try simp only [Act.put, List.setIfInBounds_toArray, List.set_cons_zero, List.set_cons_succ])
              refine wpAnyH_take (i := 11) (v := ?_) rfl (by kernel_rfl) (by kernel_rfl) (by kernel_rfl) (fun _ _ _ h => h) (Or.inl ⟨by rfl, ?_⟩) (by assumption) ?_
              rotate_left
              · (intro wS hSw; (try dsimp only at hSw); go_simp; (try with_reducible rfl))
              (try simp only [Act.put, List.setIfInBounds_toArray, List.set_cons_zero, List.set_cons_succ])
              have a0 := (AAw2r50.out).cell (j := 0) rfl
              have a1 := (AAw2r50.out).cell (j := 1) rfl
              have b0 := (ABw2r50.out).cell (j := 0) rfl
              have b1 := (ABw2r50.out).cell (j := 1) rfl
              have f0 := (AAw2r50.out).frozen 0
              have f1 := (AAw2r50.out).frozen 1
              have f2 := (ABw2r50.out).frozen 0
              have f3 := (ABw2r50.out).frozen 1
              have hne1 : ¬ bAw2r49 = fb := by omega
              have hne2 : ¬ bBw2r46 = fb := by omega
              have hne3 : ¬ bAw2r49 = bBw2r46 := by omega
              have hne4 : ¬ bBw2r46 = bAw2r49 := by omega
              refine wpAnyH_ready (rs := [14]) (by kernel_rfl) (by simp) ?_
              refine AllReadyH.cons rfl (fun K hK => ?_) AllReadyH.nil
              go_simp
              refine hK.out _ _ ?_ (fun hHeld => ?_)
              · ((try dsimp only); go_keep)
              clear hK K
              (try simp only [Act.put, List.setIfInBounds_toArray, List.set_cons_zero, List.set_cons_succ])
              refine wpAnyH_ready (rs := [15]) (by kernel_rfl) (by simp) ?_
              refine AllReadyH.cons rfl (fun K hK => ?_) AllReadyH.nil
              go_simp
              refine hK.out _ _ ?_ (fun hHeld => ?_)
              · ((try dsimp only); go_keep)
              clear hK K
              (try simp only [Act.put, List.setIfInBounds_toArray, List.set_cons_zero, List.set_cons_succ])
              refine wpAnyH_take (i := 16) (v := ?_) rfl (by kernel_rfl) (by kernel_rfl) (by kernel_rfl) (fun _ _ _ h => h) (Or.inl ⟨by rfl, ?_⟩) (by assumption) ?_
              rotate_left
              · (intro wS hSw; (try dsimp only at hSw); go_simp; (try with_reducible rfl))
              (try simp only [Act.put, List.setIfInBounds_toArray, List.set_cons_zero, List.set_cons_succ])
              refine wpAnyH_done (by kernel_rfl) ?_ _
              (try simp only [List.getElem_toArray, List.getElem_cons_zero, List.getElem_cons_succ, Act.put, List.setIfInBounds_toArray, List.set_cons_zero, List.set_cons_succ])
              have hA := (((AAw2r50.out).set 0 (.bool (ineg (px : Int)))).set 1 (.string (imag (px : Int)))).of_block ((Below.heap_setCell _ ⟨bBw2r46, 1, none⟩ (.string (imag (p : Int))) bAw2r49 hne3).trans (Below.heap_setCell _ ⟨bBw2r46, 0, none⟩ (.bool (ineg (p : Int))) bAw2r49 hne3))
              have hB := (((ABw2r50.out).of_block ((Below.heap_setCell _ ⟨bAw2r49, 1, none⟩ (.string (imag (px : Int))) bBw2r46 hne4).trans (Below.heap_setCell _ ⟨bAw2r49, 0, none⟩ (.bool (ineg (px : Int))) bBw2r46 hne4))).set 0 (.bool (ineg (p : Int)))).set 1 (.string (imag (p : Int)))
              have hS := ((((Sw2r50.out).setCell (p := ⟨bAw2r49, 0, none⟩) (show w2.heap.size ≤ bAw2r49 by omega) (.bool (ineg (px : Int)))).setCell (p := ⟨bAw2r49, 1, none⟩) (show w2.heap.size ≤ bAw2r49 by omega) (.string (imag (px : Int)))).setCell (p := ⟨bBw2r46, 0, none⟩) (show w2.heap.size ≤ bBw2r46 by omega) (.bool (ineg (p : Int)))).setCell (p := ⟨bBw2r46, 1, none⟩) (show w2.heap.size ≤ bBw2r46 by omega) (.string (imag (p : Int)))
              clear hHeld
              go_wp2_with fail
              go_meet
              exact ⟨_, _, rfl, rfl, rfl, hS, hA, hB⟩
        · go_simp
          refine hK.out _ _ ?_ (fun hHeld => ?_)
          · ((try dsimp only); go_keep)
          clear hK K
          (try simp only [Act.put, List.setIfInBounds_toArray, List.set_cons_zero, List.set_cons_succ])
          have hbq : Below (w2.drew).heap.size (w2.drew) ((w2.drew).alloc (.cells #[.bool false, .string ⟨#[]⟩] 26)) := (Below.refl _ _).alloc (Nat.le_refl _) _
          have a5 := Blk.new (w2.drew) 26 [.bool false, .string ⟨#[]⟩]
          have g5 : (w2.drew).heap.size = w2.heap.size := rfl
          rw [g5] at a5
          have s5 := ((Below.refl w2.heap.size w2).drew).trans (hbq.mono ((Below.refl w2.heap.size w2).drew).size)
          obtain ⟨bAw2r51, hba⟩ : ∃ ba, ba = w2.heap.size := ⟨_, rfl⟩
          have hanew2r51 : w2.heap.size ≤ bAw2r51 := by have := ((Below.refl w2.heap.size w2).drew).size; omega
          rw [← hba] at a5
          have e5 : (w2.drew).alloc (.cells #[.bool false, .string ⟨#[]⟩] 26) = (w2.alloc (.cells #[.bool false, .string ⟨#[]⟩] 26)).drew := rfl
          rw [e5] at a5 s5 hbq
          obtain ⟨w2r51, hv5⟩ : ∃ w2r51, (w2.alloc (.cells #[.bool false, .string ⟨#[]⟩] 26)).drew = w2r51 := ⟨_, rfl⟩
          rw [hv5] at hHeld a5 s5 hbq
          have l5 : w2.heap.size ≤ w2r51.heap.size := s5.size
          have AAw2r51 := Lib.hid a5; clear a5
          have Sw2r51 := Lib.hid s5; clear s5
          have hpa : (Value.pointer (some ⟨w2.heap.size, 0, none⟩)) = Value.pointer (some ⟨bAw2r51, 0, none⟩) := by rw [hba]
          (try simp only [World.size_drew])
          rw [hv5]
          (try rw [hpa])
          clear hbq hv5 hba hpa g5 e5
          refine wpAnyH_ready (rs := [2, 13]) (by kernel_rfl) (by simp) ?_
          refine AllReadyH.cons rfl (fun K hK => ?_) (AllReadyH.cons rfl (fun K hK => ?_) AllReadyH.nil)
          · go_simp
            go_at_call 18
            refine (HOX.out _).mono ?_
            rintro e w2r52 ⟨hq, rfl⟩
            dsimp only
            have z0 := (hq.cell (p := ⟨fb, s0 * 2, none⟩) (show fb < w2r51.heap.size by omega)).trans hHeld.1
            have z1 := (hq.cell (p := ⟨fb, s0 * 2 + 1, none⟩) (show fb < w2r51.heap.size by omega)).trans hHeld.2
            refine hK.out _ _ ⟨z0, z1⟩ (fun hHeld => ?_)
            clear hK K
            (try simp only [Act.put, List.setIfInBounds_toArray, List.set_cons_zero, List.set_cons_succ])
            have s5 := (Sw2r51.out).trans (hq.mono (Sw2r51.out).size)
            have l5 : w2.heap.size ≤ w2r52.heap.size := s5.size
            have a5 := (AAw2r51.out).keep hq
            have AAw2r52 := Lib.hid a5; clear a5
            have Sw2r52 := Lib.hid s5; clear s5
            clear hq z0 z1
            refine wpAnyH_ready (rs := [7, 13]) (by kernel_rfl) (by simp) ?_
            refine AllReadyH.cons rfl (fun K hK => ?_) (AllReadyH.cons rfl (fun K hK => ?_) AllReadyH.nil)
            · go_simp
              go_at_call 29
              refine (HDX.out _).mono ?_
              rintro e w2r53 ⟨hq, rfl⟩
              dsimp only
              have z0 := (hq.cell (p := ⟨fb, s0 * 2, none⟩) (show fb < w2r52.heap.size by omega)).trans hHeld.1
              have z1 := (hq.cell (p := ⟨fb, s0 * 2 + 1, none⟩) (show fb < w2r52.heap.size by omega)).trans hHeld.2
              refine hK.out _ _ ⟨z0, z1⟩ (fun hHeld => ?_)
              clear hK K
              (try simp only [Act.put, List.setIfInBounds_toArray, List.set_cons_zero, List.set_cons_succ])
              have s5 := (Sw2r52.out).trans (hq.mono (Sw2r52.out).size)
              have l5 : w2.heap.size ≤ w2r53.heap.size := s5.size
              have a5 := (AAw2r52.out).keep hq
              have AAw2r53 := Lib.hid a5; clear a5
              have Sw2r53 := Lib.hid s5; clear s5
              clear hq z0 z1
              refine wpAnyH_take (i := 8) (v := ?_) rfl (by kernel_rfl) (by kernel_rfl) (by kernel_rfl) (fun _ _ _ h => h) (Or.inl ⟨by rfl, ?_⟩) (by assumption) ?_
              rotate_left
              · (intro wS hSw; (try dsimp only at hSw); go_simp; (try with_reducible rfl))
              (try simp only [Act.put, List.setIfInBounds_toArray, List.set_cons_zero, List.set_cons_succ])
              refine wpAnyH_take (i := 9) (v := ?_) rfl (by kernel_rfl) (by kernel_rfl) (by kernel_rfl) (fun _ _ _ h => h) (Or.inl ⟨by rfl, ?_⟩) (by assumption) ?_
              rotate_left
              · (intro wS hSw; (try dsimp only at hSw); go_simp; (try with_reducible rfl))
              (try simp only [Act.put, List.setIfInBounds_toArray, List.set_cons_zero, List.set_cons_succ])
              refine wpAnyH_take (i := 10) (v := ?_) rfl (by kernel_rfl) (by kernel_rfl) (by kernel_rfl) (fun _ _ _ h => h) (Or.inl ⟨by rfl, ?_⟩) (by assumption) ?_
              rotate_left
              · (intro wS hSw; (try dsimp only at hSw); go_simp; (try with_reducible rfl))
              (try simp only [Act.put, List.setIfInBounds_toArray, List.set_cons_zero, List.set_cons_succ])
              refine wpAnyH_take (i := 11) (v := ?_) rfl (by kernel_rfl) (by kernel_rfl) (by kernel_rfl) (fun _ _ _ h => h) (Or.inl ⟨by rfl, ?_⟩) (by assumption) ?_
              rotate_left
              · (intro wS hSw; (try dsimp only at hSw); go_simp; (try with_reducible rfl))
              (try simp only [Act.put, List.setIfInBounds_toArray, List.set_cons_zero, List.set_cons_succ])
              refine wpAnyH_ready (rs := [13]) (by kernel_rfl) (by simp) ?_
              refine AllReadyH.cons rfl (fun K hK => ?_) AllReadyH.nil
              go_simp
              refine hK.out _ _ ?_ (fun hHeld => ?_)
              · ((try dsimp only); go_keep)
              clear hK K
              (try simp only [Act.put, List.setIfInBounds_toArray, List.set_cons_zero, List.set_cons_succ])
              have hbq : Below (w2r53).heap.size (w2r53) ((w2r53).alloc (.cells #[.bool false, .string ⟨#[]⟩] 26)) := (Below.refl _ _).alloc (Nat.le_refl _) _
              have a5 := Blk.new (w2r53) 26 [.bool false, .string ⟨#[]⟩]
              have g5 : (w2r53).heap.size = w2r53.heap.size := rfl
              rw [g5] at a5
              have s5 := (Sw2r53.out).trans (hbq.mono (Sw2r53.out).size)
              obtain ⟨bBw2r54, hba⟩ : ∃ ba, ba = w2r53.heap.size := ⟨_, rfl⟩
              have hanew2r54 : w2.heap.size ≤ bBw2r54 := by have := (Sw2r53.out).size; omega
              rw [← hba] at a5
              have e5 : (w2r53).alloc (.cells #[.bool false, .string ⟨#[]⟩] 26) = (w2r53).alloc (.cells #[.bool false, .string ⟨#[]⟩] 26) := rfl
              rw [e5] at a5 s5 hbq
              have a6A := (AAw2r53.out).keep hbq
              have hnnw2r54 : ¬ bAw2r51 = bBw2r54 := by have := (AAw2r53.out).lt; omega
              obtain ⟨w2r54, hv5⟩ : ∃ w2r54, (w2r53).alloc (.cells #[.bool false, .string ⟨#[]⟩] 26) = w2r54 := ⟨_, rfl⟩
              rw [hv5] at hHeld a5 s5 hbq a6A
              have l5 : w2.heap.size ≤ w2r54.heap.size := s5.size
              have ABw2r54 := Lib.hid a5; clear a5
              have AAw2r54 := Lib.hid a6A; clear a6A
              have Sw2r54 := Lib.hid s5; clear s5
              have hpa : (Value.pointer (some ⟨w2r53.heap.size, 0, none⟩)) = Value.pointer (some ⟨bBw2r54, 0, none⟩) := by rw [hba]
              (try simp only [World.size_drew])
              rw [hv5]
              (try rw [hpa])
              clear hbq hv5 hba hpa g5 e5
              have a0 := (AAw2r54.out).cell (j := 0) rfl
              have a1 := (AAw2r54.out).cell (j := 1) rfl
              have b0 := (ABw2r54.out).cell (j := 0) rfl
              have b1 := (ABw2r54.out).cell (j := 1) rfl
              have f0 := (AAw2r54.out).frozen 0
              have f1 := (AAw2r54.out).frozen 1
              have f2 := (ABw2r54.out).frozen 0
              have f3 := (ABw2r54.out).frozen 1
              have hne1 : ¬ bAw2r51 = fb := by omega
              have hne2 : ¬ bBw2r54 = fb := by omega
              have hne3 : ¬ bAw2r51 = bBw2r54 := by omega
              have hne4 : ¬ bBw2r54 = bAw2r51 := by omega
              refine wpAnyH_ready (rs := [14]) (by kernel_rfl) (by simp) ?_
              refine AllReadyH.cons rfl (fun K hK => ?_) AllReadyH.nil
              go_simp
              refine hK.out _ _ ?_ (fun hHeld => ?_)
              · ((try dsimp only); go_keep)
              clear hK K
              (try simp only [Act.put, List.setIfInBounds_toArray, List.set_cons_zero, List.set_cons_succ])
              refine wpAnyH_ready (rs := [15]) (by kernel_rfl) (by simp) ?_
              refine AllReadyH.cons rfl (fun K hK => ?_) AllReadyH.nil
              go_simp
              refine hK.out _ _ ?_ (fun hHeld => ?_)
              · ((try dsimp only); go_keep)
              clear hK K
              (try simp only [Act.put, List.setIfInBounds_toArray, List.set_cons_zero, List.set_cons_succ])
              refine wpAnyH_take (i := 16) (v := ?_) rfl (by kernel_rfl) (by kernel_rfl) (by kernel_rfl) (fun _ _ _ h => h) (Or.inl ⟨by rfl, ?_⟩) (by assumption) ?_
              rotate_left
              · (intro wS hSw; (try dsimp only at hSw); go_simp; (try with_reducible rfl))
              (try simp only [Act.put, List.setIfInBounds_toArray, List.set_cons_zero, List.set_cons_succ])
              refine wpAnyH_done (by kernel_rfl) ?_ _
              (try simp only [List.getElem_toArray, List.getElem_cons_zero, List.getElem_cons_succ, Act.put, List.setIfInBounds_toArray, List.set_cons_zero, List.set_cons_succ])
              have hA := (((AAw2r54.out).set 0 (.bool (ineg (px : Int)))).set 1 (.string (imag (px : Int)))).of_block ((Below.heap_setCell _ ⟨bBw2r54, 1, none⟩ (.string (imag (p : Int))) bAw2r51 hne3).trans (Below.heap_setCell _ ⟨bBw2r54, 0, none⟩ (.bool (ineg (p : Int))) bAw2r51 hne3))
              have hB := (((ABw2r54.out).of_block ((Below.heap_setCell _ ⟨bAw2r51, 1, none⟩ (.string (imag (px : Int))) bBw2r54 hne4).trans (Below.heap_setCell _ ⟨bAw2r51, 0, none⟩ (.bool (ineg (px : Int))) bBw2r54 hne4))).set 0 (.bool (ineg (p : Int)))).set 1 (.string (imag (p : Int)))
              have hS := ((((Sw2r54.out).setCell (p := ⟨bAw2r51, 0, none⟩) (show w2.heap.size ≤ bAw2r51 by omega) (.bool (ineg (px : Int)))).setCell (p := ⟨bAw2r51, 1, none⟩) (show w2.heap.size ≤ bAw2r51 by omega) (.string (imag (px : Int)))).setCell (p := ⟨bBw2r54, 0, none⟩) (show w2.heap.size ≤ bBw2r54 by omega) (.bool (ineg (p : Int)))).setCell (p := ⟨bBw2r54, 1, none⟩) (show w2.heap.size ≤ bBw2r54 by omega) (.string (imag (p : Int)))
              clear hHeld
              go_wp2_with fail
              go_meet
              exact ⟨_, _, rfl, rfl, rfl, hS, hA, hB⟩
            · go_simp
              refine hK.out _ _ ?_ (fun hHeld => ?_)
              · ((try dsimp only); go_keep)
              clear hK K
              (try simp only [Act.put, List.setIfInBounds_toArray, List.set_cons_zero, List.set_cons_succ])
              have hbq : Below (w2r52).heap.size (w2r52) ((w2r52).alloc (.cells #[.bool false, .string ⟨#[]⟩] 26)) := (Below.refl _ _).alloc (Nat.le_refl _) _
              have a5 := Blk.new (w2r52) 26 [.bool false, .string ⟨#[]⟩]
              have g5 : (w2r52).heap.size = w2r52.heap.size := rfl
              rw [g5] at a5
              have s5 := (Sw2r52.out).trans (hbq.mono (Sw2r52.out).size)
              obtain ⟨bBw2r55, hba⟩ : ∃ ba, ba = w2r52.heap.size := ⟨_, rfl⟩
              have hanew2r55 : w2.heap.size ≤ bBw2r55 := by have := (Sw2r52.out).size; omega
              rw [← hba] at a5
              have e5 : (w2r52).alloc (.cells #[.bool false, .string ⟨#[]⟩] 26) = (w2r52).alloc (.cells #[.bool false, .string ⟨#[]⟩] 26) := rfl
              rw [e5] at a5 s5 hbq
              have a6A := (AAw2r52.out).keep hbq
              have hnnw2r55 : ¬ bAw2r51 = bBw2r55 := by have := (AAw2r52.out).lt; omega
              obtain ⟨w2r55, hv5⟩ : ∃ w2r55, (w2r52).alloc (.cells #[.bool false, .string ⟨#[]⟩] 26) = w2r55 := ⟨_, rfl⟩
              rw [hv5] at hHeld a5 s5 hbq a6A
              have l5 : w2.heap.size ≤ w2r55.heap.size := s5.size
              have ABw2r55 := Lib.hid a5; clear a5
              have AAw2r55 := Lib.hid a6A; clear a6A
              have Sw2r55 := Lib.hid s5; clear s5
              have hpa : (Value.pointer (some ⟨w2r52.heap.size, 0, none⟩)) = Value.pointer (some ⟨bBw2r55, 0, none⟩) := by rw [hba]
              (try simp only [World.size_drew])
              rw [hv5]
              (try rw [hpa])
              clear hbq hv5 hba hpa g5 e5
              refine wpAnyH_ready (rs := [7]) (by kernel_rfl) (by simp) ?_
              refine AllReadyH.cons rfl (fun K hK => ?_) AllReadyH.nil
              go_simp
              go_at_call 29
              refine (HDX.out _).mono ?_
              rintro e w2r56 ⟨hq, rfl⟩
              dsimp only
              have z0 := (hq.cell (p := ⟨fb, s0 * 2, none⟩) (show fb < w2r55.heap.size by omega)).trans hHeld.1
              have z1 := (hq.cell (p := ⟨fb, s0 * 2 + 1, none⟩) (show fb < w2r55.heap.size by omega)).trans hHeld.2
              refine hK.out _ _ ⟨z0, z1⟩ (fun hHeld => ?_)
              clear hK K
              (try simp only [Act.put, List.setIfInBounds_toArray, List.set_cons_zero, List.set_cons_succ])
              have s5 := (Sw2r55.out).trans (hq.mono (Sw2r55.out).size)
              have l5 : w2.heap.size ≤ w2r56.heap.size := s5.size
              have a5 := (AAw2r55.out).keep hq
              have AAw2r56 := Lib.hid a5; clear a5
              have a5 := (ABw2r55.out).keep hq
              have ABw2r56 := Lib.hid a5; clear a5
              have Sw2r56 := Lib.hid s5; clear s5
              clear hq z0 z1
              refine wpAnyH_take (i := 8) (v := ?_) rfl (by kernel_rfl) (by kernel_rfl) (by kernel_rfl) (fun _ _ _ h => h) (Or.inl ⟨by rfl, ?_⟩) (by assumption) ?_
              rotate_left
              · (intro wS hSw; (try dsimp only at hSw); go_simp; (try with_reducible rfl))
              (try simp only [Act.put, List.setIfInBounds_toArray, List.set_cons_zero, List.set_cons_succ])
              refine wpAnyH_take (i := 9) (v := ?_) rfl (by kernel_rfl) (by kernel_rfl) (by kernel_rfl) (fun _ _ _ h => h) (Or.inl ⟨by rfl, ?_⟩) (by assumption) ?_
              rotate_left
              · (intro wS hSw; (try dsimp only at hSw); go_simp; (try with_reducible rfl))
              (try simp only [Act.put, List.setIfInBounds_toArray, List.set_cons_zero, List.set_cons_succ])
              refine wpAnyH_take (i := 10) (v := ?_) rfl (by kernel_rfl) (by kernel_rfl) (by kernel_rfl) (fun _ _ _ h => h) (Or.inl ⟨by rfl, ?_⟩) (by assumption) ?_
              rotate_left
              · (intro wS hSw; (try dsimp only at hSw); go_simp; (try with_reducible rfl))
              (try simp only [Act.put, List.setIfInBounds_toArray, List.set_cons_zero, List.set_cons_succ])
              refine wpAnyH_take (i := 11) (v := ?_) rfl (by kernel_rfl) (by kernel_rfl) (by kernel_rfl) (fun _ _ _ h => h) (Or.inl ⟨by rfl, ?_⟩) (by assumption) ?_
              rotate_left
              · (intro wS hSw; (try dsimp only at hSw); go_simp; (try with_reducible rfl))
              (try simp only [Act.put, List.setIfInBounds_toArray, List.set_cons_zero, List.set_cons_succ])
              have a0 := (AAw2r56.out).cell (j := 0) rfl
              have a1 := (AAw2r56.out).cell (j := 1) rfl
              have b0 := (ABw2r56.out).cell (j := 0) rfl
              have b1 := (ABw2r56.out).cell (j := 1) rfl
              have f0 := (AAw2r56.out).frozen 0
              have f1 := (AAw2r56.out).frozen 1
              have f2 := (ABw2r56.out).frozen 0
              have f3 := (ABw2r56.out).frozen 1
              have hne1 : ¬ bAw2r51 = fb := by omega
              have hne2 : ¬ bBw2r55 = fb := by omega
              have hne3 : ¬ bAw2r51 = bBw2r55 := by omega
              have hne4 : ¬ bBw2r55 = bAw2r51 := by omega
              refine wpAnyH_ready (rs := [14]) (by kernel_rfl) (by simp) ?_
              refine AllReadyH.cons rfl (fun K hK => ?_) AllReadyH.nil
              go_simp
              refine hK.out _ _ ?_ (fun hHeld => ?_)
              · ((try dsimp only); go_keep)
              clear hK K
              (try simp only [Act.put, List.setIfInBounds_toArray, List.set_cons_zero, List.set_cons_succ])
              refine wpAnyH_ready (rs := [15]) (by kernel_rfl) (by simp) ?_
              refine AllReadyH.cons rfl (fun K hK => ?_) AllReadyH.nil
              go_simp
              refine hK.out _ _ ?_ (fun hHeld => ?_)
              · ((try dsimp only); go_keep)
              clear hK K
              (try simp only [Act.put, List.setIfInBounds_toArray, List.set_cons_zero, List.set_cons_succ])
              refine wpAnyH_take (i := 16) (v := ?_) rfl (by kernel_rfl) (by kernel_rfl) (by kernel_rfl) (fun _ _ _ h => h) (Or.inl ⟨by rfl, ?_⟩) (by assumption) ?_
              rotate_left
              · (intro wS hSw; (try dsimp only at hSw); go_simp; (try with_reducible rfl))
              (try simp only [Act.put, List.setIfInBounds_toArray, List.set_cons_zero, List.set_cons_succ])
              refine wpAnyH_done (by kernel_rfl) ?_ _
              (try simp only [List.getElem_toArray, List.getElem_cons_zero, List.getElem_cons_succ, Act.put, List.setIfInBounds_toArray, List.set_cons_zero, List.set_cons_succ])
              have hA := (((AAw2r56.out).set 0 (.bool (ineg (px : Int)))).set 1 (.string (imag (px : Int)))).of_block ((Below.heap_setCell _ ⟨bBw2r55, 1, none⟩ (.string (imag (p : Int))) bAw2r51 hne3).trans (Below.heap_setCell _ ⟨bBw2r55, 0, none⟩ (.bool (ineg (p : Int))) bAw2r51 hne3))
              have hB := (((ABw2r56.out).of_block ((Below.heap_setCell _ ⟨bAw2r51, 1, none⟩ (.string (imag (px : Int))) bBw2r55 hne4).trans (Below.heap_setCell _ ⟨bAw2r51, 0, none⟩ (.bool (ineg (px : Int))) bBw2r55 hne4))).set 0 (.bool (ineg (p : Int)))).set 1 (.string (imag (p : Int)))
              have hS := ((((Sw2r56.out).setCell (p := ⟨bAw2r51, 0, none⟩) (show w2.heap.size ≤ bAw2r51 by omega) (.bool (ineg (px : Int)))).setCell (p := ⟨bAw2r51, 1, none⟩) (show w2.heap.size ≤ bAw2r51 by omega) (.string (imag (px : Int)))).setCell (p := ⟨bBw2r55, 0, none⟩) (show w2.heap.size ≤ bBw2r55 by omega) (.bool (ineg (p : Int)))).setCell (p := ⟨bBw2r55, 1, none⟩) (show w2.heap.size ≤ bBw2r55 by omega) (.string (imag (p : Int)))
              clear hHeld
              go_wp2_with fail
              go_meet
              exact ⟨_, _, rfl, rfl, rfl, hS, hA, hB⟩
          · go_simp
            refine hK.out _ _ ?_ (fun hHeld => ?_)
            · ((try dsimp only); go_keep)
            clear hK K
            (try simp only [Act.put, List.setIfInBounds_toArray, List.set_cons_zero, List.set_cons_succ])
            have hbq : Below (w2r51).heap.size (w2r51) ((w2r51).alloc (.cells #[.bool false, .string ⟨#[]⟩] 26)) := (Below.refl _ _).alloc (Nat.le_refl _) _
            have a5 := Blk.new (w2r51) 26 [.bool false, .string ⟨#[]⟩]
            have g5 : (w2r51).heap.size = w2r51.heap.size := rfl
            rw [g5] at a5
            have s5 := (Sw2r51.out).trans (hbq.mono (Sw2r51.out).size)
            obtain ⟨bBw2r57, hba⟩ : ∃ ba, ba = w2r51.heap.size := ⟨_, rfl⟩
            have hanew2r57 : w2.heap.size ≤ bBw2r57 := by have := (Sw2r51.out).size; omega
            rw [← hba] at a5
            have e5 : (w2r51).alloc (.cells #[.bool false, .string ⟨#[]⟩] 26) = (w2r51).alloc (.cells #[.bool false, .string ⟨#[]⟩] 26) := rfl
            rw [e5] at a5 s5 hbq
            have a6A := (AAw2r51.out).keep hbq
            have hnnw2r57 : ¬ bAw2r51 = bBw2r57 := by have := (AAw2r51.out).lt; omega
            obtain ⟨w2r57, hv5⟩ : ∃ w2r57, (w2r51).alloc (.cells #[.bool false, .string ⟨#[]⟩] 26) = w2r57 := ⟨_, rfl⟩
            rw [hv5] at hHeld a5 s5 hbq a6A
            have l5 : w2.heap.size ≤ w2r57.heap.size := s5.size
            have ABw2r57 := Lib.hid a5; clear a5
            have AAw2r57 := Lib.hid a6A; clear a6A
            have Sw2r57 := Lib.hid s5; clear s5
            have hpa : (Value.pointer (some ⟨w2r51.heap.size, 0, none⟩)) = Value.pointer (some ⟨bBw2r57, 0, none⟩) := by rw [hba]
            (try simp only [World.size_drew])
            rw [hv5]
            (try rw [hpa])
            clear hbq hv5 hba hpa g5 e5
            refine wpAnyH_ready (rs := [2]) (by kernel_rfl) (by simp) ?_
            refine AllReadyH.cons rfl (fun K hK => ?_) AllReadyH.nil
            go_simp
            go_at_call 18
            refine (HOX.out _).mono ?_
            rintro e w2r58 ⟨hq, rfl⟩
            dsimp only
            have z0 := (hq.cell (p := ⟨fb, s0 * 2, none⟩) (show fb < w2r57.heap.size by omega)).trans hHeld.1
            have z1 := (hq.cell (p := ⟨fb, s0 * 2 + 1, none⟩) (show fb < w2r57.heap.size by omega)).trans hHeld.2
            refine hK.out _ _ ⟨z0, z1⟩ (fun hHeld => ?_)
            clear hK K
            (try simp only [Act.put, List.setIfInBounds_toArray, List.set_cons_zero, List.set_cons_succ])
            have s5 := (Sw2r57.out).trans (hq.mono (Sw2r57.out).size)
            have l5 : w2.heap.size ≤ w2r58.heap.size := s5.size
            have a5 := (AAw2r57.out).keep hq
            have AAw2r58 := Lib.hid a5; clear a5
            have a5 := (ABw2r57.out).keep hq
            have ABw2r58 := Lib.hid a5; clear a5
            have Sw2r58 := Lib.hid s5; clear s5
            clear hq z0 z1
            refine wpAnyH_ready (rs := [7]) (by kernel_rfl) (by simp) ?_
            refine AllReadyH.cons rfl (fun K hK => ?_) AllReadyH.nil
            go_simp
            go_at_call 29
            refine (HDX.out _).mono ?_
            rintro e w2r59 ⟨hq, rfl⟩
            dsimp only
            have z0 := (hq.cell (p := ⟨fb, s0 * 2, none⟩) (show fb < w2r58.heap.size by omega)).trans hHeld.1
            have z1 := (hq.cell (p := ⟨fb, s0 * 2 + 1, none⟩) (show fb < w2r58.heap.size by omega)).trans hHeld.2
            refine hK.out _ _ ⟨z0, z1⟩ (fun hHeld => ?_)
            clear hK K
            (try simp only [Act.put, List.setIfInBounds_toArray, List.set_cons_zero, List.set_cons_succ])
            have s5 := (Sw2r58.out).trans (hq.mono (Sw2r58.out).size)
            have l5 : w2.heap.size ≤ w2r59.heap.size := s5.size
            have a5 := (AAw2r58.out).keep hq
            have AAw2r59 := Lib.hid a5; clear a5
            have a5 := (ABw2r58.out).keep hq
            have ABw2r59 := Lib.hid a5; clear a5
            have Sw2r59 := Lib.hid s5; clear s5
            clear hq z0 z1
            refine wpAnyH_take (i := 8) (v := ?_) rfl (by kernel_rfl) (by kernel_rfl) (by kernel_rfl) (fun _ _ _ h => h) (Or.inl ⟨by rfl, ?_⟩) (by assumption) ?_
            rotate_left
            · (intro wS hSw; (try dsimp only at hSw); go_simp; (try with_reducible rfl))
            (try simp only [Act.put, List.setIfInBounds_toArray, List.set_cons_zero, List.set_cons_succ])
            refine wpAnyH_take (i := 9) (v := ?_) rfl (by kernel_rfl) (by kernel_rfl) (by kernel_rfl) (fun _ _ _ h => h) (Or.inl ⟨by rfl, ?_⟩) (by assumption) ?_
            rotate_left
            · (intro wS hSw; (try dsimp only at hSw); go_simp; (try with_reducible rfl))
            (try simp only [Act.put, List.setIfInBounds_toArray, List.set_cons_zero, List.set_cons_succ])
            refine wpAnyH_take (i := 10) (v := ?_) rfl (by kernel_rfl) (by kernel_rfl) (by kernel_rfl) (fun _ _ _ h => h) (Or.inl ⟨by rfl, ?_⟩) (by assumption) ?_
            rotate_left
            · (intro wS hSw; (try dsimp only at hSw); go_simp; (try with_reducible rfl))
            (try simp only [Act.put, List.setIfInBounds_toArray, List.set_cons_zero, List.set_cons_succ])
            refine wpAnyH_take (i := 11) (v := ?_) rfl (by kernel_rfl) (by kernel_rfl) (by kernel_rfl) (fun _ _ _ h => h) (Or.inl ⟨by rfl, ?_⟩) (by assumption) ?_
            rotate_left
            · (intro wS hSw; (try dsimp only at hSw); go_simp; (try with_reducible rfl))
            (try simp only [Act.put, List.setIfInBounds_toArray, List.set_cons_zero, List.set_cons_succ])
            have a0 := (AAw2r59.out).cell (j := 0) rfl
            have a1 := (AAw2r59.out).cell (j := 1) rfl
            have b0 := (ABw2r59.out).cell (j := 0) rfl
            have b1 := (ABw2r59.out).cell (j := 1) rfl
            have f0 := (AAw2r59.out).frozen 0
            have f1 := (AAw2r59.out).frozen 1
            have f2 := (ABw2r59.out).frozen 0
            have f3 := (ABw2r59.out).frozen 1
            have hne1 : ¬ bAw2r51 = fb := by omega
            have hne2 : ¬ bBw2r57 = fb := by omega
            have hne3 : ¬ bAw2r51 = bBw2r57 := by omega
            have hne4 : ¬ bBw2r57 = bAw2r51 := by omega
            refine wpAnyH_ready (rs := [14]) (by kernel_rfl) (by simp) ?_
            refine AllReadyH.cons rfl (fun K hK => ?_) AllReadyH.nil
            go_simp
            refine hK.out _ _ ?_ (fun hHeld => ?_)
            · ((try dsimp only); go_keep)
            clear hK K
            (try simp only [Act.put, List.setIfInBounds_toArray, List.set_cons_zero, List.set_cons_succ])
            refine wpAnyH_ready (rs := [15]) (by kernel_rfl) (by simp) ?_
            refine AllReadyH.cons rfl (fun K hK => ?_) AllReadyH.nil
            go_simp
            refine hK.out _ _ ?_ (fun hHeld => ?_)
            · ((try dsimp only); go_keep)
            clear hK K
            (try simp only [Act.put, List.setIfInBounds_toArray, List.set_cons_zero, List.set_cons_succ])
            refine wpAnyH_take (i := 16) (v := ?_) rfl (by kernel_rfl) (by kernel_rfl) (by kernel_rfl) (fun _ _ _ h => h) (Or.inl ⟨by rfl, ?_⟩) (by assumption) ?_
            rotate_left
            · (intro wS hSw; (try dsimp only at hSw); go_simp; (try with_reducible rfl))
            (try simp only [Act.put, List.setIfInBounds_toArray, List.set_cons_zero, List.set_cons_succ])
            refine wpAnyH_done (by kernel_rfl) ?_ _
            (try simp only [List.getElem_toArray, List.getElem_cons_zero, List.getElem_cons_succ, Act.put, List.setIfInBounds_toArray, List.set_cons_zero, List.set_cons_succ])
            have hA := (((AAw2r59.out).set 0 (.bool (ineg (px : Int)))).set 1 (.string (imag (px : Int)))).of_block ((Below.heap_setCell _ ⟨bBw2r57, 1, none⟩ (.string (imag (p : Int))) bAw2r51 hne3).trans (Below.heap_setCell _ ⟨bBw2r57, 0, none⟩ (.bool (ineg (p : Int))) bAw2r51 hne3))
            have hB := (((ABw2r59.out).of_block ((Below.heap_setCell _ ⟨bAw2r51, 1, none⟩ (.string (imag (px : Int))) bBw2r57 hne4).trans (Below.heap_setCell _ ⟨bAw2r51, 0, none⟩ (.bool (ineg (px : Int))) bBw2r57 hne4))).set 0 (.bool (ineg (p : Int)))).set 1 (.string (imag (p : Int)))
            have hS := ((((Sw2r59.out).setCell (p := ⟨bAw2r51, 0, none⟩) (show w2.heap.size ≤ bAw2r51 by omega) (.bool (ineg (px : Int)))).setCell (p := ⟨bAw2r51, 1, none⟩) (show w2.heap.size ≤ bAw2r51 by omega) (.string (imag (px : Int)))).setCell (p := ⟨bBw2r57, 0, none⟩) (show w2.heap.size ≤ bBw2r57 by omega) (.bool (ineg (p : Int)))).setCell (p := ⟨bBw2r57, 1, none⟩) (show w2.heap.size ≤ bBw2r57 by omega) (.string (imag (p : Int)))
            clear hHeld
            go_wp2_with fail
            go_meet
            exact ⟨_, _, rfl, rfl, rfl, hS, hA, hB⟩
        · go_simp
          refine hK.out _ _ ?_ (fun hHeld => ?_)
          · ((try dsimp only); go_keep)
          clear hK K
          (try simp only [Act.put, List.setIfInBounds_toArray, List.set_cons_zero, List.set_cons_succ])
          have hbq : Below (w2.drew).heap.size (w2.drew) ((w2.drew).alloc (.cells #[.bool false, .string ⟨#[]⟩] 26)) := (Below.refl _ _).alloc (Nat.le_refl _) _
          have a5 := Blk.new (w2.drew) 26 [.bool false, .string ⟨#[]⟩]
          have g5 : (w2.drew).heap.size = w2.heap.size := rfl
          rw [g5] at a5
          have s5 := ((Below.refl w2.heap.size w2).drew).trans (hbq.mono ((Below.refl w2.heap.size w2).drew).size)
          obtain ⟨bBw2r60, hba⟩ : ∃ ba, ba = w2.heap.size := ⟨_, rfl⟩
          have hanew2r60 : w2.heap.size ≤ bBw2r60 := by have := ((Below.refl w2.heap.size w2).drew).size; omega
          rw [← hba] at a5
          have e5 : (w2.drew).alloc (.cells #[.bool false, .string ⟨#[]⟩] 26) = (w2.alloc (.cells #[.bool false, .string ⟨#[]⟩] 26)).drew := rfl
          rw [e5] at a5 s5 hbq
          obtain ⟨w2r60, hv5⟩ : ∃ w2r60, (w2.alloc (.cells #[.bool false, .string ⟨#[]⟩] 26)).drew = w2r60 := ⟨_, rfl⟩
          rw [hv5] at hHeld a5 s5 hbq
          have l5 : w2.heap.size ≤ w2r60.heap.size := s5.size
          have ABw2r60 := Lib.hid a5; clear a5
          have Sw2r60 := Lib.hid s5; clear s5
          have hpa : (Value.pointer (some ⟨w2.heap.size, 0, none⟩)) = Value.pointer (some ⟨bBw2r60, 0, none⟩) := by rw [hba]
          (try simp only [World.size_drew])
          rw [hv5]
          (try rw [hpa])
          clear hbq hv5 hba hpa g5 e5
          refine wpAnyH_ready (rs := [2, 12]) (by kernel_rfl) (by simp) ?_
          refine AllReadyH.cons rfl (fun K hK => ?_) (AllReadyH.cons rfl (fun K hK => ?_) AllReadyH.nil)
          · go_simp
            go_at_call 18
            refine (HOX.out _).mono ?_
            rintro e w2r61 ⟨hq, rfl⟩
            dsimp only
            have z0 := (hq.cell (p := ⟨fb, s0 * 2, none⟩) (show fb < w2r60.heap.size by omega)).trans hHeld.1
            have z1 := (hq.cell (p := ⟨fb, s0 * 2 + 1, none⟩) (show fb < w2r60.heap.size by omega)).trans hHeld.2
            refine hK.out _ _ ⟨z0, z1⟩ (fun hHeld => ?_)
            clear hK K
            (try simp only [Act.put, List.setIfInBounds_toArray, List.set_cons_zero, List.set_cons_succ])
            have s5 := (Sw2r60.out).trans (hq.mono (Sw2r60.out).size)
            have l5 : w2.heap.size ≤ w2r61.heap.size := s5.size
            have a5 := (ABw2r60.out).keep hq
            have ABw2r61 := Lib.hid a5; clear a5
            have Sw2r61 := Lib.hid s5; clear s5
            clear hq z0 z1
            refine wpAnyH_ready (rs := [7, 12]) (by kernel_rfl) (by simp) ?_
            refine AllReadyH.cons rfl (fun K hK => ?_) (AllReadyH.cons rfl (fun K hK => ?_) AllReadyH.nil)
            · go_simp
              go_at_call 29
              refine (HDX.out _).mono ?_
              rintro e w2r62 ⟨hq, rfl⟩
              dsimp only
              have z0 := (hq.cell (p := ⟨fb, s0 * 2, none⟩) (show fb < w2r61.heap.size by omega)).trans hHeld.1
              have z1 := (hq.cell (p := ⟨fb, s0 * 2 + 1, none⟩) (show fb < w2r61.heap.size by omega)).trans hHeld.2
              refine hK.out _ _ ⟨z0, z1⟩ (fun hHeld => ?_)
              clear hK K
              (try simp only [Act.put, List.setIfInBounds_toArray, List.set_cons_zero, List.set_cons_succ])
              have s5 := (Sw2r61.out).trans (hq.mono (Sw2r61.out).size)
              have l5 : w2.heap.size ≤ w2r62.heap.size := s5.size
              have a5 := (ABw2r61.out).keep hq
              have ABw2r62 := Lib.hid a5; clear a5
              have Sw2r62 := Lib.hid s5; clear s5
              clear hq z0 z1
              refine wpAnyH_take (i := 8) (v := ?_) rfl (by kernel_rfl) (by kernel_rfl) (by kernel_rfl) (fun _ _ _ h => h) (Or.inl ⟨by rfl, ?_⟩) (by assumption) ?_
              rotate_left
              · (intro wS hSw; (try dsimp only at hSw); go_simp; (try with_reducible rfl))
              (try simp only [Act.put, List.setIfInBounds_toArray, List.set_cons_zero, List.set_cons_succ])
              refine wpAnyH_take (i := 9) (v := ?_) rfl (by kernel_rfl) (by kernel_rfl) (by kernel_rfl) (fun _ _ _ h => h) (Or.inl ⟨by rfl, ?_⟩) (by assumption) ?_
              rotate_left
              · (intro wS hSw; (try dsimp only at hSw); go_simp; (try with_reducible rfl))
              (try simp only [Act.put, List.setIfInBounds_toArray, List.set_cons_zero, List.set_cons_succ])
              refine wpAnyH_take (i := 10) (v := ?_) rfl (by kernel_rfl) (by kernel_rfl) (by kernel_rfl) (fun _ _ _ h => h) (Or.inl ⟨by rfl, ?_⟩) (by assumption) ?_
              rotate_left
              · (intro wS hSw; (try dsimp only at hSw); go_simp; (try with_reducible rfl))
              (try simp only [Act.put, List.setIfInBounds_toArray, List.set_cons_zero, List.set_cons_succ])
              refine wpAnyH_take (i := 11) (v := ?_) rfl (by kernel_rfl) (by kernel_rfl) (by kernel_rfl) (fun _ _ _ h => h) (Or.inl ⟨by rfl, ?_⟩) (by assumption) ?_
              rotate_left
              · (intro wS hSw; (try dsimp only at hSw); go_simp; (try with_reducible rfl))
              (try simp only [Act.put, List.setIfInBounds_toArray, List.set_cons_zero, List.set_cons_succ])
              refine wpAnyH_ready (rs := [12]) (by kernel_rfl) (by simp) ?_
              refine AllReadyH.cons rfl (fun K hK => ?_) AllReadyH.nil
              go_simp
              refine hK.out _ _ ?_ (fun hHeld => ?_)
              · ((try dsimp only); go_keep)
              clear hK K
              (try simp only [Act.put, List.setIfInBounds_toArray, List.set_cons_zero, List.set_cons_succ])
              have hbq : Below (w2r62).heap.size (w2r62) ((w2r62).alloc (.cells #[.bool false, .string ⟨#[]⟩] 26)) := (Below.refl _ _).alloc (Nat.le_refl _) _
              have a5 := Blk.new (w2r62) 26 [.bool false, .string ⟨#[]⟩]
              have g5 : (w2r62).heap.size = w2r62.heap.size := rfl
              rw [g5] at a5
              have s5 := (Sw2r62.out).trans (hbq.mono (Sw2r62.out).size)
              obtain ⟨bAw2r63, hba⟩ : ∃ ba, ba = w2r62.heap.size := ⟨_, rfl⟩
              have hanew2r63 : w2.heap.size ≤ bAw2r63 := by have := (Sw2r62.out).size; omega
              rw [← hba] at a5
              have e5 : (w2r62).alloc (.cells #[.bool false, .string ⟨#[]⟩] 26) = (w2r62).alloc (.cells #[.bool false, .string ⟨#[]⟩] 26) := rfl
              rw [e5] at a5 s5 hbq
              have a6B := (ABw2r62.out).keep hbq
              have hnnw2r63 : ¬ bBw2r60 = bAw2r63 := by have := (ABw2r62.out).lt; omega
              obtain ⟨w2r63, hv5⟩ : ∃ w2r63, (w2r62).alloc (.cells #[.bool false, .string ⟨#[]⟩] 26) = w2r63 := ⟨_, rfl⟩
              rw [hv5] at hHeld a5 s5 hbq a6B
              have l5 : w2.heap.size ≤ w2r63.heap.size := s5.size
              have AAw2r63 := Lib.hid a5; clear a5
              have ABw2r63 := Lib.hid a6B; clear a6B
              have Sw2r63 := Lib.hid s5; clear s5
              have hpa : (Value.pointer (some ⟨w2r62.heap.size, 0, none⟩)) = Value.pointer (some ⟨bAw2r63, 0, none⟩) := by rw [hba]
              (try simp only [World.size_drew])
              rw [hv5]
              (try rw [hpa])
              clear hbq hv5 hba hpa g5 e5
              have a0 := (AAw2r63.out).cell (j := 0) rfl
              have a1 := (AAw2r63.out).cell (j := 1) rfl
              have b0 := (ABw2r63.out).cell (j := 0) rfl
              have b1 := (ABw2r63.out).cell (j := 1) rfl
              have f0 := (AAw2r63.out).frozen 0
              have f1 := (AAw2r63.out).frozen 1
              have f2 := (ABw2r63.out).frozen 0
              have f3 := (ABw2r63.out).frozen 1
              have hne1 : ¬ bAw2r63 = fb := by omega
              have hne2 : ¬ bBw2r60 = fb := by omega
              have hne3 : ¬ bAw2r63 = bBw2r60 := by omega
              have hne4 : ¬ bBw2r60 = bAw2r63 := by omega
              refine wpAnyH_ready (rs := [14]) (by kernel_rfl) (by simp) ?_
              refine AllReadyH.cons rfl (fun K hK => ?_) AllReadyH.nil
              go_simp
              refine hK.out _ _ ?_ (fun hHeld => ?_)
              · ((try dsimp only); go_keep)
              clear hK K
              (try simp only [Act.put, List.setIfInBounds_toArray, List.set_cons_zero, List.set_cons_succ])
              refine wpAnyH_ready (rs := [15]) (by kernel_rfl) (by simp) ?_
              refine AllReadyH.cons rfl (fun K hK => ?_) AllReadyH.nil
              go_simp
              refine hK.out _ _ ?_ (fun hHeld => ?_)
              · ((try dsimp only); go_keep)
              clear hK K
              (try simp only [Act.put, List.setIfInBounds_toArray, List.set_cons_zero, List.set_cons_succ])
              refine wpAnyH_take (i := 16) (v := ?_) rfl (by kernel_rfl) (by kernel_rfl) (by kernel_rfl) (fun _ _ _ h => h) (Or.inl ⟨by rfl, ?_⟩) (by assumption) ?_
              rotate_left
              · (intro wS hSw; (try dsimp only at hSw); go_simp; (try with_reducible rfl))
              (try simp only [Act.put, List.setIfInBounds_toArray, List.set_cons_zero, List.set_cons_succ])
              refine wpAnyH_done (by kernel_rfl) ?_ _
              (try simp only [List.getElem_toArray, List.getElem_cons_zero, List.getElem_cons_succ, Act.put, List.setIfInBounds_toArray, List.set_cons_zero, List.set_cons_succ])
              have hA := (((AAw2r63.out).set 0 (.bool (ineg (px : Int)))).set 1 (.string (imag (px : Int)))).of_block ((Below.heap_setCell _ ⟨bBw2r60, 1, none⟩ (.string (imag (p : Int))) bAw2r63 hne3).trans (Below.heap_setCell _ ⟨bBw2r60, 0, none⟩ (.bool (ineg (p : Int))) bAw2r63 hne3))
              have hB := (((ABw2r63.out).of_block ((Below.heap_setCell _ ⟨bAw2r63, 1, none⟩ (.string (imag (px : Int))) bBw2r60 hne4).trans (Below.heap_setCell _ ⟨bAw2r63, 0, none⟩ (.bool (ineg (px : Int))) bBw2r60 hne4))).set 0 (.bool (ineg (p : Int)))).set 1 (.string (imag (p : Int)))
              have hS := ((((Sw2r63.out).setCell (p := ⟨bAw2r63, 0, none⟩) (show w2.heap.size ≤ bAw2r63 by omega) (.bool (ineg (px : Int)))).setCell (p := ⟨bAw2r63, 1, none⟩) (show w2.heap.size ≤ bAw2r63 by omega) (.string (imag (px : Int)))).setCell (p := ⟨bBw2r60, 0, none⟩) (show w2.heap.size ≤ bBw2r60 by omega) (.bool (ineg (p : Int)))).setCell (p := ⟨bBw2r60, 1, none⟩) (show w2.heap.size ≤ bBw2r60 by omega) (.string (imag (p : Int)))
              clear hHeld
              go_wp2_with fail
              go_meet
              exact ⟨_, _, rfl, rfl, rfl, hS, hA, hB⟩
            · go_simp
              refine hK.out _ _ ?_ (fun hHeld => ?_)
              · ((try dsimp only); go_keep)
              clear hK K
              (try simp only [Act.put, List.setIfInBounds_toArray, List.set_cons_zero, List.set_cons_succ])
              have hbq : Below (w2r61).heap.size (w2r61) ((w2r61).alloc (.cells #[.bool false, .string ⟨#[]⟩] 26)) := (Below.refl _ _).alloc (Nat.le_refl _) _
              have a5 := Blk.new (w2r61) 26 [.bool false, .string ⟨#[]⟩]
              have g5 : (w2r61).heap.size = w2r61.heap.size := rfl
              rw [g5] at a5
              have s5 := (Sw2r61.out).trans (hbq.mono (Sw2r61.out).size)
              obtain ⟨bAw2r64, hba⟩ : ∃ ba, ba = w2r61.heap.size := ⟨_, rfl⟩
              have hanew2r64 : w2.heap.size ≤ bAw2r64 := by have := (Sw2r61.out).size; omega
              rw [← hba] at a5
              have e5 : (w2r61).alloc (.cells #[.bool false, .string ⟨#[]⟩] 26) = (w2r61).alloc (.cells #[.bool false, .string ⟨#[]⟩] 26) := rfl
              rw [e5] at a5 s5 hbq
              have a6B := (ABw2r61.out).keep hbq
              have hnnw2r64 : ¬ bBw2r60 = bAw2r64 := by have := (ABw2r61.out).lt; omega
              obtain ⟨w2r64, hv5⟩ : ∃ w2r64, (w2r61).alloc (.cells #[.bool false, .string ⟨#[]⟩] 26) = w2r64 := ⟨_, rfl⟩
              rw [hv5] at hHeld a5 s5 hbq a6B
              have l5 : w2.heap.size ≤ w2r64.heap.size := s5.size
              have AAw2r64 := Lib.hid a5; clear a5
              have ABw2r64 := Lib.hid a6B; clear a6B
              have Sw2r64 := Lib.hid s5; clear s5
              have hpa : (Value.pointer (some ⟨w2r61.heap.size, 0, none⟩)) = Value.pointer (some ⟨bAw2r64, 0, none⟩) := by rw [hba]
              (try simp only [World.size_drew])
              rw [hv5]
              (try rw [hpa])
              clear hbq hv5 hba hpa g5 e5
              refine wpAnyH_ready (rs := [7]) (by kernel_rfl) (by simp) ?_
              refine AllReadyH.cons rfl (fun K hK => ?_) AllReadyH.nil
              go_simp
              go_at_call 29
              refine (HDX.out _).mono ?_
              rintro e w2r65 ⟨hq, rfl⟩
              dsimp only
              have z0 := (hq.cell (p := ⟨fb, s0 * 2, none⟩) (show fb < w2r64.heap.size by omega)).trans hHeld.1
              have z1 := (hq.cell (p := ⟨fb, s0 * 2 + 1, none⟩) (show fb < w2r64.heap.size by omega)).trans hHeld.2
              refine hK.out _ _ ⟨z0, z1⟩ (fun hHeld => ?_)
              clear hK K
              (try simp only [Act.put, List.setIfInBounds_toArray, List.set_cons_zero, List.set_cons_succ])
              have s5 := (Sw2r64.out).trans (hq.mono (Sw2r64.out).size)
              have l5 : w2.heap.size ≤ w2r65.heap.size := s5.size
              have a5 := (ABw2r64.out).keep hq
              have ABw2r65 := Lib.hid a5; clear a5
              have a5 := (AAw2r64.out).keep hq
              have AAw2r65 := Lib.hid a5; clear a5
              have Sw2r65 := Lib.hid s5; clear s5
              clear hq z0 z1
              refine wpAnyH_take (i := 8) (v := ?_) rfl (by kernel_rfl) (by kernel_rfl) (by kernel_rfl) (fun _ _ _ h => h) (Or.inl ⟨by rfl, ?_⟩) (by assumption) ?_
              rotate_left
              · (intro wS hSw; (try dsimp only at hSw); go_simp; (try with_reducible rfl))
              (try simp only [Act.put, List.setIfInBounds_toArray, List.set_cons_zero, List.set_cons_succ])
              refine wpAnyH_take (i := 9) (v := ?_) rfl (by kernel_rfl) (by kernel_rfl) (by kernel_rfl) (fun _ _ _ h => h) (Or.inl ⟨by rfl, ?_⟩) (by assumption) ?_
              rotate_left
              · (intro wS hSw; (try dsimp only at hSw); go_simp; (try with_reducible rfl))
              (try simp only [Act.put, List.setIfInBounds_toArray, List.set_cons_zero, List.set_cons_succ])
              refine wpAnyH_take (i := 10) (v := ?_) rfl (by kernel_rfl) (by kernel_rfl) (by kernel_rfl) (fun _ _ _ h => h) (Or.inl ⟨by rfl, ?_⟩) (by assumption) ?_
              rotate_left
              · (intro wS hSw; (try dsimp only at hSw); go_simp; (try with_reducible rfl))
              (try simp only [Act.put, List.setIfInBounds_toArray, List.set_cons_zero, List.set_cons_succ])
              refine wpAnyH_take (i := 11) (v := ?_) rfl (by kernel_rfl) (by kernel_rfl) (by kernel_rfl) (fun _ _ _ h => h) (Or.inl ⟨by rfl, ?_⟩) (by assumption) ?_
              rotate_left
              · (intro wS hSw; (try dsimp only at hSw); go_simp; (try with_reducible rfl))
              (try simp only [Act.put, List.setIfInBounds_toArray, List.set_cons_zero, List.set_cons_succ])
              have a0 := (AAw2r65.out).cell (j := 0) rfl
              have a1 := (AAw2r65.out).cell (j := 1) rfl
              have b0 := (ABw2r65.out).cell (j := 0) rfl
              have b1 := (ABw2r65.out).cell (j := 1) rfl
              have f0 := (AAw2r65.out).frozen 0
              have f1 := (AAw2r65.out).frozen 1
              have f2 := (ABw2r65.out).frozen 0
              have f3 := (ABw2r65.out).frozen 1
              have hne1 : ¬ bAw2r64 = fb := by omega
              have hne2 : ¬ bBw2r60 = fb := by omega
              have hne3 : ¬ bAw2r64 = bBw2r60 := by omega
              have hne4 : ¬ bBw2r60 = bAw2r64 := by omega
              refine wpAnyH_ready (rs := [14]) (by kernel_rfl) (by simp) ?_
              refine AllReadyH.cons rfl (fun K hK => ?_) AllReadyH.nil
              go_simp
              refine hK.out _ _ ?_ (fun hHeld => ?_)
              · ((try dsimp only); go_keep)
              clear hK K
              (try simp only [Act.put, List.setIfInBounds_toArray, List.set_cons_zero, List.set_cons_succ])
              refine wpAnyH_ready (rs := [15]) (by kernel_rfl) (by simp) ?_
              refine AllReadyH.cons rfl (fun K hK => ?_) AllReadyH.nil
              go_simp
              refine hK.out _ _ ?_ (fun hHeld => ?_)
              · ((try dsimp only); go_keep)
              clear hK K
              (try simp only [Act.put, List.setIfInBounds_toArray, List.set_cons_zero, List.set_cons_succ])
              refine wpAnyH_take (i := 16) (v := ?_) rfl (by kernel_rfl) (by kernel_rfl) (by kernel_rfl) (fun _ _ _ h => h) (Or.inl ⟨by rfl, ?_⟩) (by assumption) ?_
              rotate_left
              · (intro wS hSw; (try dsimp only at hSw); go_simp; (try with_reducible rfl))
              (try simp only [Act.put, List.setIfInBounds_toArray, List.set_cons_zero, List.set_cons_succ])
              refine wpAnyH_done (by kernel_rfl) ?_ _
              (try simp only [List.getElem_toArray, List.getElem_cons_zero, List.getElem_cons_succ, Act.put, List.setIfInBounds_toArray, List.set_cons_zero, List.set_cons_succ])
              have hA := (((AAw2r65.out).set 0 (.bool (ineg (px : Int)))).set 1 (.string (imag (px : Int)))).of_block ((Below.heap_setCell _ ⟨bBw2r60, 1, none⟩ (.string (imag (p : Int))) bAw2r64 hne3).trans (Below.heap_setCell _ ⟨bBw2r60, 0, none⟩ (.bool (ineg (p : Int))) bAw2r64 hne3))
              have hB := (((ABw2r65.out).of_block ((Below.heap_setCell _ ⟨bAw2r64, 1, none⟩ (.string (imag (px : Int))) bBw2r60 hne4).trans (Below.heap_setCell _ ⟨bAw2r64, 0, none⟩ (.bool (ineg (px : Int))) bBw2r60 hne4))).set 0 (.bool (ineg (p : Int)))).set 1 (.string (imag (p : Int)))
              have hS := ((((Sw2r65.out).setCell (p := ⟨bAw2r64, 0, none⟩) (show w2.heap.size ≤ bAw2r64 by omega) (.bool (ineg (px : Int)))).setCell (p := ⟨bAw2r64, 1, none⟩) (show w2.heap.size ≤ bAw2r64 by omega) (.string (imag (px : Int)))).setCell (p := ⟨bBw2r60, 0, none⟩) (show w2.heap.size ≤ bBw2r60 by omega) (.bool (ineg (p : Int)))).setCell (p := ⟨bBw2r60, 1, none⟩) (show w2.heap.size ≤ bBw2r60 by omega) (.string (imag (p : Int)))
              clear hHeld
              go_wp2_with fail
              go_meet
              exact ⟨_, _, rfl, rfl, rfl, hS, hA, hB⟩
          · go_simp
            refine hK.out _ _ ?_ (fun hHeld => ?_)
            · ((try dsimp only); go_keep)
            clear hK K
            (try simp only [Act.put, List.setIfInBounds_toArray, List.set_cons_zero, List.set_cons_succ])
            have hbq : Below (w2r60).heap.size (w2r60) ((w2r60).alloc (.cells #[.bool false, .string ⟨#[]⟩] 26)) := (Below.refl _ _).alloc (Nat.le_refl _) _
            have a5 := Blk.new (w2r60) 26 [.bool false, .string ⟨#[]⟩]
            have g5 : (w2r60).heap.size = w2r60.heap.size := rfl
            rw [g5] at a5
            have s5 := (Sw2r60.out).trans (hbq.mono (Sw2r60.out).size)
            obtain ⟨bAw2r66, hba⟩ : ∃ ba, ba = w2r60.heap.size := ⟨_, rfl⟩
            have hanew2r66 : w2.heap.size ≤ bAw2r66 := by have := (Sw2r60.out).size; omega
            rw [← hba] at a5
            have e5 : (w2r60).alloc (.cells #[.bool false, .string ⟨#[]⟩] 26) = (w2r60).alloc (.cells #[.bool false, .string ⟨#[]⟩] 26) := rfl
            rw [e5] at a5 s5 hbq
            have a6B := (ABw2r60.out).keep hbq
            have hnnw2r66 : ¬ bBw2r60 = bAw2r66 := by have := (ABw2r60.out).lt; omega
            obtain ⟨w2r66, hv5⟩ : ∃ w2r66, (w2r60).alloc (.cells #[.bool false, .string ⟨#[]⟩] 26) = w2r66 := ⟨_, rfl⟩
            rw [hv5] at hHeld a5 s5 hbq a6B
            have l5 : w2.heap.size ≤ w2r66.heap.size := s5.size
            have AAw2r66 := Lib.hid a5; clear a5
            have ABw2r66 := Lib.hid a6B; clear a6B
            have Sw2r66 := Lib.hid s5; clear s5
            have hpa : (Value.pointer (some ⟨w2r60.heap.size, 0, none⟩)) = Value.pointer (some ⟨bAw2r66, 0, none⟩) := by rw [hba]
            (try simp only [World.size_drew])
            rw [hv5]
            (try rw [hpa])
            clear hbq hv5 hba hpa g5 e5
            refine wpAnyH_ready (rs := [2]) (by kernel_rfl) (by simp) ?_
            refine AllReadyH.cons rfl (fun K hK => ?_) AllReadyH.nil
            go_simp
            go_at_call 18
            refine (HOX.out _).mono ?_
            rintro e w2r67 ⟨hq, rfl⟩
            dsimp only
            have z0 := (hq.cell (p := ⟨fb, s0 * 2, none⟩) (show fb < w2r66.heap.size by omega)).trans hHeld.1
            have z1 := (hq.cell (p := ⟨fb, s0 * 2 + 1, none⟩) (show fb < w2r66.heap.size by omega)).trans hHeld.2
            refine hK.out _ _ ⟨z0, z1⟩ (fun hHeld => ?_)
            clear hK K
            (try simp only [Act.put, List.setIfInBounds_toArray, List.set_cons_zero, List.set_cons_succ])
            have s5 := (Sw2r66.out).trans (hq.mono (Sw2r66.out).size)
            have l5 : w2.heap.size ≤ w2r67.heap.size := s5.size
            have a5 := (ABw2r66.out).keep hq
            have ABw2r67 := Lib.hid a5; clear a5
            have a5 := (AAw2r66.out).keep hq
            have AAw2r67 := Lib.hid a5; clear a5
            have Sw2r67 := Lib.hid s5; clear s5
            clear hq z0 z1
            refine wpAnyH_ready (rs := [7]) (by kernel_rfl) (by simp) ?_
            refine AllReadyH.cons rfl (fun K hK => ?_) AllReadyH.nil
            go_simp
            go_at_call 29
            refine (HDX.out _).mono ?_
            rintro e w2r68 ⟨hq, rfl⟩
            dsimp only
            have z0 := (hq.cell (p := ⟨fb, s0 * 2, none⟩) (show fb < w2r67.heap.size by omega)).trans hHeld.1
            have z1 := (hq.cell (p := ⟨fb, s0 * 2 + 1, none⟩) (show fb < w2r67.heap.size by omega)).trans hHeld.2
            refine hK.out _ _ ⟨z0, z1⟩ (fun hHeld => ?_)
            clear hK K
            (try simp only [Act.put, List.setIfInBounds_toArray, List.set_cons_zero, List.set_cons_succ])
            have s5 := (Sw2r67.out).trans (hq.mono (Sw2r67.out).size)
            have l5 : w2.heap.size ≤ w2r68.heap.size := s5.size
            have a5 := (ABw2r67.out).keep hq
            have ABw2r68 := Lib.hid a5; clear a5
            have a5 := (AAw2r67.out).keep hq
            have AAw2r68 := Lib.hid a5; clear a5
            have Sw2r68 := Lib.hid s5; clear s5
            clear hq z0 z1
            refine wpAnyH_take (i := 8) (v := ?_) rfl (by kernel_rfl) (by kernel_rfl) (by kernel_rfl) (fun _ _ _ h => h) (Or.inl ⟨by rfl, ?_⟩) (by assumption) ?_
            rotate_left
            · (intro wS hSw; (try dsimp only at hSw); go_simp; (try with_reducible rfl))
            (try simp only [Act.put, List.setIfInBounds_toArray, List.set_cons_zero, List.set_cons_succ])
            refine wpAnyH_take (i := 9) (v := ?_) rfl (by kernel_rfl) (by kernel_rfl) (by kernel_rfl) (fun _ _ _ h => h) (Or.inl ⟨by rfl, ?_⟩) (by assumption) ?_
            rotate_left
            · (intro wS hSw; (try dsimp only at hSw); go_simp; (try with_reducible rfl))
            (try simp only [Act.put, List.setIfInBounds_toArray, List.set_cons_zero, List.set_cons_succ])
            refine wpAnyH_take (i := 10) (v := ?_) rfl (by kernel_rfl) (by kernel_rfl) (by kernel_rfl) (fun _ _ _ h => h) (Or.inl ⟨by rfl, ?_⟩) (by assumption) ?_
            rotate_left
            · (intro wS hSw; (try dsimp only at hSw); go_simp; (try with_reducible rfl))
            (try simp only [Act.put, List.setIfInBounds_toArray, List.set_cons_zero, List.set_cons_succ])
            refine wpAnyH_take (i := 11) (v := ?_) rfl (by kernel_rfl) (by kernel_rfl) (by kernel_rfl) (fun _ _ _ h => h) (Or.inl ⟨by rfl, ?_⟩) (by assumption) ?_
            rotate_left
            · (intro wS hSw; (try dsimp only at hSw); go_simp; (try with_reducible rfl))
            (try simp only [Act.put, List.setIfInBounds_toArray, List.set_cons_zero, List.set_cons_succ])
            have a0 := (AAw2r68.out).cell (j := 0) rfl
            have a1 := (AAw2r68.out).cell (j := 1) rfl
            have b0 := (ABw2r68.out).cell (j := 0) rfl
            have b1 := (ABw2r68.out).cell (j := 1) rfl
            have f0 := (AAw2r68.out).frozen 0
            have f1 := (AAw2r68.out).frozen 1
            have f2 := (ABw2r68.out).frozen 0
            have f3 := (ABw2r68.out).frozen 1
            have hne1 : ¬ bAw2r66 = fb := by omega
            have hne2 : ¬ bBw2r60 = fb := by omega
            have hne3 : ¬ bAw2r66 = bBw2r60 := by omega
            have hne4 : ¬ bBw2r60 = bAw2r66 := by omega
            refine wpAnyH_ready (rs := [14]) (by kernel_rfl) (by simp) ?_
            refine AllReadyH.cons rfl (fun K hK => ?_) AllReadyH.nil
            go_simp
            refine hK.out _ _ ?_ (fun hHeld => ?_)
            · ((try dsimp only); go_keep)
            clear hK K
            (try simp only [Act.put, List.setIfInBounds_toArray, List.set_cons_zero, List.set_cons_succ])
            refine wpAnyH_ready (rs := [15]) (by kernel_rfl) (by simp) ?_
            refine AllReadyH.cons rfl (fun K hK => ?_) AllReadyH.nil
            go_simp
            refine hK.out _ _ ?_ (fun hHeld => ?_)
            · ((try dsimp only); go_keep)
            clear hK K
            (try simp only [Act.put, List.setIfInBounds_toArray, List.set_cons_zero, List.set_cons_succ])
            refine wpAnyH_take (i := 16) (v := ?_) rfl (by kernel_rfl) (by kernel_rfl) (by kernel_rfl) (fun _ _ _ h => h) (Or.inl ⟨by rfl, ?_⟩) (by assumption) ?_
            rotate_left
            · (intro wS hSw; (try dsimp only at hSw); go_simp; (try with_reducible rfl))
            (try simp only [Act.put, List.setIfInBounds_toArray, List.set_cons_zero, List.set_cons_succ])
            refine wpAnyH_done (by kernel_rfl) ?_ _
            (try simp only [List.getElem_toArray, List.getElem_cons_zero, List.getElem_cons_succ, Act.put, List.setIfInBounds_toArray, List.set_cons_zero, List.set_cons_succ])
            have hA := (((AAw2r68.out).set 0 (.bool (ineg (px : Int)))).set 1 (.string (imag (px : Int)))).of_block ((Below.heap_setCell _ ⟨bBw2r60, 1, none⟩ (.string (imag (p : Int))) bAw2r66 hne3).trans (Below.heap_setCell _ ⟨bBw2r60, 0, none⟩ (.bool (ineg (p : Int))) bAw2r66 hne3))
            have hB := (((ABw2r68.out).of_block ((Below.heap_setCell _ ⟨bAw2r66, 1, none⟩ (.string (imag (px : Int))) bBw2r60 hne4).trans (Below.heap_setCell _ ⟨bAw2r66, 0, none⟩ (.bool (ineg (px : Int))) bBw2r60 hne4))).set 0 (.bool (ineg (p : Int)))).set 1 (.string (imag (p : Int)))
            have hS := ((((Sw2r68.out).setCell (p := ⟨bAw2r66, 0, none⟩) (show w2.heap.size ≤ bAw2r66 by omega) (.bool (ineg (px : Int)))).setCell (p := ⟨bAw2r66, 1, none⟩) (show w2.heap.size ≤ bAw2r66 by omega) (.string (imag (px : Int)))).setCell (p := ⟨bBw2r60, 0, none⟩) (show w2.heap.size ≤ bBw2r60 by omega) (.bool (ineg (p : Int)))).setCell (p := ⟨bBw2r60, 1, none⟩) (show w2.heap.size ≤ bBw2r60 by omega) (.string (imag (p : Int)))
            clear hHeld
            go_wp2_with fail
            go_meet
            exact ⟨_, _, rfl, rfl, rfl, hS, hA, hB⟩
    case rest =>
      obtain ⟨i, j, rfl, rfl, rfl, hq, hbi, hbj⟩ := hcut
      obtain ⟨w3, rfl⟩ : ∃ w3 : World, w3 = wc := ⟨_, rfl⟩
      have s3 := S2.out.trans (hq.mono S2.out.size)
      have hr3 := HR2.out.below hq (Nat.le_refl _)
      clear x0 x1 x2
      have tk := D0.out.keep hq; have x0 := tk.cell (j := 0) rfl; have x1 := tk.cell (j := 1) rfl; have x2 := tk.cell (j := 2) rfl; have E0 := Lib.hid tk; clear tk
      have S3 := Lib.hid s3; clear s3
      have HR3 := Lib.hid hr3; clear hr3
      have hfb3 := HFB.out.keep hq
      clear u0 u1
      have u0 := hfb3.cell (civ_get HGR.out).1
      have u1 := hfb3.cell (civ_get HGR.out).2
      have hfl3 := hfb3.lt
      have HFB3 := Lib.hid hfb3; clear hfb3
      have HBJ := Lib.hid hbj; clear hbj
      clear hq hbi
      clear hfl HFB
      go_upto_region 11 with fail
      go_cut [21, 22, 23] (fun sb sc sa wx => ∃ i j, sa = .int .i64 0 ∧ sb = .pointer (some ⟨i, 0, none⟩) ∧ sc = .pointer (some ⟨j, 0, none⟩) ∧ Below w3.heap.size w3 wx ∧ Blk wx i 26 [.bool (ineg (qy : Int)), .string (imag (qy : Int))] ∧ Blk wx j 26 [.bool (ineg (q : Int)), .string (imag (q : Int))])
      case first =>
        as_aux_lemma =>
          refine wp_region_held_drew (S := fun w' => w'.cell? ⟨fb, s0 * 2, none⟩ = some (.bool (ineg (c : Int))) ∧ w'.cell? ⟨fb, s0 * 2 + 1, none⟩ = some (.string (imag (c : Int)))) (by kernel_rfl) ?_ (fun hHeld => ?_)
          · go_keep
          refine wpAnyH_take (i := 0) (v := ?_) rfl (by kernel_rfl) (by kernel_rfl) (by kernel_rfl) (fun _ _ _ h => h) (Or.inl ⟨by rfl, ?_⟩) (by assumption) ?_
          rotate_left
          · (intro wS hSw; (try dsimp only at hSw); go_simp; (try with_reducible rfl))
          (try simp only [Act.put, List.setIfInBounds_toArray, List.set_cons_zero, List.set_cons_succ])
          refine wpAnyH_take (i := 1) (v := ?_) rfl (by kernel_rfl) (by kernel_rfl) (by kernel_rfl) (fun _ _ _ h => h) (Or.inl ⟨by rfl, ?_⟩) (by assumption) ?_
          rotate_left
          · (intro wS hSw; (try dsimp only at hSw); go_simp; (try with_reducible rfl))
          (try simp only [Act.put, List.setIfInBounds_toArray, List.set_cons_zero, List.set_cons_succ])
          refine wpAnyH_take (i := 3) (v := ?_) rfl (by kernel_rfl) (by kernel_rfl) (by kernel_rfl) (fun _ _ _ h => h) (Or.inl ⟨by rfl, ?_⟩) (by assumption) ?_
          rotate_left
          · (intro wS hSw; (try dsimp only at hSw); go_simp; (try with_reducible rfl))
          (try simp only [Act.put, List.setIfInBounds_toArray, List.set_cons_zero, List.set_cons_succ])
          refine wpAnyH_take (i := 4) (v := ?_) rfl (by kernel_rfl) (by kernel_rfl) (by kernel_rfl) (fun _ _ _ h => h) (Or.inl ⟨by rfl, ?_⟩) (by assumption) ?_
          rotate_left
          · (intro wS hSw; (try dsimp only at hSw); go_simp; (try with_reducible rfl))
          (try simp only [Act.put, List.setIfInBounds_toArray, List.set_cons_zero, List.set_cons_succ])
          refine wpAnyH_take (i := 5) (v := ?_) rfl (by kernel_rfl) (by kernel_rfl) (by kernel_rfl) (fun _ _ _ h => h) (Or.inl ⟨by rfl, ?_⟩) (by assumption) ?_
          rotate_left
          · (intro wS hSw; (try dsimp only at hSw); go_simp; (try with_reducible rfl))
          (try simp only [Act.put, List.setIfInBounds_toArray, List.set_cons_zero, List.set_cons_succ])
          refine wpAnyH_take (i := 6) (v := ?_) rfl (by kernel_rfl) (by kernel_rfl) (by kernel_rfl) (fun _ _ _ h => h) (Or.inl ⟨by rfl, ?_⟩) (by assumption) ?_
          rotate_left
          · (intro wS hSw; (try dsimp only at hSw); go_simp; (try with_reducible rfl))
          (try simp only [Act.put, List.setIfInBounds_toArray, List.set_cons_zero, List.set_cons_succ])
          refine wpAnyH_ready (rs := [2, 12, 13]) (by kernel_rfl) (by simp) ?_
          refine AllReadyH.cons rfl (fun K hK => ?_) (AllReadyH.cons rfl (fun K hK => ?_) (AllReadyH.cons rfl (fun K hK => ?_) AllReadyH.nil))
          · go_simp
            go_at_call 18
            refine (HOY.out _).mono ?_
            rintro e w3r1 ⟨hq, rfl⟩
            dsimp only
            have z0 := (hq.cell (p := ⟨fb, s0 * 2, none⟩) (show fb < w3.heap.size by omega)).trans hHeld.1
            have z1 := (hq.cell (p := ⟨fb, s0 * 2 + 1, none⟩) (show fb < w3.heap.size by omega)).trans hHeld.2
            refine hK.out _ _ ⟨z0, z1⟩ (fun hHeld => ?_)
            clear hK K
            (try simp only [Act.put, List.setIfInBounds_toArray, List.set_cons_zero, List.set_cons_succ])
            have s5 := ((Below.refl w3.heap.size w3).drew).trans (hq.mono ((Below.refl w3.heap.size w3).drew).size)
            have l5 : w3.heap.size ≤ w3r1.heap.size := s5.size
            have Sw3r1 := Lib.hid s5; clear s5
            clear hq z0 z1
            refine wpAnyH_ready (rs := [7, 12, 13]) (by kernel_rfl) (by simp) ?_
            refine AllReadyH.cons rfl (fun K hK => ?_) (AllReadyH.cons rfl (fun K hK => ?_) (AllReadyH.cons rfl (fun K hK => ?_) AllReadyH.nil))
            · go_simp
              go_at_call 29
              refine (HDY.out _).mono ?_
              rintro e w3r2 ⟨hq, rfl⟩
              dsimp only
              have z0 := (hq.cell (p := ⟨fb, s0 * 2, none⟩) (show fb < w3r1.heap.size by omega)).trans hHeld.1
              have z1 := (hq.cell (p := ⟨fb, s0 * 2 + 1, none⟩) (show fb < w3r1.heap.size by omega)).trans hHeld.2
              refine hK.out _ _ ⟨z0, z1⟩ (fun hHeld => ?_)
              clear hK K
              (try simp only [Act.put, List.setIfInBounds_toArray, List.set_cons_zero, List.set_cons_succ])
              have s5 := (Sw3r1.out).trans (hq.mono (Sw3r1.out).size)
              have l5 : w3.heap.size ≤ w3r2.heap.size := s5.size
              have Sw3r2 := Lib.hid s5; clear s5
              clear hq z0 z1
              refine wpAnyH_take (i := 8) (v := ?_) rfl (by kernel_rfl) (by kernel_rfl) (by kernel_rfl) (fun _ _ _ h => h) (Or.inl ⟨by rfl, ?_⟩) (by assumption) ?_
              rotate_left
              · (intro wS hSw; (try dsimp only at hSw); go_simp; (try with_reducible rfl))
              (try simp only [Act.put, List.setIfInBounds_toArray, List.set_cons_zero, List.set_cons_succ])
              refine wpAnyH_take (i := 9) (v := ?_) rfl (by kernel_rfl) (by kernel_rfl) (by kernel_rfl) (fun _ _ _ h => h) (Or.inl ⟨by rfl, ?_⟩) (by assumption) ?_
              rotate_left
              · (intro wS hSw; (try dsimp only at hSw); go_simp; (try with_reducible rfl))
              (try simp only [Act.put, List.setIfInBounds_toArray, List.set_cons_zero, List.set_cons_succ])
              refine wpAnyH_take (i := 10) (v := ?_) rfl (by kernel_rfl) (by kernel_rfl) (by kernel_rfl) (fun _ _ _ h => h) (Or.inl ⟨by rfl, ?_⟩) (by assumption) ?_
              rotate_left
              · (intro wS hSw; (try dsimp only at hSw); go_simp; (try with_reducible rfl))
              (try simp only [Act.put, List.setIfInBounds_toArray, List.set_cons_zero, List.set_cons_succ])
              refine wpAnyH_take (i := 11) (v := ?_) rfl (by kernel_rfl) (by kernel_rfl) (by kernel_rfl) (fun _ _ _ h => h) (Or.inl ⟨by rfl, ?_⟩) (by assumption) ?_
              rotate_left
              · (intro wS hSw; (try dsimp only at hSw); go_simp; (try with_reducible rfl))
              (try simp only [Act.put, List.setIfInBounds_toArray, List.set_cons_zero, List.set_cons_succ])
              refine wpAnyH_ready (rs := [12, 13]) (by kernel_rfl) (by simp) ?_
              refine AllReadyH.cons rfl (fun K hK => ?_) (AllReadyH.cons rfl (fun K hK => ?_) AllReadyH.nil)
              · go_simp
                refine hK.out _ _ ?_ (fun hHeld => ?_)
                · ((try dsimp only); go_keep)
                clear hK K
                (try simp only [Act.put, List.setIfInBounds_toArray, List.set_cons_zero, List.set_cons_succ])
                have hbq : Below (w3r2).heap.size (w3r2) ((w3r2).alloc (.cells #[.bool false, .string ⟨#[]⟩] 26)) := (Below.refl _ _).alloc (Nat.le_refl _) _
                have a5 := Blk.new (w3r2) 26 [.bool false, .string ⟨#[]⟩]
                have g5 : (w3r2).heap.size = w3r2.heap.size := rfl
                rw [g5] at a5
                have s5 := (Sw3r2.out).trans (hbq.mono (Sw3r2.out).size)
                obtain ⟨bAw3r3, hba⟩ : ∃ ba, ba = w3r2.heap.size := ⟨_, rfl⟩
                have hanew3r3 : w3.heap.size ≤ bAw3r3 := by have := (Sw3r2.out).size; omega
                rw [← hba] at a5
                have e5 : (w3r2).alloc (.cells #[.bool false, .string ⟨#[]⟩] 26) = (w3r2).alloc (.cells #[.bool false, .string ⟨#[]⟩] 26) := rfl
                rw [e5] at a5 s5 hbq
                obtain ⟨w3r3, hv5⟩ : ∃ w3r3, (w3r2).alloc (.cells #[.bool false, .string ⟨#[]⟩] 26) = w3r3 := ⟨_, rfl⟩
                rw [hv5] at hHeld a5 s5 hbq
                have l5 : w3.heap.size ≤ w3r3.heap.size := s5.size
                have AAw3r3 := Lib.hid a5; clear a5
                have Sw3r3 := Lib.hid s5; clear s5
                have hpa : (Value.pointer (some ⟨w3r2.heap.size, 0, none⟩)) = Value.pointer (some ⟨bAw3r3, 0, none⟩) := by rw [hba]
                (try simp only [World.size_drew])
                rw [hv5]
                (try rw [hpa])
                clear hbq hv5 hba hpa g5 e5
                refine wpAnyH_ready (rs := [13]) (by kernel_rfl) (by simp) ?_
                refine AllReadyH.cons rfl (fun K hK => ?_) AllReadyH.nil
                go_simp
                refine hK.out _ _ ?_ (fun hHeld => ?_)
                · ((try dsimp only); go_keep)
                clear hK K
                (try simp only [Act.put, List.setIfInBounds_toArray, List.set_cons_zero, List.set_cons_succ])
                have hbq : Below (w3r3).heap.size (w3r3) ((w3r3).alloc (.cells #[.bool false, .string ⟨#[]⟩] 26)) := (Below.refl _ _).alloc (Nat.le_refl _) _
                have a5 := Blk.new (w3r3) 26 [.bool false, .string ⟨#[]⟩]
                have g5 : (w3r3).heap.size = w3r3.heap.size := rfl
                rw [g5] at a5
                have s5 := (Sw3r3.out).trans (hbq.mono (Sw3r3.out).size)
                obtain ⟨bBw3r4, hba⟩ : ∃ ba, ba = w3r3.heap.size := ⟨_, rfl⟩
                have hanew3r4 : w3.heap.size ≤ bBw3r4 := by have := (Sw3r3.out).size; omega
                rw [← hba] at a5
                have e5 : (w3r3).alloc (.cells #[.bool false, .string ⟨#[]⟩] 26) = (w3r3).alloc (.cells #[.bool false, .string ⟨#[]⟩] 26) := rfl
                rw [e5] at a5 s5 hbq
                have a6A := (AAw3r3.out).keep hbq
                have hnnw3r4 : ¬ bAw3r3 = bBw3r4 := by have := (AAw3r3.out).lt; omega
                obtain ⟨w3r4, hv5⟩ : ∃ w3r4, (w3r3).alloc (.cells #[.bool false, .string ⟨#[]⟩] 26) = w3r4 := ⟨_, rfl⟩
                rw [hv5] at hHeld a5 s5 hbq a6A
                have l5 : w3.heap.size ≤ w3r4.heap.size := s5.size
                have ABw3r4 := Lib.hid a5; clear a5
                have AAw3r4 := Lib.hid a6A; clear a6A
                have Sw3r4 := Lib.hid s5; clear s5
                have hpa : (Value.pointer (some ⟨w3r3.heap.size, 0, none⟩)) = Value.pointer (some ⟨bBw3r4, 0, none⟩) := by rw [hba]
                (try simp only [World.size_drew])
                rw [hv5]
                (try rw [hpa])
                clear hbq hv5 hba hpa g5 e5
                have a0 := (AAw3r4.out).cell (j := 0) rfl
                have a1 := (AAw3r4.out).cell (j := 1) rfl
                have b0 := (ABw3r4.out).cell (j := 0) rfl
                have b1 := (ABw3r4.out).cell (j := 1) rfl
                have f0 := (AAw3r4.out).frozen 0
                have f1 := (AAw3r4.out).frozen 1
                have f2 := (ABw3r4.out).frozen 0
                have f3 := (ABw3r4.out).frozen 1
                have hne1 : ¬ bAw3r3 = fb := by omega
                have hne2 : ¬ bBw3r4 = fb := by omega
                have hne3 : ¬ bAw3r3 = bBw3r4 := by omega
                have hne4 : ¬ bBw3r4 = bAw3r3 := by omega
                refine wpAnyH_ready (rs := [14]) (by kernel_rfl) (by simp) ?_
                refine AllReadyH.cons rfl (fun K hK => ?_) AllReadyH.nil
                go_simp
                refine hK.out _ _ ?_ (fun hHeld => ?_)
                · ((try dsimp only); go_keep)
                clear hK K
                (try simp only [Act.put, List.setIfInBounds_toArray, List.set_cons_zero, List.set_cons_succ])
                refine wpAnyH_ready (rs := [15]) (by kernel_rfl) (by simp) ?_
                refine AllReadyH.cons rfl (fun K hK => ?_) AllReadyH.nil
                go_simp
                refine hK.out _ _ ?_ (fun hHeld => ?_)
                · ((try dsimp only); go_keep)
                clear hK K
                (try simp only [Act.put, List.setIfInBounds_toArray, List.set_cons_zero, List.set_cons_succ])
                refine wpAnyH_take (i := 16) (v := ?_) rfl (by kernel_rfl) (by kernel_rfl) (by kernel_rfl) (fun _ _ _ h => h) (Or.inl ⟨by rfl, ?_⟩) (by assumption) ?_
                rotate_left
                · (intro wS hSw; (try dsimp only at hSw); go_simp; (try with_reducible rfl))
                (try simp only [Act.put, List.setIfInBounds_toArray, List.set_cons_zero, List.set_cons_succ])
                refine wpAnyH_done (by kernel_rfl) ?_ _
                (try simp only [List.getElem_toArray, List.getElem_cons_zero, List.getElem_cons_succ, Act.put, List.setIfInBounds_toArray, List.set_cons_zero, List.set_cons_succ])
                have hA := (((AAw3r4.out).set 0 (.bool (ineg (qy : Int)))).set 1 (.string (imag (qy : Int)))).of_block ((Below.heap_setCell _ ⟨bBw3r4, 1, none⟩ (.string (imag (q : Int))) bAw3r3 hne3).trans (Below.heap_setCell _ ⟨bBw3r4, 0, none⟩ (.bool (ineg (q : Int))) bAw3r3 hne3))
                have hB := (((ABw3r4.out).of_block ((Below.heap_setCell _ ⟨bAw3r3, 1, none⟩ (.string (imag (qy : Int))) bBw3r4 hne4).trans (Below.heap_setCell _ ⟨bAw3r3, 0, none⟩ (.bool (ineg (qy : Int))) bBw3r4 hne4))).set 0 (.bool (ineg (q : Int)))).set 1 (.string (imag (q : Int)))
                have hS := ((((Sw3r4.out).setCell (p := ⟨bAw3r3, 0, none⟩) (show w3.heap.size ≤ bAw3r3 by omega) (.bool (ineg (qy : Int)))).setCell (p := ⟨bAw3r3, 1, none⟩) (show w3.heap.size ≤ bAw3r3 by omega) (.string (imag (qy : Int)))).setCell (p := ⟨bBw3r4, 0, none⟩) (show w3.heap.size ≤ bBw3r4 by omega) (.bool (ineg (q : Int)))).setCell (p := ⟨bBw3r4, 1, none⟩) (show w3.heap.size ≤ bBw3r4 by omega) (.string (imag (q : Int)))
                clear hHeld
                go_wp2_with fail
                go_meet
                exact ⟨_, _, rfl, rfl, rfl, hS, hA, hB⟩
              · go_simp
                refine hK.out _ _ ?_ (fun hHeld => ?_)
                · ((try dsimp only); go_keep)
                clear hK K
                (try simp only [Act.put, List.setIfInBounds_toArray, List.set_cons_zero, List.set_cons_succ])
                have hbq : Below (w3r2).heap.size (w3r2) ((w3r2).alloc (.cells #[.bool false, .string ⟨#[]⟩] 26)) := (Below.refl _ _).alloc (Nat.le_refl _) _
                have a5 := Blk.new (w3r2) 26 [.bool false, .string ⟨#[]⟩]
                have g5 : (w3r2).heap.size = w3r2.heap.size := rfl
                rw [g5] at a5
                have s5 := (Sw3r2.out).trans (hbq.mono (Sw3r2.out).size)
                obtain ⟨bBw3r5, hba⟩ : ∃ ba, ba = w3r2.heap.size := ⟨_, rfl⟩
                have hanew3r5 : w3.heap.size ≤ bBw3r5 := by have := (Sw3r2.out).size; omega
                rw [← hba] at a5
                have e5 : (w3r2).alloc (.cells #[.bool false, .string ⟨#[]⟩] 26) = (w3r2).alloc (.cells #[.bool false, .string ⟨#[]⟩] 26) := rfl
                rw [e5] at a5 s5 hbq
                obtain ⟨w3r5, hv5⟩ : ∃ w3r5, (w3r2).alloc (.cells #[.bool false, .string ⟨#[]⟩] 26) = w3r5 := ⟨_, rfl⟩
                rw [hv5] at hHeld a5 s5 hbq
                have l5 : w3.heap.size ≤ w3r5.heap.size := s5.size
                have ABw3r5 := Lib.hid a5; clear a5
                have Sw3r5 := Lib.hid s5; clear s5
                have hpa : (Value.pointer (some ⟨w3r2.heap.size, 0, none⟩)) = Value.pointer (some ⟨bBw3r5, 0, none⟩) := by rw [hba]
                (try simp only [World.size_drew])
                rw [hv5]
                (try rw [hpa])
                clear hbq hv5 hba hpa g5 e5
                refine wpAnyH_ready (rs := [12]) (by kernel_rfl) (by simp) ?_
                refine AllReadyH.cons rfl (fun K hK => ?_) AllReadyH.nil
                go_simp
                refine hK.out _ _ ?_ (fun hHeld => ?_)
                · ((try dsimp only); go_keep)
                clear hK K
                (try simp only [Act.put, List.setIfInBounds_toArray, List.set_cons_zero, List.set_cons_succ])
                have hbq : Below (w3r5).heap.size (w3r5) ((w3r5).alloc (.cells #[.bool false, .string ⟨#[]⟩] 26)) := (Below.refl _ _).alloc (Nat.le_refl _) _
                have a5 := Blk.new (w3r5) 26 [.bool false, .string ⟨#[]⟩]
                have g5 : (w3r5).heap.size = w3r5.heap.size := rfl
                rw [g5] at a5
                have s5 := (Sw3r5.out).trans (hbq.mono (Sw3r5.out).size)
                obtain ⟨bAw3r6, hba⟩ : ∃ ba, ba = w3r5.heap.size := ⟨_, rfl⟩
                have hanew3r6 : w3.heap.size ≤ bAw3r6 := by have := (Sw3r5.out).size; omega
                rw [← hba] at a5
                have e5 : (w3r5).alloc (.cells #[.bool false, .string ⟨#[]⟩] 26) = (w3r5).alloc (.cells #[.bool false, .string ⟨#[]⟩] 26) := rfl
                rw [e5] at a5 s5 hbq
                have a6B := (ABw3r5.out).keep hbq
                have hnnw3r6 : ¬ bBw3r5 = bAw3r6 := by have := (ABw3r5.out).lt; omega
                obtain ⟨w3r6, hv5⟩ : ∃ w3r6, (w3r5).alloc (.cells #[.bool false, .string ⟨#[]⟩] 26) = w3r6 := ⟨_, rfl⟩
                rw [hv5] at hHeld a5 s5 hbq a6B
                have l5 : w3.heap.size ≤ w3r6.heap.size := s5.size
                have AAw3r6 := Lib.hid a5; clear a5
                have ABw3r6 := Lib.hid a6B; clear a6B
                have Sw3r6 := Lib.hid s5; clear s5
                have hpa : (Value.pointer (some ⟨w3r5.heap.size, 0, none⟩)) = Value.pointer (some ⟨bAw3r6, 0, none⟩) := by rw [hba]
                (try simp only [World.size_drew])
                rw [hv5]
                (try rw [hpa])
                clear hbq hv5 hba hpa g5 e5
                have a0 := (AAw3r6.out).cell (j := 0) rfl
                have a1 := (AAw3r6.out).cell (j := 1) rfl
                have b0 := (ABw3r6.out).cell (j := 0) rfl
                have b1 := (ABw3r6.out).cell (j := 1) rfl
                have f0 := (AAw3r6.out).frozen 0
                have f1 := (AAw3r6.out).frozen 1
                have f2 := (ABw3r6.out).frozen 0
                have f3 := (ABw3r6.out).frozen 1
                have hne1 : ¬ bAw3r6 = fb := by omega
                have hne2 : ¬ bBw3r5 = fb := by omega
                have hne3 : ¬ bAw3r6 = bBw3r5 := by omega
                have hne4 : ¬ bBw3r5 = bAw3r6 := by omega
                refine wpAnyH_ready (rs := [14]) (by kernel_rfl) (by simp) ?_
                refine AllReadyH.cons rfl (fun K hK => ?_) AllReadyH.nil
                go_simp
                refine hK.out _ _ ?_ (fun hHeld => ?_)
                · ((try dsimp only); go_keep)
                clear hK K
                (try simp only [Act.put, List.setIfInBounds_toArray, List.set_cons_zero, List.set_cons_succ])
                refine wpAnyH_ready (rs := [15]) (by kernel_rfl) (by simp) ?_
                refine AllReadyH.cons rfl (fun K hK => ?_) AllReadyH.nil
                go_simp
                refine hK.out _ _ ?_ (fun hHeld => ?_)
                · ((try dsimp only); go_keep)
                clear hK K
                (try simp only [Act.put, List.setIfInBounds_toArray, List.set_cons_zero, List.set_cons_succ])
                refine wpAnyH_take (i := 16) (v := ?_) rfl (by kernel_rfl) (by kernel_rfl) (by kernel_rfl) (fun _ _ _ h => h) (Or.inl ⟨by rfl, ?_⟩) (by assumption) ?_
                rotate_left
                · (intro wS hSw; (try dsimp only at hSw); go_simp; (try with_reducible rfl))
                (try simp only [Act.put, List.setIfInBounds_toArray, List.set_cons_zero, List.set_cons_succ])
                refine wpAnyH_done (by kernel_rfl) ?_ _
                (try simp only [List.getElem_toArray, List.getElem_cons_zero, List.getElem_cons_succ, Act.put, List.setIfInBounds_toArray, List.set_cons_zero, List.set_cons_succ])
                have hA := (((AAw3r6.out).set 0 (.bool (ineg (qy : Int)))).set 1 (.string (imag (qy : Int)))).of_block ((Below.heap_setCell _ ⟨bBw3r5, 1, none⟩ (.string (imag (q : Int))) bAw3r6 hne3).trans (Below.heap_setCell _ ⟨bBw3r5, 0, none⟩ (.bool (ineg (q : Int))) bAw3r6 hne3))
                have hB := (((ABw3r6.out).of_block ((Below.heap_setCell _ ⟨bAw3r6, 1, none⟩ (.string (imag (qy : Int))) bBw3r5 hne4).trans (Below.heap_setCell _ ⟨bAw3r6, 0, none⟩ (.bool (ineg (qy : Int))) bBw3r5 hne4))).set 0 (.bool (ineg (q : Int)))).set 1 (.string (imag (q : Int)))
                have hS := ((((Sw3r6.out).setCell (p := ⟨bAw3r6, 0, none⟩) (show w3.heap.size ≤ bAw3r6 by omega) (.bool (ineg (qy : Int)))).setCell (p := ⟨bAw3r6, 1, none⟩) (show w3.heap.size ≤ bAw3r6 by omega) (.string (imag (qy : Int)))).setCell (p := ⟨bBw3r5, 0, none⟩) (show w3.heap.size ≤ bBw3r5 by omega) (.bool (ineg (q : Int)))).setCell (p := ⟨bBw3r5, 1, none⟩) (show w3.heap.size ≤ bBw3r5 by omega) (.string (imag (q : Int)))
                clear hHeld
                go_wp2_with fail
                go_meet
                exact ⟨_, _, rfl, rfl, rfl, hS, hA, hB⟩
            · go_simp
              refine hK.out _ _ ?_ (fun hHeld => ?_)
              · ((try dsimp only); go_keep)
              clear hK K
              (try simp only [Act.put, List.setIfInBounds_toArray, List.set_cons_zero, List.set_cons_succ])
              have hbq : Below (w3r1).heap.size (w3r1) ((w3r1).alloc (.cells #[.bool false, .string ⟨#[]⟩] 26)) := (Below.refl _ _).alloc (Nat.le_refl _) _
              have a5 := Blk.new (w3r1) 26 [.bool false, .string ⟨#[]⟩]
              have g5 : (w3r1).heap.size = w3r1.heap.size := rfl
              rw [g5] at a5
              have s5 := (Sw3r1.out).trans (hbq.mono (Sw3r1.out).size)
              obtain ⟨bAw3r7, hba⟩ : ∃ ba, ba = w3r1.heap.size := ⟨_, rfl⟩
              have hanew3r7 : w3.heap.size ≤ bAw3r7 := by have := (Sw3r1.out).size; omega
              rw [← hba] at a5
              have e5 : (w3r1).alloc (.cells #[.bool false, .string ⟨#[]⟩] 26) = (w3r1).alloc (.cells #[.bool false, .string ⟨#[]⟩] 26) := rfl
              rw [e5] at a5 s5 hbq
              obtain ⟨w3r7, hv5⟩ : ∃ w3r7, (w3r1).alloc (.cells #[.bool false, .string ⟨#[]⟩] 26) = w3r7 := ⟨_, rfl⟩
              rw [hv5] at hHeld a5 s5 hbq
              have l5 : w3.heap.size ≤ w3r7.heap.size := s5.size
              have AAw3r7 := Lib.hid a5; clear a5
              have Sw3r7 := Lib.hid s5; clear s5
              have hpa : (Value.pointer (some ⟨w3r1.heap.size, 0, none⟩)) = Value.pointer (some ⟨bAw3r7, 0, none⟩) := by rw [hba]
              (try simp only [World.size_drew])
              rw [hv5]
              (try rw [hpa])
              clear hbq hv5 hba hpa g5 e5
              refine wpAnyH_ready (rs := [7, 13]) (by kernel_rfl) (by simp) ?_
              refine AllReadyH.cons rfl (fun K hK => ?_) (AllReadyH.cons rfl (fun K hK => ?_) AllReadyH.nil)
              · go_simp
                go_at_call 29
                refine (HDY.out _).mono ?_
                rintro e w3r8 ⟨hq, rfl⟩
                dsimp only
                have z0 := (hq.cell (p := ⟨fb, s0 * 2, none⟩) (show fb < w3r7.heap.size by omega)).trans hHeld.1
                have z1 := (hq.cell (p := ⟨fb, s0 * 2 + 1, none⟩) (show fb < w3r7.heap.size by omega)).trans hHeld.2
                refine hK.out _ _ ⟨z0, z1⟩ (fun hHeld => ?_)
                clear hK K
                (try simp only [Act.put, List.setIfInBounds_toArray, List.set_cons_zero, List.set_cons_succ])
                have s5 := (Sw3r7.out).trans (hq.mono (Sw3r7.out).size)
                have l5 : w3.heap.size ≤ w3r8.heap.size := s5.size
                have a5 := (AAw3r7.out).keep hq
                have AAw3r8 := Lib.hid a5; clear a5
                have Sw3r8 := Lib.hid s5; clear s5
                clear hq z0 z1
                refine wpAnyH_take (i := 8) (v := ?_) rfl (by kernel_rfl) (by kernel_rfl) (by kernel_rfl) (fun _ _ _ h => h) (Or.inl ⟨by rfl, ?_⟩) (by assumption) ?_
                rotate_left
                · (intro wS hSw; (try dsimp only at hSw); go_simp; (try with_reducible rfl))
                (try simp only [Act.put, List.setIfInBounds_toArray, List.set_cons_zero, List.set_cons_succ])
                refine wpAnyH_take (i := 9) (v := ?_) rfl (by kernel_rfl) (by kernel_rfl) (by kernel_rfl) (fun _ _ _ h => h) (Or.inl ⟨by rfl, ?_⟩) (by assumption) ?_
                rotate_left
                · (intro wS hSw; (try dsimp only at hSw); go_simp; (try with_reducible rfl))
                (try simp only [Act.put, List.setIfInBounds_toArray, List.set_cons_zero, List.set_cons_succ])
                refine wpAnyH_take (i := 10) (v := ?_) rfl (by kernel_rfl) (by kernel_rfl) (by kernel_rfl) (fun _ _ _ h => h) (Or.inl ⟨by rfl, ?_⟩) (by assumption) ?_
                rotate_left
                · (intro wS hSw; (try dsimp only at hSw); go_simp; (try with_reducible rfl))
                (try simp only [Act.put, List.setIfInBounds_toArray, List.set_cons_zero, List.set_cons_succ])
                refine wpAnyH_take (i := 11) (v := ?_) rfl (by kernel_rfl) (by kernel_rfl) (by kernel_rfl) (fun _ _ _ h => h) (Or.inl ⟨by rfl, ?_⟩) (by assumption) ?_
                rotate_left
                · (intro wS hSw; (try dsimp only at hSw); go_simp; (try with_reducible rfl))
                (try simp only [Act.put, List.setIfInBounds_toArray, List.set_cons_zero, List.set_cons_succ])
                refine wpAnyH_ready (rs := [13]) (by kernel_rfl) (by simp) ?_
                refine AllReadyH.cons rfl (fun K hK => ?_) AllReadyH.nil
                go_simp
                refine hK.out _ _ ?_ (fun hHeld => ?_)
                · ((try dsimp only); go_keep)
                clear hK K
                (try simp only [Act.put, List.setIfInBounds_toArray, List.set_cons_zero, List.set_cons_succ])
                have hbq : Below (w3r8).heap.size (w3r8) ((w3r8).alloc (.cells #[.bool false, .string ⟨#[]⟩] 26)) := (Below.refl _ _).alloc (Nat.le_refl _) _
                have a5 := Blk.new (w3r8) 26 [.bool false, .string ⟨#[]⟩]
                have g5 : (w3r8).heap.size = w3r8.heap.size := rfl
                rw [g5] at a5
                have s5 := (Sw3r8.out).trans (hbq.mono (Sw3r8.out).size)
                obtain ⟨bBw3r9, hba⟩ : ∃ ba, ba = w3r8.heap.size := ⟨_, rfl⟩
                have hanew3r9 : w3.heap.size ≤ bBw3r9 := by have := (Sw3r8.out).size; omega
                rw [← hba] at a5
                have e5 : (w3r8).alloc (.cells #[.bool false, .string ⟨#[]⟩] 26) = (w3r8).alloc (.cells #[.bool false, .string ⟨#[]⟩] 26) := rfl
                rw [e5] at a5 s5 hbq
                have a6A := (AAw3r8.out).keep hbq
                have hnnw3r9 : ¬ bAw3r7 = bBw3r9 := by have := (AAw3r8.out).lt; omega
                obtain ⟨w3r9, hv5⟩ : ∃ w3r9, (w3r8).alloc (.cells #[.bool false, .string ⟨#[]⟩] 26) = w3r9 := ⟨_, rfl⟩
                rw [hv5] at hHeld a5 s5 hbq a6A
                have l5 : w3.heap.size ≤ w3r9.heap.size := s5.size
                have ABw3r9 := Lib.hid a5; clear a5
                have AAw3r9 := Lib.hid a6A; clear a6A
                have Sw3r9 := Lib.hid s5; clear s5
                have hpa : (Value.pointer (some ⟨w3r8.heap.size, 0, none⟩)) = Value.pointer (some ⟨bBw3r9, 0, none⟩) := by rw [hba]
                (try simp only [World.size_drew])
                rw [hv5]
                (try rw [hpa])
                clear hbq hv5 hba hpa g5 e5
                have a0 := (AAw3r9.out).cell (j := 0) rfl
                have a1 := (AAw3r9.out).cell (j := 1) rfl
                have b0 := (ABw3r9.out).cell (j := 0) rfl
                have b1 := (ABw3r9.out).cell (j := 1) rfl
                have f0 := (AAw3r9.out).frozen 0
                have f1 := (AAw3r9.out).frozen 1
                have f2 := (ABw3r9.out).frozen 0
                have f3 := (ABw3r9.out).frozen 1
                have hne1 : ¬ bAw3r7 = fb := by omega
                have hne2 : ¬ bBw3r9 = fb := by omega
                have hne3 : ¬ bAw3r7 = bBw3r9 := by omega
                have hne4 : ¬ bBw3r9 = bAw3r7 := by omega
                refine wpAnyH_ready (rs := [14]) (by kernel_rfl) (by simp) ?_
                refine AllReadyH.cons rfl (fun K hK => ?_) AllReadyH.nil
                go_simp
                refine hK.out _ _ ?_ (fun hHeld => ?_)
                · ((try dsimp only); go_keep)
                clear hK K
                (try simp only [Act.put, List.setIfInBounds_toArray, List.set_cons_zero, List.set_cons_succ])
                refine wpAnyH_ready (rs := [15]) (by kernel_rfl) (by simp) ?_
                refine AllReadyH.cons rfl (fun K hK => ?_) AllReadyH.nil
                go_simp
                refine hK.out _ _ ?_ (fun hHeld => ?_)
                · ((try dsimp only); go_keep)
                clear hK K
                (try simp only [Act.put, List.setIfInBounds_toArray, List.set_cons_zero, List.set_cons_succ])
                refine wpAnyH_take (i := 16) (v := ?_) rfl (by kernel_rfl) (by kernel_rfl) (by kernel_rfl) (fun _ _ _ h => h) (Or.inl ⟨by rfl, ?_⟩) (by assumption) ?_
                rotate_left
                · (intro wS hSw; (try dsimp only at hSw); go_simp; (try with_reducible rfl))
                (try simp only [Act.put, List.setIfInBounds_toArray, List.set_cons_zero, List.set_cons_succ])
                refine wpAnyH_done (by kernel_rfl) ?_ _
                (try simp only [List.getElem_toArray, List.getElem_cons_zero, List.getElem_cons_succ, Act.put, List.setIfInBounds_toArray, List.set_cons_zero, List.set_cons_succ])
                have hA := (((AAw3r9.out).set 0 (.bool (ineg (qy : Int)))).set 1 (.string (imag (qy : Int)))).of_block ((Below.heap_setCell _ ⟨bBw3r9, 1, none⟩ (.string (imag (q : Int))) bAw3r7 hne3).trans (Below.heap_setCell _ ⟨bBw3r9, 0, none⟩ (.bool (ineg (q : Int))) bAw3r7 hne3))
                have hB := (((ABw3r9.out).of_block ((Below.heap_setCell _ ⟨bAw3r7, 1, none⟩ (.string (imag (qy : Int))) bBw3r9 hne4).trans (Below.heap_setCell _ ⟨bAw3r7, 0, none⟩ (.bool (ineg (qy : Int))) bBw3r9 hne4))).set 0 (.bool (ineg (q : Int)))).set 1 (.string (imag (q : Int)))
                have hS := ((((Sw3r9.out).setCell (p := ⟨bAw3r7, 0, none⟩) (show w3.heap.size ≤ bAw3r7 by omega) (.bool (ineg (qy : Int)))).setCell (p := ⟨bAw3r7, 1, none⟩) (show w3.heap.size ≤ bAw3r7 by omega) (.string (imag (qy : Int)))).setCell (p := ⟨bBw3r9, 0, none⟩) (show w3.heap.size ≤ bBw3r9 by omega) (.bool (ineg (q : Int)))).setCell (p := ⟨bBw3r9, 1, none⟩) (show w3.heap.size ≤ bBw3r9 by omega) (.string (imag (q : Int)))
                clear hHeld
                go_wp2_with fail
                go_meet
                exact ⟨_, _, rfl, rfl, rfl, hS, hA, hB⟩
              · go_simp
                refine hK.out _ _ ?_ (fun hHeld => ?_)
                · ((try dsimp only); go_keep)
                clear hK K
                (try simp only [Act.put, List.setIfInBounds_toArray, List.set_cons_zero, List.set_cons_succ])
                have hbq : Below (w3r7).heap.size (w3r7) ((w3r7).alloc (.cells #[.bool false, .string ⟨#[]⟩] 26)) := (Below.refl _ _).alloc (Nat.le_refl _) _
                have a5 := Blk.new (w3r7) 26 [.bool false, .string ⟨#[]⟩]
                have g5 : (w3r7).heap.size = w3r7.heap.size := rfl
                rw [g5] at a5
                have s5 := (Sw3r7.out).trans (hbq.mono (Sw3r7.out).size)
                obtain ⟨bBw3r10, hba⟩ : ∃ ba, ba = w3r7.heap.size := ⟨_, rfl⟩
                have hanew3r10 : w3.heap.size ≤ bBw3r10 := by have := (Sw3r7.out).size; omega
                rw [← hba] at a5
                have e5 : (w3r7).alloc (.cells #[.bool false, .string ⟨#[]⟩] 26) = (w3r7).alloc (.cells #[.bool false, .string ⟨#[]⟩] 26) := rfl
                rw [e5] at a5 s5 hbq
                have a6A := (AAw3r7.out).keep hbq
                have hnnw3r10 : ¬ bAw3r7 = bBw3r10 := by have := (AAw3r7.out).lt; omega
                obtain ⟨w3r10, hv5⟩ : ∃ w3r10, (w3r7).alloc (.cells #[.bool false, .string ⟨#[]⟩] 26) = w3r10 := ⟨_, rfl⟩
                rw [hv5] at hHeld a5 s5 hbq a6A
                have l5 : w3.heap.size ≤ w3r10.heap.size := s5.size
                have ABw3r10 := Lib.hid a5; clear a5
                have AAw3r10 := Lib.hid a6A; clear a6A
                have Sw3r10 := Lib.hid s5; clear s5
                have hpa : (Value.pointer (some ⟨w3r7.heap.size, 0, none⟩)) = Value.pointer (some ⟨bBw3r10, 0, none⟩) := by rw [hba]
                (try simp only [World.size_drew])
                rw [hv5]
                (try rw [hpa])
                clear hbq hv5 hba hpa g5 e5
                refine wpAnyH_ready (rs := [7]) (by kernel_rfl) (by simp) ?_
                refine AllReadyH.cons rfl (fun K hK => ?_) AllReadyH.nil
                go_simp
                go_at_call 29
                refine (HDY.out _).mono ?_
                rintro e w3r11 ⟨hq, rfl⟩
                dsimp only
                have z0 := (hq.cell (p := ⟨fb, s0 * 2, none⟩) (show fb < w3r10.heap.size by omega)).trans hHeld.1
                have z1 := (hq.cell (p := ⟨fb, s0 * 2 + 1, none⟩) (show fb < w3r10.heap.size by omega)).trans hHeld.2
                refine hK.out _ _ ⟨z0, z1⟩ (fun hHeld => ?_)
                clear hK K
                (try simp only [Act.put, List.setIfInBounds_toArray, List.set_cons_zero, List.set_cons_succ])
                have s5 := (Sw3r10.out).trans (hq.mono (Sw3r10.out).size)
                have l5 : w3.heap.size ≤ w3r11.heap.size := s5.size
                have a5 := (AAw3r10.out).keep hq
                have AAw3r11 := Lib.hid a5; clear a5
                have a5 := (ABw3r10.out).keep hq
                have ABw3r11 := Lib.hid a5; clear a5
                have Sw3r11 := Lib.hid s5; clear s5
                clear hq z0 z1
                refine wpAnyH_take (i := 8) (v := ?_) rfl (by kernel_rfl) (by kernel_rfl) (by kernel_rfl) (fun _ _ _ h => h) (Or.inl ⟨by rfl, ?_⟩) (by assumption) ?_
                rotate_left
                · (intro wS hSw; (try dsimp only at hSw); go_simp; (try with_reducible rfl))
                (try simp only [Act.put, List.setIfInBounds_toArray, List.set_cons_zero, List.set_cons_succ])
                refine wpAnyH_take (i := 9) (v := ?_) rfl (by kernel_rfl) (by kernel_rfl) (by kernel_rfl) (fun _ _ _ h => h) (Or.inl ⟨by rfl, ?_⟩) (by assumption) ?_
                rotate_left
                · (intro wS hSw; (try dsimp only at hSw); go_simp; (try with_reducible rfl))
                (try simp only [Act.put, List.setIfInBounds_toArray, List.set_cons_zero, List.set_cons_succ])
                refine wpAnyH_take (i := 10) (v := ?_) rfl (by kernel_rfl) (by kernel_rfl) (by kernel_rfl) (fun _ _ _ h => h) (Or.inl ⟨by rfl, ?_⟩) (by assumption) ?_
                rotate_left
                · (intro wS hSw; (try dsimp only at hSw); go_simp; (try with_reducible rfl))
                (try simp only [Act.put, List.setIfInBounds_toArray, List.set_cons_zero, List.set_cons_succ])
                refine wpAnyH_take (i := 11) (v := ?_) rfl (by kernel_rfl) (by kernel_rfl) (by kernel_rfl) (fun _ _ _ h => h) (Or.inl ⟨by rfl, ?_⟩) (by assumption) ?_
                rotate_left
                · (intro wS hSw; (try dsimp only at hSw); go_simp; (try with_reducible rfl))
                (try simp only [Act.put, List.setIfInBounds_toArray, List.set_cons_zero, List.set_cons_succ])
                have a0 := (AAw3r11.out).cell (j := 0) rfl
                have a1 := (AAw3r11.out).cell (j := 1) rfl
                have b0 := (ABw3r11.out).cell (j := 0) rfl
                have b1 := (ABw3r11.out).cell (j := 1) rfl
                have f0 := (AAw3r11.out).frozen 0
                have f1 := (AAw3r11.out).frozen 1
                have f2 := (ABw3r11.out).frozen 0
                have f3 := (ABw3r11.out).frozen 1
                have hne1 : ¬ bAw3r7 = fb := by omega
                have hne2 : ¬ bBw3r10 = fb := by omega
                have hne3 : ¬ bAw3r7 = bBw3r10 := by omega
                have hne4 : ¬ bBw3r10 = bAw3r7 := by omega
                refine wpAnyH_ready (rs := [14]) (by kernel_rfl) (by simp) ?_
                refine AllReadyH.cons rfl (fun K hK => ?_) AllReadyH.nil
                go_simp
                refine hK.out _ _ ?_ (fun hHeld => ?_)
                · ((try dsimp only); go_keep)
                clear hK K
                (try simp only [Act.put, List.setIfInBounds_toArray, List.set_cons_zero, List.set_cons_succ])
                refine wpAnyH_ready (rs := [15]) (by kernel_rfl) (by simp) ?_
                refine AllReadyH.cons rfl (fun K hK => ?_) AllReadyH.nil
                go_simp
                refine hK.out _ _ ?_ (fun hHeld => ?_)
                · ((try dsimp only); go_keep)
                clear hK K
                (try simp only [Act.put, List.setIfInBounds_toArray, List.set_cons_zero, List.set_cons_succ])
                refine wpAnyH_take (i := 16) (v := ?_) rfl (by kernel_rfl) (by kernel_rfl) (by kernel_rfl) (fun _ _ _ h => h) (Or.inl ⟨by rfl, ?_⟩) (by assumption) ?_
                rotate_left
                · (intro wS hSw; (try dsimp only at hSw); go_simp; (try with_reducible rfl))
                (try simp only [Act.put, List.setIfInBounds_toArray, List.set_cons_zero, List.set_cons_succ])
                refine wpAnyH_done (by kernel_rfl) ?_ _
                (try simp only [List.getElem_toArray, List.getElem_cons_zero, List.getElem_cons_succ, Act.put, List.setIfInBounds_toArray, List.set_cons_zero, List.set_cons_succ])
                have hA := (((AAw3r11.out).set 0 (.bool (ineg (qy : Int)))).set 1 (.string (imag (qy : Int)))).of_block ((Below.heap_setCell _ ⟨bBw3r10, 1, none⟩ (.string (imag (q : Int))) bAw3r7 hne3).trans (Below.heap_setCell _ ⟨bBw3r10, 0, none⟩ (.bool (ineg (q : Int))) bAw3r7 hne3))
                have hB := (((ABw3r11.out).of_block ((Below.heap_setCell _ ⟨bAw3r7, 1, none⟩ (.string (imag (qy : Int))) bBw3r10 hne4).trans (Below.heap_setCell _ ⟨bAw3r7, 0, none⟩ (.bool (ineg (qy : Int))) bBw3r10 hne4))).set 0 (.bool (ineg (q : Int)))).set 1 (.string (imag (q : Int)))
                have hS := ((((Sw3r11.out).setCell (p := ⟨bAw3r7, 0, none⟩) (show w3.heap.size ≤ bAw3r7 by omega) (.bool (ineg (qy : Int)))).setCell (p := ⟨bAw3r7, 1, none⟩) (show w3.heap.size ≤ bAw3r7 by omega) (.string (imag (qy : Int)))).setCell (p := ⟨bBw3r10, 0, none⟩) (show w3.heap.size ≤ bBw3r10 by omega) (.bool (ineg (q : Int)))).setCell (p := ⟨bBw3r10, 1, none⟩) (show w3.heap.size ≤ bBw3r10 by omega) (.string (imag (q : Int)))
                clear hHeld
                go_wp2_with fail
                go_meet
                exact ⟨_, _, rfl, rfl, rfl, hS, hA, hB⟩
            · go_simp
              refine hK.out _ _ ?_ (fun hHeld => ?_)
              · ((try dsimp only); go_keep)
              clear hK K
              (try simp only [Act.put, List.setIfInBounds_toArray, List.set_cons_zero, List.set_cons_succ])
              have hbq : Below (w3r1).heap.size (w3r1) ((w3r1).alloc (.cells #[.bool false, .string ⟨#[]⟩] 26)) := (Below.refl _ _).alloc (Nat.le_refl _) _
              have a5 := Blk.new (w3r1) 26 [.bool false, .string ⟨#[]⟩]
              have g5 : (w3r1).heap.size = w3r1.heap.size := rfl
              rw [g5] at a5
              have s5 := (Sw3r1.out).trans (hbq.mono (Sw3r1.out).size)
              obtain ⟨bBw3r12, hba⟩ : ∃ ba, ba = w3r1.heap.size := ⟨_, rfl⟩
              have hanew3r12 : w3.heap.size ≤ bBw3r12 := by have := (Sw3r1.out).size; omega
              rw [← hba] at a5
              have e5 : (w3r1).alloc (.cells #[.bool false, .string ⟨#[]⟩] 26) = (w3r1).alloc (.cells #[.bool false, .string ⟨#[]⟩] 26) := rfl
              rw [e5] at a5 s5 hbq
              obtain ⟨w3r12, hv5⟩ : ∃ w3r12, (w3r1).alloc (.cells #[.bool false, .string ⟨#[]⟩] 26) = w3r12 := ⟨_, rfl⟩
              rw [hv5] at hHeld a5 s5 hbq
              have l5 : w3.heap.size ≤ w3r12.heap.size := s5.size
              have ABw3r12 := Lib.hid a5; clear a5
              have Sw3r12 := Lib.hid s5; clear s5
              have hpa : (Value.pointer (some ⟨w3r1.heap.size, 0, none⟩)) = Value.pointer (some ⟨bBw3r12, 0, none⟩) := by rw [hba]
              (try simp only [World.size_drew])
              rw [hv5]
              (try rw [hpa])
              clear hbq hv5 hba hpa g5 e5
              refine wpAnyH_ready (rs := [7, 12]) (by kernel_rfl) (by simp) ?_
              refine AllReadyH.cons rfl (fun K hK => ?_) (AllReadyH.cons rfl (fun K hK => ?_) AllReadyH.nil)
              · go_simp
                go_at_call 29
                refine (HDY.out _).mono ?_
                rintro e w3r13 ⟨hq, rfl⟩
                dsimp only
                have z0 := (hq.cell (p := ⟨fb, s0 * 2, none⟩) (show fb < w3r12.heap.size by omega)).trans hHeld.1
                have z1 := (hq.cell (p := ⟨fb, s0 * 2 + 1, none⟩) (show fb < w3r12.heap.size by omega)).trans hHeld.2
                refine hK.out _ _ ⟨z0, z1⟩ (fun hHeld => ?_)
                clear hK K
                (try simp only [Act.put, List.setIfInBounds_toArray, List.set_cons_zero, List.set_cons_succ])
                have s5 := (Sw3r12.out).trans (hq.mono (Sw3r12.out).size)
                have l5 : w3.heap.size ≤ w3r13.heap.size := s5.size
                have a5 := (ABw3r12.out).keep hq
                have ABw3r13 := Lib.hid a5; clear a5
                have Sw3r13 := Lib.hid s5; clear s5
                clear hq z0 z1
                refine wpAnyH_take (i := 8) (v := ?_) rfl (by kernel_rfl) (by kernel_rfl) (by kernel_rfl) (fun _ _ _ h => h) (Or.inl ⟨by rfl, ?_⟩) (by assumption) ?_
                rotate_left
                · (intro wS hSw; (try dsimp only at hSw); go_simp; (try with_reducible rfl))
                (try simp only [Act.put, List.setIfInBounds_toArray, List.set_cons_zero, List.set_cons_succ])
                refine wpAnyH_take (i := 9) (v := ?_) rfl (by kernel_rfl) (by kernel_rfl) (by kernel_rfl) (fun _ _ _ h => h) (Or.inl ⟨by rfl, ?_⟩) (by assumption) ?_
                rotate_left
                · (intro wS hSw; (try dsimp only at hSw); go_simp; (try with_reducible rfl))
                (try simp only [Act.put, List.setIfInBounds_toArray, List.set_cons_zero, List.set_cons_succ])
                refine wpAnyH_take (i := 10) (v := ?_) rfl (by kernel_rfl) (by kernel_rfl) (by kernel_rfl) (fun _ _ _ h => h) (Or.inl ⟨by rfl, ?_⟩) (by assumption) ?_
                rotate_left
                · (intro wS hSw; (try dsimp only at hSw); go_simp; (try with_reducible rfl))
                (try simp only [Act.put, List.setIfInBounds_toArray, List.set_cons_zero, List.set_cons_succ])
                refine wpAnyH_take (i := 11) (v := ?_) rfl (by kernel_rfl) (by kernel_rfl) (by kernel_rfl) (fun _ _ _ h => h) (Or.inl ⟨by rfl, ?_⟩) (by assumption) ?_
                rotate_left
                · (intro wS hSw; (try dsimp only at hSw); go_simp; (try with_reducible rfl))
                (try simp only [Act.put, List.setIfInBounds_toArray, List.set_cons_zero, List.set_cons_succ])
                refine wpAnyH_ready (rs := [12]) (by kernel_rfl) (by simp) ?_
                refine AllReadyH.cons rfl (fun K hK => ?_) AllReadyH.nil
                go_simp
                refine hK.out _ _ ?_ (fun hHeld => ?_)
                · ((try dsimp only); go_keep)
                clear hK K
                (try simp only [Act.put, List.setIfInBounds_toArray, List.set_cons_zero, List.set_cons_succ])
                have hbq : Below (w3r13).heap.size (w3r13) ((w3r13).alloc (.cells #[.bool false, .string ⟨#[]⟩] 26)) := (Below.refl _ _).alloc (Nat.le_refl _) _
                have a5 := Blk.new (w3r13) 26 [.bool false, .string ⟨#[]⟩]
                have g5 : (w3r13).heap.size = w3r13.heap.size := rfl
                rw [g5] at a5
                have s5 := (Sw3r13.out).trans (hbq.mono (Sw3r13.out).size)
                obtain ⟨bAw3r14, hba⟩ : ∃ ba, ba = w3r13.heap.size := ⟨_, rfl⟩
                have hanew3r14 : w3.heap.size ≤ bAw3r14 := by have := (Sw3r13.out).size; omega
                rw [← hba] at a5
                have e5 : (w3r13).alloc (.cells #[.bool false, .string ⟨#[]⟩] 26) = (w3r13).alloc (.cells #[.bool false, .string ⟨#[]⟩] 26) := rfl
                rw [e5] at a5 s5 hbq
                have a6B := (ABw3r13.out).keep hbq
                have hnnw3r14 : ¬ bBw3r12 = bAw3r14 := by have := (ABw3r13.out).lt; omega
                obtain ⟨w3r14, hv5⟩ : ∃ w3r14, (w3r13).alloc (.cells #[.bool false, .string ⟨#[]⟩] 26) = w3r14 := ⟨_, rfl⟩
                rw [hv5] at hHeld a5 s5 hbq a6B
                have l5 : w3.heap.size ≤ w3r14.heap.size := s5.size
                have AAw3r14 := Lib.hid a5; clear a5
                have ABw3r14 := Lib.hid a6B; clear a6B
                have Sw3r14 := Lib.hid s5; clear s5
                have hpa : (Value.pointer (some ⟨w3r13.heap.size, 0, none⟩)) = Value.pointer (some ⟨bAw3r14, 0, none⟩) := by rw [hba]
                (try simp only [World.size_drew])
                rw [hv5]
                (try rw [hpa])
                clear hbq hv5 hba hpa g5 e5
                have a0 := (AAw3r14.out).cell (j := 0) rfl
                have a1 := (AAw3r14.out).cell (j := 1) rfl
                have b0 := (ABw3r14.out).cell (j := 0) rfl
                have b1 := (ABw3r14.out).cell (j := 1) rfl
                have f0 := (AAw3r14.out).frozen 0
                have f1 := (AAw3r14.out).frozen 1
                have f2 := (ABw3r14.out).frozen 0
                have f3 := (ABw3r14.out).frozen 1
                have hne1 : ¬ bAw3r14 = fb := by omega
                have hne2 : ¬ bBw3r12 = fb := by omega
                have hne3 : ¬ bAw3r14 = bBw3r12 := by omega
                have hne4 : ¬ bBw3r12 = bAw3r14 := by omega
                refine wpAnyH_ready (rs := [14]) (by kernel_rfl) (by simp) ?_
                refine AllReadyH.cons rfl (fun K hK => ?_) AllReadyH.nil
                go_simp
                refine hK.out _ _ ?_ (fun hHeld => ?_)
                · ((try dsimp only); go_keep)
                clear hK K
                (try simp only [Act.put, List.setIfInBounds_toArray, List.set_cons_zero, List.set_cons_succ])
                refine wpAnyH_ready (rs := [15]) (by kernel_rfl) (by simp) ?_
                refine AllReadyH.cons rfl (fun K hK => ?_) AllReadyH.nil
                go_simp
                refine hK.out _ _ ?_ (fun hHeld => ?_)
                · ((try dsimp only); go_keep)
                clear hK K
                (try simp only [Act.put, List.setIfInBounds_toArray, List.set_cons_zero, List.set_cons_succ])
                refine wpAnyH_take (i := 16) (v := ?_) rfl (by kernel_rfl) (by kernel_rfl) (by kernel_rfl) (fun _ _ _ h => h) (Or.inl ⟨by rfl, ?_⟩) (by assumption) ?_
                rotate_left
                · (intro wS hSw; (try dsimp only at hSw); go_simp; (try with_reducible rfl))
                (try simp only [Act.put, List.setIfInBounds_toArray, List.set_cons_zero, List.set_cons_succ])
                refine wpAnyH_done (by kernel_rfl) ?_ _
                (try simp only [List.getElem_toArray, List.getElem_cons_zero, List.getElem_cons_succ, Act.put, List.setIfInBounds_toArray, List.set_cons_zero, List.set_cons_succ])
                have hA := (((AAw3r14.out).set 0 (.bool (ineg (qy : Int)))).set 1 (.string (imag (qy : Int)))).of_block ((Below.heap_setCell _ ⟨bBw3r12, 1, none⟩ (.string (imag (q : Int))) bAw3r14 hne3).trans (Below.heap_setCell _ ⟨bBw3r12, 0, none⟩ (.bool (ineg (q : Int))) bAw3r14 hne3))
                have hB := (((ABw3r14.out).of_block ((Below.heap_setCell _ ⟨bAw3r14, 1, none⟩ (.string (imag (qy : Int))) bBw3r12 hne4).trans (Below.heap_setCell _ ⟨bAw3r14, 0, none⟩ (.bool (ineg (qy : Int))) bBw3r12 hne4))).set 0 (.bool (ineg (q : Int)))).set 1 (.string (imag (q : Int)))
                have hS := ((((Sw3r14.out).setCell (p := ⟨bAw3r14, 0, none⟩) (show w3.heap.size ≤ bAw3r14 by omega) (.bool (ineg (qy : Int)))).setCell (p := ⟨bAw3r14, 1, none⟩) (show w3.heap.size ≤ bAw3r14 by omega) (.string (imag (qy : Int)))).setCell (p := ⟨bBw3r12, 0, none⟩) (show w3.heap.size ≤ bBw3r12 by omega) (.bool (ineg (q : Int)))).setCell (p := ⟨bBw3r12, 1, none⟩) (show w3.heap.size ≤ bBw3r12 by omega) (.string (imag (q : Int)))
                clear hHeld
                go_wp2_with fail
                go_meet
                exact ⟨_, _, rfl, rfl, rfl, hS, hA, hB⟩
              · go_simp
                refine hK.out _ _ ?_ (fun hHeld => ?_)
                · ((try dsimp only); go_keep)
                clear hK K
                (try simp only [Act.put, List.setIfInBounds_toArray, List.set_cons_zero, List.set_cons_succ])
                have hbq : Below (w3r12).heap.size (w3r12) ((w3r12).alloc (.cells #[.bool false, .string ⟨#[]⟩] 26)) := (Below.refl _ _).alloc (Nat.le_refl _) _
                have a5 := Blk.new (w3r12) 26 [.bool false, .string ⟨#[]⟩]
                have g5 : (w3r12).heap.size = w3r12.heap.size := rfl
                rw [g5] at a5
                have s5 := (Sw3r12.out).trans (hbq.mono (Sw3r12.out).size)
                obtain ⟨bAw3r15, hba⟩ : ∃ ba, ba = w3r12.heap.size := ⟨_, rfl⟩
                have hanew3r15 : w3.heap.size ≤ bAw3r15 := by have := (Sw3r12.out).size; omega
                rw [← hba] at a5
                have e5 : (w3r12).alloc (.cells #[.bool false, .string ⟨#[]⟩] 26) = (w3r12).alloc (.cells #[.bool false, .string ⟨#[]⟩] 26) := rfl
                rw [e5] at a5 s5 hbq
                have a6B := (ABw3r12.out).keep hbq
                have hnnw3r15 : ¬ bBw3r12 = bAw3r15 := by have := (ABw3r12.out).lt; omega
                obtain ⟨w3r15, hv5⟩ : ∃ w3r15, (w3r12).alloc (.cells #[.bool false, .string ⟨#[]⟩] 26) = w3r15 := ⟨_, rfl⟩
                rw [hv5] at hHeld a5 s5 hbq a6B
                have l5 : w3.heap.size ≤ w3r15.heap.size := s5.size
                have AAw3r15 := Lib.hid a5; clear a5
                have ABw3r15 := Lib.hid a6B; clear a6B
                have Sw3r15 := Lib.hid s5; clear s5
                have hpa : (Value.pointer (some ⟨w3r12.heap.size, 0, none⟩)) = Value.pointer (some ⟨bAw3r15, 0, none⟩) := by rw [hba]
                (try simp only [World.size_drew])
                rw [hv5]
                (try rw [hpa])
                clear hbq hv5 hba hpa g5 e5
                refine wpAnyH_ready (rs := [7]) (by kernel_rfl) (by simp) ?_
                refine AllReadyH.cons rfl (fun K hK => ?_) AllReadyH.nil
                go_simp
                go_at_call 29
                refine (HDY.out _).mono ?_
                rintro e w3r16 ⟨hq, rfl⟩
                dsimp only
                have z0 := (hq.cell (p := ⟨fb, s0 * 2, none⟩) (show fb < w3r15.heap.size by omega)).trans hHeld.1
                have z1 := (hq.cell (p := ⟨fb, s0 * 2 + 1, none⟩) (show fb < w3r15.heap.size by omega)).trans hHeld.2
                refine hK.out _ _ ⟨z0, z1⟩ (fun hHeld => ?_)
                clear hK K
                (try simp only [Act.put, List.setIfInBounds_toArray, List.set_cons_zero, List.set_cons_succ])
                have s5 := (Sw3r15.out).trans (hq.mono (Sw3r15.out).size)
                have l5 : w3.heap.size ≤ w3r16.heap.size := s5.size
                have a5 := (ABw3r15.out).keep hq
                have ABw3r16 := Lib.hid a5; clear a5
                have a5 := (AAw3r15.out).keep hq
                have AAw3r16 := Lib.hid a5; clear a5
                have Sw3r16 := Lib.hid s5; clear s5
                clear hq z0 z1
                refine wpAnyH_take (i := 8) (v := ?_) rfl (by kernel_rfl) (by kernel_rfl) (by kernel_rfl) (fun _ _ _ h => h) (Or.inl ⟨by rfl, ?_⟩) (by assumption) ?_
                rotate_left
                · (intro wS hSw; (try dsimp only at hSw); go_simp; (try with_reducible rfl))
                (try simp only [Act.put, List.setIfInBounds_toArray, List.set_cons_zero, List.set_cons_succ])
                refine wpAnyH_take (i := 9) (v := ?_) rfl (by kernel_rfl) (by kernel_rfl) (by kernel_rfl) (fun _ _ _ h => h) (Or.inl ⟨by rfl, ?_⟩) (by assumption) ?_
                rotate_left
                · (intro wS hSw; (try dsimp only at hSw); go_simp; (try with_reducible rfl))
                (try simp only [Act.put, List.setIfInBounds_toArray, List.set_cons_zero, List.set_cons_succ])
                refine wpAnyH_take (i := 10) (v := ?_) rfl (by kernel_rfl) (by kernel_rfl) (by kernel_rfl) (fun _ _ _ h => h) (Or.inl ⟨by rfl, ?_⟩) (by assumption) ?_
                rotate_left
                · (intro wS hSw; (try dsimp only at hSw); go_simp; (try with_reducible rfl))
                (try simp only [Act.put, List.setIfInBounds_toArray, List.set_cons_zero, List.set_cons_succ])
                refine wpAnyH_take (i := 11) (v := ?_) rfl (by kernel_rfl) (by kernel_rfl) (by kernel_rfl) (fun _ _ _ h => h) (Or.inl ⟨by rfl, ?_⟩) (by assumption) ?_
                rotate_left
                · (intro wS hSw; (try dsimp only at hSw); go_simp; (try with_reducible rfl))
                (try simp only [Act.put, List.setIfInBounds_toArray, List.set_cons_zero, List.set_cons_succ])
                have a0 := (AAw3r16.out).cell (j := 0) rfl
                have a1 := (AAw3r16.out).cell (j := 1) rfl
                have b0 := (ABw3r16.out).cell (j := 0) rfl
                have b1 := (ABw3r16.out).cell (j := 1) rfl
                have f0 := (AAw3r16.out).frozen 0
                have f1 := (AAw3r16.out).frozen 1
                have f2 := (ABw3r16.out).frozen 0
                have f3 := (ABw3r16.out).frozen 1
                have hne1 : ¬ bAw3r15 = fb := by omega
                have hne2 : ¬ bBw3r12 = fb := by omega
                have hne3 : ¬ bAw3r15 = bBw3r12 := by omega
                have hne4 : ¬ bBw3r12 = bAw3r15 := by omega
                refine wpAnyH_ready (rs := [14]) (by kernel_rfl) (by simp) ?_
                refine AllReadyH.cons rfl (fun K hK => ?_) AllReadyH.nil
                go_simp
                refine hK.out _ _ ?_ (fun hHeld => ?_)
                · ((try dsimp only); go_keep)
                clear hK K
                (try simp only [Act.put, List.setIfInBounds_toArray, List.set_cons_zero, List.set_cons_succ])
                refine wpAnyH_ready (rs := [15]) (by kernel_rfl) (by simp) ?_
                refine AllReadyH.cons rfl (fun K hK => ?_) AllReadyH.nil
                go_simp
                refine hK.out _ _ ?_ (fun hHeld => ?_)
                · ((try dsimp only); go_keep)
                clear hK K
                (try simp only [Act.put, List.setIfInBounds_toArray, List.set_cons_zero, List.set_cons_succ])
                refine wpAnyH_take (i := 16) (v := ?_) rfl (by kernel_rfl) (by kernel_rfl) (by kernel_rfl) (fun _ _ _ h => h) (Or.inl ⟨by rfl, ?_⟩) (by assumption) ?_
                rotate_left
                · (intro wS hSw; (try dsimp only at hSw); go_simp; (try with_reducible rfl))
                (try simp only [Act.put, List.setIfInBounds_toArray, List.set_cons_zero, List.set_cons_succ])
                refine wpAnyH_done (by kernel_rfl) ?_ _
                (try simp only [List.getElem_toArray, List.getElem_cons_zero, List.getElem_cons_succ, Act.put, List.setIfInBounds_toArray, List.set_cons_zero, List.set_cons_succ])
                have hA := (((AAw3r16.out).set 0 (.bool (ineg (qy : Int)))).set 1 (.string (imag (qy : Int)))).of_block ((Below.heap_setCell _ ⟨bBw3r12, 1, none⟩ (.string (imag (q : Int))) bAw3r15 hne3).trans (Below.heap_setCell _ ⟨bBw3r12, 0, none⟩ (.bool (ineg (q : Int))) bAw3r15 hne3))
                have hB := (((ABw3r16.out).of_block ((Below.heap_setCell _ ⟨bAw3r15, 1, none⟩ (.string (imag (qy : Int))) bBw3r12 hne4).trans (Below.heap_setCell _ ⟨bAw3r15, 0, none⟩ (.bool (ineg (qy : Int))) bBw3r12 hne4))).set 0 (.bool (ineg (q : Int)))).set 1 (.string (imag (q : Int)))
                have hS := ((((Sw3r16.out).setCell (p := ⟨bAw3r15, 0, none⟩) (show w3.heap.size ≤ bAw3r15 by omega) (.bool (ineg (qy : Int)))).setCell (p := ⟨bAw3r15, 1, none⟩) (show w3.heap.size ≤ bAw3r15 by omega) (.string (imag (qy : Int)))).setCell (p := ⟨bBw3r12, 0, none⟩) (show w3.heap.size ≤ bBw3r12 by omega) (.bool (ineg (q : Int)))).setCell (p := ⟨bBw3r12, 1, none⟩) (show w3.heap.size ≤ bBw3r12 by omega) (.string (imag (q : Int)))
                clear hHeld
                go_wp2_with fail
                go_meet
                exact ⟨_, _, rfl, rfl, rfl, hS, hA, hB⟩
          · go_simp
            refine hK.out _ _ ?_ (fun hHeld => ?_)
            · ((try dsimp only); go_keep)
            clear hK K
            (try simp only [Act.put, List.setIfInBounds_toArray, List.set_cons_zero, List.set_cons_succ])
            have hbq : Below (w3.drew).heap.size (w3.drew) ((w3.drew).alloc (.cells #[.bool false, .string ⟨#[]⟩] 26)) := (Below.refl _ _).alloc (Nat.le_refl _) _
            have a5 := Blk.new (w3.drew) 26 [.bool false, .string ⟨#[]⟩]
            have g5 : (w3.drew).heap.size = w3.heap.size := rfl
            rw [g5] at a5
            have s5 := ((Below.refl w3.heap.size w3).drew).trans (hbq.mono ((Below.refl w3.heap.size w3).drew).size)
            obtain ⟨bAw3r17, hba⟩ : ∃ ba, ba = w3.heap.size := ⟨_, rfl⟩
            have hanew3r17 : w3.heap.size ≤ bAw3r17 := by have := ((Below.refl w3.heap.size w3).drew).size; omega
            rw [← hba] at a5
            have e5 : (w3.drew).alloc (.cells #[.bool false, .string ⟨#[]⟩] 26) = (w3.alloc (.cells #[.bool false, .string ⟨#[]⟩] 26)).drew := rfl
            rw [e5] at a5 s5 hbq
            obtain ⟨w3r17, hv5⟩ : ∃ w3r17, (w3.alloc (.cells #[.bool false, .string ⟨#[]⟩] 26)).drew = w3r17 := ⟨_, rfl⟩
            rw [hv5] at hHeld a5 s5 hbq
            have l5 : w3.heap.size ≤ w3r17.heap.size := s5.size
            have AAw3r17 := Lib.hid a5; clear a5
            have Sw3r17 := Lib.hid s5; clear s5
            have hpa : (Value.pointer (some ⟨w3.heap.size, 0, none⟩)) = Value.pointer (some ⟨bAw3r17, 0, none⟩) := by rw [hba]
            (try simp only [World.size_drew])
            rw [hv5]
            (try rw [hpa])
            clear hbq hv5 hba hpa g5 e5
            refine wpAnyH_ready (rs := [2, 13]) (by kernel_rfl) (by simp) ?_
            refine AllReadyH.cons rfl (fun K hK => ?_) (AllReadyH.cons rfl (fun K hK => ?_) AllReadyH.nil)
            · go_simp
              go_at_call 18
              refine (HOY.out _).mono ?_
              rintro e w3r18 ⟨hq, rfl⟩
              dsimp only
              have z0 := (hq.cell (p := ⟨fb, s0 * 2, none⟩) (show fb < w3r17.heap.size by omega)).trans hHeld.1
              have z1 := (hq.cell (p := ⟨fb, s0 * 2 + 1, none⟩) (show fb < w3r17.heap.size by omega)).trans hHeld.2
              refine hK.out _ _ ⟨z0, z1⟩ (fun hHeld => ?_)
              clear hK K
              (try simp only [Act.put, List.setIfInBounds_toArray, List.set_cons_zero, List.set_cons_succ])
              have s5 := (Sw3r17.out).trans (hq.mono (Sw3r17.out).size)
              have l5 : w3.heap.size ≤ w3r18.heap.size := s5.size
              have a5 := (AAw3r17.out).keep hq
              have AAw3r18 := Lib.hid a5; clear a5
              have Sw3r18 := Lib.hid s5; clear s5
              clear hq z0 z1
              refine wpAnyH_ready (rs := [7, 13]) (by kernel_rfl) (by simp) ?_
              refine AllReadyH.cons rfl (fun K hK => ?_) (AllReadyH.cons rfl (fun K hK => ?_) AllReadyH.nil)
              · go_simp
                go_at_call 29
                refine (HDY.out _).mono ?_
                rintro e w3r19 ⟨hq, rfl⟩
                dsimp only
                have z0 := (hq.cell (p := ⟨fb, s0 * 2, none⟩) (show fb < w3r18.heap.size by omega)).trans hHeld.1
                have z1 := (hq.cell (p := ⟨fb, s0 * 2 + 1, none⟩) (show fb < w3r18.heap.size by omega)).trans hHeld.2
                refine hK.out _ _ ⟨z0, z1⟩ (fun hHeld => ?_)
                clear hK K
                (try simp only [Act.put, List.setIfInBounds_toArray, List.set_cons_zero, List.set_cons_succ])
                have s5 := (Sw3r18.out).trans (hq.mono (Sw3r18.out).size)
                have l5 : w3.heap.size ≤ w3r19.heap.size := s5.size
                have a5 := (AAw3r18.out).keep hq
                have AAw3r19 := Lib.hid a5; clear a5
                have Sw3r19 := Lib.hid s5; clear s5
                clear hq z0 z1
                refine wpAnyH_take (i := 8) (v := ?_) rfl (by kernel_rfl) (by kernel_rfl) (by kernel_rfl) (fun _ _ _ h => h) (Or.inl ⟨by rfl, ?_⟩) (by assumption) ?_
                rotate_left
                · (intro wS hSw; (try dsimp only at hSw); go_simp; (try with_reducible rfl))
                (try simp only [Act.put, List.setIfInBounds_toArray, List.set_cons_zero, List.set_cons_succ])
                refine wpAnyH_take (i := 9) (v := ?_) rfl (by kernel_rfl) (by kernel_rfl) (by kernel_rfl) (fun _ _ _ h => h) (Or.inl ⟨by rfl, ?_⟩) (by assumption) ?_
                rotate_left
                · (intro wS hSw; (try dsimp only at hSw); go_simp; (try with_reducible rfl))
                (try simp only [Act.put, List.setIfInBounds_toArray, List.set_cons_zero, List.set_cons_succ])
                refine wpAnyH_take (i := 10) (v := ?_) rfl (by kernel_rfl) (by kernel_rfl) (by kernel_rfl) (fun _ _ _ h => h) (Or.inl ⟨by rfl, ?_⟩) (by assumption) ?_
                rotate_left
                · (intro wS hSw; (try dsimp only at hSw); go_simp; (try with_reducible rfl))
                (try simp only [Act.put, List.setIfInBounds_toArray, List.set_cons_zero, List.set_cons_succ])
                refine wpAnyH_take (i := 11) (v := ?_) rfl (by kernel_rfl) (by kernel_rfl) (by kernel_rfl) (fun _ _ _ h => h) (Or.inl ⟨by rfl, ?_⟩) (by assumption) ?_
                rotate_left
                · (intro wS hSw; (try dsimp only at hSw); go_simp; (try with_reducible rfl))
                (try simp only [Act.put, List.setIfInBounds_toArray, List.set_cons_zero, List.set_cons_succ])
                refine wpAnyH_ready (rs := [13]) (by kernel_rfl) (by simp) ?_
                refine AllReadyH.cons rfl (fun K hK => ?_) AllReadyH.nil
                go_simp
                refine hK.out _ _ ?_ (fun hHeld => ?_)
                · ((try dsimp only); go_keep)
                clear hK K
                (try simp only [Act.put, List.setIfInBounds_toArray, List.set_cons_zero, List.set_cons_succ])
                have hbq : Below (w3r19).heap.size (w3r19) ((w3r19).alloc (.cells #[.bool false, .string ⟨#[]⟩] 26)) := (Below.refl _ _).alloc (Nat.le_refl _) _
                have a5 := Blk.new (w3r19) 26 [.bool false, .string ⟨#[]⟩]
                have g5 : (w3r19).heap.size = w3r19.heap.size := rfl
                rw [g5] at a5
                have s5 := (Sw3r19.out).trans (hbq.mono (Sw3r19.out).size)
                obtain ⟨bBw3r20, hba⟩ : ∃ ba, ba = w3r19.heap.size := ⟨_, rfl⟩
                have hanew3r20 : w3.heap.size ≤ bBw3r20 := by have := (Sw3r19.out).size; omega
                rw [← hba] at a5
                have e5 : (w3r19).alloc (.cells #[.bool false, .string ⟨#[]⟩] 26) = (w3r19).alloc (.cells #[.bool false, .string ⟨#[]⟩] 26) := rfl
                rw [e5] at a5 s5 hbq
                have a6A := (AAw3r19.out).keep hbq
                have hnnw3r20 : ¬ bAw3r17 = bBw3r20 := by have := (AAw3r19.out).lt; omega
                obtain ⟨w3r20, hv5⟩ : ∃ w3r20, (w3r19).alloc (.cells #[.bool false, .string ⟨#[]⟩] 26) = w3r20 := ⟨_, rfl⟩
                rw [hv5] at hHeld a5 s5 hbq a6A
                have l5 : w3.heap.size ≤ w3r20.heap.size := s5.size
                have ABw3r20 := Lib.hid a5; clear a5
                have AAw3r20 := Lib.hid a6A; clear a6A
                have Sw3r20 := Lib.hid s5; clear s5
                have hpa : (Value.pointer (some ⟨w3r19.heap.size, 0, none⟩)) = Value.pointer (some ⟨bBw3r20, 0, none⟩) := by rw [hba]
                (try simp only [World.size_drew])
                rw [hv5]
                (try rw [hpa])
                clear hbq hv5 hba hpa g5 e5
                have a0 := (AAw3r20.out).cell (j := 0) rfl
                have a1 := (AAw3r20.out).cell (j := 1) rfl
                have b0 := (ABw3r20.out).cell (j := 0) rfl
                have b1 := (ABw3r20.out).cell (j := 1) rfl
                have f0 := (AAw3r20.out).frozen 0
                have f1 := (AAw3r20.out).frozen 1
                have f2 := (ABw3r20.out).frozen 0
                have f3 := (ABw3r20.out).frozen 1
                have hne1 : ¬ bAw3r17 = fb := by omega
                have hne2 : ¬ bBw3r20 = fb := by omega
                have hne3 : ¬ bAw3r17 = bBw3r20 := by omega
                have hne4 : ¬ bBw3r20 = bAw3r17 := by omega
                refine wpAnyH_ready (rs := [14]) (by kernel_rfl) (by simp) ?_
                refine AllReadyH.cons rfl (fun K hK => ?_) AllReadyH.nil
                go_simp
                refine hK.out _ _ ?_ (fun hHeld => ?_)
                · ((try dsimp only); go_keep)
                clear hK K
                (try simp only [Act.put, List.setIfInBounds_toArray, List.set_cons_zero, List.set_cons_succ])
                refine wpAnyH_ready (rs := [15]) (by kernel_rfl) (by simp) ?_
                refine AllReadyH.cons rfl (fun K hK => ?_) AllReadyH.nil
                go_simp
                refine hK.out _ _ ?_ (fun hHeld => ?_)
                · ((try dsimp only); go_keep)
                clear hK K
                (try simp only [Act.put, List.setIfInBounds_toArray, List.set_cons_zero, List.set_cons_succ])
                refine wpAnyH_take (i := 16) (v := ?_) rfl (by kernel_rfl) (by kernel_rfl) (by kernel_rfl) (fun _ _ _ h => h) (Or.inl ⟨by rfl, ?_⟩) (by assumption) ?_
                rotate_left
                · (intro wS hSw; (try dsimp only at hSw); go_simp; (try with_reducible rfl))
                (try simp only [Act.put, List.setIfInBounds_toArray, List.set_cons_zero, List.set_cons_succ])
                refine wpAnyH_done (by kernel_rfl) ?_ _
                (try simp only [List.getElem_toArray, List.getElem_cons_zero, List.getElem_cons_succ, Act.put, List.setIfInBounds_toArray, List.set_cons_zero, List.set_cons_succ])
                have hA := (((AAw3r20.out).set 0 (.bool (ineg (qy : Int)))).set 1 (.string (imag (qy : Int)))).of_block ((Below.heap_setCell _ ⟨bBw3r20, 1, none⟩ (.string (imag (q : Int))) bAw3r17 hne3).trans (Below.heap_setCell _ ⟨bBw3r20, 0, none⟩ (.bool (ineg (q : Int))) bAw3r17 hne3))
                have hB := (((ABw3r20.out).of_block ((Below.heap_setCell _ ⟨bAw3r17, 1, none⟩ (.string (imag (qy : Int))) bBw3r20 hne4).trans (Below.heap_setCell _ ⟨bAw3r17, 0, none⟩ (.bool (ineg (qy : Int))) bBw3r20 hne4))).set 0 (.bool (ineg (q : Int)))).set 1 (.string (imag (q : Int)))
                have hS := ((((Sw3r20.out).setCell (p := ⟨bAw3r17, 0, none⟩) (show w3.heap.size ≤ bAw3r17 by omega) (.bool (ineg (qy : Int)))).setCell (p := ⟨bAw3r17, 1, none⟩) (show w3.heap.size ≤ bAw3r17 by omega) (.string (imag (qy : Int)))).setCell (p := ⟨bBw3r20, 0, none⟩) (show w3.heap.size ≤ bBw3r20 by omega) (.bool (ineg (q : Int)))).setCell (p := ⟨bBw3r20, 1, none⟩) (show w3.heap.size ≤ bBw3r20 by omega) (.string (imag (q : Int)))
                clear hHeld
                go_wp2_with fail
                go_meet
                exact ⟨_, _, rfl, rfl, rfl, hS, hA, hB⟩
              · go_simp
                refine hK.out _ _ ?_ (fun hHeld => ?_)
                · ((try dsimp only); go_keep)
                clear hK K
                (try simp only [Act.put, List.setIfInBounds_toArray, List.set_cons_zero, List.set_cons_succ])
                have hbq : Below (w3r18).heap.size (w3r18) ((w3r18).alloc (.cells #[.bool false, .string ⟨#[]⟩] 26)) := (Below.refl _ _).alloc (Nat.le_refl _) _
                have a5 := Blk.new (w3r18) 26 [.bool false, .string ⟨#[]⟩]
                have g5 : (w3r18).heap.size = w3r18.heap.size := rfl
                rw [g5] at a5
                have s5 := (Sw3r18.out).trans (hbq.mono (Sw3r18.out).size)
                obtain ⟨bBw3r21, hba⟩ : ∃ ba, ba = w3r18.heap.size := ⟨_, rfl⟩
                have hanew3r21 : w3.heap.size ≤ bBw3r21 := by have := (Sw3r18.out).size; omega
                rw [← hba] at a5
                have e5 : (w3r18).alloc (.cells #[.bool false, .string ⟨#[]⟩] 26) = (w3r18).alloc (.cells #[.bool false, .string ⟨#[]⟩] 26) := rfl
                rw [e5] at a5 s5 hbq
                have a6A := (AAw3r18.out).keep hbq
                have hnnw3r21 : ¬ bAw3r17 = bBw3r21 := by have := (AAw3r18.out).lt; omega
                obtain ⟨w3r21, hv5⟩ : ∃ w3r21, (w3r18).alloc (.cells #[.bool false, .string ⟨#[]⟩] 26) = w3r21 := ⟨_, rfl⟩
                rw [hv5] at hHeld a5 s5 hbq a6A
                have l5 : w3.heap.size ≤ w3r21.heap.size := s5.size
                have ABw3r21 := Lib.hid a5; clear a5
                have AAw3r21 := Lib.hid a6A; clear a6A
                have Sw3r21 := Lib.hid s5; clear s5
                have hpa : (Value.pointer (some ⟨w3r18.heap.size, 0, none⟩)) = Value.pointer (some ⟨bBw3r21, 0, none⟩) := by rw [hba]
                (try simp only [World.size_drew])
                rw [hv5]
                (try rw [hpa])
                clear hbq hv5 hba hpa g5 e5
                refine wpAnyH_ready (rs := [7]) (by kernel_rfl) (by simp) ?_
                refine AllReadyH.cons rfl (fun K hK => ?_) AllReadyH.nil
                go_simp
                go_at_call 29
                refine (HDY.out _).mono ?_
                rintro e w3r22 ⟨hq, rfl⟩
                dsimp only
                have z0 := (hq.cell (p := ⟨fb, s0 * 2, none⟩) (show fb < w3r21.heap.size by omega)).trans hHeld.1
                have z1 := (hq.cell (p := ⟨fb, s0 * 2 + 1, none⟩) (show fb < w3r21.heap.size by omega)).trans hHeld.2
                refine hK.out _ _ ⟨z0, z1⟩ (fun hHeld => ?_)
                clear hK K
                (try simp only [Act.put, List.setIfInBounds_toArray, List.set_cons_zero, List.set_cons_succ])
                have s5 := (Sw3r21.out).trans (hq.mono (Sw3r21.out).size)
                have l5 : w3.heap.size ≤ w3r22.heap.size := s5.size
                have a5 := (AAw3r21.out).keep hq
                have AAw3r22 := Lib.hid a5; clear a5
                have a5 := (ABw3r21.out).keep hq
                have ABw3r22 := Lib.hid a5; clear a5
                have Sw3r22 := Lib.hid s5; clear s5
                clear hq z0 z1
                refine wpAnyH_take (i := 8) (v := ?_) rfl (by kernel_rfl) (by kernel_rfl) (by kernel_rfl) (fun _ _ _ h => h) (Or.inl ⟨by rfl, ?_⟩) (by assumption) ?_
                rotate_left
                · (intro wS hSw; (try dsimp only at hSw); go_simp; (try with_reducible rfl))
                (try simp only [Act.put, List.setIfInBounds_toArray, List.set_cons_zero, List.set_cons_succ])
                refine wpAnyH_take (i := 9) (v := ?_) rfl (by kernel_rfl) (by kernel_rfl) (by kernel_rfl) (fun _ _ _ h => h) (Or.inl ⟨by rfl, ?_⟩) (by assumption) ?_
                rotate_left
                · (intro wS hSw; (try dsimp only at hSw); go_simp; (try with_reducible rfl))
                (try simp only [Act.put, List.setIfInBounds_toArray, List.set_cons_zero, List.set_cons_succ])
                refine wpAnyH_take (i := 10) (v := ?_) rfl (by kernel_rfl) (by kernel_rfl) (by kernel_rfl) (fun _ _ _ h => h) (Or.inl ⟨by rfl, ?_⟩) (by assumption) ?_
                rotate_left
                · (intro wS hSw; (try dsimp only at hSw); go_simp; (try with_reducible rfl))
                (try simp only [Act.put, List.setIfInBounds_toArray, List.set_cons_zero, List.set_cons_succ])
                refine wpAnyH_take (i := 11) (v := ?_) rfl (by kernel_rfl) (by kernel_rfl) (by kernel_rfl) (fun _ _ _ h => h) (Or.inl ⟨by rfl, ?_⟩) (by assumption) ?_
                rotate_left
                · (intro wS hSw; (try dsimp only at hSw); go_simp; (try with_reducible rfl))
                (try simp only [Act.put, List.setIfInBounds_toArray, List.set_cons_zero, List.set_cons_succ])
                have a0 := (AAw3r22.out).cell (j := 0) rfl
                have a1 := (AAw3r22.out).cell (j := 1) rfl
                have b0 := (ABw3r22.out).cell (j := 0) rfl
                have b1 := (ABw3r22.out).cell (j := 1) rfl
                have f0 := (AAw3r22.out).frozen 0
                have f1 := (AAw3r22.out).frozen 1
                have f2 := (ABw3r22.out).frozen 0
                have f3 := (ABw3r22.out).frozen 1
                have hne1 : ¬ bAw3r17 = fb := by omega
                have hne2 : ¬ bBw3r21 = fb := by omega
                have hne3 : ¬ bAw3r17 = bBw3r21 := by omega
                have hne4 : ¬ bBw3r21 = bAw3r17 := by omega
                refine wpAnyH_ready (rs := [14]) (by kernel_rfl) (by simp) ?_
                refine AllReadyH.cons rfl (fun K hK => ?_) AllReadyH.nil
                go_simp
                refine hK.out _ _ ?_ (fun hHeld => ?_)
                · ((try dsimp only); go_keep)
                clear hK K
                (try simp only [Act.put, List.setIfInBounds_toArray, List.set_cons_zero, List.set_cons_succ])
                refine wpAnyH_ready (rs := [15]) (by kernel_rfl) (by simp) ?_
                refine AllReadyH.cons rfl (fun K hK => ?_) AllReadyH.nil
                go_simp
                refine hK.out _ _ ?_ (fun hHeld => ?_)
                · ((try dsimp only); go_keep)
                clear hK K
                (try simp only [Act.put, List.setIfInBounds_toArray, List.set_cons_zero, List.set_cons_succ])
                refine wpAnyH_take (i := 16) (v := ?_) rfl (by kernel_rfl) (by kernel_rfl) (by kernel_rfl) (fun _ _ _ h => h) (Or.inl ⟨by rfl, ?_⟩) (by assumption) ?_
                rotate_left
                · (intro wS hSw; (try dsimp only at hSw); go_simp; (try with_reducible rfl))
                (try simp only [Act.put, List.setIfInBounds_toArray, List.set_cons_zero, List.set_cons_succ])
                refine wpAnyH_done (by kernel_rfl) ?_ _
                (try simp only [List.getElem_toArray, List.getElem_cons_zero, List.getElem_cons_succ, Act.put, List.setIfInBounds_toArray, List.set_cons_zero, List.set_cons_succ])
                have hA := (((AAw3r22.out).set 0 (.bool (ineg (qy : Int)))).set 1 (.string (imag (qy : Int)))).of_block ((Below.heap_setCell _ ⟨bBw3r21, 1, none⟩ (.string (imag (q : Int))) bAw3r17 hne3).trans (Below.heap_setCell _ ⟨bBw3r21, 0, none⟩ (.bool (ineg (q : Int))) bAw3r17 hne3))
                have hB := (((ABw3r22.out).of_block ((Below.heap_setCell _ ⟨bAw3r17, 1, none⟩ (.string (imag (qy : Int))) bBw3r21 hne4).trans (Below.heap_setCell _ ⟨bAw3r17, 0, none⟩ (.bool (ineg (qy : Int))) bBw3r21 hne4))).set 0 (.bool (ineg (q : Int)))).set 1 (.string (imag (q : Int)))
                have hS := ((((Sw3r22.out).setCell (p := ⟨bAw3r17, 0, none⟩) (show w3.heap.size ≤ bAw3r17 by omega) (.bool (ineg (qy : Int)))).setCell (p := ⟨bAw3r17, 1, none⟩) (show w3.heap.size ≤ bAw3r17 by omega) (.string (imag (qy : Int)))).setCell (p := ⟨bBw3r21, 0, none⟩) (show w3.heap.size ≤ bBw3r21 by omega) (.bool (ineg (q : Int)))).setCell (p := ⟨bBw3r21, 1, none⟩) (show w3.heap.size ≤ bBw3r21 by omega) (.string (imag (q : Int)))
                clear hHeld
                go_wp2_with fail
                go_meet
                exact ⟨_, _, rfl, rfl, rfl, hS, hA, hB⟩
            · go_simp
              refine hK.out _ _ ?_ (fun hHeld => ?_)
              · ((try dsimp only); go_keep)
              clear hK K
              (try simp only [Act.put, List.setIfInBounds_toArray, List.set_cons_zero, List.set_cons_succ])
              have hbq : Below (w3r17).heap.size (w3r17) ((w3r17).alloc (.cells #[.bool false, .string ⟨#[]⟩] 26)) := (Below.refl _ _).alloc (Nat.le_refl _) _
              have a5 := Blk.new (w3r17) 26 [.bool false, .string ⟨#[]⟩]
              have g5 : (w3r17).heap.size = w3r17.heap.size := rfl
              rw [g5] at a5
              have s5 := (Sw3r17.out).trans (hbq.mono (Sw3r17.out).size)
              obtain ⟨bBw3r23, hba⟩ : ∃ ba, ba = w3r17.heap.size := ⟨_, rfl⟩
              have hanew3r23 : w3.heap.size ≤ bBw3r23 := by have := (Sw3r17.out).size; omega
              rw [← hba] at a5
              have e5 : (w3r17).alloc (.cells #[.bool false, .string ⟨#[]⟩] 26) = (w3r17).alloc (.cells #[.bool false, .string ⟨#[]⟩] 26) := rfl
              rw [e5] at a5 s5 hbq
              have a6A := (AAw3r17.out).keep hbq
              have hnnw3r23 : ¬ bAw3r17 = bBw3r23 := by have := (AAw3r17.out).lt; omega
              obtain ⟨w3r23, hv5⟩ : ∃ w3r23, (w3r17).alloc (.cells #[.bool false, .string ⟨#[]⟩] 26) = w3r23 := ⟨_, rfl⟩
              rw [hv5] at hHeld a5 s5 hbq a6A
              have l5 : w3.heap.size ≤ w3r23.heap.size := s5.size
              have ABw3r23 := Lib.hid a5; clear a5
              have AAw3r23 := Lib.hid a6A; clear a6A
              have Sw3r23 := Lib.hid s5; clear s5
              have hpa : (Value.pointer (some ⟨w3r17.heap.size, 0, none⟩)) = Value.pointer (some ⟨bBw3r23, 0, none⟩) := by rw [hba]
              (try simp only [World.size_drew])
              rw [hv5]
              (try rw [hpa])
              clear hbq hv5 hba hpa g5 e5
              refine wpAnyH_ready (rs := [2]) (by kernel_rfl) (by simp) ?_
              refine AllReadyH.cons rfl (fun K hK => ?_) AllReadyH.nil
              go_simp
              go_at_call 18
              refine (HOY.out _).mono ?_
              rintro e w3r24 ⟨hq, rfl⟩
              dsimp only
              have z0 := (hq.cell (p := ⟨fb, s0 * 2, none⟩) (show fb < w3r23.heap.size by omega)).trans hHeld.1
              have z1 := (hq.cell (p := ⟨fb, s0 * 2 + 1, none⟩) (show fb < w3r23.heap.size by omega)).trans hHeld.2
              refine hK.out _ _ ⟨z0, z1⟩ (fun hHeld => ?_)
              clear hK K
              (try simp only [Act.put, List.setIfInBounds_toArray, List.set_cons_zero, List.set_cons_succ])
              have s5 := (Sw3r23.out).trans (hq.mono (Sw3r23.out).size)
              have l5 : w3.heap.size ≤ w3r24.heap.size := s5.size
              have a5 := (AAw3r23.out).keep hq
              have AAw3r24 := Lib.hid a5; clear a5
              have a5 := (ABw3r23.out).keep hq
              have ABw3r24 := Lib.hid a5; clear a5
              have Sw3r24 := Lib.hid s5; clear s5
              clear hq z0 z1
              refine wpAnyH_ready (rs := [7]) (by kernel_rfl) (by simp) ?_
              refine AllReadyH.cons rfl (fun K hK => ?_) AllReadyH.nil
              go_simp
              go_at_call 29
              refine (HDY.out _).mono ?_
              rintro e w3r25 ⟨hq, rfl⟩
              dsimp only
              have z0 := (hq.cell (p := ⟨fb, s0 * 2, none⟩) (show fb < w3r24.heap.size by omega)).trans hHeld.1
              have z1 := (hq.cell (p := ⟨fb, s0 * 2 + 1, none⟩) (show fb < w3r24.heap.size by omega)).trans hHeld.2
              refine hK.out _ _ ⟨z0, z1⟩ (fun hHeld => ?_)
              clear hK K
              (try simp only [Act.put, List.setIfInBounds_toArray, List.set_cons_zero, List.set_cons_succ])
              have s5 := (Sw3r24.out).trans (hq.mono (Sw3r24.out).size)
              have l5 : w3.heap.size ≤ w3r25.heap.size := s5.size
              have a5 := (AAw3r24.out).keep hq
              have AAw3r25 := Lib.hid a5; clear a5
              have a5 := (ABw3r24.out).keep hq
              have ABw3r25 := Lib.hid a5; clear a5
              have Sw3r25 := Lib.hid s5; clear s5
              clear hq z0 z1
              refine wpAnyH_take (i := 8) (v := ?_) rfl (by kernel_rfl) (by kernel_rfl) (by kernel_rfl) (fun _ _ _ h => h) (Or.inl ⟨by rfl, ?_⟩) (by assumption) ?_
              rotate_left
              · (intro wS hSw; (try dsimp only at hSw); go_simp; (try with_reducible rfl))
              (try simp only [Act.put, List.setIfInBounds_toArray, List.set_cons_zero, List.set_cons_succ])
              refine wpAnyH_take (i := 9) (v := ?_) rfl (by kernel_rfl) (by kernel_rfl) (by kernel_rfl) (fun _ _ _ h => h) (Or.inl ⟨by rfl, ?_⟩) (by assumption) ?_
              rotate_left
              · (intro wS hSw; (try dsimp only at hSw); go_simp; (try with_reducible rfl))
              (try simp only [Act.put, List.setIfInBounds_toArray, List.set_cons_zero, List.set_cons_succ])
              refine wpAnyH_take (i := 10) (v := ?_) rfl (by kernel_rfl) (by kernel_rfl) (by kernel_rfl) (fun _ _ _ h => h) (Or.inl ⟨by rfl, ?_⟩) (by assumption) ?_
              rotate_left
              · (intro wS hSw; (try dsimp only at hSw); go_simp; (try with_reducible rfl))
              (try simp only [Act.put, List.setIfInBounds_toArray, List.set_cons_zero, List.set_cons_succ])
              refine wpAnyH_take (i := 11) (v := ?_) rfl (by kernel_rfl) (by kernel_rfl) (by kernel_rfl) (fun _ _ _ h => h) (Or.inl ⟨by rfl, ?_⟩) (by assumption) ?_
              rotate_left
              · (intro wS hSw; (try dsimp only at hSw); go_simp; (try with_reducible rfl))
              (try simp only [Act.put, List.setIfInBounds_toArray, List.set_cons_zero, List.set_cons_succ])
              have a0 := (AAw3r25.out).cell (j := 0) rfl
              have a1 := (AAw3r25.out).cell (j := 1) rfl
              have b0 := (ABw3r25.out).cell (j := 0) rfl
              have b1 := (ABw3r25.out).cell (j := 1) rfl
              have f0 := (AAw3r25.out).frozen 0
              have f1 := (AAw3r25.out).frozen 1
              have f2 := (ABw3r25.out).frozen 0
              have f3 := (ABw3r25.out).frozen 1
              have hne1 : ¬ bAw3r17 = fb := by omega
              have hne2 : ¬ bBw3r23 = fb := by omega
              have hne3 : ¬ bAw3r17 = bBw3r23 := by omega
              have hne4 : ¬ bBw3r23 = bAw3r17 := by omega
              refine wpAnyH_ready (rs := [14]) (by kernel_rfl) (by simp) ?_
              refine AllReadyH.cons rfl (fun K hK => ?_) AllReadyH.nil
              go_simp
              refine hK.out _ _ ?_ (fun hHeld => ?_)
              · ((try dsimp only); go_keep)
              clear hK K
              (try simp only [Act.put, List.setIfInBounds_toArray, List.set_cons_zero, List.set_cons_succ])
              refine wpAnyH_ready (rs := [15]) (by kernel_rfl) (by simp) ?_
              refine AllReadyH.cons rfl (fun K hK => ?_) AllReadyH.nil
              go_simp
              refine hK.out _ _ ?_ (fun hHeld => ?_)
              · ((try dsimp only); go_keep)
              clear hK K
              (try simp only [Act.put, List.setIfInBounds_toArray, List.set_cons_zero, List.set_cons_succ])
              refine wpAnyH_take (i := 16) (v := ?_) rfl (by kernel_rfl) (by kernel_rfl) (by kernel_rfl) (fun _ _ _ h => h) (Or.inl ⟨by rfl, ?_⟩) (by assumption) ?_
              rotate_left
              · (intro wS hSw; (try dsimp only at hSw); go_simp; (try with_reducible rfl))
              (try simp only [Act.put, List.setIfInBounds_toArray, List.set_cons_zero, List.set_cons_succ])
              refine wpAnyH_done (by kernel_rfl) ?_ _
              (try simp only [List.getElem_toArray, List.getElem_cons_zero, List.getElem_cons_succ, Act.put, List.setIfInBounds_toArray, List.set_cons_zero, List.set_cons_succ])
              have hA := (((AAw3r25.out).set 0 (.bool (ineg (qy : Int)))).set 1 (.string (imag (qy : Int)))).of_block ((Below.heap_setCell _ ⟨bBw3r23, 1, none⟩ (.string (imag (q : Int))) bAw3r17 hne3).trans (Below.heap_setCell _ ⟨bBw3r23, 0, none⟩ (.bool (ineg (q : Int))) bAw3r17 hne3))
              have hB := (((ABw3r25.out).of_block ((Below.heap_setCell _ ⟨bAw3r17, 1, none⟩ (.string (imag (qy : Int))) bBw3r23 hne4).trans (Below.heap_setCell _ ⟨bAw3r17, 0, none⟩ (.bool (ineg (qy : Int))) bBw3r23 hne4))).set 0 (.bool (ineg (q : Int)))).set 1 (.string (imag (q : Int)))
              have hS := ((((Sw3r25.out).setCell (p := ⟨bAw3r17, 0, none⟩) (show w3.heap.size ≤ bAw3r17 by omega) (.bool (ineg (qy : Int)))).setCell (p := ⟨bAw3r17, 1, none⟩) (show w3.heap.size ≤ bAw3r17 by omega) (.string (imag (qy : Int)))).setCell (p := ⟨bBw3r23, 0, none⟩) (show w3.heap.size ≤ bBw3r23 by omega) (.bool (ineg (q : Int)))).setCell (p := ⟨bBw3r23, 1, none⟩) (show w3.heap.size ≤ bBw3r23 by omega) (.string (imag (q : Int)))
              clear hHeld
              go_wp2_with fail
              go_meet
              exact ⟨_, _, rfl, rfl, rfl, hS, hA, hB⟩
          · go_simp
            refine hK.out _ _ ?_ (fun hHeld => ?_)
            · ((try dsimp only); go_keep)
            clear hK K
            (try simp only [Act.put, List.setIfInBounds_toArray, List.set_cons_zero, List.set_cons_succ])
            have hbq : Below (w3.drew).heap.size (w3.drew) ((w3.drew).alloc (.cells #[.bool false, .string ⟨#[]⟩] 26)) := (Below.refl _ _).alloc (Nat.le_refl _) _
            have a5 := Blk.new (w3.drew) 26 [.bool false, .string ⟨#[]⟩]
            have g5 : (w3.drew).heap.size = w3.heap.size := rfl
            rw [g5] at a5
            have s5 := ((Below.refl w3.heap.size w3).drew).trans (hbq.mono ((Below.refl w3.heap.size w3).drew).size)
            obtain ⟨bBw3r26, hba⟩ : ∃ ba, ba = w3.heap.size := ⟨_, rfl⟩
            have hanew3r26 : w3.heap.size ≤ bBw3r26 := by have := ((Below.refl w3.heap.size w3).drew).size; omega
            rw [← hba] at a5
            have e5 : (w3.drew).alloc (.cells #[.bool false, .string ⟨#[]⟩] 26) = (w3.alloc (.cells #[.bool false, .string ⟨#[]⟩] 26)).drew := rfl
            rw [e5] at a5 s5 hbq
            obtain ⟨w3r26, hv5⟩ : ∃ w3r26, (w3.alloc (.cells #[.bool false, .string ⟨#[]⟩] 26)).drew = w3r26 := ⟨_, rfl⟩
            rw [hv5] at hHeld a5 s5 hbq
            have l5 : w3.heap.size ≤ w3r26.heap.size := s5.size
            have ABw3r26 := Lib.hid a5; clear a5
            have Sw3r26 := Lib.hid s5; clear s5
            have hpa : (Value.pointer (some ⟨w3.heap.size, 0, none⟩)) = Value.pointer (some ⟨bBw3r26, 0, none⟩) := by rw [hba]
            (try simp only [World.size_drew])
            rw [hv5]
            (try rw [hpa])
            clear hbq hv5 hba hpa g5 e5
            refine wpAnyH_ready (rs := [2, 12]) (by kernel_rfl) (by simp) ?_
            refine AllReadyH.cons rfl (fun K hK => ?_) (AllReadyH.cons rfl (fun K hK => ?_) AllReadyH.nil)
            · go_simp
              go_at_call 18
              refine (HOY.out _).mono ?_
              rintro e w3r27 ⟨hq, rfl⟩
              dsimp only
              have z0 := (hq.cell (p := ⟨fb, s0 * 2, none⟩) (show fb < w3r26.heap.size by omega)).trans hHeld.1
              have z1 := (hq.cell (p := ⟨fb, s0 * 2 + 1, none⟩) (show fb < w3r26.heap.size by omega)).trans hHeld.2
              refine hK.out _ _ ⟨z0, z1⟩ (fun hHeld => ?_)
              clear hK K
              (try simp only [Act.put, List.setIfInBounds_toArray, List.set_cons_zero, List.set_cons_succ])
              have s5 := (Sw3r26.out).trans (hq.mono (Sw3r26.out).size)
              have l5 : w3.heap.size ≤ w3r27.heap.size := s5.size
              have a5 := (ABw3r26.out).keep hq
              have ABw3r27 := Lib.hid a5; clear a5
              have Sw3r27 := Lib.hid s5; clear s5
              clear hq z0 z1
              refine wpAnyH_ready (rs := [7, 12]) (by kernel_rfl) (by simp) ?_
              refine AllReadyH.cons rfl (fun K hK => ?_) (AllReadyH.cons rfl (fun K hK => ?_) AllReadyH.nil)
              · go_simp
                go_at_call 29
                refine (HDY.out _).mono ?_
                rintro e w3r28 ⟨hq, rfl⟩
                dsimp only
                have z0 := (hq.cell (p := ⟨fb, s0 * 2, none⟩) (show fb < w3r27.heap.size by omega)).trans hHeld.1
                have z1 := (hq.cell (p := ⟨fb, s0 * 2 + 1, none⟩) (show fb < w3r27.heap.size by omega)).trans hHeld.2
                refine hK.out _ _ ⟨z0, z1⟩ (fun hHeld => ?_)
                clear hK K
                (try simp only [Act.put, List.setIfInBounds_toArray, List.set_cons_zero, List.set_cons_succ])
                have s5 := (Sw3r27.out).trans (hq.mono (Sw3r27.out).size)
                have l5 : w3.heap.size ≤ w3r28.heap.size := s5.size
                have a5 := (ABw3r27.out).keep hq
                have ABw3r28 := Lib.hid a5; clear a5
                have Sw3r28 := Lib.hid s5; clear s5
                clear hq z0 z1
                refine wpAnyH_take (i := 8) (v := ?_) rfl (by kernel_rfl) (by kernel_rfl) (by kernel_rfl) (fun _ _ _ h => h) (Or.inl ⟨by rfl, ?_⟩) (by assumption) ?_
                rotate_left
                · (intro wS hSw; (try dsimp only at hSw); go_simp; (try with_reducible rfl))
                (try simp only [Act.put, List.setIfInBounds_toArray, List.set_cons_zero, List.set_cons_succ])
                refine wpAnyH_take (i := 9) (v := ?_) rfl (by kernel_rfl) (by kernel_rfl) (by kernel_rfl) (fun _ _ _ h => h) (Or.inl ⟨by rfl, ?_⟩) (by assumption) ?_
                rotate_left
                · (intro wS hSw; (try dsimp only at hSw); go_simp; (try with_reducible rfl))
                (try simp only [Act.put, List.setIfInBounds_toArray, List.set_cons_zero, List.set_cons_succ])
                refine wpAnyH_take (i := 10) (v := ?_) rfl (by kernel_rfl) (by kernel_rfl) (by kernel_rfl) (fun _ _ _ h => h) (Or.inl ⟨by rfl, ?_⟩) (by assumption) ?_
                rotate_left
                · (intro wS hSw; (try dsimp only at hSw); go_simp; (try with_reducible rfl))
                (try simp only [Act.put, List.setIfInBounds_toArray, List.set_cons_zero, List.set_cons_succ])
                refine wpAnyH_take (i := 11) (v := ?_) rfl (by kernel_rfl) (by kernel_rfl) (by kernel_rfl) (fun _ _ _ h => h) (Or.inl ⟨by rfl, ?_⟩) (by assumption) ?_
                rotate_left
                · (intro wS hSw; (try dsimp only at hSw); go_simp; (try with_reducible rfl))
                (try simp only [Act.put, List.setIfInBounds_toArray, List.set_cons_zero, List.set_cons_succ])
                refine wpAnyH_ready (rs := [12]) (by kernel_rfl) (by simp) ?_
                refine AllReadyH.cons rfl (fun K hK => ?_) AllReadyH.nil
                go_simp
                refine hK.out _ _ ?_ (fun hHeld => ?_)
                · ((try dsimp only); go_keep)
                clear hK K
                (try simp only [Act.put, List.setIfInBounds_toArray, List.set_cons_zero, List.set_cons_succ])
                have hbq : Below (w3r28).heap.size (w3r28) ((w3r28).alloc (.cells #[.bool false, .string ⟨#[]⟩] 26)) := (Below.refl _ _).alloc (Nat.le_refl _) _
                have a5 := Blk.new (w3r28) 26 [.bool false, .string ⟨#[]⟩]
                have g5 : (w3r28).heap.size = w3r28.heap.size := rfl
                rw [g5] at a5
                have s5 := (Sw3r28.out).trans (hbq.mono (Sw3r28.out).size)
                obtain ⟨bAw3r29, hba⟩ : ∃ ba, ba = w3r28.heap.size := ⟨_, rfl⟩
                have hanew3r29 : w3.heap.size ≤ bAw3r29 := by have := (Sw3r28.out).size; omega
                rw [← hba] at a5
                have e5 : (w3r28).alloc (.cells #[.bool false, .string ⟨#[]⟩] 26) = (w3r28).alloc (.cells #[.bool false, .string ⟨#[]⟩] 26) := rfl
                rw [e5] at a5 s5 hbq
                have a6B := (ABw3r28.out).keep hbq
                have hnnw3r29 : ¬ bBw3r26 = bAw3r29 := by have := (ABw3r28.out).lt; omega
                obtain ⟨w3r29, hv5⟩ : ∃ w3r29, (w3r28).alloc (.cells #[.bool false, .string ⟨#[]⟩] 26) = w3r29 := ⟨_, rfl⟩
                rw [hv5] at hHeld a5 s5 hbq a6B
                have l5 : w3.heap.size ≤ w3r29.heap.size := s5.size
                have AAw3r29 := Lib.hid a5; clear a5
                have ABw3r29 := Lib.hid a6B; clear a6B
                have Sw3r29 := Lib.hid s5; clear s5
                have hpa : (Value.pointer (some ⟨w3r28.heap.size, 0, none⟩)) = Value.pointer (some ⟨bAw3r29, 0, none⟩) := by rw [hba]
                (try simp only [World.size_drew])
                rw [hv5]
                (try rw [hpa])
                clear hbq hv5 hba hpa g5 e5
                have a0 := (AAw3r29.out).cell (j := 0) rfl
                have a1 := (AAw3r29.out).cell (j := 1) rfl
                have b0 := (ABw3r29.out).cell (j := 0) rfl
                have b1 := (ABw3r29.out).cell (j := 1) rfl
                have f0 := (AAw3r29.out).frozen 0
                have f1 := (AAw3r29.out).frozen 1
                have f2 := (ABw3r29.out).frozen 0
                have f3 := (ABw3r29.out).frozen 1
                have hne1 : ¬ bAw3r29 = fb := by omega
                have hne2 : ¬ bBw3r26 = fb := by omega
                have hne3 : ¬ bAw3r29 = bBw3r26 := by omega
                have hne4 : ¬ bBw3r26 = bAw3r29 := by omega
                refine wpAnyH_ready (rs := [14]) (by kernel_rfl) (by simp) ?_
                refine AllReadyH.cons rfl (fun K hK => ?_) AllReadyH.nil
                go_simp
                refine hK.out _ _ ?_ (fun hHeld => ?_)
                · ((try dsimp only); go_keep)
                clear hK K
                (try simp only [Act.put, List.setIfInBounds_toArray, List.set_cons_zero, List.set_cons_succ])
                refine wpAnyH_ready (rs := [15]) (by kernel_rfl) (by simp) ?_
                refine AllReadyH.cons rfl (fun K hK => ?_) AllReadyH.nil
                go_simp
                refine hK.out _ _ ?_ (fun hHeld => ?_)
                · ((try dsimp only); go_keep)
                clear hK K
                (try simp only [Act.put, List.setIfInBounds_toArray, List.set_cons_zero, List.set_cons_succ])
                refine wpAnyH_take (i := 16) (v := ?_) rfl (by kernel_rfl) (by kernel_rfl) (by kernel_rfl) (fun _ _ _ h => h) (Or.inl ⟨by rfl, ?_⟩) (by assumption) ?_
                rotate_left
                · (intro wS hSw; (try dsimp only at hSw); go_simp; (try with_reducible rfl))
                (try simp only [Act.put, List.setIfInBounds_toArray, List.set_cons_zero, List.set_cons_succ])
                refine wpAnyH_done (by kernel_rfl) ?_ _
                (try simp only [List.getElem_toArray, List.getElem_cons_zero, List.getElem_cons_succ, Act.put, List.setIfInBounds_toArray, List.set_cons_zero, List.set_cons_succ])
                have hA := (((AAw3r29.out).set 0 (.bool (ineg (qy : Int)))).set 1 (.string (imag (qy : Int)))).of_block ((Below.heap_setCell _ ⟨bBw3r26, 1, none⟩ (.string (imag (q : Int))) bAw3r29 hne3).trans (Below.heap_setCell _ ⟨bBw3r26, 0, none⟩ (.bool (ineg (q : Int))) bAw3r29 hne3))
                have hB := (((ABw3r29.out).of_block ((Below.heap_setCell _ ⟨bAw3r29, 1, none⟩ (.string (imag (qy : Int))) bBw3r26 hne4).trans (Below.heap_setCell _ ⟨bAw3r29, 0, none⟩ (.bool (ineg (qy : Int))) bBw3r26 hne4))).set 0 (.bool (ineg (q : Int)))).set 1 (.string (imag (q : Int)))
                have hS := ((((Sw3r29.out).setCell (p := ⟨bAw3r29, 0, none⟩) (show w3.heap.size ≤ bAw3r29 by omega) (.bool (ineg (qy : Int)))).setCell (p := ⟨bAw3r29, 1, none⟩) (show w3.heap.size ≤ bAw3r29 by omega) (.string (imag (qy : Int)))).setCell (p := ⟨bBw3r26, 0, none⟩) (show w3.heap.size ≤ bBw3r26 by omega) (.bool (ineg (q : Int)))).setCell (p := ⟨bBw3r26, 1, none⟩) (show w3.heap.size ≤ bBw3r26 by omega) (.string (imag (q : Int)))
                clear hHeld
                go_wp2_with fail
                go_meet
                exact ⟨_, _, rfl, rfl, rfl, hS, hA, hB⟩
              · go_simp
                refine hK.out _ _ ?_ (fun hHeld => ?_)
                · ((try dsimp only); go_keep)
                clear hK K
                (try simp only [Act.put, List.setIfInBounds_toArray, List.set_cons_zero, List.set_cons_succ])
                have hbq : Below (w3r27).heap.size (w3r27) ((w3r27).alloc (.cells #[.bool false, .string ⟨#[]⟩] 26)) := (Below.refl _ _).alloc (Nat.le_refl _) _
                have a5 := Blk.new (w3r27) 26 [.bool false, .string ⟨#[]⟩]
                have g5 : (w3r27).heap.size = w3r27.heap.size := rfl
                rw [g5] at a5
                have s5 := (Sw3r27.out).trans (hbq.mono (Sw3r27.out).size)
                obtain ⟨bAw3r30, hba⟩ : ∃ ba, ba = w3r27.heap.size := ⟨_, rfl⟩
                have hanew3r30 : w3.heap.size ≤ bAw3r30 := by have := (Sw3r27.out).size; omega
                rw [← hba] at a5
                have e5 : (w3r27).alloc (.cells #[.bool false, .string ⟨#[]⟩] 26) = (w3r27).alloc (.cells #[.bool false, .string ⟨#[]⟩] 26) := rfl
                rw [e5] at a5 s5 hbq
                have a6B := (ABw3r27.out).keep hbq
                have hnnw3r30 : ¬ bBw3r26 = bAw3r30 := by have := (ABw3r27.out).lt; omega
                obtain ⟨w3r30, hv5⟩ : ∃ w3r30, (w3r27).alloc (.cells #[.bool false, .string ⟨#[]⟩] 26) = w3r30 := ⟨_, rfl⟩
                rw [hv5] at hHeld a5 s5 hbq a6B
                have l5 : w3.heap.size ≤ w3r30.heap.size := s5.size
                have AAw3r30 := Lib.hid a5; clear a5
                have ABw3r30 := Lib.hid a6B; clear a6B
                have Sw3r30 := Lib.hid s5; clear s5
                have hpa : (Value.pointer (some ⟨w3r27.heap.size, 0, none⟩)) = Value.pointer (some ⟨bAw3r30, 0, none⟩) := by rw [hba]
                (try simp only [World.size_drew])
                rw [hv5]
                (try rw [hpa])
                clear hbq hv5 hba hpa g5 e5
                refine wpAnyH_ready (rs := [7]) (by kernel_rfl) (by simp) ?_
                refine AllReadyH.cons rfl (fun K hK => ?_) AllReadyH.nil
                go_simp
                go_at_call 29
                refine (HDY.out _).mono ?_
                rintro e w3r31 ⟨hq, rfl⟩
                dsimp only
                have z0 := (hq.cell (p := ⟨fb, s0 * 2, none⟩) (show fb < w3r30.heap.size by omega)).trans hHeld.1
                have z1 := (hq.cell (p := ⟨fb, s0 * 2 + 1, none⟩) (show fb < w3r30.heap.size by omega)).trans hHeld.2
                refine hK.out _ _ ⟨z0, z1⟩ (fun hHeld => ?_)
                clear hK K
                (try simp only [Act.put, List.setIfInBounds_toArray, List.set_cons_zero, List.set_cons_succ])
                have s5 := (Sw3r30.out).trans (hq.mono (Sw3r30.out).size)
                have l5 : w3.heap.size ≤ w3r31.heap.size := s5.size
                have a5 := (ABw3r30.out).keep hq
                have ABw3r31 := Lib.hid a5; clear a5
                have a5 := (AAw3r30.out).keep hq
                have AAw3r31 := Lib.hid a5; clear a5
                have Sw3r31 := Lib.hid s5; clear s5
                clear hq z0 z1
                refine wpAnyH_take (i := 8) (v := ?_) rfl (by kernel_rfl) (by kernel_rfl) (by kernel_rfl) (fun _ _ _ h => h) (Or.inl ⟨by rfl, ?_⟩) (by assumption) ?_
                rotate_left
                · (intro wS hSw; (try dsimp only at hSw); go_simp; (try with_reducible rfl))
                (try simp only [Act.put, List.setIfInBounds_toArray, List.set_cons_zero, List.set_cons_succ])
                refine wpAnyH_take (i := 9) (v := ?_) rfl (by kernel_rfl) (by kernel_rfl) (by kernel_rfl) (fun _ _ _ h => h) (Or.inl ⟨by rfl, ?_⟩) (by assumption) ?_
                rotate_left
                · (intro wS hSw; (try dsimp only at hSw); go_simp; (try with_reducible rfl))
                (try simp only [Act.put, List.setIfInBounds_toArray, List.set_cons_zero, List.set_cons_succ])
                refine wpAnyH_take (i := 10) (v := ?_) rfl (by kernel_rfl) (by kernel_rfl) (by kernel_rfl) (fun _ _ _ h => h) (Or.inl ⟨by rfl, ?_⟩) (by assumption) ?_
                rotate_left
                · (intro wS hSw; (try dsimp only at hSw); go_simp; (try with_reducible rfl))
                (try simp only [Act.put, List.setIfInBounds_toArray, List.set_cons_zero, List.set_cons_succ])
                refine wpAnyH_take (i := 11) (v := ?_) rfl (by kernel_rfl) (by kernel_rfl) (by kernel_rfl) (fun _ _ _ h => h) (Or.inl ⟨by rfl, ?_⟩) (by assumption) ?_
                rotate_left
                · (intro wS hSw; (try dsimp only at hSw); go_simp; (try with_reducible rfl))
                (try simp only [Act.put, List.setIfInBounds_toArray, List.set_cons_zero, List.set_cons_succ])
                have a0 := (AAw3r31.out).cell (j := 0) rfl
                have a1 := (AAw3r31.out).cell (j := 1) rfl
                have b0 := (ABw3r31.out).cell (j := 0) rfl
                have b1 := (ABw3r31.out).cell (j := 1) rfl
                have f0 := (AAw3r31.out).frozen 0
                have f1 := (AAw3r31.out).frozen 1
                have f2 := (ABw3r31.out).frozen 0
                have f3 := (ABw3r31.out).frozen 1
                have hne1 : ¬ bAw3r30 = fb := by omega
                have hne2 : ¬ bBw3r26 = fb := by omega
                have hne3 : ¬ bAw3r30 = bBw3r26 := by omega
                have hne4 : ¬ bBw3r26 = bAw3r30 := by omega
                refine wpAnyH_ready (rs := [14]) (by kernel_rfl) (by simp) ?_
                refine AllReadyH.cons rfl (fun K hK => ?_) AllReadyH.nil
                go_simp
                refine hK.out _ _ ?_ (fun hHeld => ?_)
                · ((try dsimp only); go_keep)
                clear hK K
                (try simp only [Act.put, List.setIfInBounds_toArray, List.set_cons_zero, List.set_cons_succ])
                refine wpAnyH_ready (rs := [15]) (by kernel_rfl) (by simp) ?_
                refine AllReadyH.cons rfl (fun K hK => ?_) AllReadyH.nil
                go_simp
                refine hK.out _ _ ?_ (fun hHeld => ?_)
                · ((try dsimp only); go_keep)
                clear hK K
                (try simp only [Act.put, List.setIfInBounds_toArray, List.set_cons_zero, List.set_cons_succ])
                refine wpAnyH_take (i := 16) (v := ?_) rfl (by kernel_rfl) (by kernel_rfl) (by kernel_rfl) (fun _ _ _ h => h) (Or.inl ⟨by rfl, ?_⟩) (by assumption) ?_
                rotate_left
                · (intro wS hSw; (try dsimp only at hSw); go_simp; (try with_reducible rfl))
                (try simp only [Act.put, List.setIfInBounds_toArray, List.set_cons_zero, List.set_cons_succ])
                refine wpAnyH_done (by kernel_rfl) ?_ _
                (try simp only [List.getElem_toArray, List.getElem_cons_zero, List.getElem_cons_succ, Act.put, List.setIfInBounds_toArray, List.set_cons_zero, List.set_cons_succ])
                have hA := (((AAw3r31.out).set 0 (.bool (ineg (qy : Int)))).set 1 (.string (imag (qy : Int)))).of_block ((Below.heap_setCell _ ⟨bBw3r26, 1, none⟩ (.string (imag (q : Int))) bAw3r30 hne3).trans (Below.heap_setCell _ ⟨bBw3r26, 0, none⟩ (.bool (ineg (q : Int))) bAw3r30 hne3))
                have hB := (((ABw3r31.out).of_block ((Below.heap_setCell _ ⟨bAw3r30, 1, none⟩ (.string (imag (qy : Int))) bBw3r26 hne4).trans (Below.heap_setCell _ ⟨bAw3r30, 0, none⟩ (.bool (ineg (qy : Int))) bBw3r26 hne4))).set 0 (.bool (ineg (q : Int)))).set 1 (.string (imag (q : Int)))
                have hS := ((((Sw3r31.out).setCell (p := ⟨bAw3r30, 0, none⟩) (show w3.heap.size ≤ bAw3r30 by omega) (.bool (ineg (qy : Int)))).setCell (p := ⟨bAw3r30, 1, none⟩) (show w3.heap.size ≤ bAw3r30 by omega) (.string (imag (qy : Int)))).setCell (p := ⟨bBw3r26, 0, none⟩) (show w3.heap.size ≤ bBw3r26 by omega) (.bool (ineg (q : Int)))).setCell (p := ⟨bBw3r26, 1, none⟩) (show w3.heap.size ≤ bBw3r26 by omega) (.string (imag (q : Int)))
                clear hHeld
                go_wp2_with fail
                go_meet
                exact ⟨_, _, rfl, rfl, rfl, hS, hA, hB⟩
            · go_simp
              refine hK.out _ _ ?_ (fun hHeld => ?_)
              · ((try dsimp only); go_keep)
              clear hK K
              (try simp only [Act.put, List.setIfInBounds_toArray, List.set_cons_zero, List.set_cons_succ])
              have hbq : Below (w3r26).heap.size (w3r26) ((w3r26).alloc (.cells #[.bool false, .string ⟨#[]⟩] 26)) := (Below.refl _ _).alloc (Nat.le_refl _) _
              have a5 := Blk.new (w3r26) 26 [.bool false, .string ⟨#[]⟩]
              have g5 : (w3r26).heap.size = w3r26.heap.size := rfl
              rw [g5] at a5
              have s5 := (Sw3r26.out).trans (hbq.mono (Sw3r26.out).size)
              obtain ⟨bAw3r32, hba⟩ : ∃ ba, ba = w3r26.heap.size := ⟨_, rfl⟩
              have hanew3r32 : w3.heap.size ≤ bAw3r32 := by have := (Sw3r26.out).size; omega
              rw [← hba] at a5
              have e5 : (w3r26).alloc (.cells #[.bool false, .string ⟨#[]⟩] 26) = (w3r26).alloc (.cells #[.bool false, .string ⟨#[]⟩] 26) := rfl
              rw [e5] at a5 s5 hbq
              have a6B := (ABw3r26.out).keep hbq
              have hnnw3r32 : ¬ bBw3r26 = bAw3r32 := by have := (ABw3r26.out).lt; omega
              obtain ⟨w3r32, hv5⟩ : ∃ w3r32, (w3r26).alloc (.cells #[.bool false, .string ⟨#[]⟩] 26) = w3r32 := ⟨_, rfl⟩
              rw [hv5] at hHeld a5 s5 hbq a6B
              have l5 : w3.heap.size ≤ w3r32.heap.size := s5.size
              have AAw3r32 := Lib.hid a5; clear a5
              have ABw3r32 := Lib.hid a6B; clear a6B
              have Sw3r32 := Lib.hid s5; clear s5
              have hpa : (Value.pointer (some ⟨w3r26.heap.size, 0, none⟩)) = Value.pointer (some ⟨bAw3r32, 0, none⟩) := by rw [hba]
              (try simp only [World.size_drew])
              rw [hv5]
              (try rw [hpa])
              clear hbq hv5 hba hpa g5 e5
              refine wpAnyH_ready (rs := [2]) (by kernel_rfl) (by simp) ?_
              refine AllReadyH.cons rfl (fun K hK => ?_) AllReadyH.nil
              go_simp
              go_at_call 18
              refine (HOY.out _).mono ?_
              rintro e w3r33 ⟨hq, rfl⟩
              dsimp only
              have z0 := (hq.cell (p := ⟨fb, s0 * 2, none⟩) (show fb < w3r32.heap.size by omega)).trans hHeld.1
              have z1 := (hq.cell (p := ⟨fb, s0 * 2 + 1, none⟩) (show fb < w3r32.heap.size by omega)).trans hHeld.2
              refine hK.out _ _ ⟨z0, z1⟩ (fun hHeld => ?_)
              clear hK K
              (try simp only [Act.put, List.setIfInBounds_toArray, List.set_cons_zero, List.set_cons_succ])
              have s5 := (Sw3r32.out).trans (hq.mono (Sw3r32.out).size)
              have l5 : w3.heap.size ≤ w3r33.heap.size := s5.size
              have a5 := (ABw3r32.out).keep hq
              have ABw3r33 := Lib.hid a5; clear a5
              have a5 := (AAw3r32.out).keep hq
              have AAw3r33 := Lib.hid a5; clear a5
              have Sw3r33 := Lib.hid s5; clear s5
              clear hq z0 z1
              refine wpAnyH_ready (rs := [7]) (by kernel_rfl) (by simp) ?_
              refine AllReadyH.cons rfl (fun K hK => ?_) AllReadyH.nil
              go_simp
              go_at_call 29
              refine (HDY.out _).mono ?_
              rintro e w3r34 ⟨hq, rfl⟩
              dsimp only
              have z0 := (hq.cell (p := ⟨fb, s0 * 2, none⟩) (show fb < w3r33.heap.size by omega)).trans hHeld.1
              have z1 := (hq.cell (p := ⟨fb, s0 * 2 + 1, none⟩) (show fb < w3r33.heap.size by omega)).trans hHeld.2
              refine hK.out _ _ ⟨z0, z1⟩ (fun hHeld => ?_)
              clear hK K
              (try simp only [Act.put, List.setIfInBounds_toArray, List.set_cons_zero, List.set_cons_succ])
              have s5 := (Sw3r33.out).trans (hq.mono (Sw3r33.out).size)
              have l5 : w3.heap.size ≤ w3r34.heap.size := s5.size
              have a5 := (ABw3r33.out).keep hq
              have ABw3r34 := Lib.hid a5; clear a5
              have a5 := (AAw3r33.out).keep hq
              have AAw3r34 := Lib.hid a5; clear a5
              have Sw3r34 := Lib.hid s5; clear s5
              clear hq z0 z1
              refine wpAnyH_take (i := 8) (v := ?_) rfl (by kernel_rfl) (by kernel_rfl) (by kernel_rfl) (fun _ _ _ h => h) (Or.inl ⟨by rfl, ?_⟩) (by assumption) ?_
              rotate_left
              · (intro wS hSw; (try dsimp only at hSw); go_simp; (try with_reducible rfl))
              (try simp only [Act.put, List.setIfInBounds_toArray, List.set_cons_zero, List.set_cons_succ])
              refine wpAnyH_take (i := 9) (v := ?_) rfl (by kernel_rfl) (by kernel_rfl) (by kernel_rfl) (fun _ _ _ h => h) (Or.inl ⟨by rfl, ?_⟩) (by assumption) ?_
              rotate_left
              · (intro wS hSw; (try dsimp only at hSw); go_simp; (try with_reducible rfl))
              (try simp only [Act.put, List.setIfInBounds_toArray, List.set_cons_zero, List.set_cons_succ])
              refine wpAnyH_take (i := 10) (v := ?_) rfl (by kernel_rfl) (by kernel_rfl) (by kernel_rfl) (fun _ _ _ h => h) (Or.inl ⟨by rfl, ?_⟩) (by assumption) ?_
              rotate_left
              · (intro wS hSw; (try dsimp only at hSw); go_simp; (try with_reducible rfl))
              (try simp only [Act.put, List.setIfInBounds_toArray, List.set_cons_zero, List.set_cons_succ])
              refine wpAnyH_take (i := 11) (v := ?_) rfl (by kernel_rfl) (by kernel_rfl) (by kernel_rfl) (fun _ _ _ h => h) (Or.inl ⟨by rfl, ?_⟩) (by assumption) ?_
              rotate_left
              · (intro wS hSw; (try dsimp only at hSw); go_simp; (try with_reducible rfl))
              (try simp only [Act.put, List.setIfInBounds_toArray, List.set_cons_zero, List.set_cons_succ])
              have a0 := (AAw3r34.out).cell (j := 0) rfl
              have a1 := (AAw3r34.out).cell (j := 1) rfl
              have b0 := (ABw3r34.out).cell (j := 0) rfl
              have b1 := (ABw3r34.out).cell (j := 1) rfl
              have f0 := (AAw3r34.out).frozen 0
              have f1 := (AAw3r34.out).frozen 1
              have f2 := (ABw3r34.out).frozen 0
              have f3 := (ABw3r34.out).frozen 1
              have hne1 : ¬ bAw3r32 = fb := by omega
              have hne2 : ¬ bBw3r26 = fb := by omega
              have hne3 : ¬ bAw3r32 = bBw3r26 := by omega
              have hne4 : ¬ bBw3r26 = bAw3r32 := by omega
              refine wpAnyH_ready (rs := [14]) (by kernel_rfl) (by simp) ?_
              refine AllReadyH.cons rfl (fun K hK => ?_) AllReadyH.nil
              go_simp
              refine hK.out _ _ ?_ (fun hHeld => ?_)
              · ((try dsimp only); go_keep)
              clear hK K
              (try simp only [Act.put, List.setIfInBounds_toArray, List.set_cons_zero, List.set_cons_succ])
              refine wpAnyH_ready (rs := [15]) (by kernel_rfl) (by simp) ?_
              refine AllReadyH.cons rfl (fun K hK => ?_) AllReadyH.nil
              go_simp
              refine hK.out _ _ ?_ (fun hHeld => ?_)
              · ((try dsimp only); go_keep)
              clear hK K
              (try simp only [Act.put, List.setIfInBounds_toArray, List.set_cons_zero, List.set_cons_succ])
              refine wpAnyH_take (i := 16) (v := ?_) rfl (by kernel_rfl) (by kernel_rfl) (by kernel_rfl) (fun _ _ _ h => h) (Or.inl ⟨by rfl, ?_⟩) (by assumption) ?_
              rotate_left
              · (intro wS hSw; (try dsimp only at hSw); go_simp; (try with_reducible rfl))
              (try simp only [Act.put, List.setIfInBounds_toArray, List.set_cons_zero, List.set_cons_succ])
              refine wpAnyH_done (by kernel_rfl) ?_ _
              (try simp only [List.getElem_toArray, List.getElem_cons_zero, List.getElem_cons_succ, Act.put, List.setIfInBounds_toArray, List.set_cons_zero, List.set_cons_succ])
              have hA := (((AAw3r34.out).set 0 (.bool (ineg (qy : Int)))).set 1 (.string (imag (qy : Int)))).of_block ((Below.heap_setCell _ ⟨bBw3r26, 1, none⟩ (.string (imag (q : Int))) bAw3r32 hne3).trans (Below.heap_setCell _ ⟨bBw3r26, 0, none⟩ (.bool (ineg (q : Int))) bAw3r32 hne3))
              have hB := (((ABw3r34.out).of_block ((Below.heap_setCell _ ⟨bAw3r32, 1, none⟩ (.string (imag (qy : Int))) bBw3r26 hne4).trans (Below.heap_setCell _ ⟨bAw3r32, 0, none⟩ (.bool (ineg (qy : Int))) bBw3r26 hne4))).set 0 (.bool (ineg (q : Int)))).set 1 (.string (imag (q : Int)))
              have hS := ((((Sw3r34.out).setCell (p := ⟨bAw3r32, 0, none⟩) (show w3.heap.size ≤ bAw3r32 by omega) (.bool (ineg (qy : Int)))).setCell (p := ⟨bAw3r32, 1, none⟩) (show w3.heap.size ≤ bAw3r32 by omega) (.string (imag (qy : Int)))).setCell (p := ⟨bBw3r26, 0, none⟩) (show w3.heap.size ≤ bBw3r26 by omega) (.bool (ineg (q : Int)))).setCell (p := ⟨bBw3r26, 1, none⟩) (show w3.heap.size ≤ bBw3r26 by omega) (.string (imag (q : Int)))
              clear hHeld
              go_wp2_with fail
              go_meet
              exact ⟨_, _, rfl, rfl, rfl, hS, hA, hB⟩
      case rest =>
        obtain ⟨i2, j2, rfl, rfl, rfl, hq, hbi, hbj2⟩ := hcut
        obtain ⟨w4, rfl⟩ : ∃ w4 : World, w4 = wc := ⟨_, rfl⟩
        have s4 := S3.out.trans (hq.mono S3.out.size)
        have hr4 := HR3.out.below hq (Nat.le_refl _)
        clear x0 x1 x2 u0 u1
        have tk := E0.out.keep hq; have x0 := tk.cell (j := 0) rfl; have x1 := tk.cell (j := 1) rfl; have x2 := tk.cell (j := 2) rfl; have F0 := Lib.hid tk; clear tk
        have tk := HBJ.out.keep hq; have y0 := tk.cell (j := 0) rfl; have y1 := tk.cell (j := 1) rfl; have J4 := Lib.hid tk; clear tk
        have hfb4 := HFB3.out.keep hq
        have u0 := hfb4.cell (civ_get HGR.out).1
        have u1 := hfb4.cell (civ_get HGR.out).2
        have z0 := hbj2.cell (j := 0) rfl
        have z1 := hbj2.cell (j := 1) rfl
        have S4 := Lib.hid s4; clear s4
        have HR4 := Lib.hid hr4; clear hr4
        have HFB4 := Lib.hid hfb4; clear hfb4
        have Q4 := Lib.hid hbj2; clear hbj2
        clear hq hbi hfl3 HFB3
        go_wp2_with fail
        go_at_call 28
        refine (HUP.out _ _ HR4.out).mono ?_
        rintro e w5 ⟨hq, rfl⟩
        have s5 := S4.out.trans (hq.mono S4.out.size)
        have hr5 := HR4.out.below hq (Nat.le_refl _)
        clear x0 x1 x2 u0 u1 y0 y1 z0 z1
        have tk := F0.out.keep hq; have x0 := tk.cell (j := 0) rfl; have x1 := tk.cell (j := 1) rfl; have x2 := tk.cell (j := 2) rfl; have G0 := Lib.hid tk; clear tk
        have tk := J4.out.keep hq; have y0 := tk.cell (j := 0) rfl; have y1 := tk.cell (j := 1) rfl; have J5 := Lib.hid tk; clear tk
        have tk := Q4.out.keep hq; have z0 := tk.cell (j := 0) rfl; have z1 := tk.cell (j := 1) rfl; have Q5 := Lib.hid tk; clear tk
        have hfb5 := HFB4.out.keep hq
        have u0 := hfb5.cell (civ_get HGR.out).1
        have u1 := hfb5.cell (civ_get HGR.out).2
        have S5 := Lib.hid s5; clear s5
        have HR5 := Lib.hid hr5; clear hr5
        have HFB5 := Lib.hid hfb5; clear hfb5
        clear hq HFB4
        go_wp2_with fail
        go_at_call 28
        refine (HUQ.out _ _ HR5.out).mono ?_
        rintro e w6 ⟨hq, rfl⟩
        have s6 := S5.out.trans (hq.mono S5.out.size)
        have hr6 := HR5.out.below hq (Nat.le_refl _)
        clear x0 x1 x2 u0 u1 y0 y1 z0 z1
        have tk := G0.out.keep hq; have x0 := tk.cell (j := 0) rfl; have x1 := tk.cell (j := 1) rfl; have x2 := tk.cell (j := 2) rfl; have H0 := Lib.hid tk; clear tk
        have tk := J5.out.keep hq; have y0 := tk.cell (j := 0) rfl; have y1 := tk.cell (j := 1) rfl; have J6 := Lib.hid tk; clear tk
        have tk := Q5.out.keep hq; have z0 := tk.cell (j := 0) rfl; have z1 := tk.cell (j := 1) rfl; have Q6 := Lib.hid tk; clear tk
        have hfb6 := HFB5.out.keep hq
        have u0 := hfb6.cell (civ_get HGR.out).1
        have u1 := hfb6.cell (civ_get HGR.out).2
        have S6 := Lib.hid s6; clear s6
        have HR6 := Lib.hid hr6; clear hr6
        have HFB6 := Lib.hid hfb6; clear hfb6
        clear hq HFB5
        go_wp2_with fail
        go_at_call 30
        refine (HRK.out _ _ HR6.out).mono ?_
        rintro e w7 ⟨hq, rfl⟩
        have s7 := S6.out.trans (hq.mono S6.out.size)
        have hr7 := HR6.out.below hq (Nat.le_refl _)
        clear x0 x1 x2 u0 u1 y0 y1 z0 z1
        have tk := H0.out.keep hq; have x0 := tk.cell (j := 0) rfl; have x1 := tk.cell (j := 1) rfl; have x2 := tk.cell (j := 2) rfl; have I0 := Lib.hid tk; clear tk
        have tk := J6.out.keep hq; have y0 := tk.cell (j := 0) rfl; have y1 := tk.cell (j := 1) rfl; have J7 := Lib.hid tk; clear tk
        have tk := Q6.out.keep hq; have z0 := tk.cell (j := 0) rfl; have z1 := tk.cell (j := 1) rfl; have Q7 := Lib.hid tk; clear tk
        have hfb7 := HFB6.out.keep hq
        have u0 := hfb7.cell (civ_get HGR.out).1
        have u1 := hfb7.cell (civ_get HGR.out).2
        have S7 := Lib.hid s7; clear s7
        have HR7 := Lib.hid hr7; clear hr7
        have HFB7 := Lib.hid hfb7; clear hfb7
        clear hq HFB6
        go_wp2_with fail
        have hq : Below w7.heap.size w7 (w7.alloc (.cells #[.bool (ineg (p : Int)), .string (imag (p : Int))] 26)) := (Below.refl _ _).alloc (Nat.le_refl _) _
        have hr28 := Blk.new w7 26 [.bool (ineg (p : Int)), .string (imag (p : Int))]
        obtain ⟨w8, hw8⟩ : ∃ w8, w8 = w7.alloc (.cells #[.bool (ineg (p : Int)), .string (imag (p : Int))] 26) := ⟨_, rfl⟩
        rw [← hw8] at hq ⊢
        replace hr28 : Blk w8 w7.heap.size 26 [.bool (ineg (p : Int)), .string (imag (p : Int))] := by rw [hw8]; exact hr28
        clear hw8
        have v0 := hr28.cell (j := 0) rfl
        have v1 := hr28.cell (j := 1) rfl
        have V8 := Lib.hid hr28; clear hr28
        have s8 := S7.out.trans (hq.mono S7.out.size)
        have hr8 := HR7.out.below hq (Nat.le_refl _)
        clear x0 x1 x2 u0 u1 y0 y1 z0 z1
        have tk := I0.out.keep hq; have x0 := tk.cell (j := 0) rfl; have x1 := tk.cell (j := 1) rfl; have x2 := tk.cell (j := 2) rfl; have J0 := Lib.hid tk; clear tk
        have tk := J7.out.keep hq; have y0 := tk.cell (j := 0) rfl; have y1 := tk.cell (j := 1) rfl; have J8 := Lib.hid tk; clear tk
        have tk := Q7.out.keep hq; have z0 := tk.cell (j := 0) rfl; have z1 := tk.cell (j := 1) rfl; have Q8 := Lib.hid tk; clear tk
        have hfb8 := HFB7.out.keep hq
        have u0 := hfb8.cell (civ_get HGR.out).1
        have u1 := hfb8.cell (civ_get HGR.out).2
        have S8 := Lib.hid s8; clear s8
        have HR8 := Lib.hid hr8; clear hr8
        have HFB8 := Lib.hid hfb8; clear hfb8
        clear hq HFB7
        have hg8 := J0.out.lt
        have hf8 := HFB8.out.lt
        refine wp_region_held_drew (S := fun w' => w'.cell? ⟨w.heap.size, 0, none⟩ = some (.int .i64 (l : Int)) ∧ w'.cell? ⟨w.heap.size, 1, none⟩ = some (.int .i64 (k : Int)) ∧ w'.cell? ⟨w.heap.size, 2, none⟩ = some (.slice va mm vc) ∧ w'.cell? ⟨fb, s0 * 2, none⟩ = some (.bool (ineg (c : Int))) ∧ w'.cell? ⟨fb, s0 * 2 + 1, none⟩ = some (.string (imag (c : Int)))) (by kernel_rfl) ?_ (fun hHeld => ?_)
        · go_keep
        refine wpAnyH_take (i := 0) (v := ?_) rfl (by kernel_rfl) (by kernel_rfl) (by kernel_rfl) (fun _ _ _ h => h) (Or.inl ⟨by rfl, ?_⟩) (by assumption) ?_
        rotate_left
        · (intro wS hSw; (try dsimp only at hSw); go_simp; (try with_reducible rfl))
        (try simp only [Act.put, List.setIfInBounds_toArray, List.set_cons_zero, List.set_cons_succ])
        refine wpAnyH_take (i := 1) (v := ?_) rfl (by kernel_rfl) (by kernel_rfl) (by kernel_rfl) (fun _ _ _ h => h) (Or.inl ⟨by rfl, ?_⟩) (by assumption) ?_
        rotate_left
        · (intro wS hSw; (try dsimp only at hSw); go_simp; (try with_reducible rfl))
        (try simp only [Act.put, List.setIfInBounds_toArray, List.set_cons_zero, List.set_cons_succ])
        refine wpAnyH_take (i := 2) (v := ?_) rfl (by kernel_rfl) (by kernel_rfl) (by kernel_rfl) (fun _ _ _ h => h) (Or.inl ⟨by rfl, ?_⟩) (by assumption) ?_
        rotate_left
        · (intro wS hSw; (try dsimp only at hSw); go_simp; (try with_reducible rfl))
        (try simp only [Act.put, List.setIfInBounds_toArray, List.set_cons_zero, List.set_cons_succ])
        refine wpAnyH_take (i := 3) (v := ?_) rfl (by kernel_rfl) (by kernel_rfl) (by kernel_rfl) (fun _ _ _ h => h) (Or.inl ⟨by rfl, ?_⟩) (by assumption) ?_
        rotate_left
        · (intro wS hSw; (try dsimp only at hSw); go_simp; (try with_reducible rfl))
        (try simp only [Act.put, List.setIfInBounds_toArray, List.set_cons_zero, List.set_cons_succ])
        refine wpAnyH_take (i := 4) (v := ?_) rfl (by kernel_rfl) (by kernel_rfl) (by kernel_rfl) (fun _ _ _ h => h) (Or.inl ⟨by rfl, ?_⟩) (by assumption) ?_
        rotate_left
        · (intro wS hSw; (try dsimp only at hSw); go_simp; (try with_reducible rfl))
        (try simp only [Act.put, List.setIfInBounds_toArray, List.set_cons_zero, List.set_cons_succ])
        refine wpAnyH_take (i := 5) (v := ?_) rfl (by kernel_rfl) (by kernel_rfl) (by kernel_rfl) (fun _ _ _ h => h) (Or.inl ⟨by rfl, ?_⟩) (by assumption) ?_
        rotate_left
        · (intro wS hSw; (try dsimp only at hSw); go_simp; (try with_reducible rfl))
        (try simp only [Act.put, List.setIfInBounds_toArray, List.set_cons_zero, List.set_cons_succ])
        refine wpAnyH_take (i := 6) (v := ?_) rfl (by kernel_rfl) (by kernel_rfl) (by kernel_rfl) (fun _ _ _ h => h) (Or.inl ⟨by rfl, ?_⟩) (by assumption) ?_
        rotate_left
        · (intro wS hSw; (try dsimp only at hSw); go_simp; (try with_reducible rfl))
        (try simp only [Act.put, List.setIfInBounds_toArray, List.set_cons_zero, List.set_cons_succ])
        refine wpAnyH_ready (rs := [7]) (by kernel_rfl) (by simp) ?_
        refine AllReadyH.cons rfl (fun K hK => ?_) AllReadyH.nil
        go_simp
        go_at_call 28
        refine (HUB.out _ _ HR8.out.drew).mono ?_
        rintro e w9 ⟨hq, rfl⟩
        dsimp only
        have z5 := (hq.cell (p := ⟨w.heap.size, 0, none⟩) (show w.heap.size < w8.heap.size by omega)).trans hHeld.1
        have z6 := (hq.cell (p := ⟨w.heap.size, 1, none⟩) (show w.heap.size < w8.heap.size by omega)).trans hHeld.2.1
        have z7 := (hq.cell (p := ⟨w.heap.size, 2, none⟩) (show w.heap.size < w8.heap.size by omega)).trans hHeld.2.2.1
        have z8 := (hq.cell (p := ⟨fb, s0 * 2, none⟩) (show fb < w8.heap.size by omega)).trans hHeld.2.2.2.1
        have z9 := (hq.cell (p := ⟨fb, s0 * 2 + 1, none⟩) (show fb < w8.heap.size by omega)).trans hHeld.2.2.2.2
        refine hK.out _ _ ⟨z5, z6, z7, z8, z9⟩ (fun hHeld2 => ?_)
        clear hK K z5 z6 z7 z8 z9 hHeld
        (try simp only [Act.put, List.setIfInBounds_toArray, List.set_cons_zero, List.set_cons_succ])
        refine wpAnyH_take (i := 8) (v := ?_) rfl (by kernel_rfl) (by kernel_rfl) (by kernel_rfl) (fun _ _ _ h => h) (Or.inl ⟨by rfl, ?_⟩) (by assumption) ?_
        rotate_left
        · (intro wS hSw; (try dsimp only at hSw); go_simp; (try with_reducible rfl))
        (try simp only [Act.put, List.setIfInBounds_toArray, List.set_cons_zero, List.set_cons_succ])
        refine wpAnyH_take (i := 9) (v := ?_) rfl (by kernel_rfl) (by kernel_rfl) (by kernel_rfl) (fun _ _ _ h => h) (Or.inl ⟨by rfl, ?_⟩) (by assumption) ?_
        rotate_left
        · (intro wS hSw; (try dsimp only at hSw); go_simp; (try with_reducible rfl))
        (try simp only [Act.put, List.setIfInBounds_toArray, List.set_cons_zero, List.set_cons_succ])
        refine wpAnyH_take (i := 10) (v := ?_) rfl (by kernel_rfl) (by kernel_rfl) (by kernel_rfl) (fun _ _ _ h => h) (Or.inl ⟨by rfl, ?_⟩) (by assumption) ?_
        rotate_left
        · (intro wS hSw; (try dsimp only at hSw); go_simp; (try with_reducible rfl))
        (try simp only [Act.put, List.setIfInBounds_toArray, List.set_cons_zero, List.set_cons_succ])
        refine wpAnyH_take (i := 11) (v := ?_) rfl (by kernel_rfl) (by kernel_rfl) (by kernel_rfl) (fun _ _ _ h => h) (Or.inl ⟨by rfl, ?_⟩) (by assumption) ?_
        rotate_left
        · (intro wS hSw; (try dsimp only at hSw); go_simp; (try with_reducible rfl))
        (try simp only [Act.put, List.setIfInBounds_toArray, List.set_cons_zero, List.set_cons_succ])
        refine wpAnyH_take (i := 12) (v := ?_) rfl (by kernel_rfl) (by kernel_rfl) (by kernel_rfl) (fun _ _ _ h => h) (Or.inl ⟨by rfl, ?_⟩) (by assumption) ?_
        rotate_left
        · (intro wS hSw; (try dsimp only at hSw); go_simp; (try with_reducible rfl))
        (try simp only [Act.put, List.setIfInBounds_toArray, List.set_cons_zero, List.set_cons_succ])
        refine wpAnyH_done (by kernel_rfl) ?_ _
        (try simp only [List.getElem_toArray, List.getElem_cons_zero, List.getElem_cons_succ, Act.put, List.setIfInBounds_toArray, List.set_cons_zero, List.set_cons_succ])
        clear hHeld2
        have s9 := S8.out.drew.trans (hq.mono S8.out.size)
        clear x0 x1 x2 u0 u1 y0 y1 z0 z1 v0 v1
        have y9 := J8.out.drew.keep hq
        have z9 := Q8.out.drew.keep hq
        have v9 := V8.out.drew.keep hq
        have y0 := y9.cell (j := 0) rfl
        have y1 := y9.cell (j := 1) rfl
        have z0 := z9.cell (j := 0) rfl
        have z1 := z9.cell (j := 1) rfl
        have v0 := v9.cell (j := 0) rfl
        have v1 := v9.cell (j := 1) rfl
        have S9 := Lib.hid s9; clear s9
        have J9 := Lib.hid y9; clear y9
        have Q9 := Lib.hid z9; clear z9
        clear v9 V8 hq
        have hmx : ∀ (w : World) (ts : Array TypeId) (t : TypeId), (Builtin.max_ ts t #[.int .i64 0, .int .i64 0, .int .i64 0, .int .i64 0, .int .i64 0]).run Try.prog w = .ok (.int .i64 0) w := fun w ts t => by simp [Builtin.max_, Builtin.max2]
        have hnx : ∀ (w : World), (binOp .neq 26 (.agg #[.bool (ineg (p : Int)), .string (imag (p : Int))]) (.agg #[.bool (ineg (p : Int)), .string (imag (p : Int))])).run Try.prog w = .ok (.bool false) w := fun w => neq_self _ w
        rcases Nat.lt_trichotomy p q with hpq | hpq | hpq
        · have t1 : Op.bytesLess us.toList vs.toList = true := by rw [HLS.out.1]; simp; omega
          have hz : cmpZ (p : Int) (q : Int) = -1 := by unfold cmpZ; rw [if_pos (by omega)]
          have hc := HCM.out
          rw [hz] at hc
          have HC := Lib.hid hc; clear hc
          clear hz hpq
          go_wp2_with fail
          go_at_call 20
          refine (HC.out _).mono ?_
          rintro e wd ⟨hq, rfl⟩
          have sd := S9.out.trans (hq.mono S9.out.size)
          have SD := Lib.hid sd; clear sd
          clear hq
          go_wp2_with fail
          go_at_call 11
          refine (HAW.out _).mono ?_
          rintro e we ⟨hq, rfl⟩
          have se := SD.out.trans (hq.mono SD.out.size)
          have SE := Lib.hid se; clear se
          clear hq
          go_wp2_with fail
          go_ret
          exact ⟨SE.out, rfl⟩
        · have t1 : Op.bytesLess us.toList vs.toList = false := by rw [HLS.out.1]; simp; omega
          have t2 : (us.toList == vs.toList) = true := by
            have t3 := HLS.out.2
            rw [t1, Bool.false_or] at t3
            have t4 : decide ((q : Int) < (p : Int)) = false := by simp; omega
            rw [t4] at t3
            cases hx : (us.toList == vs.toList) <;> rw [hx] at t3 <;> simp at t3 <;> rfl
          have hz : cmpZ (p : Int) (q : Int) = 0 := by unfold cmpZ; rw [if_neg (by omega), if_pos (by omega)]
          have hc := HCM.out
          rw [hz] at hc
          have HC := Lib.hid hc; clear hc
          clear hz hpq
          go_wp2_with fail
          go_at_call 20
          refine (HC.out _).mono ?_
          rintro e wd ⟨hq, rfl⟩
          have sd := S9.out.trans (hq.mono S9.out.size)
          have SD := Lib.hid sd; clear sd
          clear hq
          go_wp2_with fail
          go_at_call 11
          refine (HAW.out _).mono ?_
          rintro e we ⟨hq, rfl⟩
          have se := SD.out.trans (hq.mono SD.out.size)
          have SE := Lib.hid se; clear se
          clear hq
          go_wp2_with fail
          go_ret
          exact ⟨SE.out, rfl⟩
        · have t1 : Op.bytesLess us.toList vs.toList = false := by rw [HLS.out.1]; simp; omega
          have t2 : (us.toList == vs.toList) = false := by
            have t3 := HLS.out.2
            rw [t1, Bool.false_or] at t3
            have t4 : decide ((q : Int) < (p : Int)) = true := by simp; omega
            rw [t4] at t3
            cases hx : (us.toList == vs.toList) <;> rw [hx] at t3 <;> simp at t3 <;> rfl
          have hz : cmpZ (p : Int) (q : Int) = 1 := by unfold cmpZ; rw [if_neg (by omega), if_neg (by omega)]
          have hc := HCM.out
          rw [hz] at hc
          have HC := Lib.hid hc; clear hc
          clear hz hpq
          go_wp2_with fail
          go_at_call 20
          refine (HC.out _).mono ?_
          rintro e wd ⟨hq, rfl⟩
          have sd := S9.out.trans (hq.mono S9.out.size)
          have SD := Lib.hid sd; clear sd
          clear hq
          go_wp2_with fail
          go_at_call 11
          refine (HAW.out _).mono ?_
          rintro e we ⟨hq, rfl⟩
          have se := SD.out.trans (hq.mono SD.out.size)
          have SE := Lib.hid se; clear se
          clear hq
          go_wp2_with fail
          go_ret
          exact ⟨SE.out, rfl⟩
theorem lord_all (L S : Int) (es : List E3) (v : Value) (aa ab nn xx yy : Nat) (w : World) (hr : Row w v es.length (ce es)) (hok : okEs es) (haa : aa ≤ 255) (hnn : nn ≤ 255) (hxx : xx ≤ 65535) (hyy : yy ≤ 65535) :
    Calls Try.prog 7 #[.agg #[.int .i64 L, .int .i64 S, v], .int .u8 (aa : Int), .int .u8 (ab : Int), .int .u8 (nn : Int), .int .u16 (xx : Int), .int .u16 (yy : Int)] w (Ret w (.bool true)) := by
  rcases Classical.em (FineP L S es) with hF | hF
  · obtain ⟨hE, hS, hL⟩ := hF
    have hca := chk_all (eck_zero hE).1
    obtain ⟨l, rfl⟩ : ∃ l : Nat, L = l := ⟨L.toNat, by omega⟩
    obtain ⟨k, rfl⟩ : ∃ k : Nat, S = k := ⟨S.toNat, by omega⟩
    have hcn := cw_nonneg es allP (nn % 9) ((aa % k : Nat) : Int)
    have hcw : cw es allP (nn % 9) ((aa % k : Nat) : Int) = ((cw es allP (nn % 9) ((aa % k : Nat) : Int)).toNat : Int) := (Int.toNat_of_nonneg hcn).symm
    rcases Nat.eq_zero_or_pos (cw es allP (nn % 9) ((aa % k : Nat) : Int)).toNat with hc | hc
    · exact lord_zero l k _ _ _ es v aa ab nn xx yy w hr hok hE (by omega) rfl (by omega) rfl haa hnn hxx hyy hcw hc
    · exact lord_pos l k _ _ _ es v aa ab nn xx yy w hr hok hE (by omega) rfl (by omega) rfl haa hnn hxx hyy hcw hc
  · exact lord_bad L S es v aa ab nn xx yy w hr hok hF
end Go.Proofs.Ytalipfnbpnkgnaa
