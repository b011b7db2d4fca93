/- The law EnumerativeRounds (printed by gen_lrnd.py). -/
import Derived.Test.YtalipfnbpnkgnaaGreatEEnc
import Derived.Test.YtalipfnbpnkgnaaGreatEDec
import Derived.Test.YtalipfnbpnkgnaaGreatPart6
import Derived.Test.YtalipfnbpnkgnaaGreatFine
import Derived.Test.YtalipfnbpnkgnaaGreatAwkD
import Derived.Test.YtalipfnbpnkgnaaGreatPart13
import Derived.Test.YtalipfnbpnkgnaaGreatPart11
namespace Go.Proofs.YtalipfnbpnkgnaaGreat
open Go.RowKit

theorem small_nat {x : Nat} (h : x ≤ 1000000) : small (x : Int) := small_of (m := 3) (by rw [Int.natAbs_natCast]; have : (256:Nat)^3 = 16777216 := by decide
                                                                                         omega) (by omega)
theorem wchk_ckw {L : Int} {l : List UInt8} (h : ckw L l = 0) : wchk L l = 0 := by
  unfold ckw at h
  split at h
  · exact h
  · rename_i h1
    exact Classical.not_not.1 h1
theorem eql_self (x : Int) (w : World) : (binOp .eql 33 (.agg #[.bool (ineg x), .string (imag x)]) (.agg #[.bool (ineg x), .string (imag x)])).run Tryz.prog w = .ok (.bool true) w := by
  rw [eql_int]
  have e : (ineg x == ineg x && imag x == imag x) = true := by rw [beq_str]; simp
  rw [e]
theorem one_row {w : World} {b : Nat} {x : Int} (h : Blk w b 3 [.int .i64 x]) : Row w (.slice (some ⟨b, 0, none⟩) 1 1) ([x]).length (ci [x]) := by
  refine .inr ⟨b, 0, 1, rfl, Nat.le_refl _, by unfold maxLen; omega, h.lt, fun j u hj => ?_⟩
  rw [Nat.zero_add]
  exact h.cell hj
set_option maxRecDepth 100000 in
set_option maxHeartbeats 3200000 in
theorem lrnd_bad (L S : Int) (es : List E3) (v : Value) (nb aa nn xx : Nat) (w : World) (hr : Row w v es.length (ce es)) (hok : okEs es) (hF : ¬ FineP L S es) :
    Calls Tryz.prog 5 #[.agg #[.int .i64 L, .int .i64 S, v], .int .u16 (nb : Int), .int .u8 (aa : Int), .int .u8 (nn : Int), .int .u16 (xx : Int)] w (Ret w (.bool true)) := by
  obtain ⟨va, vc, rfl, hle⟩ := hr.slice
  obtain ⟨mz, hmz⟩ : ∃ mz, mz = es.length := ⟨_, rfl⟩
  have s0 := (Below.refl w.heap.size w).alloc (Nat.le_refl _) (.cells #[.int .i64 L, .int .i64 S, .slice va es.length vc] 24)
  have b0 := Blk.new w 24 [.int .i64 L, .int .i64 S, .slice va es.length vc]
  have hr0 := hr.below s0 (Nat.le_refl _)
  have hfi := fine_any L S es _ _ hr0 hok
  have haw := awake29_true
  rw [← hmz] at s0 b0 hr0 hfi
  have HMM := Lib.hid hmz; clear hmz
  have HFI := Lib.hid hfi; clear hfi
  have HAW := Lib.hid haw; clear haw
  have S0 := Lib.hid s0; clear s0
  have B0 := Lib.hid b0; clear b0
  clear hr hr0
  go_enter Tryz.func5, Tryz.ntmps5
  rw [← HMM.out]
  go_wp2_with fail
  go_at_call 17
  refine HFI.out.mono ?_
  rintro e w1 ⟨hq, b, rfl, hb⟩
  have s1 := S0.out.trans (hq.mono S0.out.size)
  have tk := B0.out.keep hq; have x0 := tk.cell (j := 0) rfl; have x1 := tk.cell (j := 1) rfl; have x2 := tk.cell (j := 2) rfl; have C0 := Lib.hid tk; clear tk
  have S1 := Lib.hid s1; clear s1
  clear hq
  cases b with
  | false =>
    go_wp2_with fail
    go_at_call 10
    refine (HAW.out _).mono ?_
    rintro e w2 ⟨hq, rfl⟩
    have HQ := Lib.hid hq; clear hq
    go_wp2_with fail
    go_ret
    exact ⟨S1.out.trans (HQ.out.mono S1.out.size), rfl⟩
  | true => exact absurd (hb rfl) hF
set_option maxRecDepth 100000 in
set_option maxHeartbeats 8000000 in
theorem lrnd_go (l k s0 N : Nat) (es : List E3) (v : Value) (nb aa nn xx : Nat) (w : World) (hr : Row w v es.length (ce es)) (hok : okEs es) (hE : eck (l : Int) (k : Int) es = 0) (hl4 : l ≤ 4) (hN : N = nn % 9) (hk0 : 0 < k) (hs : s0 = aa % k) (haa : aa ≤ 255) (hnn : nn ≤ 255) (hnb : nb ≤ 65535) (hxx : xx ≤ 65535) :
    Calls Tryz.prog 5 #[.agg #[.int .i64 (l : Int), .int .i64 (k : Int), v], .int .u16 (nb : Int), .int .u8 (aa : Int), .int .u8 (nn : Int), .int .u16 (xx : Int)] w (Ret w (.bool true)) := by
  have hN8 : N ≤ 8 := by omega
  have hs0 : s0 < k := by rw [hs]; exact Nat.mod_lt _ hk0
  have hca := chk_all (eck_zero hE).1
  obtain ⟨va, vc, rfl, hle⟩ := hr.slice
  obtain ⟨mm, hmm⟩ : ∃ mm, mm = es.length := ⟨_, rfl⟩
  have s0' := (Below.refl w.heap.size w).alloc (Nat.le_refl _) (.cells #[.int .i64 (l : Int), .int .i64 (k : Int), .slice va es.length vc] 24)
  have b0 := Blk.new w 24 [.int .i64 (l : Int), .int .i64 (k : Int), .slice va es.length vc]
  have hr0 := hr.below s0' (Nat.le_refl _)
  have hfi := fine_any (l : Int) (k : Int) es _ _ hr0 hok
  have haw := awake29_true
  have hch := fun v' w' => choose_any (l : Int) k nb v' w' (by omega) hnb
  have hen := fun set vs v' w' (hset : SomeS k set) (h : Row w' v' es.length (ce es)) (h2 : Row w' vs set.length (ci set)) => eenc_ok (l : Int) k s0 N (xx : Int) es set v' vs w' h hok h2 hE hset hs0 (by omega) (small_nat (by omega))
  have hde := fun set vs v' w' (hset : SomeS k set) (ha0 : 0 ≤ (xx : Int)) (ha1 : (xx : Int) < cw es (pin set) N (s0 : Int)) (h : Row w' v' es.length (ce es)) (h2 : Row w' vs set.length (ci set)) => edec_some (l : Int) k s0 es set v' vs ⟨(ur es (pin set) N (s0 : Int) (xx : Int)).1.toArray⟩ w' h hok h2 hE hset hs0 (by simpa using ur_ckw hE (pin set) N (by omega) (s0 : Int) (xx : Int) ha0 ha1) (by show (ur es (pin set) N (s0 : Int) (xx : Int)).1.toArray.size ≤ 4096; rw [List.size_toArray, ur_length N (s0 : Int) (xx : Int) ha0 ha1]; omega) (xx : Int) (ur es (pin set) N (s0 : Int) (xx : Int)).2 (by simpa using (rk_ur hE (pin set) N (s0 : Int) (xx : Int) 0 ha0 ha1).1) (rk_ur hE (pin set) N (s0 : Int) (xx : Int) 0 ha0 ha1).2
  have hsI1 : IsSet (k : Int) [(s0 : Int)] := by
    refine ⟨fun x hx => ?_, List.pairwise_singleton _ _⟩
    obtain rfl : x = (s0 : Int) := by simpa using hx
    exact ⟨by omega, by omega⟩
  have hes := fun set vs v' w' (ha0 : 0 ≤ (xx : Int)) (ha1 : (xx : Int) < cw es (pin set) N (s0 : Int)) (h : Row w' v' es.length (ce es)) (h2 : Row w' vs ([(s0 : Int)]).length (ci [(s0 : Int)])) => lEnds_ok (l : Int) k es v' vs [(s0 : Int)] ⟨(ur es (pin set) N (s0 : Int) (xx : Int)).1.toArray⟩ w' h h2 hok (eck_zero hE).1 hsI1 (eck_zero hE).2.1 (by show (ur es (pin set) N (s0 : Int) (xx : Int)).1.toArray.size ≤ 1000000; rw [List.size_toArray, ur_length N (s0 : Int) (xx : Int) ha0 ha1]; omega) (wchk_ckw (by simpa using ur_ckw hE (pin set) N (by omega) (s0 : Int) (xx : Int) ha0 ha1))
  have hef := fun (set : List Int) => efold_ur hE (pin set) N (s0 : Int) (xx : Int)
  have hend := fun (set : List Int) (hset : SomeS k set) => ur_end hE hset (n := N) (s := (s0 : Int)) (a := (xx : Int))
  have hdsz := fun (set : List Int) (ha0 : 0 ≤ (xx : Int)) (ha1 : (xx : Int) < cw es (pin set) N (s0 : Int)) => ur_length (es := es) (p := pin set) N (s0 : Int) (xx : Int) ha0 ha1
  have hof := fun w' => iof_any (xx : Int) w' (by omega) (by omega)
  have hkz : ¬ (k : Int) = 0 := by omega
  have hkn : ¬ k = 0 := by omega
  have hsI : (aa : Int).tmod (k : Int) = (s0 : Int) := by rw [Int.tmod_eq_emod_of_nonneg (by omega), ← Int.natCast_emod, ← hs]
  have hNz : (nn : Int).tmod 9 = (N : Int) := by rw [Int.tmod_eq_emod_of_nonneg (by omega)]; omega
  have hwa : IntKind.i64.wrap (aa : Int) = (aa : Int) := IntWalk.i64_in _ (by omega)
  have hwn : IntKind.i64.wrap (nn : Int) = (nn : Int) := IntWalk.i64_in _ (by omega)
  have hwx : IntKind.i64.wrap (xx : Int) = (xx : Int) := IntWalk.i64_in _ (by omega)
  have hkl : k ≤ 64 := by omega
  rw [← hmm] at s0' b0 hr0 hfi hle hen hde hes
  have HMM := Lib.hid hmm; clear hmm
  have HFI := Lib.hid hfi; clear hfi
  have HAW := Lib.hid haw; clear haw
  have HCH := Lib.hid hch; clear hch
  have HEN := Lib.hid hen; clear hen
  have HDE := Lib.hid hde; clear hde
  have HES := Lib.hid hes; clear hes
  have HEF := Lib.hid hef; clear hef
  have HEND := Lib.hid hend; clear hend
  have HDSZ := Lib.hid hdsz; clear hdsz
  have HOF := Lib.hid hof; clear hof
  have HNZ := Lib.hid hNz; clear hNz
  have HSI := Lib.hid hsI; clear hsI
  have S0 := Lib.hid s0'; clear s0'
  have B0 := Lib.hid b0; clear b0
  have HR := Lib.hid hr0; clear hr0
  clear hN hs hE hok hr hca hsI1
  go_enter Tryz.func5, Tryz.ntmps5
  rw [← HMM.out]
  go_wp2_with fail
  go_at_call 17
  refine HFI.out.mono ?_
  rintro e w1 ⟨hq, b, rfl, hb⟩
  have s1 := S0.out.trans (hq.mono S0.out.size)
  have hr1 := HR.out.below hq (Nat.le_refl _)
  have tk := B0.out.keep hq; have x0 := tk.cell (j := 0) rfl; have x1 := tk.cell (j := 1) rfl; have x2 := tk.cell (j := 2) rfl; have C0 := Lib.hid tk; clear tk
  have S1 := Lib.hid s1; clear s1
  have HR1 := Lib.hid hr1; clear hr1
  clear hq hb
  cases b with
  | false =>
    go_wp2_with fail
    go_at_call 10
    refine (HAW.out _).mono ?_
    rintro e w2 ⟨hq, rfl⟩
    have HQ := Lib.hid hq; clear hq
    go_wp2_with fail
    go_ret
    exact ⟨S1.out.trans (HQ.out.mono S1.out.size), rfl⟩
  | true =>
    have hg1 : w.heap.size < w1.heap.size := C0.out.lt
    go_wp2_with fail
    refine wp_region_held_drew (S := fun w' => w'.cell? ⟨w.heap.size, 0, none⟩ = some (.int .i64 (l : Int)) ∧ w'.cell? ⟨w.heap.size, 1, none⟩ = some (.int .i64 (k : Int)) ∧ w'.cell? ⟨w.heap.size, 2, none⟩ = some (.slice va mm vc)) (by kernel_rfl) ?_ (fun hHeld => ?_)
    · go_keep
    refine wpAnyH_take (i := 0) (v := ?_) rfl (by kernel_rfl) (by kernel_rfl) (by kernel_rfl) (fun _ _ _ h => h) (Or.inl ⟨by kernel_rfl, ?_⟩) (by assumption) ?_
    rotate_left
    · (intro wS hSw; (try dsimp only at hSw); go_simp; (try with_reducible rfl))
    (try simp only [Act.put, List.setIfInBounds_toArray, List.set_cons_zero, List.set_cons_succ])
    refine wpAnyH_take (i := 1) (v := ?_) rfl (by kernel_rfl) (by kernel_rfl) (by kernel_rfl) (fun _ _ _ h => h) (Or.inl ⟨by kernel_rfl, ?_⟩) (by assumption) ?_
    rotate_left
    · (intro wS hSw; (try dsimp only at hSw); go_simp; (try with_reducible rfl))
    (try simp only [Act.put, List.setIfInBounds_toArray, List.set_cons_zero, List.set_cons_succ])
    refine wpAnyH_take (i := 3) (v := ?_) rfl (by kernel_rfl) (by kernel_rfl) (by kernel_rfl) (fun _ _ _ h => h) (Or.inl ⟨by kernel_rfl, ?_⟩) (by assumption) ?_
    rotate_left
    · (intro wS hSw; (try dsimp only at hSw); go_simp; (try with_reducible rfl))
    (try simp only [Act.put, List.setIfInBounds_toArray, List.set_cons_zero, List.set_cons_succ])
    refine wpAnyH_take (i := 4) (v := ?_) rfl (by kernel_rfl) (by kernel_rfl) (by kernel_rfl) (fun _ _ _ h => h) (Or.inl ⟨by kernel_rfl, ?_⟩) (by assumption) ?_
    rotate_left
    · (intro wS hSw; (try dsimp only at hSw); go_simp; (try with_reducible rfl))
    (try simp only [Act.put, List.setIfInBounds_toArray, List.set_cons_zero, List.set_cons_succ])
    refine wpAnyH_take (i := 5) (v := ?_) rfl (by kernel_rfl) (by kernel_rfl) (by kernel_rfl) (fun _ _ _ h => h) (Or.inl ⟨by kernel_rfl, ?_⟩) (by assumption) ?_
    rotate_left
    · (intro wS hSw; (try dsimp only at hSw); go_simp; (try with_reducible rfl))
    (try simp only [Act.put, List.setIfInBounds_toArray, List.set_cons_zero, List.set_cons_succ])
    refine wpAnyH_take (i := 6) (v := ?_) rfl (by kernel_rfl) (by kernel_rfl) (by kernel_rfl) (fun _ _ _ h => h) (Or.inl ⟨by kernel_rfl, ?_⟩) (by assumption) ?_
    rotate_left
    · (intro wS hSw; (try dsimp only at hSw); go_simp; (try with_reducible rfl))
    (try simp only [Act.put, List.setIfInBounds_toArray, List.set_cons_zero, List.set_cons_succ])
    refine wpAnyH_take (i := 7) (v := ?_) rfl (by kernel_rfl) (by kernel_rfl) (by kernel_rfl) (fun _ _ _ h => h) (Or.inl ⟨by kernel_rfl, ?_⟩) (by assumption) ?_
    rotate_left
    · (intro wS hSw; (try dsimp only at hSw); go_simp; (try with_reducible rfl))
    (try simp only [Act.put, List.setIfInBounds_toArray, List.set_cons_zero, List.set_cons_succ])
    refine wpAnyH_take (i := 8) (v := ?_) rfl (by kernel_rfl) (by kernel_rfl) (by kernel_rfl) (fun _ _ _ h => h) (Or.inl ⟨by kernel_rfl, ?_⟩) (by assumption) ?_
    rotate_left
    · (intro wS hSw; (try dsimp only at hSw); go_simp; (try with_reducible rfl))
    (try simp only [Act.put, List.setIfInBounds_toArray, List.set_cons_zero, List.set_cons_succ])
    refine wpAnyH_take (i := 9) (v := ?_) rfl (by kernel_rfl) (by kernel_rfl) (by kernel_rfl) (fun _ _ _ h => h) (Or.inl ⟨by kernel_rfl, ?_⟩) (by assumption) ?_
    rotate_left
    · (intro wS hSw; (try dsimp only at hSw); go_simp; (try with_reducible rfl))
    (try simp only [Act.put, List.setIfInBounds_toArray, List.set_cons_zero, List.set_cons_succ])
    refine wpAnyH_take (i := 10) (v := ?_) rfl (by kernel_rfl) (by kernel_rfl) (by kernel_rfl) (fun _ _ _ h => h) (Or.inl ⟨by kernel_rfl, ?_⟩) (by assumption) ?_
    rotate_left
    · (intro wS hSw; (try dsimp only at hSw); go_simp; (try with_reducible rfl))
    (try simp only [Act.put, List.setIfInBounds_toArray, List.set_cons_zero, List.set_cons_succ])
    refine wpAnyH_ready (rs := [2]) (by kernel_rfl) (by simp) ?_
    refine AllReadyH.cons rfl (fun K hK => ?_) AllReadyH.nil
    go_simp
    go_at_call 22
    refine (HCH.out _ _).mono ?_
    rintro e w2 ⟨hq, vs, set, rfl, hset, hrs⟩
    dsimp only
    have z0 := (hq.cell (p := ⟨w.heap.size, 0, none⟩) (show w.heap.size < w1.heap.size by omega)).trans hHeld.1
    have z1 := (hq.cell (p := ⟨w.heap.size, 1, none⟩) (show w.heap.size < w1.heap.size by omega)).trans hHeld.2.1
    have z2 := (hq.cell (p := ⟨w.heap.size, 2, none⟩) (show w.heap.size < w1.heap.size by omega)).trans hHeld.2.2
    refine hK.out _ _ ⟨z0, z1, z2⟩ (fun hHeld2 => ?_)
    clear hK K
    (try simp only [Act.put, List.setIfInBounds_toArray, List.set_cons_zero, List.set_cons_succ])
    refine wpAnyH_take (i := 11) (v := ?_) rfl (by kernel_rfl) (by kernel_rfl) (by kernel_rfl) (fun _ _ _ h => h) (Or.inl ⟨by kernel_rfl, ?_⟩) (by assumption) ?_
    rotate_left
    · (intro wS hSw; (try dsimp only at hSw); go_simp; (try with_reducible rfl))
    (try simp only [Act.put, List.setIfInBounds_toArray, List.set_cons_zero, List.set_cons_succ])
    refine wpAnyH_take (i := 12) (v := ?_) rfl (by kernel_rfl) (by kernel_rfl) (by kernel_rfl) (fun _ _ _ h => h) (Or.inl ⟨by kernel_rfl, ?_⟩) (by assumption) ?_
    rotate_left
    · (intro wS hSw; (try dsimp only at hSw); go_simp; (try with_reducible rfl))
    (try simp only [Act.put, List.setIfInBounds_toArray, List.set_cons_zero, List.set_cons_succ])
    refine wpAnyH_take (i := 13) (v := ?_) rfl (by kernel_rfl) (by kernel_rfl) (by kernel_rfl) (fun _ _ _ h => h) (Or.inl ⟨by kernel_rfl, ?_⟩) (by assumption) ?_
    rotate_left
    · (intro wS hSw; (try dsimp only at hSw); go_simp; (try with_reducible rfl))
    (try simp only [Act.put, List.setIfInBounds_toArray, List.set_cons_zero, List.set_cons_succ])
    refine wpAnyH_done (by kernel_rfl) ?_ _
    (try simp only [List.getElem_toArray, List.getElem_cons_zero, List.getElem_cons_succ, Act.put, List.setIfInBounds_toArray, List.set_cons_zero, List.set_cons_succ])
    clear hHeld hHeld2 z0 z1 z2 x0 x1 x2
    rw [HNZ.out]
    rw [HSI.out]
    obtain ⟨sa, sc, rfl, hsle⟩ := hrs.slice
    have s2 := S1.out.drew.trans (hq.mono S1.out.size)
    have hr2 := HR1.out.drew.below hq (Nat.le_refl _)
    have k2 := C0.out.drew.keep hq
    have hsl64 := asc_len hset
    have x0 := k2.cell (j := 0) rfl
    have x1 := k2.cell (j := 1) rfl
    have x2 := k2.cell (j := 2) rfl
    have hg2 : w.heap.size < w2.heap.size := k2.lt
    have hen2 := fun w' h h2 => HEN.out set (.slice sa set.length sc) (.slice va mm vc) w' hset h h2
    have hct := fun t w' h => contains_any set (.slice sa set.length sc) t w' h (by omega)
    obtain ⟨ms, hms⟩ : ∃ ms, ms = set.length := ⟨_, rfl⟩
    have hde2 := fun w' => HDE.out set (.slice sa set.length sc) (.slice va mm vc) w' hset
    have hes2 := fun vs w' => HES.out set vs (.slice va mm vc) w'
    rw [← hms] at hrs hsle hsl64 hen2 hct hde2 ⊢
    have HMS := Lib.hid hms; clear hms
    have S2 := Lib.hid s2; clear s2
    have HR2 := Lib.hid hr2; clear hr2
    have D0 := Lib.hid k2; clear k2
    have HRS := Lib.hid hrs; clear hrs
    have HCT := Lib.hid hct; clear hct
    have HDE2 := Lib.hid hde2; clear hde2
    have HES2 := Lib.hid hes2; clear hes2
    by_cases hin : 0 ≤ (xx : Int) ∧ (xx : Int) < cw es (pin set) N (s0 : Int)
    · obtain ⟨ha0, ha1⟩ := hin
      rw [ure, if_pos ⟨ha0, ha1⟩] at hen2
      obtain ⟨t, ht, hte, htm⟩ := HEND.out set hset ha0 ha1
      have hde3 := fun w' => HDE2.out w' ha0 ha1
      have hes3 := fun vs w' => HES2.out vs w' ha0 ha1
      have hfo := HEF.out set ha0 ha1
      have hdl := HDSZ.out set ha0 ha1
      rcases hU : ur es (pin set) N (s0 : Int) (xx : Int) with ⟨W, t2⟩
      rw [hU] at hen2 hte hde3 hes3 hfo hdl
      dsimp only at hen2 hte hde3 hes3 hfo hdl
      subst hte
      rw [hfo] at hes3
      obtain ⟨us, hus⟩ : ∃ us : ByteArray, us = ⟨W.toArray⟩ := ⟨_, rfl⟩
      have huz : us.size = N := by rw [hus, ← hdl]; rfl
      rw [← hus] at hde3 hes3
      simp only [strV, ← hus] at hen2
      rw [huz] at hde3
      have huI : (us.size : Int) = (N : Int) := by rw [huz]
      have hctt : decide ((t : Int) ∈ set) = true := by simpa using htm
      have hct2 := fun w' h => HCT.out (t : Int) w' h
      rw [hctt] at hct2
      have heq := fun va vb w' h h2 => equalZ_yes [(t : Int)] va vb w' h h2
      have hen3 := hen2
      have HEN2 := Lib.hid hen3; clear hen3
      have HDE3 := Lib.hid hde3; clear hde3
      have HES3 := Lib.hid hes3; clear hes3
      have HCT2 := Lib.hid hct2; clear hct2
      have HEQ := Lib.hid heq; clear heq
      have HUZ := Lib.hid huz; clear huz
      clear hen2 hU hfo hdl hus hset hq ha0 ha1 hctt htm
      go_wp2_with fail
      refine wp_region_held_drew (S := fun w' => w'.cell? ⟨w.heap.size, 0, none⟩ = some (.int .i64 (l : Int)) ∧ w'.cell? ⟨w.heap.size, 1, none⟩ = some (.int .i64 (k : Int)) ∧ w'.cell? ⟨w.heap.size, 2, none⟩ = some (.slice va mm vc)) (by kernel_rfl) ?_ (fun hHeld => ?_)
      · go_keep
      refine wpAnyH_take (i := 0) (v := ?_) rfl (by kernel_rfl) (by kernel_rfl) (by kernel_rfl) (fun _ _ _ h => h) (Or.inl ⟨by kernel_rfl, ?_⟩) (by assumption) ?_
      rotate_left
      · (intro wS hSw; (try dsimp only at hSw); go_simp; (try with_reducible rfl))
      (try simp only [Act.put, List.setIfInBounds_toArray, List.set_cons_zero, List.set_cons_succ])
      refine wpAnyH_take (i := 1) (v := ?_) rfl (by kernel_rfl) (by kernel_rfl) (by kernel_rfl) (fun _ _ _ h => h) (Or.inl ⟨by kernel_rfl, ?_⟩) (by assumption) ?_
      rotate_left
      · (intro wS hSw; (try dsimp only at hSw); go_simp; (try with_reducible rfl))
      (try simp only [Act.put, List.setIfInBounds_toArray, List.set_cons_zero, List.set_cons_succ])
      refine wpAnyH_take (i := 2) (v := ?_) rfl (by kernel_rfl) (by kernel_rfl) (by kernel_rfl) (fun _ _ _ h => h) (Or.inl ⟨by kernel_rfl, ?_⟩) (by assumption) ?_
      rotate_left
      · (intro wS hSw; (try dsimp only at hSw); go_simp; (try with_reducible rfl))
      (try simp only [Act.put, List.setIfInBounds_toArray, List.set_cons_zero, List.set_cons_succ])
      refine wpAnyH_take (i := 3) (v := ?_) rfl (by kernel_rfl) (by kernel_rfl) (by kernel_rfl) (fun _ _ _ h => h) (Or.inl ⟨by kernel_rfl, ?_⟩) (by assumption) ?_
      rotate_left
      · (intro wS hSw; (try dsimp only at hSw); go_simp; (try with_reducible rfl))
      (try simp only [Act.put, List.setIfInBounds_toArray, List.set_cons_zero, List.set_cons_succ])
      refine wpAnyH_take (i := 4) (v := ?_) rfl (by kernel_rfl) (by kernel_rfl) (by kernel_rfl) (fun _ _ _ h => h) (Or.inl ⟨by kernel_rfl, ?_⟩) (by assumption) ?_
      rotate_left
      · (intro wS hSw; (try dsimp only at hSw); go_simp; (try with_reducible rfl))
      (try simp only [Act.put, List.setIfInBounds_toArray, List.set_cons_zero, List.set_cons_succ])
      refine wpAnyH_take (i := 5) (v := ?_) rfl (by kernel_rfl) (by kernel_rfl) (by kernel_rfl) (fun _ _ _ h => h) (Or.inl ⟨by kernel_rfl, ?_⟩) (by assumption) ?_
      rotate_left
      · (intro wS hSw; (try dsimp only at hSw); go_simp; (try with_reducible rfl))
      (try simp only [Act.put, List.setIfInBounds_toArray, List.set_cons_zero, List.set_cons_succ])
      refine wpAnyH_ready (rs := [6]) (by kernel_rfl) (by simp) ?_
      refine AllReadyH.cons rfl (fun K hK => ?_) AllReadyH.nil
      go_simp
      go_at_call 20
      refine (HOF.out _).mono ?_
      rintro e w3 ⟨hq, rfl⟩
      dsimp only
      have z0 := (hq.cell (p := ⟨w.heap.size, 0, none⟩) (show w.heap.size < w2.heap.size by omega)).trans hHeld.1
      have z1 := (hq.cell (p := ⟨w.heap.size, 1, none⟩) (show w.heap.size < w2.heap.size by omega)).trans hHeld.2.1
      have z2 := (hq.cell (p := ⟨w.heap.size, 2, none⟩) (show w.heap.size < w2.heap.size by omega)).trans hHeld.2.2
      refine hK.out _ _ ⟨z0, z1, z2⟩ (fun hHeld2 => ?_)
      clear hK K
      (try simp only [Act.put, List.setIfInBounds_toArray, List.set_cons_zero, List.set_cons_succ])
      have s3 := S2.out.drew.trans (hq.mono S2.out.size)
      have hr3 := HR2.out.drew.below hq (Nat.le_refl _)
      have hrs3 := HRS.out.drew.below hq (Nat.le_refl _)
      have k3 := D0.out.drew.keep hq
      have hg3 : w.heap.size < w3.heap.size := k3.lt
      have hen4 := HEN2.out _ hr3 hrs3
      clear hq hHeld z0 z1 z2 x0 x1 x2
      have S3 := Lib.hid s3; clear s3
      have HR3 := Lib.hid hr3; clear hr3
      have HRS3 := Lib.hid hrs3; clear hrs3
      have E0 := Lib.hid k3; clear k3
      have HEN4 := Lib.hid hen4; clear hen4
      refine wpAnyH_ready (rs := [7]) (by kernel_rfl) (by simp) ?_
      refine AllReadyH.cons rfl (fun K hK => ?_) AllReadyH.nil
      go_simp
      go_at_call 15
      refine HEN4.out.mono ?_
      rintro e w4 ⟨hq, rfl⟩
      dsimp only
      have z0 := (hq.cell (p := ⟨w.heap.size, 0, none⟩) (show w.heap.size < w3.heap.size by omega)).trans hHeld2.1
      have z1 := (hq.cell (p := ⟨w.heap.size, 1, none⟩) (show w.heap.size < w3.heap.size by omega)).trans hHeld2.2.1
      have z2 := (hq.cell (p := ⟨w.heap.size, 2, none⟩) (show w.heap.size < w3.heap.size by omega)).trans hHeld2.2.2
      refine hK.out _ _ ⟨z0, z1, z2⟩ (fun hHeld3 => ?_)
      clear hK K
      (try simp only [Act.put, List.setIfInBounds_toArray, List.set_cons_zero, List.set_cons_succ])
      have s4 := S3.out.trans (hq.mono S3.out.size)
      have hr4 := HR3.out.below hq (Nat.le_refl _)
      have hrs4 := HRS3.out.below hq (Nat.le_refl _)
      have k4 := E0.out.keep hq
      have hg4 : w.heap.size < w4.heap.size := k4.lt
      clear hq hHeld2 z0 z1 z2
      refine wpAnyH_take (i := 8) (v := ?_) rfl (by kernel_rfl) (by kernel_rfl) (by kernel_rfl) (fun _ _ _ h => h) (Or.inl ⟨by kernel_rfl, ?_⟩) (by assumption) ?_
      rotate_left
      · (intro wS hSw; (try dsimp only at hSw); go_simp; (try with_reducible rfl))
      (try simp only [Act.put, List.setIfInBounds_toArray, List.set_cons_zero, List.set_cons_succ])
      refine wpAnyH_take (i := 9) (v := ?_) rfl (by kernel_rfl) (by kernel_rfl) (by kernel_rfl) (fun _ _ _ h => h) (Or.inl ⟨by kernel_rfl, ?_⟩) (by assumption) ?_
      rotate_left
      · (intro wS hSw; (try dsimp only at hSw); go_simp; (try with_reducible rfl))
      (try simp only [Act.put, List.setIfInBounds_toArray, List.set_cons_zero, List.set_cons_succ])
      refine wpAnyH_take (i := 10) (v := ?_) rfl (by kernel_rfl) (by kernel_rfl) (by kernel_rfl) (fun _ _ _ h => h) (Or.inl ⟨by kernel_rfl, ?_⟩) (by assumption) ?_
      rotate_left
      · (intro wS hSw; (try dsimp only at hSw); go_simp; (try with_reducible rfl))
      (try simp only [Act.put, List.setIfInBounds_toArray, List.set_cons_zero, List.set_cons_succ])
      refine wpAnyH_take (i := 11) (v := ?_) rfl (by kernel_rfl) (by kernel_rfl) (by kernel_rfl) (fun _ _ _ h => h) (Or.inl ⟨by kernel_rfl, ?_⟩) (by assumption) ?_
      rotate_left
      · (intro wS hSw; (try dsimp only at hSw); go_simp; (try with_reducible rfl))
      (try simp only [Act.put, List.setIfInBounds_toArray, List.set_cons_zero, List.set_cons_succ])
      refine wpAnyH_take (i := 12) (v := ?_) rfl (by kernel_rfl) (by kernel_rfl) (by kernel_rfl) (fun _ _ _ h => h) (Or.inl ⟨by kernel_rfl, ?_⟩) (by assumption) ?_
      rotate_left
      · (intro wS hSw; (try dsimp only at hSw); go_simp; (try with_reducible rfl))
      (try simp only [Act.put, List.setIfInBounds_toArray, List.set_cons_zero, List.set_cons_succ])
      refine wpAnyH_take (i := 13) (v := ?_) rfl (by kernel_rfl) (by kernel_rfl) (by kernel_rfl) (fun _ _ _ h => h) (Or.inl ⟨by kernel_rfl, ?_⟩) (by assumption) ?_
      rotate_left
      · (intro wS hSw; (try dsimp only at hSw); go_simp; (try with_reducible rfl))
      (try simp only [Act.put, List.setIfInBounds_toArray, List.set_cons_zero, List.set_cons_succ])
      refine wpAnyH_take (i := 14) (v := ?_) rfl (by kernel_rfl) (by kernel_rfl) (by kernel_rfl) (fun _ _ _ h => h) (Or.inl ⟨by kernel_rfl, ?_⟩) (by assumption) ?_
      rotate_left
      · (intro wS hSw; (try dsimp only at hSw); go_simp; (try with_reducible rfl))
      (try simp only [Act.put, List.setIfInBounds_toArray, List.set_cons_zero, List.set_cons_succ])
      refine wpAnyH_done (by kernel_rfl) ?_ _
      (try simp only [List.getElem_toArray, List.getElem_cons_zero, List.getElem_cons_succ, Act.put, List.setIfInBounds_toArray, List.set_cons_zero, List.set_cons_succ])
      clear hHeld3
      have S4 := Lib.hid s4; clear s4
      have HR4 := Lib.hid hr4; clear hr4
      have HRS4 := Lib.hid hrs4; clear hrs4
      have F0 := Lib.hid k4; clear k4
      have x0 := F0.out.cell (j := 0) rfl
      have x1 := F0.out.cell (j := 1) rfl
      have x2 := F0.out.cell (j := 2) rfl
      go_wp2_with fail
      go_at_call 11
      refine (HDE3.out _ HR4.out HRS4.out).mono ?_
      rintro e w5 ⟨hq, rfl⟩
      have s5 := S4.out.trans (hq.mono S4.out.size)
      have hr5 := HR4.out.below hq (Nat.le_refl _)
      have hrs5 := HRS4.out.below hq (Nat.le_refl _)
      clear x0 x1 x2
      have tk := F0.out.keep hq; have x0 := tk.cell (j := 0) rfl; have x1 := tk.cell (j := 1) rfl; have x2 := tk.cell (j := 2) rfl; have G0 := Lib.hid tk; clear tk
      have S5 := Lib.hid s5; clear s5
      have HR5 := Lib.hid hr5; clear hr5
      have HRS5 := Lib.hid hrs5; clear hrs5
      clear hq
      have hg5 : w.heap.size < w5.heap.size := G0.out.lt
      go_wp2_with fail
      have hq6 : Below w5.heap.size w5 ((w5.alloc (.cells #[.bool (ineg (xx : Int)), .string (imag (xx : Int))] 33)).alloc (.cells #[.int .i64 (s0 : Int)] 3)) := ((Below.refl _ _).alloc (Nat.le_refl _) _).alloc (by simp) _
      have j6 := (Blk.new w5 33 [.bool (ineg (xx : Int)), .string (imag (xx : Int))]).alloc (.cells #[.int .i64 (s0 : Int)] 3)
      have i6 := one_row (Blk.new (w5.alloc (.cells #[.bool (ineg (xx : Int)), .string (imag (xx : Int))] 33)) 3 [.int .i64 (s0 : Int)])
      rw [World.size_alloc] at i6
      obtain ⟨B5, hB5⟩ : ∃ B5, B5 = w5.heap.size := ⟨_, rfl⟩
      obtain ⟨w6, hw6⟩ : ∃ w6, w6 = ((w5.alloc (.cells #[.bool (ineg (xx : Int)), .string (imag (xx : Int))] 33)).alloc (.cells #[.int .i64 (s0 : Int)] 3)) := ⟨_, rfl⟩
      have s6 := S5.out.trans (hq6.mono S5.out.size)
      have hr6 := HR5.out.below hq6 (Nat.le_refl _)
      have hrs6 := HRS5.out.below hq6 (Nat.le_refl _)
      replace j6 : Blk w6 B5 33 [.bool (ineg (xx : Int)), .string (imag (xx : Int))] := by rw [hw6, hB5]; exact j6
      replace i6 : Row w6 (.slice (some ⟨B5 + 1, 0, none⟩) 1 1) ([(s0 : Int)]).length (ci [(s0 : Int)]) := by rw [hw6, hB5]; exact i6
      rw [← hw6] at s6 hr6 hrs6
      rw [← hw6, ← hB5]
      have J6 := Lib.hid j6; clear j6
      have I6 := Lib.hid i6; clear i6
      have S6 := Lib.hid s6; clear s6
      have HR6 := Lib.hid hr6; clear hr6
      have HRS6 := Lib.hid hrs6; clear hrs6
      clear hq6 hw6 hB5 x0 x1 x2
      go_at_call 23
      refine (HES3.out _ _ HR6.out I6.out).mono ?_
      rintro e w7 ⟨hq, vn, rfl, hrn⟩
      have s7 := S6.out.trans (hq.mono S6.out.size)
      have hrs7 := HRS6.out.below hq (Nat.le_refl _)
      obtain ⟨na, nc, rfl, hnle⟩ := hrn.slice
      have tk := J6.out.keep hq; have y0 := tk.cell (j := 0) rfl; have y1 := tk.cell (j := 1) rfl; have J7 := Lib.hid tk; clear tk
      have S7 := Lib.hid s7; clear s7
      have HRS7 := Lib.hid hrs7; clear hrs7
      have HRN := Lib.hid hrn; clear hrn
      clear hq
      have hgb : B5 < w7.heap.size := J7.out.lt
      have heqI : ∀ (w : World), (binOp .eql 33 (.agg #[.bool (ineg (xx : Int)), .string (imag (xx : Int))]) (.agg #[.bool (ineg (xx : Int)), .string (imag (xx : Int))])).run Tryz.prog w = .ok (.bool true) w := fun w => eql_self _ w
      go_wp2_with fail
      refine wp_region_held_drew (S := fun w' => w'.cell? ⟨B5, 0, none⟩ = some (.bool (ineg (xx : Int))) ∧ w'.cell? ⟨B5, 1, none⟩ = some (.string (imag (xx : Int)))) (by kernel_rfl) ?_ (fun hHeld => ?_)
      · go_keep
      refine wpAnyH_take (i := 0) (v := ?_) rfl (by kernel_rfl) (by kernel_rfl) (by kernel_rfl) (fun _ _ _ h => h) (Or.inl ⟨by kernel_rfl, ?_⟩) (by assumption) ?_
      rotate_left
      · (intro wS hSw; (try dsimp only at hSw); go_simp; (try with_reducible rfl))
      (try simp only [Act.put, List.setIfInBounds_toArray, List.set_cons_zero, List.set_cons_succ])
      refine wpAnyH_take (i := 1) (v := ?_) rfl (by kernel_rfl) (by kernel_rfl) (by kernel_rfl) (fun _ _ _ h => h) (Or.inl ⟨by kernel_rfl, ?_⟩) (by assumption) ?_
      rotate_left
      · (intro wS hSw; (try dsimp only at hSw); go_simp; (try with_reducible rfl))
      (try simp only [Act.put, List.setIfInBounds_toArray, List.set_cons_zero, List.set_cons_succ])
      refine wpAnyH_take (i := 2) (v := ?_) rfl (by kernel_rfl) (by kernel_rfl) (by kernel_rfl) (fun _ _ _ h => h) (Or.inl ⟨by kernel_rfl, ?_⟩) (by assumption) ?_
      rotate_left
      · (intro wS hSw; (try dsimp only at hSw); go_simp; (try with_reducible rfl))
      (try simp only [Act.put, List.setIfInBounds_toArray, List.set_cons_zero, List.set_cons_succ])
      refine wpAnyH_take (i := 3) (v := ?_) rfl (by kernel_rfl) (by kernel_rfl) (by kernel_rfl) (fun _ _ _ h => h) (Or.inl ⟨by kernel_rfl, ?_⟩) (by assumption) ?_
      rotate_left
      · (intro wS hSw; (try dsimp only at hSw); go_simp; (try with_reducible rfl))
      (try simp only [Act.put, List.setIfInBounds_toArray, List.set_cons_zero, List.set_cons_succ])
      refine wpAnyH_take (i := 4) (v := ?_) rfl (by kernel_rfl) (by kernel_rfl) (by kernel_rfl) (fun _ _ _ h => h) (Or.inl ⟨by kernel_rfl, ?_⟩) (by assumption) ?_
      rotate_left
      · (intro wS hSw; (try dsimp only at hSw); go_simp; (try with_reducible rfl))
      (try simp only [Act.put, List.setIfInBounds_toArray, List.set_cons_zero, List.set_cons_succ])
      refine wpAnyH_take (i := 5) (v := ?_) rfl (by kernel_rfl) (by kernel_rfl) (by kernel_rfl) (fun _ _ _ h => h) (Or.inl ⟨by kernel_rfl, ?_⟩) (by assumption) ?_
      rotate_left
      · (intro wS hSw; (try dsimp only at hSw); go_simp; (try with_reducible rfl))
      (try simp only [Act.put, List.setIfInBounds_toArray, List.set_cons_zero, List.set_cons_succ])
      refine wpAnyH_take (i := 6) (v := ?_) rfl (by kernel_rfl) (by kernel_rfl) (by kernel_rfl) (fun _ _ _ h => h) (Or.inl ⟨by kernel_rfl, ?_⟩) (by assumption) ?_
      rotate_left
      · (intro wS hSw; (try dsimp only at hSw); go_simp; (try with_reducible rfl))
      (try simp only [Act.put, List.setIfInBounds_toArray, List.set_cons_zero, List.set_cons_succ])
      refine wpAnyH_take (i := 7) (v := ?_) rfl (by kernel_rfl) (by kernel_rfl) (by kernel_rfl) (fun _ _ _ h => h) (Or.inl ⟨by kernel_rfl, ?_⟩) (by assumption) ?_
      rotate_left
      · (intro wS hSw; (try dsimp only at hSw); go_simp; (try with_reducible rfl))
      (try simp only [Act.put, List.setIfInBounds_toArray, List.set_cons_zero, List.set_cons_succ])
      refine wpAnyH_take (i := 8) (v := ?_) rfl (by kernel_rfl) (by kernel_rfl) (by kernel_rfl) (fun _ _ _ h => h) (Or.inl ⟨by kernel_rfl, ?_⟩) (by assumption) ?_
      rotate_left
      · (intro wS hSw; (try dsimp only at hSw); go_simp; (try with_reducible rfl))
      (try simp only [Act.put, List.setIfInBounds_toArray, List.set_cons_zero, List.set_cons_succ])
      refine wpAnyH_take (i := 9) (v := ?_) rfl (by kernel_rfl) (by kernel_rfl) (by kernel_rfl) (fun _ _ _ h => h) (Or.inl ⟨by kernel_rfl, ?_⟩) (by assumption) ?_
      rotate_left
      · (intro wS hSw; (try dsimp only at hSw); go_simp; (try with_reducible rfl))
      (try simp only [Act.put, List.setIfInBounds_toArray, List.set_cons_zero, List.set_cons_succ])
      refine wpAnyH_ready (rs := [10]) (by kernel_rfl) (by simp) ?_
      refine AllReadyH.cons rfl (fun K hK => ?_) AllReadyH.nil
      rw [if_pos (by kernel_rfl)]
      go_simp
      go_at_call 20
      refine (HOF.out _).mono ?_
      rintro e w8 ⟨hq, rfl⟩
      dsimp only
      have z0 := (hq.cell (p := ⟨B5, 0, none⟩) (show B5 < w7.heap.size by omega)).trans hHeld.1
      have z1 := (hq.cell (p := ⟨B5, 1, none⟩) (show B5 < w7.heap.size by omega)).trans hHeld.2
      refine hK.out _ _ ⟨z0, z1⟩ (fun hHeld2 => ?_)
      clear hK K
      (try simp only [Act.put, List.setIfInBounds_toArray, List.set_cons_zero, List.set_cons_succ])
      have s8 := S7.out.drew.trans (hq.mono S7.out.size)
      have hrs8 := HRS7.out.drew.below hq (Nat.le_refl _)
      have hrn8 := HRN.out.drew.below hq (Nat.le_refl _)
      have hg8 : B5 < w8.heap.size := Nat.lt_of_lt_of_le hgb hq.size
      have S8 := Lib.hid s8; clear s8
      have HRS8 := Lib.hid hrs8; clear hrs8
      have HRN8 := Lib.hid hrn8; clear hrn8
      clear hq hHeld z0 z1 y0 y1
      refine wpAnyH_take (i := 11) (v := ?_) rfl (by kernel_rfl) (by kernel_rfl) (by kernel_rfl) (fun _ _ _ h => h) (Or.inl ⟨by kernel_rfl, ?_⟩) (by assumption) ?_
      rotate_left
      · (intro wS hSw; (try dsimp only at hSw); go_simp; (try with_reducible rfl))
      (try simp only [Act.put, List.setIfInBounds_toArray, List.set_cons_zero, List.set_cons_succ])
      refine wpAnyH_take (i := 12) (v := ?_) rfl (by kernel_rfl) (by kernel_rfl) (by kernel_rfl) (fun _ _ _ h => h) (Or.inl ⟨by kernel_rfl, ?_⟩) (by assumption) ?_
      rotate_left
      · (intro wS hSw; (try dsimp only at hSw); go_simp; (try with_reducible rfl))
      (try simp only [Act.put, List.setIfInBounds_toArray, List.set_cons_zero, List.set_cons_succ])
      refine wpAnyH_take (i := 13) (v := ?_) rfl (by kernel_rfl) (by kernel_rfl) (by kernel_rfl) (fun _ _ _ h => h) (Or.inl ⟨by kernel_rfl, ?_⟩) (by assumption) ?_
      rotate_left
      · (intro wS hSw; (try dsimp only at hSw); go_simp; (try with_reducible rfl))
      (try simp only [Act.put, List.setIfInBounds_toArray, List.set_cons_zero, List.set_cons_succ])
      refine wpAnyH_take (i := 14) (v := ?_) rfl (by kernel_rfl) (by kernel_rfl) (by kernel_rfl) (fun _ _ _ h => h) (Or.inl ⟨by kernel_rfl, ?_⟩) (by assumption) ?_
      rotate_left
      · (intro wS hSw; (try dsimp only at hSw); go_simp; (try with_reducible rfl))
      (try simp only [Act.put, List.setIfInBounds_toArray, List.set_cons_zero, List.set_cons_succ])
      refine wpAnyH_take (i := 15) (v := ?_) rfl (by kernel_rfl) (by kernel_rfl) (by kernel_rfl) (fun _ _ _ h => h) (Or.inl ⟨by kernel_rfl, ?_⟩) (by assumption) ?_
      rotate_left
      · (intro wS hSw; (try dsimp only at hSw); go_simp; (try with_reducible rfl))
      (try simp only [Act.put, List.setIfInBounds_toArray, List.set_cons_zero, List.set_cons_succ])
      refine wpAnyH_take (i := 16) (v := ?_) rfl (by kernel_rfl) (by kernel_rfl) (by kernel_rfl) (fun _ _ _ h => h) (Or.inl ⟨by kernel_rfl, ?_⟩) (by assumption) ?_
      rotate_left
      · (intro wS hSw; (try dsimp only at hSw); go_simp; (try with_reducible rfl))
      (try simp only [Act.put, List.setIfInBounds_toArray, List.set_cons_zero, List.set_cons_succ])
      refine wpAnyH_take (i := 17) (v := ?_) rfl (by kernel_rfl) (by kernel_rfl) (by kernel_rfl) (fun _ _ _ h => h) (Or.inl ⟨by kernel_rfl, ?_⟩) (by assumption) ?_
      rotate_left
      · (intro wS hSw; (try dsimp only at hSw); go_simp; (try with_reducible rfl))
      (try simp only [Act.put, List.setIfInBounds_toArray, List.set_cons_zero, List.set_cons_succ])
      refine wpAnyH_take (i := 18) (v := ?_) rfl (by kernel_rfl) (by kernel_rfl) (by kernel_rfl) (fun _ _ _ h => h) (Or.inl ⟨by kernel_rfl, ?_⟩) (by assumption) ?_
      rotate_left
      · (intro wS hSw; (try dsimp only at hSw); go_simp; (try with_reducible rfl))
      (try simp only [Act.put, List.setIfInBounds_toArray, List.set_cons_zero, List.set_cons_succ])
      refine wpAnyH_take (i := 19) (v := ?_) rfl (by kernel_rfl) (by kernel_rfl) (by kernel_rfl) (fun _ _ _ h => h) (Or.inl ⟨by kernel_rfl, ?_⟩) (by assumption) ?_
      rotate_left
      · (intro wS hSw; (try dsimp only at hSw); go_simp; (try with_reducible rfl))
      (try simp only [Act.put, List.setIfInBounds_toArray, List.set_cons_zero, List.set_cons_succ])
      refine wpAnyH_take (i := 20) (v := ?_) rfl (by kernel_rfl) (by kernel_rfl) (by kernel_rfl) (fun _ _ _ h => h) (Or.inl ⟨by kernel_rfl, ?_⟩) (by assumption) ?_
      rotate_left
      · (intro wS hSw; (try dsimp only at hSw); go_simp; (try with_reducible rfl))
      (try simp only [Act.put, List.setIfInBounds_toArray, List.set_cons_zero, List.set_cons_succ])
      (try simp only [List.getElem_toArray, List.getElem_cons_zero, List.getElem_cons_succ, Act.put, List.setIfInBounds_toArray, List.set_cons_zero, List.set_cons_succ])
      refine wpAnyH_ready (rs := [21]) (by kernel_rfl) (by simp) ?_
      refine AllReadyH.cons rfl (fun K hK => ?_) AllReadyH.nil
      rw [if_pos (by kernel_rfl)]
      go_simp
      refine hK.out _ _ ?_ (fun hHeld => ?_)
      · ((try dsimp only); go_keep)
      clear hK K
      (try simp only [Act.put, List.setIfInBounds_toArray, List.set_cons_zero, List.set_cons_succ])
      have hq9 : Below w8.heap.size w8 (w8.alloc (.cells #[.int .i64 (t : Int)] 3)) := (Below.refl _ _).alloc (Nat.le_refl _) _
      have i9 := one_row (Blk.new w8 3 [.int .i64 (t : Int)])
      obtain ⟨B8, hB8⟩ : ∃ B8, B8 = w8.heap.size := ⟨_, rfl⟩
      obtain ⟨w9, hw9⟩ : ∃ w9, w9 = w8.alloc (.cells #[.int .i64 (t : Int)] 3) := ⟨_, rfl⟩
      have s9 := S8.out.trans (hq9.mono S8.out.size)
      have hrs9 := HRS8.out.below hq9 (Nat.le_refl _)
      have hrn9 := HRN8.out.below hq9 (Nat.le_refl _)
      replace i9 : Row w9 (.slice (some ⟨B8, 0, none⟩) 1 1) ([(t : Int)]).length (ci [(t : Int)]) := by rw [hw9, hB8]; exact i9
      have hg9 : B5 < w9.heap.size := by rw [hw9, World.size_alloc]; omega
      rw [← hw9] at s9 hrs9 hrn9 hHeld
      rw [← hw9, ← hB8]
      have S9 := Lib.hid s9; clear s9
      have HRS9 := Lib.hid hrs9; clear hrs9
      have HRN9 := Lib.hid hrn9; clear hrn9
      have I9 := Lib.hid i9; clear i9
      clear hq9 hw9 hB8 hHeld2
      refine wpAnyH_ready (rs := [22]) (by kernel_rfl) (by simp) ?_
      refine AllReadyH.cons rfl (fun K hK => ?_) AllReadyH.nil
      rw [if_pos (by kernel_rfl)]
      go_simp
      go_at_call 24
      refine (HEQ.out _ _ _ HRN9.out I9.out).mono ?_
      rintro e w10 ⟨hq, rfl⟩
      dsimp only
      have z0 := (hq.cell (p := ⟨B5, 0, none⟩) (show B5 < w9.heap.size by omega)).trans hHeld.1
      have z1 := (hq.cell (p := ⟨B5, 1, none⟩) (show B5 < w9.heap.size by omega)).trans hHeld.2
      refine hK.out _ _ ⟨z0, z1⟩ (fun hHeld2 => ?_)
      clear hK K
      (try simp only [Act.put, List.setIfInBounds_toArray, List.set_cons_zero, List.set_cons_succ])
      have s10 := S9.out.trans (hq.mono S9.out.size)
      have hrs10 := HRS9.out.below hq (Nat.le_refl _)
      have hg10 : B5 < w10.heap.size := Nat.lt_of_lt_of_le hg9 hq.size
      have S10 := Lib.hid s10; clear s10
      have HRS10 := Lib.hid hrs10; clear hrs10
      clear hq hHeld z0 z1
      refine wpAnyH_take (i := 23) (v := ?_) rfl (by kernel_rfl) (by kernel_rfl) (by kernel_rfl) (fun _ _ _ h => h) (Or.inl ⟨by kernel_rfl, ?_⟩) (by assumption) ?_
      rotate_left
      · (intro wS hSw; (try dsimp only at hSw); go_simp; (try with_reducible rfl))
      (try simp only [Act.put, List.setIfInBounds_toArray, List.set_cons_zero, List.set_cons_succ])
      refine wpAnyH_take (i := 24) (v := ?_) rfl (by kernel_rfl) (by kernel_rfl) (by kernel_rfl) (fun _ _ _ h => h) (Or.inl ⟨by kernel_rfl, ?_⟩) (by assumption) ?_
      rotate_left
      · (intro wS hSw; (try dsimp only at hSw); go_simp; (try with_reducible rfl))
      (try simp only [Act.put, List.setIfInBounds_toArray, List.set_cons_zero, List.set_cons_succ])
      refine wpAnyH_take (i := 25) (v := ?_) rfl (by kernel_rfl) (by kernel_rfl) (by kernel_rfl) (fun _ _ _ h => h) (Or.inl ⟨by kernel_rfl, ?_⟩) (by assumption) ?_
      rotate_left
      · (intro wS hSw; (try dsimp only at hSw); go_simp; (try with_reducible rfl))
      (try simp only [Act.put, List.setIfInBounds_toArray, List.set_cons_zero, List.set_cons_succ])
      refine wpAnyH_take (i := 26) (v := ?_) rfl (by kernel_rfl) (by kernel_rfl) (by kernel_rfl) (fun _ _ _ h => h) (Or.inl ⟨by kernel_rfl, ?_⟩) (by assumption) ?_
      rotate_left
      · (intro wS hSw; (try dsimp only at hSw); go_simp; (try with_reducible rfl))
      (try simp only [Act.put, List.setIfInBounds_toArray, List.set_cons_zero, List.set_cons_succ])
      (try simp only [List.getElem_toArray, List.getElem_cons_zero, List.getElem_cons_succ, Act.put, List.setIfInBounds_toArray, List.set_cons_zero, List.set_cons_succ])
      refine wpAnyH_ready (rs := [27]) (by kernel_rfl) (by simp) ?_
      refine AllReadyH.cons rfl (fun K hK => ?_) AllReadyH.nil
      rw [if_pos (by kernel_rfl)]
      go_simp
      go_at_call 25
      refine (HCT2.out _ HRS10.out).mono ?_
      rintro e w11 ⟨hq, rfl⟩
      dsimp only
      have z0 := (hq.cell (p := ⟨B5, 0, none⟩) (show B5 < w10.heap.size by omega)).trans hHeld2.1
      have z1 := (hq.cell (p := ⟨B5, 1, none⟩) (show B5 < w10.heap.size by omega)).trans hHeld2.2
      refine hK.out _ _ ⟨z0, z1⟩ (fun hHeld => ?_)
      clear hK K
      (try simp only [Act.put, List.setIfInBounds_toArray, List.set_cons_zero, List.set_cons_succ])
      have s11 := S10.out.trans (hq.mono S10.out.size)
      have hg11 : B5 < w11.heap.size := Nat.lt_of_lt_of_le hg10 hq.size
      have S11 := Lib.hid s11; clear s11
      clear hq hHeld2 z0 z1
      refine wpAnyH_take (i := 28) (v := ?_) rfl (by kernel_rfl) (by kernel_rfl) (by kernel_rfl) (fun _ _ _ h => h) (Or.inl ⟨by kernel_rfl, ?_⟩) (by assumption) ?_
      rotate_left
      · (intro wS hSw; (try dsimp only at hSw); go_simp; (try with_reducible rfl))
      (try simp only [Act.put, List.setIfInBounds_toArray, List.set_cons_zero, List.set_cons_succ])
      refine wpAnyH_take (i := 29) (v := ?_) rfl (by kernel_rfl) (by kernel_rfl) (by kernel_rfl) (fun _ _ _ h => h) (Or.inl ⟨by kernel_rfl, ?_⟩) (by assumption) ?_
      rotate_left
      · (intro wS hSw; (try dsimp only at hSw); go_simp; (try with_reducible rfl))
      (try simp only [Act.put, List.setIfInBounds_toArray, List.set_cons_zero, List.set_cons_succ])
      refine wpAnyH_take (i := 30) (v := ?_) rfl (by kernel_rfl) (by kernel_rfl) (by kernel_rfl) (fun _ _ _ h => h) (Or.inl ⟨by kernel_rfl, ?_⟩) (by assumption) ?_
      rotate_left
      · (intro wS hSw; (try dsimp only at hSw); go_simp; (try with_reducible rfl))
      (try simp only [Act.put, List.setIfInBounds_toArray, List.set_cons_zero, List.set_cons_succ])
      refine wpAnyH_take (i := 31) (v := ?_) rfl (by kernel_rfl) (by kernel_rfl) (by kernel_rfl) (fun _ _ _ h => h) (Or.inl ⟨by kernel_rfl, ?_⟩) (by assumption) ?_
      rotate_left
      · (intro wS hSw; (try dsimp only at hSw); go_simp; (try with_reducible rfl))
      (try simp only [Act.put, List.setIfInBounds_toArray, List.set_cons_zero, List.set_cons_succ])
      refine wpAnyH_take (i := 32) (v := ?_) rfl (by kernel_rfl) (by kernel_rfl) (by kernel_rfl) (fun _ _ _ h => h) (Or.inl ⟨by kernel_rfl, ?_⟩) (by assumption) ?_
      rotate_left
      · (intro wS hSw; (try dsimp only at hSw); go_simp; (try with_reducible rfl))
      (try simp only [Act.put, List.setIfInBounds_toArray, List.set_cons_zero, List.set_cons_succ])
      refine wpAnyH_take (i := 33) (v := ?_) rfl (by kernel_rfl) (by kernel_rfl) (by kernel_rfl) (fun _ _ _ h => h) (Or.inl ⟨by kernel_rfl, ?_⟩) (by assumption) ?_
      rotate_left
      · (intro wS hSw; (try dsimp only at hSw); go_simp; (try with_reducible rfl))
      (try simp only [Act.put, List.setIfInBounds_toArray, List.set_cons_zero, List.set_cons_succ])
      refine wpAnyH_take (i := 34) (v := ?_) rfl (by kernel_rfl) (by kernel_rfl) (by kernel_rfl) (fun _ _ _ h => h) (Or.inl ⟨by kernel_rfl, ?_⟩) (by assumption) ?_
      rotate_left
      · (intro wS hSw; (try dsimp only at hSw); go_simp; (try with_reducible rfl))
      (try simp only [Act.put, List.setIfInBounds_toArray, List.set_cons_zero, List.set_cons_succ])
      refine wpAnyH_take (i := 35) (v := ?_) rfl (by kernel_rfl) (by kernel_rfl) (by kernel_rfl) (fun _ _ _ h => h) (Or.inl ⟨by kernel_rfl, ?_⟩) (by assumption) ?_
      rotate_left
      · (intro wS hSw; (try dsimp only at hSw); go_simp; (try with_reducible rfl))
      (try simp only [Act.put, List.setIfInBounds_toArray, List.set_cons_zero, List.set_cons_succ])
      (try simp only [List.getElem_toArray, List.getElem_cons_zero, List.getElem_cons_succ, Act.put, List.setIfInBounds_toArray, List.set_cons_zero, List.set_cons_succ])
      refine wpAnyH_ready (rs := [36]) (by kernel_rfl) (by simp) ?_
      refine AllReadyH.cons rfl (fun K hK => ?_) AllReadyH.nil
      rw [if_pos (by kernel_rfl)]
      go_simp
      go_at_call 10
      refine (HAW.out _).mono ?_
      rintro e w12 ⟨hq, rfl⟩
      dsimp only
      have z0 := (hq.cell (p := ⟨B5, 0, none⟩) (show B5 < w11.heap.size by omega)).trans hHeld.1
      have z1 := (hq.cell (p := ⟨B5, 1, none⟩) (show B5 < w11.heap.size by omega)).trans hHeld.2
      refine hK.out _ _ ⟨z0, z1⟩ (fun hHeld2 => ?_)
      clear hK K
      (try simp only [Act.put, List.setIfInBounds_toArray, List.set_cons_zero, List.set_cons_succ])
      have s12 := S11.out.trans (hq.mono S11.out.size)
      have S12 := Lib.hid s12; clear s12
      clear hq hHeld z0 z1
      refine wpAnyH_take (i := 37) (v := ?_) rfl (by kernel_rfl) (by kernel_rfl) (by kernel_rfl) (fun _ _ _ h => h) (Or.inl ⟨by kernel_rfl, ?_⟩) (by assumption) ?_
      rotate_left
      · (intro wS hSw; (try dsimp only at hSw); go_simp; (try with_reducible rfl))
      (try simp only [Act.put, List.setIfInBounds_toArray, List.set_cons_zero, List.set_cons_succ])
      refine wpAnyH_take (i := 38) (v := ?_) rfl (by kernel_rfl) (by kernel_rfl) (by kernel_rfl) (fun _ _ _ h => h) (Or.inl ⟨by kernel_rfl, ?_⟩) (by assumption) ?_
      rotate_left
      · (intro wS hSw; (try dsimp only at hSw); go_simp; (try with_reducible rfl))
      (try simp only [Act.put, List.setIfInBounds_toArray, List.set_cons_zero, List.set_cons_succ])
      refine wpAnyH_done (by kernel_rfl) ?_ _
      (try simp only [List.getElem_toArray, List.getElem_cons_zero, List.getElem_cons_succ, Act.put, List.setIfInBounds_toArray, List.set_cons_zero, List.set_cons_succ])
      clear hHeld2
      go_wp2_with fail
      go_ret
      exact ⟨S12.out, rfl⟩
    · rw [ure, if_neg hin] at hen2
      simp only [strV] at hen2
      have HEN2 := Lib.hid hen2; clear hen2
      clear hin hset hq
      go_wp2_with fail
      refine wp_region_held_drew (S := fun w' => w'.cell? ⟨w.heap.size, 0, none⟩ = some (.int .i64 (l : Int)) ∧ w'.cell? ⟨w.heap.size, 1, none⟩ = some (.int .i64 (k : Int)) ∧ w'.cell? ⟨w.heap.size, 2, none⟩ = some (.slice va mm vc)) (by kernel_rfl) ?_ (fun hHeld => ?_)
      · go_keep
      refine wpAnyH_take (i := 0) (v := ?_) rfl (by kernel_rfl) (by kernel_rfl) (by kernel_rfl) (fun _ _ _ h => h) (Or.inl ⟨by kernel_rfl, ?_⟩) (by assumption) ?_
      rotate_left
      · (intro wS hSw; (try dsimp only at hSw); go_simp; (try with_reducible rfl))
      (try simp only [Act.put, List.setIfInBounds_toArray, List.set_cons_zero, List.set_cons_succ])
      refine wpAnyH_take (i := 1) (v := ?_) rfl (by kernel_rfl) (by kernel_rfl) (by kernel_rfl) (fun _ _ _ h => h) (Or.inl ⟨by kernel_rfl, ?_⟩) (by assumption) ?_
      rotate_left
      · (intro wS hSw; (try dsimp only at hSw); go_simp; (try with_reducible rfl))
      (try simp only [Act.put, List.setIfInBounds_toArray, List.set_cons_zero, List.set_cons_succ])
      refine wpAnyH_take (i := 2) (v := ?_) rfl (by kernel_rfl) (by kernel_rfl) (by kernel_rfl) (fun _ _ _ h => h) (Or.inl ⟨by kernel_rfl, ?_⟩) (by assumption) ?_
      rotate_left
      · (intro wS hSw; (try dsimp only at hSw); go_simp; (try with_reducible rfl))
      (try simp only [Act.put, List.setIfInBounds_toArray, List.set_cons_zero, List.set_cons_succ])
      refine wpAnyH_take (i := 3) (v := ?_) rfl (by kernel_rfl) (by kernel_rfl) (by kernel_rfl) (fun _ _ _ h => h) (Or.inl ⟨by kernel_rfl, ?_⟩) (by assumption) ?_
      rotate_left
      · (intro wS hSw; (try dsimp only at hSw); go_simp; (try with_reducible rfl))
      (try simp only [Act.put, List.setIfInBounds_toArray, List.set_cons_zero, List.set_cons_succ])
      refine wpAnyH_take (i := 4) (v := ?_) rfl (by kernel_rfl) (by kernel_rfl) (by kernel_rfl) (fun _ _ _ h => h) (Or.inl ⟨by kernel_rfl, ?_⟩) (by assumption) ?_
      rotate_left
      · (intro wS hSw; (try dsimp only at hSw); go_simp; (try with_reducible rfl))
      (try simp only [Act.put, List.setIfInBounds_toArray, List.set_cons_zero, List.set_cons_succ])
      refine wpAnyH_take (i := 5) (v := ?_) rfl (by kernel_rfl) (by kernel_rfl) (by kernel_rfl) (fun _ _ _ h => h) (Or.inl ⟨by kernel_rfl, ?_⟩) (by assumption) ?_
      rotate_left
      · (intro wS hSw; (try dsimp only at hSw); go_simp; (try with_reducible rfl))
      (try simp only [Act.put, List.setIfInBounds_toArray, List.set_cons_zero, List.set_cons_succ])
      refine wpAnyH_ready (rs := [6]) (by kernel_rfl) (by simp) ?_
      refine AllReadyH.cons rfl (fun K hK => ?_) AllReadyH.nil
      go_simp
      go_at_call 20
      refine (HOF.out _).mono ?_
      rintro e w3 ⟨hq, rfl⟩
      dsimp only
      have z0 := (hq.cell (p := ⟨w.heap.size, 0, none⟩) (show w.heap.size < w2.heap.size by omega)).trans hHeld.1
      have z1 := (hq.cell (p := ⟨w.heap.size, 1, none⟩) (show w.heap.size < w2.heap.size by omega)).trans hHeld.2.1
      have z2 := (hq.cell (p := ⟨w.heap.size, 2, none⟩) (show w.heap.size < w2.heap.size by omega)).trans hHeld.2.2
      refine hK.out _ _ ⟨z0, z1, z2⟩ (fun hHeld2 => ?_)
      clear hK K
      (try simp only [Act.put, List.setIfInBounds_toArray, List.set_cons_zero, List.set_cons_succ])
      have s3 := S2.out.drew.trans (hq.mono S2.out.size)
      have hr3 := HR2.out.drew.below hq (Nat.le_refl _)
      have hrs3 := HRS.out.drew.below hq (Nat.le_refl _)
      have k3 := D0.out.drew.keep hq
      have hg3 : w.heap.size < w3.heap.size := k3.lt
      have hen4 := HEN2.out _ hr3 hrs3
      clear hq hHeld z0 z1 z2 x0 x1 x2
      have S3 := Lib.hid s3; clear s3
      have HR3 := Lib.hid hr3; clear hr3
      have HRS3 := Lib.hid hrs3; clear hrs3
      have E0 := Lib.hid k3; clear k3
      have HEN4 := Lib.hid hen4; clear hen4
      refine wpAnyH_ready (rs := [7]) (by kernel_rfl) (by simp) ?_
      refine AllReadyH.cons rfl (fun K hK => ?_) AllReadyH.nil
      go_simp
      go_at_call 15
      refine HEN4.out.mono ?_
      rintro e w4 ⟨hq, rfl⟩
      dsimp only
      have z0 := (hq.cell (p := ⟨w.heap.size, 0, none⟩) (show w.heap.size < w3.heap.size by omega)).trans hHeld2.1
      have z1 := (hq.cell (p := ⟨w.heap.size, 1, none⟩) (show w.heap.size < w3.heap.size by omega)).trans hHeld2.2.1
      have z2 := (hq.cell (p := ⟨w.heap.size, 2, none⟩) (show w.heap.size < w3.heap.size by omega)).trans hHeld2.2.2
      refine hK.out _ _ ⟨z0, z1, z2⟩ (fun hHeld3 => ?_)
      clear hK K
      (try simp only [Act.put, List.setIfInBounds_toArray, List.set_cons_zero, List.set_cons_succ])
      have s4 := S3.out.trans (hq.mono S3.out.size)
      have hr4 := HR3.out.below hq (Nat.le_refl _)
      have hrs4 := HRS3.out.below hq (Nat.le_refl _)
      have k4 := E0.out.keep hq
      have hg4 : w.heap.size < w4.heap.size := k4.lt
      clear hq hHeld2 z0 z1 z2
      refine wpAnyH_take (i := 8) (v := ?_) rfl (by kernel_rfl) (by kernel_rfl) (by kernel_rfl) (fun _ _ _ h => h) (Or.inl ⟨by kernel_rfl, ?_⟩) (by assumption) ?_
      rotate_left
      · (intro wS hSw; (try dsimp only at hSw); go_simp; (try with_reducible rfl))
      (try simp only [Act.put, List.setIfInBounds_toArray, List.set_cons_zero, List.set_cons_succ])
      refine wpAnyH_take (i := 9) (v := ?_) rfl (by kernel_rfl) (by kernel_rfl) (by kernel_rfl) (fun _ _ _ h => h) (Or.inl ⟨by kernel_rfl, ?_⟩) (by assumption) ?_
      rotate_left
      · (intro wS hSw; (try dsimp only at hSw); go_simp; (try with_reducible rfl))
      (try simp only [Act.put, List.setIfInBounds_toArray, List.set_cons_zero, List.set_cons_succ])
      refine wpAnyH_take (i := 10) (v := ?_) rfl (by kernel_rfl) (by kernel_rfl) (by kernel_rfl) (fun _ _ _ h => h) (Or.inl ⟨by kernel_rfl, ?_⟩) (by assumption) ?_
      rotate_left
      · (intro wS hSw; (try dsimp only at hSw); go_simp; (try with_reducible rfl))
      (try simp only [Act.put, List.setIfInBounds_toArray, List.set_cons_zero, List.set_cons_succ])
      refine wpAnyH_take (i := 11) (v := ?_) rfl (by kernel_rfl) (by kernel_rfl) (by kernel_rfl) (fun _ _ _ h => h) (Or.inl ⟨by kernel_rfl, ?_⟩) (by assumption) ?_
      rotate_left
      · (intro wS hSw; (try dsimp only at hSw); go_simp; (try with_reducible rfl))
      (try simp only [Act.put, List.setIfInBounds_toArray, List.set_cons_zero, List.set_cons_succ])
      refine wpAnyH_take (i := 12) (v := ?_) rfl (by kernel_rfl) (by kernel_rfl) (by kernel_rfl) (fun _ _ _ h => h) (Or.inl ⟨by kernel_rfl, ?_⟩) (by assumption) ?_
      rotate_left
      · (intro wS hSw; (try dsimp only at hSw); go_simp; (try with_reducible rfl))
      (try simp only [Act.put, List.setIfInBounds_toArray, List.set_cons_zero, List.set_cons_succ])
      refine wpAnyH_take (i := 13) (v := ?_) rfl (by kernel_rfl) (by kernel_rfl) (by kernel_rfl) (fun _ _ _ h => h) (Or.inl ⟨by kernel_rfl, ?_⟩) (by assumption) ?_
      rotate_left
      · (intro wS hSw; (try dsimp only at hSw); go_simp; (try with_reducible rfl))
      (try simp only [Act.put, List.setIfInBounds_toArray, List.set_cons_zero, List.set_cons_succ])
      refine wpAnyH_take (i := 14) (v := ?_) rfl (by kernel_rfl) (by kernel_rfl) (by kernel_rfl) (fun _ _ _ h => h) (Or.inl ⟨by kernel_rfl, ?_⟩) (by assumption) ?_
      rotate_left
      · (intro wS hSw; (try dsimp only at hSw); go_simp; (try with_reducible rfl))
      (try simp only [Act.put, List.setIfInBounds_toArray, List.set_cons_zero, List.set_cons_succ])
      refine wpAnyH_done (by kernel_rfl) ?_ _
      (try simp only [List.getElem_toArray, List.getElem_cons_zero, List.getElem_cons_succ, Act.put, List.setIfInBounds_toArray, List.set_cons_zero, List.set_cons_succ])
      clear hHeld3
      have S4 := Lib.hid s4; clear s4
      have HR4 := Lib.hid hr4; clear hr4
      have HRS4 := Lib.hid hrs4; clear hrs4
      have F0 := Lib.hid k4; clear k4
      go_wp2_with fail
      go_at_call 10
      refine (HAW.out _).mono ?_
      rintro e w5 ⟨hq, rfl⟩
      have s5 := S4.out.trans (hq.mono S4.out.size)
      have S5 := Lib.hid s5; clear s5
      clear hq
      go_wp2_with fail
      go_ret
      exact ⟨S5.out, rfl⟩
theorem lrnd_all (L S : Int) (es : List E3) (v : Value) (nb aa nn xx : Nat) (w : World) (hr : Row w v es.length (ce es)) (hok : okEs es) (haa : aa ≤ 255) (hnn : nn ≤ 255) (hnb : nb ≤ 65535) (hxx : xx ≤ 65535) :
    Calls Tryz.prog 5 #[.agg #[.int .i64 L, .int .i64 S, v], .int .u16 (nb : Int), .int .u8 (aa : Int), .int .u8 (nn : Int), .int .u16 (xx : Int)] w (Ret w (.bool true)) := by
  rcases Classical.em (FineP L S es) with hF | hF
  · obtain ⟨hE, hS, hL⟩ := hF
    have hca := chk_all (eck_zero hE).1
    obtain ⟨l, rfl⟩ : ∃ l : Nat, L = l := ⟨L.toNat, by omega⟩
    obtain ⟨k, rfl⟩ : ∃ k : Nat, S = k := ⟨S.toNat, by omega⟩
    exact lrnd_go l k _ _ es v nb aa nn xx w hr hok hE (by omega) rfl (by omega) rfl haa hnn hnb hxx
  · exact lrnd_bad L S es v nb aa nn xx w hr hok hF
end Go.Proofs.YtalipfnbpnkgnaaGreat
