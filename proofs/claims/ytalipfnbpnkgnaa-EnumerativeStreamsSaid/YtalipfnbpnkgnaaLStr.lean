/- The law EnumerativeStreams (printed by gen_lstr.py). -/
import Derived.Deep.DeepCutAuto
import Derived.Test.YtalipfnbpnkgnaaLawStr
import Derived.Test.YtalipfnbpnkgnaaPart6
namespace Go.Proofs.Ytalipfnbpnkgnaa
open Go.RowKit

theorem cb_at {l : List UInt8} {j : Nat} {c : UInt8} (h : l[j]? = some c) : (cb l)[j]? = some (.int .u8 (c.toNat : Int)) := by simp [cb, h]
def zb (l : List UInt8) : List Int := l.map fun (c : UInt8) => (c.toNat : Int)
theorem zb_length (l : List UInt8) : (zb l).length = l.length := by simp [zb]
theorem zb_get {l : List UInt8} {j : Nat} {c : UInt8} (h : l[j]? = some c) : (zb l)[j]? = some (c.toNat : Int) := by simp [zb, h]
theorem zb_snoc {l : List UInt8} {j : Nat} {c : UInt8} (h : l[j]? = some c) : civ (zb (l.take (j + 1))) = civ (zb (l.take j)) ++ [.bool (ineg (c.toNat : Int)), .string (imag (c.toNat : Int))] := by
  have hl : j < l.length := (List.getElem?_eq_some_iff.1 h).1
  rw [List.take_succ_eq_append_getElem hl, zb, List.map_append, civ_append]
  have : l[j] = c := (List.getElem?_eq_some_iff.1 h).2
  rw [this]
  rfl
theorem zb_small {l : List UInt8} : ∀ a ∈ zb l, small a := fun a ha => by
  obtain ⟨c, -, rfl⟩ := List.mem_map.1 ha
  have := c.toNat_lt
  exact small_nat (by omega)
theorem neq_self (x : Int) (w : World) : (binOp .neq 26 (.agg #[.bool (ineg x), .string (imag x)]) (.agg #[.bool (ineg x), .string (imag x)])).run Try.prog w = .ok (.bool false) w := by
  rw [run_neq_struct, eqIn_int]
  have e : (ineg x == ineg x && imag x == imag x) = true := by rw [beq_str]; simp
  rw [e]; rfl
theorem infoZP : (Try.prog.info? 26).map (fun i => (i.zero, i.size, i.bytes)) = some (some (.agg #[.bool false, .string ⟨#[]⟩]), 2, 24) := by kernel_rfl
set_option maxRecDepth 100000 in
set_option maxHeartbeats 3200000 in
theorem lstr_bad (L S : Int) (es : List E3) (v vb : Value) (bs : List UInt8) (nb aa nn : Nat) (w : World) (hr : Row w v es.length (ce es)) (hok : okEs es) (hrb : Row w vb bs.length (cb bs)) (hF : ¬ FineP L S es ∨ 4 < bs.length) :
    Calls Try.prog 6 #[.agg #[.int .i64 L, .int .i64 S, v], .int .u16 (nb : Int), .int .u8 (aa : Int), .int .u8 (nn : Int), vb] w (Ret w (.bool true)) := by
  obtain ⟨va, vc, rfl, hle⟩ := hr.slice
  obtain ⟨ba, bc, rfl, hble⟩ := hrb.slice
  obtain ⟨mz, hmz⟩ : ∃ mz, mz = es.length := ⟨_, rfl⟩
  obtain ⟨mb, hmb⟩ : ∃ mb, mb = bs.length := ⟨_, rfl⟩
  have s0 := (Below.refl w.heap.size w).alloc (Nat.le_refl _) (.cells #[.int .i64 L, .int .i64 S, .slice va es.length vc] 24)
  have b0 := Blk.new w 24 [.int .i64 L, .int .i64 S, .slice va es.length vc]
  have hr0 := hr.below s0 (Nat.le_refl _)
  have hfi := fine_any L S es _ _ hr0 hok
  have haw := awake29_true
  rw [← hmz] at s0 b0 hr0 hfi
  rw [← hmb] at hble hF
  have HMM := Lib.hid hmz; clear hmz
  have HMB := Lib.hid hmb; clear hmb
  have HFI := Lib.hid hfi; clear hfi
  have HAW := Lib.hid haw; clear haw
  have S0 := Lib.hid s0; clear s0
  have B0 := Lib.hid b0; clear b0
  clear hr hr0 hrb
  go_enter Try.func6, Try.ntmps6
  rw [← HMM.out, ← HMB.out]
  go_wp2_with fail
  go_at_call 17
  refine HFI.out.mono ?_
  rintro e w1 ⟨hq, b, rfl, hb⟩
  have s1 := S0.out.trans (hq.mono S0.out.size)
  have tk := B0.out.keep hq; have x0 := tk.cell (j := 0) rfl; have x1 := tk.cell (j := 1) rfl; have x2 := tk.cell (j := 2) rfl; have C0 := Lib.hid tk; clear tk
  have S1 := Lib.hid s1; clear s1
  clear hq
  cases b with
  | false =>
    go_wp2_with fail
    go_at_call 11
    refine (HAW.out _).mono ?_
    rintro e w2 ⟨hq, rfl⟩
    have HQ := Lib.hid hq; clear hq
    go_wp2_with fail
    go_ret
    exact ⟨S1.out.trans (HQ.out.mono S1.out.size), rfl⟩
  | true =>
    have h4 : 4 < mb := hF.resolve_left (fun h => h (hb rfl))
    have h4i : (4 : Int) < (mb : Int) := by omega
    clear hF hb
    go_wp2_with fail
    go_at_call 11
    refine (HAW.out _).mono ?_
    rintro e w2 ⟨hq, rfl⟩
    have HQ := Lib.hid hq; clear hq
    go_wp2_with fail
    go_ret
    exact ⟨S1.out.trans (HQ.out.mono S1.out.size), rfl⟩
set_option maxRecDepth 100000 in
set_option maxHeartbeats 8000000 in
theorem lstr_go (l k s0 N : Nat) (es : List E3) (v vb : Value) (bs : List UInt8) (nb aa nn : Nat) (w : World) (hr : Row w v es.length (ce es)) (hok : okEs es) (hrb : Row w vb bs.length (cb bs)) (hE : eck (l : Int) (k : Int) es = 0) (hl4 : l ≤ 4) (hN : N = nn % 9) (hk0 : 0 < k) (hs : s0 = aa % k) (haa : aa ≤ 255) (hnn : nn ≤ 255) (hnb : nb ≤ 65535) (hbl : bs.length ≤ 4) :
    Calls Try.prog 6 #[.agg #[.int .i64 (l : Int), .int .i64 (k : Int), v], .int .u16 (nb : Int), .int .u8 (aa : Int), .int .u8 (nn : Int), vb] w (Ret w (.bool true)) := by
  have hN8 : N ≤ 8 := by omega
  have hs0 : s0 < k := by rw [hs]; exact Nat.mod_lt _ hk0
  have hca := chk_all (eck_zero hE).1
  obtain ⟨va, vc, rfl, hle⟩ := hr.slice
  obtain ⟨ba, bc, rfl, hble⟩ := hrb.slice
  obtain ⟨mm, hmm⟩ : ∃ mm, mm = es.length := ⟨_, rfl⟩
  obtain ⟨mb, hmb⟩ : ∃ mb, mb = bs.length := ⟨_, rfl⟩
  have s0' := (Below.refl w.heap.size w).alloc (Nat.le_refl _) (.cells #[.int .i64 (l : Int), .int .i64 (k : Int), .slice va es.length vc] 24)
  have b0 := Blk.new w 24 [.int .i64 (l : Int), .int .i64 (k : Int), .slice va es.length vc]
  have hr0 := hr.below s0' (Nat.le_refl _)
  have hrb0 := hrb.below s0' (Nat.le_refl _)
  have hfi := fine_any (l : Int) (k : Int) es _ _ hr0 hok
  have haw := awake29_true
  have hch := fun v' w' => choose_any (l : Int) k nb v' w' (by omega) hnb
  have hst := fun set vs vl v' w' (hset : SomeS k set) (h : Row w' v' es.length (ce es)) (h2 : Row w' vs set.length (ci set)) (h3 : Row w' vl (zb bs).length (civ (zb bs))) => estr_ok (l : Int) k s0 N es set (zb bs) v' vs vl w' h hok h2 h3 hE hset hs0 (by omega) (by rw [zb_length]; exact hbl) zb_small
  have hde := fun set vs v' w' (hset : SomeS k set) (s : Nat) (a : Int) (hs : s < k) (ha0 : 0 ≤ a) (ha1 : a < cw es (pin set) N (s : Int)) (h : Row w' v' es.length (ce es)) (h2 : Row w' vs set.length (ci set)) => edec_some (l : Int) k s es set v' vs ⟨(ur es (pin set) N (s : Int) a).1.toArray⟩ w' h hok h2 hE hset hs (by simpa using ur_ckw hE (pin set) N (by omega) (s : Int) a ha0 ha1) (by show (ur es (pin set) N (s : Int) a).1.toArray.size ≤ 4096; rw [List.size_toArray, ur_length N (s : Int) a ha0 ha1]; omega) a (ur es (pin set) N (s : Int) a).2 (by simpa using (rk_ur hE (pin set) N (s : Int) a 0 ha0 ha1).1) (rk_ur hE (pin set) N (s : Int) a 0 ha0 ha1).2
  have hend := fun (set : List Int) (hset : SomeS k set) (s a : Int) => ur_end hE hset (n := N) (s := s) (a := a)
  have hdsz := fun (set : List Int) (s a : Int) (ha0 : 0 ≤ a) (ha1 : a < cw es (pin set) N s) => ur_length (es := es) (p := pin set) N s a ha0 ha1
  have hof := fun (c : UInt8) w' => iof_any (c.toNat : Int) w' (by omega) (by have := c.toNat_lt; omega)
  have hkz : ¬ (k : Int) = 0 := by omega
  have hkn : ¬ k = 0 := by omega
  have hsI : (aa : Int).tmod (k : Int) = (s0 : Int) := by rw [Int.tmod_eq_emod_of_nonneg (by omega), ← Int.natCast_emod, ← hs]
  have hNz : (nn : Int).tmod 9 = (N : Int) := by rw [Int.tmod_eq_emod_of_nonneg (by omega)]; omega
  have hwa : IntKind.i64.wrap (aa : Int) = (aa : Int) := IntWalk.i64_in _ (by omega)
  have hwn : IntKind.i64.wrap (nn : Int) = (nn : Int) := IntWalk.i64_in _ (by omega)
  rw [zb_length] at hst
  rw [← hmm] at s0' b0 hr0 hrb0 hfi hle hst hde
  rw [← hmb] at hrb0 hble hbl hst
  have HMM := Lib.hid hmm; clear hmm
  have HMB := Lib.hid hmb; clear hmb
  have HFI := Lib.hid hfi; clear hfi
  have HAW := Lib.hid haw; clear haw
  have HCH := Lib.hid hch; clear hch
  have HST := Lib.hid hst; clear hst
  have HDE := Lib.hid hde; clear hde
  have HEND := Lib.hid hend; clear hend
  have HDSZ := Lib.hid hdsz; clear hdsz
  have HOF := Lib.hid hof; clear hof
  have HNZ := Lib.hid hNz; clear hNz
  have HSI := Lib.hid hsI; clear hsI
  have S0 := Lib.hid s0'; clear s0'
  have B0 := Lib.hid b0; clear b0
  have HR := Lib.hid hr0; clear hr0
  have HRB := Lib.hid hrb0; clear hrb0
  clear hN hs hE hok hr hrb hca
  go_enter Try.func6, Try.ntmps6
  rw [← HMM.out, ← HMB.out]
  go_wp2_with fail
  go_at_call 17
  refine HFI.out.mono ?_
  rintro e w1 ⟨hq, b, rfl, hb⟩
  have s1 := S0.out.trans (hq.mono S0.out.size)
  have hr1 := HR.out.below hq (Nat.le_refl _)
  have hrb1 := HRB.out.below hq (Nat.le_refl _)
  have tk := B0.out.keep hq; have x0 := tk.cell (j := 0) rfl; have x1 := tk.cell (j := 1) rfl; have x2 := tk.cell (j := 2) rfl; have C0 := Lib.hid tk; clear tk
  have S1 := Lib.hid s1; clear s1
  have HR1 := Lib.hid hr1; clear hr1
  have HRB1 := Lib.hid hrb1; clear hrb1
  clear hq hb
  cases b with
  | false =>
    go_wp2_with fail
    go_at_call 11
    refine (HAW.out _).mono ?_
    rintro e w2 ⟨hq, rfl⟩
    have HQ := Lib.hid hq; clear hq
    go_wp2_with fail
    go_ret
    exact ⟨S1.out.trans (HQ.out.mono S1.out.size), rfl⟩
  | true =>
    have hb4 : ¬ (4 : Int) < (mb : Int) := by omega
    have hg1 : w.heap.size < w1.heap.size := C0.out.lt
    go_wp2_with fail
    refine wp_region_held_drew (S := fun w' => w'.cell? ⟨w.heap.size, 0, none⟩ = some (.int .i64 (l : Int)) ∧ w'.cell? ⟨w.heap.size, 1, none⟩ = some (.int .i64 (k : Int)) ∧ w'.cell? ⟨w.heap.size, 2, none⟩ = some (.slice va mm vc)) (by kernel_rfl) ?_ (fun hHeld => ?_)
    · go_keep
    refine wpAnyH_take (i := 0) (v := ?_) rfl (by kernel_rfl) (by kernel_rfl) (by kernel_rfl) (fun _ _ _ h => h) (Or.inl ⟨by rfl, ?_⟩) (by assumption) ?_
    rotate_left
    · (intro wS hSw; (try dsimp only at hSw); go_simp; (try with_reducible rfl))
    (try simp only [Act.put, List.setIfInBounds_toArray, List.set_cons_zero, List.set_cons_succ])
    refine wpAnyH_take (i := 1) (v := ?_) rfl (by kernel_rfl) (by kernel_rfl) (by kernel_rfl) (fun _ _ _ h => h) (Or.inl ⟨by rfl, ?_⟩) (by assumption) ?_
    rotate_left
    · (intro wS hSw; (try dsimp only at hSw); go_simp; (try with_reducible rfl))
    (try simp only [Act.put, List.setIfInBounds_toArray, List.set_cons_zero, List.set_cons_succ])
    refine wpAnyH_take (i := 3) (v := ?_) rfl (by kernel_rfl) (by kernel_rfl) (by kernel_rfl) (fun _ _ _ h => h) (Or.inl ⟨by rfl, ?_⟩) (by assumption) ?_
    rotate_left
    · (intro wS hSw; (try dsimp only at hSw); go_simp; (try with_reducible rfl))
    (try simp only [Act.put, List.setIfInBounds_toArray, List.set_cons_zero, List.set_cons_succ])
    refine wpAnyH_take (i := 4) (v := ?_) rfl (by kernel_rfl) (by kernel_rfl) (by kernel_rfl) (fun _ _ _ h => h) (Or.inl ⟨by rfl, ?_⟩) (by assumption) ?_
    rotate_left
    · (intro wS hSw; (try dsimp only at hSw); go_simp; (try with_reducible rfl))
    (try simp only [Act.put, List.setIfInBounds_toArray, List.set_cons_zero, List.set_cons_succ])
    refine wpAnyH_take (i := 5) (v := ?_) rfl (by kernel_rfl) (by kernel_rfl) (by kernel_rfl) (fun _ _ _ h => h) (Or.inl ⟨by rfl, ?_⟩) (by assumption) ?_
    rotate_left
    · (intro wS hSw; (try dsimp only at hSw); go_simp; (try with_reducible rfl))
    (try simp only [Act.put, List.setIfInBounds_toArray, List.set_cons_zero, List.set_cons_succ])
    refine wpAnyH_take (i := 6) (v := ?_) rfl (by kernel_rfl) (by kernel_rfl) (by kernel_rfl) (fun _ _ _ h => h) (Or.inl ⟨by rfl, ?_⟩) (by assumption) ?_
    rotate_left
    · (intro wS hSw; (try dsimp only at hSw); go_simp; (try with_reducible rfl))
    (try simp only [Act.put, List.setIfInBounds_toArray, List.set_cons_zero, List.set_cons_succ])
    refine wpAnyH_take (i := 7) (v := ?_) rfl (by kernel_rfl) (by kernel_rfl) (by kernel_rfl) (fun _ _ _ h => h) (Or.inl ⟨by rfl, ?_⟩) (by assumption) ?_
    rotate_left
    · (intro wS hSw; (try dsimp only at hSw); go_simp; (try with_reducible rfl))
    (try simp only [Act.put, List.setIfInBounds_toArray, List.set_cons_zero, List.set_cons_succ])
    refine wpAnyH_take (i := 8) (v := ?_) rfl (by kernel_rfl) (by kernel_rfl) (by kernel_rfl) (fun _ _ _ h => h) (Or.inl ⟨by rfl, ?_⟩) (by assumption) ?_
    rotate_left
    · (intro wS hSw; (try dsimp only at hSw); go_simp; (try with_reducible rfl))
    (try simp only [Act.put, List.setIfInBounds_toArray, List.set_cons_zero, List.set_cons_succ])
    refine wpAnyH_take (i := 9) (v := ?_) rfl (by kernel_rfl) (by kernel_rfl) (by kernel_rfl) (fun _ _ _ h => h) (Or.inl ⟨by rfl, ?_⟩) (by assumption) ?_
    rotate_left
    · (intro wS hSw; (try dsimp only at hSw); go_simp; (try with_reducible rfl))
    (try simp only [Act.put, List.setIfInBounds_toArray, List.set_cons_zero, List.set_cons_succ])
    refine wpAnyH_take (i := 10) (v := ?_) rfl (by kernel_rfl) (by kernel_rfl) (by kernel_rfl) (fun _ _ _ h => h) (Or.inl ⟨by rfl, ?_⟩) (by assumption) ?_
    rotate_left
    · (intro wS hSw; (try dsimp only at hSw); go_simp; (try with_reducible rfl))
    (try simp only [Act.put, List.setIfInBounds_toArray, List.set_cons_zero, List.set_cons_succ])
    refine wpAnyH_ready (rs := [2]) (by kernel_rfl) (by simp) ?_
    refine AllReadyH.cons rfl (fun K hK => ?_) AllReadyH.nil
    go_simp
    go_at_call 24
    refine (HCH.out _ _).mono ?_
    rintro e w2 ⟨hq, vs, set, rfl, hset, hrs⟩
    dsimp only
    have z0 := (hq.cell (p := ⟨w.heap.size, 0, none⟩) (show w.heap.size < w1.heap.size by omega)).trans hHeld.1
    have z1 := (hq.cell (p := ⟨w.heap.size, 1, none⟩) (show w.heap.size < w1.heap.size by omega)).trans hHeld.2.1
    have z2 := (hq.cell (p := ⟨w.heap.size, 2, none⟩) (show w.heap.size < w1.heap.size by omega)).trans hHeld.2.2
    refine hK.out _ _ ⟨z0, z1, z2⟩ (fun hHeld2 => ?_)
    clear hK K
    (try simp only [Act.put, List.setIfInBounds_toArray, List.set_cons_zero, List.set_cons_succ])
    refine wpAnyH_take (i := 11) (v := ?_) rfl (by kernel_rfl) (by kernel_rfl) (by kernel_rfl) (fun _ _ _ h => h) (Or.inl ⟨by rfl, ?_⟩) (by assumption) ?_
    rotate_left
    · (intro wS hSw; (try dsimp only at hSw); go_simp; (try with_reducible rfl))
    (try simp only [Act.put, List.setIfInBounds_toArray, List.set_cons_zero, List.set_cons_succ])
    refine wpAnyH_take (i := 12) (v := ?_) rfl (by kernel_rfl) (by kernel_rfl) (by kernel_rfl) (fun _ _ _ h => h) (Or.inl ⟨by rfl, ?_⟩) (by assumption) ?_
    rotate_left
    · (intro wS hSw; (try dsimp only at hSw); go_simp; (try with_reducible rfl))
    (try simp only [Act.put, List.setIfInBounds_toArray, List.set_cons_zero, List.set_cons_succ])
    refine wpAnyH_take (i := 13) (v := ?_) rfl (by kernel_rfl) (by kernel_rfl) (by kernel_rfl) (fun _ _ _ h => h) (Or.inl ⟨by rfl, ?_⟩) (by assumption) ?_
    rotate_left
    · (intro wS hSw; (try dsimp only at hSw); go_simp; (try with_reducible rfl))
    (try simp only [Act.put, List.setIfInBounds_toArray, List.set_cons_zero, List.set_cons_succ])
    refine wpAnyH_done (by kernel_rfl) ?_ _
    (try simp only [List.getElem_toArray, List.getElem_cons_zero, List.getElem_cons_succ, Act.put, List.setIfInBounds_toArray, List.set_cons_zero, List.set_cons_succ])
    clear hHeld hHeld2 z0 z1 z2 x0 x1 x2
    rw [HNZ.out]
    rw [HSI.out]
    obtain ⟨sa, sc, rfl, hsle⟩ := hrs.slice
    obtain ⟨ms, hms⟩ : ∃ ms, ms = set.length := ⟨_, rfl⟩
    rw [← hms] at hrs hsle ⊢
    have s2 := S1.out.drew.trans (hq.mono S1.out.size)
    have hr2 := HR1.out.drew.below hq (Nat.le_refl _)
    have hrb2 := HRB1.out.drew.below hq (Nat.le_refl _)
    have k2 := C0.out.drew.keep hq
    have hst := HST.out set (.slice sa set.length sc)
    have hde := HDE.out set (.slice sa set.length sc)
    have hend := HEND.out set hset
    have hdsz := HDSZ.out set
    rw [← hms] at hst hde
    obtain ⟨i0, hi, hz0, hz1', hz2'⟩ := info_parts infoZP
    have HMS := Lib.hid hms; clear hms
    have HST2 := Lib.hid hst; clear hst
    have HDE2 := Lib.hid hde; clear hde
    have HEND2 := Lib.hid hend; clear hend
    have HDSZ2 := Lib.hid hdsz; clear hdsz
    have S2 := Lib.hid s2; clear s2
    have HR2 := Lib.hid hr2; clear hr2
    have HRB2 := Lib.hid hrb2; clear hrb2
    have HRS2 := Lib.hid hrs; clear hrs
    have D0 := Lib.hid k2; clear k2
    have HSET := Lib.hid hset; clear hset
    clear hq
    go_wp2_with fail
    obtain ⟨we, hwe⟩ : ∃ we : World, we = w2 := ⟨_, rfl⟩
    rw [← hwe]
    have S2e := S2.out
    have HR2e := HR2.out
    have HRB2e := HRB2.out
    have HRS2e := HRS2.out
    have D0e := D0.out
    rw [← hwe] at S2e HR2e HRB2e HRS2e D0e
    clear hwe S2 HR2 HRB2 HRS2 D0
    have hge : w.heap.size < we.heap.size := D0e.lt
    have S3 := Lib.hid S2e; clear S2e
    have HR3 := Lib.hid HR2e; clear HR2e
    have HRB3 := Lib.hid HRB2e; clear HRB2e
    have HRS3 := Lib.hid HRS2e; clear HRS2e
    have D3 := Lib.hid D0e; clear D0e
    go_loopw [14, 47] (fun u i wr => ∃ j : Nat, j ≤ mb ∧ i = .int .i64 j ∧ wr.ownsRow we.heap.size 26 2 u j (civ (zb (bs.take j))) ∧ Below we.heap.size we wr) (fun _ i _ => mb - (intOf i).toNat)
    case atStart => exact ⟨0, Nat.zero_le _, rfl, World.ownsRow_nil _ _ _ _, Below.refl _ _⟩
    case round =>
      obtain ⟨j, hj, rfl, hown, hbel⟩ := hrel
      have hsz : we.heap.size ≤ wr.heap.size := hbel.size
      by_cases hlt : j < mb
      · obtain ⟨c, hc⟩ : ∃ c, bs[j]? = some c := ⟨bs[j]'(by rw [← HMB.out]; exact hlt), List.getElem?_eq_getElem _⟩
        obtain ⟨b1, o1, rfl, hb1, hbc⟩ := HRB3.out.at_ (by omega)
        have hbj := (hbel.cell (p := ⟨b1, o1 + j, none⟩) hb1).trans (hbc _ _ (cb_at hc))
        obtain ⟨a, cap, rfl⟩ := own_slice hown
        have hz2 := zb_snoc hc
        have hwc : IntKind.i64.wrap (c.toNat : Int) = (c.toNat : Int) := IntWalk.i64_in _ (by have := c.toNat_lt; omega)
        have hix1 : (0 : Int) ≤ (j : Int) := by omega
        have hix2 : (j : Int) < (mb : Int) := by omega
        have HO := Lib.hid hown; clear hown
        have HB := Lib.hid hbel; clear hbel
        have HZ2 := Lib.hid hz2; clear hz2
        clear hc hbc
        go_wp2_with fail
        go_at_call 18
        refine (HOF.out c _).mono ?_
        rintro e w2 ⟨hq2, rfl⟩
        have ho2 := own_below HO.out hq2
        have hb2 := HB.out.trans (hq2.mono HB.out.size)
        have hsz2 : we.heap.size ≤ w2.heap.size := hb2.size
        have HO2 := Lib.hid ho2; clear ho2
        have HB2 := Lib.hid hb2; clear hb2
        clear hq2
        go_wp2_with (at_builtin; refine wpList_append_lies _ rfl (.tmp 51) (.tmp 55) 51 rfl we.heap.size 26 i0 _ 2 24 Try.underlying51 hi hz0 hz1' hz2' rfl (by decide) _ _ _ rfl (HO2.out.alloc _) _ 1 1 [.bool (ineg (c.toNat : Int)), .string (imag (c.toNat : Int))] rfl rfl (World.news_of_block (heap_alloc_new _ _)) (by simp [Value.oneCell']) (by omega) (by unfold maxLen; omega) (by omega) (by simp; omega) _ rfl ?_; intro g cap' w3 hown' hg hat hlt'; have HG := Lib.hid hg; clear hg; have HO4 := Lib.hid hown'; clear hown'; have HAT := Lib.hid hat; clear hat)
        go_roundw
        case rel =>
          refine ⟨j + 1, by omega, by go_num, ?_, (HB2.out.alloc hsz2 _).grown HG.out (by simp; omega) (fun k hk => (HO2.out.lt k hk).1)⟩
          rw [HZ2.out]; exact HO4.out
        case measure => simp [intOf]; omega
      · obtain rfl : j = mb := by omega
        have htk : bs.take j = bs := List.take_of_length_le (by rw [← HMB.out]; exact Nat.le_refl _)
        rw [htk] at hown
        have hrl := own_row hown
        have s4 := S3.out.trans (hbel.mono S3.out.size)
        have hr4 := HR3.out.below hbel (Nat.le_refl _)
        have hrs4 := HRS3.out.below hbel (Nat.le_refl _)
        have k4 := D3.out.keep hbel
        have x0 := k4.cell (j := 0) rfl
        have x1 := k4.cell (j := 1) rfl
        have x2 := k4.cell (j := 2) rfl
        obtain ⟨la, lc, rfl⟩ := own_slice hown
        obtain ⟨R, hR⟩ : ∃ R, R = strm es (pin set) N [] (s0 : Int) (zb bs) := ⟨_, rfl⟩
        have hst5 := HST2.out (.slice la j lc) (.slice va mm vc) wr HSET.out hr4 hrs4 hrl
        rw [← hR] at hst5
        have hj0 : R = none → (0 : Int) < (j : Int) := fun h => by
          rcases Nat.eq_zero_or_pos j with h0 | h0
          · rw [h0] at HMB
            have hbs : bs = [] := List.length_eq_zero_iff.1 HMB.out.symm
            rw [hbs, h] at hR
            cases hR
          · omega
        have D4 := Lib.hid k4; clear k4
        have S4 := Lib.hid s4; clear s4
        have HR4 := Lib.hid hr4; clear hr4
        have HRS4 := Lib.hid hrs4; clear hrs4
        have HRL := Lib.hid hrl; clear hrl
        have HST5 := Lib.hid hst5; clear hst5
        have HR0 := Lib.hid hR; clear hR
        clear hown hbel htk
        go_wp2_with fail
        go_at_call 25
        refine HST5.out.mono ?_
        rintro e w5 ⟨hq, rfl⟩
        have s5 := S4.out.trans (hq.mono S4.out.size)
        clear x0 x1 x2
        cases R with
        | none =>
          have hj1 := hj0 rfl
          have S5 := Lib.hid s5; clear s5
          clear hq hj0
          simp only [strV]
          go_wp2_with fail
          go_at_call 11
          refine (HAW.out _).mono ?_
          rintro e w6 ⟨hq, rfl⟩
          have s6 := S5.out.trans (hq.mono S5.out.size)
          have S6 := Lib.hid s6; clear s6
          clear hq
          go_wp2_with fail
          go_ret
          exact ⟨S6.out, rfl⟩
        | some R =>
          obtain ⟨W, t⟩ := R
          have hpre := strm_pre _ _ _ _ _ HR0.out.symm
          obtain ⟨us, hus⟩ : ∃ us : ByteArray, us = ⟨W.toArray⟩ := ⟨_, rfl⟩
          have hul : us.size = j * N := by
            obtain ⟨r, h1, h2⟩ := hpre
            rw [zb_length, ← HMB.out] at h2
            rw [hus, ← h2, h1]
            rfl
          have hmul : (N : Int) * (j : Int) = (us.size : Int) := by rw [hul]; push_cast; rw [Int.mul_comm]
          have huw : IntKind.i64.wrap (us.size : Int) = (us.size : Int) := IntWalk.i64_in _ (by have h1 := Nat.mul_le_mul hbl hN8; omega)
          have hr5 := HR4.out.below hq (Nat.le_refl _)
          have hrs5 := HRS4.out.below hq (Nat.le_refl _)
          have hrl5 := HRL.out.below hq (Nat.le_refl _)
          have tk := D4.out.keep hq; have x0 := tk.cell (j := 0) rfl; have x1 := tk.cell (j := 1) rfl; have x2 := tk.cell (j := 2) rfl; have D5 := Lib.hid tk; clear tk
          simp only [strV, ← hus]
          have S5 := Lib.hid s5; clear s5
          have HR5 := Lib.hid hr5; clear hr5
          have HRS5 := Lib.hid hrs5; clear hrs5
          have HRL5 := Lib.hid hrl5; clear hrl5
          have HUS := Lib.hid hus; clear hus
          clear hq hj0 hpre hul
          go_wp2_with fail
          obtain ⟨wf, hwf⟩ : ∃ wf : World, wf = w5 := ⟨_, rfl⟩
          rw [← hwf] at S5 HR5 HRS5 HRL5 D5 x0 x1 x2 ⊢
          clear hwf
          have hgf : w.heap.size < wf.heap.size := D5.out.lt
          go_loopw [12, 97] (fun s i wr => ∃ (q : Nat) (acc : List UInt8) (sq : Nat), q ≤ j ∧ i = .int .i64 q ∧ s = .int .i64 sq ∧ sq < k ∧ acc.length = q * N ∧ strm es (pin set) N acc (sq : Int) (zb (bs.drop q)) = some (W, t) ∧ Below wf.heap.size wf wr) (fun _ i _ => j - (intOf i).toNat)
          case atStart => exact ⟨0, [], s0, Nat.zero_le _, rfl, rfl, hs0, by simp, HR0.out.symm, Below.refl _ _⟩
          case round =>
            obtain ⟨q, acc, sq, hq, rfl, rfl, hsq, hal, hstr, hbel⟩ := hrel
            have k5 := D5.out.keep hbel
            have r5 := HR5.out.below hbel (Nat.le_refl _)
            have e5 := HRS5.out.below hbel (Nat.le_refl _)
            have l5 := HRL5.out.below hbel (Nat.le_refl _)
            have s6 := S5.out.trans (hbel.mono S5.out.size)
            clear x0 x1 x2
            by_cases hlt : q < j
            · obtain ⟨c, hc⟩ : ∃ c, bs[q]? = some c := ⟨bs[q]'(by rw [← HMB.out]; exact hlt), List.getElem?_eq_getElem _⟩
              have hdr : zb (bs.drop q) = (c.toNat : Int) :: zb (bs.drop (q + 1)) := by
                have hql := (List.getElem?_eq_some_iff.1 hc).1
                rw [List.drop_eq_getElem_cons hql, (List.getElem?_eq_some_iff.1 hc).2]
                rfl
              rw [hdr] at hstr
              obtain ⟨ha0, ha1, hnext, hblk⟩ := strm_step hstr
              obtain ⟨b1, o1, rfl, hb1, hbc⟩ := l5.at_ (by omega)
              have v0 := hbc _ _ (civ_get (zb_get hc)).1
              have v1 := hbc _ _ (civ_get (zb_get hc)).2
              rw [← Nat.add_assoc] at v1
              obtain ⟨P, hP⟩ : ∃ P, P = q * N := ⟨_, rfl⟩
              obtain ⟨P2, hP2⟩ : ∃ P2, P2 = (q + 1) * N := ⟨_, rfl⟩
              have hPi : (q : Int) * (N : Int) = (P : Int) := by rw [hP]; push_cast; rfl
              have hP2i : ((q : Int) + 1) * (N : Int) = (P2 : Int) := by rw [hP2]; push_cast; rfl
              have hPP : P2 = P + N := by rw [hP, hP2, Nat.add_mul, Nat.one_mul]
              have hPj : P2 ≤ us.size := by
                have h1 : P2 ≤ j * N := by rw [hP2]; exact Nat.mul_le_mul_right N hlt
                have h2 : ((us.size : Nat) : Int) = ((j * N : Nat) : Int) := by rw [← hmul]; push_cast; rw [Int.mul_comm]
                omega
              have huz : us.size ≤ 32 := by
                have h1 := Nat.mul_le_mul hbl hN8
                have h2 : ((us.size : Nat) : Int) = ((j * N : Nat) : Int) := by rw [← hmul]; push_cast; rw [Int.mul_comm]
                omega
              have hix1 : (0 : Int) ≤ (q : Int) := by omega
              have hix2 : (q : Int) < (j : Int) := by omega
              have hsl : us.extract P P2 = ⟨(ur es (pin set) N (sq : Int) (c.toNat : Int)).1.toArray⟩ := by
                rw [HUS.out, bytes_ext (by omega), show P2 - P = N by omega, hP, ← hal, hblk]
              have w1 : IntKind.i64.wrap (P : Int) = (P : Int) := IntWalk.i64_in _ (by omega)
              have w2 : IntKind.i64.wrap (P2 : Int) = (P2 : Int) := IntWalk.i64_in _ (by omega)
              have w3 : IntKind.i64.wrap ((q : Int) + 1) = (q : Int) + 1 := IntWalk.i64_in _ (by omega)
              have i1 : (P : Int) ≤ (P2 : Int) := by omega
              have i2 : (P2 : Int) ≤ (us.size : Int) := by omega
              have i3 : (0 : Int) ≤ (P : Int) := by omega
              have hdl := HDSZ2.out (sq : Int) (c.toNat : Int) ha0 ha1
              have hde6 := fun w' h h2 => HDE2.out (.slice va mm vc) w' HSET.out sq (c.toNat : Int) hsq ha0 ha1 h h2
              have hdz : ((⟨(ur es (pin set) N (sq : Int) (c.toNat : Int)).1.toArray⟩ : ByteArray).size : Int) = (N : Int) := by rw [show (⟨(ur es (pin set) N (sq : Int) (c.toNat : Int)).1.toArray⟩ : ByteArray).size = (ur es (pin set) N (sq : Int) (c.toNat : Int)).1.toArray.size from rfl, List.size_toArray, hdl]
              rw [hdz, ← hsl] at hde6
              obtain ⟨t', ht', hte, -⟩ := HEND2.out (sq : Int) (c.toNat : Int) ha0 ha1
              rw [hte] at hde6 hnext
              have hal' : (acc ++ (ur es (pin set) N (sq : Int) (c.toNat : Int)).1).length = (q + 1) * N := by rw [List.length_append, hal, hdl, Nat.add_mul, Nat.one_mul]
              obtain ⟨acc', hacc⟩ : ∃ acc', acc' = acc ++ (ur es (pin set) N (sq : Int) (c.toNat : Int)).1 := ⟨_, rfl⟩
              rw [← hacc] at hnext hal'
              obtain ⟨z, hz⟩ : ∃ z : Int, z = (c.toNat : Int) := ⟨_, rfl⟩
              rw [← hz] at v0 v1 hde6
              have HP := Lib.hid hP; clear hP
              have HP2 := Lib.hid hP2; clear hP2
              have HBC := Lib.hid hbc; clear hbc
              have HNEXT := Lib.hid hnext; clear hnext
              have HAL' := Lib.hid hal'; clear hal'
              have HDE6 := Lib.hid hde6; clear hde6
              clear hc hdr hstr hal ha0 ha1 hblk hPP hdl hdz hte hacc hsl l5 hz
              have k6 := k5.alloc (.cells #[.bool (ineg z), .string (imag z)] 26)
              have j6 := Blk.new wr 26 [.bool (ineg z), .string (imag z)]
              have s7 := s6.alloc (by have := s6.size; omega) (.cells #[.bool (ineg z), .string (imag z)] 26)
              have hq6 : Below wr.heap.size wr (wr.alloc (.cells #[.bool (ineg z), .string (imag z)] 26)) := (Below.refl _ _).alloc (Nat.le_refl _) _
              have hb7 := hbel.trans (hq6.mono hbel.size)
              have r6 := r5.below hq6 (Nat.le_refl _)
              have e6 := e5.below hq6 (Nat.le_refl _)
              have K6 := Lib.hid k6; clear k6
              have J6 := Lib.hid j6; clear j6
              have S7 := Lib.hid s7; clear s7
              have HB7 := Lib.hid hb7; clear hb7
              have R6 := Lib.hid r6; clear r6
              have E6 := Lib.hid e6; clear e6
              clear hq6 s6 r5 e5 k5
              go_wp2_with fail
              obtain ⟨wb, hwb⟩ : ∃ wb : World, wr.alloc (.cells #[.bool (ineg z), .string (imag z)] 26) = wb := ⟨_, rfl⟩
              rw [hwb] at K6 J6 S7 HB7 R6 E6 ⊢
              clear hwb
              have hgb : w.heap.size < wb.heap.size := K6.out.lt
              have x0 := K6.out.cell (j := 0) rfl
              have x1 := K6.out.cell (j := 1) rfl
              have x2 := K6.out.cell (j := 2) rfl
              clear v0 v1
              go_cut [22, 23, 24] (fun sp sn se wx => ∃ i, sp = .pointer (some ⟨i, 0, none⟩) ∧ sn = .int .i64 (t' : Int) ∧ se = .int .i64 0 ∧ Below wb.heap.size wb wx ∧ Blk wx i 26 [.bool (ineg z), .string (imag z)])
              case first =>
                  refine wp_region_held_drew (S := fun w' => w'.cell? ⟨w.heap.size, 0, none⟩ = some (.int .i64 (l : Int)) ∧ w'.cell? ⟨w.heap.size, 1, none⟩ = some (.int .i64 (k : Int)) ∧ w'.cell? ⟨w.heap.size, 2, none⟩ = some (.slice va mm vc)) (by kernel_rfl) ?_ (fun hHeld => ?_)
                  · go_keep
                  refine wpAnyH_take (i := 0) (v := ?_) rfl (by kernel_rfl) (by kernel_rfl) (by kernel_rfl) (fun _ _ _ h => h) (Or.inl ⟨by kernel_rfl, ?_⟩) (by assumption) ?_
                  rotate_left
                  · (intro wS hSw; (try dsimp only at hSw); go_simp; (try with_reducible rfl))
                  (try simp only [Act.put, List.setIfInBounds_toArray, List.set_cons_zero, List.set_cons_succ])
                  refine wpAnyH_take (i := 1) (v := ?_) rfl (by kernel_rfl) (by kernel_rfl) (by kernel_rfl) (fun _ _ _ h => h) (Or.inl ⟨by kernel_rfl, ?_⟩) (by assumption) ?_
                  rotate_left
                  · (intro wS hSw; (try dsimp only at hSw); go_simp; (try with_reducible rfl))
                  (try simp only [Act.put, List.setIfInBounds_toArray, List.set_cons_zero, List.set_cons_succ])
                  refine wpAnyH_take (i := 2) (v := ?_) rfl (by kernel_rfl) (by kernel_rfl) (by kernel_rfl) (fun _ _ _ h => h) (Or.inl ⟨by kernel_rfl, ?_⟩) (by assumption) ?_
                  rotate_left
                  · (intro wS hSw; (try dsimp only at hSw); go_simp; (try with_reducible rfl))
                  (try simp only [Act.put, List.setIfInBounds_toArray, List.set_cons_zero, List.set_cons_succ])
                  refine wpAnyH_take (i := 3) (v := ?_) rfl (by kernel_rfl) (by kernel_rfl) (by kernel_rfl) (fun _ _ _ h => h) (Or.inl ⟨by kernel_rfl, ?_⟩) (by assumption) ?_
                  rotate_left
                  · (intro wS hSw; (try dsimp only at hSw); go_simp; (try with_reducible rfl))
                  (try simp only [Act.put, List.setIfInBounds_toArray, List.set_cons_zero, List.set_cons_succ])
                  refine wpAnyH_take (i := 4) (v := ?_) rfl (by kernel_rfl) (by kernel_rfl) (by kernel_rfl) (fun _ _ _ h => h) (Or.inl ⟨by kernel_rfl, ?_⟩) (by assumption) ?_
                  rotate_left
                  · (intro wS hSw; (try dsimp only at hSw); go_simp; (try with_reducible rfl))
                  (try simp only [Act.put, List.setIfInBounds_toArray, List.set_cons_zero, List.set_cons_succ])
                  refine wpAnyH_take (i := 5) (v := ?_) rfl (by kernel_rfl) (by kernel_rfl) (by kernel_rfl) (fun _ _ _ h => h) (Or.inl ⟨by kernel_rfl, ?_⟩) (by assumption) ?_
                  rotate_left
                  · (intro wS hSw; (try dsimp only at hSw); go_simp; (try with_reducible rfl))
                  (try simp only [Act.put, List.setIfInBounds_toArray, List.set_cons_zero, List.set_cons_succ])
                  refine wpAnyH_take (i := 6) (v := ?_) rfl (by kernel_rfl) (by kernel_rfl) (by kernel_rfl) (fun _ _ _ h => h) (Or.inl ⟨by kernel_rfl, ?_⟩) (by assumption) ?_
                  rotate_left
                  · (intro wS hSw; (try dsimp only at hSw); go_simp; (try with_reducible rfl))
                  (try simp only [Act.put, List.setIfInBounds_toArray, List.set_cons_zero, List.set_cons_succ])
                  refine wpAnyH_take (i := 7) (v := ?_) rfl (by kernel_rfl) (by kernel_rfl) (by kernel_rfl) (fun _ _ _ h => h) (Or.inl ⟨by kernel_rfl, ?_⟩) (by assumption) ?_
                  rotate_left
                  · (intro wS hSw; (try dsimp only at hSw); go_simp; (try with_reducible rfl))
                  (try simp only [Act.put, List.setIfInBounds_toArray, List.set_cons_zero, List.set_cons_succ])
                  refine wpAnyH_take (i := 8) (v := ?_) rfl (by kernel_rfl) (by kernel_rfl) (by kernel_rfl) (fun _ _ _ h => h) (Or.inl ⟨by kernel_rfl, ?_⟩) (by assumption) ?_
                  rotate_left
                  · (intro wS hSw; (try dsimp only at hSw); go_simp; (try with_reducible rfl))
                  (try simp only [Act.put, List.setIfInBounds_toArray, List.set_cons_zero, List.set_cons_succ])
                  refine wpAnyH_take (i := 9) (v := ?_) rfl (by kernel_rfl) (by kernel_rfl) (by kernel_rfl) (fun _ _ _ h => h) (Or.inl ⟨by kernel_rfl, ?_⟩) (by assumption) ?_
                  rotate_left
                  · (intro wS hSw; (try dsimp only at hSw); go_simp; (try with_reducible rfl))
                  (try simp only [Act.put, List.setIfInBounds_toArray, List.set_cons_zero, List.set_cons_succ])
                  refine wpAnyH_take (i := 10) (v := ?_) rfl (by kernel_rfl) (by kernel_rfl) (by kernel_rfl) (fun _ _ _ h => h) (Or.inl ⟨by kernel_rfl, ?_⟩) (by assumption) ?_
                  rotate_left
                  · (intro wS hSw; (try dsimp only at hSw); go_simp; (try with_reducible rfl))
                  (try simp only [Act.put, List.setIfInBounds_toArray, List.set_cons_zero, List.set_cons_succ])
                  refine wpAnyH_take (i := 11) (v := ?_) rfl (by kernel_rfl) (by kernel_rfl) (by kernel_rfl) (fun _ _ _ h => h) (Or.inl ⟨by kernel_rfl, ?_⟩) (by assumption) ?_
                  rotate_left
                  · (intro wS hSw; (try dsimp only at hSw); go_simp; (try with_reducible rfl))
                  (try simp only [Act.put, List.setIfInBounds_toArray, List.set_cons_zero, List.set_cons_succ])
                  refine wpAnyH_take (i := 12) (v := ?_) rfl (by kernel_rfl) (by kernel_rfl) (by kernel_rfl) (fun _ _ _ h => h) (Or.inl ⟨by kernel_rfl, ?_⟩) (by assumption) ?_
                  rotate_left
                  · (intro wS hSw; (try dsimp only at hSw); go_simp; (try with_reducible rfl))
                  (try simp only [Act.put, List.setIfInBounds_toArray, List.set_cons_zero, List.set_cons_succ])
                  refine wpAnyH_ready (rs := [13, 18]) (by kernel_rfl) (by simp) ?_
                  refine AllReadyH.cons rfl (fun K hK => ?_) (AllReadyH.cons rfl (fun K hK => ?_) AllReadyH.nil)
                  · go_simp
                    go_at_call 26
                    refine (HDE6.out _ (R6.out.below ((Below.refl wb.heap.size wb).drew) (Nat.le_refl _)) (E6.out.below ((Below.refl wb.heap.size wb).drew) (Nat.le_refl _))).mono ?_
                    rintro e wq1 ⟨hq, rfl⟩
                    dsimp only
                    have z0 := (hq.cell (p := ⟨w.heap.size, 0, none⟩) (show w.heap.size < wb.heap.size by omega)).trans hHeld.1
                    have z1 := (hq.cell (p := ⟨w.heap.size, 1, none⟩) (show w.heap.size < wb.heap.size by omega)).trans hHeld.2.1
                    have z2 := (hq.cell (p := ⟨w.heap.size, 2, none⟩) (show w.heap.size < wb.heap.size by omega)).trans hHeld.2.2
                    refine hK.out _ _ ⟨z0, z1, z2⟩ (fun hHeld => ?_)
                    clear hK K
                    (try simp only [Act.put, List.setIfInBounds_toArray, List.set_cons_zero, List.set_cons_succ])
                    have s5 := ((Below.refl wb.heap.size wb).drew).trans (hq.mono ((Below.refl wb.heap.size wb).drew).size)
                    have l5 : wb.heap.size ≤ wq1.heap.size := s5.size
                    have Swq1 := Lib.hid s5; clear s5
                    clear hq z0 z1 z2
                    refine wpAnyH_take (i := 14) (v := ?_) rfl (by kernel_rfl) (by kernel_rfl) (by kernel_rfl) (fun _ _ _ h => h) (Or.inl ⟨by kernel_rfl, ?_⟩) (by assumption) ?_
                    rotate_left
                    · (intro wS hSw; (try dsimp only at hSw); go_simp; (try with_reducible rfl))
                    (try simp only [Act.put, List.setIfInBounds_toArray, List.set_cons_zero, List.set_cons_succ])
                    refine wpAnyH_take (i := 15) (v := ?_) rfl (by kernel_rfl) (by kernel_rfl) (by kernel_rfl) (fun _ _ _ h => h) (Or.inl ⟨by kernel_rfl, ?_⟩) (by assumption) ?_
                    rotate_left
                    · (intro wS hSw; (try dsimp only at hSw); go_simp; (try with_reducible rfl))
                    (try simp only [Act.put, List.setIfInBounds_toArray, List.set_cons_zero, List.set_cons_succ])
                    refine wpAnyH_take (i := 16) (v := ?_) rfl (by kernel_rfl) (by kernel_rfl) (by kernel_rfl) (fun _ _ _ h => h) (Or.inl ⟨by kernel_rfl, ?_⟩) (by assumption) ?_
                    rotate_left
                    · (intro wS hSw; (try dsimp only at hSw); go_simp; (try with_reducible rfl))
                    (try simp only [Act.put, List.setIfInBounds_toArray, List.set_cons_zero, List.set_cons_succ])
                    refine wpAnyH_take (i := 17) (v := ?_) rfl (by kernel_rfl) (by kernel_rfl) (by kernel_rfl) (fun _ _ _ h => h) (Or.inl ⟨by kernel_rfl, ?_⟩) (by assumption) ?_
                    rotate_left
                    · (intro wS hSw; (try dsimp only at hSw); go_simp; (try with_reducible rfl))
                    (try simp only [Act.put, List.setIfInBounds_toArray, List.set_cons_zero, List.set_cons_succ])
                    refine wpAnyH_ready (rs := [18]) (by kernel_rfl) (by simp) ?_
                    refine AllReadyH.cons rfl (fun K hK => ?_) AllReadyH.nil
                    go_simp
                    refine hK.out _ _ ?_ (fun hHeld => ?_)
                    · ((try dsimp only); go_keep)
                    clear hK K
                    (try simp only [Act.put, List.setIfInBounds_toArray, List.set_cons_zero, List.set_cons_succ])
                    have hbq : Below (wq1).heap.size (wq1) ((wq1).alloc (.cells #[.bool false, .string ⟨#[]⟩] 26)) := (Below.refl _ _).alloc (Nat.le_refl _) _
                    have a5 := Blk.new (wq1) 26 [.bool false, .string ⟨#[]⟩]
                    have g5 : (wq1).heap.size = wq1.heap.size := rfl
                    rw [g5] at a5
                    have s5 := (Swq1.out).trans (hbq.mono (Swq1.out).size)
                    obtain ⟨bAwq2, hba⟩ : ∃ ba, ba = wq1.heap.size := ⟨_, rfl⟩
                    have hanewq2 : wb.heap.size ≤ bAwq2 := by have := (Swq1.out).size; omega
                    rw [← hba] at a5
                    have e5 : (wq1).alloc (.cells #[.bool false, .string ⟨#[]⟩] 26) = (wq1).alloc (.cells #[.bool false, .string ⟨#[]⟩] 26) := rfl
                    rw [e5] at a5 s5 hbq
                    obtain ⟨wq2, hv5⟩ : ∃ wq2, (wq1).alloc (.cells #[.bool false, .string ⟨#[]⟩] 26) = wq2 := ⟨_, rfl⟩
                    rw [hv5] at hHeld a5 s5 hbq
                    have l5 : wb.heap.size ≤ wq2.heap.size := s5.size
                    have AAwq2 := Lib.hid a5; clear a5
                    have Swq2 := Lib.hid s5; clear s5
                    have hpa : (Value.pointer (some ⟨wq1.heap.size, 0, none⟩)) = Value.pointer (some ⟨bAwq2, 0, none⟩) := by rw [hba]
                    (try simp only [World.size_drew])
                    rw [hv5]
                    (try rw [hpa])
                    clear hbq hv5 hba hpa g5 e5
                    have a0 := (AAwq2.out).cell (j := 0) rfl
                    have a1 := (AAwq2.out).cell (j := 1) rfl
                    have f0 := (AAwq2.out).frozen 0
                    have f1 := (AAwq2.out).frozen 1
                    have hne : ¬ bAwq2 = w.heap.size := by omega
                    refine wpAnyH_ready (rs := [19]) (by kernel_rfl) (by simp) ?_
                    refine AllReadyH.cons rfl (fun K hK => ?_) AllReadyH.nil
                    go_simp
                    refine hK.out _ _ ?_ (fun hHeld => ?_)
                    · ((try dsimp only); go_keep)
                    clear hK K
                    (try simp only [Act.put, List.setIfInBounds_toArray, List.set_cons_zero, List.set_cons_succ])
                    refine wpAnyH_take (i := 20) (v := ?_) rfl (by kernel_rfl) (by kernel_rfl) (by kernel_rfl) (fun _ _ _ h => h) (Or.inl ⟨by kernel_rfl, ?_⟩) (by assumption) ?_
                    rotate_left
                    · (intro wS hSw; (try dsimp only at hSw); go_simp; (try with_reducible rfl))
                    (try simp only [Act.put, List.setIfInBounds_toArray, List.set_cons_zero, List.set_cons_succ])
                    refine wpAnyH_take (i := 21) (v := ?_) rfl (by kernel_rfl) (by kernel_rfl) (by kernel_rfl) (fun _ _ _ h => h) (Or.inl ⟨by kernel_rfl, ?_⟩) (by assumption) ?_
                    rotate_left
                    · (intro wS hSw; (try dsimp only at hSw); go_simp; (try with_reducible rfl))
                    (try simp only [Act.put, List.setIfInBounds_toArray, List.set_cons_zero, List.set_cons_succ])
                    refine wpAnyH_done (by kernel_rfl) ?_ _
                    (try simp only [List.getElem_toArray, List.getElem_cons_zero, List.getElem_cons_succ, Act.put, List.setIfInBounds_toArray, List.set_cons_zero, List.set_cons_succ])
                    have hA := ((AAwq2.out).set 0 (.bool (ineg z))).set 1 (.string (imag z))
                    have hS := ((Swq2.out).setCell (p := ⟨bAwq2, 0, none⟩) (show wb.heap.size ≤ bAwq2 by omega) (.bool (ineg z))).setCell (p := ⟨bAwq2, 1, none⟩) (show wb.heap.size ≤ bAwq2 by omega) (.string (imag z))
                    clear hHeld
                    go_wp2_with fail
                    go_meet
                    exact ⟨_, rfl, rfl, rfl, hS, hA⟩
                  · go_simp
                    refine hK.out _ _ ?_ (fun hHeld => ?_)
                    · ((try dsimp only); go_keep)
                    clear hK K
                    (try simp only [Act.put, List.setIfInBounds_toArray, List.set_cons_zero, List.set_cons_succ])
                    have hbq : Below (wb.drew).heap.size (wb.drew) ((wb.drew).alloc (.cells #[.bool false, .string ⟨#[]⟩] 26)) := (Below.refl _ _).alloc (Nat.le_refl _) _
                    have a5 := Blk.new (wb.drew) 26 [.bool false, .string ⟨#[]⟩]
                    have g5 : (wb.drew).heap.size = wb.heap.size := rfl
                    rw [g5] at a5
                    have s5 := ((Below.refl wb.heap.size wb).drew).trans (hbq.mono ((Below.refl wb.heap.size wb).drew).size)
                    obtain ⟨bAwq3, hba⟩ : ∃ ba, ba = wb.heap.size := ⟨_, rfl⟩
                    have hanewq3 : wb.heap.size ≤ bAwq3 := by have := ((Below.refl wb.heap.size wb).drew).size; omega
                    rw [← hba] at a5
                    have e5 : (wb.drew).alloc (.cells #[.bool false, .string ⟨#[]⟩] 26) = (wb.alloc (.cells #[.bool false, .string ⟨#[]⟩] 26)).drew := rfl
                    rw [e5] at a5 s5 hbq
                    obtain ⟨wq3, hv5⟩ : ∃ wq3, (wb.alloc (.cells #[.bool false, .string ⟨#[]⟩] 26)).drew = wq3 := ⟨_, rfl⟩
                    rw [hv5] at hHeld a5 s5 hbq
                    have l5 : wb.heap.size ≤ wq3.heap.size := s5.size
                    have AAwq3 := Lib.hid a5; clear a5
                    have Swq3 := Lib.hid s5; clear s5
                    have hpa : (Value.pointer (some ⟨wb.heap.size, 0, none⟩)) = Value.pointer (some ⟨bAwq3, 0, none⟩) := by rw [hba]
                    (try simp only [World.size_drew])
                    rw [hv5]
                    (try rw [hpa])
                    clear hbq hv5 hba hpa g5 e5
                    refine wpAnyH_ready (rs := [13]) (by kernel_rfl) (by simp) ?_
                    refine AllReadyH.cons rfl (fun K hK => ?_) AllReadyH.nil
                    go_simp
                    go_at_call 26
                    refine (HDE6.out _ (R6.out.below (Swq3.out) (Nat.le_refl _)) (E6.out.below (Swq3.out) (Nat.le_refl _))).mono ?_
                    rintro e wq4 ⟨hq, rfl⟩
                    dsimp only
                    have z0 := (hq.cell (p := ⟨w.heap.size, 0, none⟩) (show w.heap.size < wq3.heap.size by omega)).trans hHeld.1
                    have z1 := (hq.cell (p := ⟨w.heap.size, 1, none⟩) (show w.heap.size < wq3.heap.size by omega)).trans hHeld.2.1
                    have z2 := (hq.cell (p := ⟨w.heap.size, 2, none⟩) (show w.heap.size < wq3.heap.size by omega)).trans hHeld.2.2
                    refine hK.out _ _ ⟨z0, z1, z2⟩ (fun hHeld => ?_)
                    clear hK K
                    (try simp only [Act.put, List.setIfInBounds_toArray, List.set_cons_zero, List.set_cons_succ])
                    have s5 := (Swq3.out).trans (hq.mono (Swq3.out).size)
                    have l5 : wb.heap.size ≤ wq4.heap.size := s5.size
                    have a5 := (AAwq3.out).keep hq
                    have AAwq4 := Lib.hid a5; clear a5
                    have Swq4 := Lib.hid s5; clear s5
                    clear hq z0 z1 z2
                    refine wpAnyH_take (i := 14) (v := ?_) rfl (by kernel_rfl) (by kernel_rfl) (by kernel_rfl) (fun _ _ _ h => h) (Or.inl ⟨by kernel_rfl, ?_⟩) (by assumption) ?_
                    rotate_left
                    · (intro wS hSw; (try dsimp only at hSw); go_simp; (try with_reducible rfl))
                    (try simp only [Act.put, List.setIfInBounds_toArray, List.set_cons_zero, List.set_cons_succ])
                    refine wpAnyH_take (i := 15) (v := ?_) rfl (by kernel_rfl) (by kernel_rfl) (by kernel_rfl) (fun _ _ _ h => h) (Or.inl ⟨by kernel_rfl, ?_⟩) (by assumption) ?_
                    rotate_left
                    · (intro wS hSw; (try dsimp only at hSw); go_simp; (try with_reducible rfl))
                    (try simp only [Act.put, List.setIfInBounds_toArray, List.set_cons_zero, List.set_cons_succ])
                    refine wpAnyH_take (i := 16) (v := ?_) rfl (by kernel_rfl) (by kernel_rfl) (by kernel_rfl) (fun _ _ _ h => h) (Or.inl ⟨by kernel_rfl, ?_⟩) (by assumption) ?_
                    rotate_left
                    · (intro wS hSw; (try dsimp only at hSw); go_simp; (try with_reducible rfl))
                    (try simp only [Act.put, List.setIfInBounds_toArray, List.set_cons_zero, List.set_cons_succ])
                    refine wpAnyH_take (i := 17) (v := ?_) rfl (by kernel_rfl) (by kernel_rfl) (by kernel_rfl) (fun _ _ _ h => h) (Or.inl ⟨by kernel_rfl, ?_⟩) (by assumption) ?_
                    rotate_left
                    · (intro wS hSw; (try dsimp only at hSw); go_simp; (try with_reducible rfl))
                    (try simp only [Act.put, List.setIfInBounds_toArray, List.set_cons_zero, List.set_cons_succ])
                    have a0 := (AAwq4.out).cell (j := 0) rfl
                    have a1 := (AAwq4.out).cell (j := 1) rfl
                    have f0 := (AAwq4.out).frozen 0
                    have f1 := (AAwq4.out).frozen 1
                    have hne : ¬ bAwq3 = w.heap.size := by omega
                    refine wpAnyH_ready (rs := [19]) (by kernel_rfl) (by simp) ?_
                    refine AllReadyH.cons rfl (fun K hK => ?_) AllReadyH.nil
                    go_simp
                    refine hK.out _ _ ?_ (fun hHeld => ?_)
                    · ((try dsimp only); go_keep)
                    clear hK K
                    (try simp only [Act.put, List.setIfInBounds_toArray, List.set_cons_zero, List.set_cons_succ])
                    refine wpAnyH_take (i := 20) (v := ?_) rfl (by kernel_rfl) (by kernel_rfl) (by kernel_rfl) (fun _ _ _ h => h) (Or.inl ⟨by kernel_rfl, ?_⟩) (by assumption) ?_
                    rotate_left
                    · (intro wS hSw; (try dsimp only at hSw); go_simp; (try with_reducible rfl))
                    (try simp only [Act.put, List.setIfInBounds_toArray, List.set_cons_zero, List.set_cons_succ])
                    refine wpAnyH_take (i := 21) (v := ?_) rfl (by kernel_rfl) (by kernel_rfl) (by kernel_rfl) (fun _ _ _ h => h) (Or.inl ⟨by kernel_rfl, ?_⟩) (by assumption) ?_
                    rotate_left
                    · (intro wS hSw; (try dsimp only at hSw); go_simp; (try with_reducible rfl))
                    (try simp only [Act.put, List.setIfInBounds_toArray, List.set_cons_zero, List.set_cons_succ])
                    refine wpAnyH_done (by kernel_rfl) ?_ _
                    (try simp only [List.getElem_toArray, List.getElem_cons_zero, List.getElem_cons_succ, Act.put, List.setIfInBounds_toArray, List.set_cons_zero, List.set_cons_succ])
                    have hA := ((AAwq4.out).set 0 (.bool (ineg z))).set 1 (.string (imag z))
                    have hS := ((Swq4.out).setCell (p := ⟨bAwq3, 0, none⟩) (show wb.heap.size ≤ bAwq3 by omega) (.bool (ineg z))).setCell (p := ⟨bAwq3, 1, none⟩) (show wb.heap.size ≤ bAwq3 by omega) (.string (imag z))
                    clear hHeld
                    go_wp2_with fail
                    go_meet
                    exact ⟨_, rfl, rfl, rfl, hS, hA⟩
              case rest =>
                obtain ⟨i, rfl, rfl, rfl, hqc, hbi⟩ := hcut
                clear x0 x1 x2
                have tk := J6.out.keep hqc; have y0 := tk.cell (j := 0) rfl; have y1 := tk.cell (j := 1) rfl; have J7 := Lib.hid tk; clear tk
                have z0 := hbi.cell (j := 0) rfl
                have z1 := hbi.cell (j := 1) rfl
                have hb8 := HB7.out.trans (hqc.mono HB7.out.size)
                have hnx : ∀ (w : World), (binOp .neq 26 (.agg #[.bool (ineg z), .string (imag z)]) (.agg #[.bool (ineg z), .string (imag z)])).run Try.prog w = .ok (.bool false) w := fun w => neq_self _ w
                have HB8 := Lib.hid hb8; clear hb8
                clear hqc hbi
                go_wp2_with fail
                go_roundw
                case rel => exact ⟨q + 1, acc', t', by omega, by go_num, rfl, ht', HAL'.out, HNEXT.out, HB8.out⟩
                case measure => simp [intOf]; omega
            · obtain rfl : q = j := by omega
              have hst : (sq : Int) = t := by
                rw [show bs.drop q = [] from List.drop_eq_nil_iff.2 (by rw [← HMB.out]; exact Nat.le_refl _)] at hstr
                exact strm_nil hstr
              subst hst
              have S6 := Lib.hid s6; clear s6
              clear hbel k5 r5 e5 l5 hstr hal
              go_wp2_with fail
              go_at_call 11
              refine (HAW.out _).mono ?_
              rintro e w7 ⟨hq7, rfl⟩
              have s8 := S6.out.trans (hq7.mono S6.out.size)
              have S8 := Lib.hid s8; clear s8
              clear hq7
              go_wp2_with fail
              go_ret
              exact ⟨S8.out, rfl⟩
theorem lstr_all (L S : Int) (es : List E3) (v vb : Value) (bs : List UInt8) (nb aa nn : Nat) (w : World) (hr : Row w v es.length (ce es)) (hok : okEs es) (hrb : Row w vb bs.length (cb bs)) (haa : aa ≤ 255) (hnn : nn ≤ 255) (hnb : nb ≤ 65535) :
    Calls Try.prog 6 #[.agg #[.int .i64 L, .int .i64 S, v], .int .u16 (nb : Int), .int .u8 (aa : Int), .int .u8 (nn : Int), vb] w (Ret w (.bool true)) := by
  rcases Classical.em (FineP L S es) with hF | hF
  · rcases Nat.lt_or_ge 4 bs.length with hb | hb
    · exact lstr_bad L S es v vb bs nb aa nn w hr hok hrb (.inr hb)
    · obtain ⟨hE, hS, hL⟩ := hF
      have hca := chk_all (eck_zero hE).1
      obtain ⟨l, rfl⟩ : ∃ l : Nat, L = l := ⟨L.toNat, by omega⟩
      obtain ⟨k, rfl⟩ : ∃ k : Nat, S = k := ⟨S.toNat, by omega⟩
      exact lstr_go l k _ _ es v vb bs nb aa nn w hr hok hrb hE (by omega) rfl (by omega) rfl haa hnn hnb hb
  · exact lstr_bad L S es v vb bs nb aa nn w hr hok hrb (.inl hF)
end Go.Proofs.Ytalipfnbpnkgnaa
