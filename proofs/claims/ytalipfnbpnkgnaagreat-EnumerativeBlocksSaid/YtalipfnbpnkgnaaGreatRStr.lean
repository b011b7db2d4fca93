/- grooveref29.Stream at valid graphs, sets, states and lengths (printed by gen_rstr.py). -/
import Derived.Test.YtalipfnbpnkgnaaGreatPart14
import Derived.Test.YtalipfnbpnkgnaaGreatPart12
namespace Go.Proofs.YtalipfnbpnkgnaaGreat
open Go.RowKit

theorem str_app (a b : List UInt8) : (⟨a.toArray⟩ : ByteArray) ++ ⟨b.toArray⟩ = ⟨(a ++ b).toArray⟩ := by
  apply ByteArray.ext
  rw [ByteArray.data_append]
  simp
theorem rcks_zero {L : Int} {S : Nat} {es : List E3} {l : List Int} {s : Nat} (hE : eck L (S : Int) es = 0) (hl : SomeS S l) (hs : s < S) : rcks L (S : Int) es l (s : Int) = 0 := by
  unfold rcks
  rw [if_neg (by rw [hE]; simp), cset_ok l none hl.1 hl.2 (fun q h => by cases h), if_neg (by simp), if_neg (by omega)]
set_option maxRecDepth 100000 in
set_option maxHeartbeats 8000000 in
theorem rstr_ok (L : Int) (S s0 n : Nat) (es : List E3) (set l : List Int) (v vs vl : Value) (w : World) (hr : Row w v es.length (ce es)) (hrs : Row w vs set.length (ci set)) (hrl : Row w vl l.length (civ l)) (hE : eck L (S : Int) es = 0) (hset : SomeS S set) (hs0 : s0 < S) (hn : n ≤ 4096) (hl : l.length ≤ 4) (hsm : ∀ a ∈ l, small a) :
    Calls Tryz.prog 14 #[.agg #[.int .i64 L, .int .i64 (S : Int), v], vs, .int .i64 (s0 : Int), .int .i64 (n : Int), vl] w (Ret w (strV (strm es (pin set) n [] (s0 : Int) l))) := by
  obtain ⟨va, vc, rfl, hle⟩ := hr.slice
  obtain ⟨sa, sc, rfl, hsle⟩ := hrs.slice
  obtain ⟨la, lc, rfl, hlle⟩ := hrl.slice
  have hlen := asc_len hset
  have hca := chk_all (eck_zero hE).1
  have sb0 := (Below.refl w.heap.size w).alloc (Nat.le_refl _) (.cells #[.int .i64 L, .int .i64 (S : Int), .slice va es.length vc] 24)
  have b0 := Blk.new w 24 [.int .i64 L, .int .i64 (S : Int), .slice va es.length vc]
  have hr0 := hr.below sb0 (Nat.le_refl _)
  have hrs0 := hrs.below sb0 (Nat.le_refl _)
  have hrl0 := hrl.below sb0 (Nat.le_refl _)
  have hck := rcks_any L S (s0 : Int) es set _ _ _ hr0 hrs0 (by omega)
  rw [rcks_zero hE hset hs0] at hck
  have hcl : clen (n : Int) = 0 := by unfold clen; rw [if_neg (by omega)]
  have hln := fun w' => rclen_any (n : Int) w'
  rw [hcl] at hln
  have hic : ∀ a, small a → ∀ w', Calls Tryz.prog 46 #[.agg #[.bool (ineg a), .string (imag a)]] w' (Ret w' (.int .i64 0)) := fun a ha w' => by
    have h := rcheck01_any (ineg a) (imag a) w' ha
    rwa [show cnB (ineg a) (imag a) = true from cnB_canon a] at h
  have hen := fun (sk : Nat) (a : Int) w' (h : Row w' (.slice va es.length vc) es.length (ce es)) (h2 : Row w' (.slice sa set.length sc) set.length (ci set)) (hsk : sk < S) (ha : small a) => renc_ok L S sk n a es set (.slice va es.length vc) (.slice sa set.length sc) w' h h2 (fun v' vs' w'' h3 h4 => by have h5 := rcks_any L S (sk : Int) es set v' vs' w'' h3 h4 (by omega); rwa [rcks_zero hE hset hsk] at h5) hE hset hsk hn ha
  have hend := fun (s a : Int) => ur_end hE hset (n := n) (s := s) (a := a)
  have hul := fun (s a : Int) => ur_length (es := es) (p := pin set) n s a
  obtain ⟨R, hR⟩ : ∃ R, R = strm es (pin set) n [] (s0 : Int) l := ⟨_, rfl⟩
  rw [← hR]
  obtain ⟨mm, hmm⟩ : ∃ mm, mm = es.length := ⟨_, rfl⟩
  obtain ⟨ml, hml⟩ : ∃ ml, ml = l.length := ⟨_, rfl⟩
  obtain ⟨ms, hms⟩ : ∃ ms, ms = set.length := ⟨_, rfl⟩
  rw [← hmm] at sb0 b0 hr0 hrs0 hrl0 hck hle hen
  rw [← hms] at hrs0 hck hsle hen hlen
  rw [← hml] at hrl0 hl hlle
  have HMM := Lib.hid hmm; clear hmm
  have HML := Lib.hid hml; clear hml
  have HMS := Lib.hid hms; clear hms
  have HCK := Lib.hid hck; clear hck
  have HLN := Lib.hid hln; clear hln
  have HIC := Lib.hid hic; clear hic
  have HEN := Lib.hid hen; clear hen
  have HEND := Lib.hid hend; clear hend
  have HUL := Lib.hid hul; clear hul
  have HRR := Lib.hid hR; clear hR
  have HSM := Lib.hid hsm; clear hsm
  have S0 := Lib.hid sb0; clear sb0
  have B0 := Lib.hid b0; clear b0
  have HR := Lib.hid hr0; clear hr0
  have HRS := Lib.hid hrs0; clear hrs0
  have HRL := Lib.hid hrl0; clear hrl0
  clear hr hrs hrl hE hset hcl hca
  go_enter Tryz.func14, Tryz.ntmps14
  rw [← HMM.out, ← HMS.out, ← HML.out]
  go_wp2_with fail
  go_at_call 36
  refine HCK.out.mono ?_
  rintro e w1 ⟨hq, rfl⟩
  have s1 := S0.out.trans (hq.mono S0.out.size)
  have hr1 := HR.out.below hq (Nat.le_refl _)
  have hrs1 := HRS.out.below hq (Nat.le_refl _)
  have hrl1 := HRL.out.below hq (Nat.le_refl _)
  have tk := B0.out.keep hq; have x0 := tk.cell (j := 0) rfl; have x1 := tk.cell (j := 1) rfl; have x2 := tk.cell (j := 2) rfl; have C0 := Lib.hid tk; clear tk
  have S1 := Lib.hid s1; clear s1
  have HR1 := Lib.hid hr1; clear hr1
  have HRS1 := Lib.hid hrs1; clear hrs1
  have HRL1 := Lib.hid hrl1; clear hrl1
  clear hq
  go_wp2_with fail
  go_at_call 37
  refine (HLN.out _).mono ?_
  rintro e w2 ⟨hq, rfl⟩
  have s2 := S1.out.trans (hq.mono S1.out.size)
  have hr2 := HR1.out.below hq (Nat.le_refl _)
  have hrs2 := HRS1.out.below hq (Nat.le_refl _)
  have hrl2 := HRL1.out.below hq (Nat.le_refl _)
  have k2 := C0.out.keep hq
  clear x0 x1 x2
  have S2 := Lib.hid s2; clear s2
  have HR2 := Lib.hid hr2; clear hr2
  have HRS2 := Lib.hid hrs2; clear hrs2
  have HRL2 := Lib.hid hrl2; clear hrl2
  have D0 := Lib.hid k2; clear k2
  clear hq
  go_wp2_with fail
  go_loopw [15] (fun i wr => ∃ j : Nat, j ≤ ml ∧ i = .int .i64 j ∧ Below w2.heap.size w2 wr) (fun i _ => ml - (intOf i).toNat)
  case atStart => exact ⟨0, Nat.zero_le _, rfl, Below.refl _ _⟩
  case round =>
    obtain ⟨j, hj, rfl, hbel⟩ := hrel
    by_cases hlt : j < ml
    · have hjl : j < l.length := by rw [← HML.out]; exact hlt
      have hget : l[j]? = some (l[j]'hjl) := List.getElem?_eq_getElem _
      have hsj := HSM.out _ (List.getElem_mem hjl)
      obtain ⟨y, hy⟩ : ∃ y, y = l[j]'hjl := ⟨_, rfl⟩
      rw [← hy] at hget hsj
      have hrx := HRL2.out.below hbel (Nat.le_refl _)
      obtain ⟨b, off, rfl, hbw, hce⟩ := hrx.at_ (by omega)
      obtain ⟨c0, c1⟩ := int_cells hce (Below.refl wr.heap.size wr) hbw hget
      have hic2 := fun w' => HIC.out y hsj w'
      have hix : (0 : Int) ≤ (j : Int) := by omega
      have HIC2 := Lib.hid hic2; clear hic2
      have HBEL := Lib.hid hbel; clear hbel
      clear hce hget hy hrx hsj
      go_wp2_with fail
      go_at_call 46
      refine (HIC2.out _).mono ?_
      rintro e w3 ⟨hq, rfl⟩
      have s3 := HBEL.out.trans (hq.mono HBEL.out.size)
      have S3 := Lib.hid s3; clear s3
      clear hq c0 c1
      go_wp2_with fail
      go_roundw
      case rel => exact ⟨j + 1, by omega, by go_num, S3.out⟩
      case measure => simp [intOf]; omega
    · obtain rfl : j = ml := by omega
      have s3 := S2.out.trans (hbel.mono S2.out.size)
      have hr3 := HR2.out.below hbel (Nat.le_refl _)
      have hrs3 := HRS2.out.below hbel (Nat.le_refl _)
      have hrl3 := HRL2.out.below hbel (Nat.le_refl _)
      have k3 := D0.out.keep hbel
      obtain ⟨wo, rfl⟩ : ∃ wo : World, wo = wr := ⟨_, rfl⟩
      have S3 := Lib.hid s3; clear s3
      have HR3 := Lib.hid hr3; clear hr3
      have HRS3 := Lib.hid hrs3; clear hrs3
      have HRL3 := Lib.hid hrl3; clear hrl3
      have E0 := Lib.hid k3; clear k3
      clear hbel hlt hj
      go_wp2_with fail
      go_loopw [2, 16, 17] (fun sv ov iv wr => ∃ (q sk : Nat) (acc : List UInt8), q ≤ j ∧ iv = .int .i64 q ∧ sv = .int .i64 sk ∧ ov = .string ⟨acc.toArray⟩ ∧ sk < S ∧ acc.length = q * n ∧ Below wo.heap.size wo wr ∧ R = strm es (pin set) n acc (sk : Int) (l.drop q)) (fun _ _ i _ => j - (intOf i).toNat)
      case atStart => exact ⟨0, s0, [], Nat.zero_le _, rfl, rfl, rfl, hs0, by simp, Below.refl _ _, HRR.out⟩
      case round =>
        obtain ⟨q, sk, acc, hq, rfl, rfl, rfl, hsk, hacc, hbel, hst⟩ := hrel
        have haz : acc.length ≤ 16384 := by rw [hacc]; exact Nat.le_trans (Nat.mul_le_mul (show q ≤ 4 by omega) hn) (by decide)
        have hbw := S3.out.trans (hbel.mono S3.out.size)
        have HACC := Lib.hid hacc; clear hacc
        by_cases hlt : q < j
        · have hjl : q < l.length := by rw [← HML.out]; exact hlt
          have hget : l[q]? = some (l[q]'hjl) := List.getElem?_eq_getElem _
          have hsj := HSM.out _ (List.getElem_mem hjl)
          rw [List.drop_eq_getElem_cons hjl] at hst
          obtain ⟨y, hy⟩ : ∃ y, y = l[q]'hjl := ⟨_, rfl⟩
          rw [← hy] at hget hsj hst
          have hrx := HRL3.out.below hbel (Nat.le_refl _)
          obtain ⟨b, off, rfl, hbw2, hce⟩ := hrx.at_ (by omega)
          obtain ⟨c0, c1⟩ := int_cells hce (Below.refl wr.heap.size wr) hbw2 hget
          have k4 := E0.out.keep hbel
          have x0 := k4.cell (j := 0) rfl
          have x1 := k4.cell (j := 1) rfl
          have x2 := k4.cell (j := 2) rfl
          have hgr : w.heap.size < wr.heap.size := k4.lt
          have hen4 := HEN.out sk y wr.drew ((HR3.out.below hbel (Nat.le_refl _)).drew) ((HRS3.out.below hbel (Nat.le_refl _)).drew) hsk hsj
          have hix : (0 : Int) ≤ (q : Int) := by omega
          have hix2 : (q : Int) < (j : Int) := by omega
          obtain ⟨U, hU⟩ : ∃ U, U = ure es (pin set) n (sk : Int) y := ⟨_, rfl⟩
          rw [← hU] at hen4
          have HEN4 := Lib.hid hen4; clear hen4
          have HBEL := Lib.hid hbel; clear hbel
          have HBW := Lib.hid hbw; clear hbw
          clear hce hget hy hrx hsj k4
          go_wp2_with fail
          refine wp_region_held_drew (S := fun w' => w'.cell? ⟨w.heap.size, 0, none⟩ = some (.int .i64 L) ∧ w'.cell? ⟨w.heap.size, 1, none⟩ = some (.int .i64 (S : Int)) ∧ w'.cell? ⟨w.heap.size, 2, none⟩ = some (.slice va mm vc) ∧ w'.cell? ⟨b, off + q * 2, none⟩ = some (.bool (ineg y)) ∧ w'.cell? ⟨b, off + q * 2 + 1, none⟩ = some (.string (imag y))) (by kernel_rfl) ?_ (fun hHeld => ?_)
          · go_keep
          refine wpAnyH_take (i := 0) (v := ?_) rfl (by kernel_rfl) (by kernel_rfl) (by kernel_rfl) (fun _ _ _ h => h) (Or.inl ⟨by kernel_rfl, ?_⟩) (by assumption) ?_
          rotate_left
          · (intro wS hSw; (try dsimp only at hSw); go_simp; (try with_reducible rfl))
          (try simp only [Act.put, List.setIfInBounds_toArray, List.set_cons_zero, List.set_cons_succ])
          refine wpAnyH_take (i := 1) (v := ?_) rfl (by kernel_rfl) (by kernel_rfl) (by kernel_rfl) (fun _ _ _ h => h) (Or.inl ⟨by kernel_rfl, ?_⟩) (by assumption) ?_
          rotate_left
          · (intro wS hSw; (try dsimp only at hSw); go_simp; (try with_reducible rfl))
          (try simp only [Act.put, List.setIfInBounds_toArray, List.set_cons_zero, List.set_cons_succ])
          refine wpAnyH_take (i := 2) (v := ?_) rfl (by kernel_rfl) (by kernel_rfl) (by kernel_rfl) (fun _ _ _ h => h) (Or.inl ⟨by kernel_rfl, ?_⟩) (by assumption) ?_
          rotate_left
          · (intro wS hSw; (try dsimp only at hSw); go_simp; (try with_reducible rfl))
          (try simp only [Act.put, List.setIfInBounds_toArray, List.set_cons_zero, List.set_cons_succ])
          refine wpAnyH_take (i := 3) (v := ?_) rfl (by kernel_rfl) (by kernel_rfl) (by kernel_rfl) (fun _ _ _ h => h) (Or.inl ⟨by kernel_rfl, ?_⟩) (by assumption) ?_
          rotate_left
          · (intro wS hSw; (try dsimp only at hSw); go_simp; (try with_reducible rfl))
          (try simp only [Act.put, List.setIfInBounds_toArray, List.set_cons_zero, List.set_cons_succ])
          refine wpAnyH_take (i := 4) (v := ?_) rfl (by kernel_rfl) (by kernel_rfl) (by kernel_rfl) (fun _ _ _ h => h) (Or.inl ⟨by kernel_rfl, ?_⟩) (by assumption) ?_
          rotate_left
          · (intro wS hSw; (try dsimp only at hSw); go_simp; (try with_reducible rfl))
          (try simp only [Act.put, List.setIfInBounds_toArray, List.set_cons_zero, List.set_cons_succ])
          refine wpAnyH_take (i := 5) (v := ?_) rfl (by kernel_rfl) (by kernel_rfl) (by kernel_rfl) (fun _ _ _ h => h) (Or.inl ⟨by kernel_rfl, ?_⟩) (by assumption) ?_
          rotate_left
          · (intro wS hSw; (try dsimp only at hSw); go_simp; (try with_reducible rfl))
          (try simp only [Act.put, List.setIfInBounds_toArray, List.set_cons_zero, List.set_cons_succ])
          refine wpAnyH_take (i := 6) (v := ?_) rfl (by kernel_rfl) (by kernel_rfl) (by kernel_rfl) (fun _ _ _ h => h) (Or.inl ⟨by kernel_rfl, ?_⟩) (by assumption) ?_
          rotate_left
          · (intro wS hSw; (try dsimp only at hSw); go_simp; (try with_reducible rfl))
          (try simp only [Act.put, List.setIfInBounds_toArray, List.set_cons_zero, List.set_cons_succ])
          refine wpAnyH_take (i := 7) (v := ?_) rfl (by kernel_rfl) (by kernel_rfl) (by kernel_rfl) (fun _ _ _ h => h) (Or.inl ⟨by kernel_rfl, ?_⟩) (by assumption) ?_
          rotate_left
          · (intro wS hSw; (try dsimp only at hSw); go_simp; (try with_reducible rfl))
          (try simp only [Act.put, List.setIfInBounds_toArray, List.set_cons_zero, List.set_cons_succ])
          refine wpAnyH_ready (rs := [8]) (by kernel_rfl) (by simp) ?_
          refine AllReadyH.cons rfl (fun K hK => ?_) AllReadyH.nil
          go_simp
          go_at_call 16
          refine HEN4.out.mono ?_
          rintro e w5 ⟨hq5, rfl⟩
          dsimp only
          have z0 := (hq5.cell (p := ⟨w.heap.size, 0, none⟩) (show w.heap.size < wr.heap.size by omega)).trans hHeld.1
          have z1 := (hq5.cell (p := ⟨w.heap.size, 1, none⟩) (show w.heap.size < wr.heap.size by omega)).trans hHeld.2.1
          have z2 := (hq5.cell (p := ⟨w.heap.size, 2, none⟩) (show w.heap.size < wr.heap.size by omega)).trans hHeld.2.2.1
          have z3 := (hq5.cell (p := ⟨b, off + q * 2, none⟩) (show b < wr.heap.size by omega)).trans hHeld.2.2.2.1
          have z4 := (hq5.cell (p := ⟨b, off + q * 2 + 1, none⟩) (show b < wr.heap.size by omega)).trans hHeld.2.2.2.2
          refine hK.out _ _ ⟨z0, z1, z2, z3, z4⟩ (fun hHeld2 => ?_)
          clear hK K
          (try simp only [Act.put, List.setIfInBounds_toArray, List.set_cons_zero, List.set_cons_succ])
          have bel5 := HBEL.out.drew.trans (hq5.mono HBEL.out.size)
          have bw5 := HBW.out.drew.trans (hq5.mono HBW.out.size)
          have BEL5 := Lib.hid bel5; clear bel5
          have BW5 := Lib.hid bw5; clear bw5
          clear hq5 hHeld z0 z1 z2 z3 z4 x0 x1 x2 c0 c1
          cases U with
          | none =>
            have hR0 : R = none := by rw [hst, strm, ← hU]
            have HRN := Lib.hid hR0; clear hR0
            simp only [strV]
            refine wpAnyH_take (i := 9) (v := ?_) rfl (by kernel_rfl) (by kernel_rfl) (by kernel_rfl) (fun _ _ _ h => h) (Or.inl ⟨by kernel_rfl, ?_⟩) (by assumption) ?_
            rotate_left
            · (intro wS hSw; (try dsimp only at hSw); go_simp; (try with_reducible rfl))
            (try simp only [Act.put, List.setIfInBounds_toArray, List.set_cons_zero, List.set_cons_succ])
            refine wpAnyH_take (i := 10) (v := ?_) rfl (by kernel_rfl) (by kernel_rfl) (by kernel_rfl) (fun _ _ _ h => h) (Or.inl ⟨by kernel_rfl, ?_⟩) (by assumption) ?_
            rotate_left
            · (intro wS hSw; (try dsimp only at hSw); go_simp; (try with_reducible rfl))
            (try simp only [Act.put, List.setIfInBounds_toArray, List.set_cons_zero, List.set_cons_succ])
            refine wpAnyH_take (i := 11) (v := ?_) rfl (by kernel_rfl) (by kernel_rfl) (by kernel_rfl) (fun _ _ _ h => h) (Or.inl ⟨by kernel_rfl, ?_⟩) (by assumption) ?_
            rotate_left
            · (intro wS hSw; (try dsimp only at hSw); go_simp; (try with_reducible rfl))
            (try simp only [Act.put, List.setIfInBounds_toArray, List.set_cons_zero, List.set_cons_succ])
            refine wpAnyH_take (i := 12) (v := ?_) rfl (by kernel_rfl) (by kernel_rfl) (by kernel_rfl) (fun _ _ _ h => h) (Or.inl ⟨by kernel_rfl, ?_⟩) (by assumption) ?_
            rotate_left
            · (intro wS hSw; (try dsimp only at hSw); go_simp; (try with_reducible rfl))
            (try simp only [Act.put, List.setIfInBounds_toArray, List.set_cons_zero, List.set_cons_succ])
            refine wpAnyH_take (i := 13) (v := ?_) rfl (by kernel_rfl) (by kernel_rfl) (by kernel_rfl) (fun _ _ _ h => h) (Or.inl ⟨by kernel_rfl, ?_⟩) (by assumption) ?_
            rotate_left
            · (intro wS hSw; (try dsimp only at hSw); go_simp; (try with_reducible rfl))
            (try simp only [Act.put, List.setIfInBounds_toArray, List.set_cons_zero, List.set_cons_succ])
            refine wpAnyH_take (i := 14) (v := ?_) rfl (by kernel_rfl) (by kernel_rfl) (by kernel_rfl) (fun _ _ _ h => h) (Or.inl ⟨by kernel_rfl, ?_⟩) (by assumption) ?_
            rotate_left
            · (intro wS hSw; (try dsimp only at hSw); go_simp; (try with_reducible rfl))
            (try simp only [Act.put, List.setIfInBounds_toArray, List.set_cons_zero, List.set_cons_succ])
            refine wpAnyH_take (i := 15) (v := ?_) rfl (by kernel_rfl) (by kernel_rfl) (by kernel_rfl) (fun _ _ _ h => h) (Or.inl ⟨by kernel_rfl, ?_⟩) (by assumption) ?_
            rotate_left
            · (intro wS hSw; (try dsimp only at hSw); go_simp; (try with_reducible rfl))
            (try simp only [Act.put, List.setIfInBounds_toArray, List.set_cons_zero, List.set_cons_succ])
            refine wpAnyH_done (by kernel_rfl) ?_ _
            (try simp only [List.getElem_toArray, List.getElem_cons_zero, List.getElem_cons_succ, Act.put, List.setIfInBounds_toArray, List.set_cons_zero, List.set_cons_succ])
            clear hHeld2
            go_wp2_with fail
            go_ret3
            exact ⟨BW5.out, by rw [HRN.out]; rfl⟩
          | some U =>
            have hin : 0 ≤ y ∧ y < cw es (pin set) n (sk : Int) := by
              rcases Classical.em (0 ≤ y ∧ y < cw es (pin set) n (sk : Int)) with h | h
              · exact h
              · rw [ure, if_neg h] at hU; cases hU
            rw [ure, if_pos hin] at hU
            have hUe : U = ur es (pin set) n (sk : Int) y := by injection hU
            rw [strm_yes hin.1 hin.2, ← hUe] at hst
            have hln2 := HUL.out (sk : Int) y hin.1 hin.2
            obtain ⟨t, ht, hte, -⟩ := HEND.out (sk : Int) y hin.1 hin.2
            rw [← hUe] at hln2 hte
            obtain ⟨u, t2⟩ := U
            dsimp only at hln2 hte hst
            subst hte
            simp only [strV]
            have l4 : ¬ 9223372036854775807 < acc.length + u.length := by omega
            have l5 : (acc.length : Int) ≤ 65536 := by omega
            have hacc2 : (acc ++ u).length = (q + 1) * n := by rw [List.length_append, HACC.out, hln2, Nat.add_mul, Nat.one_mul]
            have HST := Lib.hid hst; clear hst
            have HACC2 := Lib.hid hacc2; clear hacc2
            clear hU hUe hln2
            refine wpAnyH_take (i := 9) (v := ?_) rfl (by kernel_rfl) (by kernel_rfl) (by kernel_rfl) (fun _ _ _ h => h) (Or.inl ⟨by kernel_rfl, ?_⟩) (by assumption) ?_
            rotate_left
            · (intro wS hSw; (try dsimp only at hSw); go_simp; (try with_reducible rfl))
            (try simp only [Act.put, List.setIfInBounds_toArray, List.set_cons_zero, List.set_cons_succ])
            refine wpAnyH_take (i := 10) (v := ?_) rfl (by kernel_rfl) (by kernel_rfl) (by kernel_rfl) (fun _ _ _ h => h) (Or.inl ⟨by kernel_rfl, ?_⟩) (by assumption) ?_
            rotate_left
            · (intro wS hSw; (try dsimp only at hSw); go_simp; (try with_reducible rfl))
            (try simp only [Act.put, List.setIfInBounds_toArray, List.set_cons_zero, List.set_cons_succ])
            refine wpAnyH_take (i := 11) (v := ?_) rfl (by kernel_rfl) (by kernel_rfl) (by kernel_rfl) (fun _ _ _ h => h) (Or.inl ⟨by kernel_rfl, ?_⟩) (by assumption) ?_
            rotate_left
            · (intro wS hSw; (try dsimp only at hSw); go_simp; (try with_reducible rfl))
            (try simp only [Act.put, List.setIfInBounds_toArray, List.set_cons_zero, List.set_cons_succ])
            refine wpAnyH_take (i := 12) (v := ?_) rfl (by kernel_rfl) (by kernel_rfl) (by kernel_rfl) (fun _ _ _ h => h) (Or.inl ⟨by kernel_rfl, ?_⟩) (by assumption) ?_
            rotate_left
            · (intro wS hSw; (try dsimp only at hSw); go_simp; (try with_reducible rfl))
            (try simp only [Act.put, List.setIfInBounds_toArray, List.set_cons_zero, List.set_cons_succ])
            refine wpAnyH_take (i := 13) (v := ?_) rfl (by kernel_rfl) (by kernel_rfl) (by kernel_rfl) (fun _ _ _ h => h) (Or.inl ⟨by kernel_rfl, ?_⟩) (by assumption) ?_
            rotate_left
            · (intro wS hSw; (try dsimp only at hSw); go_simp; (try with_reducible rfl))
            (try simp only [Act.put, List.setIfInBounds_toArray, List.set_cons_zero, List.set_cons_succ])
            refine wpAnyH_take (i := 14) (v := ?_) rfl (by kernel_rfl) (by kernel_rfl) (by kernel_rfl) (fun _ _ _ h => h) (Or.inl ⟨by kernel_rfl, ?_⟩) (by assumption) ?_
            rotate_left
            · (intro wS hSw; (try dsimp only at hSw); go_simp; (try with_reducible rfl))
            (try simp only [Act.put, List.setIfInBounds_toArray, List.set_cons_zero, List.set_cons_succ])
            refine wpAnyH_take (i := 15) (v := ?_) rfl (by kernel_rfl) (by kernel_rfl) (by kernel_rfl) (fun _ _ _ h => h) (Or.inl ⟨by kernel_rfl, ?_⟩) (by assumption) ?_
            rotate_left
            · (intro wS hSw; (try dsimp only at hSw); go_simp; (try with_reducible rfl))
            (try simp only [Act.put, List.setIfInBounds_toArray, List.set_cons_zero, List.set_cons_succ])
            refine wpAnyH_done (by kernel_rfl) ?_ _
            (try simp only [List.getElem_toArray, List.getElem_cons_zero, List.getElem_cons_succ, Act.put, List.setIfInBounds_toArray, List.set_cons_zero, List.set_cons_succ])
            clear hHeld2
            go_wp2_with fail
            exact ⟨⟨q + 1, t, acc ++ u, by omega, by go_num, rfl, congrArg Value.string (str_app acc u), ht, HACC2.out, BEL5.out, HST.out⟩, by simp [intOf]; omega⟩
        · obtain rfl : q = j := by omega
          rw [List.drop_of_length_le (by rw [← HML.out]; exact Nat.le_refl _), strm] at hst
          have l5 : ¬ (65536 : Int) < (acc.length : Int) := by omega
          have HST := Lib.hid hst; clear hst
          have HBW := Lib.hid hbw; clear hbw
          clear hbel
          go_wp2_with fail
          go_ret3
          exact ⟨HBW.out, by rw [HST.out]; rfl⟩
end Go.Proofs.YtalipfnbpnkgnaaGreat
