/- language.check, spells, step, ends, Ends at valid graphs. -/
import Derived.Deep.QuietTactic
import Derived.Deep.RegionHeld3
import Derived.Test.YtalipfnbpnkgnaaGreatLangA
import Derived.Test.YtalipfnbpnkgnaaGreatPart8
import Derived.Test.YtalipfnbpnkgnaaGreatEPrc
import Derived.Test.YtalipfnbpnkgnaaGreatPart14
import Derived.Test.YtalipfnbpnkgnaaGreatDel
namespace Go.Proofs.YtalipfnbpnkgnaaGreat
open Go.RowKit

set_option maxRecDepth 100000 in
set_option maxHeartbeats 3200000 in
theorem lspells_ok (L S : Int) (es : List E3) (v : Value) (s : ByteArray) (w : World) (hr : Row w v es.length (ce es)) (hok : okEs es) (hc : chk L S es = 0) (hL : L ≤ 16) (hw : wchk L s.data.toList = 0) (hs : s.size ≤ 9223372036854775807) :
    Calls Tryz.prog 57 #[.agg #[.int .i64 L, .int .i64 S, v], .string s] w (Ret w (.int .i64 0)) := by
  obtain ⟨va, vc, rfl, hle⟩ := hr.slice
  have s0 := (Below.refl w.heap.size w).alloc (Nat.le_refl _) (.cells #[.int .i64 L, .int .i64 S, .slice va es.length vc] 24)
  have b0 := Blk.new w 24 [.int .i64 L, .int .i64 S, .slice va es.length vc]
  have hck := lcheck_ok L S es _ _ (hr.below s0 (Nat.le_refl _)) hok hc hL
  have hwc := fun w' => wcheck_any L s w' hs
  rw [hw] at hwc
  obtain ⟨mm, hmm⟩ : ∃ mm, mm = es.length := ⟨_, rfl⟩
  rw [← hmm] at s0 b0 hck
  have HMM := Lib.hid hmm; clear hmm
  have HCK := Lib.hid hck; clear hck
  have HWC := Lib.hid hwc; clear hwc
  have S0 := Lib.hid s0; clear s0
  have B0 := Lib.hid b0; clear b0
  clear hr hok hc hw
  go_enter Tryz.func57, Tryz.ntmps57
  rw [← HMM.out]
  go_wp2_with fail
  go_at_call 89
  refine HCK.out.mono ?_
  rintro e w1 ⟨hq, rfl⟩
  have s1 := S0.out.trans (hq.mono S0.out.size)
  have tk := B0.out.keep hq; have x0 := tk.cell (j := 0) rfl; have x1 := tk.cell (j := 1) rfl; have x2 := tk.cell (j := 2) rfl; have C0 := Lib.hid tk; clear tk
  have S1 := Lib.hid s1; clear s1
  clear hq
  go_wp2_with fail
  go_at_call 68
  refine (HWC.out _).mono ?_
  rintro e w2 ⟨hq, rfl⟩
  have s2 := S1.out.trans (hq.mono S1.out.size)
  have S2 := Lib.hid s2; clear s2
  clear hq
  go_wp2_with fail
  go_ret
  exact ⟨S2.out, rfl⟩
set_option maxRecDepth 100000 in
set_option maxHeartbeats 3200000 in
theorem lends_any (L S : Int) (es : List E3) (v vs : Value) (set : List Int) (s : ByteArray) (w : World) (hr : Row w v es.length (ce es)) (hrs : Row w vs set.length (ci set)) (hok : okEs es) (hc : chk L S es = 0) (hset : IsSet S set) (hL : 1 ≤ L) (hL2 : L ≤ 16) (hs : s.size ≤ 1000000) (hw : ∀ c ∈ s.data.toList, isLetter L.toNat c = true) :
    Calls Tryz.prog 59 #[.agg #[.int .i64 L, .int .i64 S, v], vs, .string s] w (SetRet w (efold es s.data.toList set)) := by
  obtain ⟨va, vc, rfl, hle⟩ := hr.slice
  have s0 := (Below.refl w.heap.size w).alloc (Nat.le_refl _) (.cells #[.int .i64 L, .int .i64 S, .slice va es.length vc] 24)
  have b0 := Blk.new w 24 [.int .i64 L, .int .i64 S, .slice va es.length vc]
  have hr0 := hr.below s0 (Nat.le_refl _)
  have hrs0 := hrs.below s0 (Nat.le_refl _)
  have hst := fun vs set c w' h h2 hset hl => lstep_any L S es (.slice va es.length vc) vs set c w' h h2 hok hc hset hl
  have hfs := fun l => efold_set hc l set hset
  have hlr : ∀ c ∈ s.data.toList, 0 ≤ lbL c ∧ lbL c < L := fun c h => lbL_range hL hL2 (hw c h)
  obtain ⟨mm, hmm⟩ : ∃ mm, mm = es.length := ⟨_, rfl⟩
  rw [← hmm] at s0 b0 hr0 hrs0 hst
  have HMM := Lib.hid hmm; clear hmm
  have HST := Lib.hid hst; clear hst
  have HFS := Lib.hid hfs; clear hfs
  have HLR := Lib.hid hlr; clear hlr
  have HR := Lib.hid hr0; clear hr0
  have HRS := Lib.hid hrs0; clear hrs0
  have S0 := Lib.hid s0; clear s0
  have B0 := Lib.hid b0; clear b0
  clear hr hrs hok hc hset hw
  go_enter Tryz.func59, Tryz.ntmps59
  rw [← HMM.out]
  go_wp2_with fail
  obtain ⟨wg, hwg⟩ : ∃ wg, w.alloc (.cells #[.int .i64 L, .int .i64 S, .slice va mm vc] 24) = wg := ⟨_, rfl⟩
  rw [hwg] at S0 B0 HR HRS ⊢
  clear hwg
  have hwl : w.heap.size < wg.heap.size := B0.out.lt
  go_loopw [1, 7] (fun u i wr => ∃ (n : Nat), n ≤ s.size ∧ i = .int .i64 n ∧ Row wr u (efold es (s.data.toList.take n) set).length (ci (efold es (s.data.toList.take n) set)) ∧ Below wg.heap.size wg wr) (fun _ i _ => s.size - (intOf i).toNat)
  case atStart => exact ⟨0, Nat.zero_le _, rfl, by simpa [efold] using HRS.out, Below.refl _ _⟩
  case round =>
    obtain ⟨n, hn, rfl, hrow, hbel⟩ := hrel
    obtain ⟨b, cp, rfl, hcp⟩ := hrow.slice
    have hbw := S0.out.trans (hbel.mono S0.out.size)
    by_cases hlt : n < s.size
    · obtain ⟨Y, hY⟩ : ∃ Y, Y = efold es (s.data.toList.take n) set := ⟨_, rfl⟩
      have hYs := HFS.out (s.data.toList.take n)
      rw [← hY] at hrow hYs ⊢
      have hnl : n < s.data.toList.length := by rw [bytes_size]; exact hlt
      by_cases hye : Y = []
      · have hfin : efold es s.data.toList set = [] := by
          conv => lhs; rw [← List.take_append_drop n s.data.toList]
          rw [efold_append, ← hY, hye, efold_none]
        subst hye
        replace hrow : Row wr (.slice b 0 cp) 0 (ci []) := hrow
        have HROW := Lib.hid hrow; clear hrow
        have HBW := Lib.hid hbw; clear hbw
        have HFIN := Lib.hid hfin; clear hfin
        clear hY hYs
        go_wp2_with fail
        go_ret
        refine ⟨HBW.out, _, rfl, ?_⟩
        rw [HFIN.out]
        exact HROW.out
      · have hyl : (0 : Int) < (Y.length : Int) := by
          have := List.length_pos_iff.2 hye
          omega
        obtain ⟨c, hcc⟩ : ∃ c, c = s[n] := ⟨_, rfl⟩
        have hcm : c ∈ s.data.toList := by
          rw [hcc]
          have : s[n] = s.data.toList[n]'hnl := rfl
          rw [this]; exact List.getElem_mem _
        have hnext : efold es (s.data.toList.take (n + 1)) set = stepR es (lbL c) Y := by
          rw [List.take_succ_eq_append_getElem hnl, efold_snoc, hY, hcc]; rfl
        have hstp := fun w' h h2 => HST.out (.slice b Y.length cp) Y c w' h h2 hYs (HLR.out c hcm)
        have k0 := B0.out.keep hbel
        have x0 := k0.cell (j := 0) rfl
        have x1 := k0.cell (j := 1) rfl
        have x2 := k0.cell (j := 2) rfl
        have hgr : w.heap.size < wr.heap.size := k0.lt
        have hr1 := HR.out.below hbel (Nat.le_refl _)
        obtain ⟨ml, hml⟩ : ∃ ml, ml = Y.length := ⟨_, rfl⟩
        rw [← hml] at hyl hrow hstp ⊢
        have hn0 : (0 : Int) ≤ (n : Int) := by omega
        have hn1 : (n : Int) < (s.size : Int) := by omega
        have HROW := Lib.hid hrow; clear hrow
        have HSTP := Lib.hid hstp; clear hstp
        have HNX := Lib.hid hnext; clear hnext
        have HR1 := Lib.hid hr1; clear hr1
        have HB := Lib.hid hbel; clear hbel
        have K0 := Lib.hid k0; clear k0
        have HCC := Lib.hid hcc; clear hcc
        have HML := Lib.hid hml; clear hml
        clear hY hYs hye hcm hbw
        go_wp2_with fail
        refine wp_region_held_drew (S := fun w' => w'.cell? ⟨w.heap.size, 0, none⟩ = some (.int .i64 L) ∧ w'.cell? ⟨w.heap.size, 1, none⟩ = some (.int .i64 S) ∧ w'.cell? ⟨w.heap.size, 2, none⟩ = some (.slice va mm vc)) (by kernel_rfl) ?_ (fun hHeld => ?_)
        · go_keep
        refine wpAnyH_take (i := 0) (v := ?_) rfl (by kernel_rfl) (by kernel_rfl) (by kernel_rfl) (fun _ _ _ h => h) (Or.inl ⟨by kernel_rfl, ?_⟩) (by assumption) ?_
        rotate_left
        · (intro wS hSw; (try dsimp only at hSw); go_simp; (try with_reducible rfl))
        (try simp only [Act.put, List.setIfInBounds_toArray, List.set_cons_zero, List.set_cons_succ])
        refine wpAnyH_take (i := 1) (v := ?_) rfl (by kernel_rfl) (by kernel_rfl) (by kernel_rfl) (fun _ _ _ h => h) (Or.inl ⟨by kernel_rfl, ?_⟩) (by assumption) ?_
        rotate_left
        · (intro wS hSw; (try dsimp only at hSw); go_simp; (try with_reducible rfl))
        (try simp only [Act.put, List.setIfInBounds_toArray, List.set_cons_zero, List.set_cons_succ])
        refine wpAnyH_take (i := 2) (v := ?_) rfl (by kernel_rfl) (by kernel_rfl) (by kernel_rfl) (fun _ _ _ h => h) (Or.inl ⟨by kernel_rfl, ?_⟩) (by assumption) ?_
        rotate_left
        · (intro wS hSw; (try dsimp only at hSw); go_simp; (try with_reducible rfl))
        (try simp only [Act.put, List.setIfInBounds_toArray, List.set_cons_zero, List.set_cons_succ])
        refine wpAnyH_take (i := 3) (v := ?_) rfl (by kernel_rfl) (by kernel_rfl) (by kernel_rfl) (fun _ _ _ h => h) (Or.inl ⟨by kernel_rfl, ?_⟩) (by assumption) ?_
        rotate_left
        · (intro wS hSw; (try dsimp only at hSw); go_simp; (try with_reducible rfl))
        (try simp only [Act.put, List.setIfInBounds_toArray, List.set_cons_zero, List.set_cons_succ])
        refine wpAnyH_take (i := 4) (v := ?_) rfl (by kernel_rfl) (by kernel_rfl) (by kernel_rfl) (fun _ _ _ h => h) (Or.inl ⟨by kernel_rfl, ?_⟩) (by assumption) ?_
        rotate_left
        · (intro wS hSw; (try dsimp only at hSw); go_simp; (try with_reducible rfl))
        (try simp only [Act.put, List.setIfInBounds_toArray, List.set_cons_zero, List.set_cons_succ])
        refine wpAnyH_ready (rs := [5]) (by kernel_rfl) (by simp) ?_
        refine AllReadyH.cons rfl (fun K hK => ?_) AllReadyH.nil
        go_simp
        rw [← HCC.out]
        go_at_call 90
        refine (HSTP.out _ HR1.out.drew HROW.out.drew).mono ?_
        rintro e w4 ⟨hq, vn, rfl, hrn⟩
        dsimp only
        have z0 := (hq.cell (p := ⟨w.heap.size, 0, none⟩) (show w.heap.size < wr.heap.size by omega)).trans hHeld.1
        have z1 := (hq.cell (p := ⟨w.heap.size, 1, none⟩) (show w.heap.size < wr.heap.size by omega)).trans hHeld.2.1
        have z2 := (hq.cell (p := ⟨w.heap.size, 2, none⟩) (show w.heap.size < wr.heap.size by omega)).trans hHeld.2.2
        refine hK.out _ _ ⟨z0, z1, z2⟩ (fun hHeld2 => ?_)
        clear hK K
        (try simp only [Act.put, List.setIfInBounds_toArray, List.set_cons_zero, List.set_cons_succ])
        have hb4 := HB.out.drew.trans (hq.mono HB.out.size)
        obtain ⟨na, nc, rfl, hnle⟩ := hrn.slice
        have HB4 := Lib.hid hb4; clear hb4
        have HRN := Lib.hid hrn; clear hrn
        clear hq z0 z1 z2 x0 x1 x2
        refine wpAnyH_take (i := 6) (v := ?_) rfl (by kernel_rfl) (by kernel_rfl) (by kernel_rfl) (fun _ _ _ h => h) (Or.inl ⟨by kernel_rfl, ?_⟩) (by assumption) ?_
        rotate_left
        · (intro wS hSw; (try dsimp only at hSw); go_simp; (try with_reducible rfl))
        (try simp only [Act.put, List.setIfInBounds_toArray, List.set_cons_zero, List.set_cons_succ])
        refine wpAnyH_done (by kernel_rfl) ?_ _
        (try simp only [List.getElem_toArray, List.getElem_cons_zero, List.getElem_cons_succ, Act.put, List.setIfInBounds_toArray, List.set_cons_zero, List.set_cons_succ])
        clear hHeld hHeld2
        go_wp2_with fail
        go_roundw
        case rel => exact ⟨n + 1, by omega, by go_num, by rw [HNX.out]; exact HRN.out, HB4.out⟩
        case measure => simp [intOf]; omega
    · obtain rfl : n = s.size := by omega
      rw [List.take_of_length_le (by rw [bytes_size]; exact Nat.le_refl _)] at hrow ⊢
      have HROW := Lib.hid hrow; clear hrow
      have HBW := Lib.hid hbw; clear hbw
      clear hbel
      go_wp2_with fail
      go_ret
      exact ⟨HBW.out, _, rfl, HROW.out⟩
/-- language.Ends at valid graphs, sets and words. -/
def EndsRet (w : World) (ys : List Int) (e : Ending) (w' : World) : Prop :=
  Below w.heap.size w w' ∧ ∃ v, e = .returned (.tuple #[v, .int .i64 0]) ∧ Row w' v ys.length (ci ys)
set_option maxRecDepth 100000 in
set_option maxHeartbeats 3200000 in
theorem lEnds_ok (L : Int) (S : Nat) (es : List E3) (v vs : Value) (set : List Int) (s : ByteArray) (w : World) (hr : Row w v es.length (ce es)) (hrs : Row w vs set.length (ci set)) (hok : okEs es) (hc : chk L (S : Int) es = 0) (hset : IsSet (S : Int) set) (hL2 : L ≤ 16) (hs : s.size ≤ 1000000) (hw : wchk L s.data.toList = 0) :
    Calls Tryz.prog 23 #[.agg #[.int .i64 L, .int .i64 (S : Int), v], vs, .string s] w (EndsRet w (efold es s.data.toList set)) := by
  obtain ⟨va, vc, rfl, hle⟩ := hr.slice
  obtain ⟨sa, sc, rfl, hsle⟩ := hrs.slice
  have hca := chk_all hc
  have hlen := hset.len hca.2.2.1
  have s0 := (Below.refl w.heap.size w).alloc (Nat.le_refl _) (.cells #[.int .i64 L, .int .i64 (S : Int), .slice va es.length vc] 24)
  have b0 := Blk.new w 24 [.int .i64 L, .int .i64 (S : Int), .slice va es.length vc]
  have hr0 := hr.below s0 (Nat.le_refl _)
  have hrs0 := hrs.below s0 (Nat.le_refl _)
  have hsp := lspells_ok L (S : Int) es _ s _ hr0 hok hc hL2 hw (by omega)
  have hwl : ∀ c ∈ s.data.toList, isLetter L.toNat c = true := by
    unfold wchk at hw
    split at hw
    · cases hw
    · split at hw
      · cases hw
      · split at hw
        · rename_i h
          exact List.all_eq_true.1 h
        · cases hw
  have hen := fun w' h h2 => lends_any L (S : Int) es (.slice va es.length vc) (.slice sa set.length sc) set s w' h h2 hok hc hset hca.1 hL2 hs hwl
  have hin : ∀ j x, set[j]? = some x → 0 ≤ x ∧ x < (S : Int) := fun j x h => hset.1 x (List.mem_of_getElem? h)
  have hnx : ∀ j x y, set[j]? = some x → set[j + 1]? = some y → x < y := fun j x y h1 h2 => hset.next h1 h2
  have hEn := efold_set hc s.data.toList set hset
  obtain ⟨R, hR⟩ : ∃ R, R = efold es s.data.toList set := ⟨_, rfl⟩
  rw [← hR] at hen hEn ⊢
  have hRl := hEn.len hca.2.2.1
  have hcl := fun v' w' h => cloneZ_any R v' w' h (by omega)
  obtain ⟨mm, hmm⟩ : ∃ mm, mm = es.length := ⟨_, rfl⟩
  obtain ⟨ms, hms⟩ : ∃ ms, ms = set.length := ⟨_, rfl⟩
  rw [← hmm] at s0 b0 hr0 hrs0 hsp hen
  rw [← hms] at hrs0 hen hlen
  have HMM := Lib.hid hmm; clear hmm
  have HMS := Lib.hid hms; clear hms
  have HSP := Lib.hid hsp; clear hsp
  have HEN := Lib.hid hen; clear hen
  have HIN := Lib.hid hin; clear hin
  have HCL := Lib.hid hcl; clear hcl
  have HR := Lib.hid hr0; clear hr0
  have HRS := Lib.hid hrs0; clear hrs0
  have S0 := Lib.hid s0; clear s0
  have B0 := Lib.hid b0; clear b0
  have HNX := Lib.hid hnx; clear hnx
  clear hr hrs hok hc hset hw hwl hca hEn hR
  go_enter Tryz.func23, Tryz.ntmps23
  rw [← HMM.out, ← HMS.out]
  go_wp2_with fail
  go_at_call 57
  refine HSP.out.mono ?_
  rintro e w1 ⟨hq, rfl⟩
  have s1 := S0.out.trans (hq.mono S0.out.size)
  have hr1 := HR.out.below hq (Nat.le_refl _)
  have hrs1 := HRS.out.below hq (Nat.le_refl _)
  have tk := B0.out.keep hq; have x0 := tk.cell (j := 0) rfl; have x1 := tk.cell (j := 1) rfl; have x2 := tk.cell (j := 2) rfl; have C0 := Lib.hid tk; clear tk
  have S1 := Lib.hid s1; clear s1
  have HR1 := Lib.hid hr1; clear hr1
  have HRS1 := Lib.hid hrs1; clear hrs1
  clear hq
  go_wp2_with fail
  obtain ⟨wo, rfl⟩ : ∃ wo : World, wo = w1 := ⟨_, rfl⟩
  go_loopw [21] (fun i wr => ∃ j : Nat, j ≤ ms ∧ i = .int .i64 j ∧ wr = wo) (fun i _ => ms - (intOf i).toNat)
  case atStart => exact ⟨0, Nat.zero_le _, rfl, rfl⟩
  case round =>
    obtain ⟨j, hj, rfl, rfl⟩ := hrel
    by_cases hlt : j < ms
    · have hjl : j < set.length := by rw [← HMS.out]; exact hlt
      have hget : set[j]? = some (set[j]'hjl) := List.getElem?_eq_getElem _
      obtain ⟨y, hy⟩ : ∃ y, y = set[j]'hjl := ⟨_, rfl⟩
      rw [← hy] at hget
      have hy2 := HIN.out j y hget
      have hy0 : ¬ y < 0 := by omega
      have hyS : ¬ (S : Int) ≤ y := by omega
      obtain ⟨b, off, rfl, hbw, hce⟩ := HRS1.out.at_ (by omega)
      have c0 := hce j _ (ci_get hget)
      have hix : (0 : Int) ≤ (j : Int) := by omega
      clear hce hget hy hy2
      go_wp2_with fail
      go_roundw
      case rel => exact ⟨j + 1, by omega, by go_num, trivial⟩
      case measure => simp [intOf]; omega
    · obtain rfl : j = ms := by omega
      clear hj hlt
      obtain ⟨wo, rfl⟩ : ∃ wo : World, wo = wr := ⟨_, rfl⟩
      go_wp2_with fail
      go_loopw [36] (fun i wr => ∃ q : Nat, q ≤ j ∧ i = .int .i64 q ∧ wr = wo) (fun i _ => j - (intOf i).toNat)
      case atStart => exact ⟨0, Nat.zero_le _, rfl, rfl⟩
      case round =>
        obtain ⟨q, hqj, rfl, rfl⟩ := hrel
        by_cases hlt : q < j
        · have hjl : q < set.length := by rw [← HMS.out]; exact hlt
          have hget : set[q]? = some (set[q]'hjl) := List.getElem?_eq_getElem _
          obtain ⟨y, hy⟩ : ∃ y, y = set[q]'hjl := ⟨_, rfl⟩
          rw [← hy] at hget
          obtain ⟨b, off, rfl, hbw, hce⟩ := HRS1.out.at_ (by omega)
          have c0 := hce q _ (ci_get hget)
          have hix : (0 : Int) ≤ (q : Int) := by omega
          cases q with
          | zero =>
            replace c0 : wr.cell? ⟨b, off, none⟩ = some (.int .i64 y) := c0
            clear hce hget hy
            go_wp2_with fail
            go_roundw
            case rel => exact ⟨1, by omega, by go_num, trivial⟩
            case measure => simp [intOf]; omega
          | succ i =>
            have hil : i < set.length := by omega
            have hgi : set[i]? = some (set[i]'hil) := List.getElem?_eq_getElem _
            obtain ⟨z, hz⟩ : ∃ z, z = set[i]'hil := ⟨_, rfl⟩
            rw [← hz] at hgi
            have d0 := hce i _ (ci_get hgi)
            have hle : ¬ y ≤ z := by have := HNX.out _ _ _ hgi hget; omega
            have hi0 : (0 : Int) ≤ ((i + 1 : Nat) : Int) - 1 := by omega
            have hi1 : ((i + 1 : Nat) : Int) - 1 = (i : Int) := by omega
            clear hce hget hy hgi hz
            go_wp2_with fail
            go_roundw
            case rel => exact ⟨i + 1 + 1, by omega, by go_num, trivial⟩
            case measure => simp [intOf]; omega
        · obtain rfl : q = j := by omega
          clear hqj hlt
          go_wp2_with fail
          go_at_call 59
          refine (HEN.out _ HR1.out HRS1.out).mono ?_
          rintro e w2 ⟨hq, vn, rfl, hrn⟩
          have s2 := S1.out.trans (hq.mono S1.out.size)
          obtain ⟨na, nc, rfl, hnle⟩ := hrn.slice
          have S2 := Lib.hid s2; clear s2
          have HRN := Lib.hid hrn; clear hrn
          clear hq
          go_wp2_with fail
          go_at_call 58
          refine (HCL.out _ _ HRN.out).mono ?_
          rintro e w3 ⟨hq, v3, rfl, hown⟩
          have s3 := S2.out.trans (hq.mono S2.out.size)
          have hr3 := own_row hown
          obtain ⟨ca, cc, rfl⟩ := own_slice hown
          have S3 := Lib.hid s3; clear s3
          have HR3 := Lib.hid hr3; clear hr3
          clear hq hown
          go_wp2_with fail
          go_ret2
          exact ⟨S3.out, _, rfl, HR3.out⟩
end Go.Proofs.YtalipfnbpnkgnaaGreat
