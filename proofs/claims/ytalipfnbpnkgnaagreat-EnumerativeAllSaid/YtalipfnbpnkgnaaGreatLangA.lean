/- language.check, step at valid graphs; the set behind a word. -/
import Derived.Deep.QuietTactic
import Derived.Deep.RegionHeld3
import Derived.Test.YtalipfnbpnkgnaaGreatStep
import Derived.Test.YtalipfnbpnkgnaaGreatPart5
import Derived.Test.YtalipfnbpnkgnaaGreatPart4
import Derived.Test.YtalipfnbpnkgnaaGreatPart14
namespace Go.Proofs.YtalipfnbpnkgnaaGreat
open Go.RowKit

theorem gstep_any (L S label : Int) (es : List E3) (v vs : Value) (set : List Int) (w : World) (hes : Row w v es.length (ce es)) (hset : Row w vs set.length (ci set)) (hok : okEs es) (hchk : chk L S es = 0) (hs : IsSet S set) (hl : 0 ≤ label ∧ label < L) :
    Calls Tryz.prog 120 #[.agg #[.int .i64 L, .int .i64 S, v], vs, .int .i64 label] w (StepRet w (stepR es label set)) :=
  callsIn_wide.1 (step_in L S label es v vs set w hes hset hok hchk hs hl)
/-- The label of a letter. -/
def lbL (c : UInt8) : Int := Lib.indexByte letters c
/-- The set behind a word. -/
def efold (es : List E3) : List UInt8 → List Int → List Int
  | [], set => set
  | c :: t, set => efold es t (stepR es (lbL c) set)
theorem efold_snoc (es : List E3) (c : UInt8) : ∀ (l : List UInt8) (set : List Int), efold es (l ++ [c]) set = stepR es (lbL c) (efold es l set)
  | [], set => rfl
  | d :: t, set => by rw [List.cons_append, efold, efold_snoc es c t, efold]
theorem efold_append (es : List E3) : ∀ (l r : List UInt8) (set : List Int), efold es (l ++ r) set = efold es r (efold es l set)
  | [], _, _ => rfl
  | d :: t, r, set => by rw [List.cons_append, efold, efold_append es t, efold]
theorem stepR_none (es : List E3) (label : Int) : stepR es label [] = [] := by
  cases h : stepR es label [] with
  | nil => rfl
  | cons a l =>
    have h1 : a ∈ stepR es label [] := by rw [h]; simp
    obtain ⟨e, -, h2, -⟩ := mem_stepR.1 h1
    cases h2
theorem efold_none (es : List E3) : ∀ l : List UInt8, efold es l [] = []
  | [] => rfl
  | c :: t => by rw [efold, stepR_none, efold_none es t]
theorem lbL_get : ∀ i : Fin 16, lbL (letters.getD i.val 0) = (i.val : Int) := by decide +kernel
theorem lbL_letL {l : Int} (h0 : 0 ≤ l) (h1 : l < 16) : lbL (letL l) = l := by
  have h := lbL_get ⟨l.toNat, by omega⟩
  rw [letL, h]
  show ((l.toNat : Nat) : Int) = l
  omega
theorem lbL_range {L : Int} {c : UInt8} (h0 : 1 ≤ L) (h1 : L ≤ 16) (h : isLetter L.toNat c = true) : 0 ≤ lbL c ∧ lbL c < L := by
  unfold isLetter at h
  rw [List.contains_iff_mem] at h
  obtain ⟨i, hi, hc⟩ := List.mem_iff_getElem.1 h
  have h16 : letters.length = 16 := rfl
  rw [List.length_take, h16] at hi
  have hc2 : letters.getD i 0 = c := by
    rw [List.getElem_take] at hc
    rw [List.getD_eq_getElem?_getD, List.getElem?_eq_getElem (by omega), hc]
    rfl
  have h2 := lbL_get ⟨i, by omega⟩
  rw [hc2] at h2
  rw [h2]
  exact ⟨by omega, by show (i : Int) < L; omega⟩
theorem stepR_in {L S : Int} {es : List E3} (h : chk L S es = 0) (label : Int) (set : List Int) : IsSet S (stepR es label set) := by
  refine ⟨fun t ht => ?_, stepR_sorted _ _ _⟩
  obtain ⟨e, he, _, _, rfl⟩ := mem_stepR.1 ht
  have h1 := (chk_all h).2.2.2.2 e he
  unfold edgeBad at h1
  omega
theorem efold_set {L S : Int} {es : List E3} (h : chk L S es = 0) : ∀ (l : List UInt8) (set : List Int), IsSet S set → IsSet S (efold es l set)
  | [], _, hs => hs
  | c :: t, set, _ => efold_set h t _ (stepR_in h (lbL c) set)
set_option maxRecDepth 100000 in
set_option maxHeartbeats 3200000 in
theorem lcheck_ok (L S : Int) (es : List E3) (v : Value) (w : World) (hr : Row w v es.length (ce es)) (hok : okEs es) (hc : chk L S es = 0) (hL : L ≤ 16) :
    Calls Tryz.prog 89 #[.agg #[.int .i64 L, .int .i64 S, v]] w (Ret w (.int .i64 0)) := by
  obtain ⟨va, vc, rfl, hle⟩ := hr.slice
  have s0 := (Below.refl w.heap.size w).alloc (Nat.le_refl _) (.cells #[.int .i64 L, .int .i64 S, .slice va es.length vc] 24)
  have b0 := Blk.new w 24 [.int .i64 L, .int .i64 S, .slice va es.length vc]
  have hck := check_any L S es _ _ (hr.below s0 (Nat.le_refl _)) hok
  rw [hc] at hck
  obtain ⟨mm, hmm⟩ : ∃ mm, mm = es.length := ⟨_, rfl⟩
  rw [← hmm] at s0 b0 hck
  have hL2 : ¬ 16 < L := by omega
  have HMM := Lib.hid hmm; clear hmm
  have HCK := Lib.hid hck; clear hck
  have S0 := Lib.hid s0; clear s0
  have B0 := Lib.hid b0; clear b0
  clear hr hok hc
  go_enter Tryz.func89, Tryz.ntmps89
  rw [← HMM.out]
  go_wp2_with fail
  go_at_call 88
  refine HCK.out.mono ?_
  rintro e w1 ⟨hq, rfl⟩
  have s1 := S0.out.trans (hq.mono S0.out.size)
  have tk := B0.out.keep hq; have x0 := tk.cell (j := 0) rfl; have x1 := tk.cell (j := 1) rfl; have x2 := tk.cell (j := 2) rfl; have C0 := Lib.hid tk; clear tk
  have S1 := Lib.hid s1; clear s1
  clear hq
  go_wp2_with fail
  go_ret
  exact ⟨S1.out, rfl⟩
/-- A set handed back. -/
def SetRet (w : World) (ys : List Int) (e : Ending) (w' : World) : Prop :=
  Below w.heap.size w w' ∧ ∃ v, e = .returned v ∧ Row w' v ys.length (ci ys)
set_option maxRecDepth 100000 in
set_option maxHeartbeats 3200000 in
theorem lstep_any (L S : Int) (es : List E3) (v vs : Value) (set : List Int) (c : UInt8) (w : World) (hr : Row w v es.length (ce es)) (hrs : Row w vs set.length (ci set)) (hok : okEs es) (hc : chk L S es = 0) (hset : IsSet S set) (hl : 0 ≤ lbL c ∧ lbL c < L) :
    Calls Tryz.prog 90 #[.agg #[.int .i64 L, .int .i64 S, v], vs, .int .u8 (c.toNat : Int)] w (SetRet w (stepR es (lbL c) set)) := by
  obtain ⟨va, vc, rfl, hle⟩ := hr.slice
  obtain ⟨sa, sc, rfl, hsle⟩ := hrs.slice
  have s0 := (Below.refl w.heap.size w).alloc (Nat.le_refl _) (.cells #[.int .i64 L, .int .i64 S, .slice va es.length vc] 24)
  have b0 := Blk.new w 24 [.int .i64 L, .int .i64 S, .slice va es.length vc]
  have hr0 := hr.below s0 (Nat.le_refl _)
  have hrs0 := hrs.below s0 (Nat.le_refl _)
  have hst := fun w' h h2 => gstep_any L S (lbL c) es (.slice va es.length vc) (.slice sa set.length sc) set w' h h2 hok hc hset hl
  have hc8 : ((c.toNat : Int).toNat.toUInt8) = c := by simp
  have hix : Lib.indexByte lettersS.data.toList c = lbL c := rfl
  obtain ⟨q, hq⟩ : ∃ q, q = lbL c := ⟨_, rfl⟩
  rw [← hq] at hst hix
  obtain ⟨R, hR⟩ : ∃ R, R = stepR es q set := ⟨_, rfl⟩
  rw [← hq, ← hR]
  rw [← hR] at hst
  obtain ⟨mm, hmm⟩ : ∃ mm, mm = es.length := ⟨_, rfl⟩
  obtain ⟨ms, hms⟩ : ∃ ms, ms = set.length := ⟨_, rfl⟩
  rw [← hmm] at s0 b0 hr0 hrs0 hst
  rw [← hms] at hrs0 hst
  have HMM := Lib.hid hmm; clear hmm
  have HMS := Lib.hid hms; clear hms
  have HST := Lib.hid hst; clear hst
  have HR := Lib.hid hr0; clear hr0
  have HRS := Lib.hid hrs0; clear hrs0
  have S0 := Lib.hid s0; clear s0
  have B0 := Lib.hid b0; clear b0
  clear hr hrs hok hc hset hl hR hq
  go_enter Tryz.func90, Tryz.ntmps90
  rw [← HMM.out, ← HMS.out]
  go_wp2_with fail
  obtain ⟨wg, hwg⟩ : ∃ wg, w.alloc (.cells #[.int .i64 L, .int .i64 S, .slice va mm vc] 24) = wg := ⟨_, rfl⟩
  rw [hwg] at S0 B0 HR HRS ⊢
  clear hwg
  have hwl : w.heap.size < wg.heap.size := B0.out.lt
  have x0 := B0.out.cell (j := 0) rfl
  have x1 := B0.out.cell (j := 1) rfl
  have x2 := B0.out.cell (j := 2) rfl
  refine wp_region_held_drew (S := fun w' => w'.cell? ⟨w.heap.size, 0, none⟩ = some (.int .i64 L) ∧ w'.cell? ⟨w.heap.size, 1, none⟩ = some (.int .i64 S) ∧ w'.cell? ⟨w.heap.size, 2, none⟩ = some (.slice va mm vc)) (by kernel_rfl) ?_ (fun hHeld => ?_)
  · go_keep
  refine wpAnyH_take (i := 0) (v := ?_) rfl (by kernel_rfl) (by kernel_rfl) (by kernel_rfl) (fun _ _ _ h => h) (Or.inl ⟨by kernel_rfl, ?_⟩) (by assumption) ?_
  rotate_left
  · (intro wS hSw; (try dsimp only at hSw); go_simp; (try with_reducible rfl))
  (try simp only [Act.put, List.setIfInBounds_toArray, List.set_cons_zero, List.set_cons_succ])
  refine wpAnyH_take (i := 1) (v := ?_) rfl (by kernel_rfl) (by kernel_rfl) (by kernel_rfl) (fun _ _ _ h => h) (Or.inl ⟨by kernel_rfl, ?_⟩) (by assumption) ?_
  rotate_left
  · (intro wS hSw; (try dsimp only at hSw); go_simp; (try with_reducible rfl))
  (try simp only [Act.put, List.setIfInBounds_toArray, List.set_cons_zero, List.set_cons_succ])
  refine wpAnyH_take (i := 2) (v := ?_) rfl (by kernel_rfl) (by kernel_rfl) (by kernel_rfl) (fun _ _ _ h => h) (Or.inl ⟨by kernel_rfl, ?_⟩) (by assumption) ?_
  rotate_left
  · (intro wS hSw; (try dsimp only at hSw); go_simp; (try with_reducible rfl))
  (try simp only [Act.put, List.setIfInBounds_toArray, List.set_cons_zero, List.set_cons_succ])
  refine wpAnyH_ready (rs := [3]) (by kernel_rfl) (by simp) ?_
  refine AllReadyH.cons rfl (fun K hK => ?_) AllReadyH.nil
  go_simp
  go_at_call 101
  refine (Tryz.strings_IndexByte _ _ _).mono ?_
  rintro e w3 ⟨rfl, rfl⟩
  rw [hc8, hix]
  (try dsimp only)
  refine hK.out _ _ hHeld (fun hHeld2 => ?_)
  clear hK K
  (try simp only [Act.put, List.setIfInBounds_toArray, List.set_cons_zero, List.set_cons_succ])
  refine wpAnyH_ready (rs := [4]) (by kernel_rfl) (by simp) ?_
  refine AllReadyH.cons rfl (fun K hK => ?_) AllReadyH.nil
  go_simp
  go_at_call 120
  refine (HST.out _ HR.out.drew HRS.out.drew).mono ?_
  rintro e w4 ⟨hq, vn, rfl, hrn⟩
  dsimp only
  have z0 := (hq.cell (p := ⟨w.heap.size, 0, none⟩) (show w.heap.size < wg.heap.size by omega)).trans hHeld.1
  have z1 := (hq.cell (p := ⟨w.heap.size, 1, none⟩) (show w.heap.size < wg.heap.size by omega)).trans hHeld.2.1
  have z2 := (hq.cell (p := ⟨w.heap.size, 2, none⟩) (show w.heap.size < wg.heap.size by omega)).trans hHeld.2.2
  refine hK.out _ _ ⟨z0, z1, z2⟩ (fun hHeld3 => ?_)
  clear hK K
  (try simp only [Act.put, List.setIfInBounds_toArray, List.set_cons_zero, List.set_cons_succ])
  have s4 := S0.out.drew.trans (hq.mono S0.out.size)
  obtain ⟨na, nc, rfl, hnle⟩ := hrn.slice
  have S4 := Lib.hid s4; clear s4
  have HRN := Lib.hid hrn; clear hrn
  clear hq z0 z1 z2
  refine wpAnyH_take (i := 5) (v := ?_) rfl (by kernel_rfl) (by kernel_rfl) (by kernel_rfl) (fun _ _ _ h => h) (Or.inl ⟨by kernel_rfl, ?_⟩) (by assumption) ?_
  rotate_left
  · (intro wS hSw; (try dsimp only at hSw); go_simp; (try with_reducible rfl))
  (try simp only [Act.put, List.setIfInBounds_toArray, List.set_cons_zero, List.set_cons_succ])
  refine wpAnyH_take (i := 6) (v := ?_) rfl (by kernel_rfl) (by kernel_rfl) (by kernel_rfl) (fun _ _ _ h => h) (Or.inl ⟨by kernel_rfl, ?_⟩) (by assumption) ?_
  rotate_left
  · (intro wS hSw; (try dsimp only at hSw); go_simp; (try with_reducible rfl))
  (try simp only [Act.put, List.setIfInBounds_toArray, List.set_cons_zero, List.set_cons_succ])
  refine wpAnyH_take (i := 7) (v := ?_) rfl (by kernel_rfl) (by kernel_rfl) (by kernel_rfl) (fun _ _ _ h => h) (Or.inl ⟨by kernel_rfl, ?_⟩) (by assumption) ?_
  rotate_left
  · (intro wS hSw; (try dsimp only at hSw); go_simp; (try with_reducible rfl))
  (try simp only [Act.put, List.setIfInBounds_toArray, List.set_cons_zero, List.set_cons_succ])
  refine wpAnyH_take (i := 8) (v := ?_) rfl (by kernel_rfl) (by kernel_rfl) (by kernel_rfl) (fun _ _ _ h => h) (Or.inl ⟨by kernel_rfl, ?_⟩) (by assumption) ?_
  rotate_left
  · (intro wS hSw; (try dsimp only at hSw); go_simp; (try with_reducible rfl))
  (try simp only [Act.put, List.setIfInBounds_toArray, List.set_cons_zero, List.set_cons_succ])
  refine wpAnyH_take (i := 9) (v := ?_) rfl (by kernel_rfl) (by kernel_rfl) (by kernel_rfl) (fun _ _ _ h => h) (Or.inl ⟨by kernel_rfl, ?_⟩) (by assumption) ?_
  rotate_left
  · (intro wS hSw; (try dsimp only at hSw); go_simp; (try with_reducible rfl))
  (try simp only [Act.put, List.setIfInBounds_toArray, List.set_cons_zero, List.set_cons_succ])
  refine wpAnyH_done (by kernel_rfl) ?_ _
  (try simp only [List.getElem_toArray, List.getElem_cons_zero, List.getElem_cons_succ, Act.put, List.setIfInBounds_toArray, List.set_cons_zero, List.set_cons_succ])
  clear hHeld hHeld2 hHeld3
  go_wp2_with fail
  go_ret
  exact ⟨S4.out, _, rfl, HRN.out⟩
end Go.Proofs.YtalipfnbpnkgnaaGreat
