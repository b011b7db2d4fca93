/- grooveref29.unrank at valid graphs and sets (printed by gen_runr.py). -/
import Derived.Test.YtalipfnbpnkgnaaGreatRNeg
import Derived.Test.YtalipfnbpnkgnaaGreatRCmp01
import Derived.Test.YtalipfnbpnkgnaaGreatRCnt
import Derived.Test.YtalipfnbpnkgnaaGreatPart12
namespace Go.Proofs.YtalipfnbpnkgnaaGreat
open Go.RowKit

/-- The edges from a state among the first q. -/
def fo (es : List E3) (s : Int) (q : Nat) : List E3 := (es.take q).filter fun e => e.f == s
theorem fo_no {es : List E3} {s : Int} {q : Nat} {e : E3} (h : es[q]? = some e) (hs : ¬ e.f = s) : fo es s (q + 1) = fo es s q := by
  obtain ⟨hq, rfl⟩ := List.getElem?_eq_some_iff.1 h
  rw [fo, List.take_succ_eq_append_getElem hq, List.filter_append, fo]
  have : (es[q].f == s) = false := by simpa using hs
  simp [this]
theorem fo_yes {es : List E3} {s : Int} {q : Nat} {e : E3} (h : es[q]? = some e) (hs : e.f = s) : fo es s (q + 1) = fo es s q ++ [e] := by
  obtain ⟨hq, rfl⟩ := List.getElem?_eq_some_iff.1 h
  rw [fo, List.take_succ_eq_append_getElem hq, List.filter_append, fo]
  simp [hs]
theorem fo_full (es : List E3) (s : Int) : fo es s es.length = outE es s := by rw [fo, List.take_length]; rfl
theorem fo_prefix (es : List E3) (s : Int) (q : Nat) : fo es s q <+: outE es s := (List.take_prefix q es).filter _
/-- A row's number in a table. -/
theorem tab_at {w : World} {es : List E3} {S n m t : Nat} {p : Int → Bool} {bt ot ct : Nat} (ht : Tab w (.slice (some ⟨bt, ot, none⟩) (n + 1) ct) (tabL es S p n)) (hm : m ≤ n) (htS : t < S) :
    bt < w.heap.size ∧ ∃ br orr cr, br < w.heap.size ∧ w.cell? ⟨bt, ot + m, none⟩ = some (.slice (some ⟨br, orr, none⟩) S cr) ∧ w.cell? ⟨br, orr + t * 2, none⟩ = some (.bool (ineg (cw es p m (t : Int)))) ∧ w.cell? ⟨br, orr + t * 2 + 1, none⟩ = some (.string (imag (cw es p m (t : Int)))) := by
  obtain ⟨rvs, hrvl, hrt, hrows⟩ := ht
  rw [tabL_length] at hrt
  obtain ⟨bt', ot', he, hbt, htc⟩ := hrt.at_ (by omega)
  cases he
  obtain ⟨rv, hrv1, hrv2⟩ := hrows m _ (tabL_get (by omega))
  rw [rowK_length] at hrv2
  obtain ⟨ar, cr, rfl, hcr⟩ := hrv2.slice
  obtain ⟨br, orr, rfl, hbr, hrc⟩ := hrv2.at_ (by omega)
  have gy : (rowK es S p m)[t]? = some (cw es p m (t : Int)) := rowK_get htS
  have y1 := hrc _ _ (civ_get gy).2
  rw [← Nat.add_assoc] at y1
  exact ⟨hbt, br, orr, cr, hbr, htc m _ hrv1, hrc _ _ (civ_get gy).1, y1⟩
theorem letS_at {l : Int} (h0 : 0 ≤ l) (h1 : l < 16) : (lettersS.extract l.toNat (l + 1).toNat).data.toList = [letL l] := by
  have h : ∀ i : Fin 16, (lettersS.extract i.val (i.val + 1)).data.toList = [letL (i.val : Int)] := by decide +kernel
  have h2 := h ⟨l.toNat, by omega⟩
  have h3 : ((l.toNat : Nat) : Int) = l := by omega
  dsimp only at h2
  rw [h3] at h2
  rw [show (l + 1).toNat = l.toNat + 1 by omega]
  exact h2
theorem str_snoc (acc : List UInt8) (b : ByteArray) (c : UInt8) (h : b.data.toList = [c]) : (⟨acc.toArray⟩ : ByteArray) ++ b = ⟨(acc ++ [c]).toArray⟩ := by
  apply ByteArray.ext
  rw [ByteArray.data_append]
  apply Array.ext'
  simp [h]
/-- What unrank hands back. -/
def rUrV : Option (List UInt8 × Int) → Value
  | some r => .tuple #[.string ⟨r.1.toArray⟩, .int .i64 r.2, .bool true]
  | none => .tuple #[.string ⟨#[]⟩, .int .i64 0, .bool false]
set_option maxRecDepth 100000 in
set_option maxHeartbeats 8000000 in
theorem runr_in (L : Int) (S s0 n : Nat) (a0 : Int) (es : List E3) (set : List Int) (v vs : Value) (w : World) (hr : Row w v es.length (ce es)) (hrs : Row w vs set.length (ci set)) (hset : SomeS S set) (hS : S ≤ 64) (hl : es.length ≤ 1024) (hin : InS S es) (hlab : ∀ e ∈ es, 0 ≤ e.l ∧ e.l < 16) (hs0 : s0 < S) (hn : n ≤ 4096) (ha0 : 0 ≤ a0) (ha1 : a0 < cw es (pin set) n (s0 : Int)) :
    Calls Tryz.prog 47 #[.agg #[.int .i64 L, .int .i64 (S : Int), v], vs, .int .i64 (s0 : Int), .int .i64 (n : Int), .agg #[.bool (ineg a0), .string (imag a0)]] w (Ret w (rUrV (some (ur es (pin set) n (s0 : Int) a0)))) := by
  obtain ⟨va, vc, rfl, hle⟩ := hr.slice
  obtain ⟨sa, sc, rfl, hsle⟩ := hrs.slice
  have hlen := asc_len hset
  have hct := fun w' h h2 => counts_any L S n es set (.slice va es.length vc) (.slice sa set.length sc) w' h h2 hset.1 (by omega) hS hn hl hin
  obtain ⟨p, hp⟩ : ∃ p, p = pin set := ⟨_, rfl⟩
  rw [← hp] at ha1 hct ⊢
  have hmono : ∀ (m : Nat) (s : Int) (a : Int), m ≤ n → 0 ≤ a → a < cw es p m s → small a := fun m s a hm h0 h1 => by
    have hb := (cw_bigM (es := es) (by omega) p m (by omega) s).2
    exact SumOk.small (j := 1) ⟨h0, by omega⟩ (by omega)
  have hcsm : ∀ (m : Nat) (s : Int), m ≤ n → small (cw es p m s) := fun m s hm => cw_small (by omega) p m (by omega) s
  have hcmp := fun (x y : Int) w' (hx : small x) (hy : small y) => rcompare_any x y w' hx hy
  have hsub := fun (x y : Int) w' (hx : small x) (hy : small y) => rsub_any x y w' hx hy
  obtain ⟨R, hR⟩ : ∃ R, R = ur es p n (s0 : Int) a0 := ⟨_, rfl⟩
  rw [← hR]
  obtain ⟨mm, hmm⟩ : ∃ mm, mm = es.length := ⟨_, rfl⟩
  obtain ⟨ms, hms⟩ : ∃ ms, ms = set.length := ⟨_, rfl⟩
  have s0' := ((Below.refl w.heap.size w).alloc (Nat.le_refl _) (.cells #[.int .i64 L, .int .i64 (S : Int), .slice va es.length vc] 24)).alloc (by simp) (.cells #[.bool (ineg a0), .string (imag a0)] 33)
  have b0 := (Blk.new w 24 [.int .i64 L, .int .i64 (S : Int), .slice va es.length vc]).alloc (.cells #[.bool (ineg a0), .string (imag a0)] 33)
  have b1 := Blk.new (w.alloc (.cells #[.int .i64 L, .int .i64 (S : Int), .slice va es.length vc] 24)) 33 [.bool (ineg a0), .string (imag a0)]
  simp only [World.size_alloc] at b1
  have hrs0 := hrs.below s0' (Nat.le_refl _)
  have hr0 := hr.below s0' (Nat.le_refl _)
  rw [← hmm] at s0' b0 b1 hr0 hrs0 hct hl hle hr
  rw [← hms] at hct hrs0 hlen
  have HMM := Lib.hid hmm; clear hmm
  have HMS := Lib.hid hms; clear hms
  have HCT := Lib.hid hct; clear hct
  have HMONO := Lib.hid hmono; clear hmono
  have HCSM := Lib.hid hcsm; clear hcsm
  have HCMP := Lib.hid hcmp; clear hcmp
  have HSUB := Lib.hid hsub; clear hsub
  have HR0 := Lib.hid hR; clear hR
  have HIN := Lib.hid hin; clear hin
  have HLAB := Lib.hid hlab; clear hlab
  have S0 := Lib.hid s0'; clear s0'
  have B0 := Lib.hid b0; clear b0
  have B1 := Lib.hid b1; clear b1
  have HRW := Lib.hid hr; clear hr
  have HRR := Lib.hid hr0; clear hr0
  have HRS := Lib.hid hrs0; clear hrs0
  clear hrs hset hp
  go_enter Tryz.func47, Tryz.ntmps47
  rw [← HMM.out, ← HMS.out]
  go_wp2_with fail
  go_at_call 77
  refine (HCT.out _ HRR.out HRS.out).mono ?_
  rintro e w1 ⟨hq, tv, rfl, htb⟩
  have s1 := S0.out.trans (hq.mono S0.out.size)
  have k0 := B0.out.keep hq
  have k1 := B1.out.keep hq
  have hge : ∀ (W : World), W = (w.alloc (.cells #[.int .i64 L, .int .i64 (S : Int), .slice va mm vc] 24)).alloc (.cells #[.bool (ineg a0), .string (imag a0)] 33) → W.heap.size = w.heap.size + 2 := fun W h => by rw [h]; simp
  rw [hge _ rfl] at htb
  clear hge
  obtain ⟨bt, ot, ct, rfl⟩ : ∃ bt ot ct, tv = .slice (some ⟨bt, ot, none⟩) (n + 1) ct := by
    obtain ⟨rvs, hrvl, hrt, hrows⟩ := htb.tab
    rw [tabL_length] at hrt
    obtain ⟨at0, ct, rfl, hct⟩ := hrt.slice
    obtain ⟨bt, ot, rfl, -, -⟩ := hrt.at_ (by omega)
    exact ⟨bt, ot, ct, rfl⟩
  have htA := tab_at htb.tab (Nat.le_refl n) hs0
  obtain ⟨hbt, br, orr, cr, hbr, u0, u1, u2⟩ := htA
  have x0 := k1.cell (j := 0) rfl
  have x1 := k1.cell (j := 1) rfl
  have hsa := HMONO.out n (s0 : Int) a0 (Nat.le_refl n) ha0 ha1
  have hsY := HCSM.out n (s0 : Int) (Nat.le_refl n)
  obtain ⟨Y, hY⟩ : ∃ Y, Y = cw es p n (s0 : Int) := ⟨_, rfl⟩
  rw [← hY] at u1 u2 hsY
  have hc1 := fun w' => HCMP.out a0 Y w' hsa hsY
  obtain ⟨z1, hz1⟩ : ∃ z, z = cmpZ a0 Y := ⟨_, rfl⟩
  rw [← hz1] at hc1
  have t1 : decide (0 ≤ z1) = false := by
    have h := cmpZ_neg a0 Y
    rw [← hz1, decide_eq_decide] at h
    have h3 := h.2 (by rw [hY]; exact ha1)
    simp; omega
  have t0 : ineg a0 = false := decide_eq_false (by omega)
  have hix1 : (0 : Int) ≤ (n : Int) := by omega
  have hix2 : (n : Int) < (n : Int) + 1 := by omega
  have hix3 : (0 : Int) ≤ (s0 : Int) := by omega
  have hix4 : (s0 : Int) < (S : Int) := by omega
  have hg0 : w.heap.size < w1.heap.size := k0.lt
  have hg1 : w.heap.size + 1 < w1.heap.size := k1.lt
  have S1 := Lib.hid s1; clear s1
  have C0 := Lib.hid k0; clear k0
  have C1 := Lib.hid k1; clear k1
  have HTB := Lib.hid htb; clear htb
  have HC1 := Lib.hid hc1; clear hc1
  have HY := Lib.hid hY; clear hY
  clear hq hz1 hsa hsY
  go_wp2_with fail
  rw [t0] at x0
  refine wp_region_held_drew (S := fun w' => w'.cell? ⟨w.heap.size + 1, 0, none⟩ = some (.bool false) ∧ w'.cell? ⟨w.heap.size + 1, 1, none⟩ = some (.string (imag a0)) ∧ w'.cell? ⟨bt, ot + n, none⟩ = some (.slice (some ⟨br, orr, none⟩) S cr) ∧ w'.cell? ⟨br, orr + s0 * 2, none⟩ = some (.bool (ineg Y)) ∧ w'.cell? ⟨br, orr + s0 * 2 + 1, none⟩ = some (.string (imag Y))) (by kernel_rfl) ?_ (fun hHeld => ?_)
  · go_keep
  refine wpAnyH_take (i := 0) (v := ?_) rfl (by kernel_rfl) (by kernel_rfl) (by kernel_rfl) (fun _ _ _ h => h) (Or.inl ⟨by kernel_rfl, ?_⟩) (by assumption) ?_
  rotate_left
  · (intro wS hSw; (try dsimp only at hSw); go_simp; (try with_reducible rfl))
  (try simp only [Act.put, List.setIfInBounds_toArray, List.set_cons_zero, List.set_cons_succ])
  refine wpAnyH_take (i := 1) (v := ?_) rfl (by kernel_rfl) (by kernel_rfl) (by kernel_rfl) (fun _ _ _ h => h) (Or.inl ⟨by kernel_rfl, ?_⟩) (by assumption) ?_
  rotate_left
  · (intro wS hSw; (try dsimp only at hSw); go_simp; (try with_reducible rfl))
  (try simp only [Act.put, List.setIfInBounds_toArray, List.set_cons_zero, List.set_cons_succ])
  refine wpAnyH_take (i := 2) (v := ?_) rfl (by kernel_rfl) (by kernel_rfl) (by kernel_rfl) (fun _ _ _ h => h) (Or.inl ⟨by kernel_rfl, ?_⟩) (by assumption) ?_
  rotate_left
  · (intro wS hSw; (try dsimp only at hSw); go_simp; (try with_reducible rfl))
  (try simp only [Act.put, List.setIfInBounds_toArray, List.set_cons_zero, List.set_cons_succ])
  refine wpAnyH_take (i := 3) (v := ?_) rfl (by kernel_rfl) (by kernel_rfl) (by kernel_rfl) (fun _ _ _ h => h) (Or.inl ⟨by kernel_rfl, ?_⟩) (by assumption) ?_
  rotate_left
  · (intro wS hSw; (try dsimp only at hSw); go_simp; (try with_reducible rfl))
  (try simp only [Act.put, List.setIfInBounds_toArray, List.set_cons_zero, List.set_cons_succ])
  refine wpAnyH_take (i := 4) (v := ?_) rfl (by kernel_rfl) (by kernel_rfl) (by kernel_rfl) (fun _ _ _ h => h) (Or.inl ⟨by kernel_rfl, ?_⟩) (by assumption) ?_
  rotate_left
  · (intro wS hSw; (try dsimp only at hSw); go_simp; (try with_reducible rfl))
  (try simp only [Act.put, List.setIfInBounds_toArray, List.set_cons_zero, List.set_cons_succ])
  refine wpAnyH_take (i := 5) (v := ?_) rfl (by kernel_rfl) (by kernel_rfl) (by kernel_rfl) (fun _ _ _ h => h) (Or.inl ⟨by kernel_rfl, ?_⟩) (by assumption) ?_
  rotate_left
  · (intro wS hSw; (try dsimp only at hSw); go_simp; (try with_reducible rfl))
  (try simp only [Act.put, List.setIfInBounds_toArray, List.set_cons_zero, List.set_cons_succ])
  refine wpAnyH_take (i := 6) (v := ?_) rfl (by kernel_rfl) (by kernel_rfl) (by kernel_rfl) (fun _ _ _ h => h) (Or.inl ⟨by kernel_rfl, ?_⟩) (by assumption) ?_
  rotate_left
  · (intro wS hSw; (try dsimp only at hSw); go_simp; (try with_reducible rfl))
  (try simp only [Act.put, List.setIfInBounds_toArray, List.set_cons_zero, List.set_cons_succ])
  refine wpAnyH_take (i := 7) (v := ?_) rfl (by kernel_rfl) (by kernel_rfl) (by kernel_rfl) (fun _ _ _ h => h) (Or.inl ⟨by kernel_rfl, ?_⟩) (by assumption) ?_
  rotate_left
  · (intro wS hSw; (try dsimp only at hSw); go_simp; (try with_reducible rfl))
  (try simp only [Act.put, List.setIfInBounds_toArray, List.set_cons_zero, List.set_cons_succ])
  refine wpAnyH_take (i := 8) (v := ?_) rfl (by kernel_rfl) (by kernel_rfl) (by kernel_rfl) (fun _ _ _ h => h) (Or.inl ⟨by kernel_rfl, ?_⟩) (by assumption) ?_
  rotate_left
  · (intro wS hSw; (try dsimp only at hSw); go_simp; (try with_reducible rfl))
  (try simp only [Act.put, List.setIfInBounds_toArray, List.set_cons_zero, List.set_cons_succ])
  refine wpAnyH_take (i := 9) (v := ?_) rfl (by kernel_rfl) (by kernel_rfl) (by kernel_rfl) (fun _ _ _ h => h) (Or.inl ⟨by kernel_rfl, ?_⟩) (by assumption) ?_
  rotate_left
  · (intro wS hSw; (try dsimp only at hSw); go_simp; (try with_reducible rfl))
  (try simp only [Act.put, List.setIfInBounds_toArray, List.set_cons_zero, List.set_cons_succ])
  refine wpAnyH_take (i := 10) (v := ?_) rfl (by kernel_rfl) (by kernel_rfl) (by kernel_rfl) (fun _ _ _ h => h) (Or.inl ⟨by kernel_rfl, ?_⟩) (by assumption) ?_
  rotate_left
  · (intro wS hSw; (try dsimp only at hSw); go_simp; (try with_reducible rfl))
  (try simp only [Act.put, List.setIfInBounds_toArray, List.set_cons_zero, List.set_cons_succ])
  (try simp only [List.getElem_toArray, List.getElem_cons_zero, List.getElem_cons_succ, Act.put, List.setIfInBounds_toArray, List.set_cons_zero, List.set_cons_succ])
  refine wpAnyH_ready (rs := [11]) (by kernel_rfl) (by simp) ?_
  refine AllReadyH.cons rfl (fun K hK => ?_) AllReadyH.nil
  rw [if_pos (by kernel_rfl)]
  go_simp
  go_at_call 86
  rw [t0] at HC1
  refine (HC1.out _).mono ?_
  rintro e w2 ⟨hq, rfl⟩
  dsimp only
  have z0 := (hq.cell (p := ⟨w.heap.size + 1, 0, none⟩) (show w.heap.size + 1 < w1.heap.size by omega)).trans hHeld.1
  have z1 := (hq.cell (p := ⟨w.heap.size + 1, 1, none⟩) (show w.heap.size + 1 < w1.heap.size by omega)).trans hHeld.2.1
  have z2 := (hq.cell (p := ⟨bt, ot + n, none⟩) (show bt < w1.heap.size by omega)).trans hHeld.2.2.1
  have z3 := (hq.cell (p := ⟨br, orr + s0 * 2, none⟩) (show br < w1.heap.size by omega)).trans hHeld.2.2.2.1
  have z4 := (hq.cell (p := ⟨br, orr + s0 * 2 + 1, none⟩) (show br < w1.heap.size by omega)).trans hHeld.2.2.2.2
  refine hK.out _ _ ⟨z0, z1, z2, z3, z4⟩ (fun hHeld2 => ?_)
  clear hK K
  (try simp only [Act.put, List.setIfInBounds_toArray, List.set_cons_zero, List.set_cons_succ])
  have s2 := S1.out.drew.trans (hq.mono S1.out.size)
  have k0 := C0.out.drew.keep hq
  have k1 := C1.out.drew.keep hq
  have htb2 := (show TabB (w.heap.size + 2) w1.drew _ _ from HTB.out).below hq (Nat.le_refl _)
  clear hq hHeld z0 z1 z2 z3 z4 u0 u1 u2 x0 x1
  refine wpAnyH_take (i := 12) (v := ?_) rfl (by kernel_rfl) (by kernel_rfl) (by kernel_rfl) (fun _ _ _ h => h) (Or.inl ⟨by kernel_rfl, ?_⟩) (by assumption) ?_
  rotate_left
  · (intro wS hSw; (try dsimp only at hSw); go_simp; (try with_reducible rfl))
  (try simp only [Act.put, List.setIfInBounds_toArray, List.set_cons_zero, List.set_cons_succ])
  refine wpAnyH_take (i := 13) (v := ?_) rfl (by kernel_rfl) (by kernel_rfl) (by kernel_rfl) (fun _ _ _ h => h) (Or.inl ⟨by kernel_rfl, ?_⟩) (by assumption) ?_
  rotate_left
  · (intro wS hSw; (try dsimp only at hSw); go_simp; (try with_reducible rfl))
  (try simp only [Act.put, List.setIfInBounds_toArray, List.set_cons_zero, List.set_cons_succ])
  refine wpAnyH_done (by kernel_rfl) ?_ _
  (try simp only [List.getElem_toArray, List.getElem_cons_zero, List.getElem_cons_succ, Act.put, List.setIfInBounds_toArray, List.set_cons_zero, List.set_cons_succ])
  clear hHeld2
  rw [← HY.out] at ha1
  have S2 := Lib.hid s2; clear s2
  have D0 := Lib.hid k0; clear k0
  have D1 := Lib.hid k1; clear k1
  have HTB2 := Lib.hid htb2; clear htb2
  go_wp2_with fail
  go_loopw [2, 14, 15] (fun sv tv iv wr => ∃ (i : Nat) (acc : List UInt8) (si : Nat) (ai : Int), i ≤ n ∧ iv = .int .i64 i ∧ tv = .string ⟨acc.toArray⟩ ∧ sv = .int .i64 si ∧ si < S ∧ acc.length = i ∧ 0 ≤ ai ∧ ai < cw es p (n - i) (si : Int) ∧ R = (acc ++ (ur es p (n - i) (si : Int) ai).1, (ur es p (n - i) (si : Int) ai).2) ∧ Below w.heap.size w wr ∧ TabB (w.heap.size + 2) wr (.slice (some ⟨bt, ot, none⟩) (n + 1) ct) (tabL es S p n) ∧ Blk wr w.heap.size 24 [.int .i64 L, .int .i64 (S : Int), .slice va mm vc] ∧ Blk wr (w.heap.size + 1) 33 [.bool (ineg ai), .string (imag ai)]) (fun _ _ i _ => n - (intOf i).toNat)
  case atStart =>
    refine ⟨0, [], s0, a0, Nat.zero_le _, rfl, rfl, rfl, hs0, rfl, ha0, by rw [Nat.sub_zero, ← HY.out]; exact ha1, by rw [Nat.sub_zero, List.nil_append]; exact HR0.out, S2.out, HTB2.out, D0.out, ?_⟩
    have h := D1.out
    rwa [t0] at h
  case round =>
    obtain ⟨i, acc, si, ai, hi, rfl, rfl, rfl, hsi, hacl, hai0, hai1, hRR, hbel, htb3, kg, ka⟩ := hrel
    by_cases hlt : i < n
    · obtain ⟨m, hm⟩ : ∃ m, n - i = m + 1 := ⟨n - i - 1, by omega⟩
      rw [hm] at hai1 hRR
      obtain ⟨wo, rfl⟩ : ∃ wo : World, wo = wr := ⟨_, rfl⟩
      have hini : (i : Int) < (n : Int) := by omega
      have HRS1 := Lib.hid hRR; clear hRR
      have HBEL := Lib.hid hbel; clear hbel
      have HTB3 := Lib.hid htb3; clear htb3
      have KG := Lib.hid kg; clear kg
      have KA := Lib.hid ka; clear ka
      go_wp2_with fail
      go_loopw [2, 14, 16] (fun sv tv iv wr => ∃ (q : Nat) (a' : Int), q ≤ mm ∧ iv = .int .i64 q ∧ tv = .string ⟨acc.toArray⟩ ∧ sv = .int .i64 si ∧ urGo es p m (fo es (si : Int) q) ai = (none, a') ∧ Below w.heap.size w wr ∧ TabB (w.heap.size + 2) wr (.slice (some ⟨bt, ot, none⟩) (n + 1) ct) (tabL es S p n) ∧ Blk wr w.heap.size 24 [.int .i64 L, .int .i64 (S : Int), .slice va mm vc] ∧ Blk wr (w.heap.size + 1) 33 [.bool (ineg a'), .string (imag a')]) (fun _ _ i _ => mm - (intOf i).toNat)
      case atStart => exact ⟨0, ai, Nat.zero_le _, rfl, rfl, rfl, rfl, HBEL.out, HTB3.out, KG.out, KA.out⟩
      case round =>
        obtain ⟨q, a', hq, rfl, rfl, rfl, hgo, hbel, htb3, kg, ka⟩ := hrel
        by_cases hlt2 : q < mm
        · have hql : q < es.length := by rw [← HMM.out]; exact hlt2
          have hget : es[q]? = some (es[q]'hql) := List.getElem?_eq_getElem _
          obtain ⟨e, he⟩ : ∃ e, e = es[q]'hql := ⟨_, rfl⟩
          have hem : e ∈ es := by rw [he]; exact List.getElem_mem hql
          rw [← he] at hget
          obtain ⟨b, off, rfl, hb, hce⟩ := HRW.out.at_ (by omega)
          obtain ⟨e0, e1, e2⟩ := edge_cells hce hbel hb hget
          have x2 := kg.cell (j := 2) rfl
          have hgr : w.heap.size + 1 < wr.heap.size := ka.lt
          have hq0 : (0 : Int) ≤ (q : Int) := by omega
          have hq1 : (q : Int) < (mm : Int) := by omega
          have hal : Below wr.heap.size wr (wr.alloc (.cells #[.int .i64 e.f, .int .i64 e.l, .int .i64 e.t] 111)) := (Below.refl _ _).alloc (Nat.le_refl _) _
          have bel4 := hbel.trans (hal.mono hbel.size)
          have htb4 := htb3.below hal (Nat.le_refl _)
          have kg4 := kg.keep hal
          have ka4 := ka.keep hal
          have be4 := Blk.new wr 111 [.int .i64 e.f, .int .i64 e.l, .int .i64 e.t]
          clear hce he hal
          by_cases hf : e.f = (si : Int)
          · have hff : (e.f != (si : Int)) = false := by simpa using hf
            have hinE := HIN.out e hem
            have hlE := HLAB.out e hem
            obtain ⟨t, ht⟩ : ∃ t : Nat, e.t = t := ⟨e.t.toNat, by omega⟩
            have htS : t < S := by omega
            have hmn : m ≤ n := by omega
            have htA := tab_at htb4.tab hmn htS
            obtain ⟨hbt4, br4, or4, cr4, hbr4, u0, u1, u2⟩ := htA
            have hx2 : (ur es p m e.t a') = (ur es p m e.t a') := rfl
            have hbd := urGo_bd es p m (fo es (si : Int) q) ai hai0
            rw [hgo] at hbd
            dsimp only at hbd
            have hsa' : small a' := HMONO.out (m + 1) (si : Int) a' (by omega) hbd.1 (by omega)
            have hsc := HCSM.out m (t : Int) hmn
            obtain ⟨c, hc⟩ : ∃ c, c = cw es p m (t : Int) := ⟨_, rfl⟩
            rw [← hc] at u1 u2 hsc
            have hmi : (n : Int) - 1 - (i : Int) = (m : Int) := by omega
            have q1 : IntKind.i64.wrap ((n : Int) - 1) = (n : Int) - 1 := IntWalk.i64_in _ (by omega)
            have q2 : IntKind.i64.wrap (m : Int) = (m : Int) := IntWalk.i64_in _ (by omega)
            have q3 : (0 : Int) ≤ (m : Int) := by omega
            have q4 : (m : Int) < (n : Int) + 1 := by omega
            have q5 : (0 : Int) ≤ (t : Int) := by omega
            have q6 : (t : Int) < (S : Int) := by omega
            have hcm := fun w' => HCMP.out a' c w' hsa' hsc
            have hsb := fun w' => HSUB.out a' c w' hsa' hsc
            obtain ⟨lb, hlb⟩ : ∃ lb, lb = e.l := ⟨_, rfl⟩
            rw [ht] at be4 bel4 htb4 kg4 ka4 u0 u1 u2 e2 hbt4 hbr4
            have hgoE : ∀ h : a' < c, urGo es p m (outE es (si : Int)) ai = (some e, a') := fun h => by
              have h1 := urGo_snoc_yes (es := es) (p := p) (k := m) (pre := fo es (si : Int) q) (e := e) (a := ai) (by rw [hgo]) (by rw [hgo, ht, ← hc]; exact h)
              rw [hgo] at h1
              have h2 : fo es (si : Int) (q + 1) = fo es (si : Int) q ++ [e] := fo_yes hget hf
              have h3 := urGo_prefix (fo_prefix es (si : Int) (q + 1)) (by rw [h2, h1])
              rw [h2, h1] at h3
              exact h3
            have hgoN : ∀ h : ¬ a' < c, urGo es p m (fo es (si : Int) (q + 1)) ai = (none, a' - c) := fun h => by
              rw [fo_yes hget hf, urGo_snoc_no (by rw [hgo]) (by rw [hgo, ht, ← hc]; exact h), hgo, ht, ← hc]
            have hltE : e.l = lb := hlb.symm
            rw [hltE] at e1 be4 bel4 htb4 kg4 ka4 u0 u1 u2 hlE hbt4 hbr4
            rw [hf] at e0 be4 bel4 htb4 kg4 ka4 u0 u1 u2 hbt4 hbr4
            have HGOE := Lib.hid hgoE; clear hgoE
            have HGON := Lib.hid hgoN; clear hgoN
            have HCM := Lib.hid hcm; clear hcm
            have HSB := Lib.hid hsb; clear hsb
            have HM := Lib.hid hm; clear hm
            have HLT := Lib.hid hltE; clear hltE
            have HT := Lib.hid ht; clear ht
            have HC := Lib.hid hc; clear hc
            have BEL4 := Lib.hid bel4; clear bel4
            have HTB4 := Lib.hid htb4; clear htb4
            have KG4 := Lib.hid kg4; clear kg4
            have KA4 := Lib.hid ka4; clear ka4
            have BE4 := Lib.hid be4; clear be4
            clear hbel htb3 kg ka hget hem hlb hgo hx2 hinE
            have hT2 := HT.out
            have hL2 := HLT.out
            have HF := Lib.hid hf; clear hf
            go_wp2_with fail
            obtain ⟨BE, hBE⟩ : ∃ BE, BE = wr.heap.size := ⟨_, rfl⟩
            obtain ⟨wz, hwz⟩ : ∃ wz, wr.alloc (.cells #[.int .i64 (si : Int), .int .i64 lb, .int .i64 (t : Int)] 111) = wz := ⟨_, rfl⟩
            rw [← hBE] at BE4 ⊢
            rw [hwz] at BEL4 HTB4 KG4 KA4 BE4 u0 u1 u2 hbt4 hbr4 ⊢
            have hBEl : BE < wz.heap.size := BE4.out.lt
            have hBE2 : w.heap.size + 1 < BE := by rw [hBE]; exact hgr
            have hgz : w.heap.size + 1 < wz.heap.size := by omega
            have c2 := BE4.out.cell (j := 2) rfl
            clear hwz hBE e0 e1 e2 x2 hT2 hL2
            refine wp_region_held_drew (S := fun w' => w'.cell? ⟨bt, ot + m, none⟩ = some (.slice (some ⟨br4, or4, none⟩) S cr4) ∧ w'.cell? ⟨br4, or4 + t * 2, none⟩ = some (.bool (ineg c)) ∧ w'.cell? ⟨br4, or4 + t * 2 + 1, none⟩ = some (.string (imag c)) ∧ w'.cell? ⟨BE, 2, none⟩ = some (.int .i64 (t : Int))) (by kernel_rfl) ?_ (fun hHeld => ?_)
            · go_keep
            refine wpAnyH_take (i := 0) (v := ?_) rfl (by kernel_rfl) (by kernel_rfl) (by kernel_rfl) (fun _ _ _ h => h) (Or.inl ⟨by kernel_rfl, ?_⟩) (by assumption) ?_
            rotate_left
            · (intro wS hSw; (try dsimp only at hSw); go_simp; (try with_reducible rfl))
            (try simp only [Act.put, List.setIfInBounds_toArray, List.set_cons_zero, List.set_cons_succ])
            refine wpAnyH_take (i := 1) (v := ?_) rfl (by kernel_rfl) (by kernel_rfl) (by kernel_rfl) (fun _ _ _ h => h) (Or.inl ⟨by kernel_rfl, ?_⟩) (by assumption) ?_
            rotate_left
            · (intro wS hSw; (try dsimp only at hSw); go_simp; (try with_reducible rfl))
            (try simp only [Act.put, List.setIfInBounds_toArray, List.set_cons_zero, List.set_cons_succ])
            refine wpAnyH_take (i := 2) (v := ?_) rfl (by kernel_rfl) (by kernel_rfl) (by kernel_rfl) (fun _ _ _ h => h) (Or.inl ⟨by kernel_rfl, ?_⟩) (by assumption) ?_
            rotate_left
            · (intro wS hSw; (try dsimp only at hSw); go_simp; (try with_reducible rfl))
            (try simp only [Act.put, List.setIfInBounds_toArray, List.set_cons_zero, List.set_cons_succ])
            refine wpAnyH_take (i := 3) (v := ?_) rfl (by kernel_rfl) (by kernel_rfl) (by kernel_rfl) (fun _ _ _ h => h) (Or.inl ⟨by kernel_rfl, ?_⟩) (by assumption) ?_
            rotate_left
            · (intro wS hSw; (try dsimp only at hSw); go_simp; (try with_reducible rfl))
            (try simp only [Act.put, List.setIfInBounds_toArray, List.set_cons_zero, List.set_cons_succ])
            refine wpAnyH_take (i := 4) (v := ?_) rfl (by kernel_rfl) (by kernel_rfl) (by kernel_rfl) (fun _ _ _ h => h) (Or.inl ⟨by kernel_rfl, ?_⟩) (by assumption) ?_
            rotate_left
            · (intro wS hSw; (try dsimp only at hSw); go_simp; (try with_reducible rfl))
            (try simp only [Act.put, List.setIfInBounds_toArray, List.set_cons_zero, List.set_cons_succ])
            refine wpAnyH_take (i := 5) (v := ?_) rfl (by kernel_rfl) (by kernel_rfl) (by kernel_rfl) (fun _ _ _ h => h) (Or.inl ⟨by kernel_rfl, ?_⟩) (by assumption) ?_
            rotate_left
            · (intro wS hSw; (try dsimp only at hSw); go_simp; (try with_reducible rfl))
            (try simp only [Act.put, List.setIfInBounds_toArray, List.set_cons_zero, List.set_cons_succ])
            refine wpAnyH_take (i := 6) (v := ?_) rfl (by kernel_rfl) (by kernel_rfl) (by kernel_rfl) (fun _ _ _ h => h) (Or.inl ⟨by kernel_rfl, ?_⟩) (by assumption) ?_
            rotate_left
            · (intro wS hSw; (try dsimp only at hSw); go_simp; (try with_reducible rfl))
            (try simp only [Act.put, List.setIfInBounds_toArray, List.set_cons_zero, List.set_cons_succ])
            refine wpAnyH_take (i := 7) (v := ?_) rfl (by kernel_rfl) (by kernel_rfl) (by kernel_rfl) (fun _ _ _ h => h) (Or.inl ⟨by kernel_rfl, ?_⟩) (by assumption) ?_
            rotate_left
            · (intro wS hSw; (try dsimp only at hSw); go_simp; (try with_reducible rfl))
            (try simp only [Act.put, List.setIfInBounds_toArray, List.set_cons_zero, List.set_cons_succ])
            refine wpAnyH_take (i := 8) (v := ?_) rfl (by kernel_rfl) (by kernel_rfl) (by kernel_rfl) (fun _ _ _ h => h) (Or.inl ⟨by kernel_rfl, ?_⟩) (by assumption) ?_
            rotate_left
            · (intro wS hSw; (try dsimp only at hSw); go_simp; (try with_reducible rfl))
            (try simp only [Act.put, List.setIfInBounds_toArray, List.set_cons_zero, List.set_cons_succ])
            refine wpAnyH_take (i := 9) (v := ?_) rfl (by kernel_rfl) (by kernel_rfl) (by kernel_rfl) (fun _ _ _ h => h) (Or.inl ⟨by kernel_rfl, ?_⟩) (by assumption) ?_
            rotate_left
            · (intro wS hSw; (try dsimp only at hSw); go_simp; (try with_reducible rfl))
            (try simp only [Act.put, List.setIfInBounds_toArray, List.set_cons_zero, List.set_cons_succ])
            refine wpAnyH_take (i := 10) (v := ?_) rfl (by kernel_rfl) (by kernel_rfl) (by kernel_rfl) (fun _ _ _ h => h) (Or.inl ⟨by kernel_rfl, ?_⟩) (by assumption) ?_
            rotate_left
            · (intro wS hSw; (try dsimp only at hSw); go_simp; (try with_reducible rfl))
            (try simp only [Act.put, List.setIfInBounds_toArray, List.set_cons_zero, List.set_cons_succ])
            refine wpAnyH_ready (rs := [11]) (by kernel_rfl) (by simp) ?_
            refine AllReadyH.cons rfl (fun K hK => ?_) AllReadyH.nil
            go_simp
            refine hK.out _ _ ?_ (fun hHeld => ?_)
            · ((try dsimp only); go_keep)
            clear hK K
            (try simp only [Act.put, List.setIfInBounds_toArray, List.set_cons_zero, List.set_cons_succ])
            have hbq : Below (wz.drew).heap.size (wz.drew) ((wz.drew).alloc (.cells #[.bool false, .string ⟨#[]⟩] 33)) := (Below.refl _ _).alloc (Nat.le_refl _) _
            have a5 := Blk.new (wz.drew) 33 [.bool false, .string ⟨#[]⟩]
            have g5 : (wz.drew).heap.size = wz.heap.size := rfl
            rw [g5] at a5
            have s5 := ((Below.refl wz.heap.size wz).drew).trans (hbq.mono ((Below.refl wz.heap.size wz).drew).size)
            obtain ⟨bAwv1, hba⟩ : ∃ ba, ba = wz.heap.size := ⟨_, rfl⟩
            have hanewv1 : wz.heap.size ≤ bAwv1 := by have := ((Below.refl wz.heap.size wz).drew).size; omega
            rw [← hba] at a5
            have e5 : (wz.drew).alloc (.cells #[.bool false, .string ⟨#[]⟩] 33) = (wz.alloc (.cells #[.bool false, .string ⟨#[]⟩] 33)).drew := rfl
            rw [e5] at a5 s5 hbq
            obtain ⟨wv1, hv5⟩ : ∃ wv1, (wz.alloc (.cells #[.bool false, .string ⟨#[]⟩] 33)).drew = wv1 := ⟨_, rfl⟩
            rw [hv5] at hHeld a5 s5 hbq
            have l5 : wz.heap.size ≤ wv1.heap.size := s5.size
            have AAwv1 := Lib.hid a5; clear a5
            have Swv1 := Lib.hid s5; clear s5
            have hpa : (Value.pointer (some ⟨wz.heap.size, 0, none⟩)) = Value.pointer (some ⟨bAwv1, 0, none⟩) := by rw [hba]
            (try simp only [World.size_drew])
            rw [hv5]
            (try rw [hpa])
            clear hbq hv5 hba hpa g5 e5
            have a0 := (AAwv1.out).cell (j := 0) rfl
            have a1 := (AAwv1.out).cell (j := 1) rfl
            have f0 := (AAwv1.out).frozen 0
            have f1 := (AAwv1.out).frozen 1
            have hnb1 : ¬ bAwv1 = bt := by omega
            have hnb2 : ¬ bAwv1 = br4 := by omega
            have hnb3 : ¬ bAwv1 = BE := by omega
            refine wpAnyH_ready (rs := [12]) (by kernel_rfl) (by simp) ?_
            refine AllReadyH.cons rfl (fun K hK => ?_) AllReadyH.nil
            go_simp
            refine hK.out _ _ ?_ (fun hHeld => ?_)
            · ((try dsimp only); go_keep)
            clear hK K
            (try simp only [Act.put, List.setIfInBounds_toArray, List.set_cons_zero, List.set_cons_succ])
            refine wpAnyH_done (by kernel_rfl) ?_ _
            (try simp only [List.getElem_toArray, List.getElem_cons_zero, List.getElem_cons_succ, Act.put, List.setIfInBounds_toArray, List.set_cons_zero, List.set_cons_succ])
            have hA := ((AAwv1.out).set 0 (.bool (ineg c))).set 1 (.string (imag c))
            have hS := ((Swv1.out).setCell (p := ⟨bAwv1, 0, none⟩) (show wz.heap.size ≤ bAwv1 by omega) (.bool (ineg c))).setCell (p := ⟨bAwv1, 1, none⟩) (show wz.heap.size ≤ bAwv1 by omega) (.string (imag c))
            clear hHeld a0 a1 f0 f1
            obtain ⟨wy, hwy⟩ : ∃ wy, (wv1.setCell ⟨bAwv1, 0, none⟩ (.bool (ineg c))).setCell ⟨bAwv1, 1, none⟩ (.string (imag c)) = wy := ⟨_, rfl⟩
            rw [hwy] at hA hS ⊢
            obtain ⟨BC, hBC⟩ : ∃ BC, BC = bAwv1 := ⟨_, rfl⟩
            rw [← hBC] at hA ⊢
            have hBCl : BC < wy.heap.size := hA.lt
            have hBC2 : wz.heap.size ≤ BC := by omega
            clear hwy hBC u0 u1 u2 c2
            have bel5 := BEL4.out.trans (hS.mono BEL4.out.size)
            have htb5 := HTB4.out.below hS (Nat.le_refl _)
            have kg5 := KG4.out.keep hS
            have ka5 := KA4.out.keep hS
            have be5 := BE4.out.keep hS
            have x0 := ka5.cell (j := 0) rfl
            have x1 := ka5.cell (j := 1) rfl
            have y0 := hA.cell (j := 0) rfl
            have y1 := hA.cell (j := 1) rfl
            have c1 := be5.cell (j := 1) rfl
            have c2 := be5.cell (j := 2) rfl
            have hgy : w.heap.size + 1 < wy.heap.size := ka5.lt
            have BEL5 := Lib.hid bel5; clear bel5
            have HTB5 := Lib.hid htb5; clear htb5
            have KG5 := Lib.hid kg5; clear kg5
            have KA5 := Lib.hid ka5; clear ka5
            have BE5 := Lib.hid be5; clear be5
            have HA5 := Lib.hid hA; clear hA
            clear hS
            go_wp2_with fail
            go_at_call 86
            refine (HCM.out _).mono ?_
            rintro e' w5 ⟨hq5, rfl⟩
            have bel6 := BEL5.out.trans (hq5.mono BEL5.out.size)
            have htb6 := HTB5.out.below hq5 (Nat.le_refl _)
            have hg5 : wy.heap.size ≤ w5.heap.size := hq5.size
            clear x0 x1 y0 y1 c1 c2
            have kg6 := KG5.out.keep hq5
            have ka6 := KA5.out.keep hq5
            have be6 := BE5.out.keep hq5
            have bc6 := HA5.out.keep hq5
            have x0 := ka6.cell (j := 0) rfl
            have x1 := ka6.cell (j := 1) rfl
            have y0 := bc6.cell (j := 0) rfl
            have y1 := bc6.cell (j := 1) rfl
            have c1 := be6.cell (j := 1) rfl
            have c2 := be6.cell (j := 2) rfl
            have BEL6 := Lib.hid bel6; clear bel6
            have HTB6 := Lib.hid htb6; clear htb6
            have KG6 := Lib.hid kg6; clear kg6
            have KA6 := Lib.hid ka6; clear ka6
            clear hq5 be6
            have hzn := cmpZ_neg a' c
            by_cases hlt3 : a' < c
            · have tz : decide (cmpZ a' c < 0) = true := by rw [hzn]; exact decide_eq_true hlt3
              obtain ⟨zz, hzz⟩ : ∃ zz, zz = cmpZ a' c := ⟨_, rfl⟩
              rw [← hzz] at tz ⊢
              have l0 : (0 : Int) ≤ lb := hlE.1
              have l1 : lb ≤ lb + 1 := by omega
              have l2 : lb + 1 ≤ 16 := by omega
              have l3 : IntKind.i64.wrap (lb + 1) = lb + 1 := IntWalk.i64_in _ (by omega)
              have l4 : ¬ 9223372036854775807 < acc.length + ((lb + 1).toNat - lb.toNat) := by omega
              clear hzn hzz bc6
              go_wp2_with fail
              have hnm : n - (i + 1) = m := by have := HM.out; omega
              refine ⟨⟨i + 1, acc ++ [letL lb], t, a', by omega, by go_num, ?_, rfl, htS, by rw [List.length_append, hacl]; rfl, hbd.1, by rw [hnm, ← HC.out]; exact hlt3, ?_, BEL6.out, HTB6.out, KG6.out, KA6.out⟩, by simp [intOf]; omega⟩
              · exact congrArg Value.string (str_snoc acc _ _ (letS_at l0 (by omega)))
              · rw [hnm, HRS1.out, ur, HGOE.out hlt3]
                dsimp only
                rw [HT.out, HLT.out, List.append_assoc]
                rfl
            · have tz : decide (cmpZ a' c < 0) = false := by rw [hzn]; exact decide_eq_false hlt3
              obtain ⟨zz, hzz⟩ : ∃ zz, zz = cmpZ a' c := ⟨_, rfl⟩
              rw [← hzz] at tz ⊢
              clear hzn hzz bc6
              go_wp2_with fail
              go_at_call 87
              refine (HSB.out _).mono ?_
              rintro e'' w6 ⟨hq6, rfl⟩
              have bel7 := BEL6.out.trans (hq6.mono BEL6.out.size)
              have htb7 := HTB6.out.below hq6 (Nat.le_refl _)
              have kg7 := KG6.out.keep hq6
              have ka7 := KA6.out.keep hq6
              clear x0 x1 y0 y1 c1 c2
              have x0 := ka7.cell (j := 0) rfl
              have x1 := ka7.cell (j := 1) rfl
              have f0 := ka7.frozen 0
              have f1 := ka7.frozen 1
              have hne1 : ¬ w.heap.size + 1 = w.heap.size := by omega
              have BEL7 := Lib.hid bel7; clear bel7
              have HTB7 := Lib.hid htb7; clear htb7
              have KG7 := Lib.hid kg7; clear kg7
              have KA7 := Lib.hid ka7; clear ka7
              clear hq6
              go_wp2_with fail
              go_roundw
              case rel =>
                refine ⟨q + 1, a' - c, by omega, by go_num, rfl, rfl, HGON.out hlt3, (BEL7.out.setCell (p := ⟨w.heap.size + 1, 0, none⟩) (Nat.le_succ _) _).setCell (p := ⟨w.heap.size + 1, 1, none⟩) (Nat.le_succ _) _, (HTB7.out.put (Nat.lt_succ_self _) 0 _).put (Nat.lt_succ_self _) 1 _, ?_, (KA7.out.set 0 _).set 1 _⟩
                exact KG7.out.of_block ((Below.heap_setCell _ ⟨w.heap.size + 1, 1, none⟩ _ w.heap.size (by simp)).trans (Below.heap_setCell _ ⟨w.heap.size + 1, 0, none⟩ _ w.heap.size (by simp)))
              case measure => simp [intOf]; omega
          · have hff : (e.f != (si : Int)) = true := by simpa using hf
            have hgo2 : urGo es p m (fo es (si : Int) (q + 1)) ai = (none, a') := by rw [fo_no hget hf]; exact hgo
            have HGO := Lib.hid hgo2; clear hgo2
            have HM := Lib.hid hm; clear hm
            have BEL4 := Lib.hid bel4; clear bel4
            have HTB4 := Lib.hid htb4; clear htb4
            have KG4 := Lib.hid kg4; clear kg4
            have KA4 := Lib.hid ka4; clear ka4
            clear hbel htb3 kg ka hget hem hgo be4
            go_wp2_with fail
            go_roundw
            case rel => exact ⟨q + 1, a', by omega, by go_num, rfl, rfl, HGO.out, BEL4.out, HTB4.out, KG4.out, KA4.out⟩
            case measure => simp [intOf]; omega
        · obtain rfl : q = mm := by omega
          exfalso
          rw [HMM.out, fo_full] at hgo
          rw [cw_succ] at hai1
          exact urGo_found hai1 hai0 (by rw [hgo])
    · obtain rfl : i = n := by omega
      rw [Nat.sub_self] at hRR
      have hR2 : R = (acc, (si : Int)) := by rw [hRR]; simp [ur]
      have HBEL := Lib.hid hbel; clear hbel
      clear hRR htb3 kg ka
      go_wp2_with fail
      go_ret3
      refine ⟨HBEL.out, ?_⟩
      rw [hR2]
      rfl
set_option maxRecDepth 100000 in
set_option maxHeartbeats 8000000 in
theorem runr_big (L : Int) (S s0 n : Nat) (a0 : Int) (es : List E3) (set : List Int) (v vs : Value) (w : World) (hr : Row w v es.length (ce es)) (hrs : Row w vs set.length (ci set)) (hset : SomeS S set) (hS : S ≤ 64) (hl : es.length ≤ 1024) (hin : InS S es) (hlab : ∀ e ∈ es, 0 ≤ e.l ∧ e.l < 16) (hs0 : s0 < S) (hn : n ≤ 4096) (sA : small a0) (ha0 : 0 ≤ a0) (ha1 : cw es (pin set) n (s0 : Int) ≤ a0) :
    Calls Tryz.prog 47 #[.agg #[.int .i64 L, .int .i64 (S : Int), v], vs, .int .i64 (s0 : Int), .int .i64 (n : Int), .agg #[.bool (ineg a0), .string (imag a0)]] w (Ret w (rUrV none)) := by
  obtain ⟨va, vc, rfl, hle⟩ := hr.slice
  obtain ⟨sa, sc, rfl, hsle⟩ := hrs.slice
  have hlen := asc_len hset
  have hct := fun w' h h2 => counts_any L S n es set (.slice va es.length vc) (.slice sa set.length sc) w' h h2 hset.1 (by omega) hS hn hl hin
  obtain ⟨p, hp⟩ : ∃ p, p = pin set := ⟨_, rfl⟩
  rw [← hp] at ha1 hct
  have hmono : ∀ (m : Nat) (s : Int) (a : Int), m ≤ n → 0 ≤ a → a < cw es p m s → small a := fun m s a hm h0 h1 => by
    have hb := (cw_bigM (es := es) (by omega) p m (by omega) s).2
    exact SumOk.small (j := 1) ⟨h0, by omega⟩ (by omega)
  have hcsm : ∀ (m : Nat) (s : Int), m ≤ n → small (cw es p m s) := fun m s hm => cw_small (by omega) p m (by omega) s
  have hcmp := fun (x y : Int) w' (hx : small x) (hy : small y) => rcompare_any x y w' hx hy
  have hsub := fun (x y : Int) w' (hx : small x) (hy : small y) => rsub_any x y w' hx hy
  obtain ⟨mm, hmm⟩ : ∃ mm, mm = es.length := ⟨_, rfl⟩
  obtain ⟨ms, hms⟩ : ∃ ms, ms = set.length := ⟨_, rfl⟩
  have s0' := ((Below.refl w.heap.size w).alloc (Nat.le_refl _) (.cells #[.int .i64 L, .int .i64 (S : Int), .slice va es.length vc] 24)).alloc (by simp) (.cells #[.bool (ineg a0), .string (imag a0)] 33)
  have b0 := (Blk.new w 24 [.int .i64 L, .int .i64 (S : Int), .slice va es.length vc]).alloc (.cells #[.bool (ineg a0), .string (imag a0)] 33)
  have b1 := Blk.new (w.alloc (.cells #[.int .i64 L, .int .i64 (S : Int), .slice va es.length vc] 24)) 33 [.bool (ineg a0), .string (imag a0)]
  simp only [World.size_alloc] at b1
  have hrs0 := hrs.below s0' (Nat.le_refl _)
  have hr0 := hr.below s0' (Nat.le_refl _)
  rw [← hmm] at s0' b0 b1 hr0 hrs0 hct hl hle hr
  rw [← hms] at hct hrs0 hlen
  have HMM := Lib.hid hmm; clear hmm
  have HMS := Lib.hid hms; clear hms
  have HCT := Lib.hid hct; clear hct
  have HMONO := Lib.hid hmono; clear hmono
  have HCSM := Lib.hid hcsm; clear hcsm
  have HCMP := Lib.hid hcmp; clear hcmp
  have HSUB := Lib.hid hsub; clear hsub
  have HIN := Lib.hid hin; clear hin
  have HLAB := Lib.hid hlab; clear hlab
  have S0 := Lib.hid s0'; clear s0'
  have B0 := Lib.hid b0; clear b0
  have B1 := Lib.hid b1; clear b1
  have HRW := Lib.hid hr; clear hr
  have HRR := Lib.hid hr0; clear hr0
  have HRS := Lib.hid hrs0; clear hrs0
  clear hrs hset hp
  go_enter Tryz.func47, Tryz.ntmps47
  rw [← HMM.out, ← HMS.out]
  go_wp2_with fail
  go_at_call 77
  refine (HCT.out _ HRR.out HRS.out).mono ?_
  rintro e w1 ⟨hq, tv, rfl, htb⟩
  have s1 := S0.out.trans (hq.mono S0.out.size)
  have k0 := B0.out.keep hq
  have k1 := B1.out.keep hq
  have hge : ∀ (W : World), W = (w.alloc (.cells #[.int .i64 L, .int .i64 (S : Int), .slice va mm vc] 24)).alloc (.cells #[.bool (ineg a0), .string (imag a0)] 33) → W.heap.size = w.heap.size + 2 := fun W h => by rw [h]; simp
  rw [hge _ rfl] at htb
  clear hge
  obtain ⟨bt, ot, ct, rfl⟩ : ∃ bt ot ct, tv = .slice (some ⟨bt, ot, none⟩) (n + 1) ct := by
    obtain ⟨rvs, hrvl, hrt, hrows⟩ := htb.tab
    rw [tabL_length] at hrt
    obtain ⟨at0, ct, rfl, hct⟩ := hrt.slice
    obtain ⟨bt, ot, rfl, -, -⟩ := hrt.at_ (by omega)
    exact ⟨bt, ot, ct, rfl⟩
  have htA := tab_at htb.tab (Nat.le_refl n) hs0
  obtain ⟨hbt, br, orr, cr, hbr, u0, u1, u2⟩ := htA
  have x0 := k1.cell (j := 0) rfl
  have x1 := k1.cell (j := 1) rfl
  have hsa := sA
  have hsY := HCSM.out n (s0 : Int) (Nat.le_refl n)
  obtain ⟨Y, hY⟩ : ∃ Y, Y = cw es p n (s0 : Int) := ⟨_, rfl⟩
  rw [← hY] at u1 u2 hsY
  have hc1 := fun w' => HCMP.out a0 Y w' hsa hsY
  obtain ⟨z1, hz1⟩ : ∃ z, z = cmpZ a0 Y := ⟨_, rfl⟩
  rw [← hz1] at hc1
  have t1 : decide (0 ≤ z1) = true := by
    have h := cmpZ_neg a0 Y
    rw [← hz1, decide_eq_decide] at h
    have h3 : ¬ z1 < 0 := fun h4 => by have := h.1 h4; omega
    simp; omega
  have t0 : ineg a0 = false := decide_eq_false (by omega)
  have hix1 : (0 : Int) ≤ (n : Int) := by omega
  have hix2 : (n : Int) < (n : Int) + 1 := by omega
  have hix3 : (0 : Int) ≤ (s0 : Int) := by omega
  have hix4 : (s0 : Int) < (S : Int) := by omega
  have hg0 : w.heap.size < w1.heap.size := k0.lt
  have hg1 : w.heap.size + 1 < w1.heap.size := k1.lt
  have S1 := Lib.hid s1; clear s1
  have C0 := Lib.hid k0; clear k0
  have C1 := Lib.hid k1; clear k1
  have HTB := Lib.hid htb; clear htb
  have HC1 := Lib.hid hc1; clear hc1
  have HY := Lib.hid hY; clear hY
  clear hq hz1 hsa hsY
  go_wp2_with fail
  rw [t0] at x0
  refine wp_region_held_drew (S := fun w' => w'.cell? ⟨w.heap.size + 1, 0, none⟩ = some (.bool false) ∧ w'.cell? ⟨w.heap.size + 1, 1, none⟩ = some (.string (imag a0)) ∧ w'.cell? ⟨bt, ot + n, none⟩ = some (.slice (some ⟨br, orr, none⟩) S cr) ∧ w'.cell? ⟨br, orr + s0 * 2, none⟩ = some (.bool (ineg Y)) ∧ w'.cell? ⟨br, orr + s0 * 2 + 1, none⟩ = some (.string (imag Y))) (by kernel_rfl) ?_ (fun hHeld => ?_)
  · go_keep
  refine wpAnyH_take (i := 0) (v := ?_) rfl (by kernel_rfl) (by kernel_rfl) (by kernel_rfl) (fun _ _ _ h => h) (Or.inl ⟨by kernel_rfl, ?_⟩) (by assumption) ?_
  rotate_left
  · (intro wS hSw; (try dsimp only at hSw); go_simp; (try with_reducible rfl))
  (try simp only [Act.put, List.setIfInBounds_toArray, List.set_cons_zero, List.set_cons_succ])
  refine wpAnyH_take (i := 1) (v := ?_) rfl (by kernel_rfl) (by kernel_rfl) (by kernel_rfl) (fun _ _ _ h => h) (Or.inl ⟨by kernel_rfl, ?_⟩) (by assumption) ?_
  rotate_left
  · (intro wS hSw; (try dsimp only at hSw); go_simp; (try with_reducible rfl))
  (try simp only [Act.put, List.setIfInBounds_toArray, List.set_cons_zero, List.set_cons_succ])
  refine wpAnyH_take (i := 2) (v := ?_) rfl (by kernel_rfl) (by kernel_rfl) (by kernel_rfl) (fun _ _ _ h => h) (Or.inl ⟨by kernel_rfl, ?_⟩) (by assumption) ?_
  rotate_left
  · (intro wS hSw; (try dsimp only at hSw); go_simp; (try with_reducible rfl))
  (try simp only [Act.put, List.setIfInBounds_toArray, List.set_cons_zero, List.set_cons_succ])
  refine wpAnyH_take (i := 3) (v := ?_) rfl (by kernel_rfl) (by kernel_rfl) (by kernel_rfl) (fun _ _ _ h => h) (Or.inl ⟨by kernel_rfl, ?_⟩) (by assumption) ?_
  rotate_left
  · (intro wS hSw; (try dsimp only at hSw); go_simp; (try with_reducible rfl))
  (try simp only [Act.put, List.setIfInBounds_toArray, List.set_cons_zero, List.set_cons_succ])
  refine wpAnyH_take (i := 4) (v := ?_) rfl (by kernel_rfl) (by kernel_rfl) (by kernel_rfl) (fun _ _ _ h => h) (Or.inl ⟨by kernel_rfl, ?_⟩) (by assumption) ?_
  rotate_left
  · (intro wS hSw; (try dsimp only at hSw); go_simp; (try with_reducible rfl))
  (try simp only [Act.put, List.setIfInBounds_toArray, List.set_cons_zero, List.set_cons_succ])
  refine wpAnyH_take (i := 5) (v := ?_) rfl (by kernel_rfl) (by kernel_rfl) (by kernel_rfl) (fun _ _ _ h => h) (Or.inl ⟨by kernel_rfl, ?_⟩) (by assumption) ?_
  rotate_left
  · (intro wS hSw; (try dsimp only at hSw); go_simp; (try with_reducible rfl))
  (try simp only [Act.put, List.setIfInBounds_toArray, List.set_cons_zero, List.set_cons_succ])
  refine wpAnyH_take (i := 6) (v := ?_) rfl (by kernel_rfl) (by kernel_rfl) (by kernel_rfl) (fun _ _ _ h => h) (Or.inl ⟨by kernel_rfl, ?_⟩) (by assumption) ?_
  rotate_left
  · (intro wS hSw; (try dsimp only at hSw); go_simp; (try with_reducible rfl))
  (try simp only [Act.put, List.setIfInBounds_toArray, List.set_cons_zero, List.set_cons_succ])
  refine wpAnyH_take (i := 7) (v := ?_) rfl (by kernel_rfl) (by kernel_rfl) (by kernel_rfl) (fun _ _ _ h => h) (Or.inl ⟨by kernel_rfl, ?_⟩) (by assumption) ?_
  rotate_left
  · (intro wS hSw; (try dsimp only at hSw); go_simp; (try with_reducible rfl))
  (try simp only [Act.put, List.setIfInBounds_toArray, List.set_cons_zero, List.set_cons_succ])
  refine wpAnyH_take (i := 8) (v := ?_) rfl (by kernel_rfl) (by kernel_rfl) (by kernel_rfl) (fun _ _ _ h => h) (Or.inl ⟨by kernel_rfl, ?_⟩) (by assumption) ?_
  rotate_left
  · (intro wS hSw; (try dsimp only at hSw); go_simp; (try with_reducible rfl))
  (try simp only [Act.put, List.setIfInBounds_toArray, List.set_cons_zero, List.set_cons_succ])
  refine wpAnyH_take (i := 9) (v := ?_) rfl (by kernel_rfl) (by kernel_rfl) (by kernel_rfl) (fun _ _ _ h => h) (Or.inl ⟨by kernel_rfl, ?_⟩) (by assumption) ?_
  rotate_left
  · (intro wS hSw; (try dsimp only at hSw); go_simp; (try with_reducible rfl))
  (try simp only [Act.put, List.setIfInBounds_toArray, List.set_cons_zero, List.set_cons_succ])
  refine wpAnyH_take (i := 10) (v := ?_) rfl (by kernel_rfl) (by kernel_rfl) (by kernel_rfl) (fun _ _ _ h => h) (Or.inl ⟨by kernel_rfl, ?_⟩) (by assumption) ?_
  rotate_left
  · (intro wS hSw; (try dsimp only at hSw); go_simp; (try with_reducible rfl))
  (try simp only [Act.put, List.setIfInBounds_toArray, List.set_cons_zero, List.set_cons_succ])
  (try simp only [List.getElem_toArray, List.getElem_cons_zero, List.getElem_cons_succ, Act.put, List.setIfInBounds_toArray, List.set_cons_zero, List.set_cons_succ])
  refine wpAnyH_ready (rs := [11]) (by kernel_rfl) (by simp) ?_
  refine AllReadyH.cons rfl (fun K hK => ?_) AllReadyH.nil
  rw [if_pos (by kernel_rfl)]
  go_simp
  go_at_call 86
  rw [t0] at HC1
  refine (HC1.out _).mono ?_
  rintro e w2 ⟨hq, rfl⟩
  dsimp only
  have z0 := (hq.cell (p := ⟨w.heap.size + 1, 0, none⟩) (show w.heap.size + 1 < w1.heap.size by omega)).trans hHeld.1
  have z1 := (hq.cell (p := ⟨w.heap.size + 1, 1, none⟩) (show w.heap.size + 1 < w1.heap.size by omega)).trans hHeld.2.1
  have z2 := (hq.cell (p := ⟨bt, ot + n, none⟩) (show bt < w1.heap.size by omega)).trans hHeld.2.2.1
  have z3 := (hq.cell (p := ⟨br, orr + s0 * 2, none⟩) (show br < w1.heap.size by omega)).trans hHeld.2.2.2.1
  have z4 := (hq.cell (p := ⟨br, orr + s0 * 2 + 1, none⟩) (show br < w1.heap.size by omega)).trans hHeld.2.2.2.2
  refine hK.out _ _ ⟨z0, z1, z2, z3, z4⟩ (fun hHeld2 => ?_)
  clear hK K
  (try simp only [Act.put, List.setIfInBounds_toArray, List.set_cons_zero, List.set_cons_succ])
  have s2 := S1.out.drew.trans (hq.mono S1.out.size)
  have k0 := C0.out.drew.keep hq
  have k1 := C1.out.drew.keep hq
  have htb2 := (show TabB (w.heap.size + 2) w1.drew _ _ from HTB.out).below hq (Nat.le_refl _)
  clear hq hHeld z0 z1 z2 z3 z4 u0 u1 u2 x0 x1
  refine wpAnyH_take (i := 12) (v := ?_) rfl (by kernel_rfl) (by kernel_rfl) (by kernel_rfl) (fun _ _ _ h => h) (Or.inl ⟨by kernel_rfl, ?_⟩) (by assumption) ?_
  rotate_left
  · (intro wS hSw; (try dsimp only at hSw); go_simp; (try with_reducible rfl))
  (try simp only [Act.put, List.setIfInBounds_toArray, List.set_cons_zero, List.set_cons_succ])
  refine wpAnyH_take (i := 13) (v := ?_) rfl (by kernel_rfl) (by kernel_rfl) (by kernel_rfl) (fun _ _ _ h => h) (Or.inl ⟨by kernel_rfl, ?_⟩) (by assumption) ?_
  rotate_left
  · (intro wS hSw; (try dsimp only at hSw); go_simp; (try with_reducible rfl))
  (try simp only [Act.put, List.setIfInBounds_toArray, List.set_cons_zero, List.set_cons_succ])
  refine wpAnyH_done (by kernel_rfl) ?_ _
  (try simp only [List.getElem_toArray, List.getElem_cons_zero, List.getElem_cons_succ, Act.put, List.setIfInBounds_toArray, List.set_cons_zero, List.set_cons_succ])
  clear hHeld2
  have S2 := Lib.hid s2; clear s2
  clear k0 k1 htb2
  go_wp2_with fail
  go_ret3
  exact ⟨S2.out, rfl⟩
set_option maxRecDepth 100000 in
set_option maxHeartbeats 8000000 in
theorem runr_neg (L : Int) (S s0 n : Nat) (a0 : Int) (es : List E3) (set : List Int) (v vs : Value) (w : World) (hr : Row w v es.length (ce es)) (hrs : Row w vs set.length (ci set)) (hset : SomeS S set) (hS : S ≤ 64) (hl : es.length ≤ 1024) (hin : InS S es) (hlab : ∀ e ∈ es, 0 ≤ e.l ∧ e.l < 16) (hs0 : s0 < S) (hn : n ≤ 4096) (sA : small a0) (ha0 : a0 < 0) :
    Calls Tryz.prog 47 #[.agg #[.int .i64 L, .int .i64 (S : Int), v], vs, .int .i64 (s0 : Int), .int .i64 (n : Int), .agg #[.bool (ineg a0), .string (imag a0)]] w (Ret w (rUrV none)) := by
  obtain ⟨va, vc, rfl, hle⟩ := hr.slice
  obtain ⟨sa, sc, rfl, hsle⟩ := hrs.slice
  have hlen := asc_len hset
  have hct := fun w' h h2 => counts_any L S n es set (.slice va es.length vc) (.slice sa set.length sc) w' h h2 hset.1 (by omega) hS hn hl hin
  obtain ⟨p, hp⟩ : ∃ p, p = pin set := ⟨_, rfl⟩
  rw [← hp] at hct
  have hmono : ∀ (m : Nat) (s : Int) (a : Int), m ≤ n → 0 ≤ a → a < cw es p m s → small a := fun m s a hm h0 h1 => by
    have hb := (cw_bigM (es := es) (by omega) p m (by omega) s).2
    exact SumOk.small (j := 1) ⟨h0, by omega⟩ (by omega)
  have hcsm : ∀ (m : Nat) (s : Int), m ≤ n → small (cw es p m s) := fun m s hm => cw_small (by omega) p m (by omega) s
  have hcmp := fun (x y : Int) w' (hx : small x) (hy : small y) => rcompare_any x y w' hx hy
  have hsub := fun (x y : Int) w' (hx : small x) (hy : small y) => rsub_any x y w' hx hy
  obtain ⟨mm, hmm⟩ : ∃ mm, mm = es.length := ⟨_, rfl⟩
  obtain ⟨ms, hms⟩ : ∃ ms, ms = set.length := ⟨_, rfl⟩
  have s0' := ((Below.refl w.heap.size w).alloc (Nat.le_refl _) (.cells #[.int .i64 L, .int .i64 (S : Int), .slice va es.length vc] 24)).alloc (by simp) (.cells #[.bool (ineg a0), .string (imag a0)] 33)
  have b0 := (Blk.new w 24 [.int .i64 L, .int .i64 (S : Int), .slice va es.length vc]).alloc (.cells #[.bool (ineg a0), .string (imag a0)] 33)
  have b1 := Blk.new (w.alloc (.cells #[.int .i64 L, .int .i64 (S : Int), .slice va es.length vc] 24)) 33 [.bool (ineg a0), .string (imag a0)]
  simp only [World.size_alloc] at b1
  have hrs0 := hrs.below s0' (Nat.le_refl _)
  have hr0 := hr.below s0' (Nat.le_refl _)
  rw [← hmm] at s0' b0 b1 hr0 hrs0 hct hl hle hr
  rw [← hms] at hct hrs0 hlen
  have HMM := Lib.hid hmm; clear hmm
  have HMS := Lib.hid hms; clear hms
  have HCT := Lib.hid hct; clear hct
  have HMONO := Lib.hid hmono; clear hmono
  have HCSM := Lib.hid hcsm; clear hcsm
  have HCMP := Lib.hid hcmp; clear hcmp
  have HSUB := Lib.hid hsub; clear hsub
  have HIN := Lib.hid hin; clear hin
  have HLAB := Lib.hid hlab; clear hlab
  have S0 := Lib.hid s0'; clear s0'
  have B0 := Lib.hid b0; clear b0
  have B1 := Lib.hid b1; clear b1
  have HRW := Lib.hid hr; clear hr
  have HRR := Lib.hid hr0; clear hr0
  have HRS := Lib.hid hrs0; clear hrs0
  clear hrs hset hp
  go_enter Tryz.func47, Tryz.ntmps47
  rw [← HMM.out, ← HMS.out]
  go_wp2_with fail
  go_at_call 77
  refine (HCT.out _ HRR.out HRS.out).mono ?_
  rintro e w1 ⟨hq, tv, rfl, htb⟩
  have s1 := S0.out.trans (hq.mono S0.out.size)
  have k0 := B0.out.keep hq
  have k1 := B1.out.keep hq
  have hge : ∀ (W : World), W = (w.alloc (.cells #[.int .i64 L, .int .i64 (S : Int), .slice va mm vc] 24)).alloc (.cells #[.bool (ineg a0), .string (imag a0)] 33) → W.heap.size = w.heap.size + 2 := fun W h => by rw [h]; simp
  rw [hge _ rfl] at htb
  clear hge
  obtain ⟨bt, ot, ct, rfl⟩ : ∃ bt ot ct, tv = .slice (some ⟨bt, ot, none⟩) (n + 1) ct := by
    obtain ⟨rvs, hrvl, hrt, hrows⟩ := htb.tab
    rw [tabL_length] at hrt
    obtain ⟨at0, ct, rfl, hct⟩ := hrt.slice
    obtain ⟨bt, ot, rfl, -, -⟩ := hrt.at_ (by omega)
    exact ⟨bt, ot, ct, rfl⟩
  have htA := tab_at htb.tab (Nat.le_refl n) hs0
  obtain ⟨hbt, br, orr, cr, hbr, u0, u1, u2⟩ := htA
  have x0 := k1.cell (j := 0) rfl
  have x1 := k1.cell (j := 1) rfl
  have hsa := sA
  have hsY := HCSM.out n (s0 : Int) (Nat.le_refl n)
  obtain ⟨Y, hY⟩ : ∃ Y, Y = cw es p n (s0 : Int) := ⟨_, rfl⟩
  rw [← hY] at u1 u2 hsY
  have hc1 := fun w' => HCMP.out a0 Y w' hsa hsY
  obtain ⟨z1, hz1⟩ : ∃ z, z = cmpZ a0 Y := ⟨_, rfl⟩
  rw [← hz1] at hc1
  have t0 : ineg a0 = true := decide_eq_true ha0
  have hix1 : (0 : Int) ≤ (n : Int) := by omega
  have hix2 : (n : Int) < (n : Int) + 1 := by omega
  have hix3 : (0 : Int) ≤ (s0 : Int) := by omega
  have hix4 : (s0 : Int) < (S : Int) := by omega
  have hg0 : w.heap.size < w1.heap.size := k0.lt
  have hg1 : w.heap.size + 1 < w1.heap.size := k1.lt
  have S1 := Lib.hid s1; clear s1
  have C0 := Lib.hid k0; clear k0
  have C1 := Lib.hid k1; clear k1
  have HTB := Lib.hid htb; clear htb
  have HC1 := Lib.hid hc1; clear hc1
  have HY := Lib.hid hY; clear hY
  clear hq hz1 hsa hsY
  go_wp2_with fail
  rw [t0] at x0
  refine wp_region_held_drew (S := fun w' => w'.cell? ⟨w.heap.size + 1, 0, none⟩ = some (.bool true) ∧ w'.cell? ⟨w.heap.size + 1, 1, none⟩ = some (.string (imag a0)) ∧ w'.cell? ⟨bt, ot + n, none⟩ = some (.slice (some ⟨br, orr, none⟩) S cr) ∧ w'.cell? ⟨br, orr + s0 * 2, none⟩ = some (.bool (ineg Y)) ∧ w'.cell? ⟨br, orr + s0 * 2 + 1, none⟩ = some (.string (imag Y))) (by kernel_rfl) ?_ (fun hHeld => ?_)
  · go_keep
  refine wpAnyH_take (i := 0) (v := ?_) rfl (by kernel_rfl) (by kernel_rfl) (by kernel_rfl) (fun _ _ _ h => h) (Or.inl ⟨by kernel_rfl, ?_⟩) (by assumption) ?_
  rotate_left
  · (intro wS hSw; (try dsimp only at hSw); go_simp; (try with_reducible rfl))
  (try simp only [Act.put, List.setIfInBounds_toArray, List.set_cons_zero, List.set_cons_succ])
  refine wpAnyH_take (i := 1) (v := ?_) rfl (by kernel_rfl) (by kernel_rfl) (by kernel_rfl) (fun _ _ _ h => h) (Or.inl ⟨by kernel_rfl, ?_⟩) (by assumption) ?_
  rotate_left
  · (intro wS hSw; (try dsimp only at hSw); go_simp; (try with_reducible rfl))
  (try simp only [Act.put, List.setIfInBounds_toArray, List.set_cons_zero, List.set_cons_succ])
  refine wpAnyH_take (i := 2) (v := ?_) rfl (by kernel_rfl) (by kernel_rfl) (by kernel_rfl) (fun _ _ _ h => h) (Or.inl ⟨by kernel_rfl, ?_⟩) (by assumption) ?_
  rotate_left
  · (intro wS hSw; (try dsimp only at hSw); go_simp; (try with_reducible rfl))
  (try simp only [Act.put, List.setIfInBounds_toArray, List.set_cons_zero, List.set_cons_succ])
  refine wpAnyH_take (i := 3) (v := undef) rfl (by kernel_rfl) (by kernel_rfl) (by kernel_rfl) (fun _ _ _ h => h) (Or.inr ⟨by kernel_rfl, rfl⟩) (by assumption) ?_
  (try simp only [Act.put, List.setIfInBounds_toArray, List.set_cons_zero, List.set_cons_succ])
  refine wpAnyH_take (i := 4) (v := undef) rfl (by kernel_rfl) (by kernel_rfl) (by kernel_rfl) (fun _ _ _ h => h) (Or.inr ⟨by kernel_rfl, rfl⟩) (by assumption) ?_
  (try simp only [Act.put, List.setIfInBounds_toArray, List.set_cons_zero, List.set_cons_succ])
  refine wpAnyH_take (i := 5) (v := undef) rfl (by kernel_rfl) (by kernel_rfl) (by kernel_rfl) (fun _ _ _ h => h) (Or.inr ⟨by kernel_rfl, rfl⟩) (by assumption) ?_
  (try simp only [Act.put, List.setIfInBounds_toArray, List.set_cons_zero, List.set_cons_succ])
  refine wpAnyH_take (i := 6) (v := undef) rfl (by kernel_rfl) (by kernel_rfl) (by kernel_rfl) (fun _ _ _ h => h) (Or.inr ⟨by kernel_rfl, rfl⟩) (by assumption) ?_
  (try simp only [Act.put, List.setIfInBounds_toArray, List.set_cons_zero, List.set_cons_succ])
  refine wpAnyH_take (i := 7) (v := undef) rfl (by kernel_rfl) (by kernel_rfl) (by kernel_rfl) (fun _ _ _ h => h) (Or.inr ⟨by kernel_rfl, rfl⟩) (by assumption) ?_
  (try simp only [Act.put, List.setIfInBounds_toArray, List.set_cons_zero, List.set_cons_succ])
  refine wpAnyH_take (i := 8) (v := undef) rfl (by kernel_rfl) (by kernel_rfl) (by kernel_rfl) (fun _ _ _ h => h) (Or.inr ⟨by kernel_rfl, rfl⟩) (by assumption) ?_
  (try simp only [Act.put, List.setIfInBounds_toArray, List.set_cons_zero, List.set_cons_succ])
  refine wpAnyH_take (i := 9) (v := undef) rfl (by kernel_rfl) (by kernel_rfl) (by kernel_rfl) (fun _ _ _ h => h) (Or.inr ⟨by kernel_rfl, rfl⟩) (by assumption) ?_
  (try simp only [Act.put, List.setIfInBounds_toArray, List.set_cons_zero, List.set_cons_succ])
  refine wpAnyH_take (i := 10) (v := undef) rfl (by kernel_rfl) (by kernel_rfl) (by kernel_rfl) (fun _ _ _ h => h) (Or.inr ⟨by kernel_rfl, rfl⟩) (by assumption) ?_
  (try simp only [Act.put, List.setIfInBounds_toArray, List.set_cons_zero, List.set_cons_succ])
  refine wpAnyH_take (i := 11) (v := undef) rfl (by kernel_rfl) (by kernel_rfl) (by kernel_rfl) (fun _ _ _ h => h) (Or.inr ⟨by kernel_rfl, rfl⟩) (by assumption) ?_
  (try simp only [Act.put, List.setIfInBounds_toArray, List.set_cons_zero, List.set_cons_succ])
  refine wpAnyH_take (i := 12) (v := undef) rfl (by kernel_rfl) (by kernel_rfl) (by kernel_rfl) (fun _ _ _ h => h) (Or.inr ⟨by kernel_rfl, rfl⟩) (by assumption) ?_
  (try simp only [Act.put, List.setIfInBounds_toArray, List.set_cons_zero, List.set_cons_succ])
  refine wpAnyH_take (i := 13) (v := ?_) rfl (by kernel_rfl) (by kernel_rfl) (by kernel_rfl) (fun _ _ _ h => h) (Or.inl ⟨by kernel_rfl, ?_⟩) (by assumption) ?_
  rotate_left
  · (intro wS hSw; (try dsimp only at hSw); go_simp; (try with_reducible rfl))
  (try simp only [Act.put, List.setIfInBounds_toArray, List.set_cons_zero, List.set_cons_succ])
  refine wpAnyH_done (by kernel_rfl) ?_ _
  (try simp only [List.getElem_toArray, List.getElem_cons_zero, List.getElem_cons_succ, Act.put, List.setIfInBounds_toArray, List.set_cons_zero, List.set_cons_succ])
  clear hHeld
  go_wp2_with fail
  go_ret3
  exact ⟨S1.out.drew, rfl⟩
theorem runr_any (L : Int) (S s0 n : Nat) (a0 : Int) (es : List E3) (set : List Int) (v vs : Value) (w : World) (hr : Row w v es.length (ce es)) (hrs : Row w vs set.length (ci set)) (hset : SomeS S set) (hS : S ≤ 64) (hl : es.length ≤ 1024) (hin : InS S es) (hlab : ∀ e ∈ es, 0 ≤ e.l ∧ e.l < 16) (hs0 : s0 < S) (hn : n ≤ 4096) (sA : small a0) :
    Calls Tryz.prog 47 #[.agg #[.int .i64 L, .int .i64 (S : Int), v], vs, .int .i64 (s0 : Int), .int .i64 (n : Int), .agg #[.bool (ineg a0), .string (imag a0)]] w (Ret w (rUrV (ure es (pin set) n (s0 : Int) a0))) := by
  by_cases h0 : 0 ≤ a0
  · by_cases h1 : a0 < cw es (pin set) n (s0 : Int)
    · rw [ure, if_pos ⟨h0, h1⟩]
      exact runr_in L S s0 n a0 es set v vs w hr hrs hset hS hl hin hlab hs0 hn h0 h1
    · rw [ure, if_neg (by omega)]
      exact runr_big L S s0 n a0 es set v vs w hr hrs hset hS hl hin hlab hs0 hn sA h0 (by omega)
  · rw [ure, if_neg (by omega)]
    exact runr_neg L S s0 n a0 es set v vs w hr hrs hset hS hl hin hlab hs0 hn sA (by omega)
end Go.Proofs.YtalipfnbpnkgnaaGreat
