/- grooveref29.rank at valid graphs, sets and words (printed by gen_rrank.py). -/
import Derived.Test.YtalipfnbpnkgnaaGreatPart15
import Derived.Test.YtalipfnbpnkgnaaGreatRSet
namespace Go.Proofs.YtalipfnbpnkgnaaGreat
open Go.RowKit

/-- What rank tells. -/
def rkS (p : Int → Bool) (r : Option (Int × Int)) : Option (Int × Int) := match r with | some (a, t) => if p t then some (a, t) else none | none => none
def rRkV : Option (Int × Int) → Value
  | some r => .tuple #[IntV r.1, .int .i64 r.2, .bool true]
  | none => .tuple #[IntV 0, .int .i64 0, .bool false]
theorem pin_mem (set : List Int) (x : Int) : decide (x ∈ set) = pin set x := rfl
set_option maxRecDepth 100000 in
set_option maxHeartbeats 8000000 in
theorem rrank_any (L : Int) (S s0 : Nat) (wd : ByteArray) (es : List E3) (set : List Int) (v vs : Value) (w : World) (hr : Row w v es.length (ce es)) (hrs : Row w vs set.length (ci set)) (hE : eck L (S : Int) es = 0) (hset : SomeS S set) (hs0 : s0 < S) (hn : wd.size ≤ 4096) :
    Calls Tryz.prog 39 #[.agg #[.int .i64 L, .int .i64 (S : Int), v], vs, .int .i64 (s0 : Int), .string wd] w (Ret w (rRkV (rkS (pin set) (rk es (pin set) wd.data.toList (s0 : Int) 0)))) := by
  have hz := eck_zero hE
  have hca := chk_all hz.1
  have hS : S ≤ 64 := by omega
  have hl : es.length ≤ 1024 := by omega
  have hin := chk_inS hz.1
  have hasc := outE_asc hE
  obtain ⟨va, vc, rfl, hle⟩ := hr.slice
  obtain ⟨sa, sc, rfl, hsle⟩ := hrs.slice
  have hlen := asc_len hset
  obtain ⟨n, hnn⟩ : ∃ n, n = wd.size := ⟨_, rfl⟩
  have hct := fun w' h h2 => counts_any L S n es set (.slice va es.length vc) (.slice sa set.length sc) w' h h2 hset.1 (by omega) hS (by omega) hl hin
  have hha := fun x w' h => rhas_any set x (.slice sa set.length sc) w' h (by omega)
  simp only [pin_mem] at hha
  obtain ⟨p, hp⟩ : ∃ p, p = pin set := ⟨_, rfl⟩
  rw [← hp] at hct hha ⊢
  have hcsm : ∀ (m : Nat) (s : Int), m ≤ n → small (cw es p m s) := fun m s hm => cw_small (by omega) p m (by omega) s
  have hadd := fun (x y : Int) w' (hx : small x) (hy : small y) => radd_any x y w' hx hy
  have hrok := fun (m : Nat) (hm : m ≤ n) lt l j x h => rrF_ok (es := es) (by omega) p m (by omega) lt l j x h
  have hrnx := fun (m : Nat) lt => rrF_nx (es := es) (p := p) (m := m) (lt := lt) hin
  obtain ⟨R, hR⟩ : ∃ R, R = rk es p wd.data.toList (s0 : Int) 0 := ⟨_, rfl⟩
  rw [← hR]
  obtain ⟨mm, hmm⟩ : ∃ mm, mm = es.length := ⟨_, rfl⟩
  obtain ⟨ms, hms⟩ : ∃ ms, ms = set.length := ⟨_, rfl⟩
  have s0' := ((Below.refl w.heap.size w).alloc (Nat.le_refl _) (.cells #[.int .i64 L, .int .i64 (S : Int), .slice va es.length vc] 24)).alloc (by simp) (.cells #[.bool false, .string ⟨#[]⟩] 33)
  have b0 := (Blk.new w 24 [.int .i64 L, .int .i64 (S : Int), .slice va es.length vc]).alloc (.cells #[.bool false, .string ⟨#[]⟩] 33)
  have b1 := Blk.new (w.alloc (.cells #[.int .i64 L, .int .i64 (S : Int), .slice va es.length vc] 24)) 33 [.bool false, .string ⟨#[]⟩]
  simp only [World.size_alloc] at b1
  have hrs0 := hrs.below s0' (Nat.le_refl _)
  have hr0 := hr.below s0' (Nat.le_refl _)
  have hmm1024 : mm ≤ 1024 := by rw [hmm]; exact hl
  rw [← hmm] at s0' b0 b1 hr0 hrs0 hct hl hle hr
  rw [← hms] at hct hrs0 hlen hha
  have HMM := Lib.hid hmm; clear hmm
  have HMS := Lib.hid hms; clear hms
  have HCT := Lib.hid hct; clear hct
  have HHA := Lib.hid hha; clear hha
  have HCSM := Lib.hid hcsm; clear hcsm
  have HADD := Lib.hid hadd; clear hadd
  have HROK := Lib.hid hrok; clear hrok
  have HRNX := Lib.hid hrnx; clear hrnx
  have HR0 := Lib.hid hR; clear hR
  have HIN := Lib.hid hin; clear hin
  have HASC := Lib.hid hasc; clear hasc
  have HNN := Lib.hid hnn; clear hnn
  have S0 := Lib.hid s0'; clear s0'
  have B0 := Lib.hid b0; clear b0
  have B1 := Lib.hid b1; clear b1
  have HRR := Lib.hid hr0; clear hr0
  have HRS := Lib.hid hrs0; clear hrs0
  clear hrs hr hset hp hE hz hca
  go_enter Tryz.func39, Tryz.ntmps39
  rw [← HMM.out, ← HMS.out]
  go_wp2_with fail
  rw [← HNN.out]
  go_at_call 77
  refine (HCT.out _ HRR.out HRS.out).mono ?_
  rintro e w1 ⟨hq, tv, rfl, htb⟩
  have s1 := S0.out.trans (hq.mono S0.out.size)
  have k0 := B0.out.keep hq
  have k1 := B1.out.keep hq
  have hr1 := HRR.out.below hq (Nat.le_refl _)
  have hrs1 := HRS.out.below hq (Nat.le_refl _)
  have htab := htb.tab
  obtain ⟨bt, ot, ct, rfl⟩ : ∃ bt ot ct, tv = .slice (some ⟨bt, ot, none⟩) (n + 1) ct := by
    obtain ⟨rvs, hrvl, hrt, hrows⟩ := htab
    rw [tabL_length] at hrt
    obtain ⟨at0, ct, rfl, hct⟩ := hrt.slice
    obtain ⟨bt, ot, rfl, -, -⟩ := hrt.at_ (by omega)
    exact ⟨bt, ot, ct, rfl⟩
  have hg1 : w.heap.size + 1 < w1.heap.size := k1.lt
  have bs := Blk.new w1 33 [.bool false, .string ⟨#[]⟩]
  have bel1 : Below w1.heap.size w1 (w1.alloc (.cells #[.bool false, .string ⟨#[]⟩] 33)) := (Below.refl _ _).alloc (Nat.le_refl _) _
  have S1 := Lib.hid s1; clear s1
  have C0 := Lib.hid k0; clear k0
  have C1 := Lib.hid k1; clear k1
  have HR1 := Lib.hid hr1; clear hr1
  have HRS1 := Lib.hid hrs1; clear hrs1
  have HTAB := Lib.hid htab; clear htab
  have BS := Lib.hid bs; clear bs
  have BEL1 := Lib.hid bel1; clear bel1
  clear hq htb
  go_wp2_with fail
  go_loopw [2, 13] (fun sv iv wr => ∃ (i sk : Nat) (sm : Int), i ≤ n ∧ iv = .int .i64 i ∧ sv = .int .i64 sk ∧ sk < S ∧ SumOk (i * 1024) sm ∧ R = rk es p (wd.data.toList.drop i) (sk : Int) sm ∧ Below w1.heap.size w1 wr ∧ Blk wr w1.heap.size 33 [.bool (ineg sm), .string (imag sm)]) (fun _ i _ => n - (intOf i).toNat)
  case atStart =>
    refine ⟨0, s0, 0, Nat.zero_le _, rfl, rfl, hs0, ⟨Int.le_refl _, by simp⟩, by rw [List.drop_zero]; exact HR0.out, BEL1.out, ?_⟩
    rw [ineg_zero, imag_zero]
    exact BS.out
  case round =>
    obtain ⟨i, sk, sm, hi, rfl, rfl, hsk, hsm, hRR, hbel, kb⟩ := hrel
    have hbw := S1.out.trans (hbel.mono S1.out.size)
    have kg := C0.out.keep hbel
    have kr := C1.out.keep hbel
    have hwl : wd.data.toList.length = n := by rw [bytes_size]; exact HNN.out.symm
    by_cases hlt : i < n
    · have hwi : i < wd.size := by rw [← HNN.out]; exact hlt
      have hwI : (i : Int) < (wd.size : Int) := by omega
      obtain ⟨c, hc⟩ : ∃ c, c = wd[i] := ⟨_, rfl⟩
      have hdrop : wd.data.toList.drop i = c :: wd.data.toList.drop (i + 1) := by
        rw [List.drop_eq_getElem_cons (by omega), hc]; rfl
      rw [hdrop, rk] at hRR
      have hlm : (wd.data.toList.drop (i + 1)).length = n - (i + 1) := by rw [List.length_drop, hwl]
      rw [hlm] at hRR
      obtain ⟨m, hm⟩ : ∃ m, m = n - (i + 1) := ⟨_, rfl⟩
      rw [← hm] at hRR
      have hmn : m ≤ n := by omega
      have hdg := fun w' => digit_any c w'
      obtain ⟨lt, hlt0⟩ : ∃ lt, lt = digI c := ⟨_, rfl⟩
      rw [← hlt0] at hdg
      have hi0 : (0 : Int) ≤ (i : Int) := by omega
      have hr2 := HR1.out.below hbel (Nat.le_refl _)
      obtain ⟨wo, rfl⟩ : ∃ wo : World, wo = wr := ⟨_, rfl⟩
      have HRR2 := Lib.hid hRR; clear hRR
      have HBEL := Lib.hid hbel; clear hbel
      have KG := Lib.hid kg; clear kg
      have KR := Lib.hid kr; clear kr
      have KB := Lib.hid kb; clear kb
      have HC := Lib.hid hc; clear hc
      have HDG := Lib.hid hdg; clear hdg
      have HLT0 := Lib.hid hlt0; clear hlt0
      have HM := Lib.hid hm; clear hm
      have HSM := Lib.hid hsm; clear hsm
      have HR2 := Lib.hid hr2; clear hr2
      clear hdrop hlm hbw
      go_wp2_with fail
      go_at_call 78
      rw [← HC.out]
      refine (HDG.out _).mono ?_
      rintro e w' ⟨rfl, rfl⟩
      go_wp2_with fail
      go_loopw [15, 16] (fun nv kv wr => ∃ (q : Nat) (sm' nx : Int), q ≤ mm ∧ kv = .int .i64 q ∧ nv = .int .i64 nx ∧ rrF es p m lt (fo es (sk : Int) q) (sm, -1) = (sm', nx) ∧ Below w1.heap.size w1 wr ∧ Blk wr w1.heap.size 33 [.bool (ineg sm'), .string (imag sm')]) (fun _ k _ => mm - (intOf k).toNat)
      case atStart => exact ⟨0, sm, -1, Nat.zero_le _, rfl, rfl, rfl, HBEL.out, KB.out⟩
      case round =>
        obtain ⟨q, sm', nx, hq, rfl, rfl, hfo, hbel, kb⟩ := hrel
        have kg := C0.out.keep hbel
        have x2 := kg.cell (j := 2) rfl
        have hg2 : w1.heap.size < wr.heap.size := kb.lt
        by_cases hlt2 : q < mm
        · have hql : q < es.length := by rw [← HMM.out]; exact hlt2
          have hget : es[q]? = some (es[q]'hql) := List.getElem?_eq_getElem _
          obtain ⟨e, he⟩ : ∃ e, e = es[q]'hql := ⟨_, rfl⟩
          have hem : e ∈ es := by rw [he]; exact List.getElem_mem hql
          rw [← he] at hget
          have hrx := HR1.out.below hbel (Nat.le_refl _)
          obtain ⟨b, off, rfl, hb, hce⟩ := hrx.at_ (by omega)
          obtain ⟨e0, e1, e2⟩ := edge_cells hce (Below.refl wr.heap.size wr) hb hget
          have hq0 : (0 : Int) ≤ (q : Int) := by omega
          have hq1 : (q : Int) < (mm : Int) := by omega
          have hgr : w.heap.size < wr.heap.size := by omega
          have hal : Below wr.heap.size wr (wr.alloc (.cells #[.int .i64 e.f, .int .i64 e.l, .int .i64 e.t] 111)) := (Below.refl _ _).alloc (Nat.le_refl _) _
          have bel4 := hbel.trans (hal.mono hbel.size)
          have kb4 := kb.keep hal
          have be4 := Blk.new wr 111 [.int .i64 e.f, .int .i64 e.l, .int .i64 e.t]
          have hfl : (fo es (sk : Int) q).length ≤ 1024 := by
            refine Nat.le_trans (List.length_filter_le _ _) ?_
            rw [List.length_take]; omega
          have hok2 := HROK.out m hmn lt (fo es (sk : Int) q) (i * 1024) (sm, -1) HSM.out
          rw [hfo] at hok2
          dsimp only at hok2
          have hsm' : small sm' := hok2.small (by omega)
          clear hce he hal hrx hok2 hfl
          by_cases hf : e.f = (sk : Int)
          · have hff : (e.f != (sk : Int)) = false := by simpa using hf
            have hinE := HIN.out e hem
            obtain ⟨t, ht⟩ : ∃ t : Nat, e.t = t := ⟨e.t.toNat, by omega⟩
            have htS : t < S := by omega
            have hnext : rrF es p m lt (fo es (sk : Int) (q + 1)) (sm, -1) = rrS es p m lt (sm', nx) e := by rw [fo_yes hget hf, rrF_snoc, hfo]
            rw [rrS] at hnext
            dsimp only at hnext
            rw [ht] at hnext be4 bel4 kb4 e2
            rw [hf] at be4 bel4 kb4 e0
            obtain ⟨lb, hlb⟩ : ∃ lb, e.l = lb := ⟨_, rfl⟩
            rw [hlb] at hnext be4 bel4 kb4 e1
            by_cases hl1 : lb < lt
            · have hl2 : ¬ lb = lt := by omega
              have d1 : decide (lb < lt) = true := decide_eq_true hl1
              have d2 : (lb == lt) = false := by simpa using hl2
              rw [if_pos hl1, if_neg hl2] at hnext
              obtain ⟨hbt4, br4, or4, cr4, hbr4, u0', u1', u2'⟩ := tab_at HTAB.out hmn htS
              have u0 := (bel4.cell (p := ⟨bt, ot + m, none⟩) hbt4).trans u0'
              have u1 := (bel4.cell (p := ⟨br4, or4 + t * 2, none⟩) hbr4).trans u1'
              have u2 := (bel4.cell (p := ⟨br4, or4 + t * 2 + 1, none⟩) hbr4).trans u2'
              clear u0' u1' u2'
              have hsc := HCSM.out m (t : Int) hmn
              obtain ⟨cc, hcc⟩ : ∃ cc, cc = cw es p m (t : Int) := ⟨_, rfl⟩
              rw [← hcc] at u1 u2 hsc hnext
              have had := fun w' => HADD.out sm' cc w' hsm' hsc
              have hwm : ((wd.size : Nat) : Int) - 1 - (i : Int) = (m : Int) := by have := HM.out; have := HNN.out; omega
              have q1 : IntKind.i64.wrap (((wd.size : Nat) : Int) - 1) = ((wd.size : Nat) : Int) - 1 := IntWalk.i64_in _ (by omega)
              have q2 : IntKind.i64.wrap (m : Int) = (m : Int) := IntWalk.i64_in _ (by omega)
              have q3 : (0 : Int) ≤ (m : Int) := by omega
              have q4 : (m : Int) < (n : Int) + 1 := by omega
              have q5 : (0 : Int) ≤ (t : Int) := by omega
              have q6 : (t : Int) < (S : Int) := by omega
              have HT := Lib.hid ht; clear ht
              have HF := Lib.hid hf; clear hf
              have HLB := Lib.hid hlb; clear hlb
              have HNEXT := Lib.hid hnext; clear hnext
              have HADD2 := Lib.hid had; clear had
              have BEL4 := Lib.hid bel4; clear bel4
              have KB4 := Lib.hid kb4; clear kb4
              have BE4 := Lib.hid be4; clear be4
              have HCC := Lib.hid hcc; clear hcc
              have hT2 := HT.out
              have hF2 := HF.out
              have hL2 := HLB.out
              clear hbel kb kg hget hem hfo hinE hsm' hsc
              go_wp2_with fail
              clear hT2 hF2 hL2
              obtain ⟨BE, hBE⟩ : ∃ BE, BE = wr.heap.size := ⟨_, rfl⟩
              obtain ⟨wz, hwz⟩ : ∃ wz, wr.alloc (.cells #[.int .i64 (sk : Int), .int .i64 lb, .int .i64 (t : Int)] 111) = wz := ⟨_, rfl⟩
              rw [← hBE] at BE4 ⊢
              rw [hwz] at BEL4 KB4 BE4 u0 u1 u2 ⊢
              have hBEl : BE < wz.heap.size := BE4.out.lt
              have hBE2 : w1.heap.size < BE := by rw [hBE]; exact hg2
              have hgz : w1.heap.size < wz.heap.size := by omega
              have c2 := BE4.out.cell (j := 2) rfl
              have y0 := KB4.out.cell (j := 0) rfl
              have y1 := KB4.out.cell (j := 1) rfl
              clear hwz hBE e0 e1 e2 x2
              refine wp_region_held_drew (S := fun w' => w'.cell? ⟨bt, ot + m, none⟩ = some (.slice (some ⟨br4, or4, none⟩) S cr4) ∧ w'.cell? ⟨br4, or4 + t * 2, none⟩ = some (.bool (ineg cc)) ∧ w'.cell? ⟨br4, or4 + t * 2 + 1, none⟩ = some (.string (imag cc)) ∧ w'.cell? ⟨BE, 2, none⟩ = some (.int .i64 (t : Int))) (by kernel_rfl) ?_ (fun hHeld => ?_)
              · go_keep
              refine wpAnyH_take (i := 1) (v := ?_) rfl (by kernel_rfl) (by kernel_rfl) (by kernel_rfl) (fun _ _ _ h => h) (Or.inl ⟨by kernel_rfl, ?_⟩) (by assumption) ?_
              rotate_left
              · (intro wS hSw; (try dsimp only at hSw); go_simp; (try with_reducible rfl))
              (try simp only [Act.put, List.setIfInBounds_toArray, List.set_cons_zero, List.set_cons_succ])
              refine wpAnyH_take (i := 2) (v := ?_) rfl (by kernel_rfl) (by kernel_rfl) (by kernel_rfl) (fun _ _ _ h => h) (Or.inl ⟨by kernel_rfl, ?_⟩) (by assumption) ?_
              rotate_left
              · (intro wS hSw; (try dsimp only at hSw); go_simp; (try with_reducible rfl))
              (try simp only [Act.put, List.setIfInBounds_toArray, List.set_cons_zero, List.set_cons_succ])
              refine wpAnyH_take (i := 3) (v := ?_) rfl (by kernel_rfl) (by kernel_rfl) (by kernel_rfl) (fun _ _ _ h => h) (Or.inl ⟨by kernel_rfl, ?_⟩) (by assumption) ?_
              rotate_left
              · (intro wS hSw; (try dsimp only at hSw); go_simp; (try with_reducible rfl))
              (try simp only [Act.put, List.setIfInBounds_toArray, List.set_cons_zero, List.set_cons_succ])
              refine wpAnyH_take (i := 4) (v := ?_) rfl (by kernel_rfl) (by kernel_rfl) (by kernel_rfl) (fun _ _ _ h => h) (Or.inl ⟨by kernel_rfl, ?_⟩) (by assumption) ?_
              rotate_left
              · (intro wS hSw; (try dsimp only at hSw); go_simp; (try with_reducible rfl))
              (try simp only [Act.put, List.setIfInBounds_toArray, List.set_cons_zero, List.set_cons_succ])
              refine wpAnyH_take (i := 5) (v := ?_) rfl (by kernel_rfl) (by kernel_rfl) (by kernel_rfl) (fun _ _ _ h => h) (Or.inl ⟨by kernel_rfl, ?_⟩) (by assumption) ?_
              rotate_left
              · (intro wS hSw; (try dsimp only at hSw); go_simp; (try with_reducible rfl))
              (try simp only [Act.put, List.setIfInBounds_toArray, List.set_cons_zero, List.set_cons_succ])
              refine wpAnyH_take (i := 6) (v := ?_) rfl (by kernel_rfl) (by kernel_rfl) (by kernel_rfl) (fun _ _ _ h => h) (Or.inl ⟨by kernel_rfl, ?_⟩) (by assumption) ?_
              rotate_left
              · (intro wS hSw; (try dsimp only at hSw); go_simp; (try with_reducible rfl))
              (try simp only [Act.put, List.setIfInBounds_toArray, List.set_cons_zero, List.set_cons_succ])
              refine wpAnyH_take (i := 7) (v := ?_) rfl (by kernel_rfl) (by kernel_rfl) (by kernel_rfl) (fun _ _ _ h => h) (Or.inl ⟨by kernel_rfl, ?_⟩) (by assumption) ?_
              rotate_left
              · (intro wS hSw; (try dsimp only at hSw); go_simp; (try with_reducible rfl))
              (try simp only [Act.put, List.setIfInBounds_toArray, List.set_cons_zero, List.set_cons_succ])
              refine wpAnyH_take (i := 8) (v := ?_) rfl (by kernel_rfl) (by kernel_rfl) (by kernel_rfl) (fun _ _ _ h => h) (Or.inl ⟨by kernel_rfl, ?_⟩) (by assumption) ?_
              rotate_left
              · (intro wS hSw; (try dsimp only at hSw); go_simp; (try with_reducible rfl))
              (try simp only [Act.put, List.setIfInBounds_toArray, List.set_cons_zero, List.set_cons_succ])
              refine wpAnyH_take (i := 9) (v := ?_) rfl (by kernel_rfl) (by kernel_rfl) (by kernel_rfl) (fun _ _ _ h => h) (Or.inl ⟨by kernel_rfl, ?_⟩) (by assumption) ?_
              rotate_left
              · (intro wS hSw; (try dsimp only at hSw); go_simp; (try with_reducible rfl))
              (try simp only [Act.put, List.setIfInBounds_toArray, List.set_cons_zero, List.set_cons_succ])
              refine wpAnyH_take (i := 10) (v := ?_) rfl (by kernel_rfl) (by kernel_rfl) (by kernel_rfl) (fun _ _ _ h => h) (Or.inl ⟨by kernel_rfl, ?_⟩) (by assumption) ?_
              rotate_left
              · (intro wS hSw; (try dsimp only at hSw); go_simp; (try with_reducible rfl))
              (try simp only [Act.put, List.setIfInBounds_toArray, List.set_cons_zero, List.set_cons_succ])
              refine wpAnyH_take (i := 11) (v := ?_) rfl (by kernel_rfl) (by kernel_rfl) (by kernel_rfl) (fun _ _ _ h => h) (Or.inl ⟨by kernel_rfl, ?_⟩) (by assumption) ?_
              rotate_left
              · (intro wS hSw; (try dsimp only at hSw); go_simp; (try with_reducible rfl))
              (try simp only [Act.put, List.setIfInBounds_toArray, List.set_cons_zero, List.set_cons_succ])
              refine wpAnyH_take (i := 12) (v := ?_) rfl (by kernel_rfl) (by kernel_rfl) (by kernel_rfl) (fun _ _ _ h => h) (Or.inl ⟨by kernel_rfl, ?_⟩) (by assumption) ?_
              rotate_left
              · (intro wS hSw; (try dsimp only at hSw); go_simp; (try with_reducible rfl))
              (try simp only [Act.put, List.setIfInBounds_toArray, List.set_cons_zero, List.set_cons_succ])
              refine wpAnyH_ready (rs := [0]) (by kernel_rfl) (by simp) ?_
              refine AllReadyH.cons rfl (fun K hK => ?_) AllReadyH.nil
              go_simp
              refine hK.out _ _ ?_ (fun hHeld => ?_)
              · ((try dsimp only); go_keep)
              clear hK K
              (try simp only [Act.put, List.setIfInBounds_toArray, List.set_cons_zero, List.set_cons_succ])
              (try simp only [List.getElem_toArray, List.getElem_cons_zero, List.getElem_cons_succ, Act.put, List.setIfInBounds_toArray, List.set_cons_zero, List.set_cons_succ])
              refine wpAnyH_ready (rs := [13]) (by kernel_rfl) (by simp) ?_
              refine AllReadyH.cons rfl (fun K hK => ?_) AllReadyH.nil
              go_simp
              go_at_call 79
              refine (HADD2.out _).mono ?_
              rintro e' w5 ⟨hq5, rfl⟩
              dsimp only
              have z0 := (hq5.cell (p := ⟨bt, ot + m, none⟩) (show bt < wz.heap.size by omega)).trans hHeld.1
              have z1 := (hq5.cell (p := ⟨br4, or4 + t * 2, none⟩) (show br4 < wz.heap.size by omega)).trans hHeld.2.1
              have z2 := (hq5.cell (p := ⟨br4, or4 + t * 2 + 1, none⟩) (show br4 < wz.heap.size by omega)).trans hHeld.2.2.1
              have z3 := (hq5.cell (p := ⟨BE, 2, none⟩) (show BE < wz.heap.size by omega)).trans hHeld.2.2.2
              refine hK.out _ _ ⟨z0, z1, z2, z3⟩ (fun hHeld2 => ?_)
              clear hK K
              (try simp only [Act.put, List.setIfInBounds_toArray, List.set_cons_zero, List.set_cons_succ])
              have bel5 := BEL4.out.drew.trans (hq5.mono BEL4.out.size)
              have kb5 := KB4.out.drew.keep hq5
              have be5 := BE4.out.drew.keep hq5
              have x0 := kb5.cell (j := 0) rfl
              have x1 := kb5.cell (j := 1) rfl
              have f0 := kb5.frozen 0
              have f1 := kb5.frozen 1
              have hn1 : ¬ w1.heap.size = bt := by omega
              have hn2 : ¬ w1.heap.size = br4 := by omega
              have hn3 : ¬ w1.heap.size = BE := by omega
              have BEL5 := Lib.hid bel5; clear bel5
              have KB5 := Lib.hid kb5; clear kb5
              have BE5 := Lib.hid be5; clear be5
              clear hq5 hHeld z0 z1 z2 z3 y0 y1 u0 u1 u2 c2
              refine wpAnyH_ready (rs := [14]) (by kernel_rfl) (by simp) ?_
              refine AllReadyH.cons rfl (fun K hK => ?_) AllReadyH.nil
              go_simp
              refine hK.out _ _ ?_ (fun hHeld => ?_)
              · ((try dsimp only); go_keep)
              clear hK K
              (try simp only [Act.put, List.setIfInBounds_toArray, List.set_cons_zero, List.set_cons_succ])
              refine wpAnyH_done (by kernel_rfl) ?_ _
              (try simp only [List.getElem_toArray, List.getElem_cons_zero, List.getElem_cons_succ, Act.put, List.setIfInBounds_toArray, List.set_cons_zero, List.set_cons_succ])
              clear hHeld hHeld2
              have hA := (KB5.out.set 0 (.bool (ineg (sm' + cc)))).set 1 (.string (imag (sm' + cc)))
              have hS := (BEL5.out.setCell (p := ⟨w1.heap.size, 0, none⟩) (Nat.le_refl _) (.bool (ineg (sm' + cc)))).setCell (p := ⟨w1.heap.size, 1, none⟩) (Nat.le_refl _) (.string (imag (sm' + cc)))
              have hE := BE5.out.of_block ((Below.heap_setCell (w5.setCell ⟨w1.heap.size, 0, none⟩ (.bool (ineg (sm' + cc)))) ⟨w1.heap.size, 1, none⟩ (.string (imag (sm' + cc))) BE (fun h => hn3 h.symm)).trans (Below.heap_setCell w5 ⟨w1.heap.size, 0, none⟩ (.bool (ineg (sm' + cc))) BE (fun h => hn3 h.symm)))
              obtain ⟨wy, hwy⟩ : ∃ wy, (w5.setCell ⟨w1.heap.size, 0, none⟩ (.bool (ineg (sm' + cc)))).setCell ⟨w1.heap.size, 1, none⟩ (.string (imag (sm' + cc))) = wy := ⟨_, rfl⟩
              rw [hwy] at hA hS hE ⊢
              have c1 := hE.cell (j := 1) rfl
              have c2 := hE.cell (j := 2) rfl
              have HA := Lib.hid hA; clear hA
              have HS := Lib.hid hS; clear hS
              clear hwy hE x0 x1 f0 f1
              go_wp2_with fail
              go_roundw
              case rel => exact ⟨q + 1, sm' + cc, nx, by omega, by go_num, rfl, HNEXT.out, HS.out, HA.out⟩
              case measure => simp [intOf]; omega
            · have d1 : decide (lb < lt) = false := decide_eq_false hl1
              rw [if_neg hl1] at hnext
              by_cases hl2 : lb = lt
              · have d2 : (lb == lt) = true := by simpa using hl2
                rw [if_pos hl2] at hnext
                have HNEXT := Lib.hid hnext; clear hnext
                have BEL4 := Lib.hid bel4; clear bel4
                have KB4 := Lib.hid kb4; clear kb4
                have HL2 := Lib.hid hl2; clear hl2
                clear hbel kb kg hget hem hfo hinE be4 hsm'
                go_wp2_with fail
                go_roundw
                case rel => exact ⟨q + 1, sm', t, by omega, by go_num, rfl, HNEXT.out, BEL4.out, KB4.out⟩
                case measure => simp [intOf]; omega
              · have d2 : (lb == lt) = false := by simpa using hl2
                rw [if_neg hl2] at hnext
                have HNEXT := Lib.hid hnext; clear hnext
                have BEL4 := Lib.hid bel4; clear bel4
                have KB4 := Lib.hid kb4; clear kb4
                clear hbel kb kg hget hem hfo hinE be4 hsm'
                go_wp2_with fail
                go_roundw
                case rel => exact ⟨q + 1, sm', nx, by omega, by go_num, rfl, HNEXT.out, BEL4.out, KB4.out⟩
                case measure => simp [intOf]; omega
          · have hff : (e.f != (sk : Int)) = true := by simpa using hf
            have hfo2 : rrF es p m lt (fo es (sk : Int) (q + 1)) (sm, -1) = (sm', nx) := by rw [fo_no hget hf]; exact hfo
            have HFO := Lib.hid hfo2; clear hfo2
            have BEL4 := Lib.hid bel4; clear bel4
            have KB4 := Lib.hid kb4; clear kb4
            clear hbel kb kg hget hem hfo be4
            go_wp2_with fail
            go_roundw
            case rel => exact ⟨q + 1, sm', nx, by omega, by go_num, rfl, HFO.out, BEL4.out, KB4.out⟩
            case measure => simp [intOf]; omega
        · obtain rfl : q = mm := by omega
          have hfo2 := hfo
          rw [HMM.out, fo_full, HLT0.out] at hfo2
          have hgo := rrF_rkGo (es := es) (p := p) (m := m) (c := c) sm (-1) (HASC.out (sk : Int))
          have hrr := HRR2.out
          rcases hk : rkGo es p m c (outE es (sk : Int)) sm with ⟨sm2, _ | t⟩
          · rw [hk] at hgo hrr
            dsimp only at hrr
            have hnx : nx = -1 := by have := hgo.2 rfl; rw [hfo2] at this; exact this
            subst hnx
            have kr2 := C1.out.keep hbel
            have y0 := kr2.cell (j := 0) rfl
            have y1 := kr2.cell (j := 1) rfl
            have f0 := kr2.frozen 0
            have f1 := kr2.frozen 1
            have hbw := S1.out.trans (hbel.mono S1.out.size)
            have hne : ¬ w.heap.size + 1 = w.heap.size := by omega
            have HRR3 := Lib.hid hrr; clear hrr
            have HBW := Lib.hid hbw; clear hbw
            clear hgo hfo hfo2 hk hbel kb kg kr2
            go_wp2_with fail
            refine bodyPost_ret (v := .tuple #[IntV 0, .int .i64 0, .bool false]) ?_ rfl ?_
            · simp [results, Tryz.results39, go_sem, y0, y1, hne, IntV, ineg_zero, imag_zero]
            · refine ⟨(HBW.out.setCell (p := ⟨w.heap.size + 1, 0, none⟩) (Nat.le_succ _) _).setCell (p := ⟨w.heap.size + 1, 1, none⟩) (Nat.le_succ _) _, ?_⟩
              rw [HRR3.out]; rfl
          · rw [hk] at hgo hrr
            dsimp only at hrr
            have h2 := hgo.1 t rfl
            rw [hfo2] at h2
            dsimp only at h2
            obtain ⟨rfl, rfl⟩ : sm' = sm2 ∧ nx = t := by cases h2; exact ⟨rfl, rfl⟩
            have hmem : ∀ y ∈ fo es (sk : Int) q, y ∈ es := fun y hy => List.mem_of_mem_take (List.mem_filter.1 hy).1
            have hnn2 := HRNX.out m lt (fo es (sk : Int) q) (sm, -1) hmem (.inl rfl)
            rw [hfo] at hnn2
            dsimp only at hnn2
            have htr : 0 ≤ nx ∧ nx < S := by
              rcases hnn2 with h3 | h3
              · exfalso
                obtain ⟨e, he, -, h4⟩ := rkGo_mem2 (es := es) (p := p) (k := m) (c := c) (l := outE es (sk : Int)) (sum := sm) (t := nx) (by rw [hk])
                have := HIN.out e (List.mem_filter.1 he).1
                omega
              · exact h3
            obtain ⟨t, rfl⟩ : ∃ t : Nat, nx = t := ⟨nx.toNat, by omega⟩
            have hok2 := HROK.out m hmn lt (fo es (sk : Int) q) (i * 1024) (sm, -1) HSM.out
            rw [hfo] at hok2
            dsimp only at hok2
            have hfl : (fo es (sk : Int) q).length ≤ 1024 := by
              refine Nat.le_trans (List.length_filter_le _ _) ?_
              rw [List.length_take]; omega
            have hok3 := hok2.mono (j := (i + 1) * 1024) (by omega)
            have hnb : decide ((t : Int) < 0) = false := decide_eq_false (by omega)
            have htS : t < S := by omega
            have HRR3 := Lib.hid hrr; clear hrr
            have HOK3 := Lib.hid hok3; clear hok3
            have HBEL2 := Lib.hid hbel; clear hbel
            have KB2 := Lib.hid kb; clear kb
            clear hgo hfo hfo2 hk kg hmem hnn2 hok2 hfl htr h2
            go_wp2_with fail
            go_roundw
            case rel => exact ⟨i + 1, t, sm', by omega, by go_num, rfl, htS, HOK3.out, HRR3.out, HBEL2.out, KB2.out⟩
            case measure => simp [intOf]; omega
    · obtain rfl : i = n := by omega
      rw [List.drop_of_length_le (by omega), rk] at hRR
      have hrs2 := HRS1.out.below hbel (Nat.le_refl _)
      have hwI : ¬ (i : Int) < (wd.size : Int) := by have := HNN.out; omega
      have hha2 := HHA.out (sk : Int) wr hrs2
      obtain ⟨tb, htb⟩ : ∃ tb, p (sk : Int) = tb := ⟨_, rfl⟩
      rw [htb] at hha2
      have hne : ¬ w.heap.size + 1 = w.heap.size := by omega
      have hne2 : ¬ w.heap.size + 1 = w1.heap.size := by omega
      have hne3 : ¬ w1.heap.size = w.heap.size + 1 := by omega
      have HHA2 := Lib.hid hha2; clear hha2
      have HRR2 := Lib.hid hRR; clear hRR
      have HBW := Lib.hid hbw; clear hbw
      have HTB := Lib.hid htb; clear htb
      clear kg hbel hrs2
      go_wp2_with fail
      go_at_call 80
      refine HHA2.out.mono ?_
      rintro e w2 ⟨hq, rfl⟩
      have hbw2 := HBW.out.trans (hq.mono HBW.out.size)
      have kr2 := kr.keep hq
      have kb2 := kb.keep hq
      have x0 := kb2.cell (j := 0) rfl
      have x1 := kb2.cell (j := 1) rfl
      have y0 := kr2.cell (j := 0) rfl
      have y1 := kr2.cell (j := 1) rfl
      have f0 := kr2.frozen 0
      have f1 := kr2.frozen 1
      have HBW2 := Lib.hid hbw2; clear hbw2
      clear hq kr2 kb2 kr kb
      cases tb with
      | true =>
        go_wp2_with fail
        refine bodyPost_ret (v := .tuple #[IntV sm, .int .i64 (sk : Int), .bool true]) ?_ rfl ?_
        · simp [results, Tryz.results39, go_sem, y0, y1, hne, hne2, IntV]
        · refine ⟨(HBW2.out.setCell (p := ⟨w.heap.size + 1, 0, none⟩) (Nat.le_succ _) _).setCell (p := ⟨w.heap.size + 1, 1, none⟩) (Nat.le_succ _) _, ?_⟩
          rw [HRR2.out, show rkS p (some (sm, (sk : Int))) = some (sm, (sk : Int)) from by simp [rkS, HTB.out]]; rfl
      | false =>
        go_wp2_with fail
        refine bodyPost_ret (v := .tuple #[IntV 0, .int .i64 0, .bool false]) ?_ rfl ?_
        · simp [results, Tryz.results39, go_sem, y0, y1, hne, IntV, ineg_zero, imag_zero]
        · refine ⟨(HBW2.out.setCell (p := ⟨w.heap.size + 1, 0, none⟩) (Nat.le_succ _) _).setCell (p := ⟨w.heap.size + 1, 1, none⟩) (Nat.le_succ _) _, ?_⟩
          rw [HRR2.out, show rkS p (some (sm, (sk : Int))) = none from by simp [rkS, HTB.out]]; rfl
end Go.Proofs.YtalipfnbpnkgnaaGreat
