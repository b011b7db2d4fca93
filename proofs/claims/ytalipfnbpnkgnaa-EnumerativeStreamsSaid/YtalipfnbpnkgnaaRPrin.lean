/- grooveref29.principal. -/
import Derived.StillTailTactics
import Derived.Deep.AppendLies
import Derived.Test.YtalipfnbpnkgnaaRCnt
import Derived.Test.YtalipfnbpnkgnaaRC29
import Derived.Test.YtalipfnbpnkgnaaRCmp01
namespace Go.Proofs.Ytalipfnbpnkgnaa
open Go.RowKit

theorem cmpZ_ge (x m : Int) : decide (0 ≤ cmpZ x m) = decide (m ≤ x) := by
  unfold cmpZ
  split
  · have : ¬ m ≤ x := by omega
    simp [this]
  · have : m ≤ x := by omega
    split <;> simp [this]
/-- Those that are kept of the first ones. -/
def keepQ (es : List E3) (n : Nat) (m : Int) (set : List Int) (q : Nat) : List Int := (set.take q).filter fun s => decide (m ≤ cw es (pin set) n s)
theorem keepQ_zero (es : List E3) (n : Nat) (m : Int) (set : List Int) : keepQ es n m set 0 = [] := by simp [keepQ]
theorem keepQ_full (es : List E3) (n : Nat) (m : Int) (set : List Int) : keepQ es n m set set.length = keepS es n m set := by simp [keepQ, keepS]
theorem keepQ_len (es : List E3) (n : Nat) (m : Int) (set : List Int) (q : Nat) : (keepQ es n m set q).length ≤ set.length := by
  unfold keepQ
  exact Nat.le_trans (List.length_filter_le _ _) (by rw [List.length_take]; omega)
theorem keepQ_yes {es : List E3} {n : Nat} {m : Int} {set : List Int} {q : Nat} {x : Int} (h : set[q]? = some x) (hx : m ≤ cw es (pin set) n x) : keepQ es n m set (q + 1) = keepQ es n m set q ++ [x] := by
  unfold keepQ
  rw [List.take_add_one, h]
  simp [List.filter_append, hx]
theorem keepQ_no {es : List E3} {n : Nat} {m : Int} {set : List Int} {q : Nat} {x : Int} (h : set[q]? = some x) (hx : ¬ m ≤ cw es (pin set) n x) : keepQ es n m set (q + 1) = keepQ es n m set q := by
  unfold keepQ
  rw [List.take_add_one, h]
  simp [List.filter_append, hx]
set_option maxRecDepth 100000 in
set_option maxHeartbeats 3200000 in
theorem rprincipal_any (L m : Int) (S n : Nat) (es : List E3) (v : Value) (w : World) (hr : Row w v es.length (ce es)) (hch : chk L (S : Int) es = 0) (hn : n ≤ 4096) (hm : small m) :
    Calls Try.prog 40 #[.agg #[.int .i64 L, .int .i64 (S : Int), v], .int .i64 (n : Int), .agg #[.bool (ineg m), .string (imag m)]] w (RowZ w (prin es n m (uptoZ S))) := by
  obtain ⟨va, vc, rfl, hle⟩ := hr.slice
  obtain ⟨i0, hi, hz0, hz1', hz2'⟩ := info_parts infoIntP
  have hca := chk_all hch
  have hS : S ≤ 64 := by omega
  have hl := hca.2.2.2.1
  have hin := chk_inS hch
  have s0 := ((Below.refl w.heap.size w).alloc (Nat.le_refl _) (.cells #[.int .i64 L, .int .i64 (S : Int), .slice va es.length vc] 24)).alloc (by simp) (.cells #[.bool (ineg m), .string (imag m)] 26)
  have b0 := (Blk.new w 24 [.int .i64 L, .int .i64 (S : Int), .slice va es.length vc]).alloc (.cells #[.bool (ineg m), .string (imag m)] 26)
  have b1 := Blk.new (w.alloc (.cells #[.int .i64 L, .int .i64 (S : Int), .slice va es.length vc] 24)) 26 [.bool (ineg m), .string (imag m)]
  simp only [World.size_alloc] at b1
  have hr0 := hr.below s0 (Nat.le_refl _)
  have hall := rall_any L S es _ _ hr0 hch
  have hct := fun set sv w' h1 h2 h3 h4 => counts_any L S n es set (.slice va es.length vc) sv w' h1 h2 h3 h4 hS hn hl hin
  obtain ⟨mm, hmm⟩ : ∃ mm, mm = es.length := ⟨_, rfl⟩
  rw [← hmm] at s0 b0 b1 hr0 hall hct hle ⊢
  have HMM := Lib.hid hmm; clear hmm
  have HALL := Lib.hid hall; clear hall
  have HCT := Lib.hid hct; clear hct
  have S0 := Lib.hid s0; clear s0
  have B0 := Lib.hid b0; clear b0
  have B1 := Lib.hid b1; clear b1
  have HR := Lib.hid hr0; clear hr0
  have HIN := Lib.hid hin; clear hin
  clear hr hch hca
  go_enter Try.func40, Try.ntmps40
  go_wp2_with fail
  go_at_call 78
  refine HALL.out.mono ?_
  rintro e w1 ⟨hq1, vu, rfl, hru⟩
  obtain ⟨ua, uc, rfl, -⟩ := hru.slice
  have s1 := S0.out.trans (hq1.mono S0.out.size)
  have c0 := B0.out.keep hq1
  have c1 := B1.out.keep hq1
  have hr1 := HR.out.below hq1 (Nat.le_refl _)
  have S1 := Lib.hid s1; clear s1
  have C0 := Lib.hid c0; clear c0
  have C1 := Lib.hid c1; clear c1
  have HR1 := Lib.hid hr1; clear hr1
  have HRU := Lib.hid hru; clear hru
  have hw1 : w.heap.size ≤ w1.heap.size := S1.out.size
  clear hq1
  go_wp2_with fail
  go_loopw [7, 8, 9, 10] (fun u _ _ _ wr => ∃ (set : List Int), Row wr u set.length (ci set) ∧ Below w1.heap.size w1 wr ∧ InR S set ∧ set.length ≤ S ∧ prin es n m set = prin es n m (uptoZ S)) (fun u _ _ _ _ => sliceLen u)
  case atStart => exact ⟨uptoZ S, HRU.out, Below.refl _ _, uptoZ_inR S, by rw [uptoZ_length]; exact Nat.le_refl _, rfl⟩
  case round =>
    obtain ⟨set, hrow, hbel, hir, hsl, hpr⟩ := hrel
    obtain ⟨sa, sc, rfl, -⟩ := hrow.slice
    have hszw : w1.heap.size ≤ wr.heap.size := hbel.size
    have k0 := C0.out.keep hbel
    have k1 := C1.out.keep hbel
    have kr := HR1.out.below hbel (Nat.le_refl _)
    have hc := HCT.out set (.slice sa set.length sc) wr kr hrow hir (by omega)
    obtain ⟨M, hM⟩ : ∃ M, M = set.length := ⟨_, rfl⟩
    rw [← hM] at hrow hc hsl ⊢
    have HROW := Lib.hid hrow; clear hrow
    have HBEL := Lib.hid hbel; clear hbel
    have HIR := Lib.hid hir; clear hir
    have HPR := Lib.hid hpr; clear hpr
    have HC := Lib.hid hc; clear hc
    have HM := Lib.hid hM; clear hM
    have KR := Lib.hid kr; clear kr
    have g0 := k0.cell (j := 0) rfl
    have g1 := k0.cell (j := 1) rfl
    have g2 := k0.cell (j := 2) rfl
    have K0 := Lib.hid k0; clear k0
    have K1 := Lib.hid k1; clear k1
    go_wp2_with fail
    go_at_call 79
    refine HC.out.mono ?_
    rintro e w2 ⟨hq2, tv, rfl, htab⟩
    have k1' := K1.out.keep hq2
    have hrow2 := HROW.out.below hq2 (Nat.le_refl _)
    have hbel2 := HBEL.out.trans (hq2.mono hszw)
    have hsz2 : wr.heap.size ≤ w2.heap.size := hq2.size
    obtain ⟨rvs, hrl, hrr, hrs⟩ := htab.tab
    obtain ⟨rv, hrv, hrow3⟩ := hrs n (rowK es S (pin set) n) (tabL_get (by omega))
    rw [tabL_length] at hrr hrl
    rw [rowK_length] at hrow3
    obtain ⟨ta, tc, rfl, -⟩ := hrr.slice
    obtain ⟨b1, o1, rfl, hb1, hc1⟩ := hrr.at_ (by omega)
    obtain ⟨ra, rc, rfl, -⟩ := hrow3.slice
    have e0 := hc1 n _ hrv
    have i1 : (0 : Int) ≤ (n : Int) := by omega
    have i2 : (n : Int) < (n : Int) + 1 := by omega
    have K1' := Lib.hid k1'; clear k1'
    have HROW2 := Lib.hid hrow2; clear hrow2
    have HBEL2 := Lib.hid hbel2; clear hbel2
    have HROW3 := Lib.hid hrow3; clear hrow3
    clear hrs hrr hrl hc1 hrv htab g0 g1 g2 hq2
    go_wp2_with fail
    clear e0
    go_loopw [9, 10] (fun kv i wi => ∃ q : Nat, q ≤ M ∧ i = .int .i64 (q : Int) ∧ wi.ownsRow w2.heap.size 3 1 kv (keepQ es n m set q).length (ci (keepQ es n m set q)) ∧ Below w2.heap.size w2 wi) (fun _ i _ => M - (intOf i).toNat)
    case atStart => exact ⟨0, Nat.zero_le _, rfl, by rw [keepQ_zero]; exact World.ownsRow_nil _ _ _ _, Below.refl _ _⟩
    case round =>
      obtain ⟨q, hq, rfl, hown, hbi⟩ := hrel
      have hszi : w2.heap.size ≤ wr.heap.size := hbi.size
      obtain ⟨ka, kcap, rfl⟩ := own_slice hown
      have hkl := keepQ_len es n m set q
      rw [← HM.out] at hkl
      have HO := Lib.hid hown; clear hown
      have HBI := Lib.hid hbi; clear hbi
      by_cases hlt : q < M
      · obtain ⟨s, hs, hget⟩ := inR_get HIR.out (show q < set.length by rw [← HM.out]; exact hlt)
        obtain ⟨sb, so, rfl, hsb, hcs⟩ := HROW2.out.at_ (by omega)
        obtain ⟨rb, ro, rfl, hrb, hcr⟩ := HROW3.out.at_ (by omega)
        have hx : (rowK es S (pin set) n)[s]? = some (cw es (pin set) n (s : Int)) := rowK_get hs
        obtain ⟨X, hX⟩ : ∃ X, X = cw es (pin set) n (s : Int) := ⟨_, rfl⟩
        rw [← hX] at hx
        have hsX : small X := by rw [hX]; exact cw_small (by omega) _ n (by omega) _
        have x0 := (HBI.out.cell (p := ⟨sb, so + q, none⟩) hsb).trans (hcs q _ (ci_at hget))
        have x1 := (HBI.out.cell (p := ⟨rb, ro + s * 2, none⟩) hrb).trans (hcr _ _ (civ_get hx).1)
        have x2 := (HBI.out.cell (p := ⟨rb, ro + (s * 2 + 1), none⟩) hrb).trans (hcr _ _ (civ_get hx).2)
        rw [← Nat.add_assoc] at x2
        have km := K1'.out.keep HBI.out
        have x3 := km.cell (j := 0) rfl
        have x4 := km.cell (j := 1) rfl
        have hcmp := fun w' => rcompare_any X m w' hsX hm
        obtain ⟨cz, hcz⟩ : ∃ cz, cz = cmpZ X m := ⟨_, rfl⟩
        have hge : decide (0 ≤ cz) = decide (m ≤ X) := by rw [hcz]; exact cmpZ_ge X m
        simp only [← hcz] at hcmp
        have hyes : m ≤ X → keepQ es n m set (q + 1) = keepQ es n m set q ++ [(s : Int)] := fun h => keepQ_yes hget (by rw [← hX]; exact h)
        have hno : ¬ m ≤ X → keepQ es n m set (q + 1) = keepQ es n m set q := fun h => keepQ_no hget (by rw [← hX]; exact h)
        have i3 : (0 : Int) ≤ (s : Int) := by omega
        have i4 : (s : Int) < (S : Int) := by omega
        have i5 : (q : Int) < (M : Int) := by omega
        have hsb2 : sb < wr.heap.size := by omega
        have HCMP := Lib.hid hcmp; clear hcmp
        have HGE := Lib.hid hge; clear hge
        have HYES := Lib.hid hyes; clear hyes
        have HNO := Lib.hid hno; clear hno
        clear hX hx hcz hcs hcr km hget hsX
        obtain ⟨K, hK⟩ : ∃ K, K = keepQ es n m set q := ⟨_, rfl⟩
        rw [← hK] at hkl HO HYES HNO ⊢
        have HK := Lib.hid hK; clear hK
        by_cases hmx : m ≤ X
        · have hd := HGE.out
          rw [decide_eq_true hmx] at hd
          have hnx := HYES.out hmx
          have HNX := Lib.hid hnx; clear hnx
          clear hmx
          go_wp2_with fail
          go_still_tail 8, (by kernel_rfl)
          change wpList _ _ _ _ _ wr.drew
          go_wp2_with fail
          go_at_call 77
          refine (HCMP.out _).mono ?_
          rintro e w3 ⟨hq3, rfl⟩
          have y0 := (hq3.cell (p := ⟨sb, so + q, none⟩) (by simpa using hsb2)).trans x0
          have hod : wr.drew.ownsRow w2.heap.size 3 1 (.slice ka K.length kcap) K.length (ci K) := HO.out
          have ho3 := own_below hod hq3
          clear hod
          have hb3 := HBI.out.drew.trans (hq3.mono HBI.out.drew.size)
          have hsz3 : w2.heap.size ≤ w3.heap.size := hb3.size
          have HO3 := Lib.hid ho3; clear ho3
          have HB3 := Lib.hid hb3; clear hb3
          clear hq3 x0 x1 x2 x3 x4
          go_wp2_with (at_builtin; refine wpList_append_lies _ rfl (.tmp 36) (.tmp 41) 31 rfl w2.heap.size 3 i0 _ 1 8 Try.underlying31 hi hz0 hz1' hz2' rfl (by decide) _ _ _ rfl (HO3.out.alloc _) _ 1 1 [.int .i64 (s : Int)] rfl rfl (World.news_of_block (heap_alloc_new _ _)) (by simp [Value.oneCell']) (by omega) (by unfold maxLen; omega) (by omega) (by simp; omega) _ rfl ?_; intro g cap' w4 hown' hg hat hlt'; have HG := Lib.hid hg; clear hg; have HO4 := Lib.hid hown'; clear hown'; have HAT := Lib.hid hat; clear hat)
          go_roundw
          case rel =>
            refine ⟨q + 1, by omega, by go_num, ?_, (HB3.out.alloc hsz3 _).grown HG.out (by simp; omega) (fun j hj => (HO3.out.lt j hj).1)⟩
            rw [HNX.out, List.length_append, ci_snoc]
            exact HO4.out
          case measure => simp [intOf]; omega
        · have hd := HGE.out
          rw [decide_eq_false hmx] at hd
          have hnx := HNO.out hmx
          have HNX := Lib.hid hnx; clear hnx
          clear hmx
          go_wp2_with fail
          go_still_tail 8, (by kernel_rfl)
          change wpList _ _ _ _ _ wr.drew
          go_wp2_with fail
          go_at_call 77
          refine (HCMP.out _).mono ?_
          rintro e w3 ⟨hq3, rfl⟩
          have hod : wr.drew.ownsRow w2.heap.size 3 1 (.slice ka K.length kcap) K.length (ci K) := HO.out
          have ho3 := own_below hod hq3
          clear hod
          have hb3 := HBI.out.drew.trans (hq3.mono HBI.out.drew.size)
          have HO3 := Lib.hid ho3; clear ho3
          have HB3 := Lib.hid hb3; clear hb3
          clear hq3 x0 x1 x2 x3 x4
          go_wp2_with fail
          go_roundw
          case rel => exact ⟨q + 1, by omega, by go_num, by rw [HNX.out]; exact HO3.out, HB3.out⟩
          case measure => simp [intOf]; omega
      · obtain rfl : q = M := by omega
        have hkf : keepQ es n m set q = keepS es n m set := by rw [HM.out]; exact keepQ_full _ _ _ _
        have hrk := own_row HO.out
        rw [hkf] at hrk hkl ⊢
        have hrs := HROW2.out.below HBI.out (Nat.le_refl _)
        have hbb := HBEL2.out.trans (HBI.out.mono (by omega))
        obtain ⟨K, hK⟩ : ∃ K, K = keepS es n m set := ⟨_, rfl⟩
        rw [← hK] at hrk hkl ⊢
        have HK := Lib.hid hK; clear hK
        have HRK := Lib.hid hrk; clear hrk
        have HRS := Lib.hid hrs; clear hrs
        have HBB := Lib.hid hbb; clear hbb
        clear hkf
        by_cases hst : K.length = q
        · have hb1 : ((K.length : Int) == (q : Int)) = true := by simp; omega
          have hfin : prin es n m (uptoZ S) = set := by rw [← HPR.out]; exact prin_stop (by rw [← HK.out, hst, HM.out])
          have HFIN := Lib.hid hfin; clear hfin
          clear hst
          go_wp2_with fail
          go_ret
          refine ⟨S1.out.trans (HBB.out.mono hw1), _, rfl, ?_⟩
          rw [HFIN.out, ← HM.out]
          exact HRS.out
        · have hb1 : ((K.length : Int) == (q : Int)) = false := by simp; omega
          have hne : ¬ (keepS es n m set).length = set.length := by rw [← HK.out, ← HM.out]; exact hst
          have hlt2 : K.length < q := by rw [HK.out, HM.out]; exact keepS_lt hne
          have hnx : prin es n m K = prin es n m (uptoZ S) := by rw [← HPR.out, prin_go hne, HK.out]
          have hsub : K.Sublist set := by rw [HK.out]; exact keepS_sub es n m set
          have HNX := Lib.hid hnx; clear hnx
          have HSUB := Lib.hid hsub; clear hsub
          clear hst hne
          go_wp2_with fail
          go_roundw
          case rel => exact ⟨K, HRK.out, HBB.out, fun x hx => HIR.out x (HSUB.out.subset hx), by omega, HNX.out⟩
          case measure => simp [sliceLen]; omega
end Go.Proofs.Ytalipfnbpnkgnaa
