/- The closure of runlength.Transitions. -/
import Derived.Test.YtadibbbaegbljaaPlainU
namespace Go.Proofs.Ytadibbbaegbljaa
open Go.RowKit

set_option maxRecDepth 100000 in
set_option maxHeartbeats 1600000 in
theorem transF_any (j k : Nat) (w : World) (pk pj : Nat) (hj : 1 ≤ j) (hk : 1 ≤ k) (hjk : j + k ≤ 64) (hpk : pk < w.heap.size) (hpj : pj < w.heap.size)
    (ck : w.cell? ⟨pk, 0, none⟩ = some (.int .i64 (k : Int))) (cj : w.cell? ⟨pj, 0, none⟩ = some (.int .i64 (j : Int))) :
    Adds 56 #[.pointer (some ⟨pk, 0, none⟩), .pointer (some ⟨pj, 0, none⟩)] w ((j : Int) + (k : Int)) (gL (gT2 j k) (j + k)) := by
  intro bs b w0 hw hbs hb hS hl
  have k0 := (hw.cell (p := ⟨pk, 0, none⟩) hpk).trans ck
  have j0 := (hw.cell (p := ⟨pj, 0, none⟩) hpj).trans cj
  clear ck cj
  have HL0 := Lib.hid hl; clear hl
  have hpk' : pk < b := by omega
  have hpj' : pj < b := by omega
  have SB0 := Lib.hid hS; clear hS
  have HW := Lib.hid hw; clear hw
  have K0 := Lib.hid k0
  have J0 := Lib.hid j0
  go_enter Try.func56, Try.ntmps56
  go_wp2_with fail
  clear k0 j0
  go_loopw [7] (fun i wr => ∃ m : Nat, m ≤ k ∧ i = .int .i64 m ∧ Below b w0 wr ∧ ListAt wr b (gL (gT2 j k) m)) (fun i _ => k - (intOf i).toNat)
  case atStart => exact ⟨0, by omega, rfl, Below.refl _ _, HL0.out⟩
  case round =>
    obtain ⟨m, hm, rfl, hbel, hlist⟩ := hrel
    have hll := gL_length (gT2 j k) 2 m (fun s _ => by unfold gT2; split <;> split <;> simp)
    have kr := (hbel.cell (p := ⟨pk, 0, none⟩) hpk').trans K0.out
    have jr := (hbel.cell (p := ⟨pj, 0, none⟩) hpj').trans J0.out
    have sr := (hbel.cell (p := ⟨bs, 0, none⟩) hb).trans SB0.out
    have SR := Lib.hid sr; clear sr
    have HB := Lib.hid hbel; clear hbel
    have HLI := Lib.hid hlist; clear hlist
    by_cases hlt : m < k
    · have hl1 := addTo_length ((j : Int) + (k : Int)) (gL (gT2 j k) m) ⟨m, 0, (m : Int) + 1⟩
      by_cases h1 : m + 1 < k
      · have hg : gL (gT2 j k) (m + 1) = addTo ((j : Int) + (k : Int)) (addTo ((j : Int) + (k : Int)) (gL (gT2 j k) m) ⟨m, 0, (m : Int) + 1⟩) ⟨m, 1, k⟩ := by
          rw [addTo_in (es := gL (gT2 j k) m) (by show (0 : Int) ≤ (m : Int) + 1 ∧ (m : Int) + 1 < (j : Int) + (k : Int); omega), addTo_in (by show (0 : Int) ≤ (k : Int) ∧ (k : Int) < (j : Int) + (k : Int); omega), gL_succ, gT2, if_pos hlt, if_pos h1, List.append_assoc]
        have HG := Lib.hid hg; clear hg
        go_wp2_with fail
        go_at_call 75
        refine (badd_any ((j : Int) + (k : Int)) _ ⟨m, 0, (m : Int) + 1⟩ bs b _ HLI.out SR.out (by omega) hb).mono ?_
        rintro e w1 ⟨hq, rfl, hli⟩
        have k1 := (hq.cell (p := ⟨pk, 0, none⟩) hpk').trans kr
        have j1 := (hq.cell (p := ⟨pj, 0, none⟩) hpj').trans jr
        have sr1 := (hq.cell (p := ⟨bs, 0, none⟩) hb).trans SR.out
        have SR1 := Lib.hid sr1; clear sr1
        have HQ1 := Lib.hid hq; clear hq
        have HL1 := Lib.hid hli; clear hli
        go_wp2_with fail
        go_at_call 75
        refine (badd_any ((j : Int) + (k : Int)) _ ⟨m, 1, k⟩ bs b _ HL1.out SR1.out (by omega) hb).mono ?_
        rintro e w2 ⟨hq, rfl, hli⟩
        have k2 := (hq.cell (p := ⟨pk, 0, none⟩) hpk').trans k1
        have j2 := (hq.cell (p := ⟨pj, 0, none⟩) hpj').trans j1
        have sr2 := (hq.cell (p := ⟨bs, 0, none⟩) hb).trans SR1.out
        have SR2 := Lib.hid sr2; clear sr2
        have HQ2 := Lib.hid hq; clear hq
        have HL2 := Lib.hid hli; clear hli
        go_wp2_with fail
        go_roundw
        case rel => exact ⟨m + 1, by omega, by go_num, (HB.out.trans HQ1.out).trans HQ2.out, by rw [HG.out]; exact HL2.out⟩
        case measure => simp [intOf]; omega
      · have hg : gL (gT2 j k) (m + 1) = addTo ((j : Int) + (k : Int)) (gL (gT2 j k) m) ⟨m, 1, k⟩ := by
          rw [addTo_in (by show (0 : Int) ≤ (k : Int) ∧ (k : Int) < (j : Int) + (k : Int); omega), gL_succ, gT2, if_pos hlt, if_neg h1, List.nil_append]
        have HG := Lib.hid hg; clear hg
        go_wp2_with fail
        go_at_call 75
        refine (badd_any ((j : Int) + (k : Int)) _ ⟨m, 1, k⟩ bs b _ HLI.out SR.out (by omega) hb).mono ?_
        rintro e w1 ⟨hq, rfl, hli⟩
        have k1 := (hq.cell (p := ⟨pk, 0, none⟩) hpk').trans kr
        have j1 := (hq.cell (p := ⟨pj, 0, none⟩) hpj').trans jr
        have sr1 := (hq.cell (p := ⟨bs, 0, none⟩) hb).trans SR.out
        have SR1 := Lib.hid sr1; clear sr1
        have HQ1 := Lib.hid hq; clear hq
        have HL1 := Lib.hid hli; clear hli
        go_wp2_with fail
        go_roundw
        case rel => exact ⟨m + 1, by omega, by go_num, HB.out.trans HQ1.out, by rw [HG.out]; exact HL1.out⟩
        case measure => simp [intOf]; omega
    · have hmk : k ≤ m := by omega
      go_wp2_with fail
      go_loopw [5] (fun i wr => ∃ q : Nat, k ≤ q ∧ q ≤ j + k ∧ i = .int .i64 q ∧ Below b w0 wr ∧ ListAt wr b (gL (gT2 j k) q)) (fun i _ => j + k - (intOf i).toNat)
      case atStart =>
        have : m = k := by omega
        subst this
        exact ⟨m, Nat.le_refl _, by omega, rfl, HB.out, HLI.out⟩
      case round =>
        clear HLI SR HB kr jr hlt hmk
        obtain ⟨m, hm1, hm2, rfl, hbel, hlist⟩ := hrel
        have hll := gL_length (gT2 j k) 2 m (fun s _ => by unfold gT2; split <;> split <;> simp)
        have kr := (hbel.cell (p := ⟨pk, 0, none⟩) hpk').trans K0.out
        have jr := (hbel.cell (p := ⟨pj, 0, none⟩) hpj').trans J0.out
        have sr := (hbel.cell (p := ⟨bs, 0, none⟩) hb).trans SB0.out
        have SR := Lib.hid sr; clear sr
        have HB := Lib.hid hbel; clear hbel
        have HLI := Lib.hid hlist; clear hlist
        by_cases hlt : m < j + k
        · have hl1 := addTo_length ((j : Int) + (k : Int)) (gL (gT2 j k) m) ⟨m, 1, (m : Int) + 1⟩
          have hg : gL (gT2 j k) (m + 1) = addTo ((j : Int) + (k : Int)) (addTo ((j : Int) + (k : Int)) (gL (gT2 j k) m) ⟨m, 1, (m : Int) + 1⟩) ⟨m, 0, 0⟩ := by
            rw [gL_succ, gT2, if_neg (by omega)]
            by_cases h1 : m + 1 < j + k
            · rw [addTo_in (es := gL (gT2 j k) m) (by show (0 : Int) ≤ (m : Int) + 1 ∧ (m : Int) + 1 < (j : Int) + (k : Int); omega), addTo_in (by show (0 : Int) ≤ 0 ∧ (0 : Int) < (j : Int) + (k : Int); omega), if_pos h1, List.append_assoc]
            · rw [addTo_out (es := gL (gT2 j k) m) (by show ¬((0 : Int) ≤ (m : Int) + 1 ∧ (m : Int) + 1 < (j : Int) + (k : Int)); omega), addTo_in (by show (0 : Int) ≤ 0 ∧ (0 : Int) < (j : Int) + (k : Int); omega), if_neg h1, List.nil_append]
          have HG := Lib.hid hg; clear hg
          go_wp2_with fail
          go_at_call 75
          refine (badd_any ((j : Int) + (k : Int)) _ ⟨m, 1, (m : Int) + 1⟩ bs b _ HLI.out SR.out (by omega) hb).mono ?_
          rintro e w1 ⟨hq, rfl, hli⟩
          have k1 := (hq.cell (p := ⟨pk, 0, none⟩) hpk').trans kr
          have j1 := (hq.cell (p := ⟨pj, 0, none⟩) hpj').trans jr
          have sr1 := (hq.cell (p := ⟨bs, 0, none⟩) hb).trans SR.out
          have SR1 := Lib.hid sr1; clear sr1
          have HQ1 := Lib.hid hq; clear hq
          have HL1 := Lib.hid hli; clear hli
          go_wp2_with fail
          go_at_call 75
          refine (badd_any ((j : Int) + (k : Int)) _ ⟨m, 0, 0⟩ bs b _ HL1.out SR1.out (by omega) hb).mono ?_
          rintro e w2 ⟨hq, rfl, hli⟩
          have k2 := (hq.cell (p := ⟨pk, 0, none⟩) hpk').trans k1
          have j2 := (hq.cell (p := ⟨pj, 0, none⟩) hpj').trans j1
          have sr2 := (hq.cell (p := ⟨bs, 0, none⟩) hb).trans SR1.out
          have SR2 := Lib.hid sr2; clear sr2
          have HQ2 := Lib.hid hq; clear hq
          have HL2 := Lib.hid hli; clear hli
          go_wp2_with fail
          go_roundw
          case rel => exact ⟨m + 1, by omega, by omega, by go_num, (HB.out.trans HQ1.out).trans HQ2.out, by rw [HG.out]; exact HL2.out⟩
          case measure => simp [intOf]; omega
        · obtain rfl : m = j + k := by omega
          go_wp2_with fail
          go_end0
          exact ⟨HB.out, rfl, HLI.out⟩
end Go.Proofs.Ytadibbbaegbljaa
