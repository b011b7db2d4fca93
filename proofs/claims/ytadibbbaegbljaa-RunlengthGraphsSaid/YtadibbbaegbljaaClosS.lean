/- The closure of runlength.Spaced. -/
import Derived.Test.YtadibbbaegbljaaPlainU
namespace Go.Proofs.Ytadibbbaegbljaa
open Go.RowKit

set_option maxRecDepth 100000 in
set_option maxHeartbeats 1600000 in
theorem spacedF_any (d st E : Nat) (w : World) (pe pd ps : Nat) (hE : E < 64) (hd : d ≤ 9223372036854775807) (hst : 1 ≤ st) (hst2 : st ≤ 9223372036854775807) (hpe : pe < w.heap.size) (hpd : pd < w.heap.size) (hps : ps < w.heap.size)
    (ce : w.cell? ⟨pe, 0, none⟩ = some (.int .i64 (E : Int))) (cd : w.cell? ⟨pd, 0, none⟩ = some (.int .i64 (d : Int))) (cs : w.cell? ⟨ps, 0, none⟩ = some (.int .i64 (st : Int))) :
    Adds 55 #[.pointer (some ⟨pe, 0, none⟩), .pointer (some ⟨pd, 0, none⟩), .pointer (some ⟨ps, 0, none⟩)] w ((E : Int) + 1) (gL (gS d st E) (E + 1)) := by
  intro bs b w0 hw hbs hb hS hl
  have e0 := (hw.cell (p := ⟨pe, 0, none⟩) hpe).trans ce
  have d0 := (hw.cell (p := ⟨pd, 0, none⟩) hpd).trans cd
  have s0 := (hw.cell (p := ⟨ps, 0, none⟩) hps).trans cs
  clear ce cd cs
  have HL0 := Lib.hid hl; clear hl
  have hpe' : pe < b := by omega
  have hpd' : pd < b := by omega
  have hps' : ps < b := by omega
  have SB0 := Lib.hid hS; clear hS
  have HW := Lib.hid hw; clear hw
  have E0 := Lib.hid e0
  have D0 := Lib.hid d0
  have S0 := Lib.hid s0
  go_enter Try.func55, Try.ntmps55
  go_wp2_with fail
  clear e0 d0 s0
  go_loopw [8] (fun i wr => ∃ m : Nat, m ≤ E + 1 ∧ i = .int .i64 m ∧ Below b w0 wr ∧ ListAt wr b (gL (gS d st E) m)) (fun i _ => E + 1 - (intOf i).toNat)
  case atStart => exact ⟨0, by omega, rfl, Below.refl _ _, HL0.out⟩
  case round =>
    obtain ⟨m, hm, rfl, hbel, hlist⟩ := hrel
    have hll := gL_length (gS d st E) 2 m (fun s _ => by unfold gS; split <;> split <;> simp)
    have hl1 := addTo_length ((E : Int) + 1) (gL (gS d st E) m) ⟨m, 0, (m : Int) + 1⟩
    have h1 : addTo ((E : Int) + 1) (gL (gS d st E) m) ⟨m, 0, (m : Int) + 1⟩ = gL (gS d st E) m ++ (if m < E then [⟨m, 0, (m : Int) + 1⟩] else []) := by
      by_cases h : m < E
      · rw [if_pos h, addTo_in (by show (0 : Int) ≤ (m : Int) + 1 ∧ (m : Int) + 1 < (E : Int) + 1; omega)]
      · rw [if_neg h, addTo_out (by show ¬((0 : Int) ≤ (m : Int) + 1 ∧ (m : Int) + 1 < (E : Int) + 1); omega), List.append_nil]
    have h2 : d ≤ m → (m - d) % st = 0 → gL (gS d st E) (m + 1) = addTo ((E : Int) + 1) (addTo ((E : Int) + 1) (gL (gS d st E) m) ⟨m, 0, (m : Int) + 1⟩) ⟨m, 1, 0⟩ := fun a c => by
      rw [h1, gL_succ, gS, if_pos (c := d ≤ m ∧ (m - d) % st = 0) ⟨a, c⟩, addTo_in (by show (0 : Int) ≤ 0 ∧ (0 : Int) < (E : Int) + 1; omega), List.append_assoc]
    have h3 : ¬(d ≤ m ∧ (m - d) % st = 0) → gL (gS d st E) (m + 1) = addTo ((E : Int) + 1) (gL (gS d st E) m) ⟨m, 0, (m : Int) + 1⟩ := fun a => by
      rw [h1, gL_succ, gS, if_neg (c := d ≤ m ∧ (m - d) % st = 0) a, List.append_nil]
    have H2 := Lib.hid h2; clear h2
    have H3 := Lib.hid h3; clear h3 h1
    have er := (hbel.cell (p := ⟨pe, 0, none⟩) hpe').trans E0.out
    have dr := (hbel.cell (p := ⟨pd, 0, none⟩) hpd').trans D0.out
    have sr := (hbel.cell (p := ⟨ps, 0, none⟩) hps').trans S0.out
    have sr := (hbel.cell (p := ⟨bs, 0, none⟩) hb).trans SB0.out
    have SR := Lib.hid sr; clear sr
    have HB := Lib.hid hbel; clear hbel
    have HLI := Lib.hid hlist; clear hlist
    by_cases hlt : m < E + 1
    · by_cases hdm : d ≤ m
      · have t1 : decide (d ≤ m) = true := by simpa using hdm
        have hnn : (0 : Int) ≤ (m : Int) - (d : Int) := by omega
        by_cases hr : (m - d) % st = 0
        · have t2 : (((m : Int) - (d : Int)) % (st : Int) == 0) = true := by
            rw [show (m : Int) - (d : Int) = ((m - d : Nat) : Int) by omega, ← Int.natCast_emod, hr]; rfl
          have hg := H2.out hdm hr
          have HG := Lib.hid hg; clear hg hr
          go_wp2_with fail
          go_at_call 75
          refine (badd_any ((E : Int) + 1) _ ⟨m, 0, (m : Int) + 1⟩ bs b _ HLI.out SR.out (by omega) hb).mono ?_
          rintro e w1 ⟨hq, rfl, hli⟩
          have e1 := (hq.cell (p := ⟨pe, 0, none⟩) hpe').trans er
          have d1 := (hq.cell (p := ⟨pd, 0, none⟩) hpd').trans dr
          have s1 := (hq.cell (p := ⟨ps, 0, none⟩) hps').trans sr
          have sr1 := (hq.cell (p := ⟨bs, 0, none⟩) hb).trans SR.out
          have SR1 := Lib.hid sr1; clear sr1
          have HQ1 := Lib.hid hq; clear hq
          have HL1 := Lib.hid hli; clear hli
          go_wp2_with fail
          go_at_call 75
          refine (badd_any ((E : Int) + 1) _ ⟨m, 1, 0⟩ bs b _ HL1.out SR1.out (by omega) hb).mono ?_
          rintro e w2 ⟨hq, rfl, hli⟩
          have e2 := (hq.cell (p := ⟨pe, 0, none⟩) hpe').trans e1
          have d2 := (hq.cell (p := ⟨pd, 0, none⟩) hpd').trans d1
          have s2 := (hq.cell (p := ⟨ps, 0, none⟩) hps').trans s1
          have sr2 := (hq.cell (p := ⟨bs, 0, none⟩) hb).trans SR1.out
          have SR2 := Lib.hid sr2; clear sr2
          have HQ2 := Lib.hid hq; clear hq
          have HL2 := Lib.hid hli; clear hli
          go_wp2_with fail
          go_roundw
          case rel => exact ⟨m + 1, by omega, by go_num, (HB.out.trans HQ1.out).trans HQ2.out, by rw [HG.out]; exact HL2.out⟩
          case measure => simp [intOf]; omega
        · have t2 : (((m : Int) - (d : Int)) % (st : Int) == 0) = false := by
            rw [show (m : Int) - (d : Int) = ((m - d : Nat) : Int) by omega, ← Int.natCast_emod, beq_eq_false_iff_ne]; omega
          have hg := H3.out (fun h => hr h.2)
          have HG := Lib.hid hg; clear hg hr
          go_wp2_with fail
          go_at_call 75
          refine (badd_any ((E : Int) + 1) _ ⟨m, 0, (m : Int) + 1⟩ bs b _ HLI.out SR.out (by omega) hb).mono ?_
          rintro e w1 ⟨hq, rfl, hli⟩
          have e1 := (hq.cell (p := ⟨pe, 0, none⟩) hpe').trans er
          have d1 := (hq.cell (p := ⟨pd, 0, none⟩) hpd').trans dr
          have s1 := (hq.cell (p := ⟨ps, 0, none⟩) hps').trans sr
          have sr1 := (hq.cell (p := ⟨bs, 0, none⟩) hb).trans SR.out
          have SR1 := Lib.hid sr1; clear sr1
          have HQ1 := Lib.hid hq; clear hq
          have HL1 := Lib.hid hli; clear hli
          go_wp2_with fail
          go_roundw
          case rel => exact ⟨m + 1, by omega, by go_num, HB.out.trans HQ1.out, by rw [HG.out]; exact HL1.out⟩
          case measure => simp [intOf]; omega
      · have t1 : decide (d ≤ m) = false := by simpa using hdm
        have hg := H3.out (fun h => hdm h.1)
        have HG := Lib.hid hg; clear hg
        go_wp2_with fail
        go_at_call 75
        refine (badd_any ((E : Int) + 1) _ ⟨m, 0, (m : Int) + 1⟩ bs b _ HLI.out SR.out (by omega) hb).mono ?_
        rintro e w1 ⟨hq, rfl, hli⟩
        have e1 := (hq.cell (p := ⟨pe, 0, none⟩) hpe').trans er
        have d1 := (hq.cell (p := ⟨pd, 0, none⟩) hpd').trans dr
        have s1 := (hq.cell (p := ⟨ps, 0, none⟩) hps').trans sr
        have sr1 := (hq.cell (p := ⟨bs, 0, none⟩) hb).trans SR.out
        have SR1 := Lib.hid sr1; clear sr1
        have HQ1 := Lib.hid hq; clear hq
        have HL1 := Lib.hid hli; clear hli
        go_wp2_with fail
        go_roundw
        case rel => exact ⟨m + 1, by omega, by go_num, HB.out.trans HQ1.out, by rw [HG.out]; exact HL1.out⟩
        case measure => simp [intOf]; omega
    · obtain rfl : m = E + 1 := by omega
      go_wp2_with fail
      go_end0
      exact ⟨HB.out, rfl, HLI.out⟩
end Go.Proofs.Ytadibbbaegbljaa
