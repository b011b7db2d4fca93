/- The closure of runlength.Levels. -/
import Derived.Test.YtadibbbaegbljaaPlainU
namespace Go.Proofs.Ytadibbbaegbljaa
open Go.RowKit

set_option maxRecDepth 100000 in
set_option maxHeartbeats 1600000 in
theorem levelsF_any (d m : Nat) (k : Int) (w : World) (pm pk pd : Nat) (hm : 1 ≤ m) (hm2 : 2 * m ≤ 64) (hdm : d < m) (hpm : pm < w.heap.size) (hpk : pk < w.heap.size) (hpd : pd < w.heap.size)
    (cm : w.cell? ⟨pm, 0, none⟩ = some (.int .i64 (m : Int))) (ck : w.cell? ⟨pk, 0, none⟩ = some (.int .i64 k)) (cd : w.cell? ⟨pd, 0, none⟩ = some (.int .i64 (d : Int))) :
    Adds 54 #[.pointer (some ⟨pm, 0, none⟩), .pointer (some ⟨pk, 0, none⟩), .pointer (some ⟨pd, 0, none⟩)] w (2 * (m : Int)) (gL (gV d (k == -1) m) (2 * m)) := by
  intro bs b w0 hw hbs hb hS hl
  have m0 := (hw.cell (p := ⟨pm, 0, none⟩) hpm).trans cm
  have k0 := (hw.cell (p := ⟨pk, 0, none⟩) hpk).trans ck
  have d0 := (hw.cell (p := ⟨pd, 0, none⟩) hpd).trans cd
  clear cm ck cd
  have HL0 := Lib.hid hl; clear hl
  have hpm' : pm < b := by omega
  have hpk' : pk < b := by omega
  have hpd' : pd < b := by omega
  have SB0 := Lib.hid hS; clear hS
  have HW := Lib.hid hw; clear hw
  have M0 := Lib.hid m0
  have K0 := Lib.hid k0
  have D0 := Lib.hid d0
  go_enter Try.func54, Try.ntmps54
  go_wp2_with fail
  clear m0 k0 d0
  go_loopw [8] (fun i wr => ∃ a : Nat, a ≤ 2 ∧ i = .int .i64 a ∧ Below b w0 wr ∧ ListAt wr b (gL (gV d (k == -1) m) (a * m))) (fun i _ => 2 - (intOf i).toNat)
  case atStart => exact ⟨0, by omega, rfl, Below.refl _ _, by rw [Nat.zero_mul]; exact HL0.out⟩
  case round =>
    obtain ⟨a, ha, rfl, hbel, hlist⟩ := hrel
    by_cases hlta : a < 2
    · have HBO := Lib.hid hbel; clear hbel
      have HLO := Lib.hid hlist; clear hlist
      obtain ⟨wo, rfl⟩ : ∃ wo : World, wo = wr := ⟨_, rfl⟩
      have hta : decide ((a : Int) < 2) = true := by simp; omega
      go_wp2_with fail
      clear hta
      go_loopw [6] (fun i wr => ∃ r : Nat, r ≤ m ∧ i = .int .i64 ((r : Int) + 1) ∧ Below b w0 wr ∧ ListAt wr b (gL (gV d (k == -1) m) (a * m + r))) (fun i _ => m + 1 - (intOf i).toNat)
      case atStart => exact ⟨0, by omega, rfl, HBO.out, HLO.out⟩
      case round =>
        obtain ⟨r, hr, rfl, hbel, hlist⟩ := hrel
        have mr := (hbel.cell (p := ⟨pm, 0, none⟩) hpm').trans M0.out
        have kr := (hbel.cell (p := ⟨pk, 0, none⟩) hpk').trans K0.out
        have dr := (hbel.cell (p := ⟨pd, 0, none⟩) hpd').trans D0.out
        have sr := (hbel.cell (p := ⟨bs, 0, none⟩) hb).trans SB0.out
        have SR := Lib.hid sr; clear sr
        have HB := Lib.hid hbel; clear hbel
        have HLI := Lib.hid hlist; clear hlist
        have ham : a * m ≤ m := by
          have : a = 0 ∨ a = 1 := by omega
          rcases this with rfl | rfl <;> omega
        have hllx := gL_length (gV d (k == -1) m) 2 (a * m + r) (fun s _ => by unfold gV; split <;> split <;> (try split) <;> simp)
        by_cases hlt : r < m
        · 
          have hl1 := addTo_length (2 * (m : Int)) (gL (gV d (k == -1) m) (a * m + r)) ⟨((a : Int) * (m : Int) + ((r : Int) + 1) - 1), a, ((a : Int) * (m : Int) + ((r : Int) + 1))⟩
          have hl2 := addTo_length (2 * (m : Int)) (gL (gV d (k == -1) m) (a * m + r)) ⟨((a : Int) * (m : Int) + ((r : Int) + 1) - 1), a, ((a : Int) * (m : Int) + ((r : Int) + 1) - 1)⟩
          have ha01 : a = 0 ∨ a = 1 := by omega
          have hF : ((a * m + r : Nat) : Int) = ((a : Int) * (m : Int) + ((r : Int) + 1) - 1) := by rw [Int.natCast_add, Int.natCast_mul]; omega
          have hgs := gL_succ (gV d (k == -1) m) (a * m + r)
          have hq : (a * m + r) / m = a := by rw [Nat.mul_comm, Nat.mul_add_div (by omega), Nat.div_eq_of_lt hlt, Nat.add_zero]
          have hrm : (a * m + r) % m = r := by rw [Nat.mul_comm, Nat.mul_add_mod, Nat.mod_eq_of_lt hlt]
          rw [gV, hq, hrm, hF, show ((a : Int) * (m : Int) + ((r : Int) + 1) - 1) + 1 = ((a : Int) * (m : Int) + ((r : Int) + 1)) by omega] at hgs
          have hb3 : (0 : Int) ≤ ((1 - (a : Int)) * (m : Int)) := by rcases ha01 with rfl | rfl <;> simp
          have hb3' : ((1 - (a : Int)) * (m : Int)) ≤ 64 := by rcases ha01 with rfl | rfl <;> simp <;> omega
          have ht3 : ∀ es, addTo (2 * (m : Int)) es ⟨((a : Int) * (m : Int) + ((r : Int) + 1) - 1), (1 - (a : Int)), ((1 - (a : Int)) * (m : Int))⟩ = es ++ [⟨((a : Int) * (m : Int) + ((r : Int) + 1) - 1), (1 - (a : Int)), ((1 - (a : Int)) * (m : Int))⟩] := fun es => addTo_in (by
            show (0 : Int) ≤ ((1 - (a : Int)) * (m : Int)) ∧ ((1 - (a : Int)) * (m : Int)) < 2 * (m : Int)
            rcases ha01 with rfl | rfl <;> simp <;> omega)
          have hwA : r + 1 < m → d < r + 1 → gL (gV d (k == -1) m) (a * m + r + 1) = addTo (2 * (m : Int)) (addTo (2 * (m : Int)) (gL (gV d (k == -1) m) (a * m + r)) ⟨((a : Int) * (m : Int) + ((r : Int) + 1) - 1), a, ((a : Int) * (m : Int) + ((r : Int) + 1))⟩) ⟨((a : Int) * (m : Int) + ((r : Int) + 1) - 1), (1 - (a : Int)), ((1 - (a : Int)) * (m : Int))⟩ := fun h h' => by
            rw [hgs, if_pos h, if_pos h', ht3, addTo_in (es := (gL (gV d (k == -1) m) (a * m + r))) (by
              show (0 : Int) ≤ ((a : Int) * (m : Int) + ((r : Int) + 1)) ∧ ((a : Int) * (m : Int) + ((r : Int) + 1)) < 2 * (m : Int)
              rcases ha01 with rfl | rfl <;> simp <;> omega), List.append_assoc]
          have hwB : r + 1 < m → ¬ d < r + 1 → gL (gV d (k == -1) m) (a * m + r + 1) = addTo (2 * (m : Int)) (gL (gV d (k == -1) m) (a * m + r)) ⟨((a : Int) * (m : Int) + ((r : Int) + 1) - 1), a, ((a : Int) * (m : Int) + ((r : Int) + 1))⟩ := fun h h' => by
            rw [hgs, if_pos h, if_neg h', addTo_in (es := (gL (gV d (k == -1) m) (a * m + r))) (by
              show (0 : Int) ≤ ((a : Int) * (m : Int) + ((r : Int) + 1)) ∧ ((a : Int) * (m : Int) + ((r : Int) + 1)) < 2 * (m : Int)
              rcases ha01 with rfl | rfl <;> simp <;> omega), List.append_nil]
          have hwC : ¬ r + 1 < m → k = -1 → gL (gV d (k == -1) m) (a * m + r + 1) = addTo (2 * (m : Int)) (addTo (2 * (m : Int)) (gL (gV d (k == -1) m) (a * m + r)) ⟨((a : Int) * (m : Int) + ((r : Int) + 1) - 1), a, ((a : Int) * (m : Int) + ((r : Int) + 1) - 1)⟩) ⟨((a : Int) * (m : Int) + ((r : Int) + 1) - 1), (1 - (a : Int)), ((1 - (a : Int)) * (m : Int))⟩ := fun h h' => by
            rw [hgs, if_neg h, if_pos (c := (k == -1) = true) (by simp [h']), if_pos (c := d < r + 1) (by omega), ht3, addTo_in (es := (gL (gV d (k == -1) m) (a * m + r))) (by
              show (0 : Int) ≤ ((a : Int) * (m : Int) + ((r : Int) + 1) - 1) ∧ ((a : Int) * (m : Int) + ((r : Int) + 1) - 1) < 2 * (m : Int)
              rcases ha01 with rfl | rfl <;> simp <;> omega), List.append_assoc]
          have hwD : ¬ r + 1 < m → ¬ k = -1 → gL (gV d (k == -1) m) (a * m + r + 1) = addTo (2 * (m : Int)) (gL (gV d (k == -1) m) (a * m + r)) ⟨((a : Int) * (m : Int) + ((r : Int) + 1) - 1), (1 - (a : Int)), ((1 - (a : Int)) * (m : Int))⟩ := fun h h' => by
            rw [hgs, if_neg h, if_neg (c := (k == -1) = true) (by simp [h']), if_pos (c := d < r + 1) (by omega), ht3, List.nil_append]
          clear hgs hq hrm hF ht3 ha01
          by_cases h1 : r + 1 < m
          · by_cases h2 : d < r + 1
            · 
              have HG := Lib.hid (hwA h1 h2); clear hwA hwB hwC hwD
              go_wp2_with fail
              go_at_call 75
              refine (badd_any (2 * (m : Int)) _ ⟨((a : Int) * (m : Int) + ((r : Int) + 1) - 1), a, ((a : Int) * (m : Int) + ((r : Int) + 1))⟩ bs b _ HLI.out SR.out (by omega) hb).mono ?_
              rintro e w1 ⟨hq, rfl, hli⟩
              have m1 := (hq.cell (p := ⟨pm, 0, none⟩) hpm').trans mr
              have k1 := (hq.cell (p := ⟨pk, 0, none⟩) hpk').trans kr
              have d1 := (hq.cell (p := ⟨pd, 0, none⟩) hpd').trans dr
              have sr1 := (hq.cell (p := ⟨bs, 0, none⟩) hb).trans SR.out
              have SR1 := Lib.hid sr1; clear sr1
              have HQ1 := Lib.hid hq; clear hq
              have HL1 := Lib.hid hli; clear hli
              go_wp2_with fail
              go_at_call 75
              refine (badd_any (2 * (m : Int)) _ ⟨((a : Int) * (m : Int) + ((r : Int) + 1) - 1), (1 - (a : Int)), ((1 - (a : Int)) * (m : Int))⟩ bs b _ HL1.out SR1.out (by omega) hb).mono ?_
              rintro e w2 ⟨hq, rfl, hli⟩
              have m2 := (hq.cell (p := ⟨pm, 0, none⟩) hpm').trans m1
              have k2 := (hq.cell (p := ⟨pk, 0, none⟩) hpk').trans k1
              have d2 := (hq.cell (p := ⟨pd, 0, none⟩) hpd').trans d1
              have sr2 := (hq.cell (p := ⟨bs, 0, none⟩) hb).trans SR1.out
              have SR2 := Lib.hid sr2; clear sr2
              have HQ2 := Lib.hid hq; clear hq
              have HL2 := Lib.hid hli; clear hli
              go_wp2_with fail
              go_roundw
              case rel => exact ⟨r + 1, by omega, by go_num, (HB.out.trans HQ1.out).trans HQ2.out, by rw [show a * m + (r + 1) = a * m + r + 1 by omega, HG.out]; exact HL2.out⟩
              case measure => simp [intOf]; omega
            · 
              have HG := Lib.hid (hwB h1 h2); clear hwA hwB hwC hwD
              go_wp2_with fail
              go_at_call 75
              refine (badd_any (2 * (m : Int)) _ ⟨((a : Int) * (m : Int) + ((r : Int) + 1) - 1), a, ((a : Int) * (m : Int) + ((r : Int) + 1))⟩ bs b _ HLI.out SR.out (by omega) hb).mono ?_
              rintro e w1 ⟨hq, rfl, hli⟩
              have m1 := (hq.cell (p := ⟨pm, 0, none⟩) hpm').trans mr
              have k1 := (hq.cell (p := ⟨pk, 0, none⟩) hpk').trans kr
              have d1 := (hq.cell (p := ⟨pd, 0, none⟩) hpd').trans dr
              have sr1 := (hq.cell (p := ⟨bs, 0, none⟩) hb).trans SR.out
              have SR1 := Lib.hid sr1; clear sr1
              have HQ1 := Lib.hid hq; clear hq
              have HL1 := Lib.hid hli; clear hli
              go_wp2_with fail
              go_roundw
              case rel => exact ⟨r + 1, by omega, by go_num, HB.out.trans HQ1.out, by rw [show a * m + (r + 1) = a * m + r + 1 by omega, HG.out]; exact HL1.out⟩
              case measure => simp [intOf]; omega
          · by_cases hk : k = -1
            · have t1 : (k == -1) = true := by simpa using hk
              have hwx := hwC h1 hk
              clear hk
              have HG := Lib.hid (hwx); clear hwA hwB hwC hwD hwx
              go_wp2_with fail
              go_at_call 75
              refine (badd_any (2 * (m : Int)) _ ⟨((a : Int) * (m : Int) + ((r : Int) + 1) - 1), a, ((a : Int) * (m : Int) + ((r : Int) + 1) - 1)⟩ bs b _ HLI.out SR.out (by omega) hb).mono ?_
              rintro e w1 ⟨hq, rfl, hli⟩
              have m1 := (hq.cell (p := ⟨pm, 0, none⟩) hpm').trans mr
              have k1 := (hq.cell (p := ⟨pk, 0, none⟩) hpk').trans kr
              have d1 := (hq.cell (p := ⟨pd, 0, none⟩) hpd').trans dr
              have sr1 := (hq.cell (p := ⟨bs, 0, none⟩) hb).trans SR.out
              have SR1 := Lib.hid sr1; clear sr1
              have HQ1 := Lib.hid hq; clear hq
              have HL1 := Lib.hid hli; clear hli
              go_wp2_with fail
              go_at_call 75
              refine (badd_any (2 * (m : Int)) _ ⟨((a : Int) * (m : Int) + ((r : Int) + 1) - 1), (1 - (a : Int)), ((1 - (a : Int)) * (m : Int))⟩ bs b _ HL1.out SR1.out (by omega) hb).mono ?_
              rintro e w2 ⟨hq, rfl, hli⟩
              have m2 := (hq.cell (p := ⟨pm, 0, none⟩) hpm').trans m1
              have k2 := (hq.cell (p := ⟨pk, 0, none⟩) hpk').trans k1
              have d2 := (hq.cell (p := ⟨pd, 0, none⟩) hpd').trans d1
              have sr2 := (hq.cell (p := ⟨bs, 0, none⟩) hb).trans SR1.out
              have SR2 := Lib.hid sr2; clear sr2
              have HQ2 := Lib.hid hq; clear hq
              have HL2 := Lib.hid hli; clear hli
              go_wp2_with fail
              go_roundw
              case rel => exact ⟨r + 1, by omega, by go_num, (HB.out.trans HQ1.out).trans HQ2.out, by rw [show a * m + (r + 1) = a * m + r + 1 by omega, HG.out]; exact HL2.out⟩
              case measure => simp [intOf]; omega
            · have t1 : (k == -1) = false := by simpa using hk
              have hwx := hwD h1 hk
              clear hk
              have HG := Lib.hid (hwx); clear hwA hwB hwC hwD hwx
              go_wp2_with fail
              go_at_call 75
              refine (badd_any (2 * (m : Int)) _ ⟨((a : Int) * (m : Int) + ((r : Int) + 1) - 1), (1 - (a : Int)), ((1 - (a : Int)) * (m : Int))⟩ bs b _ HLI.out SR.out (by omega) hb).mono ?_
              rintro e w1 ⟨hq, rfl, hli⟩
              have m1 := (hq.cell (p := ⟨pm, 0, none⟩) hpm').trans mr
              have k1 := (hq.cell (p := ⟨pk, 0, none⟩) hpk').trans kr
              have d1 := (hq.cell (p := ⟨pd, 0, none⟩) hpd').trans dr
              have sr1 := (hq.cell (p := ⟨bs, 0, none⟩) hb).trans SR.out
              have SR1 := Lib.hid sr1; clear sr1
              have HQ1 := Lib.hid hq; clear hq
              have HL1 := Lib.hid hli; clear hli
              go_wp2_with fail
              go_roundw
              case rel => exact ⟨r + 1, by omega, by go_num, HB.out.trans HQ1.out, by rw [show a * m + (r + 1) = a * m + r + 1 by omega, HG.out]; exact HL1.out⟩
              case measure => simp [intOf]; omega
        · obtain rfl : r = m := by omega
          go_wp2_with fail
          go_roundw
          case rel => exact ⟨a + 1, by omega, by go_num, HB.out, by rw [Nat.succ_mul]; exact HLI.out⟩
          case measure => simp [intOf]; omega
    · obtain rfl : a = 2 := by omega
      have mr := (hbel.cell (p := ⟨pm, 0, none⟩) hpm').trans M0.out
      have kr := (hbel.cell (p := ⟨pk, 0, none⟩) hpk').trans K0.out
      have dr := (hbel.cell (p := ⟨pd, 0, none⟩) hpd').trans D0.out
      have sr := (hbel.cell (p := ⟨bs, 0, none⟩) hb).trans SB0.out
      have SR := Lib.hid sr; clear sr
      have HB := Lib.hid hbel; clear hbel
      have HLI := Lib.hid hlist; clear hlist
      go_wp2_with fail
      go_end0
      exact ⟨HB.out, rfl, HLI.out⟩
end Go.Proofs.Ytadibbbaegbljaa
