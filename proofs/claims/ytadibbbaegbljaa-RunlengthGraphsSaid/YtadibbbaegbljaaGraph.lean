/- The contract of runlength.Graph. -/
import Derived.Test.YtadibbbaegbljaaBuild
namespace Go.Proofs.Ytadibbbaegbljaa
open Go.RowKit

def gStep (d S : Int) (es : List E3) (s : Nat) : List E3 := if d ≤ s then addTo S (addTo S es ⟨s, 0, (s : Int) + 1⟩) ⟨s, 1, 0⟩ else addTo S es ⟨s, 0, (s : Int) + 1⟩
def gList (d S : Int) : Nat → List E3
  | 0 => []
  | n + 1 => gStep d S (gList d S n) n
/-- The edges of runlength.Graph as they are added: E is the last number told. -/
def graphEs (d k : Int) (E : Nat) : List E3 := if k = -1 then addTo ((E : Int) + 1) (gList d ((E : Int) + 1) (E + 1)) ⟨E, 0, E⟩ else gList d ((E : Int) + 1) (E + 1)
theorem addTo_length (S : Int) (es : List E3) (e : E3) : (addTo S es e).length ≤ es.length + 1 := by unfold addTo; split <;> simp
theorem gList_length (d S : Int) (n : Nat) : (gList d S n).length ≤ 2 * n := by
  induction n with
  | zero => simp [gList]
  | succ n ih =>
    have h1 := addTo_length S (gList d S n) ⟨n, 0, (n : Int) + 1⟩
    have h2 := addTo_length S (addTo S (gList d S n) ⟨n, 0, (n : Int) + 1⟩) ⟨n, 1, 0⟩
    unfold gList gStep
    split <;> omega

set_option maxRecDepth 100000 in
set_option maxHeartbeats 1600000 in
theorem graphF_any (d k : Int) (E : Nat) (w : World) (pe pd pk : Nat) (hE : E ≤ 64) (hd : 0 ≤ d) (hpe : pe < w.heap.size) (hpd : pd < w.heap.size) (hpk : pk < w.heap.size)
    (ce : w.cell? ⟨pe, 0, none⟩ = some (.int .i64 E)) (cd : w.cell? ⟨pd, 0, none⟩ = some (.int .i64 d)) (ck : w.cell? ⟨pk, 0, none⟩ = some (.int .i64 k)) :
    Adds 52 #[.pointer (some ⟨pe, 0, none⟩), .pointer (some ⟨pd, 0, none⟩), .pointer (some ⟨pk, 0, none⟩)] w ((E : Int) + 1) (graphEs d k E) := by
  intro bs b w0 hw hbs hb hS hl
  have e0 := (hw.cell (p := ⟨pe, 0, none⟩) hpe).trans ce
  have d0 := (hw.cell (p := ⟨pd, 0, none⟩) hpd).trans cd
  have k0 := (hw.cell (p := ⟨pk, 0, none⟩) hpk).trans ck
  clear ce cd ck
  have HL0 := Lib.hid hl; clear hl
  have hpe' : pe < b := by omega
  have hpd' : pd < b := by omega
  have hpk' : pk < b := by omega
  have HW := Lib.hid hw; clear hw
  have D0 := Lib.hid d0; clear d0
  have K0 := Lib.hid k0; clear k0
  have S0 := Lib.hid hS; clear hS
  have E0 := Lib.hid e0
  go_enter Try.func52, Try.ntmps52
  go_wp2_with fail
  clear e0
  go_loopw [8] (fun i wr => ∃ m : Nat, m ≤ E + 1 ∧ i = .int .i64 m ∧ Below b w0 wr ∧ ListAt wr b (gList d ((E : Int) + 1) m)) (fun i _ => E + 1 - (intOf i).toNat)
  case atStart => exact ⟨0, by omega, rfl, Below.refl _ _, HL0.out⟩
  case round =>
    obtain ⟨m, hm, rfl, hbel, hlist⟩ := hrel
    have hll := gList_length d ((E : Int) + 1) m
    have dr := (hbel.cell (p := ⟨pd, 0, none⟩) hpd').trans D0.out
    have kr := (hbel.cell (p := ⟨pk, 0, none⟩) hpk').trans K0.out
    have er := (hbel.cell (p := ⟨pe, 0, none⟩) hpe').trans E0.out
    have sr := (hbel.cell (p := ⟨bs, 0, none⟩) hb).trans S0.out
    have SR := Lib.hid sr; clear sr
    have DR := Lib.hid dr; clear dr
    have HB := Lib.hid hbel; clear hbel
    have HLI := Lib.hid hlist; clear hlist
    by_cases hlt : m < E + 1
    · clear kr er
      have hl1 := addTo_length ((E : Int) + 1) (gList d ((E : Int) + 1) m) ⟨m, 0, (m : Int) + 1⟩
      by_cases hdm : d ≤ m
      · have t1 : decide (d ≤ (m : Int)) = true := by simpa using hdm
        have hg : gList d ((E : Int) + 1) (m + 1) = addTo ((E : Int) + 1) (addTo ((E : Int) + 1) (gList d ((E : Int) + 1) m) ⟨m, 0, (m : Int) + 1⟩) ⟨m, 1, 0⟩ := by rw [gList, gStep, if_pos hdm]
        have HG := Lib.hid hg; clear hg
        go_wp2_with (first | (go_at_call 75; refine (badd_any ((E : Int) + 1) _ ⟨m, 1, 0⟩ bs b _ HL1.out SR1.out (by omega) hb).mono ?_; rintro e w2 ⟨hq, rfl, hli⟩; have HQ2 := Lib.hid hq; clear hq; have HL2 := Lib.hid hli; clear hli) | (go_at_call 75; refine (badd_any ((E : Int) + 1) _ ⟨m, 0, (m : Int) + 1⟩ bs b _ HLI.out SR.out (by omega) hb).mono ?_; rintro e w1 ⟨hq, rfl, hli⟩; have d1 := (hq.cell (p := ⟨pd, 0, none⟩) hpd').trans DR.out; have sr1 := (hq.cell (p := ⟨bs, 0, none⟩) hb).trans SR.out; have SR1 := Lib.hid sr1; clear sr1; have HQ1 := Lib.hid hq; clear hq; have HL1 := Lib.hid hli; clear hli))
        go_roundw
        case rel => exact ⟨m + 1, by omega, by go_num, (HB.out.trans HQ1.out).trans HQ2.out, by rw [HG.out]; exact HL2.out⟩
        case measure => simp [intOf]; omega
      · have t1 : decide (d ≤ (m : Int)) = false := by simpa using hdm
        have hg : gList d ((E : Int) + 1) (m + 1) = addTo ((E : Int) + 1) (gList d ((E : Int) + 1) m) ⟨m, 0, (m : Int) + 1⟩ := by rw [gList, gStep, if_neg hdm]
        have HG := Lib.hid hg; clear hg
        go_wp2_with (first | (go_at_call 75; refine (badd_any ((E : Int) + 1) _ ⟨m, 0, (m : Int) + 1⟩ bs b _ HLI.out SR.out (by omega) hb).mono ?_; rintro e w1 ⟨hq, rfl, hli⟩; have d1 := (hq.cell (p := ⟨pd, 0, none⟩) hpd').trans DR.out; have sr1 := (hq.cell (p := ⟨bs, 0, none⟩) hb).trans SR.out; have SR1 := Lib.hid sr1; clear sr1; have HQ1 := Lib.hid hq; clear hq; have HL1 := Lib.hid hli; clear hli))
        go_roundw
        case rel => exact ⟨m + 1, by omega, by go_num, HB.out.trans HQ1.out, by rw [HG.out]; exact HL1.out⟩
        case measure => simp [intOf]; omega
    · have hmE : m = E + 1 := by omega
      subst hmE
      by_cases hk : k = -1
      · have t1 : (k == -1) = true := by simpa using hk
        have hg : graphEs d k E = addTo ((E : Int) + 1) (gList d ((E : Int) + 1) (E + 1)) ⟨E, 0, E⟩ := if_pos hk
        have HG := Lib.hid hg; clear hg hk
        go_wp2_with (first | (go_at_call 75; refine (badd_any ((E : Int) + 1) _ ⟨E, 0, E⟩ bs b _ HLI.out SR.out (by omega) hb).mono ?_; rintro e w1 ⟨hq, rfl, hli⟩; have HQ1 := Lib.hid hq; clear hq; have HL1 := Lib.hid hli; clear hli))
        go_end0
        exact ⟨HB.out.trans HQ1.out, rfl, by rw [HG.out]; exact HL1.out⟩
      · have t1 : (k == -1) = false := by simpa using hk
        have hg : graphEs d k E = gList d ((E : Int) + 1) (E + 1) := if_neg hk
        have HG := Lib.hid hg; clear hg hk
        go_wp2_with fail
        go_end0
        exact ⟨HB.out, rfl, by rw [HG.out]; exact HLI.out⟩
end Go.Proofs.Ytadibbbaegbljaa
