/- The contract of runlength.Count: the number of valid words, by sums. -/
import Derived.Test.YtadibbbaegbljaaCountA
import Derived.Deep.AppendLies
import Derived.Deep.RegionLaw
import Derived.Deep.DeepCutAuto
namespace Go.Proofs.Ytadibbbaegbljaa
open Go.RowKit

def nextX (d k : Int) (L : List Int) (i : Nat) : Int := if i = 0 then 0 else btw L (bnd k ((i : Int) - 1)) ((i : Int) - d) + (if k = -1 ∨ (i : Int) - 1 ≤ k then 1 else 0)
def sumsN (d k : Int) : Nat → List Int
  | 0 => [0]
  | i + 1 => sumsN d k i ++ [(sumsN d k i).getD i 0 + nextX d k (sumsN d k i) i]
def countC (d k : Int) (n : Nat) : Int := btw (sumsN d k (n + 1)) (bnd k n) ((n : Int) + 1) + (if k = -1 ∨ (n : Int) ≤ k then 1 else 0)
theorem infoInt : (Try.prog.info? 34).map (fun i => (i.zero, i.size, i.bytes)) = some (some (.agg #[.bool false, .string ⟨#[]⟩]), 2, 24) := by kernel_rfl
theorem sumsN_length (d k : Int) (i : Nat) : (sumsN d k i).length = i + 1 := by
  induction i with
  | zero => rfl
  | succ i ih => simp [sumsN, ih]

theorem getD_lt {L : List Int} {b : Nat} (hb : 0 < b) (h : ∀ z ∈ L, z.natAbs < b) (i : Nat) : (L.getD i 0).natAbs < b := by
  rw [List.getD_eq_getElem?_getD]
  cases hc : L[i]? with
  | none => simpa using hb
  | some z => exact h z (List.mem_of_getElem? hc)
theorem btw_lt {L : List Int} {b : Nat} (hb : 0 < b) (h : ∀ z ∈ L, z.natAbs < b) (f t : Int) : (btw L f t).natAbs < 2 * b := by
  have h1 := getD_lt hb h t.toNat
  have h2 := getD_lt hb h (max f 0).toNat
  unfold btw
  split <;> omega
theorem nextX_lt {L : List Int} {b : Nat} (hb : 0 < b) (h : ∀ z ∈ L, z.natAbs < b) (d k : Int) (i : Nat) : (nextX d k L i).natAbs ≤ 2 * b := by
  have h1 := btw_lt hb h (bnd k ((i : Int) - 1)) ((i : Int) - d)
  unfold nextX
  split
  · simp
  · split <;> omega
theorem sums_lt (d k : Int) (i : Nat) : ∀ z ∈ sumsN d k i, z.natAbs < 256 ^ i := by
  induction i with
  | zero => simp [sumsN]
  | succ i ih =>
    intro z hz
    have hp : 0 < 256 ^ i := Nat.pow_pos (by decide)
    simp only [sumsN, List.mem_append, List.mem_singleton] at hz
    rw [Nat.pow_succ]
    rcases hz with hz | hz
    · have := ih z hz; omega
    · have h1 := getD_lt hp ih i
      have h2 := nextX_lt hp ih d k i
      omega

set_option maxRecDepth 100000 in
set_option maxHeartbeats 3200000 in
theorem count_yes (d k : Int) (n : Nat) (w : World) (hp : pairB d k = true) (hn : n ≤ 4096) (hd : d ≤ 9223372036854775807) (hk : k ≤ 9223372036854775807) :
    Calls Try.prog 17 #[.int .i64 d, .int .i64 k, .int .i64 (n : Int)] w (Ret w (.tuple #[IntV (countC d k n), .int .i64 0])) := by
  have hd0 : 0 ≤ d := by simp [pairB] at hp; omega
  have hk1 : -1 ≤ k := by simp [pairB] at hp; omega
  have hnn : decide ((n : Int) < 0) = false := by simp
  have hn4 : decide ((4096 : Int) < n) = false := by simp; omega
  go_enter Try.func17, Try.ntmps17
  go_wp2_with (first | (go_at_call 41; refine (pair_any _ _ _).mono ?_; rintro e w' ⟨rfl, rfl⟩; rw [hp]) | (go_at_call 21; refine (iof_any _ _ (by omega) (by omega)).mono ?_; rintro e w1 ⟨hq1, rfl⟩; have HQ1 := Lib.hid hq1; clear hq1))
  obtain ⟨B, hB⟩ : ∃ B, B = w1.heap.size := ⟨_, rfl⟩
  have hWB : w.heap.size + 2 ≤ B := by have := HQ1.out.size; simp at this; omega
  have hk0 := (HQ1.out.cell (p := ⟨w.heap.size, 0, none⟩) (by simp only [World.size_alloc]; omega)).trans (((Blk.new w 3 [.int .i64 k]).alloc (.cells #[.bool false, .string ⟨#[]⟩] 34)).cell (j := 0) rfl)
  have HK0 := Lib.hid hk0; clear hk0
  have hone := ((Blk.new w1 34 [.bool (ineg 1), .string (imag 1)]).alloc (.cells #[.bool false, .string ⟨#[]⟩] 34)).alloc (.cells #[.slice (some ⟨w1.heap.size + 1, 0, none⟩) 1 1] 64)
  have HONE := Lib.hid hone; clear hone
  subst hB
  go_loopw [35] (fun i wr => ∃ (m g cap : Nat), m ≤ n + 1 ∧ i = .int .i64 m ∧ Below (w1.heap.size + 1) (((w1.alloc (.cells #[.bool (ineg 1), .string (imag 1)] 34)).alloc (.cells #[.bool false, .string ⟨#[]⟩] 34)).alloc (.cells #[.slice (some ⟨w1.heap.size + 1, 0, none⟩) 1 1] 64)) wr ∧ Blk wr (w1.heap.size + 2) 64 [.slice (some ⟨g, 0, none⟩) (m + 1) cap] ∧ wr.ownsRow (w1.heap.size + 1) 34 2 (.slice (some ⟨g, 0, none⟩) (m + 1) cap) (m + 1) (civ (sumsN d k m))) (fun i _ => n + 1 - (intOf i).toNat)
  case atStart =>
    have hb0 := Blk.new ((w1.alloc (.cells #[.bool (ineg 1), .string (imag 1)] 34)).alloc (.cells #[.bool false, .string ⟨#[]⟩] 34)) 64 [.slice (some ⟨w1.heap.size + 1, 0, none⟩) 1 1]
    simp only [World.size_alloc] at hb0
    refine ⟨0, w1.heap.size + 1, 1, by omega, rfl, Below.refl _ _, hb0, ?_⟩
    have h := (World.ownsRow_lit (base := w1.heap.size + 1) (e := 34) (size := 2) (w1.alloc (.cells #[.bool (ineg 1), .string (imag 1)] 34)) #[.bool false, .string ⟨#[]⟩] 1 (by simp) (by decide) rfl).alloc (.cells #[.slice (some ⟨w1.heap.size + 1, 0, none⟩) 1 1] 64)
    simpa [sumsN, civ, ineg, imag, bb_zero] using h
  case round =>
    obtain ⟨m, g, cap, hm, rfl, hbel, hbox, hown⟩ := hrel
    have hsz : w1.heap.size + 3 ≤ wr.heap.size := by have := hbel.size; simp at this; omega
    have hgne : g ≠ w1.heap.size + 2 := by
      intro e
      rcases hown.2 with ⟨h, _⟩ | ⟨g0, c0, cur, hv, _, hg0, _⟩
      · cases h
      · simp only [Value.slice.injEq, Option.some.injEq, Addr.mk.injEq] at hv
        rw [← hv.1.1, e] at hg0
        have hb := hbox
        unfold Blk at hb
        rw [hb] at hg0
        simp at hg0
    have hgl : g < wr.heap.size := (hown.lt g rfl).2
    have hgb : w1.heap.size + 1 ≤ g := (hown.lt g rfl).1
    have h3 := hbox.cell (j := 0) rfl
    have HB := Lib.hid hbel; clear hbel
    have HX := Lib.hid hbox; clear hbox
    have HO := Lib.hid hown; clear hown
    have hz1 : w.heap.size < wr.heap.size := by omega
    have hz2 : w1.heap.size < wr.heap.size := by omega
    have hz3 : w1.heap.size + 2 < wr.heap.size := by omega
    by_cases hlt : m < n + 1
    · go_upto_if 40 with fail
      go_cut [13] (fun s13 wx => s13 = .pointer (some ⟨wr.heap.size, 0, none⟩) ∧ Below wr.heap.size wr wx ∧ Blk wx wr.heap.size 34 [.bool (ineg (nextX d k (sumsN d k m) m)), .string (imag (nextX d k (sumsN d k m) m))])
      case first =>
        have sA := ((Below.refl w1.heap.size w1).alloc (Nat.le_refl _) (.cells #[.bool (ineg 1), .string (imag 1)] 34)).alloc (by simp) (.cells #[.bool false, .string ⟨#[]⟩] 34)
        have sB := sA.alloc (by simp only [World.size_alloc]; omega) (.cells #[.slice (some ⟨w1.heap.size + 1, 0, none⟩) 1 1] 64)
        have cK := ((sB.trans (HB.out.mono (by omega))).cell (p := ⟨w.heap.size, 0, none⟩) (by simp only []; omega)).trans HK0.out
        clear sA sB
        have cO := HONE.out.below HB.out (by omega)
        have hnb := Blk.new wr 34 [.bool false, .string ⟨#[]⟩]
        have hsb := (Below.refl wr.heap.size wr).alloc (Nat.le_refl _) (.cells #[.bool false, .string ⟨#[]⟩] 34)
        have HNB := Lib.hid hnb; clear hnb
        have HSB := Lib.hid hsb; clear hsb
        have HCO := Lib.hid cO; clear cO
        by_cases hm0 : m = 0
        · have hm1 : decide ((0 : Int) < (m : Int)) = false := by simp [hm0]
          have hm1' : decide (0 < m) = false := by simp [hm0]
          have hv : nextX d k (sumsN d k m) m = 0 := by rw [nextX, if_pos hm0]
          have hm0' : m ≤ 0 := by omega
          have HV := Lib.hid hv; clear hv hm0
          go_wp2_with fail
          go_meet
          rw [HV.out, show ineg 0 = false from rfl, show imag 0 = ⟨#[]⟩ by simp [imag, bb_zero]]
          exact ⟨rfl, HSB.out, HNB.out⟩
        · have hm1 : decide ((0 : Int) < (m : Int)) = true := by simp; omega
          have hm1' : decide (0 < m) = true := by simp; omega
          have hm0' : 1 ≤ m := by omega
          have hm2 : (0 : Int) ≤ (m : Int) - 1 := by omega
          have hb0 := bound_any k ((m : Int) - 1) w.heap.size
          obtain ⟨F, hF⟩ : ∃ F, F = bnd k ((m : Int) - 1) := ⟨_, rfl⟩
          rw [← hF] at hb0
          obtain ⟨y, hy⟩ : ∃ y, y = btw (sumsN d k m) F ((m : Int) - d) := ⟨_, rfl⟩
          have hl := sumsN_length d k m
          have hb1 := between_any (sumsN d k m) F ((m : Int) - d) (w1.heap.size + 2) (.slice (some ⟨g, 0, none⟩) (m + 1) cap)
          rw [← hy] at hb1
          have hsm : ∀ z ∈ sumsN d k m, small z := fun z hz => small_of (m := m) (sums_lt d k m z hz) (by omega)
          have hp256 : 0 < 256 ^ m := Nat.pow_pos (by decide)
          have sy : small y := small_of (m := m + 1) (by have := btw_lt hp256 (sums_lt d k m) F ((m : Int) - d); rw [← hy] at this; rw [Nat.pow_succ]; omega) (by omega)
          clear hp256
          have hrow := (own_row HO.out).below HSB.out (Nat.le_refl _)
          have c3 := (HSB.out.cell (p := ⟨w1.heap.size + 2, 0, none⟩) hz3).trans h3
          have cK1 := (HSB.out.cell (p := ⟨w.heap.size, 0, none⟩) hz1).trans cK
          have htl : (m : Int) - d < ((sumsN d k m).length : Int) := by rw [hl]; omega
          have hnext : nextX d k (sumsN d k m) m = y + (if k = -1 ∨ (m : Int) - 1 ≤ k then 1 else 0) := by rw [nextX, if_neg hm0, hy, hF]
          have HNX := Lib.hid hnext; clear hnext
          have HRW := Lib.hid hrow; clear hrow
          have HB0 := Lib.hid hb0; clear hb0
          have HB1 := Lib.hid hb1; clear hb1
          have HSM := Lib.hid hsm; clear hsm
          have SY := Lib.hid sy; clear sy
          have HY := Lib.hid hy; clear hy
          have HF := Lib.hid hF; clear hF
          have HL := Lib.hid hl; clear hl
          have HTL := Lib.hid htl; clear htl
          have C3 := Lib.hid c3; clear c3
          have CK1 := Lib.hid cK1; clear cK1
          have S1 := Lib.hid (small_of (z := 1) (m := 1) (by decide) (by decide))
          by_cases hkk : k = -1 ∨ (m : Int) - 1 ≤ k
          · have HKK := Lib.hid hkk
            by_cases hka : k = -1
            · have hk1a : (k == -1) = true := by simp; omega
              clear hkk hka
              go_wp2_with (first | (go_at_call 44; refine (HB0.out _ CK1.out (by omega)).mono ?_; rintro e w' ⟨rfl, rfl⟩) | (go_at_call 42; refine (HB1.out _ C3.out (by simp; omega) (by rw [HL.out]; exact HRW.out) HTL.out HSM.out).mono ?_; rintro e w2 ⟨hq, rfl⟩; have hnb := HNB.out.below hq (by simp); have cK2 := (hq.cell (p := ⟨w.heap.size, 0, none⟩) (by simp; omega)).trans CK1.out; have n0 := hnb.cell (j := 0) rfl; have f0 := hnb.frozen 0; have n1 := hnb.cell (j := 1) rfl; have f1 := hnb.frozen 1; have hone2 := (HCO.out.alloc (.cells #[.bool false, .string ⟨#[]⟩] 34)).below hq (by simp; omega); have o0 := hone2.cell (j := 0) rfl; have o1 := hone2.cell (j := 1) rfl; have hs2 : wr.heap.size + 1 ≤ w2.heap.size := (by have := hq.size; simpa using this); have HQ := Lib.hid hq; clear hq; have HN2 := Lib.hid hnb; clear hnb; clear hone2) | (go_at_call 45; refine (iadd_any _ _ _ _ _ SY.out S1.out).mono ?_; rintro e w3 ⟨hq3, rfl⟩; have hnc := (((HN2.out.set 0 (.bool (ineg y))).set 1 (.string (imag y)))).below hq3 (by simp; omega); have p0 := hnc.cell (j := 0) rfl; have g0 := hnc.frozen 0; have p1 := hnc.cell (j := 1) rfl; have g1 := hnc.frozen 1; have HQ3 := Lib.hid hq3; clear hq3; have HN3 := Lib.hid hnc; clear hnc))
              go_meet
              rw [HNX.out, if_pos HKK.out, ival_canon, ival_canon]
              refine ⟨rfl, ?_, ?_⟩
              · have s2 := ((HSB.out.trans (HQ.out.mono (by simp))).setCell (p := ⟨wr.heap.size, 0, none⟩) (Nat.le_refl _) (.bool (ineg y))).setCell (p := ⟨wr.heap.size, 1, none⟩) (Nat.le_refl _) (.string (imag y))
                exact ((s2.trans (HQ3.out.mono s2.size)).setCell (p := ⟨wr.heap.size, 0, none⟩) (Nat.le_refl _) _).setCell (p := ⟨wr.heap.size, 1, none⟩) (Nat.le_refl _) _
              · exact (HN3.out.set 0 _).set 1 _
            · have hk1a : (k == -1) = false := by simp; omega
              have hk1b : decide ((m : Int) - 1 ≤ k) = true := by simp; omega
              clear hkk hka
              go_wp2_with (first | (go_at_call 44; refine (HB0.out _ CK1.out (by omega)).mono ?_; rintro e w' ⟨rfl, rfl⟩) | (go_at_call 42; refine (HB1.out _ C3.out (by simp; omega) (by rw [HL.out]; exact HRW.out) HTL.out HSM.out).mono ?_; rintro e w2 ⟨hq, rfl⟩; have hnb := HNB.out.below hq (by simp); have cK2 := (hq.cell (p := ⟨w.heap.size, 0, none⟩) (by simp; omega)).trans CK1.out; have n0 := hnb.cell (j := 0) rfl; have f0 := hnb.frozen 0; have n1 := hnb.cell (j := 1) rfl; have f1 := hnb.frozen 1; have hone2 := (HCO.out.alloc (.cells #[.bool false, .string ⟨#[]⟩] 34)).below hq (by simp; omega); have o0 := hone2.cell (j := 0) rfl; have o1 := hone2.cell (j := 1) rfl; have hs2 : wr.heap.size + 1 ≤ w2.heap.size := (by have := hq.size; simpa using this); have HQ := Lib.hid hq; clear hq; have HN2 := Lib.hid hnb; clear hnb; clear hone2) | (go_at_call 45; refine (iadd_any _ _ _ _ _ SY.out S1.out).mono ?_; rintro e w3 ⟨hq3, rfl⟩; have hnc := (((HN2.out.set 0 (.bool (ineg y))).set 1 (.string (imag y)))).below hq3 (by simp; omega); have p0 := hnc.cell (j := 0) rfl; have g0 := hnc.frozen 0; have p1 := hnc.cell (j := 1) rfl; have g1 := hnc.frozen 1; have HQ3 := Lib.hid hq3; clear hq3; have HN3 := Lib.hid hnc; clear hnc))
              go_meet
              rw [HNX.out, if_pos HKK.out, ival_canon, ival_canon]
              refine ⟨rfl, ?_, ?_⟩
              · have s2 := ((HSB.out.trans (HQ.out.mono (by simp))).setCell (p := ⟨wr.heap.size, 0, none⟩) (Nat.le_refl _) (.bool (ineg y))).setCell (p := ⟨wr.heap.size, 1, none⟩) (Nat.le_refl _) (.string (imag y))
                exact ((s2.trans (HQ3.out.mono s2.size)).setCell (p := ⟨wr.heap.size, 0, none⟩) (Nat.le_refl _) _).setCell (p := ⟨wr.heap.size, 1, none⟩) (Nat.le_refl _) _
              · exact (HN3.out.set 0 _).set 1 _
          · have HKK := Lib.hid hkk
            have hk1a : (k == -1) = false := by simp; omega
            have hk1b : decide ((m : Int) - 1 ≤ k) = false := by simp; omega
            clear hkk
            go_wp2_with (first | (go_at_call 44; refine (HB0.out _ CK1.out (by omega)).mono ?_; rintro e w' ⟨rfl, rfl⟩) | (go_at_call 42; refine (HB1.out _ C3.out (by simp; omega) (by rw [HL.out]; exact HRW.out) HTL.out HSM.out).mono ?_; rintro e w2 ⟨hq, rfl⟩; have hnb := HNB.out.below hq (by simp); have cK2 := (hq.cell (p := ⟨w.heap.size, 0, none⟩) (by simp; omega)).trans CK1.out; have n0 := hnb.cell (j := 0) rfl; have f0 := hnb.frozen 0; have n1 := hnb.cell (j := 1) rfl; have f1 := hnb.frozen 1; have hone2 := (HCO.out.alloc (.cells #[.bool false, .string ⟨#[]⟩] 34)).below hq (by simp; omega); have o0 := hone2.cell (j := 0) rfl; have o1 := hone2.cell (j := 1) rfl; have hs2 : wr.heap.size + 1 ≤ w2.heap.size := (by have := hq.size; simpa using this); have HQ := Lib.hid hq; clear hq; have HN2 := Lib.hid hnb; clear hnb; clear hone2))
            go_meet
            rw [HNX.out, if_neg HKK.out, Int.add_zero]
            refine ⟨rfl, ?_, ?_⟩
            · exact ((HSB.out.trans (HQ.out.mono (by simp))).setCell (p := ⟨wr.heap.size, 0, none⟩) (Nat.le_refl _) _).setCell (p := ⟨wr.heap.size, 1, none⟩) (Nat.le_refl _) _
            · exact (HN2.out.set 0 _).set 1 _
      case rest =>
        obtain ⟨rfl, hbx, hxb⟩ := hcut
        have hl := sumsN_length d k m
        have gm : (sumsN d k m)[m]? = some ((sumsN d k m).getD m 0) := by simp [List.getD, hl]
        obtain ⟨y, hy⟩ : ∃ y, y = (sumsN d k m).getD m 0 := ⟨_, rfl⟩
        rw [← hy] at gm
        obtain ⟨x, hx⟩ : ∃ x, x = nextX d k (sumsN d k m) m := ⟨_, rfl⟩
        rw [← hx] at hxb
        have hp256 : 0 < 256 ^ m := Nat.pow_pos (by decide)
        have sx : small x := small_of (m := m + 1) (by have := nextX_lt hp256 (sums_lt d k m) d k m; rw [← hx] at this; rw [Nat.pow_succ]; omega) (by omega)
        have sy : small y := small_of (m := m) (by rw [hy]; exact getD_lt hp256 (sums_lt d k m) m) (by omega)
        clear hp256
        have hownx := own_below HO.out hbx
        have hrow := own_row hownx
        obtain ⟨b_, off, hbe, hgl2, hce⟩ := hrow.at_ (by omega)
        simp only [Option.some.injEq, Addr.mk.injEq, and_true] at hbe
        obtain ⟨rfl, rfl⟩ := hbe
        obtain ⟨q0, q1⟩ := int_cells hce (Below.refl (g + 1) wc) (by omega) gm
        simp only [Nat.zero_add] at q0 q1
        clear hce hrow gm
        have x0 := hxb.cell (j := 0) rfl
        have x1 := hxb.cell (j := 1) rfl
        have hbxb := HX.out.below hbx hz3
        have s0 := hbxb.cell (j := 0) rfl
        have f0 := hbxb.frozen 0
        have hszx : wr.heap.size < wc.heap.size := hxb.lt
        have HBXB := Lib.hid hbxb; clear hbxb
        have HXB := Lib.hid hxb; clear hxb
        have HOX := Lib.hid hownx; clear hownx
        have HBX := Lib.hid hbx; clear hbx
        have SX := Lib.hid sx; clear sx
        have SY := Lib.hid sy; clear sy
        have HXD := Lib.hid hx; clear hx
        have HYD := Lib.hid hy; clear hy
        have HL := Lib.hid hl; clear hl
        obtain ⟨i0, hi, hz0, hz1', hz2'⟩ := info_parts infoInt
        have hsb : w1.heap.size + 2 < wc.heap.size := by omega
        go_wp2_with fail
        have hm63 : (m : Int) < (m : Int) + 1 := by omega
        go_region_law (first | (go_simp; go_at_call 45; refine (iadd_any _ _ _ _ _ SY.out SX.out).mono ?_; rintro e w2 ⟨hq, rfl⟩; have ho3 := own_below HOX.out.drew hq; have HO3 := Lib.hid ho3; clear ho3; have hb3 := HBXB.out.drew.below hq hsb; have s03 := hb3.cell (j := 0) rfl; have f03 := hb3.frozen 0; have HB3 := Lib.hid hb3; clear hb3; have hs2 : w1.heap.size + 3 ≤ w2.heap.size := (by have := hq.size; simp at this; omega); have hs2b : w1.heap.size + 2 < w2.heap.size := (by omega); have HQ := Lib.hid hq; clear hq) | (refine step_append_lies _ rfl (.tmp 61) (.tmp 68) 64 rfl (w1.heap.size + 1) 34 i0 _ 2 24 Try.underlying64 hi hz0 hz1' hz2' rfl (by decide) _ _ _ rfl (HO3.out.alloc _) _ 1 1 [.bool (ineg (ival (ineg y) (imag y) + ival (ineg x) (imag x))), .string (imag (ival (ineg y) (imag y) + ival (ineg x) (imag x)))] rfl rfl (World.news_of_block (heap_alloc_new _ _)) (by simp [Value.oneCell']) (by omega) (by unfold maxLen; omega) (by omega) (by simp; omega) _ rfl ?_; intro g' cap' w3 hown' hg hat hlt'; have b4 := (HB3.out.alloc _).of_block (hg.block (w1.heap.size + 2) (by simp; omega) (fun e => hgne (Option.some.inj (show some g = some (w1.heap.size + 2) from e.symm)))); have s04 := b4.cell (j := 0) rfl; have f04 := b4.frozen 0; have HB4 := Lib.hid b4; clear b4; have HG := Lib.hid hg; clear hg; have HO4 := Lib.hid hown'; clear hown'; have HAT := Lib.hid hat; clear hat))
        all_goals clear hm63
        all_goals (
          go_wp2_with fail
          go_roundw
          case rel =>
            have t1 := (HB.out.trans (HBX.out.mono (by omega))).drew
            have t2 := t1.trans (HQ.out.mono (by simp; omega))
            have t3 := t2.alloc (by omega) (.cells #[.bool (ineg (ival (ineg y) (imag y) + ival (ineg x) (imag x))), .string (imag (ival (ineg y) (imag y) + ival (ineg x) (imag x)))] 34)
            have t4 := t3.grown HG.out (by simp; omega) (fun j hj => by cases hj; exact hgb)
            refine ⟨m + 1, g', cap', by omega, by go_num, t4.setCell (p := ⟨w1.heap.size + 2, 0, none⟩) (by simp) _, HB4.out.set 0 _, ?_⟩
            refine own_setCell ?_ _ _ ?_
            · have h := HO4.out
              rw [sumsN, civ_append, ← HYD.out, ← HXD.out]
              rw [ival_canon, ival_canon] at h
              exact h
            · rcases HAT.out with h | h
              · intro e
                exact hgne (Option.some.inj (h.trans ((show some g' = some (w1.heap.size + 2) from e) ▸ rfl)))
              · intro e
                have e2 : g' = w1.heap.size + 2 := Option.some.inj e
                simp at h
                omega
          case measure => simp [intOf]; omega)
    · have hmn : m = n + 1 := by omega
      subst hmn
      have hsb0 : Below w.heap.size w wr := by
        have a0 := (((Below.refl w.heap.size w).alloc (Nat.le_refl _) (.cells #[.int .i64 k] 3)).alloc (by simp) (.cells #[.bool false, .string ⟨#[]⟩] 34)).trans (HQ1.out.mono (by simp only [World.size_alloc]; omega))
        have a1 := (a0.alloc (by omega) (.cells #[.bool (ineg 1), .string (imag 1)] 34)).alloc (by simp only [World.size_alloc]; omega) (.cells #[.bool false, .string ⟨#[]⟩] 34)
        exact (a1.alloc (by simp only [World.size_alloc]; omega) (.cells #[.slice (some ⟨w1.heap.size + 1, 0, none⟩) 1 1] 64)).trans (HB.out.mono (by omega))
      have hrb := (((((Blk.new (w.alloc (.cells #[.int .i64 k] 3)) 34 [.bool false, .string ⟨#[]⟩]).below HQ1.out (by simp)).alloc (.cells #[.bool (ineg 1), .string (imag 1)] 34)).alloc (.cells #[.bool false, .string ⟨#[]⟩] 34)).alloc (.cells #[.slice (some ⟨w1.heap.size + 1, 0, none⟩) 1 1] 64)).below HB.out (by simp only [World.size_alloc]; omega)
      simp only [World.size_alloc] at hrb
      have hz4 : w.heap.size + 1 < wr.heap.size := by omega
      have sA := ((Below.refl w1.heap.size w1).alloc (Nat.le_refl _) (.cells #[.bool (ineg 1), .string (imag 1)] 34)).alloc (by simp) (.cells #[.bool false, .string ⟨#[]⟩] 34)
      have sB := sA.alloc (by simp only [World.size_alloc]; omega) (.cells #[.slice (some ⟨w1.heap.size + 1, 0, none⟩) 1 1] 64)
      have cK := ((sB.trans (HB.out.mono (by omega))).cell (p := ⟨w.heap.size, 0, none⟩) (by simp only []; omega)).trans HK0.out
      clear sA sB
      have cO := HONE.out.below HB.out (by omega)
      have HCO := Lib.hid cO; clear cO
      have HRB := Lib.hid hrb; clear hrb
      have HS0 := Lib.hid hsb0; clear hsb0
      have hb0 := bound_any k (n : Int) w.heap.size
      obtain ⟨F, hF⟩ : ∃ F, F = bnd k (n : Int) := ⟨_, rfl⟩
      rw [← hF] at hb0
      obtain ⟨y, hy⟩ : ∃ y, y = btw (sumsN d k (n + 1)) F ((n : Int) + 1) := ⟨_, rfl⟩
      have hl := sumsN_length d k (n + 1)
      have hb1 := between_any (sumsN d k (n + 1)) F ((n : Int) + 1) (w1.heap.size + 2) (.slice (some ⟨g, 0, none⟩) (n + 1 + 1) cap)
      rw [← hy] at hb1
      have hsm : ∀ z ∈ sumsN d k (n + 1), small z := fun z hz => small_of (m := n + 1) (sums_lt d k (n + 1) z hz) (by omega)
      have hp256 : 0 < 256 ^ (n + 1) := Nat.pow_pos (by decide)
      have sy : small y := small_of (m := n + 1 + 1) (by have := btw_lt hp256 (sums_lt d k (n + 1)) F ((n : Int) + 1); rw [← hy] at this; rw [Nat.pow_succ]; omega) (by omega)
      clear hp256
      have hrow : Row wr (.slice (some ⟨g, 0, none⟩) (n + 1 + 1) cap) (sumsN d k (n + 1)).length (civ (sumsN d k (n + 1))) := by rw [hl]; exact own_row HO.out
      have htl : (n : Int) + 1 < ((sumsN d k (n + 1)).length : Int) := by rw [hl]; omega
      have hcount : countC d k n = y + (if k = -1 ∨ (n : Int) ≤ k then 1 else 0) := by rw [countC, hy, hF]
      have HNX := Lib.hid hcount; clear hcount
      have HRW := Lib.hid hrow; clear hrow
      have HB0 := Lib.hid hb0; clear hb0
      have HB1 := Lib.hid hb1; clear hb1
      have HSM := Lib.hid hsm; clear hsm
      have SY := Lib.hid sy; clear sy
      have HY := Lib.hid hy; clear hy
      have HF := Lib.hid hF; clear hF
      have HL := Lib.hid hl; clear hl
      have HTL := Lib.hid htl; clear htl
      have S1 := Lib.hid (small_of (z := 1) (m := 1) (by decide) (by decide))
      by_cases hkk : k = -1 ∨ (n : Int) ≤ k
      · have HKK := Lib.hid hkk
        by_cases hka : k = -1
        · have hk1a : (k == -1) = true := by simp; omega
          clear hkk hka
          go_wp2_with (first | (go_at_call 44; refine (HB0.out _ cK (by omega)).mono ?_; rintro e w' ⟨rfl, rfl⟩) | (go_at_call 42; refine (HB1.out _ h3 hz3 HRW.out HTL.out HSM.out).mono ?_; rintro e w2 ⟨hq, rfl⟩; have hn0 := Blk.new w2 34 [.bool (ineg y), .string (imag y)]; have n0 := hn0.cell (j := 0) rfl; have f0 := hn0.frozen 0; have n1 := hn0.cell (j := 1) rfl; have f1 := hn0.frozen 1; have cK2 := ((hq.alloc hq.size (.cells #[.bool (ineg y), .string (imag y)] 34)).cell (p := ⟨w.heap.size, 0, none⟩) hz1).trans cK; have hone2 := (HCO.out.below hq hz2).alloc (.cells #[.bool (ineg y), .string (imag y)] 34); have o0 := hone2.cell (j := 0) rfl; have o1 := hone2.cell (j := 1) rfl; have hrb2 := (HRB.out.below hq hz4).alloc (.cells #[.bool (ineg y), .string (imag y)] 34); have r0 := hrb2.cell (j := 0) rfl; have q0 := hrb2.frozen 0; have r1 := hrb2.cell (j := 1) rfl; have q1 := hrb2.frozen 1; have hs2 : wr.heap.size ≤ w2.heap.size := hq.size; have HQ := Lib.hid hq; clear hq; have HN2 := Lib.hid hn0; clear hn0; have HR2 := Lib.hid hrb2; clear hrb2; clear hone2) | (go_at_call 45; refine (iadd_any _ _ _ _ _ SY.out S1.out).mono ?_; rintro e w3 ⟨hq3, rfl⟩; have hnc := HN2.out.below hq3 (by simp); have p0 := hnc.cell (j := 0) rfl; have g0 := hnc.frozen 0; have p1 := hnc.cell (j := 1) rfl; have g1 := hnc.frozen 1; have hrc := HR2.out.below hq3 (by simp; omega); have r30 := hrc.cell (j := 0) rfl; have q30 := hrc.frozen 0; have r31 := hrc.cell (j := 1) rfl; have q31 := hrc.frozen 1; have HQ3 := Lib.hid hq3; clear hq3; clear hnc hrc))
          refine bodyPost_ret (v := .tuple #[IntV (ival (ineg y) (imag y) + ival (ineg 1) (imag 1)), .int .i64 0]) (by simp [results, Try.results17, go_sem, *]) rfl ⟨?_, ?_⟩
          · have s1 := (HS0.out.trans (HQ.out.mono HS0.out.size)).alloc (by have := HS0.out.size; omega) (.cells #[.bool (ineg y), .string (imag y)] 34)
            have s2 := s1.trans (HQ3.out.mono s1.size)
            have s3 := (s2.setCell (p := ⟨w2.heap.size, 0, none⟩) (by have := HS0.out.size; simp only []; omega) (.bool (ineg (ival (ineg y) (imag y) + ival (ineg 1) (imag 1))))).setCell (p := ⟨w2.heap.size, 1, none⟩) (by have := HS0.out.size; simp only []; omega) (.string (imag (ival (ineg y) (imag y) + ival (ineg 1) (imag 1))))
            exact (s3.setCell (p := ⟨w.heap.size + 1, 0, none⟩) (by simp only []; omega) _).setCell (p := ⟨w.heap.size + 1, 1, none⟩) (by simp only []; omega) _
          · rw [HNX.out, if_pos HKK.out, ival_canon, ival_canon]
        · have hk1a : (k == -1) = false := by simp; omega
          have hk1b : decide ((n : Int) ≤ k) = true := by simp; omega
          clear hkk hka
          go_wp2_with (first | (go_at_call 44; refine (HB0.out _ cK (by omega)).mono ?_; rintro e w' ⟨rfl, rfl⟩) | (go_at_call 42; refine (HB1.out _ h3 hz3 HRW.out HTL.out HSM.out).mono ?_; rintro e w2 ⟨hq, rfl⟩; have hn0 := Blk.new w2 34 [.bool (ineg y), .string (imag y)]; have n0 := hn0.cell (j := 0) rfl; have f0 := hn0.frozen 0; have n1 := hn0.cell (j := 1) rfl; have f1 := hn0.frozen 1; have cK2 := ((hq.alloc hq.size (.cells #[.bool (ineg y), .string (imag y)] 34)).cell (p := ⟨w.heap.size, 0, none⟩) hz1).trans cK; have hone2 := (HCO.out.below hq hz2).alloc (.cells #[.bool (ineg y), .string (imag y)] 34); have o0 := hone2.cell (j := 0) rfl; have o1 := hone2.cell (j := 1) rfl; have hrb2 := (HRB.out.below hq hz4).alloc (.cells #[.bool (ineg y), .string (imag y)] 34); have r0 := hrb2.cell (j := 0) rfl; have q0 := hrb2.frozen 0; have r1 := hrb2.cell (j := 1) rfl; have q1 := hrb2.frozen 1; have hs2 : wr.heap.size ≤ w2.heap.size := hq.size; have HQ := Lib.hid hq; clear hq; have HN2 := Lib.hid hn0; clear hn0; have HR2 := Lib.hid hrb2; clear hrb2; clear hone2) | (go_at_call 45; refine (iadd_any _ _ _ _ _ SY.out S1.out).mono ?_; rintro e w3 ⟨hq3, rfl⟩; have hnc := HN2.out.below hq3 (by simp); have p0 := hnc.cell (j := 0) rfl; have g0 := hnc.frozen 0; have p1 := hnc.cell (j := 1) rfl; have g1 := hnc.frozen 1; have hrc := HR2.out.below hq3 (by simp; omega); have r30 := hrc.cell (j := 0) rfl; have q30 := hrc.frozen 0; have r31 := hrc.cell (j := 1) rfl; have q31 := hrc.frozen 1; have HQ3 := Lib.hid hq3; clear hq3; clear hnc hrc))
          refine bodyPost_ret (v := .tuple #[IntV (ival (ineg y) (imag y) + ival (ineg 1) (imag 1)), .int .i64 0]) (by simp [results, Try.results17, go_sem, *]) rfl ⟨?_, ?_⟩
          · have s1 := (HS0.out.trans (HQ.out.mono HS0.out.size)).alloc (by have := HS0.out.size; omega) (.cells #[.bool (ineg y), .string (imag y)] 34)
            have s2 := s1.trans (HQ3.out.mono s1.size)
            have s3 := (s2.setCell (p := ⟨w2.heap.size, 0, none⟩) (by have := HS0.out.size; simp only []; omega) (.bool (ineg (ival (ineg y) (imag y) + ival (ineg 1) (imag 1))))).setCell (p := ⟨w2.heap.size, 1, none⟩) (by have := HS0.out.size; simp only []; omega) (.string (imag (ival (ineg y) (imag y) + ival (ineg 1) (imag 1))))
            exact (s3.setCell (p := ⟨w.heap.size + 1, 0, none⟩) (by simp only []; omega) _).setCell (p := ⟨w.heap.size + 1, 1, none⟩) (by simp only []; omega) _
          · rw [HNX.out, if_pos HKK.out, ival_canon, ival_canon]
      · have HKK := Lib.hid hkk
        have hk1a : (k == -1) = false := by simp; omega
        have hk1b : decide ((n : Int) ≤ k) = false := by simp; omega
        clear hkk
        go_wp2_with (first | (go_at_call 44; refine (HB0.out _ cK (by omega)).mono ?_; rintro e w' ⟨rfl, rfl⟩) | (go_at_call 42; refine (HB1.out _ h3 hz3 HRW.out HTL.out HSM.out).mono ?_; rintro e w2 ⟨hq, rfl⟩; have hn0 := Blk.new w2 34 [.bool (ineg y), .string (imag y)]; have n0 := hn0.cell (j := 0) rfl; have f0 := hn0.frozen 0; have n1 := hn0.cell (j := 1) rfl; have f1 := hn0.frozen 1; have cK2 := ((hq.alloc hq.size (.cells #[.bool (ineg y), .string (imag y)] 34)).cell (p := ⟨w.heap.size, 0, none⟩) hz1).trans cK; have hone2 := (HCO.out.below hq hz2).alloc (.cells #[.bool (ineg y), .string (imag y)] 34); have o0 := hone2.cell (j := 0) rfl; have o1 := hone2.cell (j := 1) rfl; have hrb2 := (HRB.out.below hq hz4).alloc (.cells #[.bool (ineg y), .string (imag y)] 34); have r0 := hrb2.cell (j := 0) rfl; have q0 := hrb2.frozen 0; have r1 := hrb2.cell (j := 1) rfl; have q1 := hrb2.frozen 1; have hs2 : wr.heap.size ≤ w2.heap.size := hq.size; have HQ := Lib.hid hq; clear hq; have HN2 := Lib.hid hn0; clear hn0; have HR2 := Lib.hid hrb2; clear hrb2; clear hone2))
        refine bodyPost_ret (v := .tuple #[IntV y, .int .i64 0]) (by simp [results, Try.results17, go_sem, *]) rfl ⟨?_, ?_⟩
        · have s1 := (HS0.out.trans (HQ.out.mono HS0.out.size)).alloc (by have := HS0.out.size; omega) (.cells #[.bool (ineg y), .string (imag y)] 34)
          exact (s1.setCell (p := ⟨w.heap.size + 1, 0, none⟩) (by simp only []; omega) _).setCell (p := ⟨w.heap.size + 1, 1, none⟩) (by simp only []; omega) _
        · rw [HNX.out, if_neg HKK.out, Int.add_zero]
end Go.Proofs.Ytadibbbaegbljaa
