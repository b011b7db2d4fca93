/- Contracts and plain laws of several functions, one after the other: PlainP, Pair22, LPath. -/
import Derived.Test.YthpgeeaccmgbkaaGreatPart5
import Derived.Test.YthpgeeaccmgbkaaGreatPart11
import Derived.Test.YthpgeeaccmgbkaaGreatPart2
import Derived.Test.YthpgeeaccmgbkaaGreatROrb
import Derived.Test.YthpgeeaccmgbkaaGreatAwk22
/- Paths to the states of a set add up to the words to it, in plain Lean. -/
namespace Go.Proofs.YthpgeeaccmgbkaaGreat
open Go.RowKit

/-- By the last edge. -/
theorem cw_last (es : List E3) : ∀ (n : Nat) (s t : Int), cw es (ind t) (n + 1) s = ((es.filter fun e => e.t == t).map fun e => cw es (ind e.f) n s).sum
  | 0, s, t => by
    rw [cw, sum_filter', sum_filter']
    congr 1
    apply List.map_congr_left
    intro e _
    rw [cw_ind0, cw_ind0]
    by_cases h1 : e.f = s
    · by_cases h2 : e.t = t
      · simp [h1, h2]
      · simp [h1, h2]
    · have h1' : ¬ s = e.f := fun h => h1 h.symm
      by_cases h2 : e.t = t
      · simp [h1, h1', h2]
      · simp [h1, h2]
  | n + 1, s, t => by
    rw [cw]
    rw [show (fun e : E3 => cw es (ind t) (n + 1) e.t) = fun e => ((es.filter fun e' => e'.t == t).map fun e' => cw es (ind e'.f) n e.t).sum from funext fun e => cw_last es n e.t t]
    rw [sum_swap]
    rfl
/-- Turned round, the paths lead back. -/
theorem cw_turn (es : List E3) : ∀ (n : Nat) (s t : Int), cw (es.map swp) (ind s) n t = cw es (ind t) n s
  | 0, s, t => by rw [cw_ind0, cw_ind0]; by_cases h : s = t <;> simp [h, eq_comm]
  | n + 1, s, t => by
    rw [cw_last es n s t, cw, List.filter_map, List.map_map]
    congr 1
    apply List.map_congr_left
    intro e _
    exact cw_turn es n s e.f
theorem pth_eq (es : List E3) (n : Nat) (s t : Int) : pth es n s t = cw es (ind t) n s := cw_turn es n s t
/-- To the states of a set. -/
theorem cw_set (es : List E3) {l : List Int} (hl : l.Pairwise (· < ·)) : ∀ (n : Nat) (s : Int), (l.map fun t => cw es (ind t) n s).sum = cw es (pin l) n s
  | 0, s => by
    rw [cw]
    induction l with
    | nil => simp [pin]
    | cons x l ih =>
      obtain ⟨h1, h2⟩ := List.pairwise_cons.1 hl
      rw [List.map_cons, List.sum_cons, ih h2, cw_ind0]
      unfold pin
      by_cases hx : s = x
      · have : s ∉ l := fun h => by have := h1 s h; omega
        simp [hx]
        rw [hx] at this
        simp [this]
      · simp [hx]
  | n + 1, s => by
    rw [cw]
    rw [show (fun t : Int => cw es (ind t) (n + 1) s) = fun t => ((es.filter fun e => e.f == s).map fun e => cw es (ind t) n e.t).sum from rfl]
    rw [sum_swap]
    congr 1
    apply List.map_congr_left
    intro e _
    exact cw_set es hl n e.t
theorem pth_set (es : List E3) {l : List Int} (hl : l.Pairwise (· < ·)) (n : Nat) (s : Int) : (l.map fun t => pth es n s t).sum = cw es (pin l) n s := by
  rw [← cw_set es hl]
  congr 1
  apply List.map_congr_left
  intro t _
  exact pth_eq es n s t
end Go.Proofs.YthpgeeaccmgbkaaGreat

/- The program's Paths, From, Total, Closed, Orbits and the reference's answer the same, at small graphs. -/
namespace Go.Proofs.YthpgeeaccmgbkaaGreat
open Go.RowKit

/-- Two functions answer the same, a number and an error. -/
def Pair1 (f g : FuncId) (args : Array Value) (v : Value) (m : Nat) (es : List E3) : Prop :=
  ∃ X c : Int, (∀ w, Row w v m (ce es) → Calls Tryz.prog f args w (Ret w (.tuple #[IntV X, .int .i64 c]))) ∧ (∀ w, Row w v m (ce es) → Calls Tryz.prog g args w (Ret w (.tuple #[IntV X, .int .i64 c])))
theorem errN_ge {L S : Int} {es : List E3} {lo n c : Int} (h : errN L S es lo n = c) : (c = 1 ∧ chk L S es ≠ 0) ∨ (c = 2 ∧ chk L S es = 0 ∧ (n < lo ∨ 4096 < n)) ∨ (c = 0 ∧ chk L S es = 0 ∧ ¬ (n < lo ∨ 4096 < n)) := by
  by_cases h1 : chk L S es = 0
  · by_cases h2 : n < lo ∨ 4096 < n
    · rw [errN_two h1 h2] at h; exact .inr (.inl ⟨h.symm, h1, h2⟩)
    · rw [errN_ok h1 h2] at h; exact .inr (.inr ⟨h.symm, h1, h2⟩)
  · rw [errN_one h1] at h; exact .inl ⟨h.symm, h1⟩
theorem small_S {L S : Int} {es : List E3} {n : Int} (h : SmallP S es.length n) (hc : chk L S es = 0) : ∃ g : Nat, S = g ∧ g ≤ 8 := by
  have := chk_all hc
  unfold SmallP at h
  exact ⟨S.toNat, by omega, by omega⟩
theorem pair_paths (L S s t n : Int) (es : List E3) (v : Value) (hok : okEs es) (hS : SmallP S es.length n) :
    Pair1 8 9 #[.agg #[.int .i64 L, .int .i64 S, v], .int .i64 s, .int .i64 t, .int .i64 n] v es.length es := by
  by_cases hc : chk L S es = 0
  · obtain ⟨g, rfl, hg⟩ := small_S hS hc
    by_cases hb : s < 0 ∨ (g : Int) ≤ s ∨ t < 0 ∨ (g : Int) ≤ t
    · exact ⟨0, 25, fun w hr => cpaths_e2 L g s t n es v w hr hok hc hb, fun w hr => rpaths_e2 L g s t n es v w hr hc hb⟩
    · by_cases hn : n < 0 ∨ 4096 < n
      · exact ⟨0, 2, fun w hr => cpaths_e3 L g s t n es v w hr hok hc hb hn, fun w hr => rpaths_e3 L g s t n es v w hr hc hb hn⟩
      · obtain ⟨a, rfl⟩ : ∃ a : Nat, s = a := ⟨s.toNat, by omega⟩
        obtain ⟨b, rfl⟩ : ∃ b : Nat, t = b := ⟨t.toNat, by omega⟩
        obtain ⟨k, rfl⟩ : ∃ k : Nat, n = k := ⟨n.toNat, by omega⟩
        refine ⟨cw es (ind (b : Int)) k (a : Int), 0, fun w hr => ?_, fun w hr => rpaths_ok L g a b k es v w hr hc (by omega) (by omega) (by omega)⟩
        have h := paths_ok L g a b k es v w hr hok hc (by omega) (by omega) (by omega)
        rw [pth_eq] at h
        exact h
  · exact ⟨0, 1, fun w hr => cpaths_e1 L S s t n es v w hr hok hc, fun w hr => rpaths_e1 L S s t n es v w hr hc⟩
theorem rowK_sm {es : List E3} (hl : es.length ≤ 1024) (S n : Nat) : ∀ z ∈ rowK es S allP n, sm (2 * n + 1) z := fun z hz => by
  obtain ⟨s, -, rfl⟩ := List.mem_map.1 (show z ∈ (List.range S).map fun (s : Nat) => cw es allP n (s : Int) from hz)
  exact cw_sm hl allP n s
theorem pair_total (L S n : Int) (es : List E3) (v : Value) (hok : okEs es) (hS : SmallP S es.length n) :
    Pair1 12 13 #[.agg #[.int .i64 L, .int .i64 S, v], .int .i64 n] v es.length es := by
  obtain ⟨c, hE⟩ : ∃ c, errN L S es 0 n = c := ⟨_, rfl⟩
  rcases errN_ge hE with ⟨rfl, h⟩ | ⟨rfl, h, hn⟩ | ⟨rfl, h, hn⟩
  · refine ⟨0, 1, fun w hr => ctotal_e L S n 1 es v w hr hok hE (by omega), fun w hr => ?_⟩
    have k := rtotal_any L S n es [] 1 1 v w hr (by simp) (by omega) (by simp) (fun w' hr' => rfrom_e1 L S n es v w' hr' h)
    rw [List.sum_nil] at k; exact k
  · refine ⟨0, 2, fun w hr => ctotal_e L S n 2 es v w hr hok hE (by omega), fun w hr => ?_⟩
    have k := rtotal_any L S n es [] 2 1 v w hr (by simp) (by omega) (by simp) (fun w' hr' => rfrom_e2 L S n es v w' hr' h hn)
    rw [List.sum_nil] at k; exact k
  · obtain ⟨g, rfl, hg⟩ := small_S hS h
    obtain ⟨k, rfl⟩ : ∃ k : Nat, n = k := ⟨n.toNat, by omega⟩
    have hca := chk_all h
    exact ⟨_, 0, fun w hr => total_ok L g k es v w hr hok h (by omega), fun w hr => rtotal_any L g k es _ 0 (2 * k + 1) v w hr (rowK_sm hca.2.2.2.1 g k) (by omega) (by rw [rowK_length]; omega) (fun w' hr' => rfrom_ok L g k es v w' hr' h (by omega))⟩
theorem pair_closed (L S n : Int) (es : List E3) (v : Value) (hok : okEs es) (hS : SmallP S es.length n) :
    Pair1 14 15 #[.agg #[.int .i64 L, .int .i64 S, v], .int .i64 n] v es.length es := by
  obtain ⟨c, hE⟩ : ∃ c, errN L S es 0 n = c := ⟨_, rfl⟩
  rcases errN_ge hE with ⟨rfl, h⟩ | ⟨rfl, h, hn⟩ | ⟨rfl, h, hn⟩
  · exact ⟨0, 1, fun w hr => cclosed_e L S n 1 es v w hr hok hE (by omega), fun w hr => rclosed_e1 L S n es v w hr h⟩
  · exact ⟨0, 2, fun w hr => cclosed_e L S n 2 es v w hr hok hE (by omega), fun w hr => rclosed_e2 L S n es v w hr h hn⟩
  · obtain ⟨g, rfl, hg⟩ := small_S hS h
    obtain ⟨k, rfl⟩ : ∃ k : Nat, n = k := ⟨n.toNat, by omega⟩
    exact ⟨_, 0, fun w hr => Closed_ok L g k es v w hr hok h (by omega) (by omega), fun w hr => rClosed_ok L g k es v w hr h (by omega) (by omega)⟩
theorem pair_orbits (L S n : Int) (es : List E3) (v : Value) (hok : okEs es) (hS : SmallP S es.length n) :
    Pair1 16 17 #[.agg #[.int .i64 L, .int .i64 S, v], .int .i64 n] v es.length es := by
  obtain ⟨c, hE⟩ : ∃ c, errN L S es 1 n = c := ⟨_, rfl⟩
  rcases errN_ge hE with ⟨rfl, h⟩ | ⟨rfl, h, hn⟩ | ⟨rfl, h, hn⟩
  · exact ⟨0, 1, fun w hr => corbits_e L S n 1 es v w hr hok hE (by omega), fun w hr => rorbits_e1 L S n es v w hr h⟩
  · exact ⟨0, 2, fun w hr => corbits_e L S n 2 es v w hr hok hE (by omega), fun w hr => rorbits_e2 L S n es v w hr h hn⟩
  · obtain ⟨g, rfl, hg⟩ := small_S hS h
    obtain ⟨k, rfl⟩ : ∃ k : Nat, n = k := ⟨n.toNat, by omega⟩
    have hk : k ≤ 40 := by unfold SmallP at hS; omega
    obtain ⟨P, hP1, hP2, hP3⟩ := orbits_ex (chk_inS h)
    exact ⟨_, 0, fun w hr => orbits_q L g k es v P w hr hok h (by omega) (by omega) hk hP2 hP3, fun w hr => rorbits_ok L g es v P h (by omega) hP1 hP2 k (by omega) (by omega) w hr⟩
/-- From: a list and an error. -/
theorem pair_from (L S n : Int) (es : List E3) (v : Value) (hok : okEs es) (hS : SmallP S es.length n) :
    ∃ (l : List Int) (c : Int), (∀ w, Row w v es.length (ce es) → Calls Tryz.prog 10 #[.agg #[.int .i64 L, .int .i64 S, v], .int .i64 n] w (LstRet l c w)) ∧ (∀ w, Row w v es.length (ce es) → Calls Tryz.prog 11 #[.agg #[.int .i64 L, .int .i64 S, v], .int .i64 n] w (LstRet l c w)) := by
  obtain ⟨c, hE⟩ : ∃ c, errN L S es 0 n = c := ⟨_, rfl⟩
  have hnil : ∀ c w, Calls Tryz.prog 10 #[.agg #[.int .i64 L, .int .i64 S, v], .int .i64 n] w (Ret w (.tuple #[.slice none 0 0, .int .i64 c])) → Calls Tryz.prog 10 #[.agg #[.int .i64 L, .int .i64 S, v], .int .i64 n] w (LstRet [] c w) := fun c w h => h.mono (by
    rintro e w' ⟨hq, rfl⟩
    exact ⟨hq, _, rfl, Row.nil _⟩)
  rcases errN_ge hE with ⟨rfl, h⟩ | ⟨rfl, h, hn⟩ | ⟨rfl, h, hn⟩
  · exact ⟨[], 1, fun w hr => hnil _ _ (cfrom_e L S n 1 es v w hr hok hE (by omega)), fun w hr => rfrom_e1 L S n es v w hr h⟩
  · exact ⟨[], 2, fun w hr => hnil _ _ (cfrom_e L S n 2 es v w hr hok hE (by omega)), fun w hr => rfrom_e2 L S n es v w hr h hn⟩
  · obtain ⟨g, rfl, hg⟩ := small_S hS h
    obtain ⟨k, rfl⟩ : ∃ k : Nat, n = k := ⟨n.toNat, by omega⟩
    refine ⟨_, 0, fun w hr => (cfrom_ok L g k es v w hr hok h (by omega)).mono ?_, fun w hr => rfrom_ok L g k es v w hr h (by omega)⟩
    rintro e w' ⟨hq, b, rfl, hb⟩
    have hrow := blk_row hb (by rw [rowK_length]; omega)
    refine ⟨hq, _, rfl, ?_⟩
    rw [rowK_length] at hrow ⊢
    exact hrow
end Go.Proofs.YthpgeeaccmgbkaaGreat

/- The law CountingPaths. -/
namespace Go.Proofs.YthpgeeaccmgbkaaGreat
open Go.RowKit

theorem eqlI (z : Int) (w : World) : (binOp .eql 28 (.agg #[.bool (ineg z), .string (imag z)]) (.agg #[.bool (ineg z), .string (imag z)])).run Tryz.prog w = .ok (.bool true) w := by
  rw [eql_int, beq_toListBytes]; simp
set_option maxRecDepth 100000 in
set_option maxHeartbeats 6400000 in
theorem lpath_all (L S : Int) (es : List E3) (v : Value) (s t n : Int) (w : World) (hr : Row w v es.length (ce es)) (hok : okEs es) :
    Calls Tryz.prog 3 #[.agg #[.int .i64 L, .int .i64 S, v], .int .i64 s, .int .i64 t, .int .i64 n] w (Ret w (.bool true)) := by
  obtain ⟨va, vc, rfl, hle⟩ := hr.slice
  obtain ⟨mm, hmm⟩ : ∃ mm, mm = es.length := ⟨_, rfl⟩
  have s0 := (Below.refl w.heap.size w).alloc (Nat.le_refl _) (.cells #[.int .i64 L, .int .i64 S, .slice va es.length vc] 24)
  have b0 := Blk.new w 24 [.int .i64 L, .int .i64 S, .slice va es.length vc]
  have hr0 := hr.below s0 (Nat.le_refl _)
  have haw := awake22_true
  have hgr := fun w' => great22_any L S n va es.length vc w'
  have h1 := pair_paths L S s t n es (.slice va es.length vc) hok
  have h2 := pair_from L S n es (.slice va es.length vc) hok
  have h3 := pair_total L S n es (.slice va es.length vc) hok
  have h4 := pair_closed L S n es (.slice va es.length vc) hok
  have h5 := pair_orbits L S n es (.slice va es.length vc) hok
  unfold Pair1 at h1 h3 h4 h5
  rw [← hmm] at s0 b0 hr0 hgr h1 h2 h3 h4 h5 hle
  have HMM := Lib.hid hmm; clear hmm
  have HAW := Lib.hid haw; clear haw
  have HGR := Lib.hid hgr; clear hgr
  have P1 := Lib.hid h1; clear h1
  have P2 := Lib.hid h2; clear h2
  have P3 := Lib.hid h3; clear h3
  have P4 := Lib.hid h4; clear h4
  have P5 := Lib.hid h5; clear h5
  have S0 := Lib.hid s0; clear s0
  have B0 := Lib.hid b0; clear b0
  have HR0 := Lib.hid hr0; clear hr0
  clear hr
  go_enter Tryz.func3, Tryz.ntmps3
  rw [← HMM.out]
  go_wp2_with fail
  go_at_call 6
  refine (HGR.out _).mono ?_
  rintro e w1 ⟨hq, b, rfl, hb⟩
  have s1 := S0.out.trans (hq.mono S0.out.size)
  have hr1 := HR0.out.below hq (Nat.le_refl _)
  have tk := B0.out.keep hq; have x0 := tk.cell (j := 0) rfl; have x1 := tk.cell (j := 1) rfl; have x2 := tk.cell (j := 2) rfl; have C0 := Lib.hid tk; clear tk
  have S1 := Lib.hid s1; clear s1
  have HR1 := Lib.hid hr1; clear hr1
  clear hq
  cases b with
  | true =>
    go_wp2_with fail
    go_at_call 7
    refine (HAW.out _).mono ?_
    rintro e w2 ⟨hq, rfl⟩
    have HQ := Lib.hid hq; clear hq
    go_wp2_with fail
    go_ret
    exact ⟨S1.out.trans (HQ.out.mono S1.out.size), rfl⟩
  | false =>
    have hS := hb rfl
    obtain ⟨X1, c1, g1, r1⟩ := P1.out hS
    obtain ⟨l, c2, g2, r2⟩ := P2.out hS
    obtain ⟨X3, c3, g3, r3⟩ := P3.out hS
    obtain ⟨X4, c4, g4, r4⟩ := P4.out hS
    obtain ⟨X5, c5, g5, r5⟩ := P5.out hS
    have q1 := eqlI X1
    have q3 := eqlI X3
    have q4 := eqlI X4
    have q5 := eqlI X5
    have hequ := fun va vb w' => equalI_yes l va vb w'
    have G1 := Lib.hid g1; clear g1
    have G2 := Lib.hid g2; clear g2
    have G3 := Lib.hid g3; clear g3
    have G4 := Lib.hid g4; clear g4
    have G5 := Lib.hid g5; clear g5
    have R1 := Lib.hid r1; clear r1
    have R2 := Lib.hid r2; clear r2
    have R3 := Lib.hid r3; clear r3
    have R4 := Lib.hid r4; clear r4
    have R5 := Lib.hid r5; clear r5
    have HEQ := Lib.hid hequ; clear hequ
    clear hb hS
    go_wp2_with fail
    go_at_call 8
    refine (G1.out _ HR1.out).mono ?_
    rintro e v1 ⟨hq, rfl⟩
    have bA := Blk.new v1 28 [.bool (ineg X1), .string (imag X1)]
    have qq : Below w1.heap.size w1 (v1.alloc (.cells #[.bool (ineg X1), .string (imag X1)] 28)) := hq.alloc hq.size _
    obtain ⟨V1, hW⟩ : ∃ W, v1.alloc (.cells #[.bool (ineg X1), .string (imag X1)] 28) = W := ⟨_, rfl⟩
    obtain ⟨A1, hA⟩ : ∃ A, A = v1.heap.size := ⟨_, rfl⟩
    rw [hW] at bA qq
    rw [← hA] at bA
    have ss := S1.out.trans (qq.mono S1.out.size)
    have rr := HR1.out.below qq (Nat.le_refl _)
    clear x0 x1 x2
    have tk := C0.out.keep qq; have x0 := tk.cell (j := 0) rfl; have x1 := tk.cell (j := 1) rfl; have x2 := tk.cell (j := 2) rfl; have D1 := Lib.hid tk; clear tk
    have BA1_1 := Lib.hid bA; clear bA
    have T1 := Lib.hid ss; clear ss
    have HW1 := Lib.hid rr; clear rr
    clear qq hq
    go_wp2_with fail
    (try rw [hW])
    (try rw [← hA])
    clear hW hA
    go_at_call 9
    refine (R1.out _ HW1.out).mono ?_
    rintro e v2 ⟨hq, rfl⟩
    have bA := Blk.new v2 28 [.bool (ineg X1), .string (imag X1)]
    have qq : Below V1.heap.size V1 (v2.alloc (.cells #[.bool (ineg X1), .string (imag X1)] 28)) := hq.alloc hq.size _
    obtain ⟨V2, hW⟩ : ∃ W, v2.alloc (.cells #[.bool (ineg X1), .string (imag X1)] 28) = W := ⟨_, rfl⟩
    obtain ⟨A2, hA⟩ : ∃ A, A = v2.heap.size := ⟨_, rfl⟩
    rw [hW] at bA qq
    rw [← hA] at bA
    have ss := T1.out.trans (qq.mono T1.out.size)
    have rr := HW1.out.below qq (Nat.le_refl _)
    clear x0 x1 x2
    have tk := D1.out.keep qq; have x0 := tk.cell (j := 0) rfl; have x1 := tk.cell (j := 1) rfl; have x2 := tk.cell (j := 2) rfl; have D2 := Lib.hid tk; clear tk
    have kk := BA1_1.out.keep qq
    have BA1_2 := Lib.hid kk; clear kk
    have BA2_2 := Lib.hid bA; clear bA
    have T2 := Lib.hid ss; clear ss
    have HW2 := Lib.hid rr; clear rr
    clear qq hq
    go_wp2_with fail
    (try rw [hW])
    (try rw [← hA])
    clear hW hA
    go_at_call 10
    refine (G2.out _ HW2.out).mono ?_
    rintro e V3 ⟨qq, u3, rfl, hrow⟩
    have ss := T2.out.trans (qq.mono T2.out.size)
    have rr := HW2.out.below qq (Nat.le_refl _)
    clear x0 x1 x2
    have tk := D2.out.keep qq; have x0 := tk.cell (j := 0) rfl; have x1 := tk.cell (j := 1) rfl; have x2 := tk.cell (j := 2) rfl; have D3 := Lib.hid tk; clear tk
    have kk := BA1_2.out.keep qq
    have BA1_3 := Lib.hid kk; clear kk
    have kk := BA2_2.out.keep qq
    have BA2_3 := Lib.hid kk; clear kk
    have RWu3_3 := Lib.hid hrow; clear hrow
    have T3 := Lib.hid ss; clear ss
    have HW3 := Lib.hid rr; clear rr
    clear qq
    go_wp2_with fail
    go_at_call 11
    refine (R2.out _ HW3.out).mono ?_
    rintro e V4 ⟨qq, u4, rfl, hrow⟩
    have ss := T3.out.trans (qq.mono T3.out.size)
    have rr := HW3.out.below qq (Nat.le_refl _)
    clear x0 x1 x2
    have tk := D3.out.keep qq; have x0 := tk.cell (j := 0) rfl; have x1 := tk.cell (j := 1) rfl; have x2 := tk.cell (j := 2) rfl; have D4 := Lib.hid tk; clear tk
    have kk := BA1_3.out.keep qq
    have BA1_4 := Lib.hid kk; clear kk
    have kk := BA2_3.out.keep qq
    have BA2_4 := Lib.hid kk; clear kk
    have kk := RWu3_3.out.below qq (Nat.le_refl _)
    have RWu3_4 := Lib.hid kk; clear kk
    have RWu4_4 := Lib.hid hrow; clear hrow
    have T4 := Lib.hid ss; clear ss
    have HW4 := Lib.hid rr; clear rr
    clear qq
    go_wp2_with fail
    go_at_call 12
    refine (G3.out _ HW4.out).mono ?_
    rintro e v5 ⟨hq, rfl⟩
    have bA := Blk.new v5 28 [.bool (ineg X3), .string (imag X3)]
    have qq : Below V4.heap.size V4 (v5.alloc (.cells #[.bool (ineg X3), .string (imag X3)] 28)) := hq.alloc hq.size _
    obtain ⟨V5, hW⟩ : ∃ W, v5.alloc (.cells #[.bool (ineg X3), .string (imag X3)] 28) = W := ⟨_, rfl⟩
    obtain ⟨A5, hA⟩ : ∃ A, A = v5.heap.size := ⟨_, rfl⟩
    rw [hW] at bA qq
    rw [← hA] at bA
    have ss := T4.out.trans (qq.mono T4.out.size)
    have rr := HW4.out.below qq (Nat.le_refl _)
    clear x0 x1 x2
    have tk := D4.out.keep qq; have x0 := tk.cell (j := 0) rfl; have x1 := tk.cell (j := 1) rfl; have x2 := tk.cell (j := 2) rfl; have D5 := Lib.hid tk; clear tk
    have kk := BA1_4.out.keep qq
    have BA1_5 := Lib.hid kk; clear kk
    have kk := BA2_4.out.keep qq
    have BA2_5 := Lib.hid kk; clear kk
    have kk := RWu3_4.out.below qq (Nat.le_refl _)
    have RWu3_5 := Lib.hid kk; clear kk
    have kk := RWu4_4.out.below qq (Nat.le_refl _)
    have RWu4_5 := Lib.hid kk; clear kk
    have BA5_5 := Lib.hid bA; clear bA
    have T5 := Lib.hid ss; clear ss
    have HW5 := Lib.hid rr; clear rr
    clear qq hq
    go_wp2_with fail
    (try rw [hW])
    (try rw [← hA])
    clear hW hA
    go_at_call 13
    refine (R3.out _ HW5.out).mono ?_
    rintro e v6 ⟨hq, rfl⟩
    have bA := Blk.new v6 28 [.bool (ineg X3), .string (imag X3)]
    have qq : Below V5.heap.size V5 (v6.alloc (.cells #[.bool (ineg X3), .string (imag X3)] 28)) := hq.alloc hq.size _
    obtain ⟨V6, hW⟩ : ∃ W, v6.alloc (.cells #[.bool (ineg X3), .string (imag X3)] 28) = W := ⟨_, rfl⟩
    obtain ⟨A6, hA⟩ : ∃ A, A = v6.heap.size := ⟨_, rfl⟩
    rw [hW] at bA qq
    rw [← hA] at bA
    have ss := T5.out.trans (qq.mono T5.out.size)
    have rr := HW5.out.below qq (Nat.le_refl _)
    clear x0 x1 x2
    have tk := D5.out.keep qq; have x0 := tk.cell (j := 0) rfl; have x1 := tk.cell (j := 1) rfl; have x2 := tk.cell (j := 2) rfl; have D6 := Lib.hid tk; clear tk
    have kk := BA1_5.out.keep qq
    have BA1_6 := Lib.hid kk; clear kk
    have kk := BA2_5.out.keep qq
    have BA2_6 := Lib.hid kk; clear kk
    have kk := BA5_5.out.keep qq
    have BA5_6 := Lib.hid kk; clear kk
    have kk := RWu3_5.out.below qq (Nat.le_refl _)
    have RWu3_6 := Lib.hid kk; clear kk
    have kk := RWu4_5.out.below qq (Nat.le_refl _)
    have RWu4_6 := Lib.hid kk; clear kk
    have BA6_6 := Lib.hid bA; clear bA
    have T6 := Lib.hid ss; clear ss
    have HW6 := Lib.hid rr; clear rr
    clear qq hq
    go_wp2_with fail
    (try rw [hW])
    (try rw [← hA])
    clear hW hA
    go_at_call 14
    refine (G4.out _ HW6.out).mono ?_
    rintro e v7 ⟨hq, rfl⟩
    have bA := Blk.new v7 28 [.bool (ineg X4), .string (imag X4)]
    have qq : Below V6.heap.size V6 (v7.alloc (.cells #[.bool (ineg X4), .string (imag X4)] 28)) := hq.alloc hq.size _
    obtain ⟨V7, hW⟩ : ∃ W, v7.alloc (.cells #[.bool (ineg X4), .string (imag X4)] 28) = W := ⟨_, rfl⟩
    obtain ⟨A7, hA⟩ : ∃ A, A = v7.heap.size := ⟨_, rfl⟩
    rw [hW] at bA qq
    rw [← hA] at bA
    have ss := T6.out.trans (qq.mono T6.out.size)
    have rr := HW6.out.below qq (Nat.le_refl _)
    clear x0 x1 x2
    have tk := D6.out.keep qq; have x0 := tk.cell (j := 0) rfl; have x1 := tk.cell (j := 1) rfl; have x2 := tk.cell (j := 2) rfl; have D7 := Lib.hid tk; clear tk
    have kk := BA1_6.out.keep qq
    have BA1_7 := Lib.hid kk; clear kk
    have kk := BA2_6.out.keep qq
    have BA2_7 := Lib.hid kk; clear kk
    have kk := BA5_6.out.keep qq
    have BA5_7 := Lib.hid kk; clear kk
    have kk := BA6_6.out.keep qq
    have BA6_7 := Lib.hid kk; clear kk
    have kk := RWu3_6.out.below qq (Nat.le_refl _)
    have RWu3_7 := Lib.hid kk; clear kk
    have kk := RWu4_6.out.below qq (Nat.le_refl _)
    have RWu4_7 := Lib.hid kk; clear kk
    have BA7_7 := Lib.hid bA; clear bA
    have T7 := Lib.hid ss; clear ss
    have HW7 := Lib.hid rr; clear rr
    clear qq hq
    go_wp2_with fail
    (try rw [hW])
    (try rw [← hA])
    clear hW hA
    go_at_call 15
    refine (R4.out _ HW7.out).mono ?_
    rintro e v8 ⟨hq, rfl⟩
    have bA := Blk.new v8 28 [.bool (ineg X4), .string (imag X4)]
    have qq : Below V7.heap.size V7 (v8.alloc (.cells #[.bool (ineg X4), .string (imag X4)] 28)) := hq.alloc hq.size _
    obtain ⟨V8, hW⟩ : ∃ W, v8.alloc (.cells #[.bool (ineg X4), .string (imag X4)] 28) = W := ⟨_, rfl⟩
    obtain ⟨A8, hA⟩ : ∃ A, A = v8.heap.size := ⟨_, rfl⟩
    rw [hW] at bA qq
    rw [← hA] at bA
    have ss := T7.out.trans (qq.mono T7.out.size)
    have rr := HW7.out.below qq (Nat.le_refl _)
    clear x0 x1 x2
    have tk := D7.out.keep qq; have x0 := tk.cell (j := 0) rfl; have x1 := tk.cell (j := 1) rfl; have x2 := tk.cell (j := 2) rfl; have D8 := Lib.hid tk; clear tk
    have kk := BA1_7.out.keep qq
    have BA1_8 := Lib.hid kk; clear kk
    have kk := BA2_7.out.keep qq
    have BA2_8 := Lib.hid kk; clear kk
    have kk := BA5_7.out.keep qq
    have BA5_8 := Lib.hid kk; clear kk
    have kk := BA6_7.out.keep qq
    have BA6_8 := Lib.hid kk; clear kk
    have kk := BA7_7.out.keep qq
    have BA7_8 := Lib.hid kk; clear kk
    have kk := RWu3_7.out.below qq (Nat.le_refl _)
    have RWu3_8 := Lib.hid kk; clear kk
    have kk := RWu4_7.out.below qq (Nat.le_refl _)
    have RWu4_8 := Lib.hid kk; clear kk
    have BA8_8 := Lib.hid bA; clear bA
    have T8 := Lib.hid ss; clear ss
    have HW8 := Lib.hid rr; clear rr
    clear qq hq
    go_wp2_with fail
    (try rw [hW])
    (try rw [← hA])
    clear hW hA
    go_at_call 16
    refine (G5.out _ HW8.out).mono ?_
    rintro e v9 ⟨hq, rfl⟩
    have bA := Blk.new v9 28 [.bool (ineg X5), .string (imag X5)]
    have qq : Below V8.heap.size V8 (v9.alloc (.cells #[.bool (ineg X5), .string (imag X5)] 28)) := hq.alloc hq.size _
    obtain ⟨V9, hW⟩ : ∃ W, v9.alloc (.cells #[.bool (ineg X5), .string (imag X5)] 28) = W := ⟨_, rfl⟩
    obtain ⟨A9, hA⟩ : ∃ A, A = v9.heap.size := ⟨_, rfl⟩
    rw [hW] at bA qq
    rw [← hA] at bA
    have ss := T8.out.trans (qq.mono T8.out.size)
    have rr := HW8.out.below qq (Nat.le_refl _)
    clear x0 x1 x2
    have tk := D8.out.keep qq; have x0 := tk.cell (j := 0) rfl; have x1 := tk.cell (j := 1) rfl; have x2 := tk.cell (j := 2) rfl; have D9 := Lib.hid tk; clear tk
    have kk := BA1_8.out.keep qq
    have BA1_9 := Lib.hid kk; clear kk
    have kk := BA2_8.out.keep qq
    have BA2_9 := Lib.hid kk; clear kk
    have kk := BA5_8.out.keep qq
    have BA5_9 := Lib.hid kk; clear kk
    have kk := BA6_8.out.keep qq
    have BA6_9 := Lib.hid kk; clear kk
    have kk := BA7_8.out.keep qq
    have BA7_9 := Lib.hid kk; clear kk
    have kk := BA8_8.out.keep qq
    have BA8_9 := Lib.hid kk; clear kk
    have kk := RWu3_8.out.below qq (Nat.le_refl _)
    have RWu3_9 := Lib.hid kk; clear kk
    have kk := RWu4_8.out.below qq (Nat.le_refl _)
    have RWu4_9 := Lib.hid kk; clear kk
    have BA9_9 := Lib.hid bA; clear bA
    have T9 := Lib.hid ss; clear ss
    have HW9 := Lib.hid rr; clear rr
    clear qq hq
    go_wp2_with fail
    (try rw [hW])
    (try rw [← hA])
    clear hW hA
    go_at_call 17
    refine (R5.out _ HW9.out).mono ?_
    rintro e v10 ⟨hq, rfl⟩
    have bA := Blk.new v10 28 [.bool (ineg X5), .string (imag X5)]
    have qq : Below V9.heap.size V9 (v10.alloc (.cells #[.bool (ineg X5), .string (imag X5)] 28)) := hq.alloc hq.size _
    obtain ⟨V10, hW⟩ : ∃ W, v10.alloc (.cells #[.bool (ineg X5), .string (imag X5)] 28) = W := ⟨_, rfl⟩
    obtain ⟨A10, hA⟩ : ∃ A, A = v10.heap.size := ⟨_, rfl⟩
    rw [hW] at bA qq
    rw [← hA] at bA
    have ss := T9.out.trans (qq.mono T9.out.size)
    have rr := HW9.out.below qq (Nat.le_refl _)
    clear x0 x1 x2
    have tk := D9.out.keep qq; have x0 := tk.cell (j := 0) rfl; have x1 := tk.cell (j := 1) rfl; have x2 := tk.cell (j := 2) rfl; have D10 := Lib.hid tk; clear tk
    have kk := BA1_9.out.keep qq
    have BA1_10 := Lib.hid kk; clear kk
    have kk := BA2_9.out.keep qq
    have BA2_10 := Lib.hid kk; clear kk
    have kk := BA5_9.out.keep qq
    have BA5_10 := Lib.hid kk; clear kk
    have kk := BA6_9.out.keep qq
    have BA6_10 := Lib.hid kk; clear kk
    have kk := BA7_9.out.keep qq
    have BA7_10 := Lib.hid kk; clear kk
    have kk := BA8_9.out.keep qq
    have BA8_10 := Lib.hid kk; clear kk
    have kk := BA9_9.out.keep qq
    have BA9_10 := Lib.hid kk; clear kk
    have kk := RWu3_9.out.below qq (Nat.le_refl _)
    have RWu3_10 := Lib.hid kk; clear kk
    have kk := RWu4_9.out.below qq (Nat.le_refl _)
    have RWu4_10 := Lib.hid kk; clear kk
    have BA10_10 := Lib.hid bA; clear bA
    have T10 := Lib.hid ss; clear ss
    have HW10 := Lib.hid rr; clear rr
    clear qq hq
    have m00 := BA1_10.out.cell (j := 0) rfl
    have m01 := BA1_10.out.cell (j := 1) rfl
    have m10 := BA2_10.out.cell (j := 0) rfl
    have m11 := BA2_10.out.cell (j := 1) rfl
    have m20 := BA5_10.out.cell (j := 0) rfl
    have m21 := BA5_10.out.cell (j := 1) rfl
    have m30 := BA6_10.out.cell (j := 0) rfl
    have m31 := BA6_10.out.cell (j := 1) rfl
    have m40 := BA7_10.out.cell (j := 0) rfl
    have m41 := BA7_10.out.cell (j := 1) rfl
    have m50 := BA8_10.out.cell (j := 0) rfl
    have m51 := BA8_10.out.cell (j := 1) rfl
    have m60 := BA9_10.out.cell (j := 0) rfl
    have m61 := BA9_10.out.cell (j := 1) rfl
    have m70 := BA10_10.out.cell (j := 0) rfl
    have m71 := BA10_10.out.cell (j := 1) rfl
    go_wp2_with fail
    (try rw [hW])
    (try rw [← hA])
    clear hW hA
    go_at_call 18
    refine (HEQ.out _ _ _ RWu3_10.out RWu4_10.out).mono ?_
    rintro e Z1 ⟨qq, rfl⟩
    clear m00 m01 m10 m11 m20 m21 m30 m31 m40 m41 m50 m51 m60 m61 m70 m71
    have kk := BA1_10.out.keep qq
    have BA1_z := Lib.hid kk; clear kk
    have kk := BA2_10.out.keep qq
    have BA2_z := Lib.hid kk; clear kk
    have kk := BA5_10.out.keep qq
    have BA5_z := Lib.hid kk; clear kk
    have kk := BA6_10.out.keep qq
    have BA6_z := Lib.hid kk; clear kk
    have kk := BA7_10.out.keep qq
    have BA7_z := Lib.hid kk; clear kk
    have kk := BA8_10.out.keep qq
    have BA8_z := Lib.hid kk; clear kk
    have kk := BA9_10.out.keep qq
    have BA9_z := Lib.hid kk; clear kk
    have kk := BA10_10.out.keep qq
    have BA10_z := Lib.hid kk; clear kk
    have ss := T10.out.trans (qq.mono T10.out.size)
    have TZ := Lib.hid ss; clear ss
    clear qq x0 x1 x2
    have p00 := BA1_z.out.cell (j := 0) rfl
    have p01 := BA1_z.out.cell (j := 1) rfl
    have p10 := BA2_z.out.cell (j := 0) rfl
    have p11 := BA2_z.out.cell (j := 1) rfl
    have p20 := BA5_z.out.cell (j := 0) rfl
    have p21 := BA5_z.out.cell (j := 1) rfl
    have p30 := BA6_z.out.cell (j := 0) rfl
    have p31 := BA6_z.out.cell (j := 1) rfl
    have p40 := BA7_z.out.cell (j := 0) rfl
    have p41 := BA7_z.out.cell (j := 1) rfl
    have p50 := BA8_z.out.cell (j := 0) rfl
    have p51 := BA8_z.out.cell (j := 1) rfl
    have p60 := BA9_z.out.cell (j := 0) rfl
    have p61 := BA9_z.out.cell (j := 1) rfl
    have p70 := BA10_z.out.cell (j := 0) rfl
    have p71 := BA10_z.out.cell (j := 1) rfl
    go_wp2_with fail
    go_at_call 7
    refine (HAW.out _).mono ?_
    rintro e w6 ⟨hq, rfl⟩
    have HQ := Lib.hid hq; clear hq
    go_wp2_with fail
    go_ret
    exact ⟨TZ.out.trans (HQ.out.mono TZ.out.size), rfl⟩
end Go.Proofs.YthpgeeaccmgbkaaGreat

