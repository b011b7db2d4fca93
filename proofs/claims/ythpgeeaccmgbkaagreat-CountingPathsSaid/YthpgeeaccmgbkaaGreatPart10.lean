/- Contracts and plain laws of several functions, one after the other: ClosedC, OrbA. -/
import Derived.Test.YthpgeeaccmgbkaaGreatClosed
import Derived.Test.YthpgeeaccmgbkaaGreatDivs
import Derived.Test.YthpgeeaccmgbkaaGreatPart5
import Derived.Test.YthpgeeaccmgbkaaGreatDivI
/- counting.Closed at valid graphs; closed at no states. -/
namespace Go.Proofs.YthpgeeaccmgbkaaGreat
open Go.RowKit

theorem clN_zero (es : List E3) (n : Nat) : clN es 0 n = 0 := rfl
set_option maxRecDepth 100000 in
set_option maxHeartbeats 3200000 in
theorem closed_none (L : Int) (N : Nat) (a : Option Addr) (m c : Nat) (w : World) :
    Calls Tryz.prog 41 #[.agg #[.int .i64 L, .int .i64 0, .slice a m c], .int .i64 (N : Int)] w (Ret w (IntV 0)) := by
  have s0 := ((Below.refl w.heap.size w).alloc (Nat.le_refl _) (.cells #[.int .i64 L, .int .i64 0, .slice a m c] 24)).alloc (by simp) (.cells #[.bool false, .string ⟨#[]⟩] 28)
  have bg := (Blk.new w 24 [.int .i64 L, .int .i64 0, .slice a m c]).alloc (.cells #[.bool false, .string ⟨#[]⟩] 28)
  have y1 := bg.cell (j := 1) rfl
  have S0 := Lib.hid s0; clear s0
  clear bg
  go_enter Tryz.func41, Tryz.ntmps41
  go_wp2_with fail
  have br := Blk.new (w.alloc (.cells #[.int .i64 L, .int .i64 0, .slice a m c] 24)) 28 [.bool false, .string ⟨#[]⟩]
  simp only [World.size_alloc] at br
  have e0 := br.cell (j := 0) rfl
  have e1 := br.cell (j := 1) rfl
  exact bodyPost_ret (v := IntV 0) (by simp [results, Tryz.results41, go_sem, e0, e1]; simp [IntV, ineg_zero, imag_zero]) rfl ⟨S0.out, rfl⟩
theorem closed_all (L : Int) (S N : Nat) (es : List E3) (v : Value) (w : World) (hr : Row w v es.length (ce es)) (hS : S ≤ 32) (hl : es.length ≤ 1024) (hin : InS S es) (hN : N ≤ 4096) :
    Calls Tryz.prog 41 #[.agg #[.int .i64 L, .int .i64 (S : Int), v], .int .i64 (N : Int)] w (Ret w (IntV (clN es S N))) := by
  rcases Nat.eq_zero_or_pos S with rfl | h0
  · obtain ⟨va, vc, rfl, hle⟩ := hr.slice
    rw [clN_zero]
    exact closed_none L N va es.length vc w
  · exact closed_any L S N es v w hr h0 hS hl hin hN
set_option maxRecDepth 100000 in
set_option maxHeartbeats 3200000 in
theorem Closed_ok (L : Int) (S N : Nat) (es : List E3) (v : Value) (w : World) (hr : Row w v es.length (ce es)) (hok : okEs es) (hc : chk L (S : Int) es = 0) (hS : S ≤ 32) (hN : N ≤ 4096) :
    Calls Tryz.prog 14 #[.agg #[.int .i64 L, .int .i64 (S : Int), v], .int .i64 (N : Int)] w (Ret w (.tuple #[IntV (clN es S N), .int .i64 0])) := by
  obtain ⟨va, vc, rfl, hle⟩ := hr.slice
  have hca := chk_all hc
  have hin := chk_inS hc
  have bg := (Blk.new w 24 [.int .i64 L, .int .i64 (S : Int), .slice va es.length vc]).alloc (.cells #[.bool false, .string ⟨#[]⟩] 28)
  have br := Blk.new (w.alloc (.cells #[.int .i64 L, .int .i64 (S : Int), .slice va es.length vc] 24)) 28 [.bool false, .string ⟨#[]⟩]
  have s0 := ((Below.refl w.heap.size w).alloc (Nat.le_refl _) (.cells #[.int .i64 L, .int .i64 (S : Int), .slice va es.length vc] 24)).alloc (by simp) (.cells #[.bool false, .string ⟨#[]⟩] 28)
  simp only [World.size_alloc] at br
  have hr1 := hr.below s0 (Nat.le_refl _)
  have hck := ccheck_ok0 L (S : Int) N es _ _ hr1 hok hc hN
  have hcl := fun w' h => closed_all L S N es (.slice va es.length vc) w' h hS hca.2.2.2.1 hin hN
  obtain ⟨Z, hZ⟩ : ∃ Z, Z = clN es S N := ⟨_, rfl⟩
  rw [← hZ] at hcl ⊢
  obtain ⟨m, hm⟩ : ∃ m, m = es.length := ⟨_, rfl⟩
  rw [← hm] at bg br s0 hr1 hck hcl
  have t0 : ¬ 32 < S := by omega
  have t1 : ¬ (32 : Int) < (S : Int) := by omega
  have HCK := Lib.hid hck; clear hck
  have HCL := Lib.hid hcl; clear hcl
  have HR1 := Lib.hid hr1; clear hr1
  have BG := Lib.hid bg; clear bg
  have BR := Lib.hid br; clear br
  have S0 := Lib.hid s0; clear s0
  have HM := Lib.hid hm; clear hm
  clear hr hca hin hok hc hZ
  go_enter Tryz.func14, Tryz.ntmps14
  rw [← HM.out]
  go_wp2_with fail
  go_at_call 32
  refine HCK.out.mono ?_
  rintro e w1 ⟨hq, rfl⟩
  have s1 := S0.out.trans (hq.mono S0.out.size)
  have bg1 := BG.out.keep hq
  have br1 := BR.out.keep hq
  have hr2 := HR1.out.below hq (Nat.le_refl _)
  have y0 := bg1.cell (j := 0) rfl
  have y1 := bg1.cell (j := 1) rfl
  have y2 := bg1.cell (j := 2) rfl
  have S1 := Lib.hid s1; clear s1
  have BR1 := Lib.hid br1; clear br1
  have HR2 := Lib.hid hr2; clear hr2
  clear hq bg1
  go_wp2_with fail
  go_at_call 41
  refine (HCL.out _ HR2.out).mono ?_
  rintro e w2 ⟨hq, rfl⟩
  have s2 := S1.out.trans (hq.mono S1.out.size)
  have br2 := BR1.out.keep hq
  have f0 := br2.frozen 0
  have f1 := br2.frozen 1
  have d0 := br2.cell (j := 0) rfl
  have d1 := br2.cell (j := 1) rfl
  have S2 := Lib.hid s2; clear s2
  have BR2 := Lib.hid br2; clear br2
  clear hq y0 y1 y2
  go_wp2_with fail
  have e0 := ((BR2.out.set 0 (.bool (ineg Z))).set 1 (.string (imag Z))).cell (j := 0) rfl
  have e1 := ((BR2.out.set 0 (.bool (ineg Z))).set 1 (.string (imag Z))).cell (j := 1) rfl
  have s6 := (S2.out.setCell (p := ⟨w.heap.size + 1, 0, none⟩) (show w.heap.size ≤ w.heap.size + 1 by omega) (.bool (ineg Z))).setCell (p := ⟨w.heap.size + 1, 1, none⟩) (show w.heap.size ≤ w.heap.size + 1 by omega) (.string (imag Z))
  exact bodyPost_ret (v := .tuple #[IntV Z, .int .i64 0]) (by simp [results, Tryz.results14, go_sem, e0, e1]) rfl ⟨s6, rfl⟩
end Go.Proofs.YthpgeeaccmgbkaaGreat

/- counting.divisors as an iterator; counting.check with a least length; sums over divisors. -/
namespace Go.Proofs.YthpgeeaccmgbkaaGreat
open Go.RowKit Go.Shelf

attribute [local go_sem] Oper.semAt_some

set_option maxHeartbeats 1000000 in
theorem divs_in (F : Fence) (n : Nat) (h5 : F.fn 43) (hro : F.round = none) (N : Nat) (w : World) :
    CallsIn F n Tryz.prog 43 #[.int .i64 (N : Int)] w fun e w' => e = .returned (.func (.func 80) #[] #[.pointer (some ⟨w.heap.size, 0, none⟩)]) ∧ w' = w.alloc (.cells #[.int .i64 (N : Int)] 3) := by
  refine callsIn_of_wp Tryz.func43 rfl h5 ?_ hro
  simp only [Tryz.ntmps43, List.size_toArray, List.length_cons, List.length_nil, Nat.reduceAdd, Nat.reduceSub, Array.replicate_succ, Array.replicate_zero, List.push_toArray, List.append_toArray, List.nil_append, List.cons_append]
  gi_wp2
  go_ret
  exact ⟨rfl, rfl⟩
theorem divs_stops (n : Nat) (hn : 1 ≤ n) (Bn N : Nat) (hN : N ≤ 100000) (w0 w : World) {α : Type} (en : α → Nat × Int) (L : List α) (hL : L.map en = divL N N) (hBn : Bn < w.heap.size) (hs : w.cell? ⟨Bn, 0, none⟩ = some (.int .i64 (N : Int))) :
    SeqStopsK Fence.wide n Tryz.prog 80 #[.pointer (some ⟨Bn, 0, none⟩)] (fun x : α => #[Value.int .i64 (((en x).1 : Nat) : Int), Value.int .i64 (en x).2]) (cKpS w0.heap.size Bn Bn) (fun ys => ys = L) (fun _ => True) (divL N N).length w :=
  fun l J Jx W hW hJ _ hY h0 =>
    divs1_in n hn l Bn N hN W.heap.size w0 en L hL J Jx hJ hY W (Nat.le_refl _) (Nat.lt_of_lt_of_le hBn hW.size) ((hW.cell (p := ⟨Bn, 0, none⟩) hBn).trans hs) h0
set_option maxRecDepth 100000 in
set_option maxHeartbeats 3200000 in
theorem ccheck_lo (L S : Int) (n lo : Nat) (es : List E3) (v : Value) (w : World) (hr : Row w v es.length (ce es)) (hok : okEs es) (hc : chk L S es = 0) (hlo : lo ≤ n) (hn : n ≤ 4096) :
    Calls Tryz.prog 32 #[.agg #[.int .i64 L, .int .i64 S, v], .int .i64 (lo : Int), .int .i64 (n : Int)] w (Ret w (.int .i64 0)) := by
  have s0 := (Below.refl w.heap.size w).alloc (Nat.le_refl _) (.cells #[.int .i64 L, .int .i64 S, v] 24)
  have hck := check_any L S es v _ (hr.below s0 (Nat.le_refl _)) hok
  rw [hc] at hck
  have t1 : decide ((n : Int) < (lo : Int)) = false := decide_eq_false (by omega)
  have t2 : decide (4096 < (n : Int)) = false := decide_eq_false (by omega)
  have t3 : ¬ (n : Int) < (lo : Int) := by omega
  have b0 := Blk.new w 24 [.int .i64 L, .int .i64 S, v]
  have x0 := b0.cell (j := 0) rfl
  have x1 := b0.cell (j := 1) rfl
  have x2 := b0.cell (j := 2) rfl
  have HCK := Lib.hid hck; clear hck
  have S0 := Lib.hid s0; clear s0
  clear hr hok hc b0
  go_enter Tryz.func32, Tryz.ntmps32
  go_wp2_with fail
  go_at_call 31
  refine HCK.out.mono ?_
  rintro e w1 ⟨hq, rfl⟩
  have HQ := Lib.hid hq; clear hq
  go_wp2_with fail
  go_ret
  exact ⟨S0.out.trans (HQ.out.mono S0.out.size), rfl⟩
structure DivIt (N : Nat) where
  x : Nat × Int
  d1 : 1 ≤ x.1
  dN : x.1 ≤ N
  s1 : -1 ≤ x.2
  s2 : x.2 ≤ 1
theorem divL_in (N : Nat) : ∃ L : List (DivIt N), L.map (fun x => x.x) = divL N N := by
  have hp : ∀ x ∈ divL N N, 1 ≤ x.1 ∧ x.1 ≤ N ∧ -1 ≤ x.2 ∧ x.2 ≤ 1 := fun x hx => by
    obtain ⟨j, hj, rfl⟩ := List.mem_map.1 hx
    have := List.mem_range.1 (List.mem_filter.1 hj).1
    have := mu_le (N / (j + 1))
    exact ⟨by simp, by simp; omega, this.1, this.2⟩
  generalize divL N N = l at hp
  induction l with
  | nil => exact ⟨[], rfl⟩
  | cons a l ih =>
    obtain ⟨L, hL⟩ := ih (fun x hx => hp x (by simp [hx]))
    obtain ⟨h1, h2, h3, h4⟩ := hp a (by simp)
    exact ⟨⟨a, h1, h2, h3, h4⟩ :: L, by rw [List.map_cons, hL]⟩
theorem divL_length_le (N j : Nat) : (divL N j).length ≤ j := by
  unfold divL
  rw [List.length_map]
  exact Nat.le_trans (List.length_filter_le _ _) (by simp)
/-- The sum over divisors, as far as it is built. -/
def oS {α : Type} (f : Nat → Int) (en : α → Nat × Int) (pre : List α) : Int := (pre.map fun x => (en x).2 * f (en x).1).sum
theorem oS_snoc {α : Type} (f : Nat → Int) (en : α → Nat × Int) (pre : List α) (x : α) : oS f en (pre ++ [x]) = oS f en pre + (en x).2 * f (en x).1 := by
  simp [oS]
theorem oS_sm {p N : Nat} {f : Nat → Int} (hf : ∀ d, d ≤ N → sm p (f d)) (hN : N ≤ 4096) (pre : List (DivIt N)) (hl : pre.length ≤ N) : sm (p + 2) (oS f (fun x : DivIt N => x.x) pre) := by
  have h1 : ∀ z ∈ (pre.map fun x => x.x.2 * f x.x.1), sm p z := fun z hz => by
    obtain ⟨x, -, rfl⟩ := List.mem_map.1 hz
    have h := hf x.x.1 x.dN
    have hs1 := x.s1
    have hs2 := x.s2
    unfold sm at *
    rw [Int.natAbs_mul]
    have : x.x.2.natAbs ≤ 1 := by omega
    calc x.x.2.natAbs * (f x.x.1).natAbs ≤ 1 * (f x.x.1).natAbs := Nat.mul_le_mul_right _ this
      _ < 256 ^ p := by omega
  have h2 := sm_sum h1
  rw [List.length_map] at h2
  show ((pre.map fun x : DivIt N => x.x.2 * f x.x.1).sum).natAbs < 256 ^ (p + 2)
  have h3 : 256 ^ (p + 2) = 65536 * 256 ^ p := by rw [Nat.pow_add, Nat.mul_comm]
  have h4 : 0 < 256 ^ p := Nat.pow_pos (by decide)
  have h5 : pre.length * 256 ^ p ≤ 4096 * 256 ^ p := Nat.mul_le_mul_right _ (by omega)
  rw [h3]
  omega
theorem clN_sm {es : List E3} (hl : es.length ≤ 1024) {S : Nat} (hS : S ≤ 32) {n N : Nat} (hn : n ≤ N) : sm (2 * N + 2) (clN es S n) := by
  refine sm_sum' (p := 2 * N + 1) (fun z hz => ?_) (by simp; omega)
  obtain ⟨k, -, rfl⟩ := List.mem_map.1 hz
  have h1 := cw_nonneg es (ind (k : Int)) n (k : Int)
  have h2 := cw_le_len es (ind (k : Int)) n (k : Int)
  have h3 : es.length ^ n ≤ (256 ^ 2) ^ n := Nat.pow_le_pow_left (by omega) n
  rw [← Nat.pow_mul] at h3
  unfold sm
  have h4 : 256 ^ (2 * n) < 256 ^ (2 * N + 1) := Nat.pow_lt_pow_right (by decide) (by omega)
  omega
end Go.Proofs.YthpgeeaccmgbkaaGreat

