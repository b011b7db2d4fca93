/- counting.From at valid graphs and lengths: the numbers of paths from each state. -/
import Derived.Test.YthpgeeaccmgbkaaGreatPart6
namespace Go.Proofs.YthpgeeaccmgbkaaGreat
open Go.RowKit

set_option maxRecDepth 100000 in
set_option maxHeartbeats 3200000 in
theorem ones_any (L : Int) (S : Nat) (es : List E3) (v : Value) (w : World) (hS : S ≤ 64) :
  Calls Tryz.prog 71 #[.agg #[.int .i64 L, .int .i64 (S : Int), v]] w (CntRet S (rowK es S allP 0) w) := by
 have bg := Blk.new w 24 [.int .i64 L, .int .i64 (S : Int), v]
 have x1 := bg.cell (j := 1) rfl
 have s0 := (Below.refl w.heap.size w).alloc (Nat.le_refl _) (.cells #[.int .i64 L, .int .i64 (S : Int), v] 24)
 have hmk := mkI S (by omega) (S : Int) rfl
 have hof := fun w' => iof_any 1 w' (by decide) (by decide)
 have HOF := Lib.hid hof; clear hof
 have S0 := Lib.hid s0; clear s0
 clear bg
 go_enter Tryz.func71, Tryz.ntmps71
 go_wp2_with fail
 clear x1 hmk
 go_loopw [10] (fun i wr => ∃ j : Nat, j ≤ S ∧ i = .int .i64 j ∧ Below (w.heap.size + 1) (w.alloc (.cells #[.int .i64 L, .int .i64 (S : Int), v] 24)) wr ∧ Blk wr (w.heap.size + 1) 28 (civ (row0 S allP j))) (fun i _ => S - (intOf i).toNat)
 case atStart =>
  refine ⟨0, Nat.zero_le _, rfl, (Below.refl _ _).alloc (by simp) _, ?_⟩
  have h := blk_mkI (w.alloc (.cells #[.int .i64 L, .int .i64 (S : Int), v] 24)) S
  rw [World.size_alloc] at h
  rw [row0_zero]; exact h
 case round =>
  obtain ⟨j, hj, rfl, hbel, hblk⟩ := hrel
  have HB := Lib.hid hbel; clear hbel
  by_cases hlt : j < S
  ·
   have hg := row0_length S allP j
   have hst := row0_yes (p := allP) hlt rfl
   have hx : (row0 S allP j)[j]? = some ((row0 S allP j)[j]'(by omega)) := List.getElem?_eq_getElem _
   obtain ⟨x, hxx⟩ : ∃ x, x = (row0 S allP j)[j]'(by omega) := ⟨_, rfl⟩
   rw [← hxx] at hx
   obtain ⟨hx0, hx1⟩ := civ_get hx
   have hix1 : (0 : Int) ≤ (j : Int) := by omega
   have hix2 : (j : Int) < (S : Int) := by omega
   have HST := Lib.hid hst; clear hst
   have HBLK := Lib.hid hblk; clear hblk
   clear hxx hx hg
   go_wp2_with fail
   go_at_call 28
   refine (HOF.out _).mono ?_
   rintro e w2 ⟨hq2, rfl⟩
   have hk2 := HBLK.out.keep hq2
   have c0 := hk2.cell hx0
   have c1 := hk2.cell hx1
   have f0 := hk2.frozen (j * 2)
   have f1 := hk2.frozen (j * 2 + 1)
   have HQ2 := Lib.hid hq2; clear hq2
   have HK2 := Lib.hid hk2; clear hk2
   clear hx0 hx1
   go_wp2_with fail
   go_roundw
   case rel =>
    have s2 := HB.out.trans (HQ2.out.mono (by have := HB.out.size; simpa using this))
    refine ⟨j + 1, by omega, by go_num, (s2.setCell (p := ⟨w.heap.size + 1, j * 2, none⟩) (Nat.le_refl _) _).setCell (p := ⟨w.heap.size + 1, j * 2 + 1, none⟩) (Nat.le_refl _) _, ?_⟩
    rw [← HST.out, ← civ_set]
    exact (HK2.out.set _ _).set _ _
   case measure => simp [intOf]; omega
  ·
   obtain rfl : j = S := by omega
   rw [row0_full es] at hblk
   have hbw : Below w.heap.size w wr := S0.out.trans (HB.out.mono (by omega))
   have HBLK := Lib.hid hblk; clear hblk
   have HBW := Lib.hid hbw; clear hbw
   go_wp2_with fail
   go_ret
   exact ⟨HBW.out, _, rfl, HBLK.out⟩
set_option maxRecDepth 100000 in
set_option maxHeartbeats 3200000 in
theorem from1_any (e : E3) (w : World) :
  Calls Tryz.prog 72 #[.agg #[.int .i64 e.f, .int .i64 e.l, .int .i64 e.t]] w (Ret w (.tuple #[.int .i64 e.t, .int .i64 e.f])) := by
 have s0 := (Below.refl w.heap.size w).alloc (Nat.le_refl _) (.cells #[.int .i64 e.f, .int .i64 e.l, .int .i64 e.t] 53)
 have hx := Blk.new w 53 [.int .i64 e.f, .int .i64 e.l, .int .i64 e.t]
 have x0 := hx.cell (j := 0) rfl
 have x2 := hx.cell (j := 2) rfl
 have S0 := Lib.hid s0; clear s0
 clear hx
 go_enter Tryz.func72, Tryz.ntmps72
 go_wp2_with fail
 refine wp_region_held_drew (S := fun w' => w'.cell? ⟨w.heap.size, 0, none⟩ = some (.int .i64 e.f) ∧ w'.cell? ⟨w.heap.size, 2, none⟩ = some (.int .i64 e.t)) (by kernel_rfl) ?_ (fun hHeld => ?_)
 ·
  go_keep
 refine zT 0 (h := ?_)
 (try simp only [Act.put, zA, zB, zC])
 refine zT 1 (h := ?_)
 (try simp only [Act.put, zA, zB, zC])
 refine zT 2 (h := ?_)
 (try simp only [Act.put, zA, zB, zC])
 refine zT 3 (h := ?_)
 (try simp only [Act.put, zA, zB, zC])
 refine zT 4 (h := ?_)
 (try simp only [Act.put, zA, zB, zC])
 refine zT 5 (h := ?_)
 (try simp only [Act.put, zA, zB, zC])
 refine wpAnyH_done (by kernel_rfl) ?_ _
 (try simp only [List.getElem_toArray, List.getElem_cons_zero, List.getElem_cons_succ, Act.put, zA, zB, zC])
 go_wp2_with fail
 go_ret2
 exact ⟨S0.out.drew, rfl⟩
set_option maxRecDepth 100000 in
set_option maxHeartbeats 3200000 in
theorem from_any (L : Int) (S n : Nat) (es : List E3) (v : Value) (w : World) (hr : Row w v es.length (ce es)) (hS : S ≤ 64) (hn : n ≤ 4096) (hl : es.length ≤ 1024) (hin : InS S es) :
  Calls Tryz.prog 38 #[.agg #[.int .i64 L, .int .i64 (S : Int), v], .int .i64 (n : Int)] w (CntRet S (rowK es S allP n) w) := by
 obtain ⟨va, vc, rfl, hle⟩ := hr.slice
 obtain ⟨mm, hmm⟩ : ∃ mm, mm = es.length := ⟨_, rfl⟩
 have s0 := (Below.refl w.heap.size w).alloc (Nat.le_refl _) (.cells #[.int .i64 L, .int .i64 (S : Int), .slice va es.length vc] 24)
 have b0 := Blk.new w 24 [.int .i64 L, .int .i64 (S : Int), .slice va es.length vc]
 have hr0 := hr.below s0 (Nat.le_refl _)
 have hon := fun w' => ones_any L S es (.slice va es.length vc) w' hS
 have hid : es.map (fun e => e) = es := List.map_id' es
 have hct := fun bl w' (h : Row w' (.slice va es.length vc) es.length (ce es)) hb => count_any L S n bl es (.slice va es.length vc) 72 (fun e => e) allP w' h hS hn hl (by rw [hid]; exact hin) (fun args w => enters_of Tryz.func72 (by kernel_rfl) rfl args w) from1_any hb
 rw [hid] at hct
 obtain ⟨R0, hR0⟩ : ∃ R0, R0 = rowK es S allP 0 := ⟨_, rfl⟩
 obtain ⟨Rn, hRn⟩ : ∃ Rn, Rn = rowK es S allP n := ⟨_, rfl⟩
 rw [← hR0] at hon
 rw [← hR0, ← hRn] at hct
 rw [← hRn]
 rw [← hmm] at s0 b0 hr0 hle hon hct
 have HMM := Lib.hid hmm; clear hmm
 have HON := Lib.hid hon; clear hon
 have HCT := Lib.hid hct; clear hct
 have S0 := Lib.hid s0; clear s0
 have B0 := Lib.hid b0; clear b0
 have HR := Lib.hid hr0; clear hr0
 have x0 := B0.out.cell (j := 0) rfl
 have x1 := B0.out.cell (j := 1) rfl
 have x2 := B0.out.cell (j := 2) rfl
 clear hr hin hR0 hRn hid
 go_enter Tryz.func38, Tryz.ntmps38
 rw [← HMM.out]
 go_wp2_with fail
 obtain ⟨wg, hwg⟩ : ∃ wg, w.alloc (.cells #[.int .i64 L, .int .i64 (S : Int), .slice va mm vc] 24) = wg := ⟨_, rfl⟩
 have S1 := S0.out
 have B1 := B0.out
 have HR1 := HR.out
 rw [hwg] at S1 B1 HR1 x0 x1 x2
 rw [hwg]
 have hwl : w.heap.size < wg.heap.size := B1.lt
 have S2 := Lib.hid S1; clear S1
 have B2 := Lib.hid B1; clear B1
 have HR2 := Lib.hid HR1; clear HR1
 clear hwg
 refine wp_region_held_drew (S := fun w' => w'.cell? ⟨w.heap.size, 0, none⟩ = some (.int .i64 L) ∧ w'.cell? ⟨w.heap.size, 1, none⟩ = some (.int .i64 (S : Int)) ∧ w'.cell? ⟨w.heap.size, 2, none⟩ = some (.slice va mm vc)) (by kernel_rfl) ?_ (fun hHeld => ?_)
 ·
  go_keep
 refine zT 0 (h := ?_)
 (try simp only [Act.put, zA, zB, zC])
 refine zT 1 (h := ?_)
 (try simp only [Act.put, zA, zB, zC])
 refine zT 3 (h := ?_)
 (try simp only [Act.put, zA, zB, zC])
 refine zR 2 (h := fun K hK => ?_)
 go_simp
 go_at_call 71
 refine (HON.out _).mono ?_
 rintro e w3 ⟨hq, bl, rfl, hb⟩
 dsimp only
 have z0 := (hq.cell (p := ⟨w.heap.size, 0, none⟩) (show w.heap.size < wg.heap.size by omega)).trans hHeld.1
 have z1 := (hq.cell (p := ⟨w.heap.size, 1, none⟩) (show w.heap.size < wg.heap.size by omega)).trans hHeld.2.1
 have z2 := (hq.cell (p := ⟨w.heap.size, 2, none⟩) (show w.heap.size < wg.heap.size by omega)).trans hHeld.2.2
 clear hHeld
 refine hK.out _ _ ⟨z0, z1, z2⟩ (fun hHeld => ?_)
 clear hK K
 (try simp only [Act.put, zA, zB, zC])
 have s3 := S2.out.drew.trans (hq.mono S2.out.size)
 have hr3 := HR2.out.drew.below hq (Nat.le_refl _)
 have hw3 : w.heap.size < w3.heap.size := Nat.lt_of_lt_of_le hwl hq.size
 have S3 := Lib.hid s3; clear s3
 have HR3 := Lib.hid hr3; clear hr3
 have HB := Lib.hid hb; clear hb
 clear hq z0 z1 z2 x0 x1 x2
 refine zR 4 (h := fun K hK => ?_)
 go_simp
 go_at_call 33
 refine (HCT.out _ _ HR3.out HB.out).mono ?_
 rintro e w4 ⟨hq, b4, rfl, hb4⟩
 dsimp only
 have z0 := (hq.cell (p := ⟨w.heap.size, 0, none⟩) (show w.heap.size < w3.heap.size by omega)).trans hHeld.1
 have z1 := (hq.cell (p := ⟨w.heap.size, 1, none⟩) (show w.heap.size < w3.heap.size by omega)).trans hHeld.2.1
 have z2 := (hq.cell (p := ⟨w.heap.size, 2, none⟩) (show w.heap.size < w3.heap.size by omega)).trans hHeld.2.2
 clear hHeld
 refine hK.out _ _ ⟨z0, z1, z2⟩ (fun hHeld => ?_)
 clear hK K
 (try simp only [Act.put, zA, zB, zC])
 have s4 := S3.out.trans (hq.mono S3.out.size)
 have S4 := Lib.hid s4; clear s4
 have HB4 := Lib.hid hb4; clear hb4
 clear hq z0 z1 z2
 refine zT 5 (h := ?_)
 (try simp only [Act.put, zA, zB, zC])
 refine wpAnyH_done (by kernel_rfl) ?_ _
 (try simp only [List.getElem_toArray, List.getElem_cons_zero, List.getElem_cons_succ, Act.put, zA, zB, zC])
 clear hHeld
 go_wp2_with fail
 go_ret
 exact ⟨S4.out, _, rfl, HB4.out⟩
def FromRet (S : Nat) (l : List Int) (w : World) (e : Ending) (w' : World) : Prop := Below w.heap.size w w' ∧ ∃ b, e = .returned (.tuple #[.slice (some ⟨b, 0, none⟩) S S, .int .i64 0]) ∧ Blk w' b 28 (civ l)
set_option maxRecDepth 100000 in
set_option maxHeartbeats 3200000 in
theorem cfrom_ok (L : Int) (S n : Nat) (es : List E3) (v : Value) (w : World) (hr : Row w v es.length (ce es)) (hok : okEs es) (hc : chk L (S : Int) es = 0) (hn : n ≤ 4096) :
  Calls Tryz.prog 10 #[.agg #[.int .i64 L, .int .i64 (S : Int), v], .int .i64 (n : Int)] w (FromRet S (rowK es S allP n) w) := by
 obtain ⟨va, vc, rfl, hle⟩ := hr.slice
 obtain ⟨mm, hmm⟩ : ∃ mm, mm = es.length := ⟨_, rfl⟩
 have hca := chk_all hc
 have s0 := (Below.refl w.heap.size w).alloc (Nat.le_refl _) (.cells #[.int .i64 L, .int .i64 (S : Int), .slice va es.length vc] 24)
 have b0 := Blk.new w 24 [.int .i64 L, .int .i64 (S : Int), .slice va es.length vc]
 have hr0 := hr.below s0 (Nat.le_refl _)
 have hcc := ccheck_ok0 L (S : Int) n es (.slice va es.length vc) _ hr0 hok hc hn
 have hfr := fun w' (h : Row w' (.slice va es.length vc) es.length (ce es)) => from_any L S n es (.slice va es.length vc) w' h (by omega) hn (by omega) (chk_inS hc)
 obtain ⟨Rn, hRn⟩ : ∃ Rn, Rn = rowK es S allP n := ⟨_, rfl⟩
 rw [← hRn] at hfr ⊢
 rw [← hmm] at s0 b0 hr0 hle hcc hfr
 have HMM := Lib.hid hmm; clear hmm
 have HCC := Lib.hid hcc; clear hcc
 have HFR := Lib.hid hfr; clear hfr
 have S0 := Lib.hid s0; clear s0
 have B0 := Lib.hid b0; clear b0
 have HR := Lib.hid hr0; clear hr0
 clear hr hok hc hca hRn
 go_enter Tryz.func10, Tryz.ntmps10
 rw [← HMM.out]
 go_wp2_with fail
 go_at_call 32
 refine HCC.out.mono ?_
 rintro e w1 ⟨hq, rfl⟩
 have s1 := S0.out.trans (hq.mono S0.out.size)
 have hr1 := HR.out.below hq (Nat.le_refl _)
 have tk := B0.out.keep hq; have x0 := tk.cell (j := 0) rfl; have x1 := tk.cell (j := 1) rfl; have x2 := tk.cell (j := 2) rfl; have C0 := Lib.hid tk; clear tk
 have S1 := Lib.hid s1; clear s1
 have HR1 := Lib.hid hr1; clear hr1
 clear hq
 go_wp2_with fail
 go_at_call 38
 refine (HFR.out _ HR1.out).mono ?_
 rintro e w2 ⟨hq, b, rfl, hb⟩
 have HQ := Lib.hid hq; clear hq
 have HB := Lib.hid hb; clear hb
 go_wp2_with fail
 go_ret2
 exact ⟨S1.out.trans (HQ.out.mono S1.out.size), _, rfl, HB.out⟩
end Go.Proofs.YthpgeeaccmgbkaaGreat
