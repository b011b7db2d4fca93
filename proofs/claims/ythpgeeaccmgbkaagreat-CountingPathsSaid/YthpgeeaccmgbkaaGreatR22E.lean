/- The refusals of grooveref22.Paths, From, Closed, Orbits. -/
import Derived.Test.YthpgeeaccmgbkaaGreatRBack
import Derived.Test.YthpgeeaccmgbkaaGreatRChk
namespace Go.Proofs.YthpgeeaccmgbkaaGreat
open Go.RowKit

theorem intv_zero : IntV 0 = .agg #[.bool false, .string ⟨#[]⟩] := by rw [IntV, ineg_zero, imag_zero]
/-- Why a graph and a length are refused. -/
def errN (L S : Int) (es : List E3) (lo n : Int) : Int := if chk L S es ≠ 0 then 1 else if n < lo ∨ 4096 < n then 2 else 0
theorem errN_one {L S : Int} {es : List E3} {lo n : Int} (h : chk L S es ≠ 0) : errN L S es lo n = 1 := if_pos h
theorem errN_two {L S : Int} {es : List E3} {lo n : Int} (h : chk L S es = 0) (hn : n < lo ∨ 4096 < n) : errN L S es lo n = 2 := by rw [errN, if_neg (by simp [h]), if_pos hn]
theorem errN_ok {L S : Int} {es : List E3} {lo n : Int} (h : chk L S es = 0) (hn : ¬ (n < lo ∨ 4096 < n)) : errN L S es lo n = 0 := by rw [errN, if_neg (by simp [h]), if_neg hn]
set_option maxRecDepth 100000 in
set_option maxHeartbeats 3200000 in
theorem rpaths_e1 (L S : Int) (s t n : Int) (es : List E3) (v : Value) (w : World) (hr : Row w v es.length (ce es)) (hne : chk L S es ≠ 0) :
    Calls Tryz.prog 9 #[.agg #[.int .i64 L, .int .i64 S, v], .int .i64 s, .int .i64 t, .int .i64 n] w (Ret w (.tuple #[IntV 0, .int .i64 1])) := by
  have s0 := ((Below.refl w.heap.size w).alloc (Nat.le_refl _) (.cells #[.int .i64 L, .int .i64 S, v] 24)).alloc (by simp) (.cells #[.bool false, .string ⟨#[]⟩] 28)
  have b0 := (Blk.new w 24 [.int .i64 L, .int .i64 S, v]).alloc (.cells #[.bool false, .string ⟨#[]⟩] 28)
  have b1 := Blk.new (w.alloc (.cells #[.int .i64 L, .int .i64 S, v] 24)) 28 [.bool false, .string ⟨#[]⟩]
  simp only [World.size_alloc] at b1
  have hck := rcheck_any L S es v _ (hr.below s0 (Nat.le_refl _))
  obtain ⟨c, hc⟩ : ∃ c, c = chk L S es := ⟨_, rfl⟩
  rw [← hc] at hck
  have x0 := b0.cell (j := 0) rfl
  have x1 := b0.cell (j := 1) rfl
  have x2 := b0.cell (j := 2) rfl
  have hnw : w.heap.size < w.heap.size + 1 := by omega
  rw [← hc] at hne
  have hn2 : (c != 0) = true := by simpa using hne
  have HCK := Lib.hid hck; clear hck
  have S0 := Lib.hid s0; clear s0
  have B0 := Lib.hid b0; clear b0
  have B1 := Lib.hid b1; clear b1
  clear hr
  clear hc
  go_enter Tryz.func9, Tryz.ntmps9
  go_wp2_with fail
  go_at_call 35
  refine HCK.out.mono ?_
  rintro e w1 ⟨hq, rfl⟩
  clear x0 x1 x2
  have k0 := B0.out.keep hq
  have y0 := k0.cell (j := 0) rfl
  have y1 := k0.cell (j := 1) rfl
  have y2 := k0.cell (j := 2) rfl
  have k1 := B1.out.keep hq
  have z0 := k1.cell (j := 0) rfl
  have z1 := k1.cell (j := 1) rfl
  have f0 := k1.frozen 0
  have f1 := k1.frozen 1
  clear k1
  have s1 := S0.out.trans (hq.mono S0.out.size)
  have S1 := Lib.hid s1; clear s1
  clear k0 hq
  go_wp2_with fail
  refine bodyPost_ret (v := .tuple #[.agg #[.bool false, .string ⟨#[]⟩], .int .i64 1]) (by simp [results, Tryz.results9, go_sem, z0, z1]) rfl ⟨(S1.out.setCell (p := ⟨w.heap.size + 1, 0, none⟩) (Nat.le_succ _) _).setCell (p := ⟨w.heap.size + 1, 1, none⟩) (Nat.le_succ _) _, by rw [intv_zero]⟩
set_option maxRecDepth 100000 in
set_option maxHeartbeats 3200000 in
theorem rpaths_e2 (L S : Int) (s t n : Int) (es : List E3) (v : Value) (w : World) (hr : Row w v es.length (ce es)) (hc0 : chk L S es = 0) (hb : s < 0 ∨ S ≤ s ∨ t < 0 ∨ S ≤ t) :
    Calls Tryz.prog 9 #[.agg #[.int .i64 L, .int .i64 S, v], .int .i64 s, .int .i64 t, .int .i64 n] w (Ret w (.tuple #[IntV 0, .int .i64 25])) := by
  have s0 := ((Below.refl w.heap.size w).alloc (Nat.le_refl _) (.cells #[.int .i64 L, .int .i64 S, v] 24)).alloc (by simp) (.cells #[.bool false, .string ⟨#[]⟩] 28)
  have b0 := (Blk.new w 24 [.int .i64 L, .int .i64 S, v]).alloc (.cells #[.bool false, .string ⟨#[]⟩] 28)
  have b1 := Blk.new (w.alloc (.cells #[.int .i64 L, .int .i64 S, v] 24)) 28 [.bool false, .string ⟨#[]⟩]
  simp only [World.size_alloc] at b1
  have hck := rcheck_any L S es v _ (hr.below s0 (Nat.le_refl _))
  obtain ⟨c, hc⟩ : ∃ c, c = chk L S es := ⟨_, rfl⟩
  rw [← hc] at hck
  have x0 := b0.cell (j := 0) rfl
  have x1 := b0.cell (j := 1) rfl
  have x2 := b0.cell (j := 2) rfl
  have hnw : w.heap.size < w.heap.size + 1 := by omega
  rw [hc0] at hc
  subst hc
  have hb2 : s < 0 ∨ (¬ s < 0 ∧ S ≤ s) ∨ (¬ s < 0 ∧ ¬ S ≤ s ∧ t < 0) ∨ (¬ s < 0 ∧ ¬ S ≤ s ∧ ¬ t < 0 ∧ S ≤ t) := by omega
  have HCK := Lib.hid hck; clear hck
  have S0 := Lib.hid s0; clear s0
  have B0 := Lib.hid b0; clear b0
  have B1 := Lib.hid b1; clear b1
  clear hr
  clear hb hc0
  go_enter Tryz.func9, Tryz.ntmps9
  go_wp2_with fail
  go_at_call 35
  refine HCK.out.mono ?_
  rintro e w1 ⟨hq, rfl⟩
  clear x0 x1 x2
  have k0 := B0.out.keep hq
  have y0 := k0.cell (j := 0) rfl
  have y1 := k0.cell (j := 1) rfl
  have y2 := k0.cell (j := 2) rfl
  have k1 := B1.out.keep hq
  have z0 := k1.cell (j := 0) rfl
  have z1 := k1.cell (j := 1) rfl
  have f0 := k1.frozen 0
  have f1 := k1.frozen 1
  clear k1
  have s1 := S0.out.trans (hq.mono S0.out.size)
  have S1 := Lib.hid s1; clear s1
  clear k0 hq
  rcases hb2 with hb | ⟨h1, hb⟩ | ⟨h1, h2, hb⟩ | ⟨h1, h2, h3, hb⟩
  · go_wp2_with fail
    refine bodyPost_ret (v := .tuple #[.agg #[.bool false, .string ⟨#[]⟩], .int .i64 25]) (by simp [results, Tryz.results9, go_sem, z0, z1]) rfl ⟨(S1.out.setCell (p := ⟨w.heap.size + 1, 0, none⟩) (Nat.le_succ _) _).setCell (p := ⟨w.heap.size + 1, 1, none⟩) (Nat.le_succ _) _, by rw [intv_zero]⟩
  · go_wp2_with fail
    refine bodyPost_ret (v := .tuple #[.agg #[.bool false, .string ⟨#[]⟩], .int .i64 25]) (by simp [results, Tryz.results9, go_sem, z0, z1]) rfl ⟨(S1.out.setCell (p := ⟨w.heap.size + 1, 0, none⟩) (Nat.le_succ _) _).setCell (p := ⟨w.heap.size + 1, 1, none⟩) (Nat.le_succ _) _, by rw [intv_zero]⟩
  · go_wp2_with fail
    refine bodyPost_ret (v := .tuple #[.agg #[.bool false, .string ⟨#[]⟩], .int .i64 25]) (by simp [results, Tryz.results9, go_sem, z0, z1]) rfl ⟨(S1.out.setCell (p := ⟨w.heap.size + 1, 0, none⟩) (Nat.le_succ _) _).setCell (p := ⟨w.heap.size + 1, 1, none⟩) (Nat.le_succ _) _, by rw [intv_zero]⟩
  · go_wp2_with fail
    refine bodyPost_ret (v := .tuple #[.agg #[.bool false, .string ⟨#[]⟩], .int .i64 25]) (by simp [results, Tryz.results9, go_sem, z0, z1]) rfl ⟨(S1.out.setCell (p := ⟨w.heap.size + 1, 0, none⟩) (Nat.le_succ _) _).setCell (p := ⟨w.heap.size + 1, 1, none⟩) (Nat.le_succ _) _, by rw [intv_zero]⟩
set_option maxRecDepth 100000 in
set_option maxHeartbeats 3200000 in
theorem rpaths_e3 (L S : Int) (s t n : Int) (es : List E3) (v : Value) (w : World) (hr : Row w v es.length (ce es)) (hc0 : chk L S es = 0) (hs : ¬ (s < 0 ∨ S ≤ s ∨ t < 0 ∨ S ≤ t)) (hb : n < 0 ∨ 4096 < n) :
    Calls Tryz.prog 9 #[.agg #[.int .i64 L, .int .i64 S, v], .int .i64 s, .int .i64 t, .int .i64 n] w (Ret w (.tuple #[IntV 0, .int .i64 2])) := by
  have s0 := ((Below.refl w.heap.size w).alloc (Nat.le_refl _) (.cells #[.int .i64 L, .int .i64 S, v] 24)).alloc (by simp) (.cells #[.bool false, .string ⟨#[]⟩] 28)
  have b0 := (Blk.new w 24 [.int .i64 L, .int .i64 S, v]).alloc (.cells #[.bool false, .string ⟨#[]⟩] 28)
  have b1 := Blk.new (w.alloc (.cells #[.int .i64 L, .int .i64 S, v] 24)) 28 [.bool false, .string ⟨#[]⟩]
  simp only [World.size_alloc] at b1
  have hck := rcheck_any L S es v _ (hr.below s0 (Nat.le_refl _))
  obtain ⟨c, hc⟩ : ∃ c, c = chk L S es := ⟨_, rfl⟩
  rw [← hc] at hck
  have x0 := b0.cell (j := 0) rfl
  have x1 := b0.cell (j := 1) rfl
  have x2 := b0.cell (j := 2) rfl
  have hnw : w.heap.size < w.heap.size + 1 := by omega
  rw [hc0] at hc
  subst hc
  have h1 : ¬ s < 0 := by omega
  have h2 : ¬ S ≤ s := by omega
  have h3 : ¬ t < 0 := by omega
  have h4 : ¬ S ≤ t := by omega
  have hb2 : n < 0 ∨ (¬ n < 0 ∧ 4096 < n) := by omega
  have HCK := Lib.hid hck; clear hck
  have S0 := Lib.hid s0; clear s0
  have B0 := Lib.hid b0; clear b0
  have B1 := Lib.hid b1; clear b1
  clear hr
  clear hb hc0 hs
  go_enter Tryz.func9, Tryz.ntmps9
  go_wp2_with fail
  go_at_call 35
  refine HCK.out.mono ?_
  rintro e w1 ⟨hq, rfl⟩
  clear x0 x1 x2
  have k0 := B0.out.keep hq
  have y0 := k0.cell (j := 0) rfl
  have y1 := k0.cell (j := 1) rfl
  have y2 := k0.cell (j := 2) rfl
  have k1 := B1.out.keep hq
  have z0 := k1.cell (j := 0) rfl
  have z1 := k1.cell (j := 1) rfl
  have f0 := k1.frozen 0
  have f1 := k1.frozen 1
  clear k1
  have s1 := S0.out.trans (hq.mono S0.out.size)
  have S1 := Lib.hid s1; clear s1
  clear k0 hq
  rcases hb2 with hb | ⟨h5, hb⟩
  · go_wp2_with fail
    refine bodyPost_ret (v := .tuple #[.agg #[.bool false, .string ⟨#[]⟩], .int .i64 2]) (by simp [results, Tryz.results9, go_sem, z0, z1]) rfl ⟨(S1.out.setCell (p := ⟨w.heap.size + 1, 0, none⟩) (Nat.le_succ _) _).setCell (p := ⟨w.heap.size + 1, 1, none⟩) (Nat.le_succ _) _, by rw [intv_zero]⟩
  · go_wp2_with fail
    refine bodyPost_ret (v := .tuple #[.agg #[.bool false, .string ⟨#[]⟩], .int .i64 2]) (by simp [results, Tryz.results9, go_sem, z0, z1]) rfl ⟨(S1.out.setCell (p := ⟨w.heap.size + 1, 0, none⟩) (Nat.le_succ _) _).setCell (p := ⟨w.heap.size + 1, 1, none⟩) (Nat.le_succ _) _, by rw [intv_zero]⟩
set_option maxRecDepth 100000 in
set_option maxHeartbeats 3200000 in
theorem rclosed_e1 (L S : Int) (n : Int) (es : List E3) (v : Value) (w : World) (hr : Row w v es.length (ce es)) (hne : chk L S es ≠ 0) :
    Calls Tryz.prog 15 #[.agg #[.int .i64 L, .int .i64 S, v], .int .i64 n] w (Ret w (.tuple #[IntV 0, .int .i64 1])) := by
  have s0 := ((Below.refl w.heap.size w).alloc (Nat.le_refl _) (.cells #[.int .i64 L, .int .i64 S, v] 24)).alloc (by simp) (.cells #[.bool false, .string ⟨#[]⟩] 28)
  have b0 := (Blk.new w 24 [.int .i64 L, .int .i64 S, v]).alloc (.cells #[.bool false, .string ⟨#[]⟩] 28)
  have b1 := Blk.new (w.alloc (.cells #[.int .i64 L, .int .i64 S, v] 24)) 28 [.bool false, .string ⟨#[]⟩]
  simp only [World.size_alloc] at b1
  have hck := rcheck_any L S es v _ (hr.below s0 (Nat.le_refl _))
  obtain ⟨c, hc⟩ : ∃ c, c = chk L S es := ⟨_, rfl⟩
  rw [← hc] at hck
  have x0 := b0.cell (j := 0) rfl
  have x1 := b0.cell (j := 1) rfl
  have x2 := b0.cell (j := 2) rfl
  have hnw : w.heap.size < w.heap.size + 1 := by omega
  rw [← hc] at hne
  have hn2 : (c != 0) = true := by simpa using hne
  have HCK := Lib.hid hck; clear hck
  have S0 := Lib.hid s0; clear s0
  have B0 := Lib.hid b0; clear b0
  have B1 := Lib.hid b1; clear b1
  clear hr
  clear hc
  go_enter Tryz.func15, Tryz.ntmps15
  go_wp2_with fail
  go_at_call 35
  refine HCK.out.mono ?_
  rintro e w1 ⟨hq, rfl⟩
  clear x0 x1 x2
  have k0 := B0.out.keep hq
  have y0 := k0.cell (j := 0) rfl
  have y1 := k0.cell (j := 1) rfl
  have y2 := k0.cell (j := 2) rfl
  have k1 := B1.out.keep hq
  have z0 := k1.cell (j := 0) rfl
  have z1 := k1.cell (j := 1) rfl
  have f0 := k1.frozen 0
  have f1 := k1.frozen 1
  clear k1
  have s1 := S0.out.trans (hq.mono S0.out.size)
  have S1 := Lib.hid s1; clear s1
  clear k0 hq
  go_wp2_with fail
  refine bodyPost_ret (v := .tuple #[.agg #[.bool false, .string ⟨#[]⟩], .int .i64 1]) (by simp [results, Tryz.results15, go_sem, z0, z1]) rfl ⟨(S1.out.setCell (p := ⟨w.heap.size + 1, 0, none⟩) (Nat.le_succ _) _).setCell (p := ⟨w.heap.size + 1, 1, none⟩) (Nat.le_succ _) _, by rw [intv_zero]⟩
set_option maxRecDepth 100000 in
set_option maxHeartbeats 3200000 in
theorem rclosed_e2 (L S : Int) (n : Int) (es : List E3) (v : Value) (w : World) (hr : Row w v es.length (ce es)) (hc0 : chk L S es = 0) (hb : n < 0 ∨ 4096 < n) :
    Calls Tryz.prog 15 #[.agg #[.int .i64 L, .int .i64 S, v], .int .i64 n] w (Ret w (.tuple #[IntV 0, .int .i64 2])) := by
  have s0 := ((Below.refl w.heap.size w).alloc (Nat.le_refl _) (.cells #[.int .i64 L, .int .i64 S, v] 24)).alloc (by simp) (.cells #[.bool false, .string ⟨#[]⟩] 28)
  have b0 := (Blk.new w 24 [.int .i64 L, .int .i64 S, v]).alloc (.cells #[.bool false, .string ⟨#[]⟩] 28)
  have b1 := Blk.new (w.alloc (.cells #[.int .i64 L, .int .i64 S, v] 24)) 28 [.bool false, .string ⟨#[]⟩]
  simp only [World.size_alloc] at b1
  have hck := rcheck_any L S es v _ (hr.below s0 (Nat.le_refl _))
  obtain ⟨c, hc⟩ : ∃ c, c = chk L S es := ⟨_, rfl⟩
  rw [← hc] at hck
  have x0 := b0.cell (j := 0) rfl
  have x1 := b0.cell (j := 1) rfl
  have x2 := b0.cell (j := 2) rfl
  have hnw : w.heap.size < w.heap.size + 1 := by omega
  rw [hc0] at hc
  subst hc
  have hb2 : n < 0 ∨ (¬ n < 0 ∧ 4096 < n) := by omega
  have HCK := Lib.hid hck; clear hck
  have S0 := Lib.hid s0; clear s0
  have B0 := Lib.hid b0; clear b0
  have B1 := Lib.hid b1; clear b1
  clear hr
  clear hb hc0
  go_enter Tryz.func15, Tryz.ntmps15
  go_wp2_with fail
  go_at_call 35
  refine HCK.out.mono ?_
  rintro e w1 ⟨hq, rfl⟩
  clear x0 x1 x2
  have k0 := B0.out.keep hq
  have y0 := k0.cell (j := 0) rfl
  have y1 := k0.cell (j := 1) rfl
  have y2 := k0.cell (j := 2) rfl
  have k1 := B1.out.keep hq
  have z0 := k1.cell (j := 0) rfl
  have z1 := k1.cell (j := 1) rfl
  have f0 := k1.frozen 0
  have f1 := k1.frozen 1
  clear k1
  have s1 := S0.out.trans (hq.mono S0.out.size)
  have S1 := Lib.hid s1; clear s1
  clear k0 hq
  rcases hb2 with hb | ⟨h5, hb⟩
  · go_wp2_with fail
    refine bodyPost_ret (v := .tuple #[.agg #[.bool false, .string ⟨#[]⟩], .int .i64 2]) (by simp [results, Tryz.results15, go_sem, z0, z1]) rfl ⟨(S1.out.setCell (p := ⟨w.heap.size + 1, 0, none⟩) (Nat.le_succ _) _).setCell (p := ⟨w.heap.size + 1, 1, none⟩) (Nat.le_succ _) _, by rw [intv_zero]⟩
  · go_wp2_with fail
    refine bodyPost_ret (v := .tuple #[.agg #[.bool false, .string ⟨#[]⟩], .int .i64 2]) (by simp [results, Tryz.results15, go_sem, z0, z1]) rfl ⟨(S1.out.setCell (p := ⟨w.heap.size + 1, 0, none⟩) (Nat.le_succ _) _).setCell (p := ⟨w.heap.size + 1, 1, none⟩) (Nat.le_succ _) _, by rw [intv_zero]⟩
set_option maxRecDepth 100000 in
set_option maxHeartbeats 3200000 in
theorem rorbits_e1 (L S : Int) (n : Int) (es : List E3) (v : Value) (w : World) (hr : Row w v es.length (ce es)) (hne : chk L S es ≠ 0) :
    Calls Tryz.prog 17 #[.agg #[.int .i64 L, .int .i64 S, v], .int .i64 n] w (Ret w (.tuple #[IntV 0, .int .i64 1])) := by
  have s0 := ((Below.refl w.heap.size w).alloc (Nat.le_refl _) (.cells #[.int .i64 L, .int .i64 S, v] 24)).alloc (by simp) (.cells #[.bool false, .string ⟨#[]⟩] 28)
  have b0 := (Blk.new w 24 [.int .i64 L, .int .i64 S, v]).alloc (.cells #[.bool false, .string ⟨#[]⟩] 28)
  have b1 := Blk.new (w.alloc (.cells #[.int .i64 L, .int .i64 S, v] 24)) 28 [.bool false, .string ⟨#[]⟩]
  simp only [World.size_alloc] at b1
  have hck := rcheck_any L S es v _ (hr.below s0 (Nat.le_refl _))
  obtain ⟨c, hc⟩ : ∃ c, c = chk L S es := ⟨_, rfl⟩
  rw [← hc] at hck
  have x0 := b0.cell (j := 0) rfl
  have x1 := b0.cell (j := 1) rfl
  have x2 := b0.cell (j := 2) rfl
  have hnw : w.heap.size < w.heap.size + 1 := by omega
  rw [← hc] at hne
  have hn2 : (c != 0) = true := by simpa using hne
  have HCK := Lib.hid hck; clear hck
  have S0 := Lib.hid s0; clear s0
  have B0 := Lib.hid b0; clear b0
  have B1 := Lib.hid b1; clear b1
  clear hr
  clear hc
  go_enter Tryz.func17, Tryz.ntmps17
  go_wp2_with fail
  go_at_call 35
  refine HCK.out.mono ?_
  rintro e w1 ⟨hq, rfl⟩
  clear x0 x1 x2
  have k0 := B0.out.keep hq
  have y0 := k0.cell (j := 0) rfl
  have y1 := k0.cell (j := 1) rfl
  have y2 := k0.cell (j := 2) rfl
  have k1 := B1.out.keep hq
  have z0 := k1.cell (j := 0) rfl
  have z1 := k1.cell (j := 1) rfl
  have f0 := k1.frozen 0
  have f1 := k1.frozen 1
  clear k1
  have s1 := S0.out.trans (hq.mono S0.out.size)
  have S1 := Lib.hid s1; clear s1
  clear k0 hq
  go_wp2_with fail
  refine bodyPost_ret (v := .tuple #[.agg #[.bool false, .string ⟨#[]⟩], .int .i64 1]) (by simp [results, Tryz.results17, go_sem, z0, z1]) rfl ⟨(S1.out.setCell (p := ⟨w.heap.size + 1, 0, none⟩) (Nat.le_succ _) _).setCell (p := ⟨w.heap.size + 1, 1, none⟩) (Nat.le_succ _) _, by rw [intv_zero]⟩
set_option maxRecDepth 100000 in
set_option maxHeartbeats 3200000 in
theorem rorbits_e2 (L S : Int) (n : Int) (es : List E3) (v : Value) (w : World) (hr : Row w v es.length (ce es)) (hc0 : chk L S es = 0) (hb : n < 1 ∨ 4096 < n) :
    Calls Tryz.prog 17 #[.agg #[.int .i64 L, .int .i64 S, v], .int .i64 n] w (Ret w (.tuple #[IntV 0, .int .i64 2])) := by
  have s0 := ((Below.refl w.heap.size w).alloc (Nat.le_refl _) (.cells #[.int .i64 L, .int .i64 S, v] 24)).alloc (by simp) (.cells #[.bool false, .string ⟨#[]⟩] 28)
  have b0 := (Blk.new w 24 [.int .i64 L, .int .i64 S, v]).alloc (.cells #[.bool false, .string ⟨#[]⟩] 28)
  have b1 := Blk.new (w.alloc (.cells #[.int .i64 L, .int .i64 S, v] 24)) 28 [.bool false, .string ⟨#[]⟩]
  simp only [World.size_alloc] at b1
  have hck := rcheck_any L S es v _ (hr.below s0 (Nat.le_refl _))
  obtain ⟨c, hc⟩ : ∃ c, c = chk L S es := ⟨_, rfl⟩
  rw [← hc] at hck
  have x0 := b0.cell (j := 0) rfl
  have x1 := b0.cell (j := 1) rfl
  have x2 := b0.cell (j := 2) rfl
  have hnw : w.heap.size < w.heap.size + 1 := by omega
  rw [hc0] at hc
  subst hc
  have hb2 : n < 1 ∨ (¬ n < 1 ∧ 4096 < n) := by omega
  have HCK := Lib.hid hck; clear hck
  have S0 := Lib.hid s0; clear s0
  have B0 := Lib.hid b0; clear b0
  have B1 := Lib.hid b1; clear b1
  clear hr
  clear hb hc0
  go_enter Tryz.func17, Tryz.ntmps17
  go_wp2_with fail
  go_at_call 35
  refine HCK.out.mono ?_
  rintro e w1 ⟨hq, rfl⟩
  clear x0 x1 x2
  have k0 := B0.out.keep hq
  have y0 := k0.cell (j := 0) rfl
  have y1 := k0.cell (j := 1) rfl
  have y2 := k0.cell (j := 2) rfl
  have k1 := B1.out.keep hq
  have z0 := k1.cell (j := 0) rfl
  have z1 := k1.cell (j := 1) rfl
  have f0 := k1.frozen 0
  have f1 := k1.frozen 1
  clear k1
  have s1 := S0.out.trans (hq.mono S0.out.size)
  have S1 := Lib.hid s1; clear s1
  clear k0 hq
  rcases hb2 with hb | ⟨h5, hb⟩
  · go_wp2_with fail
    refine bodyPost_ret (v := .tuple #[.agg #[.bool false, .string ⟨#[]⟩], .int .i64 2]) (by simp [results, Tryz.results17, go_sem, z0, z1]) rfl ⟨(S1.out.setCell (p := ⟨w.heap.size + 1, 0, none⟩) (Nat.le_succ _) _).setCell (p := ⟨w.heap.size + 1, 1, none⟩) (Nat.le_succ _) _, by rw [intv_zero]⟩
  · go_wp2_with fail
    refine bodyPost_ret (v := .tuple #[.agg #[.bool false, .string ⟨#[]⟩], .int .i64 2]) (by simp [results, Tryz.results17, go_sem, z0, z1]) rfl ⟨(S1.out.setCell (p := ⟨w.heap.size + 1, 0, none⟩) (Nat.le_succ _) _).setCell (p := ⟨w.heap.size + 1, 1, none⟩) (Nat.le_succ _) _, by rw [intv_zero]⟩
/-- A list of numbers and why it is empty. -/
def LstRet (l : List Int) (c : Int) (w : World) (e : Ending) (w' : World) : Prop := Below w.heap.size w w' ∧ ∃ u, e = .returned (.tuple #[u, .int .i64 c]) ∧ Row w' u l.length (civ l)
set_option maxRecDepth 100000 in
set_option maxHeartbeats 3200000 in
theorem rfrom_e1 (L S : Int) (n : Int) (es : List E3) (v : Value) (w : World) (hr : Row w v es.length (ce es)) (hne : chk L S es ≠ 0) :
    Calls Tryz.prog 11 #[.agg #[.int .i64 L, .int .i64 S, v], .int .i64 n] w (LstRet [] 1 w) := by
  have s0 := (Below.refl w.heap.size w).alloc (Nat.le_refl _) (.cells #[.int .i64 L, .int .i64 S, v] 24)
  have b0 := Blk.new w 24 [.int .i64 L, .int .i64 S, v]
  have hck := rcheck_any L S es v _ (hr.below s0 (Nat.le_refl _))
  obtain ⟨c, hc⟩ : ∃ c, c = chk L S es := ⟨_, rfl⟩
  rw [← hc] at hck
  have x0 := b0.cell (j := 0) rfl
  have x1 := b0.cell (j := 1) rfl
  have x2 := b0.cell (j := 2) rfl
  rw [← hc] at hne
  have hn2 : (c != 0) = true := by simpa using hne
  have HCK := Lib.hid hck; clear hck
  have S0 := Lib.hid s0; clear s0
  have B0 := Lib.hid b0; clear b0
  clear hr
  clear hc
  go_enter Tryz.func11, Tryz.ntmps11
  go_wp2_with fail
  go_at_call 35
  refine HCK.out.mono ?_
  rintro e w1 ⟨hq, rfl⟩
  clear x0 x1 x2
  have k0 := B0.out.keep hq
  have y0 := k0.cell (j := 0) rfl
  have y1 := k0.cell (j := 1) rfl
  have y2 := k0.cell (j := 2) rfl
  have s1 := S0.out.trans (hq.mono S0.out.size)
  have S1 := Lib.hid s1; clear s1
  clear k0 hq
  go_wp2_with fail
  refine bodyPost_ret (v := .tuple #[.slice (some ⟨w1.heap.size, 0, none⟩) 0 0, .int .i64 1]) (by simp [results, Tryz.results11, go_sem]) rfl ⟨S1.out.alloc S1.out.size _, _, rfl, Row.ofBlk (Blk.new w1 28 []) (m := 0) (cap := 0) (Nat.le_refl _) (by unfold maxLen; omega) 0⟩
set_option maxRecDepth 100000 in
set_option maxHeartbeats 3200000 in
theorem rfrom_e2 (L S : Int) (n : Int) (es : List E3) (v : Value) (w : World) (hr : Row w v es.length (ce es)) (hc0 : chk L S es = 0) (hb : n < 0 ∨ 4096 < n) :
    Calls Tryz.prog 11 #[.agg #[.int .i64 L, .int .i64 S, v], .int .i64 n] w (LstRet [] 2 w) := by
  have s0 := (Below.refl w.heap.size w).alloc (Nat.le_refl _) (.cells #[.int .i64 L, .int .i64 S, v] 24)
  have b0 := Blk.new w 24 [.int .i64 L, .int .i64 S, v]
  have hck := rcheck_any L S es v _ (hr.below s0 (Nat.le_refl _))
  obtain ⟨c, hc⟩ : ∃ c, c = chk L S es := ⟨_, rfl⟩
  rw [← hc] at hck
  have x0 := b0.cell (j := 0) rfl
  have x1 := b0.cell (j := 1) rfl
  have x2 := b0.cell (j := 2) rfl
  rw [hc0] at hc
  subst hc
  have hb2 : n < 0 ∨ (¬ n < 0 ∧ 4096 < n) := by omega
  have HCK := Lib.hid hck; clear hck
  have S0 := Lib.hid s0; clear s0
  have B0 := Lib.hid b0; clear b0
  clear hr
  clear hb hc0
  go_enter Tryz.func11, Tryz.ntmps11
  go_wp2_with fail
  go_at_call 35
  refine HCK.out.mono ?_
  rintro e w1 ⟨hq, rfl⟩
  clear x0 x1 x2
  have k0 := B0.out.keep hq
  have y0 := k0.cell (j := 0) rfl
  have y1 := k0.cell (j := 1) rfl
  have y2 := k0.cell (j := 2) rfl
  have s1 := S0.out.trans (hq.mono S0.out.size)
  have S1 := Lib.hid s1; clear s1
  clear k0 hq
  rcases hb2 with hb | ⟨h5, hb⟩
  · go_wp2_with fail
    refine bodyPost_ret (v := .tuple #[.slice (some ⟨w1.heap.size, 0, none⟩) 0 0, .int .i64 2]) (by simp [results, Tryz.results11, go_sem]) rfl ⟨S1.out.alloc S1.out.size _, _, rfl, Row.ofBlk (Blk.new w1 28 []) (m := 0) (cap := 0) (Nat.le_refl _) (by unfold maxLen; omega) 0⟩
  · go_wp2_with fail
    refine bodyPost_ret (v := .tuple #[.slice (some ⟨w1.heap.size, 0, none⟩) 0 0, .int .i64 2]) (by simp [results, Tryz.results11, go_sem]) rfl ⟨S1.out.alloc S1.out.size _, _, rfl, Row.ofBlk (Blk.new w1 28 []) (m := 0) (cap := 0) (Nat.le_refl _) (by unfold maxLen; omega) 0⟩
end Go.Proofs.YthpgeeaccmgbkaaGreat

