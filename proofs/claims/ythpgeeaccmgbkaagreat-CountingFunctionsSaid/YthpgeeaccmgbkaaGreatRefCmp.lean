/- grooveref09.Compare. -/
import Derived.BigQuiet
import Derived.Test.YthpgeeaccmgbkaaGreatPart7
import Derived.Test.YthpgeeaccmgbkaaGreatPart14
namespace Go.Proofs.YthpgeeaccmgbkaaGreat
open Go.RowKit

/-- What Compare returns. -/
def cmpR (a b : E3) : Int := if a.f < b.f then -1 else if b.f < a.f then 1 else if a.l < b.l then -1 else if b.l < a.l then 1 else if a.t < b.t then -1 else if b.t < a.t then 1 else 0
def cmp3 : List (Int × Int) → Int
 | [] => 0
 | (x, y) :: r => if x < y then -1 else if y < x then 1 else cmp3 r
theorem cmp3_eq (a b : E3) : cmpR a b = cmp3 [(a.f, b.f), (a.l, b.l), (a.t, b.t)] := rfl
set_option maxRecDepth 100000 in
set_option maxHeartbeats 1600000 in
theorem rcmpE_any (a b : E3) (w : World) :
  Calls Tryz.prog 70 #[a.val, b.val] w (Ret w (.int .i64 (cmpR a b))) := by
 have hc3 := cmp3_eq a b
 obtain ⟨C, hC⟩ : ∃ C, C = cmpR a b := ⟨_, rfl⟩
 rw [← hC] at hc3 ⊢
 have HC3 := Lib.hid hc3; clear hc3 hC
 have ba := (Blk.new w 53 [.int .i64 a.f, .int .i64 a.l, .int .i64 a.t]).alloc (.cells #[.int .i64 b.f, .int .i64 b.l, .int .i64 b.t] 53)
 have bb := Blk.new (w.alloc (.cells #[.int .i64 a.f, .int .i64 a.l, .int .i64 a.t] 53)) 53 [.int .i64 b.f, .int .i64 b.l, .int .i64 b.t]
 simp only [World.size_alloc] at bb
 have a0 := ba.cell (j := 0) rfl
 have a1 := ba.cell (j := 1) rfl
 have a2 := ba.cell (j := 2) rfl
 have b0 := bb.cell (j := 0) rfl
 have b1 := bb.cell (j := 1) rfl
 have b2 := bb.cell (j := 2) rfl
 clear ba bb
 go_enter Tryz.func70, Tryz.ntmps70
 go_wp2_with fail
 go_cut [5, 6] (fun x y wx => ∃ p q, x = .slice (some ⟨p, 0, none⟩) 3 3 ∧ y = .slice (some ⟨q, 0, none⟩) 3 3 ∧ Blk wx p 3 [.int .i64 a.f, .int .i64 a.l, .int .i64 a.t] ∧ Blk wx q 3 [.int .i64 b.f, .int .i64 b.l, .int .i64 b.t] ∧ Below w.heap.size w wx)
 case first =>
  have hA : ∀ (o1 o2 : Obj), Below w.heap.size w (((((w.alloc (.cells #[.int .i64 a.f, .int .i64 a.l, .int .i64 a.t] 53)).alloc (.cells #[.int .i64 b.f, .int .i64 b.l, .int .i64 b.t] 53)).alloc o1).alloc o2).drew) := fun o1 o2 =>
   ((((((Below.refl w.heap.size w).alloc (Nat.le_refl _) _).alloc (by simp only [World.size_alloc]; omega) _).alloc (by simp only [World.size_alloc]; omega) _).alloc (by simp only [World.size_alloc]; omega) _).drew)
  have HA := Lib.hid hA; clear hA
  obtain ⟨W, hW⟩ : ∃ W, W = (w.alloc (.cells #[.int .i64 a.f, .int .i64 a.l, .int .i64 a.t] 53)).alloc (.cells #[.int .i64 b.f, .int .i64 b.l, .int .i64 b.t] 53) := ⟨_, rfl⟩
  have hWs : W.heap.size = w.heap.size + 1 + 1 := by rw [hW]; simp
  have x1 := (Blk.new W 3 [.int .i64 a.f, .int .i64 a.l, .int .i64 a.t]).alloc (.cells #[.int .i64 b.f, .int .i64 b.l, .int .i64 b.t] 3)
  have y1 := Blk.new (W.alloc (.cells #[.int .i64 a.f, .int .i64 a.l, .int .i64 a.t] 3)) 3 [.int .i64 b.f, .int .i64 b.l, .int .i64 b.t]
  have y2 := (Blk.new W 3 [.int .i64 b.f, .int .i64 b.l, .int .i64 b.t]).alloc (.cells #[.int .i64 a.f, .int .i64 a.l, .int .i64 a.t] 3)
  have x2 := Blk.new (W.alloc (.cells #[.int .i64 b.f, .int .i64 b.l, .int .i64 b.t] 3)) 3 [.int .i64 a.f, .int .i64 a.l, .int .i64 a.t]
  simp only [World.size_alloc, hWs] at x1 y1 x2 y2
  rw [hW] at x1 y1 x2 y2
  have X1 := Lib.hid x1; clear x1
  have Y1 := Lib.hid y1; clear y1
  have X2 := Lib.hid x2; clear x2
  have Y2 := Lib.hid y2; clear y2
  clear hW hWs W
  go_region
  ·
   go_wp2_with fail
   go_meet
   exact ⟨_, _, rfl, rfl, X1.out.drew, Y1.out.drew, HA.out _ _⟩
  ·
   go_wp2_with fail
   go_meet
   exact ⟨_, _, rfl, rfl, X2.out.drew, Y2.out.drew, HA.out _ _⟩
 case rest =>
  clear a0 a1 a2 b0 b1 b2
  obtain ⟨p, q, rfl, rfl, hp, hq, hb⟩ := hcut
  have HP := Lib.hid hp; clear hp
  have HQ := Lib.hid hq; clear hq
  have HBC := Lib.hid hb; clear hb
  go_wp2_with fail
  go_loopw [7] (fun i wr => ∃ k : Nat, k ≤ 3 ∧ i = .int .i64 k ∧ C = cmp3 ([(a.f, b.f), (a.l, b.l), (a.t, b.t)].drop k) ∧ Below wc.heap.size wc wr) (fun i _ => 3 - (intOf i).toNat)
  case atStart => exact ⟨0, by omega, rfl, HC3.out, Below.refl _ _⟩
  case round =>
   obtain ⟨k, hk, rfl, hck, hbel⟩ := hrel
   have hpk := HP.out.keep hbel
   have hqk := HQ.out.keep hbel
   have HB := Lib.hid hbel; clear hbel
   by_cases hlt : k < 3
   ·
    obtain ⟨x, y, hx, hy, hd⟩ : ∃ x y, [Value.int .i64 a.f, .int .i64 a.l, .int .i64 a.t][k]? = some (.int .i64 x) ∧ [Value.int .i64 b.f, .int .i64 b.l, .int .i64 b.t][k]? = some (.int .i64 y) ∧ [(a.f, b.f), (a.l, b.l), (a.t, b.t)].drop k = (x, y) :: [(a.f, b.f), (a.l, b.l), (a.t, b.t)].drop (k + 1) := by
     have : k = 0 ∨ k = 1 ∨ k = 2 := by omega
     rcases this with rfl | rfl | rfl <;> exact ⟨_, _, rfl, rfl, rfl⟩
    have cx := hpk.cell (j := k) hx
    have cy := hqk.cell (j := k) hy
    rw [hd, cmp3] at hck
    clear hpk hqk hx hy hd
    by_cases h1 : x < y
    ·
     rw [if_pos h1] at hck
     have HCK := Lib.hid hck; clear hck
     have hd1 : decide (x < y) = true := by simpa using h1
     go_wp2_with fail
     go_quiet (fail)
     go_wp2_with fail
     go_ret
     exact ⟨HBC.out.trans ((below_drewN HB.out _).mono HBC.out.size), by rw [HCK.out]; rfl⟩
    ·
     rw [if_neg h1] at hck
     have hd1 : decide (x < y) = false := by simpa using h1
     by_cases h2 : y < x
     ·
      rw [if_pos h2] at hck
      have HCK := Lib.hid hck; clear hck
      have hd2 : decide (y < x) = true := by simpa using h2
      go_wp2_with fail
      go_quiet (fail)
      have cx' : (wr.drewN nq).cell? ⟨p, k, none⟩ = some (.int .i64 x) := cx
      have cy' : (wr.drewN nq).cell? ⟨q, k, none⟩ = some (.int .i64 y) := cy
      go_wp2_with fail
      go_quiet (fail)
      go_wp2_with fail
      go_ret
      exact ⟨HBC.out.trans ((below_drewN (below_drewN HB.out _) _).mono HBC.out.size), by rw [HCK.out]; rfl⟩
     ·
      rw [if_neg h2] at hck
      have HCK := Lib.hid hck; clear hck
      have hd2 : decide (y < x) = false := by simpa using h2
      go_wp2_with fail
      go_quiet (fail)
      have cx' : (wr.drewN nq).cell? ⟨p, k, none⟩ = some (.int .i64 x) := cx
      have cy' : (wr.drewN nq).cell? ⟨q, k, none⟩ = some (.int .i64 y) := cy
      go_wp2_with fail
      go_quiet (fail)
      go_wp2_with fail
      go_roundw
      case rel => exact ⟨k + 1, by omega, by go_num, HCK.out, below_drewN HB.out _⟩
      case measure => simp [intOf]; omega
   ·
    obtain rfl : k = 3 := by omega
    have HCK := Lib.hid hck; clear hck
    go_wp2_with fail
    go_ret
    exact ⟨HBC.out.trans (HB.out.mono HBC.out.size), by rw [HCK.out]; rfl⟩
end Go.Proofs.YthpgeeaccmgbkaaGreat
