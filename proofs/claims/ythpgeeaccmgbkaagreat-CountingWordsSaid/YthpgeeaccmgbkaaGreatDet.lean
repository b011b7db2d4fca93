/- graph.Deterministic. -/
import Derived.BigQuiet
import Derived.Deep.RegionHeld3
import Derived.Test.YthpgeeaccmgbkaaGreatPart1
import Derived.Test.YthpgeeaccmgbkaaGreatPart3
namespace Go.Proofs.YthpgeeaccmgbkaaGreat
open Go.RowKit

/-- No two neighbours have one state and one label. -/
def detB : List E3 → Bool
  | a :: b :: r => !(decide (a.f = b.f) && decide (a.l = b.l)) && detB (b :: r)
  | _ => true
set_option maxRecDepth 100000 in
set_option maxHeartbeats 3200000 in
theorem det_any (L S : Int) (es : List E3) (v : Value) (w : World) (hr : Row w v es.length (ce es)) (hok : okEs es) :
    Calls Tryz.prog 25 #[.agg #[.int .i64 L, .int .i64 S, v]] w (Ret w (.tuple #[.bool (decide (chk L S es = 0) && detB es), .int .i64 (if chk L S es = 0 then 0 else 1)])) := by
  obtain ⟨va, vc, rfl, hle⟩ := hr.slice
  have hck := fun w' h => check_any L S es (.slice va es.length vc) w' h hok
  obtain ⟨C, hC⟩ : ∃ C, C = chk L S es := ⟨_, rfl⟩
  rw [← hC] at hck ⊢
  clear hC
  obtain ⟨n, hn⟩ : ∃ n, n = es.length := ⟨_, rfl⟩
  rw [← hn] at hr hck hle ⊢
  have s0 := (Below.refl w.heap.size w).alloc (Nat.le_refl _) (.cells #[.int .i64 L, .int .i64 S, .slice va n vc] 24)
  have bg := Blk.new w 24 [.int .i64 L, .int .i64 S, .slice va n vc]
  have hr0 := hr.below s0 (Nat.le_refl _)
  have HROW := Lib.hid hr0; clear hr0
  have HCK := Lib.hid hck; clear hck
  have BG := Lib.hid bg; clear bg
  have S0 := Lib.hid s0; clear s0
  clear hr
  by_cases hc0 : C = 0
  · have hcb : (C != 0) = false := by simp [hc0]
    have hcd : decide (C = 0) = true := by simp [hc0]
    rw [hcd, if_pos hc0, Bool.true_and]
    clear hcd hc0
    have HN := Lib.hid hn; clear hn
    go_enter Tryz.func25, Tryz.ntmps25
    go_wp2_with (go_at_call 31; refine (HCK.out _ HROW.out).mono ?_; rintro e w1 ⟨hq1, rfl⟩)
    have hro1 := HROW.out.below hq1 (Nat.le_refl _)
    have hbg1 := BG.out.keep hq1
    have hs1 := S0.out.trans (hq1.mono S0.out.size)
    have HRO := Lib.hid hro1; clear hro1
    have HBG := Lib.hid hbg1; clear hbg1
    have HS1 := Lib.hid hs1; clear hs1
    have hsz1 : w.heap.size < w1.heap.size := HBG.out.lt
    clear hq1
    go_loopw [4] (fun i wr => ∃ k : Nat, 1 ≤ k ∧ (k ≤ n ∨ k = 1) ∧ i = .int .i64 k ∧ Below w1.heap.size w1 wr ∧ detB es = detB (es.drop (k - 1))) (fun i _ => n - (intOf i).toNat)
    case atStart => exact ⟨1, Nat.le_refl _, .inr rfl, rfl, Below.refl _ _, rfl⟩
    case round =>
      obtain ⟨k, hk1, hk, rfl, hbel, hd⟩ := hrel
      have hbgr := HBG.out.keep hbel
      have g2 := hbgr.cell (j := 2) rfl
      have hsr := hbel.size
      have HB := Lib.hid hbel; clear hbel
      have HBR := Lib.hid hbgr; clear hbgr
      by_cases hlt : k < n
      · have ge : es[k]? = some (es[k]'(by rw [← HN.out]; exact hlt)) := List.getElem?_eq_getElem _
        obtain ⟨e, hedef⟩ : ∃ e, e = es[k]'(by rw [← HN.out]; exact hlt) := ⟨_, rfl⟩
        rw [← hedef] at ge
        have hk1' : k - 1 < es.length := by rw [← HN.out]; omega
        have gp : es[k - 1]? = some (es[k - 1]'hk1') := List.getElem?_eq_getElem _
        obtain ⟨p, hp⟩ : ∃ p, p = es[k - 1]'hk1' := ⟨_, rfl⟩
        rw [← hp] at gp
        clear hedef hp hk1'
        have hdr : es.drop (k - 1) = p :: e :: es.drop (k + 1) := by
          rw [drop_get gp, show k - 1 + 1 = k by omega, drop_get ge]
        have hdr2 : es.drop (k + 1 - 1) = e :: es.drop (k + 1) := by rw [Nat.add_sub_cancel, drop_get ge]
        rw [hdr, detB, ← hdr2] at hd
        obtain ⟨b, off, rfl, hbw, hce⟩ := HRO.out.at_ (by omega)
        obtain ⟨q0, q1, q2⟩ := edge_cells hce HB.out hbw ge
        obtain ⟨p0, p1, p2⟩ := edge_cells hce HB.out hbw gp
        clear hce hdr hdr2 ge gp
        have HD := Lib.hid hd; clear hd
        have hw2 : (0 : Int) ≤ (k : Int) - 1 := by omega
        have hw2' : (1 : Int) ≤ (k : Int) := by omega
        have hw4 : (k : Int) - 1 < n := by omega
        have hbwr : b < wr.heap.size := by omega
        go_wp2_with fail
        go_cut [5, 6] (fun x y wx => ∃ i j, x = .pointer (some ⟨i, 0, none⟩) ∧ y = .pointer (some ⟨j, 0, none⟩) ∧ Blk wx i 53 [.int .i64 p.f, .int .i64 p.l, .int .i64 p.t] ∧ Blk wx j 53 [.int .i64 e.f, .int .i64 e.l, .int .i64 e.t] ∧ Below wr.heap.size wr wx)
        case first =>
          have hw1 : IntKind.i64.wrap ((k : Int) - 1) = (k : Int) - 1 := IntWalk.i64_in _ (by omega)
          have hw3 : ((k : Int) - 1).toNat = k - 1 := by omega
          go_region_held3 (fun w' => w'.cell? ⟨w.heap.size, 2, none⟩ = some (.slice (some ⟨b, off, none⟩) n vc) ∧ w'.cell? ⟨b, off + k * 3, none⟩ = some (.int .i64 e.f) ∧ w'.cell? ⟨b, off + k * 3 + 1, none⟩ = some (.int .i64 e.l) ∧ w'.cell? ⟨b, off + k * 3 + 2, none⟩ = some (.int .i64 e.t) ∧ w'.cell? ⟨b, off + (k - 1) * 3, none⟩ = some (.int .i64 p.f) ∧ w'.cell? ⟨b, off + (k - 1) * 3 + 1, none⟩ = some (.int .i64 p.l) ∧ w'.cell? ⟨b, off + (k - 1) * 3 + 2, none⟩ = some (.int .i64 p.t)) (go_keep) (fail)
          · go_wp2_with fail
            go_meet
            have h := two_new wr 53 53 [.int .i64 p.f, .int .i64 p.l, .int .i64 p.t] [.int .i64 e.f, .int .i64 e.l, .int .i64 e.t]
            exact ⟨_, _, rfl, rfl, h.1, h.2.1, h.2.2⟩
          · go_wp2_with fail
            go_meet
            have h := two_new wr 53 53 [.int .i64 e.f, .int .i64 e.l, .int .i64 e.t] [.int .i64 p.f, .int .i64 p.l, .int .i64 p.t]
            exact ⟨_, _, rfl, rfl, h.2.1, h.1, h.2.2⟩
        case rest =>
          obtain ⟨i, j, rfl, rfl, hbi, hbj, hbx⟩ := hcut
          have x0 := hbi.cell (j := 0) rfl
          have x1 := hbi.cell (j := 1) rfl
          have y0 := hbj.cell (j := 0) rfl
          have y1 := hbj.cell (j := 1) rfl
          have hbel2 := HB.out.trans (hbx.mono HB.out.size)
          have HB2 := Lib.hid hbel2; clear hbel2
          clear hbi hbj hbx
          by_cases hf : p.f = e.f
          · have t1 : (p.f == e.f) = true := by simp [hf]
            have u1 : decide (p.f = e.f) = true := by simp [hf]
            by_cases hl : p.l = e.l
            · have t2 : (p.l == e.l) = true := by simp [hl]
              have hd2 : detB es = false := by rw [HD.out, u1]; simp [hl]
              have HD2 := Lib.hid hd2; clear hd2
              clear hf hl u1
              go_wp2_with fail
              go_ret2
              exact ⟨HS1.out.trans (HB2.out.mono HS1.out.size), by rw [HD2.out]; rfl⟩
            · have t2 : (p.l == e.l) = false := by simp [hl]
              have hd2 : detB es = detB (es.drop (k + 1 - 1)) := by rw [HD.out]; simp [hl]
              have HD2 := Lib.hid hd2; clear hd2
              clear hf hl u1
              go_wp2_with fail
              go_roundw
              case rel => exact ⟨k + 1, by omega, by omega, by go_num, HB2.out, HD2.out⟩
              case measure => simp [intOf]; omega
          · have t1 : (p.f == e.f) = false := by simp [hf]
            have hd2 : detB es = detB (es.drop (k + 1 - 1)) := by rw [HD.out]; simp [hf]
            have HD2 := Lib.hid hd2; clear hd2
            clear hf
            go_wp2_with fail
            go_roundw
            case rel => exact ⟨k + 1, by omega, by omega, by go_num, HB2.out, HD2.out⟩
            case measure => simp [intOf]; omega
      · have hd2 : detB es = true := by
          rw [hd]
          have hl : (es.drop (k - 1)).length ≤ 1 := by rw [List.length_drop, ← HN.out]; omega
          match es.drop (k - 1), hl with
          | [], _ => rfl
          | [_], _ => rfl
        have HD2 := Lib.hid hd2; clear hd2
        clear hd
        go_wp2_with fail
        go_ret2
        exact ⟨HS1.out.trans (HB.out.mono HS1.out.size), by rw [HD2.out]; rfl⟩
  · have hcb : (C != 0) = true := by simp [hc0]
    have hcd : decide (C = 0) = false := by simp [hc0]
    rw [hcd, if_neg hc0, Bool.false_and]
    clear hcd hc0 hn
    go_enter Tryz.func25, Tryz.ntmps25
    go_wp2_with (go_at_call 31; refine (HCK.out _ HROW.out).mono ?_; rintro e w1 ⟨hq1, rfl⟩)
    go_ret2
    exact ⟨S0.out.trans (hq1.mono S0.out.size), rfl⟩
end Go.Proofs.YthpgeeaccmgbkaaGreat
