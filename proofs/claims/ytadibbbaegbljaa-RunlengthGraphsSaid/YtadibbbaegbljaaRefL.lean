/- The reference's Levels. -/
import Derived.Test.YtadibbbaegbljaaRefG

namespace Go.Proofs.Ytadibbbaegbljaa
open Go.RowKit

theorem gV_at (D m a r : Nat) (inf : Bool) (ha : a < 2) (hr : r < m) : gV D inf m (a * m + r) =
    (if r + 1 < m then [⟨((a * m + r : Nat) : Int), (a : Int), ((a * m + r : Nat) : Int) + 1⟩] else if inf then [⟨((a * m + r : Nat) : Int), (a : Int), ((a * m + r : Nat) : Int)⟩] else []) ++ (if D < r + 1 then [⟨((a * m + r : Nat) : Int), 1 - (a : Int), (1 - (a : Int)) * m⟩] else []) := by
  have h1 : (a * m + r) / m = a := by rw [Nat.mul_comm, Nat.mul_add_div (by omega), Nat.div_eq_of_lt hr, Nat.add_zero]
  have h2 : (a * m + r) % m = r := by rw [Nat.mul_comm, Nat.mul_add_mod, Nat.mod_eq_of_lt hr]
  unfold gV
  rw [h1, h2]
theorem gV_len (D m s : Nat) (inf : Bool) : (gV D inf m s).length ≤ 2 := by
  unfold gV
  by_cases h1 : s % m + 1 < m <;> by_cases h2 : D < s % m + 1 <;> cases inf <;> simp [h1, h2]
set_option maxRecDepth 100000 in
set_option maxHeartbeats 3200000 in
theorem rlevels_inf (D : Nat) (w : World) (hE : 2 * (D + 1) ≤ 64) :
    Calls Try.prog 26 #[.int .i64 (D : Int), .int .i64 (-1)] w (GOut 2 (2 * ((D : Int) + 1)) (canon (2 * (D + 1)) (tL D true (D + 1))) 0 w) := by
  obtain ⟨i0, hi, hz0, hz1, hz2⟩ := info_parts infoEdge
  have hp : pairB (D : Int) (-1) = true := by simp [pairB]
  have hE64 : ¬ 64 ≤ (D : Int) := by omega
  have HP := Lib.hid hp; clear hp
  go_enter Try.func26, Try.ntmps26
  go_wp2_with fail
  go_at_call 46
  refine (rpair_any _ _ _).mono ?_
  rintro e w' ⟨rfl, rfl⟩
  rw [HP.out]
  go_wp2_with fail
  go_loopw [7, 8] (fun u i wr => ∃ (a : Nat) (z : Int), a ≤ 2 ∧ z = (a : Int) ∧ i = .int .i64 z ∧ wr.ownsRow (w.heap.size + 1) 60 3 u (gL (gV D true (D + 1)) (a * (D + 1))).length (ce (gL (gV D true (D + 1)) (a * (D + 1)))) ∧ Below (w.heap.size + 1) (w.alloc (.cells #[.int .i64 0, .int .i64 0, .slice none 0 0] 46)) wr) (fun _ i _ => 2 - (intOf i).toNat)
  case atStart => exact ⟨0, 0, Nat.zero_le _, rfl, rfl, by rw [Nat.zero_mul]; exact World.ownsRow_nil _ _ _ _, Below.refl _ _⟩
  case round =>
    obtain ⟨a, z, ha, hza, rfl, hown, hbel⟩ := hrel
    by_cases hlt : a < 2
    · obtain ⟨rfl, rfl⟩ | ⟨rfl, rfl⟩ : (a = 0 ∧ z = 0) ∨ (a = 1 ∧ z = 1) := by omega
      · clear hza ha hlt
        obtain ⟨au, cu, rfl⟩ := own_slice hown
        have HO0 := Lib.hid hown; clear hown
        have HB0 := Lib.hid hbel; clear hbel
        go_wp2_with fail
        go_loopw [7, 9] (fun u i wr => ∃ q : Nat, q ≤ (D + 1) ∧ i = .int .i64 ((q : Int) + 1) ∧ wr.ownsRow (w.heap.size + 1) 60 3 u (gL (gV D true (D + 1)) ((0 * (D + 1)) + q)).length (ce (gL (gV D true (D + 1)) ((0 * (D + 1)) + q))) ∧ Below (w.heap.size + 1) (w.alloc (.cells #[.int .i64 0, .int .i64 0, .slice none 0 0] 46)) wr) (fun _ i _ => (D + 1) + 1 - (intOf i).toNat)
        case atStart => exact ⟨0, Nat.zero_le _, rfl, HO0.out, HB0.out⟩
        case round =>
          obtain ⟨q, hq, rfl, hown, hbel⟩ := hrel
          have hl : (gL (gV D true (D + 1)) ((0 * (D + 1)) + q)).length ≤ 256 := by have := gL_length (gV D true (D + 1)) 2 ((0 * (D + 1)) + q) (fun x _ => gV_len D (D + 1) x true); omega
          have hsz : w.heap.size + 1 ≤ wr.heap.size := by have := hbel.size; simpa using this
          by_cases hqlt : q < (D + 1)
          · obtain ⟨L, hL⟩ : ∃ L, L = gL (gV D true (D + 1)) ((0 * (D + 1)) + q) := ⟨_, rfl⟩
            rw [← hL] at hown hl
            obtain ⟨a, cap, rfl⟩ := own_slice hown
            have HO := Lib.hid hown; clear hown
            have HB := Lib.hid hbel; clear hbel
            by_cases h1 : q + 1 < (D + 1)
            · by_cases h2 : D < q + 1
              · omega
              · have q1 : decide ((q : Int) + 1 < (D : Int) + 1) = true := by simp <;> omega
                have q2 : ((q : Int) + 1 == (D : Int) + 1) = false := by simp <;> omega
                have q3 : decide ((D : Int) + 1 ≤ (q : Int) + 1) = false := by simp <;> omega
                have hnext : gL (gV D true (D + 1)) ((0 * (D + 1)) + (q + 1)) = L ++ [⟨(q : Int), 0, ((q : Int) + 1)⟩] := by rw [← Nat.add_assoc, gL_succ, ← hL, gV_at D (D + 1) 0 q true (by decide) hqlt]; simp only [show (((0 * (D + 1)) + q : Nat) : Int) = (q : Int) by omega, show ((q : Int) : Int) + 1 = ((q : Int) + 1) by omega]; simp [h1, h2]
                have HN := Lib.hid hnext; clear hnext
                clear hL
                go_wp2_with (first | (at_builtin; refine wpList_append_lies _ rfl (.tmp 45) (.tmp 51) 44 rfl (w.heap.size + 1) 60 i0 _ 3 24 Try.underlying44 hi hz0 hz1 hz2 rfl (by decide) _ _ _ rfl (HO.out.alloc _) _ 1 1 (E3.cells ⟨(q : Int), 0, ((q : Int) + 1)⟩) rfl rfl (World.news_of_block (heap_alloc_new _ _)) (by simp [E3.cells, Value.oneCell']) (by omega) (by unfold maxLen; omega) (by omega) (by simp; omega) _ rfl ?_; intro g1 cap1 w1 hown' hg hat hlt'; have hsz1 : w.heap.size + 1 ≤ w1.heap.size := (by have := hg.size; simp at this; omega); have HB1 := Lib.hid ((HB.out.alloc hsz _).grown hg (by simp; omega) (fun jj hj => (HO.out.lt jj hj).1)); have HO1 := Lib.hid hown'; clear hown' hg hat hlt') | fail)
                go_roundw
                case rel => exact ⟨q + 1, by omega, by go_num, by rw [HN.out, ce_app, List.length_append]; exact HO1.out, HB1.out⟩
                case measure => simp [intOf] <;> omega
            · by_cases h2 : D < q + 1
              · have q1 : decide ((q : Int) + 1 < (D : Int) + 1) = false := by simp <;> omega
                have q2 : ((q : Int) + 1 == (D : Int) + 1) = true := by simp <;> omega
                have q3 : decide ((D : Int) + 1 ≤ (q : Int) + 1) = true := by simp <;> omega
                have hnext : gL (gV D true (D + 1)) ((0 * (D + 1)) + (q + 1)) = L ++ [⟨(q : Int), 0, (q : Int)⟩] ++ [⟨(q : Int), 1, ((D : Int) + 1)⟩] := by rw [← Nat.add_assoc, gL_succ, ← hL, gV_at D (D + 1) 0 q true (by decide) hqlt]; simp only [show (((0 * (D + 1)) + q : Nat) : Int) = (q : Int) by omega, show ((q : Int) : Int) + 1 = ((q : Int) + 1) by omega]; simp [h1, h2]
                have HN := Lib.hid hnext; clear hnext
                clear hL
                go_wp2_with (first | (at_builtin; refine wpList_append_lies _ rfl (.tmp 60) (.tmp 65) 44 rfl (w.heap.size + 1) 60 i0 _ 3 24 Try.underlying44 hi hz0 hz1 hz2 rfl (by decide) _ _ _ rfl (HO.out.alloc _) _ 1 1 (E3.cells ⟨(q : Int), 0, (q : Int)⟩) rfl rfl (World.news_of_block (heap_alloc_new _ _)) (by simp [E3.cells, Value.oneCell']) (by omega) (by unfold maxLen; omega) (by omega) (by simp; omega) _ rfl ?_; intro g1 cap1 w1 hown' hg hat hlt'; have hsz1 : w.heap.size + 1 ≤ w1.heap.size := (by have := hg.size; simp at this; omega); have HB1 := Lib.hid ((HB.out.alloc hsz _).grown hg (by simp; omega) (fun jj hj => (HO.out.lt jj hj).1)); have HO1 := Lib.hid hown'; clear hown' hg hat hlt') | (at_builtin; refine wpList_append_lies _ rfl (.tmp 71) (.tmp 80) 44 rfl (w.heap.size + 1) 60 i0 _ 3 24 Try.underlying44 hi hz0 hz1 hz2 rfl (by decide) _ _ _ rfl (HO1.out.alloc _) _ 1 1 (E3.cells ⟨(q : Int), 1, ((D : Int) + 1)⟩) rfl rfl (World.news_of_block (heap_alloc_new _ _)) (by simp [E3.cells, Value.oneCell']) (by omega) (by unfold maxLen; omega) (by omega) (by simp; omega) _ rfl ?_; intro g2 cap2 w2 hown' hg hat hlt'; have hsz2 : w.heap.size + 1 ≤ w2.heap.size := (by have := hg.size; simp at this; omega); have HB2 := Lib.hid ((HB1.out.alloc hsz1 _).grown hg (by simp; omega) (fun jj hj => (HO1.out.lt jj hj).1)); have HO2 := Lib.hid hown'; clear hown' hg hat hlt') | fail)
                go_roundw
                case rel => exact ⟨q + 1, by omega, by go_num, by rw [HN.out, ce_app, ce_app, List.length_append, List.length_append]; exact HO2.out, HB2.out⟩
                case measure => simp [intOf] <;> omega
              · omega
          · obtain rfl : q = (D + 1) := by omega
            rw [show (0 * (D + 1)) + (D + 1) = (0 + 1) * (D + 1) by omega] at hown
            obtain ⟨a2, c2, rfl⟩ := own_slice hown
            have HO1 := Lib.hid hown; clear hown
            have HB1 := Lib.hid hbel; clear hbel
            go_wp2_with fail
            go_roundw
            case rel => exact ⟨1, 1, by omega, rfl, by first | rfl | go_num, HO1.out, HB1.out⟩
            case measure => simp [intOf] <;> omega
      · clear hza ha hlt
        obtain ⟨au, cu, rfl⟩ := own_slice hown
        have HO0 := Lib.hid hown; clear hown
        have HB0 := Lib.hid hbel; clear hbel
        go_wp2_with fail
        go_loopw [7, 9] (fun u i wr => ∃ q : Nat, q ≤ (D + 1) ∧ i = .int .i64 ((q : Int) + 1) ∧ wr.ownsRow (w.heap.size + 1) 60 3 u (gL (gV D true (D + 1)) ((1 * (D + 1)) + q)).length (ce (gL (gV D true (D + 1)) ((1 * (D + 1)) + q))) ∧ Below (w.heap.size + 1) (w.alloc (.cells #[.int .i64 0, .int .i64 0, .slice none 0 0] 46)) wr) (fun _ i _ => (D + 1) + 1 - (intOf i).toNat)
        case atStart => exact ⟨0, Nat.zero_le _, rfl, HO0.out, HB0.out⟩
        case round =>
          obtain ⟨q, hq, rfl, hown, hbel⟩ := hrel
          have hl : (gL (gV D true (D + 1)) ((1 * (D + 1)) + q)).length ≤ 256 := by have := gL_length (gV D true (D + 1)) 2 ((1 * (D + 1)) + q) (fun x _ => gV_len D (D + 1) x true); omega
          have hsz : w.heap.size + 1 ≤ wr.heap.size := by have := hbel.size; simpa using this
          by_cases hqlt : q < (D + 1)
          · obtain ⟨L, hL⟩ : ∃ L, L = gL (gV D true (D + 1)) ((1 * (D + 1)) + q) := ⟨_, rfl⟩
            rw [← hL] at hown hl
            obtain ⟨a, cap, rfl⟩ := own_slice hown
            have HO := Lib.hid hown; clear hown
            have HB := Lib.hid hbel; clear hbel
            by_cases h1 : q + 1 < (D + 1)
            · by_cases h2 : D < q + 1
              · omega
              · have q1 : decide ((q : Int) + 1 < (D : Int) + 1) = true := by simp <;> omega
                have q2 : ((q : Int) + 1 == (D : Int) + 1) = false := by simp <;> omega
                have q3 : decide ((D : Int) + 1 ≤ (q : Int) + 1) = false := by simp <;> omega
                have hnext : gL (gV D true (D + 1)) ((1 * (D + 1)) + (q + 1)) = L ++ [⟨((D : Int) + 1 + ((q : Int) + 1) - 1), 1, ((D : Int) + 1 + ((q : Int) + 1))⟩] := by rw [← Nat.add_assoc, gL_succ, ← hL, gV_at D (D + 1) 1 q true (by decide) hqlt]; simp only [show (((1 * (D + 1)) + q : Nat) : Int) = ((D : Int) + 1 + ((q : Int) + 1) - 1) by omega, show (((D : Int) + 1 + ((q : Int) + 1) - 1) : Int) + 1 = ((D : Int) + 1 + ((q : Int) + 1)) by omega]; simp [h1, h2]
                have HN := Lib.hid hnext; clear hnext
                clear hL
                go_wp2_with (first | (at_builtin; refine wpList_append_lies _ rfl (.tmp 45) (.tmp 51) 44 rfl (w.heap.size + 1) 60 i0 _ 3 24 Try.underlying44 hi hz0 hz1 hz2 rfl (by decide) _ _ _ rfl (HO.out.alloc _) _ 1 1 (E3.cells ⟨((D : Int) + 1 + ((q : Int) + 1) - 1), 1, ((D : Int) + 1 + ((q : Int) + 1))⟩) rfl rfl (World.news_of_block (heap_alloc_new _ _)) (by simp [E3.cells, Value.oneCell']) (by omega) (by unfold maxLen; omega) (by omega) (by simp; omega) _ rfl ?_; intro g1 cap1 w1 hown' hg hat hlt'; have hsz1 : w.heap.size + 1 ≤ w1.heap.size := (by have := hg.size; simp at this; omega); have HB1 := Lib.hid ((HB.out.alloc hsz _).grown hg (by simp; omega) (fun jj hj => (HO.out.lt jj hj).1)); have HO1 := Lib.hid hown'; clear hown' hg hat hlt') | fail)
                go_roundw
                case rel => exact ⟨q + 1, by omega, by go_num, by rw [HN.out, ce_app, List.length_append]; exact HO1.out, HB1.out⟩
                case measure => simp [intOf] <;> omega
            · by_cases h2 : D < q + 1
              · have q1 : decide ((q : Int) + 1 < (D : Int) + 1) = false := by simp <;> omega
                have q2 : ((q : Int) + 1 == (D : Int) + 1) = true := by simp <;> omega
                have q3 : decide ((D : Int) + 1 ≤ (q : Int) + 1) = true := by simp <;> omega
                have hnext : gL (gV D true (D + 1)) ((1 * (D + 1)) + (q + 1)) = L ++ [⟨((D : Int) + 1 + ((q : Int) + 1) - 1), 1, ((D : Int) + 1 + ((q : Int) + 1) - 1)⟩] ++ [⟨((D : Int) + 1 + ((q : Int) + 1) - 1), 0, 0⟩] := by rw [← Nat.add_assoc, gL_succ, ← hL, gV_at D (D + 1) 1 q true (by decide) hqlt]; simp only [show (((1 * (D + 1)) + q : Nat) : Int) = ((D : Int) + 1 + ((q : Int) + 1) - 1) by omega, show (((D : Int) + 1 + ((q : Int) + 1) - 1) : Int) + 1 = ((D : Int) + 1 + ((q : Int) + 1)) by omega]; simp [h1, h2]
                have HN := Lib.hid hnext; clear hnext
                clear hL
                go_wp2_with (first | (at_builtin; refine wpList_append_lies _ rfl (.tmp 60) (.tmp 65) 44 rfl (w.heap.size + 1) 60 i0 _ 3 24 Try.underlying44 hi hz0 hz1 hz2 rfl (by decide) _ _ _ rfl (HO.out.alloc _) _ 1 1 (E3.cells ⟨((D : Int) + 1 + ((q : Int) + 1) - 1), 1, ((D : Int) + 1 + ((q : Int) + 1) - 1)⟩) rfl rfl (World.news_of_block (heap_alloc_new _ _)) (by simp [E3.cells, Value.oneCell']) (by omega) (by unfold maxLen; omega) (by omega) (by simp; omega) _ rfl ?_; intro g1 cap1 w1 hown' hg hat hlt'; have hsz1 : w.heap.size + 1 ≤ w1.heap.size := (by have := hg.size; simp at this; omega); have HB1 := Lib.hid ((HB.out.alloc hsz _).grown hg (by simp; omega) (fun jj hj => (HO.out.lt jj hj).1)); have HO1 := Lib.hid hown'; clear hown' hg hat hlt') | (at_builtin; refine wpList_append_lies _ rfl (.tmp 71) (.tmp 80) 44 rfl (w.heap.size + 1) 60 i0 _ 3 24 Try.underlying44 hi hz0 hz1 hz2 rfl (by decide) _ _ _ rfl (HO1.out.alloc _) _ 1 1 (E3.cells ⟨((D : Int) + 1 + ((q : Int) + 1) - 1), 0, 0⟩) rfl rfl (World.news_of_block (heap_alloc_new _ _)) (by simp [E3.cells, Value.oneCell']) (by omega) (by unfold maxLen; omega) (by omega) (by simp; omega) _ rfl ?_; intro g2 cap2 w2 hown' hg hat hlt'; have hsz2 : w.heap.size + 1 ≤ w2.heap.size := (by have := hg.size; simp at this; omega); have HB2 := Lib.hid ((HB1.out.alloc hsz1 _).grown hg (by simp; omega) (fun jj hj => (HO1.out.lt jj hj).1)); have HO2 := Lib.hid hown'; clear hown' hg hat hlt') | fail)
                go_roundw
                case rel => exact ⟨q + 1, by omega, by go_num, by rw [HN.out, ce_app, ce_app, List.length_append, List.length_append]; exact HO2.out, HB2.out⟩
                case measure => simp [intOf] <;> omega
              · omega
          · obtain rfl : q = (D + 1) := by omega
            rw [show (1 * (D + 1)) + (D + 1) = (1 + 1) * (D + 1) by omega] at hown
            obtain ⟨a2, c2, rfl⟩ := own_slice hown
            have HO1 := Lib.hid hown; clear hown
            have HB1 := Lib.hid hbel; clear hbel
            go_wp2_with fail
            go_roundw
            case rel => exact ⟨2, 2, by omega, rfl, by first | rfl | go_num, HO1.out, HB1.out⟩
            case measure => simp [intOf] <;> omega
    · obtain ⟨rfl, rfl⟩ : a = 2 ∧ z = 2 := by omega
      clear hza ha hlt
      have hsz : w.heap.size + 1 ≤ wr.heap.size := by have := hbel.size; simpa using this
      have hbd := fun v' w' hr => rbuild_ok (2 * (D + 1)) (tL D true (D + 1)) (gL (gV D true (D + 1)) (2 * (D + 1))) v' w' (levels_tells D true (D + 1) (by omega) (by omega)) hr
      obtain ⟨C, hC⟩ : ∃ C, C = canon (2 * (D + 1)) (tL D true (D + 1)) := ⟨_, rfl⟩
      simp only [← hC] at hbd
      simp only [show ((2 * (D + 1) : Nat) : Int) = 2 * ((D : Int) + 1) by omega] at hbd
      have HBD := Lib.hid hbd; clear hbd
      have HC := Lib.hid hC; clear hC
      have hrow := own_row hown
      have HROW := Lib.hid hrow; clear hrow
      have hb0 := (Blk.new w 46 [.int .i64 0, .int .i64 0, .slice none 0 0]).below hbel (by omega)
      have HB0 := Lib.hid hb0; clear hb0
      have hbw : Below w.heap.size w wr := ((Below.refl w.heap.size w).alloc (Nat.le_refl _) (.cells #[.int .i64 0, .int .i64 0, .slice none 0 0] 46)).trans (hbel.mono (by omega))
      have HBW := Lib.hid hbw; clear hbw
      obtain ⟨a, cap, rfl⟩ := own_slice hown
      clear hbel hown
      go_wp2_with fail
      go_at_call 53
      refine (HBD.out _ _ HROW.out).mono ?_
      rintro e w2 ⟨hq, v2, rfl, hrow2, hnw⟩
      obtain ⟨a2, c2, rfl, -⟩ := hrow2.slice
      have hsw := HBW.out.size
      have hnv : (Value.slice a2 C.length c2).ownBlock ≠ some w.heap.size := fun e => by have := hnw _ e; have := HB0.out.lt; omega
      have tk := HB0.out.keep hq; have x0 := tk.cell (j := 0) rfl; have x1 := tk.cell (j := 1) rfl; have x2 := tk.cell (j := 2) rfl; have B2 := Lib.hid tk; clear tk
      have f0 := B2.out.frozen 0
      have f1 := B2.out.frozen 1
      have f2 := B2.out.frozen 2
      have HNV := Lib.hid hnv; clear hnv
      have HNW := Lib.hid hnw; clear hnw
      have HR2 := Lib.hid hrow2; clear hrow2
      have HQ := Lib.hid hq; clear hq
      go_wp2_with fail
      refine bodyPost_ret (v := .tuple #[.agg #[.int .i64 2, .int .i64 (2 * ((D : Int) + 1)), .slice a2 C.length c2], .int .i64 0]) (by simp [results, Try.results26, go_sem, *]) rfl ⟨?_, _, rfl, ?_⟩
      · have s1 := HBW.out.trans (HQ.out.mono HBW.out.size)
        exact ((s1.setCell (p := ⟨w.heap.size, 0, none⟩) (Nat.le_refl _) _).setCell (p := ⟨w.heap.size, 1, none⟩) (Nat.le_refl _) _).setCell (p := ⟨w.heap.size, 2, none⟩) (Nat.le_refl _) _
      · rw [← HC.out]; exact row_setCell (row_setCell (row_setCell HR2.out ⟨w.heap.size, 0, none⟩ _ HNV.out) ⟨w.heap.size, 1, none⟩ _ HNV.out) ⟨w.heap.size, 2, none⟩ _ HNV.out
set_option maxRecDepth 100000 in
set_option maxHeartbeats 3200000 in
theorem rlevels_fin (D E : Nat) (w : World) (hDE : D ≤ E) (hE : 2 * (E + 1) ≤ 64) :
    Calls Try.prog 26 #[.int .i64 (D : Int), .int .i64 (E : Int)] w (GOut 2 (2 * ((E : Int) + 1)) (canon (2 * (E + 1)) (tL D false (E + 1))) 0 w) := by
  obtain ⟨i0, hi, hz0, hz1, hz2⟩ := info_parts infoEdge
  have hp : pairB (D : Int) (E : Int) = true := by simp [pairB] <;> omega
  have hE64 : ¬ 64 ≤ (E : Int) := by omega
  have hk1 : ((E : Int) == -1) = false := by simp <;> omega
  have HP := Lib.hid hp; clear hp
  go_enter Try.func26, Try.ntmps26
  go_wp2_with fail
  go_at_call 46
  refine (rpair_any _ _ _).mono ?_
  rintro e w' ⟨rfl, rfl⟩
  rw [HP.out]
  go_wp2_with fail
  go_loopw [7, 8] (fun u i wr => ∃ (a : Nat) (z : Int), a ≤ 2 ∧ z = (a : Int) ∧ i = .int .i64 z ∧ wr.ownsRow (w.heap.size + 1) 60 3 u (gL (gV D false (E + 1)) (a * (E + 1))).length (ce (gL (gV D false (E + 1)) (a * (E + 1)))) ∧ Below (w.heap.size + 1) (w.alloc (.cells #[.int .i64 0, .int .i64 0, .slice none 0 0] 46)) wr) (fun _ i _ => 2 - (intOf i).toNat)
  case atStart => exact ⟨0, 0, Nat.zero_le _, rfl, rfl, by rw [Nat.zero_mul]; exact World.ownsRow_nil _ _ _ _, Below.refl _ _⟩
  case round =>
    obtain ⟨a, z, ha, hza, rfl, hown, hbel⟩ := hrel
    by_cases hlt : a < 2
    · obtain ⟨rfl, rfl⟩ | ⟨rfl, rfl⟩ : (a = 0 ∧ z = 0) ∨ (a = 1 ∧ z = 1) := by omega
      · clear hza ha hlt
        obtain ⟨au, cu, rfl⟩ := own_slice hown
        have HO0 := Lib.hid hown; clear hown
        have HB0 := Lib.hid hbel; clear hbel
        go_wp2_with fail
        go_loopw [7, 9] (fun u i wr => ∃ q : Nat, q ≤ (E + 1) ∧ i = .int .i64 ((q : Int) + 1) ∧ wr.ownsRow (w.heap.size + 1) 60 3 u (gL (gV D false (E + 1)) ((0 * (E + 1)) + q)).length (ce (gL (gV D false (E + 1)) ((0 * (E + 1)) + q))) ∧ Below (w.heap.size + 1) (w.alloc (.cells #[.int .i64 0, .int .i64 0, .slice none 0 0] 46)) wr) (fun _ i _ => (E + 1) + 1 - (intOf i).toNat)
        case atStart => exact ⟨0, Nat.zero_le _, rfl, HO0.out, HB0.out⟩
        case round =>
          obtain ⟨q, hq, rfl, hown, hbel⟩ := hrel
          have hl : (gL (gV D false (E + 1)) ((0 * (E + 1)) + q)).length ≤ 256 := by have := gL_length (gV D false (E + 1)) 2 ((0 * (E + 1)) + q) (fun x _ => gV_len D (E + 1) x false); omega
          have hsz : w.heap.size + 1 ≤ wr.heap.size := by have := hbel.size; simpa using this
          by_cases hqlt : q < (E + 1)
          · obtain ⟨L, hL⟩ : ∃ L, L = gL (gV D false (E + 1)) ((0 * (E + 1)) + q) := ⟨_, rfl⟩
            rw [← hL] at hown hl
            obtain ⟨a, cap, rfl⟩ := own_slice hown
            have HO := Lib.hid hown; clear hown
            have HB := Lib.hid hbel; clear hbel
            by_cases h1 : q + 1 < (E + 1)
            · by_cases h2 : D < q + 1
              · have q1 : decide ((q : Int) + 1 < (E : Int) + 1) = true := by simp <;> omega
                have q2 : ((q : Int) + 1 == (E : Int) + 1) = false := by simp <;> omega
                have q3 : decide ((D : Int) + 1 ≤ (q : Int) + 1) = true := by simp <;> omega
                have hnext : gL (gV D false (E + 1)) ((0 * (E + 1)) + (q + 1)) = L ++ [⟨(q : Int), 0, ((q : Int) + 1)⟩] ++ [⟨(q : Int), 1, ((E : Int) + 1)⟩] := by rw [← Nat.add_assoc, gL_succ, ← hL, gV_at D (E + 1) 0 q false (by decide) hqlt]; simp only [show (((0 * (E + 1)) + q : Nat) : Int) = (q : Int) by omega, show ((q : Int) : Int) + 1 = ((q : Int) + 1) by omega]; simp [h1, h2]
                have HN := Lib.hid hnext; clear hnext
                clear hL
                go_wp2_with (first | (at_builtin; refine wpList_append_lies _ rfl (.tmp 45) (.tmp 51) 44 rfl (w.heap.size + 1) 60 i0 _ 3 24 Try.underlying44 hi hz0 hz1 hz2 rfl (by decide) _ _ _ rfl (HO.out.alloc _) _ 1 1 (E3.cells ⟨(q : Int), 0, ((q : Int) + 1)⟩) rfl rfl (World.news_of_block (heap_alloc_new _ _)) (by simp [E3.cells, Value.oneCell']) (by omega) (by unfold maxLen; omega) (by omega) (by simp; omega) _ rfl ?_; intro g1 cap1 w1 hown' hg hat hlt'; have hsz1 : w.heap.size + 1 ≤ w1.heap.size := (by have := hg.size; simp at this; omega); have HB1 := Lib.hid ((HB.out.alloc hsz _).grown hg (by simp; omega) (fun jj hj => (HO.out.lt jj hj).1)); have HO1 := Lib.hid hown'; clear hown' hg hat hlt') | (at_builtin; refine wpList_append_lies _ rfl (.tmp 71) (.tmp 80) 44 rfl (w.heap.size + 1) 60 i0 _ 3 24 Try.underlying44 hi hz0 hz1 hz2 rfl (by decide) _ _ _ rfl (HO1.out.alloc _) _ 1 1 (E3.cells ⟨(q : Int), 1, ((E : Int) + 1)⟩) rfl rfl (World.news_of_block (heap_alloc_new _ _)) (by simp [E3.cells, Value.oneCell']) (by omega) (by unfold maxLen; omega) (by omega) (by simp; omega) _ rfl ?_; intro g2 cap2 w2 hown' hg hat hlt'; have hsz2 : w.heap.size + 1 ≤ w2.heap.size := (by have := hg.size; simp at this; omega); have HB2 := Lib.hid ((HB1.out.alloc hsz1 _).grown hg (by simp; omega) (fun jj hj => (HO1.out.lt jj hj).1)); have HO2 := Lib.hid hown'; clear hown' hg hat hlt') | fail)
                go_roundw
                case rel => exact ⟨q + 1, by omega, by go_num, by rw [HN.out, ce_app, ce_app, List.length_append, List.length_append]; exact HO2.out, HB2.out⟩
                case measure => simp [intOf] <;> omega
              · have q1 : decide ((q : Int) + 1 < (E : Int) + 1) = true := by simp <;> omega
                have q2 : ((q : Int) + 1 == (E : Int) + 1) = false := by simp <;> omega
                have q3 : decide ((D : Int) + 1 ≤ (q : Int) + 1) = false := by simp <;> omega
                have hnext : gL (gV D false (E + 1)) ((0 * (E + 1)) + (q + 1)) = L ++ [⟨(q : Int), 0, ((q : Int) + 1)⟩] := by rw [← Nat.add_assoc, gL_succ, ← hL, gV_at D (E + 1) 0 q false (by decide) hqlt]; simp only [show (((0 * (E + 1)) + q : Nat) : Int) = (q : Int) by omega, show ((q : Int) : Int) + 1 = ((q : Int) + 1) by omega]; simp [h1, h2]
                have HN := Lib.hid hnext; clear hnext
                clear hL
                go_wp2_with (first | (at_builtin; refine wpList_append_lies _ rfl (.tmp 45) (.tmp 51) 44 rfl (w.heap.size + 1) 60 i0 _ 3 24 Try.underlying44 hi hz0 hz1 hz2 rfl (by decide) _ _ _ rfl (HO.out.alloc _) _ 1 1 (E3.cells ⟨(q : Int), 0, ((q : Int) + 1)⟩) rfl rfl (World.news_of_block (heap_alloc_new _ _)) (by simp [E3.cells, Value.oneCell']) (by omega) (by unfold maxLen; omega) (by omega) (by simp; omega) _ rfl ?_; intro g1 cap1 w1 hown' hg hat hlt'; have hsz1 : w.heap.size + 1 ≤ w1.heap.size := (by have := hg.size; simp at this; omega); have HB1 := Lib.hid ((HB.out.alloc hsz _).grown hg (by simp; omega) (fun jj hj => (HO.out.lt jj hj).1)); have HO1 := Lib.hid hown'; clear hown' hg hat hlt') | fail)
                go_roundw
                case rel => exact ⟨q + 1, by omega, by go_num, by rw [HN.out, ce_app, List.length_append]; exact HO1.out, HB1.out⟩
                case measure => simp [intOf] <;> omega
            · by_cases h2 : D < q + 1
              · have q1 : decide ((q : Int) + 1 < (E : Int) + 1) = false := by simp <;> omega
                have q2 : ((q : Int) + 1 == (E : Int) + 1) = true := by simp <;> omega
                have q3 : decide ((D : Int) + 1 ≤ (q : Int) + 1) = true := by simp <;> omega
                have hnext : gL (gV D false (E + 1)) ((0 * (E + 1)) + (q + 1)) = L ++ [⟨(q : Int), 1, ((E : Int) + 1)⟩] := by rw [← Nat.add_assoc, gL_succ, ← hL, gV_at D (E + 1) 0 q false (by decide) hqlt]; simp only [show (((0 * (E + 1)) + q : Nat) : Int) = (q : Int) by omega, show ((q : Int) : Int) + 1 = ((q : Int) + 1) by omega]; simp [h1, h2]
                have HN := Lib.hid hnext; clear hnext
                clear hL
                go_wp2_with (first | (at_builtin; refine wpList_append_lies _ rfl (.tmp 71) (.tmp 80) 44 rfl (w.heap.size + 1) 60 i0 _ 3 24 Try.underlying44 hi hz0 hz1 hz2 rfl (by decide) _ _ _ rfl (HO.out.alloc _) _ 1 1 (E3.cells ⟨(q : Int), 1, ((E : Int) + 1)⟩) rfl rfl (World.news_of_block (heap_alloc_new _ _)) (by simp [E3.cells, Value.oneCell']) (by omega) (by unfold maxLen; omega) (by omega) (by simp; omega) _ rfl ?_; intro g1 cap1 w1 hown' hg hat hlt'; have hsz1 : w.heap.size + 1 ≤ w1.heap.size := (by have := hg.size; simp at this; omega); have HB1 := Lib.hid ((HB.out.alloc hsz _).grown hg (by simp; omega) (fun jj hj => (HO.out.lt jj hj).1)); have HO1 := Lib.hid hown'; clear hown' hg hat hlt') | fail)
                go_roundw
                case rel => exact ⟨q + 1, by omega, by go_num, by rw [HN.out, ce_app, List.length_append]; exact HO1.out, HB1.out⟩
                case measure => simp [intOf] <;> omega
              · omega
          · obtain rfl : q = (E + 1) := by omega
            rw [show (0 * (E + 1)) + (E + 1) = (0 + 1) * (E + 1) by omega] at hown
            obtain ⟨a2, c2, rfl⟩ := own_slice hown
            have HO1 := Lib.hid hown; clear hown
            have HB1 := Lib.hid hbel; clear hbel
            go_wp2_with fail
            go_roundw
            case rel => exact ⟨1, 1, by omega, rfl, by first | rfl | go_num, HO1.out, HB1.out⟩
            case measure => simp [intOf] <;> omega
      · clear hza ha hlt
        obtain ⟨au, cu, rfl⟩ := own_slice hown
        have HO0 := Lib.hid hown; clear hown
        have HB0 := Lib.hid hbel; clear hbel
        go_wp2_with fail
        go_loopw [7, 9] (fun u i wr => ∃ q : Nat, q ≤ (E + 1) ∧ i = .int .i64 ((q : Int) + 1) ∧ wr.ownsRow (w.heap.size + 1) 60 3 u (gL (gV D false (E + 1)) ((1 * (E + 1)) + q)).length (ce (gL (gV D false (E + 1)) ((1 * (E + 1)) + q))) ∧ Below (w.heap.size + 1) (w.alloc (.cells #[.int .i64 0, .int .i64 0, .slice none 0 0] 46)) wr) (fun _ i _ => (E + 1) + 1 - (intOf i).toNat)
        case atStart => exact ⟨0, Nat.zero_le _, rfl, HO0.out, HB0.out⟩
        case round =>
          obtain ⟨q, hq, rfl, hown, hbel⟩ := hrel
          have hl : (gL (gV D false (E + 1)) ((1 * (E + 1)) + q)).length ≤ 256 := by have := gL_length (gV D false (E + 1)) 2 ((1 * (E + 1)) + q) (fun x _ => gV_len D (E + 1) x false); omega
          have hsz : w.heap.size + 1 ≤ wr.heap.size := by have := hbel.size; simpa using this
          by_cases hqlt : q < (E + 1)
          · obtain ⟨L, hL⟩ : ∃ L, L = gL (gV D false (E + 1)) ((1 * (E + 1)) + q) := ⟨_, rfl⟩
            rw [← hL] at hown hl
            obtain ⟨a, cap, rfl⟩ := own_slice hown
            have HO := Lib.hid hown; clear hown
            have HB := Lib.hid hbel; clear hbel
            by_cases h1 : q + 1 < (E + 1)
            · by_cases h2 : D < q + 1
              · have q1 : decide ((q : Int) + 1 < (E : Int) + 1) = true := by simp <;> omega
                have q2 : ((q : Int) + 1 == (E : Int) + 1) = false := by simp <;> omega
                have q3 : decide ((D : Int) + 1 ≤ (q : Int) + 1) = true := by simp <;> omega
                have hnext : gL (gV D false (E + 1)) ((1 * (E + 1)) + (q + 1)) = L ++ [⟨((E : Int) + 1 + ((q : Int) + 1) - 1), 1, ((E : Int) + 1 + ((q : Int) + 1))⟩] ++ [⟨((E : Int) + 1 + ((q : Int) + 1) - 1), 0, 0⟩] := by rw [← Nat.add_assoc, gL_succ, ← hL, gV_at D (E + 1) 1 q false (by decide) hqlt]; simp only [show (((1 * (E + 1)) + q : Nat) : Int) = ((E : Int) + 1 + ((q : Int) + 1) - 1) by omega, show (((E : Int) + 1 + ((q : Int) + 1) - 1) : Int) + 1 = ((E : Int) + 1 + ((q : Int) + 1)) by omega]; simp [h1, h2]
                have HN := Lib.hid hnext; clear hnext
                clear hL
                go_wp2_with (first | (at_builtin; refine wpList_append_lies _ rfl (.tmp 45) (.tmp 51) 44 rfl (w.heap.size + 1) 60 i0 _ 3 24 Try.underlying44 hi hz0 hz1 hz2 rfl (by decide) _ _ _ rfl (HO.out.alloc _) _ 1 1 (E3.cells ⟨((E : Int) + 1 + ((q : Int) + 1) - 1), 1, ((E : Int) + 1 + ((q : Int) + 1))⟩) rfl rfl (World.news_of_block (heap_alloc_new _ _)) (by simp [E3.cells, Value.oneCell']) (by omega) (by unfold maxLen; omega) (by omega) (by simp; omega) _ rfl ?_; intro g1 cap1 w1 hown' hg hat hlt'; have hsz1 : w.heap.size + 1 ≤ w1.heap.size := (by have := hg.size; simp at this; omega); have HB1 := Lib.hid ((HB.out.alloc hsz _).grown hg (by simp; omega) (fun jj hj => (HO.out.lt jj hj).1)); have HO1 := Lib.hid hown'; clear hown' hg hat hlt') | (at_builtin; refine wpList_append_lies _ rfl (.tmp 71) (.tmp 80) 44 rfl (w.heap.size + 1) 60 i0 _ 3 24 Try.underlying44 hi hz0 hz1 hz2 rfl (by decide) _ _ _ rfl (HO1.out.alloc _) _ 1 1 (E3.cells ⟨((E : Int) + 1 + ((q : Int) + 1) - 1), 0, 0⟩) rfl rfl (World.news_of_block (heap_alloc_new _ _)) (by simp [E3.cells, Value.oneCell']) (by omega) (by unfold maxLen; omega) (by omega) (by simp; omega) _ rfl ?_; intro g2 cap2 w2 hown' hg hat hlt'; have hsz2 : w.heap.size + 1 ≤ w2.heap.size := (by have := hg.size; simp at this; omega); have HB2 := Lib.hid ((HB1.out.alloc hsz1 _).grown hg (by simp; omega) (fun jj hj => (HO1.out.lt jj hj).1)); have HO2 := Lib.hid hown'; clear hown' hg hat hlt') | fail)
                go_roundw
                case rel => exact ⟨q + 1, by omega, by go_num, by rw [HN.out, ce_app, ce_app, List.length_append, List.length_append]; exact HO2.out, HB2.out⟩
                case measure => simp [intOf] <;> omega
              · have q1 : decide ((q : Int) + 1 < (E : Int) + 1) = true := by simp <;> omega
                have q2 : ((q : Int) + 1 == (E : Int) + 1) = false := by simp <;> omega
                have q3 : decide ((D : Int) + 1 ≤ (q : Int) + 1) = false := by simp <;> omega
                have hnext : gL (gV D false (E + 1)) ((1 * (E + 1)) + (q + 1)) = L ++ [⟨((E : Int) + 1 + ((q : Int) + 1) - 1), 1, ((E : Int) + 1 + ((q : Int) + 1))⟩] := by rw [← Nat.add_assoc, gL_succ, ← hL, gV_at D (E + 1) 1 q false (by decide) hqlt]; simp only [show (((1 * (E + 1)) + q : Nat) : Int) = ((E : Int) + 1 + ((q : Int) + 1) - 1) by omega, show (((E : Int) + 1 + ((q : Int) + 1) - 1) : Int) + 1 = ((E : Int) + 1 + ((q : Int) + 1)) by omega]; simp [h1, h2]
                have HN := Lib.hid hnext; clear hnext
                clear hL
                go_wp2_with (first | (at_builtin; refine wpList_append_lies _ rfl (.tmp 45) (.tmp 51) 44 rfl (w.heap.size + 1) 60 i0 _ 3 24 Try.underlying44 hi hz0 hz1 hz2 rfl (by decide) _ _ _ rfl (HO.out.alloc _) _ 1 1 (E3.cells ⟨((E : Int) + 1 + ((q : Int) + 1) - 1), 1, ((E : Int) + 1 + ((q : Int) + 1))⟩) rfl rfl (World.news_of_block (heap_alloc_new _ _)) (by simp [E3.cells, Value.oneCell']) (by omega) (by unfold maxLen; omega) (by omega) (by simp; omega) _ rfl ?_; intro g1 cap1 w1 hown' hg hat hlt'; have hsz1 : w.heap.size + 1 ≤ w1.heap.size := (by have := hg.size; simp at this; omega); have HB1 := Lib.hid ((HB.out.alloc hsz _).grown hg (by simp; omega) (fun jj hj => (HO.out.lt jj hj).1)); have HO1 := Lib.hid hown'; clear hown' hg hat hlt') | fail)
                go_roundw
                case rel => exact ⟨q + 1, by omega, by go_num, by rw [HN.out, ce_app, List.length_append]; exact HO1.out, HB1.out⟩
                case measure => simp [intOf] <;> omega
            · by_cases h2 : D < q + 1
              · have q1 : decide ((q : Int) + 1 < (E : Int) + 1) = false := by simp <;> omega
                have q2 : ((q : Int) + 1 == (E : Int) + 1) = true := by simp <;> omega
                have q3 : decide ((D : Int) + 1 ≤ (q : Int) + 1) = true := by simp <;> omega
                have hnext : gL (gV D false (E + 1)) ((1 * (E + 1)) + (q + 1)) = L ++ [⟨((E : Int) + 1 + ((q : Int) + 1) - 1), 0, 0⟩] := by rw [← Nat.add_assoc, gL_succ, ← hL, gV_at D (E + 1) 1 q false (by decide) hqlt]; simp only [show (((1 * (E + 1)) + q : Nat) : Int) = ((E : Int) + 1 + ((q : Int) + 1) - 1) by omega, show (((E : Int) + 1 + ((q : Int) + 1) - 1) : Int) + 1 = ((E : Int) + 1 + ((q : Int) + 1)) by omega]; simp [h1, h2]
                have HN := Lib.hid hnext; clear hnext
                clear hL
                go_wp2_with (first | (at_builtin; refine wpList_append_lies _ rfl (.tmp 71) (.tmp 80) 44 rfl (w.heap.size + 1) 60 i0 _ 3 24 Try.underlying44 hi hz0 hz1 hz2 rfl (by decide) _ _ _ rfl (HO.out.alloc _) _ 1 1 (E3.cells ⟨((E : Int) + 1 + ((q : Int) + 1) - 1), 0, 0⟩) rfl rfl (World.news_of_block (heap_alloc_new _ _)) (by simp [E3.cells, Value.oneCell']) (by omega) (by unfold maxLen; omega) (by omega) (by simp; omega) _ rfl ?_; intro g1 cap1 w1 hown' hg hat hlt'; have hsz1 : w.heap.size + 1 ≤ w1.heap.size := (by have := hg.size; simp at this; omega); have HB1 := Lib.hid ((HB.out.alloc hsz _).grown hg (by simp; omega) (fun jj hj => (HO.out.lt jj hj).1)); have HO1 := Lib.hid hown'; clear hown' hg hat hlt') | fail)
                go_roundw
                case rel => exact ⟨q + 1, by omega, by go_num, by rw [HN.out, ce_app, List.length_append]; exact HO1.out, HB1.out⟩
                case measure => simp [intOf] <;> omega
              · omega
          · obtain rfl : q = (E + 1) := by omega
            rw [show (1 * (E + 1)) + (E + 1) = (1 + 1) * (E + 1) by omega] at hown
            obtain ⟨a2, c2, rfl⟩ := own_slice hown
            have HO1 := Lib.hid hown; clear hown
            have HB1 := Lib.hid hbel; clear hbel
            go_wp2_with fail
            go_roundw
            case rel => exact ⟨2, 2, by omega, rfl, by first | rfl | go_num, HO1.out, HB1.out⟩
            case measure => simp [intOf] <;> omega
    · obtain ⟨rfl, rfl⟩ : a = 2 ∧ z = 2 := by omega
      clear hza ha hlt
      have hsz : w.heap.size + 1 ≤ wr.heap.size := by have := hbel.size; simpa using this
      have hbd := fun v' w' hr => rbuild_ok (2 * (E + 1)) (tL D false (E + 1)) (gL (gV D false (E + 1)) (2 * (E + 1))) v' w' (levels_tells D false (E + 1) (by omega) (by omega)) hr
      obtain ⟨C, hC⟩ : ∃ C, C = canon (2 * (E + 1)) (tL D false (E + 1)) := ⟨_, rfl⟩
      simp only [← hC] at hbd
      simp only [show ((2 * (E + 1) : Nat) : Int) = 2 * ((E : Int) + 1) by omega] at hbd
      have HBD := Lib.hid hbd; clear hbd
      have HC := Lib.hid hC; clear hC
      have hrow := own_row hown
      have HROW := Lib.hid hrow; clear hrow
      have hb0 := (Blk.new w 46 [.int .i64 0, .int .i64 0, .slice none 0 0]).below hbel (by omega)
      have HB0 := Lib.hid hb0; clear hb0
      have hbw : Below w.heap.size w wr := ((Below.refl w.heap.size w).alloc (Nat.le_refl _) (.cells #[.int .i64 0, .int .i64 0, .slice none 0 0] 46)).trans (hbel.mono (by omega))
      have HBW := Lib.hid hbw; clear hbw
      obtain ⟨a, cap, rfl⟩ := own_slice hown
      clear hbel hown
      go_wp2_with fail
      go_at_call 53
      refine (HBD.out _ _ HROW.out).mono ?_
      rintro e w2 ⟨hq, v2, rfl, hrow2, hnw⟩
      obtain ⟨a2, c2, rfl, -⟩ := hrow2.slice
      have hsw := HBW.out.size
      have hnv : (Value.slice a2 C.length c2).ownBlock ≠ some w.heap.size := fun e => by have := hnw _ e; have := HB0.out.lt; omega
      have tk := HB0.out.keep hq; have x0 := tk.cell (j := 0) rfl; have x1 := tk.cell (j := 1) rfl; have x2 := tk.cell (j := 2) rfl; have B2 := Lib.hid tk; clear tk
      have f0 := B2.out.frozen 0
      have f1 := B2.out.frozen 1
      have f2 := B2.out.frozen 2
      have HNV := Lib.hid hnv; clear hnv
      have HNW := Lib.hid hnw; clear hnw
      have HR2 := Lib.hid hrow2; clear hrow2
      have HQ := Lib.hid hq; clear hq
      go_wp2_with fail
      refine bodyPost_ret (v := .tuple #[.agg #[.int .i64 2, .int .i64 (2 * ((E : Int) + 1)), .slice a2 C.length c2], .int .i64 0]) (by simp [results, Try.results26, go_sem, *]) rfl ⟨?_, _, rfl, ?_⟩
      · have s1 := HBW.out.trans (HQ.out.mono HBW.out.size)
        exact ((s1.setCell (p := ⟨w.heap.size, 0, none⟩) (Nat.le_refl _) _).setCell (p := ⟨w.heap.size, 1, none⟩) (Nat.le_refl _) _).setCell (p := ⟨w.heap.size, 2, none⟩) (Nat.le_refl _) _
      · rw [← HC.out]; exact row_setCell (row_setCell (row_setCell HR2.out ⟨w.heap.size, 0, none⟩ _ HNV.out) ⟨w.heap.size, 1, none⟩ _ HNV.out) ⟨w.heap.size, 2, none⟩ _ HNV.out

set_option maxRecDepth 100000 in
set_option maxHeartbeats 3200000 in
theorem rlevels_inf_long (D : Nat) (w : World) (hE : 64 < 2 * (D + 1)) (hE2 : D < 64) :
    Calls Try.prog 26 #[.int .i64 (D : Int), .int .i64 (-1)] w (GOut 0 0 [] 4 w) := by
  obtain ⟨i0, hi, hz0, hz1, hz2⟩ := info_parts infoEdge
  have hp : pairB (D : Int) (-1) = true := by simp [pairB]
  have hE64 : ¬ 64 ≤ (D : Int) := by omega
  have HP := Lib.hid hp; clear hp
  go_enter Try.func26, Try.ntmps26
  go_wp2_with fail
  go_at_call 46
  refine (rpair_any _ _ _).mono ?_
  rintro e w' ⟨rfl, rfl⟩
  rw [HP.out]
  go_wp2_with fail
  go_loopw [7, 8] (fun u i wr => ∃ (a : Nat) (z : Int), a ≤ 2 ∧ z = (a : Int) ∧ i = .int .i64 z ∧ wr.ownsRow (w.heap.size + 1) 60 3 u (gL (gV D true (D + 1)) (a * (D + 1))).length (ce (gL (gV D true (D + 1)) (a * (D + 1)))) ∧ Below (w.heap.size + 1) (w.alloc (.cells #[.int .i64 0, .int .i64 0, .slice none 0 0] 46)) wr) (fun _ i _ => 2 - (intOf i).toNat)
  case atStart => exact ⟨0, 0, Nat.zero_le _, rfl, rfl, by rw [Nat.zero_mul]; exact World.ownsRow_nil _ _ _ _, Below.refl _ _⟩
  case round =>
    obtain ⟨a, z, ha, hza, rfl, hown, hbel⟩ := hrel
    by_cases hlt : a < 2
    · obtain ⟨rfl, rfl⟩ | ⟨rfl, rfl⟩ : (a = 0 ∧ z = 0) ∨ (a = 1 ∧ z = 1) := by omega
      · clear hza ha hlt
        obtain ⟨au, cu, rfl⟩ := own_slice hown
        have HO0 := Lib.hid hown; clear hown
        have HB0 := Lib.hid hbel; clear hbel
        go_wp2_with fail
        go_loopw [7, 9] (fun u i wr => ∃ q : Nat, q ≤ (D + 1) ∧ i = .int .i64 ((q : Int) + 1) ∧ wr.ownsRow (w.heap.size + 1) 60 3 u (gL (gV D true (D + 1)) ((0 * (D + 1)) + q)).length (ce (gL (gV D true (D + 1)) ((0 * (D + 1)) + q))) ∧ Below (w.heap.size + 1) (w.alloc (.cells #[.int .i64 0, .int .i64 0, .slice none 0 0] 46)) wr) (fun _ i _ => (D + 1) + 1 - (intOf i).toNat)
        case atStart => exact ⟨0, Nat.zero_le _, rfl, HO0.out, HB0.out⟩
        case round =>
          obtain ⟨q, hq, rfl, hown, hbel⟩ := hrel
          have hl : (gL (gV D true (D + 1)) ((0 * (D + 1)) + q)).length ≤ 256 := by have := gL_length (gV D true (D + 1)) 2 ((0 * (D + 1)) + q) (fun x _ => gV_len D (D + 1) x true); omega
          have hsz : w.heap.size + 1 ≤ wr.heap.size := by have := hbel.size; simpa using this
          by_cases hqlt : q < (D + 1)
          · obtain ⟨L, hL⟩ : ∃ L, L = gL (gV D true (D + 1)) ((0 * (D + 1)) + q) := ⟨_, rfl⟩
            rw [← hL] at hown hl
            obtain ⟨a, cap, rfl⟩ := own_slice hown
            have HO := Lib.hid hown; clear hown
            have HB := Lib.hid hbel; clear hbel
            by_cases h1 : q + 1 < (D + 1)
            · by_cases h2 : D < q + 1
              · omega
              · have q1 : decide ((q : Int) + 1 < (D : Int) + 1) = true := by simp <;> omega
                have q2 : ((q : Int) + 1 == (D : Int) + 1) = false := by simp <;> omega
                have q3 : decide ((D : Int) + 1 ≤ (q : Int) + 1) = false := by simp <;> omega
                have hnext : gL (gV D true (D + 1)) ((0 * (D + 1)) + (q + 1)) = L ++ [⟨(q : Int), 0, ((q : Int) + 1)⟩] := by rw [← Nat.add_assoc, gL_succ, ← hL, gV_at D (D + 1) 0 q true (by decide) hqlt]; simp only [show (((0 * (D + 1)) + q : Nat) : Int) = (q : Int) by omega, show ((q : Int) : Int) + 1 = ((q : Int) + 1) by omega]; simp [h1, h2]
                have HN := Lib.hid hnext; clear hnext
                clear hL
                go_wp2_with (first | (at_builtin; refine wpList_append_lies _ rfl (.tmp 45) (.tmp 51) 44 rfl (w.heap.size + 1) 60 i0 _ 3 24 Try.underlying44 hi hz0 hz1 hz2 rfl (by decide) _ _ _ rfl (HO.out.alloc _) _ 1 1 (E3.cells ⟨(q : Int), 0, ((q : Int) + 1)⟩) rfl rfl (World.news_of_block (heap_alloc_new _ _)) (by simp [E3.cells, Value.oneCell']) (by omega) (by unfold maxLen; omega) (by omega) (by simp; omega) _ rfl ?_; intro g1 cap1 w1 hown' hg hat hlt'; have hsz1 : w.heap.size + 1 ≤ w1.heap.size := (by have := hg.size; simp at this; omega); have HB1 := Lib.hid ((HB.out.alloc hsz _).grown hg (by simp; omega) (fun jj hj => (HO.out.lt jj hj).1)); have HO1 := Lib.hid hown'; clear hown' hg hat hlt') | fail)
                go_roundw
                case rel => exact ⟨q + 1, by omega, by go_num, by rw [HN.out, ce_app, List.length_append]; exact HO1.out, HB1.out⟩
                case measure => simp [intOf] <;> omega
            · by_cases h2 : D < q + 1
              · have q1 : decide ((q : Int) + 1 < (D : Int) + 1) = false := by simp <;> omega
                have q2 : ((q : Int) + 1 == (D : Int) + 1) = true := by simp <;> omega
                have q3 : decide ((D : Int) + 1 ≤ (q : Int) + 1) = true := by simp <;> omega
                have hnext : gL (gV D true (D + 1)) ((0 * (D + 1)) + (q + 1)) = L ++ [⟨(q : Int), 0, (q : Int)⟩] ++ [⟨(q : Int), 1, ((D : Int) + 1)⟩] := by rw [← Nat.add_assoc, gL_succ, ← hL, gV_at D (D + 1) 0 q true (by decide) hqlt]; simp only [show (((0 * (D + 1)) + q : Nat) : Int) = (q : Int) by omega, show ((q : Int) : Int) + 1 = ((q : Int) + 1) by omega]; simp [h1, h2]
                have HN := Lib.hid hnext; clear hnext
                clear hL
                go_wp2_with (first | (at_builtin; refine wpList_append_lies _ rfl (.tmp 60) (.tmp 65) 44 rfl (w.heap.size + 1) 60 i0 _ 3 24 Try.underlying44 hi hz0 hz1 hz2 rfl (by decide) _ _ _ rfl (HO.out.alloc _) _ 1 1 (E3.cells ⟨(q : Int), 0, (q : Int)⟩) rfl rfl (World.news_of_block (heap_alloc_new _ _)) (by simp [E3.cells, Value.oneCell']) (by omega) (by unfold maxLen; omega) (by omega) (by simp; omega) _ rfl ?_; intro g1 cap1 w1 hown' hg hat hlt'; have hsz1 : w.heap.size + 1 ≤ w1.heap.size := (by have := hg.size; simp at this; omega); have HB1 := Lib.hid ((HB.out.alloc hsz _).grown hg (by simp; omega) (fun jj hj => (HO.out.lt jj hj).1)); have HO1 := Lib.hid hown'; clear hown' hg hat hlt') | (at_builtin; refine wpList_append_lies _ rfl (.tmp 71) (.tmp 80) 44 rfl (w.heap.size + 1) 60 i0 _ 3 24 Try.underlying44 hi hz0 hz1 hz2 rfl (by decide) _ _ _ rfl (HO1.out.alloc _) _ 1 1 (E3.cells ⟨(q : Int), 1, ((D : Int) + 1)⟩) rfl rfl (World.news_of_block (heap_alloc_new _ _)) (by simp [E3.cells, Value.oneCell']) (by omega) (by unfold maxLen; omega) (by omega) (by simp; omega) _ rfl ?_; intro g2 cap2 w2 hown' hg hat hlt'; have hsz2 : w.heap.size + 1 ≤ w2.heap.size := (by have := hg.size; simp at this; omega); have HB2 := Lib.hid ((HB1.out.alloc hsz1 _).grown hg (by simp; omega) (fun jj hj => (HO1.out.lt jj hj).1)); have HO2 := Lib.hid hown'; clear hown' hg hat hlt') | fail)
                go_roundw
                case rel => exact ⟨q + 1, by omega, by go_num, by rw [HN.out, ce_app, ce_app, List.length_append, List.length_append]; exact HO2.out, HB2.out⟩
                case measure => simp [intOf] <;> omega
              · omega
          · obtain rfl : q = (D + 1) := by omega
            rw [show (0 * (D + 1)) + (D + 1) = (0 + 1) * (D + 1) by omega] at hown
            obtain ⟨a2, c2, rfl⟩ := own_slice hown
            have HO1 := Lib.hid hown; clear hown
            have HB1 := Lib.hid hbel; clear hbel
            go_wp2_with fail
            go_roundw
            case rel => exact ⟨1, 1, by omega, rfl, by first | rfl | go_num, HO1.out, HB1.out⟩
            case measure => simp [intOf] <;> omega
      · clear hza ha hlt
        obtain ⟨au, cu, rfl⟩ := own_slice hown
        have HO0 := Lib.hid hown; clear hown
        have HB0 := Lib.hid hbel; clear hbel
        go_wp2_with fail
        go_loopw [7, 9] (fun u i wr => ∃ q : Nat, q ≤ (D + 1) ∧ i = .int .i64 ((q : Int) + 1) ∧ wr.ownsRow (w.heap.size + 1) 60 3 u (gL (gV D true (D + 1)) ((1 * (D + 1)) + q)).length (ce (gL (gV D true (D + 1)) ((1 * (D + 1)) + q))) ∧ Below (w.heap.size + 1) (w.alloc (.cells #[.int .i64 0, .int .i64 0, .slice none 0 0] 46)) wr) (fun _ i _ => (D + 1) + 1 - (intOf i).toNat)
        case atStart => exact ⟨0, Nat.zero_le _, rfl, HO0.out, HB0.out⟩
        case round =>
          obtain ⟨q, hq, rfl, hown, hbel⟩ := hrel
          have hl : (gL (gV D true (D + 1)) ((1 * (D + 1)) + q)).length ≤ 256 := by have := gL_length (gV D true (D + 1)) 2 ((1 * (D + 1)) + q) (fun x _ => gV_len D (D + 1) x true); omega
          have hsz : w.heap.size + 1 ≤ wr.heap.size := by have := hbel.size; simpa using this
          by_cases hqlt : q < (D + 1)
          · obtain ⟨L, hL⟩ : ∃ L, L = gL (gV D true (D + 1)) ((1 * (D + 1)) + q) := ⟨_, rfl⟩
            rw [← hL] at hown hl
            obtain ⟨a, cap, rfl⟩ := own_slice hown
            have HO := Lib.hid hown; clear hown
            have HB := Lib.hid hbel; clear hbel
            by_cases h1 : q + 1 < (D + 1)
            · by_cases h2 : D < q + 1
              · omega
              · have q1 : decide ((q : Int) + 1 < (D : Int) + 1) = true := by simp <;> omega
                have q2 : ((q : Int) + 1 == (D : Int) + 1) = false := by simp <;> omega
                have q3 : decide ((D : Int) + 1 ≤ (q : Int) + 1) = false := by simp <;> omega
                have hnext : gL (gV D true (D + 1)) ((1 * (D + 1)) + (q + 1)) = L ++ [⟨((D : Int) + 1 + ((q : Int) + 1) - 1), 1, ((D : Int) + 1 + ((q : Int) + 1))⟩] := by rw [← Nat.add_assoc, gL_succ, ← hL, gV_at D (D + 1) 1 q true (by decide) hqlt]; simp only [show (((1 * (D + 1)) + q : Nat) : Int) = ((D : Int) + 1 + ((q : Int) + 1) - 1) by omega, show (((D : Int) + 1 + ((q : Int) + 1) - 1) : Int) + 1 = ((D : Int) + 1 + ((q : Int) + 1)) by omega]; simp [h1, h2]
                have HN := Lib.hid hnext; clear hnext
                clear hL
                go_wp2_with (first | (at_builtin; refine wpList_append_lies _ rfl (.tmp 45) (.tmp 51) 44 rfl (w.heap.size + 1) 60 i0 _ 3 24 Try.underlying44 hi hz0 hz1 hz2 rfl (by decide) _ _ _ rfl (HO.out.alloc _) _ 1 1 (E3.cells ⟨((D : Int) + 1 + ((q : Int) + 1) - 1), 1, ((D : Int) + 1 + ((q : Int) + 1))⟩) rfl rfl (World.news_of_block (heap_alloc_new _ _)) (by simp [E3.cells, Value.oneCell']) (by omega) (by unfold maxLen; omega) (by omega) (by simp; omega) _ rfl ?_; intro g1 cap1 w1 hown' hg hat hlt'; have hsz1 : w.heap.size + 1 ≤ w1.heap.size := (by have := hg.size; simp at this; omega); have HB1 := Lib.hid ((HB.out.alloc hsz _).grown hg (by simp; omega) (fun jj hj => (HO.out.lt jj hj).1)); have HO1 := Lib.hid hown'; clear hown' hg hat hlt') | fail)
                go_roundw
                case rel => exact ⟨q + 1, by omega, by go_num, by rw [HN.out, ce_app, List.length_append]; exact HO1.out, HB1.out⟩
                case measure => simp [intOf] <;> omega
            · by_cases h2 : D < q + 1
              · have q1 : decide ((q : Int) + 1 < (D : Int) + 1) = false := by simp <;> omega
                have q2 : ((q : Int) + 1 == (D : Int) + 1) = true := by simp <;> omega
                have q3 : decide ((D : Int) + 1 ≤ (q : Int) + 1) = true := by simp <;> omega
                have hnext : gL (gV D true (D + 1)) ((1 * (D + 1)) + (q + 1)) = L ++ [⟨((D : Int) + 1 + ((q : Int) + 1) - 1), 1, ((D : Int) + 1 + ((q : Int) + 1) - 1)⟩] ++ [⟨((D : Int) + 1 + ((q : Int) + 1) - 1), 0, 0⟩] := by rw [← Nat.add_assoc, gL_succ, ← hL, gV_at D (D + 1) 1 q true (by decide) hqlt]; simp only [show (((1 * (D + 1)) + q : Nat) : Int) = ((D : Int) + 1 + ((q : Int) + 1) - 1) by omega, show (((D : Int) + 1 + ((q : Int) + 1) - 1) : Int) + 1 = ((D : Int) + 1 + ((q : Int) + 1)) by omega]; simp [h1, h2]
                have HN := Lib.hid hnext; clear hnext
                clear hL
                go_wp2_with (first | (at_builtin; refine wpList_append_lies _ rfl (.tmp 60) (.tmp 65) 44 rfl (w.heap.size + 1) 60 i0 _ 3 24 Try.underlying44 hi hz0 hz1 hz2 rfl (by decide) _ _ _ rfl (HO.out.alloc _) _ 1 1 (E3.cells ⟨((D : Int) + 1 + ((q : Int) + 1) - 1), 1, ((D : Int) + 1 + ((q : Int) + 1) - 1)⟩) rfl rfl (World.news_of_block (heap_alloc_new _ _)) (by simp [E3.cells, Value.oneCell']) (by omega) (by unfold maxLen; omega) (by omega) (by simp; omega) _ rfl ?_; intro g1 cap1 w1 hown' hg hat hlt'; have hsz1 : w.heap.size + 1 ≤ w1.heap.size := (by have := hg.size; simp at this; omega); have HB1 := Lib.hid ((HB.out.alloc hsz _).grown hg (by simp; omega) (fun jj hj => (HO.out.lt jj hj).1)); have HO1 := Lib.hid hown'; clear hown' hg hat hlt') | (at_builtin; refine wpList_append_lies _ rfl (.tmp 71) (.tmp 80) 44 rfl (w.heap.size + 1) 60 i0 _ 3 24 Try.underlying44 hi hz0 hz1 hz2 rfl (by decide) _ _ _ rfl (HO1.out.alloc _) _ 1 1 (E3.cells ⟨((D : Int) + 1 + ((q : Int) + 1) - 1), 0, 0⟩) rfl rfl (World.news_of_block (heap_alloc_new _ _)) (by simp [E3.cells, Value.oneCell']) (by omega) (by unfold maxLen; omega) (by omega) (by simp; omega) _ rfl ?_; intro g2 cap2 w2 hown' hg hat hlt'; have hsz2 : w.heap.size + 1 ≤ w2.heap.size := (by have := hg.size; simp at this; omega); have HB2 := Lib.hid ((HB1.out.alloc hsz1 _).grown hg (by simp; omega) (fun jj hj => (HO1.out.lt jj hj).1)); have HO2 := Lib.hid hown'; clear hown' hg hat hlt') | fail)
                go_roundw
                case rel => exact ⟨q + 1, by omega, by go_num, by rw [HN.out, ce_app, ce_app, List.length_append, List.length_append]; exact HO2.out, HB2.out⟩
                case measure => simp [intOf] <;> omega
              · omega
          · obtain rfl : q = (D + 1) := by omega
            rw [show (1 * (D + 1)) + (D + 1) = (1 + 1) * (D + 1) by omega] at hown
            obtain ⟨a2, c2, rfl⟩ := own_slice hown
            have HO1 := Lib.hid hown; clear hown
            have HB1 := Lib.hid hbel; clear hbel
            go_wp2_with fail
            go_roundw
            case rel => exact ⟨2, 2, by omega, rfl, by first | rfl | go_num, HO1.out, HB1.out⟩
            case measure => simp [intOf] <;> omega
    · obtain ⟨rfl, rfl⟩ : a = 2 ∧ z = 2 := by omega
      clear hza ha hlt
      have hsz : w.heap.size + 1 ≤ wr.heap.size := by have := hbel.size; simpa using this
      have hbd := fun v' w' => rbuild_no (2 * ((D : Int) + 1)) v' w' (by omega)
      have HBD := Lib.hid hbd; clear hbd
      have hb0 := (Blk.new w 46 [.int .i64 0, .int .i64 0, .slice none 0 0]).below hbel (by omega)
      have HB0 := Lib.hid hb0; clear hb0
      have hbw : Below w.heap.size w wr := ((Below.refl w.heap.size w).alloc (Nat.le_refl _) (.cells #[.int .i64 0, .int .i64 0, .slice none 0 0] 46)).trans (hbel.mono (by omega))
      have HBW := Lib.hid hbw; clear hbw
      obtain ⟨a, cap, rfl⟩ := own_slice hown
      clear hbel hown
      go_wp2_with fail
      go_at_call 53
      refine (HBD.out _ _).mono ?_
      rintro e w2 ⟨hq, v2, rfl, hrow2, hnw⟩
      obtain ⟨a2, c2, rfl, -⟩ := hrow2.slice
      have hsw := HBW.out.size
      have hnv : (Value.slice a2 0 c2).ownBlock ≠ some w.heap.size := fun e => by have := hnw _ e; have := HB0.out.lt; omega
      have tk := HB0.out.keep hq; have x0 := tk.cell (j := 0) rfl; have x1 := tk.cell (j := 1) rfl; have x2 := tk.cell (j := 2) rfl; have B2 := Lib.hid tk; clear tk
      have f0 := B2.out.frozen 0
      have f1 := B2.out.frozen 1
      have f2 := B2.out.frozen 2
      have HNV := Lib.hid hnv; clear hnv
      have HNW := Lib.hid hnw; clear hnw
      have HR2 := Lib.hid hrow2; clear hrow2
      have HQ := Lib.hid hq; clear hq
      go_wp2_with fail
      refine bodyPost_ret (v := .tuple #[.agg #[.int .i64 0, .int .i64 0, .slice a2 0 c2], .int .i64 4]) (by simp [results, Try.results26, go_sem, *]) rfl ⟨?_, _, rfl, ?_⟩
      · have s1 := HBW.out.trans (HQ.out.mono HBW.out.size)
        exact ((s1.setCell (p := ⟨w.heap.size, 0, none⟩) (Nat.le_refl _) _).setCell (p := ⟨w.heap.size, 1, none⟩) (Nat.le_refl _) _).setCell (p := ⟨w.heap.size, 2, none⟩) (Nat.le_refl _) _
      · exact row_setCell (row_setCell (row_setCell HR2.out ⟨w.heap.size, 0, none⟩ _ HNV.out) ⟨w.heap.size, 1, none⟩ _ HNV.out) ⟨w.heap.size, 2, none⟩ _ HNV.out
set_option maxRecDepth 100000 in
set_option maxHeartbeats 3200000 in
theorem rlevels_fin_long (D E : Nat) (w : World) (hDE : D ≤ E) (hE : 64 < 2 * (E + 1)) (hE2 : E < 64) :
    Calls Try.prog 26 #[.int .i64 (D : Int), .int .i64 (E : Int)] w (GOut 0 0 [] 4 w) := by
  obtain ⟨i0, hi, hz0, hz1, hz2⟩ := info_parts infoEdge
  have hp : pairB (D : Int) (E : Int) = true := by simp [pairB] <;> omega
  have hE64 : ¬ 64 ≤ (E : Int) := by omega
  have hk1 : ((E : Int) == -1) = false := by simp <;> omega
  have HP := Lib.hid hp; clear hp
  go_enter Try.func26, Try.ntmps26
  go_wp2_with fail
  go_at_call 46
  refine (rpair_any _ _ _).mono ?_
  rintro e w' ⟨rfl, rfl⟩
  rw [HP.out]
  go_wp2_with fail
  go_loopw [7, 8] (fun u i wr => ∃ (a : Nat) (z : Int), a ≤ 2 ∧ z = (a : Int) ∧ i = .int .i64 z ∧ wr.ownsRow (w.heap.size + 1) 60 3 u (gL (gV D false (E + 1)) (a * (E + 1))).length (ce (gL (gV D false (E + 1)) (a * (E + 1)))) ∧ Below (w.heap.size + 1) (w.alloc (.cells #[.int .i64 0, .int .i64 0, .slice none 0 0] 46)) wr) (fun _ i _ => 2 - (intOf i).toNat)
  case atStart => exact ⟨0, 0, Nat.zero_le _, rfl, rfl, by rw [Nat.zero_mul]; exact World.ownsRow_nil _ _ _ _, Below.refl _ _⟩
  case round =>
    obtain ⟨a, z, ha, hza, rfl, hown, hbel⟩ := hrel
    by_cases hlt : a < 2
    · obtain ⟨rfl, rfl⟩ | ⟨rfl, rfl⟩ : (a = 0 ∧ z = 0) ∨ (a = 1 ∧ z = 1) := by omega
      · clear hza ha hlt
        obtain ⟨au, cu, rfl⟩ := own_slice hown
        have HO0 := Lib.hid hown; clear hown
        have HB0 := Lib.hid hbel; clear hbel
        go_wp2_with fail
        go_loopw [7, 9] (fun u i wr => ∃ q : Nat, q ≤ (E + 1) ∧ i = .int .i64 ((q : Int) + 1) ∧ wr.ownsRow (w.heap.size + 1) 60 3 u (gL (gV D false (E + 1)) ((0 * (E + 1)) + q)).length (ce (gL (gV D false (E + 1)) ((0 * (E + 1)) + q))) ∧ Below (w.heap.size + 1) (w.alloc (.cells #[.int .i64 0, .int .i64 0, .slice none 0 0] 46)) wr) (fun _ i _ => (E + 1) + 1 - (intOf i).toNat)
        case atStart => exact ⟨0, Nat.zero_le _, rfl, HO0.out, HB0.out⟩
        case round =>
          obtain ⟨q, hq, rfl, hown, hbel⟩ := hrel
          have hl : (gL (gV D false (E + 1)) ((0 * (E + 1)) + q)).length ≤ 256 := by have := gL_length (gV D false (E + 1)) 2 ((0 * (E + 1)) + q) (fun x _ => gV_len D (E + 1) x false); omega
          have hsz : w.heap.size + 1 ≤ wr.heap.size := by have := hbel.size; simpa using this
          by_cases hqlt : q < (E + 1)
          · obtain ⟨L, hL⟩ : ∃ L, L = gL (gV D false (E + 1)) ((0 * (E + 1)) + q) := ⟨_, rfl⟩
            rw [← hL] at hown hl
            obtain ⟨a, cap, rfl⟩ := own_slice hown
            have HO := Lib.hid hown; clear hown
            have HB := Lib.hid hbel; clear hbel
            by_cases h1 : q + 1 < (E + 1)
            · by_cases h2 : D < q + 1
              · have q1 : decide ((q : Int) + 1 < (E : Int) + 1) = true := by simp <;> omega
                have q2 : ((q : Int) + 1 == (E : Int) + 1) = false := by simp <;> omega
                have q3 : decide ((D : Int) + 1 ≤ (q : Int) + 1) = true := by simp <;> omega
                have hnext : gL (gV D false (E + 1)) ((0 * (E + 1)) + (q + 1)) = L ++ [⟨(q : Int), 0, ((q : Int) + 1)⟩] ++ [⟨(q : Int), 1, ((E : Int) + 1)⟩] := by rw [← Nat.add_assoc, gL_succ, ← hL, gV_at D (E + 1) 0 q false (by decide) hqlt]; simp only [show (((0 * (E + 1)) + q : Nat) : Int) = (q : Int) by omega, show ((q : Int) : Int) + 1 = ((q : Int) + 1) by omega]; simp [h1, h2]
                have HN := Lib.hid hnext; clear hnext
                clear hL
                go_wp2_with (first | (at_builtin; refine wpList_append_lies _ rfl (.tmp 45) (.tmp 51) 44 rfl (w.heap.size + 1) 60 i0 _ 3 24 Try.underlying44 hi hz0 hz1 hz2 rfl (by decide) _ _ _ rfl (HO.out.alloc _) _ 1 1 (E3.cells ⟨(q : Int), 0, ((q : Int) + 1)⟩) rfl rfl (World.news_of_block (heap_alloc_new _ _)) (by simp [E3.cells, Value.oneCell']) (by omega) (by unfold maxLen; omega) (by omega) (by simp; omega) _ rfl ?_; intro g1 cap1 w1 hown' hg hat hlt'; have hsz1 : w.heap.size + 1 ≤ w1.heap.size := (by have := hg.size; simp at this; omega); have HB1 := Lib.hid ((HB.out.alloc hsz _).grown hg (by simp; omega) (fun jj hj => (HO.out.lt jj hj).1)); have HO1 := Lib.hid hown'; clear hown' hg hat hlt') | (at_builtin; refine wpList_append_lies _ rfl (.tmp 71) (.tmp 80) 44 rfl (w.heap.size + 1) 60 i0 _ 3 24 Try.underlying44 hi hz0 hz1 hz2 rfl (by decide) _ _ _ rfl (HO1.out.alloc _) _ 1 1 (E3.cells ⟨(q : Int), 1, ((E : Int) + 1)⟩) rfl rfl (World.news_of_block (heap_alloc_new _ _)) (by simp [E3.cells, Value.oneCell']) (by omega) (by unfold maxLen; omega) (by omega) (by simp; omega) _ rfl ?_; intro g2 cap2 w2 hown' hg hat hlt'; have hsz2 : w.heap.size + 1 ≤ w2.heap.size := (by have := hg.size; simp at this; omega); have HB2 := Lib.hid ((HB1.out.alloc hsz1 _).grown hg (by simp; omega) (fun jj hj => (HO1.out.lt jj hj).1)); have HO2 := Lib.hid hown'; clear hown' hg hat hlt') | fail)
                go_roundw
                case rel => exact ⟨q + 1, by omega, by go_num, by rw [HN.out, ce_app, ce_app, List.length_append, List.length_append]; exact HO2.out, HB2.out⟩
                case measure => simp [intOf] <;> omega
              · have q1 : decide ((q : Int) + 1 < (E : Int) + 1) = true := by simp <;> omega
                have q2 : ((q : Int) + 1 == (E : Int) + 1) = false := by simp <;> omega
                have q3 : decide ((D : Int) + 1 ≤ (q : Int) + 1) = false := by simp <;> omega
                have hnext : gL (gV D false (E + 1)) ((0 * (E + 1)) + (q + 1)) = L ++ [⟨(q : Int), 0, ((q : Int) + 1)⟩] := by rw [← Nat.add_assoc, gL_succ, ← hL, gV_at D (E + 1) 0 q false (by decide) hqlt]; simp only [show (((0 * (E + 1)) + q : Nat) : Int) = (q : Int) by omega, show ((q : Int) : Int) + 1 = ((q : Int) + 1) by omega]; simp [h1, h2]
                have HN := Lib.hid hnext; clear hnext
                clear hL
                go_wp2_with (first | (at_builtin; refine wpList_append_lies _ rfl (.tmp 45) (.tmp 51) 44 rfl (w.heap.size + 1) 60 i0 _ 3 24 Try.underlying44 hi hz0 hz1 hz2 rfl (by decide) _ _ _ rfl (HO.out.alloc _) _ 1 1 (E3.cells ⟨(q : Int), 0, ((q : Int) + 1)⟩) rfl rfl (World.news_of_block (heap_alloc_new _ _)) (by simp [E3.cells, Value.oneCell']) (by omega) (by unfold maxLen; omega) (by omega) (by simp; omega) _ rfl ?_; intro g1 cap1 w1 hown' hg hat hlt'; have hsz1 : w.heap.size + 1 ≤ w1.heap.size := (by have := hg.size; simp at this; omega); have HB1 := Lib.hid ((HB.out.alloc hsz _).grown hg (by simp; omega) (fun jj hj => (HO.out.lt jj hj).1)); have HO1 := Lib.hid hown'; clear hown' hg hat hlt') | fail)
                go_roundw
                case rel => exact ⟨q + 1, by omega, by go_num, by rw [HN.out, ce_app, List.length_append]; exact HO1.out, HB1.out⟩
                case measure => simp [intOf] <;> omega
            · by_cases h2 : D < q + 1
              · have q1 : decide ((q : Int) + 1 < (E : Int) + 1) = false := by simp <;> omega
                have q2 : ((q : Int) + 1 == (E : Int) + 1) = true := by simp <;> omega
                have q3 : decide ((D : Int) + 1 ≤ (q : Int) + 1) = true := by simp <;> omega
                have hnext : gL (gV D false (E + 1)) ((0 * (E + 1)) + (q + 1)) = L ++ [⟨(q : Int), 1, ((E : Int) + 1)⟩] := by rw [← Nat.add_assoc, gL_succ, ← hL, gV_at D (E + 1) 0 q false (by decide) hqlt]; simp only [show (((0 * (E + 1)) + q : Nat) : Int) = (q : Int) by omega, show ((q : Int) : Int) + 1 = ((q : Int) + 1) by omega]; simp [h1, h2]
                have HN := Lib.hid hnext; clear hnext
                clear hL
                go_wp2_with (first | (at_builtin; refine wpList_append_lies _ rfl (.tmp 71) (.tmp 80) 44 rfl (w.heap.size + 1) 60 i0 _ 3 24 Try.underlying44 hi hz0 hz1 hz2 rfl (by decide) _ _ _ rfl (HO.out.alloc _) _ 1 1 (E3.cells ⟨(q : Int), 1, ((E : Int) + 1)⟩) rfl rfl (World.news_of_block (heap_alloc_new _ _)) (by simp [E3.cells, Value.oneCell']) (by omega) (by unfold maxLen; omega) (by omega) (by simp; omega) _ rfl ?_; intro g1 cap1 w1 hown' hg hat hlt'; have hsz1 : w.heap.size + 1 ≤ w1.heap.size := (by have := hg.size; simp at this; omega); have HB1 := Lib.hid ((HB.out.alloc hsz _).grown hg (by simp; omega) (fun jj hj => (HO.out.lt jj hj).1)); have HO1 := Lib.hid hown'; clear hown' hg hat hlt') | fail)
                go_roundw
                case rel => exact ⟨q + 1, by omega, by go_num, by rw [HN.out, ce_app, List.length_append]; exact HO1.out, HB1.out⟩
                case measure => simp [intOf] <;> omega
              · omega
          · obtain rfl : q = (E + 1) := by omega
            rw [show (0 * (E + 1)) + (E + 1) = (0 + 1) * (E + 1) by omega] at hown
            obtain ⟨a2, c2, rfl⟩ := own_slice hown
            have HO1 := Lib.hid hown; clear hown
            have HB1 := Lib.hid hbel; clear hbel
            go_wp2_with fail
            go_roundw
            case rel => exact ⟨1, 1, by omega, rfl, by first | rfl | go_num, HO1.out, HB1.out⟩
            case measure => simp [intOf] <;> omega
      · clear hza ha hlt
        obtain ⟨au, cu, rfl⟩ := own_slice hown
        have HO0 := Lib.hid hown; clear hown
        have HB0 := Lib.hid hbel; clear hbel
        go_wp2_with fail
        go_loopw [7, 9] (fun u i wr => ∃ q : Nat, q ≤ (E + 1) ∧ i = .int .i64 ((q : Int) + 1) ∧ wr.ownsRow (w.heap.size + 1) 60 3 u (gL (gV D false (E + 1)) ((1 * (E + 1)) + q)).length (ce (gL (gV D false (E + 1)) ((1 * (E + 1)) + q))) ∧ Below (w.heap.size + 1) (w.alloc (.cells #[.int .i64 0, .int .i64 0, .slice none 0 0] 46)) wr) (fun _ i _ => (E + 1) + 1 - (intOf i).toNat)
        case atStart => exact ⟨0, Nat.zero_le _, rfl, HO0.out, HB0.out⟩
        case round =>
          obtain ⟨q, hq, rfl, hown, hbel⟩ := hrel
          have hl : (gL (gV D false (E + 1)) ((1 * (E + 1)) + q)).length ≤ 256 := by have := gL_length (gV D false (E + 1)) 2 ((1 * (E + 1)) + q) (fun x _ => gV_len D (E + 1) x false); omega
          have hsz : w.heap.size + 1 ≤ wr.heap.size := by have := hbel.size; simpa using this
          by_cases hqlt : q < (E + 1)
          · obtain ⟨L, hL⟩ : ∃ L, L = gL (gV D false (E + 1)) ((1 * (E + 1)) + q) := ⟨_, rfl⟩
            rw [← hL] at hown hl
            obtain ⟨a, cap, rfl⟩ := own_slice hown
            have HO := Lib.hid hown; clear hown
            have HB := Lib.hid hbel; clear hbel
            by_cases h1 : q + 1 < (E + 1)
            · by_cases h2 : D < q + 1
              · have q1 : decide ((q : Int) + 1 < (E : Int) + 1) = true := by simp <;> omega
                have q2 : ((q : Int) + 1 == (E : Int) + 1) = false := by simp <;> omega
                have q3 : decide ((D : Int) + 1 ≤ (q : Int) + 1) = true := by simp <;> omega
                have hnext : gL (gV D false (E + 1)) ((1 * (E + 1)) + (q + 1)) = L ++ [⟨((E : Int) + 1 + ((q : Int) + 1) - 1), 1, ((E : Int) + 1 + ((q : Int) + 1))⟩] ++ [⟨((E : Int) + 1 + ((q : Int) + 1) - 1), 0, 0⟩] := by rw [← Nat.add_assoc, gL_succ, ← hL, gV_at D (E + 1) 1 q false (by decide) hqlt]; simp only [show (((1 * (E + 1)) + q : Nat) : Int) = ((E : Int) + 1 + ((q : Int) + 1) - 1) by omega, show (((E : Int) + 1 + ((q : Int) + 1) - 1) : Int) + 1 = ((E : Int) + 1 + ((q : Int) + 1)) by omega]; simp [h1, h2]
                have HN := Lib.hid hnext; clear hnext
                clear hL
                go_wp2_with (first | (at_builtin; refine wpList_append_lies _ rfl (.tmp 45) (.tmp 51) 44 rfl (w.heap.size + 1) 60 i0 _ 3 24 Try.underlying44 hi hz0 hz1 hz2 rfl (by decide) _ _ _ rfl (HO.out.alloc _) _ 1 1 (E3.cells ⟨((E : Int) + 1 + ((q : Int) + 1) - 1), 1, ((E : Int) + 1 + ((q : Int) + 1))⟩) rfl rfl (World.news_of_block (heap_alloc_new _ _)) (by simp [E3.cells, Value.oneCell']) (by omega) (by unfold maxLen; omega) (by omega) (by simp; omega) _ rfl ?_; intro g1 cap1 w1 hown' hg hat hlt'; have hsz1 : w.heap.size + 1 ≤ w1.heap.size := (by have := hg.size; simp at this; omega); have HB1 := Lib.hid ((HB.out.alloc hsz _).grown hg (by simp; omega) (fun jj hj => (HO.out.lt jj hj).1)); have HO1 := Lib.hid hown'; clear hown' hg hat hlt') | (at_builtin; refine wpList_append_lies _ rfl (.tmp 71) (.tmp 80) 44 rfl (w.heap.size + 1) 60 i0 _ 3 24 Try.underlying44 hi hz0 hz1 hz2 rfl (by decide) _ _ _ rfl (HO1.out.alloc _) _ 1 1 (E3.cells ⟨((E : Int) + 1 + ((q : Int) + 1) - 1), 0, 0⟩) rfl rfl (World.news_of_block (heap_alloc_new _ _)) (by simp [E3.cells, Value.oneCell']) (by omega) (by unfold maxLen; omega) (by omega) (by simp; omega) _ rfl ?_; intro g2 cap2 w2 hown' hg hat hlt'; have hsz2 : w.heap.size + 1 ≤ w2.heap.size := (by have := hg.size; simp at this; omega); have HB2 := Lib.hid ((HB1.out.alloc hsz1 _).grown hg (by simp; omega) (fun jj hj => (HO1.out.lt jj hj).1)); have HO2 := Lib.hid hown'; clear hown' hg hat hlt') | fail)
                go_roundw
                case rel => exact ⟨q + 1, by omega, by go_num, by rw [HN.out, ce_app, ce_app, List.length_append, List.length_append]; exact HO2.out, HB2.out⟩
                case measure => simp [intOf] <;> omega
              · have q1 : decide ((q : Int) + 1 < (E : Int) + 1) = true := by simp <;> omega
                have q2 : ((q : Int) + 1 == (E : Int) + 1) = false := by simp <;> omega
                have q3 : decide ((D : Int) + 1 ≤ (q : Int) + 1) = false := by simp <;> omega
                have hnext : gL (gV D false (E + 1)) ((1 * (E + 1)) + (q + 1)) = L ++ [⟨((E : Int) + 1 + ((q : Int) + 1) - 1), 1, ((E : Int) + 1 + ((q : Int) + 1))⟩] := by rw [← Nat.add_assoc, gL_succ, ← hL, gV_at D (E + 1) 1 q false (by decide) hqlt]; simp only [show (((1 * (E + 1)) + q : Nat) : Int) = ((E : Int) + 1 + ((q : Int) + 1) - 1) by omega, show (((E : Int) + 1 + ((q : Int) + 1) - 1) : Int) + 1 = ((E : Int) + 1 + ((q : Int) + 1)) by omega]; simp [h1, h2]
                have HN := Lib.hid hnext; clear hnext
                clear hL
                go_wp2_with (first | (at_builtin; refine wpList_append_lies _ rfl (.tmp 45) (.tmp 51) 44 rfl (w.heap.size + 1) 60 i0 _ 3 24 Try.underlying44 hi hz0 hz1 hz2 rfl (by decide) _ _ _ rfl (HO.out.alloc _) _ 1 1 (E3.cells ⟨((E : Int) + 1 + ((q : Int) + 1) - 1), 1, ((E : Int) + 1 + ((q : Int) + 1))⟩) rfl rfl (World.news_of_block (heap_alloc_new _ _)) (by simp [E3.cells, Value.oneCell']) (by omega) (by unfold maxLen; omega) (by omega) (by simp; omega) _ rfl ?_; intro g1 cap1 w1 hown' hg hat hlt'; have hsz1 : w.heap.size + 1 ≤ w1.heap.size := (by have := hg.size; simp at this; omega); have HB1 := Lib.hid ((HB.out.alloc hsz _).grown hg (by simp; omega) (fun jj hj => (HO.out.lt jj hj).1)); have HO1 := Lib.hid hown'; clear hown' hg hat hlt') | fail)
                go_roundw
                case rel => exact ⟨q + 1, by omega, by go_num, by rw [HN.out, ce_app, List.length_append]; exact HO1.out, HB1.out⟩
                case measure => simp [intOf] <;> omega
            · by_cases h2 : D < q + 1
              · have q1 : decide ((q : Int) + 1 < (E : Int) + 1) = false := by simp <;> omega
                have q2 : ((q : Int) + 1 == (E : Int) + 1) = true := by simp <;> omega
                have q3 : decide ((D : Int) + 1 ≤ (q : Int) + 1) = true := by simp <;> omega
                have hnext : gL (gV D false (E + 1)) ((1 * (E + 1)) + (q + 1)) = L ++ [⟨((E : Int) + 1 + ((q : Int) + 1) - 1), 0, 0⟩] := by rw [← Nat.add_assoc, gL_succ, ← hL, gV_at D (E + 1) 1 q false (by decide) hqlt]; simp only [show (((1 * (E + 1)) + q : Nat) : Int) = ((E : Int) + 1 + ((q : Int) + 1) - 1) by omega, show (((E : Int) + 1 + ((q : Int) + 1) - 1) : Int) + 1 = ((E : Int) + 1 + ((q : Int) + 1)) by omega]; simp [h1, h2]
                have HN := Lib.hid hnext; clear hnext
                clear hL
                go_wp2_with (first | (at_builtin; refine wpList_append_lies _ rfl (.tmp 71) (.tmp 80) 44 rfl (w.heap.size + 1) 60 i0 _ 3 24 Try.underlying44 hi hz0 hz1 hz2 rfl (by decide) _ _ _ rfl (HO.out.alloc _) _ 1 1 (E3.cells ⟨((E : Int) + 1 + ((q : Int) + 1) - 1), 0, 0⟩) rfl rfl (World.news_of_block (heap_alloc_new _ _)) (by simp [E3.cells, Value.oneCell']) (by omega) (by unfold maxLen; omega) (by omega) (by simp; omega) _ rfl ?_; intro g1 cap1 w1 hown' hg hat hlt'; have hsz1 : w.heap.size + 1 ≤ w1.heap.size := (by have := hg.size; simp at this; omega); have HB1 := Lib.hid ((HB.out.alloc hsz _).grown hg (by simp; omega) (fun jj hj => (HO.out.lt jj hj).1)); have HO1 := Lib.hid hown'; clear hown' hg hat hlt') | fail)
                go_roundw
                case rel => exact ⟨q + 1, by omega, by go_num, by rw [HN.out, ce_app, List.length_append]; exact HO1.out, HB1.out⟩
                case measure => simp [intOf] <;> omega
              · omega
          · obtain rfl : q = (E + 1) := by omega
            rw [show (1 * (E + 1)) + (E + 1) = (1 + 1) * (E + 1) by omega] at hown
            obtain ⟨a2, c2, rfl⟩ := own_slice hown
            have HO1 := Lib.hid hown; clear hown
            have HB1 := Lib.hid hbel; clear hbel
            go_wp2_with fail
            go_roundw
            case rel => exact ⟨2, 2, by omega, rfl, by first | rfl | go_num, HO1.out, HB1.out⟩
            case measure => simp [intOf] <;> omega
    · obtain ⟨rfl, rfl⟩ : a = 2 ∧ z = 2 := by omega
      clear hza ha hlt
      have hsz : w.heap.size + 1 ≤ wr.heap.size := by have := hbel.size; simpa using this
      have hbd := fun v' w' => rbuild_no (2 * ((E : Int) + 1)) v' w' (by omega)
      have HBD := Lib.hid hbd; clear hbd
      have hb0 := (Blk.new w 46 [.int .i64 0, .int .i64 0, .slice none 0 0]).below hbel (by omega)
      have HB0 := Lib.hid hb0; clear hb0
      have hbw : Below w.heap.size w wr := ((Below.refl w.heap.size w).alloc (Nat.le_refl _) (.cells #[.int .i64 0, .int .i64 0, .slice none 0 0] 46)).trans (hbel.mono (by omega))
      have HBW := Lib.hid hbw; clear hbw
      obtain ⟨a, cap, rfl⟩ := own_slice hown
      clear hbel hown
      go_wp2_with fail
      go_at_call 53
      refine (HBD.out _ _).mono ?_
      rintro e w2 ⟨hq, v2, rfl, hrow2, hnw⟩
      obtain ⟨a2, c2, rfl, -⟩ := hrow2.slice
      have hsw := HBW.out.size
      have hnv : (Value.slice a2 0 c2).ownBlock ≠ some w.heap.size := fun e => by have := hnw _ e; have := HB0.out.lt; omega
      have tk := HB0.out.keep hq; have x0 := tk.cell (j := 0) rfl; have x1 := tk.cell (j := 1) rfl; have x2 := tk.cell (j := 2) rfl; have B2 := Lib.hid tk; clear tk
      have f0 := B2.out.frozen 0
      have f1 := B2.out.frozen 1
      have f2 := B2.out.frozen 2
      have HNV := Lib.hid hnv; clear hnv
      have HNW := Lib.hid hnw; clear hnw
      have HR2 := Lib.hid hrow2; clear hrow2
      have HQ := Lib.hid hq; clear hq
      go_wp2_with fail
      refine bodyPost_ret (v := .tuple #[.agg #[.int .i64 0, .int .i64 0, .slice a2 0 c2], .int .i64 4]) (by simp [results, Try.results26, go_sem, *]) rfl ⟨?_, _, rfl, ?_⟩
      · have s1 := HBW.out.trans (HQ.out.mono HBW.out.size)
        exact ((s1.setCell (p := ⟨w.heap.size, 0, none⟩) (Nat.le_refl _) _).setCell (p := ⟨w.heap.size, 1, none⟩) (Nat.le_refl _) _).setCell (p := ⟨w.heap.size, 2, none⟩) (Nat.le_refl _) _
      · exact row_setCell (row_setCell (row_setCell HR2.out ⟨w.heap.size, 0, none⟩ _ HNV.out) ⟨w.heap.size, 1, none⟩ _ HNV.out) ⟨w.heap.size, 2, none⟩ _ HNV.out
end Go.Proofs.Ytadibbbaegbljaa
