/- The reference graphs: grooveref17.Graph, Spaced, Transitions. -/
import Derived.Test.YtadibbbaegbljaaRefMk
import Derived.Test.YtadibbbaegbljaaRefR
import Derived.Deep.AppendLies
namespace Go.Proofs.Ytadibbbaegbljaa
open Go.RowKit

theorem own_low {B : Nat} {w w' : World} {e : TypeId} {size n : Nat} {v : Value} {xs : List Value} (h : w.ownsRow B e size v n xs) : Row w v n xs := own_row h
/-- Graph, without k: as the reference adds its edges. -/
def gRi (D : Nat) (s : Nat) : List E3 := (if s < D then [⟨s, 0, (s : Int) + 1⟩] else []) ++ (if s = D then [⟨s, 0, s⟩] else []) ++ (if D ≤ s then [⟨s, 1, 0⟩] else [])
def gRf (D E : Nat) (s : Nat) : List E3 := (if s < E then [⟨s, 0, (s : Int) + 1⟩] else []) ++ (if D ≤ s then [⟨s, 1, 0⟩] else [])
theorem gRi_len (D s : Nat) : (gRi D s).length ≤ 2 := by
  unfold gRi
  by_cases h1 : s < D
  · simp [h1, show ¬ s = D by omega, show ¬ D ≤ s by omega]
  · by_cases h2 : s = D
    · simp [h2]
    · simp [h1, h2, show D ≤ s by omega]
theorem gRf_len (D E s : Nat) : (gRf D E s).length ≤ 2 := by
  unfold gRf
  by_cases h1 : s < E <;> by_cases h2 : D ≤ s <;> simp [h1, h2]
theorem gRi_tells (D : Nat) (h : D < 64) : Tells (D + 1) (tG D true D) (gL (gRi D) (D + 1)) := by
  refine tells_of (fun s hs => ?_) (tG_fit D true D) (by omega)
  unfold gRi cgrp tG
  by_cases h1 : s < D
  · simp [h1, show ¬ s = D by omega, show ¬ D ≤ s by omega]
  · have h2 : s = D := by omega
    subst h2; simp
theorem gRf_tells (D E : Nat) (hD : D ≤ E) (h : E < 64) : Tells (E + 1) (tG D false E) (gL (gRf D E) (E + 1)) := by
  refine tells_of (fun s hs => ?_) (tG_fit D false E) (by omega)
  unfold gRf cgrp tG
  by_cases h1 : s < E <;> by_cases h2 : D ≤ s <;> simp [h1, h2]
theorem gS_len (d st E s : Nat) : (gS d st E s).length ≤ 2 := by
  unfold gS
  by_cases h1 : s < E <;> by_cases h2 : d ≤ s ∧ (s - d) % st = 0 <;> simp [h1, h2]
theorem gT2_len (j k s : Nat) : (gT2 j k s).length ≤ 2 := by
  unfold gT2
  by_cases h1 : s < k
  · by_cases h2 : s + 1 < k <;> simp [h1, h2]
  · by_cases h2 : s + 1 < j + k <;> simp [h1, h2]
set_option maxRecDepth 100000 in
set_option maxHeartbeats 3200000 in
theorem rgraph_inf (D : Nat) (w : World) (hE : D < 64) :
    Calls Try.prog 24 #[.int .i64 (D : Int), .int .i64 (-1)] w (GOut 2 ((D : Int) + 1) (canon (D + 1) (tG D true D)) 0 w) := by
  obtain ⟨i0, hi, hz0, hz1, hz2⟩ := info_parts infoEdge
  have hp : pairB (D : Int) (-1) = true := by simp [pairB]
  have hE64 : ¬ 64 ≤ (D : Int) := by omega
  have HP := Lib.hid hp; clear hp
  go_enter Try.func24, Try.ntmps24
  go_wp2_with fail
  go_at_call 46
  refine (rpair_any _ _ _).mono ?_
  rintro e w' ⟨rfl, rfl⟩
  rw [HP.out]
  go_wp2_with fail
  go_loopw [7, 8] (fun u i wr => ∃ s : Nat, s ≤ D + 1 ∧ i = .int .i64 s ∧ wr.ownsRow (w.heap.size + 1) 60 3 u (gL (gRi D) s).length (ce (gL (gRi D) s)) ∧ Below (w.heap.size + 1) (w.alloc (.cells #[.int .i64 0, .int .i64 0, .slice none 0 0] 46)) wr) (fun _ i _ => D + 1 - (intOf i).toNat)
  case atStart => exact ⟨0, Nat.zero_le _, rfl, World.ownsRow_nil _ _ _ _, Below.refl _ _⟩
  case round =>
    obtain ⟨s, hs, rfl, hown, hbel⟩ := hrel
    have hl : (gL (gRi D) s).length ≤ 256 := by have := gL_length (gRi D) 2 (s) (fun x _ => gRi_len D x); omega
    have hsz : w.heap.size + 1 ≤ wr.heap.size := by have := hbel.size; simpa using this
    by_cases hlt : s < D + 1
    · obtain ⟨L, hL⟩ : ∃ L, L = gL (gRi D) s := ⟨_, rfl⟩
      rw [← hL] at hown hl
      obtain ⟨a, cap, rfl⟩ := own_slice hown
      have HO := Lib.hid hown; clear hown
      have HB := Lib.hid hbel; clear hbel
      by_cases h1 : s < D
      · have q1 : decide ((s : Int) < D) = true := by simpa using h1
        have q2 : ((s : Int) == D) = false := by simp; omega
        have q3 : decide ((D : Int) ≤ s) = false := by simp; omega
        have hnext : gL (gRi D) (s + 1) = L ++ [⟨(s : Int), 0, (s : Int) + 1⟩] := by rw [gL_succ, ← hL, gRi, if_pos h1, if_neg (by omega), if_neg (by omega)]; simp
        have HN := Lib.hid hnext; clear hnext
        clear hL
        go_wp2_with (first | (at_builtin; refine wpList_append_lies _ rfl (.tmp 29) (.tmp 34) 44 rfl (w.heap.size + 1) 60 i0 _ 3 24 Try.underlying44 hi hz0 hz1 hz2 rfl (by decide) _ _ _ rfl (HO.out.alloc _) _ 1 1 (E3.cells ⟨(s : Int), 0, (s : Int) + 1⟩) rfl rfl (World.news_of_block (heap_alloc_new _ _)) (by simp [E3.cells, Value.oneCell']) (by omega) (by unfold maxLen; omega) (by omega) (by simp; omega) _ rfl ?_; intro g1 cap1 w1 hown' hg hat hlt'; have hsz1 : w.heap.size + 1 ≤ w1.heap.size := (by have := hg.size; simp at this; omega); have HB1 := Lib.hid ((HB.out.alloc hsz _).grown hg (by simp; omega) (fun jj hj => (HO.out.lt jj hj).1)); have HO1 := Lib.hid hown'; clear hown' hg hat hlt') | fail)
        go_roundw
        case rel => exact ⟨s + 1, by omega, by go_num, by rw [HN.out, ce_app, List.length_append]; exact HO1.out, HB1.out⟩
        case measure => simp [intOf] <;> omega
      · obtain rfl : s = D := by omega
        have q1 : decide ((s : Int) < s) = false := by simp
        have hnext : gL (gRi s) (s + 1) = L ++ [⟨(s : Int), 0, (s : Int)⟩] ++ [⟨(s : Int), 1, 0⟩] := by rw [gL_succ, ← hL, gRi, if_neg (by omega), if_pos rfl, if_pos (by omega)]; simp
        have HN := Lib.hid hnext; clear hnext
        clear hL
        go_wp2_with (first | (at_builtin; refine wpList_append_lies _ rfl (.tmp 43) (.tmp 47) 44 rfl (w.heap.size + 1) 60 i0 _ 3 24 Try.underlying44 hi hz0 hz1 hz2 rfl (by decide) _ _ _ rfl (HO.out.alloc _) _ 1 1 (E3.cells ⟨(s : Int), 0, (s : Int)⟩) rfl rfl (World.news_of_block (heap_alloc_new _ _)) (by simp [E3.cells, Value.oneCell']) (by omega) (by unfold maxLen; omega) (by omega) (by simp; omega) _ rfl ?_; intro g1 cap1 w1 hown' hg hat hlt'; have hsz1 : w.heap.size + 1 ≤ w1.heap.size := (by have := hg.size; simp at this; omega); have HB1 := Lib.hid ((HB.out.alloc hsz _).grown hg (by simp; omega) (fun jj hj => (HO.out.lt jj hj).1)); have HO1 := Lib.hid hown'; clear hown' hg hat hlt') | (at_builtin; refine wpList_append_lies _ rfl (.tmp 52) (.tmp 55) 44 rfl (w.heap.size + 1) 60 i0 _ 3 24 Try.underlying44 hi hz0 hz1 hz2 rfl (by decide) _ _ _ rfl (HO1.out.alloc _) _ 1 1 (E3.cells ⟨(s : Int), 1, 0⟩) rfl rfl (World.news_of_block (heap_alloc_new _ _)) (by simp [E3.cells, Value.oneCell']) (by omega) (by unfold maxLen; omega) (by omega) (by simp; omega) _ rfl ?_; intro g2 cap2 w2 hown' hg hat hlt'; have hsz2 : w.heap.size + 1 ≤ w2.heap.size := (by have := hg.size; simp at this; omega); have HB2 := Lib.hid ((HB1.out.alloc hsz1 _).grown hg (by simp; omega) (fun jj hj => (HO1.out.lt jj hj).1)); have HO2 := Lib.hid hown'; clear hown' hg hat hlt') | fail)
        go_roundw
        case rel => exact ⟨s + 1, by omega, by go_num, by rw [HN.out, ce_app, ce_app, List.length_append, List.length_append]; exact HO2.out, HB2.out⟩
        case measure => simp [intOf] <;> omega
    · obtain rfl : s = D + 1 := by omega
      have hbd := fun v' w' hr => rbuild_ok (D + 1) (tG D true D) (gL (gRi D) (D + 1)) v' w' (gRi_tells D (by omega)) hr
      obtain ⟨C, hC⟩ : ∃ C, C = canon (D + 1) (tG D true D) := ⟨_, rfl⟩
      simp only [← hC] at hbd
      simp only [show ((D + 1 : Nat) : Int) = (D : Int) + 1 by omega] at hbd
      have HBD := Lib.hid hbd; clear hbd
      have HC := Lib.hid hC; clear hC
      have hrow := own_row hown
      have HROW := Lib.hid hrow; clear hrow
      have hb0 := (Blk.new w 46 [.int .i64 0, .int .i64 0, .slice none 0 0]).below hbel (by omega)
      have HB0 := Lib.hid hb0; clear hb0
      have hbw : Below w.heap.size w wr := ((Below.refl w.heap.size w).alloc (Nat.le_refl _) (.cells #[.int .i64 0, .int .i64 0, .slice none 0 0] 46)).trans (hbel.mono (by omega))
      have HBW := Lib.hid hbw; clear hbw
      obtain ⟨a, cap, rfl⟩ := own_slice hown
      clear hbel hown
      go_wp2_with fail
      go_at_call 53
      refine (HBD.out _ _ HROW.out).mono ?_
      rintro e w2 ⟨hq, v2, rfl, hrow2, hnw⟩
      obtain ⟨a2, c2, rfl, -⟩ := hrow2.slice
      have hsw := HBW.out.size
      have hnv : (Value.slice a2 C.length c2).ownBlock ≠ some w.heap.size := fun e => by have := hnw _ e; have := HB0.out.lt; omega
      have tk := HB0.out.keep hq; have x0 := tk.cell (j := 0) rfl; have x1 := tk.cell (j := 1) rfl; have x2 := tk.cell (j := 2) rfl; have B2 := Lib.hid tk; clear tk
      have f0 := B2.out.frozen 0
      have f1 := B2.out.frozen 1
      have f2 := B2.out.frozen 2
      have HNV := Lib.hid hnv; clear hnv
      have HNW := Lib.hid hnw; clear hnw
      have HR2 := Lib.hid hrow2; clear hrow2
      have HQ := Lib.hid hq; clear hq
      go_wp2_with fail
      refine bodyPost_ret (v := .tuple #[.agg #[.int .i64 2, .int .i64 ((D : Int) + 1), .slice a2 C.length c2], .int .i64 0]) (by simp [results, Try.results24, go_sem, *]) rfl ⟨?_, _, rfl, ?_⟩
      · have s1 := HBW.out.trans (HQ.out.mono HBW.out.size)
        exact ((s1.setCell (p := ⟨w.heap.size, 0, none⟩) (Nat.le_refl _) _).setCell (p := ⟨w.heap.size, 1, none⟩) (Nat.le_refl _) _).setCell (p := ⟨w.heap.size, 2, none⟩) (Nat.le_refl _) _
      · rw [← HC.out]; exact row_setCell (row_setCell (row_setCell HR2.out ⟨w.heap.size, 0, none⟩ _ HNV.out) ⟨w.heap.size, 1, none⟩ _ HNV.out) ⟨w.heap.size, 2, none⟩ _ HNV.out
set_option maxRecDepth 100000 in
set_option maxHeartbeats 3200000 in
theorem rgraph_fin (D E : Nat) (w : World) (hDE : D ≤ E) (hE : E < 64) :
    Calls Try.prog 24 #[.int .i64 (D : Int), .int .i64 (E : Int)] w (GOut 2 ((E : Int) + 1) (canon (E + 1) (tG D false E)) 0 w) := by
  obtain ⟨i0, hi, hz0, hz1, hz2⟩ := info_parts infoEdge
  have hp : pairB (D : Int) (E : Int) = true := by simp [pairB] <;> omega
  have hE64 : ¬ 64 ≤ (E : Int) := by omega
  have hk1 : ((E : Int) == -1) = false := by simp <;> omega
  have HP := Lib.hid hp; clear hp
  go_enter Try.func24, Try.ntmps24
  go_wp2_with fail
  go_at_call 46
  refine (rpair_any _ _ _).mono ?_
  rintro e w' ⟨rfl, rfl⟩
  rw [HP.out]
  go_wp2_with fail
  go_loopw [7, 8] (fun u i wr => ∃ s : Nat, s ≤ E + 1 ∧ i = .int .i64 s ∧ wr.ownsRow (w.heap.size + 1) 60 3 u (gL (gRf D E) s).length (ce (gL (gRf D E) s)) ∧ Below (w.heap.size + 1) (w.alloc (.cells #[.int .i64 0, .int .i64 0, .slice none 0 0] 46)) wr) (fun _ i _ => E + 1 - (intOf i).toNat)
  case atStart => exact ⟨0, Nat.zero_le _, rfl, World.ownsRow_nil _ _ _ _, Below.refl _ _⟩
  case round =>
    obtain ⟨s, hs, rfl, hown, hbel⟩ := hrel
    have hl : (gL (gRf D E) s).length ≤ 256 := by have := gL_length (gRf D E) 2 (s) (fun x _ => gRf_len D E x); omega
    have hsz : w.heap.size + 1 ≤ wr.heap.size := by have := hbel.size; simpa using this
    by_cases hlt : s < E + 1
    · obtain ⟨L, hL⟩ : ∃ L, L = gL (gRf D E) s := ⟨_, rfl⟩
      rw [← hL] at hown hl
      obtain ⟨a, cap, rfl⟩ := own_slice hown
      have HO := Lib.hid hown; clear hown
      have HB := Lib.hid hbel; clear hbel
      by_cases h1 : s < E
      · by_cases h2 : D ≤ s
        · have q1 : decide ((s : Int) < E) = true := by simpa using h1
          have q2 : ((s : Int) == E) = false := by simp <;> omega
          have q3 : decide ((D : Int) ≤ s) = true := by simp <;> omega
          have hnext : gL (gRf D E) (s + 1) = L ++ [⟨(s : Int), 0, (s : Int) + 1⟩] ++ [⟨(s : Int), 1, 0⟩] := by rw [gL_succ, ← hL, gRf, if_pos h1, if_pos h2]; simp
          have HN := Lib.hid hnext; clear hnext
          clear hL
          go_wp2_with (first | (at_builtin; refine wpList_append_lies _ rfl (.tmp 29) (.tmp 34) 44 rfl (w.heap.size + 1) 60 i0 _ 3 24 Try.underlying44 hi hz0 hz1 hz2 rfl (by decide) _ _ _ rfl (HO.out.alloc _) _ 1 1 (E3.cells ⟨(s : Int), 0, (s : Int) + 1⟩) rfl rfl (World.news_of_block (heap_alloc_new _ _)) (by simp [E3.cells, Value.oneCell']) (by omega) (by unfold maxLen; omega) (by omega) (by simp; omega) _ rfl ?_; intro g1 cap1 w1 hown' hg hat hlt'; have hsz1 : w.heap.size + 1 ≤ w1.heap.size := (by have := hg.size; simp at this; omega); have HB1 := Lib.hid ((HB.out.alloc hsz _).grown hg (by simp; omega) (fun jj hj => (HO.out.lt jj hj).1)); have HO1 := Lib.hid hown'; clear hown' hg hat hlt') | (at_builtin; refine wpList_append_lies _ rfl (.tmp 52) (.tmp 55) 44 rfl (w.heap.size + 1) 60 i0 _ 3 24 Try.underlying44 hi hz0 hz1 hz2 rfl (by decide) _ _ _ rfl (HO1.out.alloc _) _ 1 1 (E3.cells ⟨(s : Int), 1, 0⟩) rfl rfl (World.news_of_block (heap_alloc_new _ _)) (by simp [E3.cells, Value.oneCell']) (by omega) (by unfold maxLen; omega) (by omega) (by simp; omega) _ rfl ?_; intro g2 cap2 w2 hown' hg hat hlt'; have hsz2 : w.heap.size + 1 ≤ w2.heap.size := (by have := hg.size; simp at this; omega); have HB2 := Lib.hid ((HB1.out.alloc hsz1 _).grown hg (by simp; omega) (fun jj hj => (HO1.out.lt jj hj).1)); have HO2 := Lib.hid hown'; clear hown' hg hat hlt') | fail)
          go_roundw
          case rel => exact ⟨s + 1, by omega, by go_num, by rw [HN.out, ce_app, ce_app, List.length_append, List.length_append]; exact HO2.out, HB2.out⟩
          case measure => simp [intOf] <;> omega
        · have q1 : decide ((s : Int) < E) = true := by simpa using h1
          have q2 : ((s : Int) == E) = false := by simp <;> omega
          have q3 : decide ((D : Int) ≤ s) = false := by simp <;> omega
          have hnext : gL (gRf D E) (s + 1) = L ++ [⟨(s : Int), 0, (s : Int) + 1⟩] := by rw [gL_succ, ← hL, gRf, if_pos h1, if_neg h2]; simp
          have HN := Lib.hid hnext; clear hnext
          clear hL
          go_wp2_with (first | (at_builtin; refine wpList_append_lies _ rfl (.tmp 29) (.tmp 34) 44 rfl (w.heap.size + 1) 60 i0 _ 3 24 Try.underlying44 hi hz0 hz1 hz2 rfl (by decide) _ _ _ rfl (HO.out.alloc _) _ 1 1 (E3.cells ⟨(s : Int), 0, (s : Int) + 1⟩) rfl rfl (World.news_of_block (heap_alloc_new _ _)) (by simp [E3.cells, Value.oneCell']) (by omega) (by unfold maxLen; omega) (by omega) (by simp; omega) _ rfl ?_; intro g1 cap1 w1 hown' hg hat hlt'; have hsz1 : w.heap.size + 1 ≤ w1.heap.size := (by have := hg.size; simp at this; omega); have HB1 := Lib.hid ((HB.out.alloc hsz _).grown hg (by simp; omega) (fun jj hj => (HO.out.lt jj hj).1)); have HO1 := Lib.hid hown'; clear hown' hg hat hlt') | fail)
          go_roundw
          case rel => exact ⟨s + 1, by omega, by go_num, by rw [HN.out, ce_app, List.length_append]; exact HO1.out, HB1.out⟩
          case measure => simp [intOf] <;> omega
      · have h2 : D ≤ s := by omega
        have q1 : decide ((s : Int) < E) = false := by simp; omega
        have q2 : ((s : Int) == E) = true := by simp <;> omega
        have q3 : decide ((D : Int) ≤ s) = true := by simp <;> omega
        have hnext : gL (gRf D E) (s + 1) = L ++ [⟨(s : Int), 1, 0⟩] := by rw [gL_succ, ← hL, gRf, if_neg h1, if_pos h2]; simp
        have HN := Lib.hid hnext; clear hnext
        clear hL
        go_wp2_with (first | (at_builtin; refine wpList_append_lies _ rfl (.tmp 52) (.tmp 55) 44 rfl (w.heap.size + 1) 60 i0 _ 3 24 Try.underlying44 hi hz0 hz1 hz2 rfl (by decide) _ _ _ rfl (HO.out.alloc _) _ 1 1 (E3.cells ⟨(s : Int), 1, 0⟩) rfl rfl (World.news_of_block (heap_alloc_new _ _)) (by simp [E3.cells, Value.oneCell']) (by omega) (by unfold maxLen; omega) (by omega) (by simp; omega) _ rfl ?_; intro g1 cap1 w1 hown' hg hat hlt'; have hsz1 : w.heap.size + 1 ≤ w1.heap.size := (by have := hg.size; simp at this; omega); have HB1 := Lib.hid ((HB.out.alloc hsz _).grown hg (by simp; omega) (fun jj hj => (HO.out.lt jj hj).1)); have HO1 := Lib.hid hown'; clear hown' hg hat hlt') | fail)
        go_roundw
        case rel => exact ⟨s + 1, by omega, by go_num, by rw [HN.out, ce_app, List.length_append]; exact HO1.out, HB1.out⟩
        case measure => simp [intOf] <;> omega
    · obtain rfl : s = E + 1 := by omega
      have hbd := fun v' w' hr => rbuild_ok (E + 1) (tG D false E) (gL (gRf D E) (E + 1)) v' w' (gRf_tells D E hDE (by omega)) hr
      obtain ⟨C, hC⟩ : ∃ C, C = canon (E + 1) (tG D false E) := ⟨_, rfl⟩
      simp only [← hC] at hbd
      simp only [show ((E + 1 : Nat) : Int) = (E : Int) + 1 by omega] at hbd
      have HBD := Lib.hid hbd; clear hbd
      have HC := Lib.hid hC; clear hC
      have hrow := own_row hown
      have HROW := Lib.hid hrow; clear hrow
      have hb0 := (Blk.new w 46 [.int .i64 0, .int .i64 0, .slice none 0 0]).below hbel (by omega)
      have HB0 := Lib.hid hb0; clear hb0
      have hbw : Below w.heap.size w wr := ((Below.refl w.heap.size w).alloc (Nat.le_refl _) (.cells #[.int .i64 0, .int .i64 0, .slice none 0 0] 46)).trans (hbel.mono (by omega))
      have HBW := Lib.hid hbw; clear hbw
      obtain ⟨a, cap, rfl⟩ := own_slice hown
      clear hbel hown
      go_wp2_with fail
      go_at_call 53
      refine (HBD.out _ _ HROW.out).mono ?_
      rintro e w2 ⟨hq, v2, rfl, hrow2, hnw⟩
      obtain ⟨a2, c2, rfl, -⟩ := hrow2.slice
      have hsw := HBW.out.size
      have hnv : (Value.slice a2 C.length c2).ownBlock ≠ some w.heap.size := fun e => by have := hnw _ e; have := HB0.out.lt; omega
      have tk := HB0.out.keep hq; have x0 := tk.cell (j := 0) rfl; have x1 := tk.cell (j := 1) rfl; have x2 := tk.cell (j := 2) rfl; have B2 := Lib.hid tk; clear tk
      have f0 := B2.out.frozen 0
      have f1 := B2.out.frozen 1
      have f2 := B2.out.frozen 2
      have HNV := Lib.hid hnv; clear hnv
      have HNW := Lib.hid hnw; clear hnw
      have HR2 := Lib.hid hrow2; clear hrow2
      have HQ := Lib.hid hq; clear hq
      go_wp2_with fail
      refine bodyPost_ret (v := .tuple #[.agg #[.int .i64 2, .int .i64 ((E : Int) + 1), .slice a2 C.length c2], .int .i64 0]) (by simp [results, Try.results24, go_sem, *]) rfl ⟨?_, _, rfl, ?_⟩
      · have s1 := HBW.out.trans (HQ.out.mono HBW.out.size)
        exact ((s1.setCell (p := ⟨w.heap.size, 0, none⟩) (Nat.le_refl _) _).setCell (p := ⟨w.heap.size, 1, none⟩) (Nat.le_refl _) _).setCell (p := ⟨w.heap.size, 2, none⟩) (Nat.le_refl _) _
      · rw [← HC.out]; exact row_setCell (row_setCell (row_setCell HR2.out ⟨w.heap.size, 0, none⟩ _ HNV.out) ⟨w.heap.size, 1, none⟩ _ HNV.out) ⟨w.heap.size, 2, none⟩ _ HNV.out
set_option maxRecDepth 100000 in
set_option maxHeartbeats 3200000 in
theorem rspaced_ok (d k st E : Nat) (w : World) (hdk : d ≤ k) (hk : k ≤ 9223372036854775807) (hst : 1 ≤ st) (hst2 : st ≤ 9223372036854775807) (hE : E = k - (k - d) % st) (hE64 : E < 64) :
    Calls Try.prog 28 #[.int .i64 (d : Int), .int .i64 (k : Int), .int .i64 (st : Int)] w (GOut 2 ((E : Int) + 1) (canon (E + 1) (tS d st E)) 0 w) := by
  obtain ⟨i0, hi, hz0, hz1, hz2⟩ := info_parts infoEdge
  have hle : (k - d) % st ≤ k - d := Nat.mod_le _ _
  have hdE : d ≤ E := by omega
  have hqN : (k - d) / st * st = E - d := by have := Nat.div_add_mod (k - d) st; rw [Nat.mul_comm] at this; omega
  have hq : ((k : Int) - (d : Int)) / (st : Int) * (st : Int) = ((E - d : Nat) : Int) := by
    rw [← hqN, show (k : Int) - (d : Int) = ((k - d : Nat) : Int) by omega, Int.natCast_mul, Int.natCast_ediv]
  have hq1 : 0 ≤ ((k : Int) - (d : Int)) / (st : Int) * (st : Int) := by rw [hq]; omega
  have hq2 : ((k : Int) - (d : Int)) / (st : Int) * (st : Int) ≤ 9223372036854775807 - d := by rw [hq]; omega
  have hqE : (d : Int) + ((k : Int) - (d : Int)) / (st : Int) * (st : Int) = (E : Int) := by rw [hq]; omega
  have hq3 : 0 ≤ ((k : Int) - (d : Int)) / (st : Int) := Int.ediv_nonneg (by omega) (by omega)
  have hq4 : ((k : Int) - (d : Int)) / (st : Int) ≤ 9223372036854775807 := Int.le_trans (Int.ediv_le_self _ (by omega)) (by omega)
  have hE64' : ¬ 64 ≤ (E : Int) := by omega
  clear hq hqN hle
  have HE := Lib.hid hE; clear hE
  go_enter Try.func28, Try.ntmps28
  go_wp2_with fail
  clear hqE hq1 hq2 hq3 hq4
  go_loopw [9, 10] (fun u i wr => ∃ s : Nat, s ≤ E + 1 ∧ i = .int .i64 s ∧ wr.ownsRow (w.heap.size + 1) 60 3 u (gL (gS d st E) s).length (ce (gL (gS d st E) s)) ∧ Below (w.heap.size + 1) (w.alloc (.cells #[.int .i64 0, .int .i64 0, .slice none 0 0] 46)) wr) (fun _ i _ => E + 1 - (intOf i).toNat)
  case atStart => exact ⟨0, Nat.zero_le _, rfl, World.ownsRow_nil _ _ _ _, Below.refl _ _⟩
  case round =>
    obtain ⟨s, hs, rfl, hown, hbel⟩ := hrel
    have hl : (gL (gS d st E) s).length ≤ 256 := by have := gL_length (gS d st E) 2 (s) (fun x _ => gS_len d st E x); omega
    have hsz : w.heap.size + 1 ≤ wr.heap.size := by have := hbel.size; simpa using this
    by_cases hlt : s < E + 1
    · obtain ⟨L, hL⟩ : ∃ L, L = gL (gS d st E) s := ⟨_, rfl⟩
      rw [← hL] at hown hl
      obtain ⟨a, cap, rfl⟩ := own_slice hown
      have HO := Lib.hid hown; clear hown
      have HB := Lib.hid hbel; clear hbel
      by_cases h1 : s < E
      · by_cases h2 : d ≤ s
        · by_cases h3 : (s - d) % st = 0
          · have q1 : decide ((s : Int) < E) = true := by simpa using h1
            have q3 : decide ((d : Int) ≤ s) = true := by simp <;> omega
            have q4 : (((s : Int) - (d : Int)) % (st : Int) == 0) = true := by rw [show (s : Int) - (d : Int) = ((s - d : Nat) : Int) by omega, ← Int.natCast_emod]; simp <;> omega
            have q5 : (0 : Int) ≤ (s : Int) - (d : Int) := by omega
            have hnext : gL (gS d st E) (s + 1) = L ++ [⟨(s : Int), 0, (s : Int) + 1⟩] ++ [⟨(s : Int), 1, 0⟩] := by rw [gL_succ, ← hL, gS, if_pos h1, if_pos ⟨h2, h3⟩]; simp
            have HN := Lib.hid hnext; clear hnext
            clear hL
            go_wp2_with (first | (at_builtin; refine wpList_append_lies _ rfl (.tmp 43) (.tmp 48) 44 rfl (w.heap.size + 1) 60 i0 _ 3 24 Try.underlying44 hi hz0 hz1 hz2 rfl (by decide) _ _ _ rfl (HO.out.alloc _) _ 1 1 (E3.cells ⟨(s : Int), 0, (s : Int) + 1⟩) rfl rfl (World.news_of_block (heap_alloc_new _ _)) (by simp [E3.cells, Value.oneCell']) (by omega) (by unfold maxLen; omega) (by omega) (by simp; omega) _ rfl ?_; intro g1 cap1 w1 hown' hg hat hlt'; have hsz1 : w.heap.size + 1 ≤ w1.heap.size := (by have := hg.size; simp at this; omega); have HB1 := Lib.hid ((HB.out.alloc hsz _).grown hg (by simp; omega) (fun jj hj => (HO.out.lt jj hj).1)); have HO1 := Lib.hid hown'; clear hown' hg hat hlt') | (at_builtin; refine wpList_append_lies _ rfl (.tmp 61) (.tmp 64) 44 rfl (w.heap.size + 1) 60 i0 _ 3 24 Try.underlying44 hi hz0 hz1 hz2 rfl (by decide) _ _ _ rfl (HO1.out.alloc _) _ 1 1 (E3.cells ⟨(s : Int), 1, 0⟩) rfl rfl (World.news_of_block (heap_alloc_new _ _)) (by simp [E3.cells, Value.oneCell']) (by omega) (by unfold maxLen; omega) (by omega) (by simp; omega) _ rfl ?_; intro g2 cap2 w2 hown' hg hat hlt'; have hsz2 : w.heap.size + 1 ≤ w2.heap.size := (by have := hg.size; simp at this; omega); have HB2 := Lib.hid ((HB1.out.alloc hsz1 _).grown hg (by simp; omega) (fun jj hj => (HO1.out.lt jj hj).1)); have HO2 := Lib.hid hown'; clear hown' hg hat hlt') | fail)
            go_roundw
            case rel => exact ⟨s + 1, by omega, by go_num, by rw [HN.out, ce_app, ce_app, List.length_append, List.length_append]; exact HO2.out, HB2.out⟩
            case measure => simp [intOf] <;> omega
          · have q1 : decide ((s : Int) < E) = true := by simpa using h1
            have q3 : decide ((d : Int) ≤ s) = true := by simp <;> omega
            have q4 : (((s : Int) - (d : Int)) % (st : Int) == 0) = false := by rw [show (s : Int) - (d : Int) = ((s - d : Nat) : Int) by omega, ← Int.natCast_emod]; simp <;> omega
            have q5 : (0 : Int) ≤ (s : Int) - (d : Int) := by omega
            have hnext : gL (gS d st E) (s + 1) = L ++ [⟨(s : Int), 0, (s : Int) + 1⟩] := by rw [gL_succ, ← hL, gS, if_pos h1, if_neg (fun h => h3 h.2)]; simp
            have HN := Lib.hid hnext; clear hnext
            clear hL
            go_wp2_with (first | (at_builtin; refine wpList_append_lies _ rfl (.tmp 43) (.tmp 48) 44 rfl (w.heap.size + 1) 60 i0 _ 3 24 Try.underlying44 hi hz0 hz1 hz2 rfl (by decide) _ _ _ rfl (HO.out.alloc _) _ 1 1 (E3.cells ⟨(s : Int), 0, (s : Int) + 1⟩) rfl rfl (World.news_of_block (heap_alloc_new _ _)) (by simp [E3.cells, Value.oneCell']) (by omega) (by unfold maxLen; omega) (by omega) (by simp; omega) _ rfl ?_; intro g1 cap1 w1 hown' hg hat hlt'; have hsz1 : w.heap.size + 1 ≤ w1.heap.size := (by have := hg.size; simp at this; omega); have HB1 := Lib.hid ((HB.out.alloc hsz _).grown hg (by simp; omega) (fun jj hj => (HO.out.lt jj hj).1)); have HO1 := Lib.hid hown'; clear hown' hg hat hlt') | fail)
            go_roundw
            case rel => exact ⟨s + 1, by omega, by go_num, by rw [HN.out, ce_app, List.length_append]; exact HO1.out, HB1.out⟩
            case measure => simp [intOf] <;> omega
        · have q1 : decide ((s : Int) < E) = true := by simpa using h1
          have q3 : decide ((d : Int) ≤ s) = false := by simp <;> omega
          have hnext : gL (gS d st E) (s + 1) = L ++ [⟨(s : Int), 0, (s : Int) + 1⟩] := by rw [gL_succ, ← hL, gS, if_pos h1, if_neg (fun h => h2 h.1)]; simp
          have HN := Lib.hid hnext; clear hnext
          clear hL
          go_wp2_with (first | (at_builtin; refine wpList_append_lies _ rfl (.tmp 43) (.tmp 48) 44 rfl (w.heap.size + 1) 60 i0 _ 3 24 Try.underlying44 hi hz0 hz1 hz2 rfl (by decide) _ _ _ rfl (HO.out.alloc _) _ 1 1 (E3.cells ⟨(s : Int), 0, (s : Int) + 1⟩) rfl rfl (World.news_of_block (heap_alloc_new _ _)) (by simp [E3.cells, Value.oneCell']) (by omega) (by unfold maxLen; omega) (by omega) (by simp; omega) _ rfl ?_; intro g1 cap1 w1 hown' hg hat hlt'; have hsz1 : w.heap.size + 1 ≤ w1.heap.size := (by have := hg.size; simp at this; omega); have HB1 := Lib.hid ((HB.out.alloc hsz _).grown hg (by simp; omega) (fun jj hj => (HO.out.lt jj hj).1)); have HO1 := Lib.hid hown'; clear hown' hg hat hlt') | fail)
          go_roundw
          case rel => exact ⟨s + 1, by omega, by go_num, by rw [HN.out, ce_app, List.length_append]; exact HO1.out, HB1.out⟩
          case measure => simp [intOf] <;> omega
      · by_cases h2 : d ≤ s
        · by_cases h3 : (s - d) % st = 0
          · have q1 : decide ((s : Int) < E) = false := by simp; omega
            have q3 : decide ((d : Int) ≤ s) = true := by simp <;> omega
            have q4 : (((s : Int) - (d : Int)) % (st : Int) == 0) = true := by rw [show (s : Int) - (d : Int) = ((s - d : Nat) : Int) by omega, ← Int.natCast_emod]; simp <;> omega
            have q5 : (0 : Int) ≤ (s : Int) - (d : Int) := by omega
            have hnext : gL (gS d st E) (s + 1) = L ++ [⟨(s : Int), 1, 0⟩] := by rw [gL_succ, ← hL, gS, if_neg h1, if_pos ⟨h2, h3⟩]; simp
            have HN := Lib.hid hnext; clear hnext
            clear hL
            go_wp2_with (first | (at_builtin; refine wpList_append_lies _ rfl (.tmp 61) (.tmp 64) 44 rfl (w.heap.size + 1) 60 i0 _ 3 24 Try.underlying44 hi hz0 hz1 hz2 rfl (by decide) _ _ _ rfl (HO.out.alloc _) _ 1 1 (E3.cells ⟨(s : Int), 1, 0⟩) rfl rfl (World.news_of_block (heap_alloc_new _ _)) (by simp [E3.cells, Value.oneCell']) (by omega) (by unfold maxLen; omega) (by omega) (by simp; omega) _ rfl ?_; intro g1 cap1 w1 hown' hg hat hlt'; have hsz1 : w.heap.size + 1 ≤ w1.heap.size := (by have := hg.size; simp at this; omega); have HB1 := Lib.hid ((HB.out.alloc hsz _).grown hg (by simp; omega) (fun jj hj => (HO.out.lt jj hj).1)); have HO1 := Lib.hid hown'; clear hown' hg hat hlt') | fail)
            go_roundw
            case rel => exact ⟨s + 1, by omega, by go_num, by rw [HN.out, ce_app, List.length_append]; exact HO1.out, HB1.out⟩
            case measure => simp [intOf] <;> omega
          · have q1 : decide ((s : Int) < E) = false := by simp; omega
            have q3 : decide ((d : Int) ≤ s) = true := by simp <;> omega
            have q4 : (((s : Int) - (d : Int)) % (st : Int) == 0) = false := by rw [show (s : Int) - (d : Int) = ((s - d : Nat) : Int) by omega, ← Int.natCast_emod]; simp <;> omega
            have q5 : (0 : Int) ≤ (s : Int) - (d : Int) := by omega
            have hnext : gL (gS d st E) (s + 1) = L := by rw [gL_succ, ← hL, gS, if_neg h1, if_neg (fun h => h3 h.2)]; simp
            have HN := Lib.hid hnext; clear hnext
            clear hL
            go_wp2_with fail
            go_roundw
            case rel => exact ⟨s + 1, by omega, by go_num, by rw [HN.out]; exact HO.out, HB.out⟩
            case measure => simp [intOf] <;> omega
        · omega
    · obtain rfl : s = E + 1 := by omega
      have hbd := fun v' w' hr => rbuild_ok (E + 1) (tS d st E) (gL (gS d st E) (E + 1)) v' w' (spaced_tells d st E (by omega)) hr
      obtain ⟨C, hC⟩ : ∃ C, C = canon (E + 1) (tS d st E) := ⟨_, rfl⟩
      simp only [← hC] at hbd
      simp only [show ((E + 1 : Nat) : Int) = (E : Int) + 1 by omega] at hbd
      have HBD := Lib.hid hbd; clear hbd
      have HC := Lib.hid hC; clear hC
      have hrow := own_row hown
      have HROW := Lib.hid hrow; clear hrow
      have hb0 := (Blk.new w 46 [.int .i64 0, .int .i64 0, .slice none 0 0]).below hbel (by omega)
      have HB0 := Lib.hid hb0; clear hb0
      have hbw : Below w.heap.size w wr := ((Below.refl w.heap.size w).alloc (Nat.le_refl _) (.cells #[.int .i64 0, .int .i64 0, .slice none 0 0] 46)).trans (hbel.mono (by omega))
      have HBW := Lib.hid hbw; clear hbw
      obtain ⟨a, cap, rfl⟩ := own_slice hown
      clear hbel hown
      go_wp2_with fail
      go_at_call 53
      refine (HBD.out _ _ HROW.out).mono ?_
      rintro e w2 ⟨hq, v2, rfl, hrow2, hnw⟩
      obtain ⟨a2, c2, rfl, -⟩ := hrow2.slice
      have hsw := HBW.out.size
      have hnv : (Value.slice a2 C.length c2).ownBlock ≠ some w.heap.size := fun e => by have := hnw _ e; have := HB0.out.lt; omega
      have tk := HB0.out.keep hq; have x0 := tk.cell (j := 0) rfl; have x1 := tk.cell (j := 1) rfl; have x2 := tk.cell (j := 2) rfl; have B2 := Lib.hid tk; clear tk
      have f0 := B2.out.frozen 0
      have f1 := B2.out.frozen 1
      have f2 := B2.out.frozen 2
      have HNV := Lib.hid hnv; clear hnv
      have HNW := Lib.hid hnw; clear hnw
      have HR2 := Lib.hid hrow2; clear hrow2
      have HQ := Lib.hid hq; clear hq
      go_wp2_with fail
      refine bodyPost_ret (v := .tuple #[.agg #[.int .i64 2, .int .i64 ((E : Int) + 1), .slice a2 C.length c2], .int .i64 0]) (by simp [results, Try.results28, go_sem, *]) rfl ⟨?_, _, rfl, ?_⟩
      · have s1 := HBW.out.trans (HQ.out.mono HBW.out.size)
        exact ((s1.setCell (p := ⟨w.heap.size, 0, none⟩) (Nat.le_refl _) _).setCell (p := ⟨w.heap.size, 1, none⟩) (Nat.le_refl _) _).setCell (p := ⟨w.heap.size, 2, none⟩) (Nat.le_refl _) _
      · rw [← HC.out]; exact row_setCell (row_setCell (row_setCell HR2.out ⟨w.heap.size, 0, none⟩ _ HNV.out) ⟨w.heap.size, 1, none⟩ _ HNV.out) ⟨w.heap.size, 2, none⟩ _ HNV.out
set_option maxRecDepth 100000 in
set_option maxHeartbeats 3200000 in
theorem rtrans_ok (j k : Nat) (w : World) (hj : 1 ≤ j) (hk : 1 ≤ k) (hjk : j + k ≤ 64) :
    Calls Try.prog 30 #[.int .i64 (j : Int), .int .i64 (k : Int)] w (GOut 2 ((k : Int) + (j : Int)) (canon (k + j) (tT j k)) 0 w) := by
  obtain ⟨i0, hi, hz0, hz1, hz2⟩ := info_parts infoEdge
  have q1 : ¬ (j : Int) < 1 := by omega
  have q2 : ¬ (k : Int) < 1 := by omega
  have q3 : decide ((64 : Int) < j) = false := by simp; omega
  have q4 : decide ((64 : Int) < k) = false := by simp; omega
  have q5 : ¬ 64 < (j : Int) + (k : Int) := by omega
  go_enter Try.func30, Try.ntmps30
  go_wp2_with fail
  clear q1 q2 q3 q4 q5
  go_loopw [6, 7] (fun u i wr => ∃ s : Nat, s ≤ k ∧ i = .int .i64 s ∧ wr.ownsRow (w.heap.size + 1) 60 3 u (gL (gT2 j k) s).length (ce (gL (gT2 j k) s)) ∧ Below (w.heap.size + 1) (w.alloc (.cells #[.int .i64 0, .int .i64 0, .slice none 0 0] 46)) wr) (fun _ i _ => k - (intOf i).toNat)
  case atStart => exact ⟨0, Nat.zero_le _, rfl, World.ownsRow_nil _ _ _ _, Below.refl _ _⟩
  case round =>
    obtain ⟨s, hs, rfl, hown, hbel⟩ := hrel
    have hl : (gL (gT2 j k) s).length ≤ 256 := by have := gL_length (gT2 j k) 2 (s) (fun x _ => gT2_len j k x); omega
    have hsz : w.heap.size + 1 ≤ wr.heap.size := by have := hbel.size; simpa using this
    by_cases hlt : s < k
    · obtain ⟨L, hL⟩ : ∃ L, L = gL (gT2 j k) s := ⟨_, rfl⟩
      rw [← hL] at hown hl
      obtain ⟨a, cap, rfl⟩ := own_slice hown
      have HO := Lib.hid hown; clear hown
      have HB := Lib.hid hbel; clear hbel
      by_cases h1 : s + 1 < k
      · have q1 : decide ((s : Int) + 1 < k) = true := by simp <;> omega
        have hnext : gL (gT2 j k) (s + 1) = L ++ [⟨(s : Int), 0, (s : Int) + 1⟩] ++ [⟨(s : Int), 1, (k : Int)⟩] := by rw [gL_succ, ← hL, gT2, if_pos hlt, if_pos h1]; simp
        have HN := Lib.hid hnext; clear hnext
        clear hL
        go_wp2_with (first | (at_builtin; refine wpList_append_lies _ rfl (.tmp 38) (.tmp 43) 44 rfl (w.heap.size + 1) 60 i0 _ 3 24 Try.underlying44 hi hz0 hz1 hz2 rfl (by decide) _ _ _ rfl (HO.out.alloc _) _ 1 1 (E3.cells ⟨(s : Int), 0, (s : Int) + 1⟩) rfl rfl (World.news_of_block (heap_alloc_new _ _)) (by simp [E3.cells, Value.oneCell']) (by omega) (by unfold maxLen; omega) (by omega) (by simp; omega) _ rfl ?_; intro g1 cap1 w1 hown' hg hat hlt'; have hsz1 : w.heap.size + 1 ≤ w1.heap.size := (by have := hg.size; simp at this; omega); have HB1 := Lib.hid ((HB.out.alloc hsz _).grown hg (by simp; omega) (fun jj hj => (HO.out.lt jj hj).1)); have HO1 := Lib.hid hown'; clear hown' hg hat hlt') | (at_builtin; refine wpList_append_lies _ rfl (.tmp 45) (.tmp 49) 44 rfl (w.heap.size + 1) 60 i0 _ 3 24 Try.underlying44 hi hz0 hz1 hz2 rfl (by decide) _ _ _ rfl (HO1.out.alloc _) _ 1 1 (E3.cells ⟨(s : Int), 1, (k : Int)⟩) rfl rfl (World.news_of_block (heap_alloc_new _ _)) (by simp [E3.cells, Value.oneCell']) (by omega) (by unfold maxLen; omega) (by omega) (by simp; omega) _ rfl ?_; intro g2 cap2 w2 hown' hg hat hlt'; have hsz2 : w.heap.size + 1 ≤ w2.heap.size := (by have := hg.size; simp at this; omega); have HB2 := Lib.hid ((HB1.out.alloc hsz1 _).grown hg (by simp; omega) (fun jj hj => (HO1.out.lt jj hj).1)); have HO2 := Lib.hid hown'; clear hown' hg hat hlt') | fail)
        go_roundw
        case rel => exact ⟨s + 1, by omega, by go_num, by rw [HN.out, ce_app, ce_app, List.length_append, List.length_append]; exact HO2.out, HB2.out⟩
        case measure => simp [intOf] <;> omega
      · have q1 : decide ((s : Int) + 1 < k) = false := by simp <;> omega
        have hnext : gL (gT2 j k) (s + 1) = L ++ [⟨(s : Int), 1, (k : Int)⟩] := by rw [gL_succ, ← hL, gT2, if_pos hlt, if_neg h1]; simp
        have HN := Lib.hid hnext; clear hnext
        clear hL
        go_wp2_with (first | (at_builtin; refine wpList_append_lies _ rfl (.tmp 45) (.tmp 49) 44 rfl (w.heap.size + 1) 60 i0 _ 3 24 Try.underlying44 hi hz0 hz1 hz2 rfl (by decide) _ _ _ rfl (HO.out.alloc _) _ 1 1 (E3.cells ⟨(s : Int), 1, (k : Int)⟩) rfl rfl (World.news_of_block (heap_alloc_new _ _)) (by simp [E3.cells, Value.oneCell']) (by omega) (by unfold maxLen; omega) (by omega) (by simp; omega) _ rfl ?_; intro g1 cap1 w1 hown' hg hat hlt'; have hsz1 : w.heap.size + 1 ≤ w1.heap.size := (by have := hg.size; simp at this; omega); have HB1 := Lib.hid ((HB.out.alloc hsz _).grown hg (by simp; omega) (fun jj hj => (HO.out.lt jj hj).1)); have HO1 := Lib.hid hown'; clear hown' hg hat hlt') | fail)
        go_roundw
        case rel => exact ⟨s + 1, by omega, by go_num, by rw [HN.out, ce_app, List.length_append]; exact HO1.out, HB1.out⟩
        case measure => simp [intOf] <;> omega
    · obtain rfl : k = s := by omega
      obtain ⟨a, cap, rfl⟩ := own_slice hown
      have HO0 := Lib.hid hown; clear hown
      have HB0 := Lib.hid hbel; clear hbel
      go_wp2_with fail
      go_loopw [6, 8] (fun u i wr => ∃ z : Nat, k ≤ z ∧ z ≤ k + j ∧ i = .int .i64 z ∧ wr.ownsRow (w.heap.size + 1) 60 3 u (gL (gT2 j k) z).length (ce (gL (gT2 j k) z)) ∧ Below (w.heap.size + 1) (w.alloc (.cells #[.int .i64 0, .int .i64 0, .slice none 0 0] 46)) wr) (fun _ i _ => k + j - (intOf i).toNat)
      case atStart => exact ⟨k, Nat.le_refl _, by omega, rfl, HO0.out, HB0.out⟩
      case round =>
        clear hsz
        obtain ⟨s, hks, hs, rfl, hown, hbel⟩ := hrel
        have hl : (gL (gT2 j k) s).length ≤ 256 := by have := gL_length (gT2 j k) 2 (s) (fun x _ => gT2_len j k x); omega
        have hsz : w.heap.size + 1 ≤ wr.heap.size := by have := hbel.size; simpa using this
        by_cases hlt : s < k + j
        · obtain ⟨L, hL⟩ : ∃ L, L = gL (gT2 j k) s := ⟨_, rfl⟩
          rw [← hL] at hown hl
          obtain ⟨a, cap, rfl⟩ := own_slice hown
          have HO := Lib.hid hown; clear hown
          have HB := Lib.hid hbel; clear hbel
          by_cases h1 : s + 1 < k + j
          · have q1 : decide ((s : Int) + 1 < (k : Int) + j) = true := by simp <;> omega
            have hnext : gL (gT2 j k) (s + 1) = L ++ [⟨(s : Int), 1, (s : Int) + 1⟩] ++ [⟨(s : Int), 0, 0⟩] := by rw [gL_succ, ← hL, gT2, if_neg (by omega), if_pos (by omega)]; simp
            have HN := Lib.hid hnext; clear hnext
            clear hL
            go_wp2_with (first | (at_builtin; refine wpList_append_lies _ rfl (.tmp 65) (.tmp 70) 44 rfl (w.heap.size + 1) 60 i0 _ 3 24 Try.underlying44 hi hz0 hz1 hz2 rfl (by decide) _ _ _ rfl (HO.out.alloc _) _ 1 1 (E3.cells ⟨(s : Int), 1, (s : Int) + 1⟩) rfl rfl (World.news_of_block (heap_alloc_new _ _)) (by simp [E3.cells, Value.oneCell']) (by omega) (by unfold maxLen; omega) (by omega) (by simp; omega) _ rfl ?_; intro g1 cap1 w1 hown' hg hat hlt'; have hsz1 : w.heap.size + 1 ≤ w1.heap.size := (by have := hg.size; simp at this; omega); have HB1 := Lib.hid ((HB.out.alloc hsz _).grown hg (by simp; omega) (fun jj hj => (HO.out.lt jj hj).1)); have HO1 := Lib.hid hown'; clear hown' hg hat hlt') | (at_builtin; refine wpList_append_lies _ rfl (.tmp 72) (.tmp 75) 44 rfl (w.heap.size + 1) 60 i0 _ 3 24 Try.underlying44 hi hz0 hz1 hz2 rfl (by decide) _ _ _ rfl (HO1.out.alloc _) _ 1 1 (E3.cells ⟨(s : Int), 0, 0⟩) rfl rfl (World.news_of_block (heap_alloc_new _ _)) (by simp [E3.cells, Value.oneCell']) (by omega) (by unfold maxLen; omega) (by omega) (by simp; omega) _ rfl ?_; intro g2 cap2 w2 hown' hg hat hlt'; have hsz2 : w.heap.size + 1 ≤ w2.heap.size := (by have := hg.size; simp at this; omega); have HB2 := Lib.hid ((HB1.out.alloc hsz1 _).grown hg (by simp; omega) (fun jj hj => (HO1.out.lt jj hj).1)); have HO2 := Lib.hid hown'; clear hown' hg hat hlt') | fail)
            go_roundw
            case rel => exact ⟨s + 1, by omega, by omega, by go_num, by rw [HN.out, ce_app, ce_app, List.length_append, List.length_append]; exact HO2.out, HB2.out⟩
            case measure => simp [intOf] <;> omega
          · have q1 : decide ((s : Int) + 1 < (k : Int) + j) = false := by simp <;> omega
            have hnext : gL (gT2 j k) (s + 1) = L ++ [⟨(s : Int), 0, 0⟩] := by rw [gL_succ, ← hL, gT2, if_neg (by omega), if_neg (by omega)]; simp
            have HN := Lib.hid hnext; clear hnext
            clear hL
            go_wp2_with (first | (at_builtin; refine wpList_append_lies _ rfl (.tmp 72) (.tmp 75) 44 rfl (w.heap.size + 1) 60 i0 _ 3 24 Try.underlying44 hi hz0 hz1 hz2 rfl (by decide) _ _ _ rfl (HO.out.alloc _) _ 1 1 (E3.cells ⟨(s : Int), 0, 0⟩) rfl rfl (World.news_of_block (heap_alloc_new _ _)) (by simp [E3.cells, Value.oneCell']) (by omega) (by unfold maxLen; omega) (by omega) (by simp; omega) _ rfl ?_; intro g1 cap1 w1 hown' hg hat hlt'; have hsz1 : w.heap.size + 1 ≤ w1.heap.size := (by have := hg.size; simp at this; omega); have HB1 := Lib.hid ((HB.out.alloc hsz _).grown hg (by simp; omega) (fun jj hj => (HO.out.lt jj hj).1)); have HO1 := Lib.hid hown'; clear hown' hg hat hlt') | fail)
            go_roundw
            case rel => exact ⟨s + 1, by omega, by omega, by go_num, by rw [HN.out, ce_app, List.length_append]; exact HO1.out, HB1.out⟩
            case measure => simp [intOf] <;> omega
        · obtain rfl : s = k + j := by omega
          have hbd := fun v' w' hr => rbuild_ok (k + j) (tT j k) (gL (gT2 j k) (k + j)) v' w' (by have h := trans_tells j k hj hk hjk; rwa [Nat.add_comm j k] at h) hr
          obtain ⟨C, hC⟩ : ∃ C, C = canon (k + j) (tT j k) := ⟨_, rfl⟩
          simp only [← hC] at hbd
          simp only [show ((k + j : Nat) : Int) = (k : Int) + (j : Int) by omega] at hbd
          have HBD := Lib.hid hbd; clear hbd
          have HC := Lib.hid hC; clear hC
          have hrow := own_row hown
          have HROW := Lib.hid hrow; clear hrow
          have hb0 := (Blk.new w 46 [.int .i64 0, .int .i64 0, .slice none 0 0]).below hbel (by omega)
          have HB0 := Lib.hid hb0; clear hb0
          have hbw : Below w.heap.size w wr := ((Below.refl w.heap.size w).alloc (Nat.le_refl _) (.cells #[.int .i64 0, .int .i64 0, .slice none 0 0] 46)).trans (hbel.mono (by omega))
          have HBW := Lib.hid hbw; clear hbw
          obtain ⟨a, cap, rfl⟩ := own_slice hown
          clear hbel hown
          go_wp2_with fail
          go_at_call 53
          refine (HBD.out _ _ HROW.out).mono ?_
          rintro e w2 ⟨hq, v2, rfl, hrow2, hnw⟩
          obtain ⟨a2, c2, rfl, -⟩ := hrow2.slice
          have hsw := HBW.out.size
          have hnv : (Value.slice a2 C.length c2).ownBlock ≠ some w.heap.size := fun e => by have := hnw _ e; have := HB0.out.lt; omega
          have tk := HB0.out.keep hq; have x0 := tk.cell (j := 0) rfl; have x1 := tk.cell (j := 1) rfl; have x2 := tk.cell (j := 2) rfl; have B2 := Lib.hid tk; clear tk
          have f0 := B2.out.frozen 0
          have f1 := B2.out.frozen 1
          have f2 := B2.out.frozen 2
          have HNV := Lib.hid hnv; clear hnv
          have HNW := Lib.hid hnw; clear hnw
          have HR2 := Lib.hid hrow2; clear hrow2
          have HQ := Lib.hid hq; clear hq
          go_wp2_with fail
          refine bodyPost_ret (v := .tuple #[.agg #[.int .i64 2, .int .i64 ((k : Int) + (j : Int)), .slice a2 C.length c2], .int .i64 0]) (by simp [results, Try.results30, go_sem, *]) rfl ⟨?_, _, rfl, ?_⟩
          · have s1 := HBW.out.trans (HQ.out.mono HBW.out.size)
            exact ((s1.setCell (p := ⟨w.heap.size, 0, none⟩) (Nat.le_refl _) _).setCell (p := ⟨w.heap.size, 1, none⟩) (Nat.le_refl _) _).setCell (p := ⟨w.heap.size, 2, none⟩) (Nat.le_refl _) _
          · rw [← HC.out]; exact row_setCell (row_setCell (row_setCell HR2.out ⟨w.heap.size, 0, none⟩ _ HNV.out) ⟨w.heap.size, 1, none⟩ _ HNV.out) ⟨w.heap.size, 2, none⟩ _ HNV.out

set_option maxRecDepth 100000 in
set_option maxHeartbeats 800000 in
theorem rgraph_no2 (d k : Int) (w : World) (hp : pairB d k = false) :
    Calls Try.prog 24 #[.int .i64 d, .int .i64 k] w (GOut 0 0 [] 2 w) := by
  have HP := Lib.hid hp; clear hp
  go_enter Try.func24, Try.ntmps24
  go_wp2_with (first | (go_at_call 46; refine (rpair_any _ _ _).mono ?_; rintro e w' ⟨rfl, rfl⟩; rw [HP.out]))
  refine bodyPost_ret (v := .tuple #[.agg #[.int .i64 0, .int .i64 0, .slice none 0 0], .int .i64 2]) (by simp [results, Try.results24, go_sem]) rfl ⟨?_, _, rfl, Row.nil _⟩
  repeat (first | exact Below.refl _ _ | refine Below.alloc ?_ (by simp <;> omega) _)
set_option maxRecDepth 100000 in
set_option maxHeartbeats 800000 in
theorem rlevels_no2 (d k : Int) (w : World) (hp : pairB d k = false) :
    Calls Try.prog 26 #[.int .i64 d, .int .i64 k] w (GOut 0 0 [] 2 w) := by
  have HP := Lib.hid hp; clear hp
  go_enter Try.func26, Try.ntmps26
  go_wp2_with (first | (go_at_call 46; refine (rpair_any _ _ _).mono ?_; rintro e w' ⟨rfl, rfl⟩; rw [HP.out]))
  refine bodyPost_ret (v := .tuple #[.agg #[.int .i64 0, .int .i64 0, .slice none 0 0], .int .i64 2]) (by simp [results, Try.results26, go_sem]) rfl ⟨?_, _, rfl, Row.nil _⟩
  repeat (first | exact Below.refl _ _ | refine Below.alloc ?_ (by simp <;> omega) _)
set_option maxRecDepth 100000 in
set_option maxHeartbeats 800000 in
theorem rgraph_no4 (d k : Int) (w : World) (hp : pairB d k = true) (hl : (k = -1 ∧ 64 ≤ d) ∨ (¬ k = -1 ∧ 64 ≤ k)) :
    Calls Try.prog 24 #[.int .i64 d, .int .i64 k] w (GOut 0 0 [] 4 w) := by
  have HP := Lib.hid hp; clear hp
  rcases hl with ⟨rfl, h1⟩ | ⟨h0, h1⟩
  · go_enter Try.func24, Try.ntmps24
    go_wp2_with (first | (go_at_call 46; refine (rpair_any _ _ _).mono ?_; rintro e w' ⟨rfl, rfl⟩; rw [HP.out]))
    refine bodyPost_ret (v := .tuple #[.agg #[.int .i64 0, .int .i64 0, .slice none 0 0], .int .i64 4]) (by simp [results, Try.results24, go_sem]) rfl ⟨?_, _, rfl, Row.nil _⟩
    repeat (first | exact Below.refl _ _ | refine Below.alloc ?_ (by simp <;> omega) _)
  · have hk1 : (k == -1) = false := by simp [h0]
    clear h0
    go_enter Try.func24, Try.ntmps24
    go_wp2_with (first | (go_at_call 46; refine (rpair_any _ _ _).mono ?_; rintro e w' ⟨rfl, rfl⟩; rw [HP.out]))
    refine bodyPost_ret (v := .tuple #[.agg #[.int .i64 0, .int .i64 0, .slice none 0 0], .int .i64 4]) (by simp [results, Try.results24, go_sem]) rfl ⟨?_, _, rfl, Row.nil _⟩
    repeat (first | exact Below.refl _ _ | refine Below.alloc ?_ (by simp <;> omega) _)
set_option maxRecDepth 100000 in
set_option maxHeartbeats 800000 in
theorem rlevels_no4 (d k : Int) (w : World) (hp : pairB d k = true) (hl : (k = -1 ∧ 64 ≤ d) ∨ (¬ k = -1 ∧ 64 ≤ k)) :
    Calls Try.prog 26 #[.int .i64 d, .int .i64 k] w (GOut 0 0 [] 4 w) := by
  have hdk : k = -1 ∨ d ≤ k := by simp [pairB] at hp; omega
  have HP := Lib.hid hp; clear hp
  rcases hl with ⟨rfl, h1⟩ | ⟨h0, h1⟩
  · clear hdk
    have hmx : ∀ (w : World) (ts : Array TypeId) (t : TypeId), (Builtin.max_ ts t #[.int .i64 d, .int .i64 (-1)]).run Try.prog w = .ok (.int .i64 d) w := fun w ts t => by simp [Builtin.max_, Builtin.max2]; omega
    go_enter Try.func26, Try.ntmps26
    go_wp2_with (first | (go_at_call 46; refine (rpair_any _ _ _).mono ?_; rintro e w' ⟨rfl, rfl⟩; rw [HP.out]))
    refine bodyPost_ret (v := .tuple #[.agg #[.int .i64 0, .int .i64 0, .slice none 0 0], .int .i64 4]) (by simp [results, Try.results26, go_sem]) rfl ⟨?_, _, rfl, Row.nil _⟩
    repeat (first | exact Below.refl _ _ | refine Below.alloc ?_ (by simp <;> omega) _)
  · have hdk2 : d ≤ k := by omega
    clear hdk
    have hmx : ∀ (w : World) (ts : Array TypeId) (t : TypeId), (Builtin.max_ ts t #[.int .i64 d, .int .i64 k]).run Try.prog w = .ok (.int .i64 k) w := fun w ts t => by simp [Builtin.max_, Builtin.max2]; omega
    clear h0
    go_enter Try.func26, Try.ntmps26
    go_wp2_with (first | (go_at_call 46; refine (rpair_any _ _ _).mono ?_; rintro e w' ⟨rfl, rfl⟩; rw [HP.out]))
    refine bodyPost_ret (v := .tuple #[.agg #[.int .i64 0, .int .i64 0, .slice none 0 0], .int .i64 4]) (by simp [results, Try.results26, go_sem]) rfl ⟨?_, _, rfl, Row.nil _⟩
    repeat (first | exact Below.refl _ _ | refine Below.alloc ?_ (by simp <;> omega) _)
set_option maxRecDepth 100000 in
set_option maxHeartbeats 800000 in
theorem rspaced_no2 (d k st : Int) (w : World) (h : d < 0 ∨ (0 ≤ d ∧ k < d) ∨ (0 ≤ d ∧ d ≤ k ∧ st < 1)) :
    Calls Try.prog 28 #[.int .i64 d, .int .i64 k, .int .i64 st] w (GOut 0 0 [] 2 w) := by
  rcases h with h | ⟨h1, h2⟩ | ⟨h1, h2, h3⟩
  · have t1 : decide (d < 0) = true := by simpa using h
    go_enter Try.func28, Try.ntmps28
    go_wp2_with fail
    refine bodyPost_ret (v := .tuple #[.agg #[.int .i64 0, .int .i64 0, .slice none 0 0], .int .i64 2]) (by simp [results, Try.results28, go_sem]) rfl ⟨?_, _, rfl, Row.nil _⟩
    repeat (first | exact Below.refl _ _ | refine Below.alloc ?_ (by simp <;> omega) _)
  · have t1 : decide (d < 0) = false := by simpa using h1
    have t2 : decide (k < d) = true := by simpa using h2
    go_enter Try.func28, Try.ntmps28
    go_wp2_with fail
    refine bodyPost_ret (v := .tuple #[.agg #[.int .i64 0, .int .i64 0, .slice none 0 0], .int .i64 2]) (by simp [results, Try.results28, go_sem]) rfl ⟨?_, _, rfl, Row.nil _⟩
    repeat (first | exact Below.refl _ _ | refine Below.alloc ?_ (by simp <;> omega) _)
  · have t1 : decide (d < 0) = false := by simpa using h1
    have t2 : decide (k < d) = false := by simpa using h2
    have t3 : decide (st < 1) = true := by simpa using h3
    go_enter Try.func28, Try.ntmps28
    go_wp2_with fail
    refine bodyPost_ret (v := .tuple #[.agg #[.int .i64 0, .int .i64 0, .slice none 0 0], .int .i64 2]) (by simp [results, Try.results28, go_sem]) rfl ⟨?_, _, rfl, Row.nil _⟩
    repeat (first | exact Below.refl _ _ | refine Below.alloc ?_ (by simp <;> omega) _)
set_option maxRecDepth 100000 in
set_option maxHeartbeats 800000 in
theorem rspaced_no4 (d k st : Nat) (w : World) (h1 : d ≤ k) (hk : k ≤ 9223372036854775807) (h2 : 1 ≤ st) (hst2 : st ≤ 9223372036854775807) (h3 : 64 ≤ k - (k - d) % st) :
    Calls Try.prog 28 #[.int .i64 (d : Int), .int .i64 (k : Int), .int .i64 (st : Int)] w (GOut 0 0 [] 4 w) := by
  have hle : (k - d) % st ≤ k - d := Nat.mod_le _ _
  obtain ⟨E, hE⟩ : ∃ E, E = k - (k - d) % st := ⟨_, rfl⟩
  rw [← hE] at h3
  have hdE : d ≤ E := by omega
  have hEk : E ≤ k := by omega
  have hqN : (k - d) / st * st = E - d := by have := Nat.div_add_mod (k - d) st; rw [Nat.mul_comm] at this; omega
  have hq : ((k : Int) - (d : Int)) / (st : Int) * (st : Int) = ((E - d : Nat) : Int) := by
    rw [← hqN, show (k : Int) - (d : Int) = ((k - d : Nat) : Int) by omega, Int.natCast_mul, Int.natCast_ediv]
  have hq1 : 0 ≤ ((k : Int) - (d : Int)) / (st : Int) * (st : Int) := by rw [hq]; omega
  have hq2 : ((k : Int) - (d : Int)) / (st : Int) * (st : Int) ≤ 9223372036854775807 - d := by rw [hq]; omega
  have hqE : (d : Int) + ((k : Int) - (d : Int)) / (st : Int) * (st : Int) = (E : Int) := by rw [hq]; omega
  have hq3 : 0 ≤ ((k : Int) - (d : Int)) / (st : Int) := Int.ediv_nonneg (by omega) (by omega)
  have hq4 : ((k : Int) - (d : Int)) / (st : Int) ≤ 9223372036854775807 := Int.le_trans (Int.ediv_le_self _ (by omega)) (by omega)
  clear hq hqN hle hE
  go_enter Try.func28, Try.ntmps28
  go_wp2_with fail
  refine bodyPost_ret (v := .tuple #[.agg #[.int .i64 0, .int .i64 0, .slice none 0 0], .int .i64 4]) (by simp [results, Try.results28, go_sem]) rfl ⟨?_, _, rfl, Row.nil _⟩
  repeat (first | exact Below.refl _ _ | refine Below.alloc ?_ (by simp <;> omega) _)
set_option maxRecDepth 100000 in
set_option maxHeartbeats 800000 in
theorem rtrans_no2 (j k : Int) (w : World) (h : j < 1 ∨ (1 ≤ j ∧ k < 1)) :
    Calls Try.prog 30 #[.int .i64 j, .int .i64 k] w (GOut 0 0 [] 2 w) := by
  rcases h with h | ⟨h1, h2⟩
  · have t1 : decide (j < 1) = true := by simpa using h
    go_enter Try.func30, Try.ntmps30
    go_wp2_with fail
    refine bodyPost_ret (v := .tuple #[.agg #[.int .i64 0, .int .i64 0, .slice none 0 0], .int .i64 2]) (by simp [results, Try.results30, go_sem]) rfl ⟨?_, _, rfl, Row.nil _⟩
    repeat (first | exact Below.refl _ _ | refine Below.alloc ?_ (by simp <;> omega) _)
  · have t1 : decide (j < 1) = false := by simpa using h1
    have t2 : decide (k < 1) = true := by simpa using h2
    go_enter Try.func30, Try.ntmps30
    go_wp2_with fail
    refine bodyPost_ret (v := .tuple #[.agg #[.int .i64 0, .int .i64 0, .slice none 0 0], .int .i64 2]) (by simp [results, Try.results30, go_sem]) rfl ⟨?_, _, rfl, Row.nil _⟩
    repeat (first | exact Below.refl _ _ | refine Below.alloc ?_ (by simp <;> omega) _)
set_option maxRecDepth 100000 in
set_option maxHeartbeats 800000 in
theorem rtrans_no4 (j k : Int) (w : World) (h1 : 1 ≤ j) (h2 : 1 ≤ k) (h : 64 < j ∨ (j ≤ 64 ∧ 64 < k) ∨ (j ≤ 64 ∧ k ≤ 64 ∧ 64 < j + k)) :
    Calls Try.prog 30 #[.int .i64 j, .int .i64 k] w (GOut 0 0 [] 4 w) := by
  rcases h with h | ⟨h3, h4⟩ | ⟨h3, h4, h5⟩
  · have t1 : decide (64 < j) = true := by simpa using h
    go_enter Try.func30, Try.ntmps30
    go_wp2_with fail
    refine bodyPost_ret (v := .tuple #[.agg #[.int .i64 0, .int .i64 0, .slice none 0 0], .int .i64 4]) (by simp [results, Try.results30, go_sem]) rfl ⟨?_, _, rfl, Row.nil _⟩
    repeat (first | exact Below.refl _ _ | refine Below.alloc ?_ (by simp <;> omega) _)
  · have t1 : decide (64 < j) = false := by simpa using h3
    have t2 : decide (64 < k) = true := by simpa using h4
    go_enter Try.func30, Try.ntmps30
    go_wp2_with fail
    refine bodyPost_ret (v := .tuple #[.agg #[.int .i64 0, .int .i64 0, .slice none 0 0], .int .i64 4]) (by simp [results, Try.results30, go_sem]) rfl ⟨?_, _, rfl, Row.nil _⟩
    repeat (first | exact Below.refl _ _ | refine Below.alloc ?_ (by simp <;> omega) _)
  · have t1 : decide (64 < j) = false := by simpa using h3
    have t2 : decide (64 < k) = false := by simpa using h4
    go_enter Try.func30, Try.ntmps30
    go_wp2_with fail
    refine bodyPost_ret (v := .tuple #[.agg #[.int .i64 0, .int .i64 0, .slice none 0 0], .int .i64 4]) (by simp [results, Try.results30, go_sem]) rfl ⟨?_, _, rfl, Row.nil _⟩
    repeat (first | exact Below.refl _ _ | refine Below.alloc ?_ (by simp <;> omega) _)
end Go.Proofs.Ytadibbbaegbljaa
