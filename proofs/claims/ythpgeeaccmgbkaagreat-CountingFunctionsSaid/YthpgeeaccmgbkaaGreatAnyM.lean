/- slices.IndexFunc, slices.ContainsFunc where no element has the property (printed by gen_any.py). -/
import Derived.Shelf.Abstract
import Derived.Test.YthpgeeaccmgbkaaGreatPart7
namespace Go.Proofs.YthpgeeaccmgbkaaGreat
open Go.RowKit

/-- A slice's header. -/
abbrev Hd : Type := Option Addr × Nat × Nat
abbrev hdV (x : Hd) : Value := .slice x.1 x.2.1 x.2.2
set_option maxRecDepth 100000 in
set_option maxHeartbeats 3200000 in
theorem anyI_idx (l : List Int) (v : Value) (F : Nat) (cb : Array Value) (w : World) (hr : Row w v l.length (civ l)) (hent : ∀ args w, (callFunc F args).run Tryz.prog w = .ok (.enter F args) w)
  (hP : ∀ x ∈ l, ∀ w', Below w.heap.size w w' → Calls Tryz.prog F (#[.agg #[.bool (ineg x), .string (imag x)]] ++ cb) w' (Ret w' (.bool false))) :
  Calls Tryz.prog 98 #[v, .func (.func F) #[] cb] w (Ret w (.int .i64 (-1))) := by
 obtain ⟨va, vc, rfl, hle⟩ := hr.slice
 obtain ⟨m, hm⟩ : ∃ m, m = l.length := ⟨_, rfl⟩
 rw [← hm] at hr hle ⊢
 have HR := Lib.hid hr; clear hr
 have HM := Lib.hid hm; clear hm
 have HP := Lib.hid hP; clear hP
 go_enter Tryz.func98, Tryz.ntmps98
 go_wp2_with fail
 go_loopw [8] (fun i wr => ∃ j : Nat, j ≤ m ∧ i = .int .i64 j ∧ Below w.heap.size w wr) (fun i _ => m - (intOf i).toNat)
 case atStart => exact ⟨0, Nat.zero_le _, rfl, Below.refl _ _⟩
 case round =>
  obtain ⟨j, hj, rfl, hbel⟩ := hrel
  by_cases hlt : j < m
  ·
   have hjl : j < l.length := by rw [← HM.out]; exact hlt
   have hget : l[j]? = some (l[j]'hjl) := List.getElem?_eq_getElem _
   have hp := HP.out _ (List.getElem_mem hjl) wr hbel
   obtain ⟨y, hy⟩ : ∃ y, y = l[j]'hjl := ⟨_, rfl⟩
   rw [← hy] at hget hp
   obtain ⟨b, off, rfl, hbw, hce⟩ := HR.out.at_ (by omega)
   obtain ⟨c0, c1⟩ := int_cells hce hbel hbw hget
   have hix : (0 : Int) ≤ (j : Int) := by omega
   have hix2 : (j : Int) < (m : Int) := by omega
   have HPJ := Lib.hid hp; clear hp
   have HBEL := Lib.hid hbel; clear hbel
   clear hce hget hy
   go_wp2_with fail
   refine HPJ.out.mono ?_
   rintro e w1 ⟨hq1, rfl⟩
   have s1 := HBEL.out.trans (hq1.mono HBEL.out.size)
   have S1 := Lib.hid s1; clear s1
   clear hq1
   go_wp2_with fail
   go_roundw
   case rel => exact ⟨j + 1, by omega, by go_num, S1.out⟩
   case measure => simp [intOf]; omega
  ·
   obtain rfl : j = m := by omega
   have HBEL := Lib.hid hbel; clear hbel
   go_wp2_with fail
   go_ret
   exact ⟨HBEL.out, rfl⟩
set_option maxRecDepth 100000 in
set_option maxHeartbeats 3200000 in
theorem anyI_any (l : List Int) (v : Value) (F : Nat) (cb : Array Value) (w : World) (hr : Row w v l.length (civ l)) (hent : ∀ args w, (callFunc F args).run Tryz.prog w = .ok (.enter F args) w)
  (hP : ∀ x ∈ l, ∀ w', Below w.heap.size w w' → Calls Tryz.prog F (#[.agg #[.bool (ineg x), .string (imag x)]] ++ cb) w' (Ret w' (.bool false))) :
  Calls Tryz.prog 60 #[v, .func (.func F) #[] cb] w (Ret w (.bool false)) := by
 have hi := anyI_idx l v F cb w hr hent hP
 obtain ⟨va, vc, rfl, hle⟩ := hr.slice
 have HI := Lib.hid hi; clear hi
 clear hr hP
 go_enter Tryz.func60, Tryz.ntmps60
 go_wp2_with fail
 go_at_call 98
 refine HI.out.mono ?_
 rintro e w1 ⟨hq, rfl⟩
 have HQ := Lib.hid hq; clear hq
 go_wp2_with fail
 go_ret
 exact ⟨HQ.out, rfl⟩
set_option maxRecDepth 100000 in
set_option maxHeartbeats 3200000 in
theorem anyR_idx (l : List Hd) (v : Value) (F : Nat) (cb : Array Value) (w : World) (hr : Row w v l.length (l.map hdV)) (hent : ∀ args w, (callFunc F args).run Tryz.prog w = .ok (.enter F args) w)
  (hP : ∀ x ∈ l, ∀ w', Below w.heap.size w w' → Calls Tryz.prog F (#[hdV x] ++ cb) w' (Ret w' (.bool false))) :
  Calls Tryz.prog 167 #[v, .func (.func F) #[] cb] w (Ret w (.int .i64 (-1))) := by
 obtain ⟨va, vc, rfl, hle⟩ := hr.slice
 obtain ⟨m, hm⟩ : ∃ m, m = l.length := ⟨_, rfl⟩
 rw [← hm] at hr hle ⊢
 have HR := Lib.hid hr; clear hr
 have HM := Lib.hid hm; clear hm
 have HP := Lib.hid hP; clear hP
 go_enter Tryz.func167, Tryz.ntmps167
 go_wp2_with fail
 go_loopw [8] (fun i wr => ∃ j : Nat, j ≤ m ∧ i = .int .i64 j ∧ Below w.heap.size w wr) (fun i _ => m - (intOf i).toNat)
 case atStart => exact ⟨0, Nat.zero_le _, rfl, Below.refl _ _⟩
 case round =>
  obtain ⟨j, hj, rfl, hbel⟩ := hrel
  by_cases hlt : j < m
  ·
   have hjl : j < l.length := by rw [← HM.out]; exact hlt
   have hget : l[j]? = some (l[j]'hjl) := List.getElem?_eq_getElem _
   have hp := HP.out _ (List.getElem_mem hjl) wr hbel
   obtain ⟨y, hy⟩ : ∃ y, y = l[j]'hjl := ⟨_, rfl⟩
   rw [← hy] at hget hp
   obtain ⟨b, off, rfl, hbw, hce⟩ := HR.out.at_ (by omega)
   have c0 := (hbel.cell (p := ⟨b, off + j, none⟩) hbw).trans (hce j (hdV y) (by rw [List.getElem?_map, hget]; rfl))
   obtain ⟨y1, y2, y3⟩ := y
   have hix : (0 : Int) ≤ (j : Int) := by omega
   have hix2 : (j : Int) < (m : Int) := by omega
   have HPJ := Lib.hid hp; clear hp
   have HBEL := Lib.hid hbel; clear hbel
   clear hce hget hy
   go_wp2_with fail
   refine HPJ.out.mono ?_
   rintro e w1 ⟨hq1, rfl⟩
   have s1 := HBEL.out.trans (hq1.mono HBEL.out.size)
   have S1 := Lib.hid s1; clear s1
   clear hq1
   go_wp2_with fail
   go_roundw
   case rel => exact ⟨j + 1, by omega, by go_num, S1.out⟩
   case measure => simp [intOf]; omega
  ·
   obtain rfl : j = m := by omega
   have HBEL := Lib.hid hbel; clear hbel
   go_wp2_with fail
   go_ret
   exact ⟨HBEL.out, rfl⟩
set_option maxRecDepth 100000 in
set_option maxHeartbeats 3200000 in
theorem anyR_any (l : List Hd) (v : Value) (F : Nat) (cb : Array Value) (w : World) (hr : Row w v l.length (l.map hdV)) (hent : ∀ args w, (callFunc F args).run Tryz.prog w = .ok (.enter F args) w)
  (hP : ∀ x ∈ l, ∀ w', Below w.heap.size w w' → Calls Tryz.prog F (#[hdV x] ++ cb) w' (Ret w' (.bool false))) :
  Calls Tryz.prog 154 #[v, .func (.func F) #[] cb] w (Ret w (.bool false)) := by
 have hi := anyR_idx l v F cb w hr hent hP
 obtain ⟨va, vc, rfl, hle⟩ := hr.slice
 have HI := Lib.hid hi; clear hi
 clear hr hP
 go_enter Tryz.func154, Tryz.ntmps154
 go_wp2_with fail
 go_at_call 167
 refine HI.out.mono ?_
 rintro e w1 ⟨hq, rfl⟩
 have HQ := Lib.hid hq; clear hq
 go_wp2_with fail
 go_ret
 exact ⟨HQ.out, rfl⟩
set_option maxRecDepth 100000 in
set_option maxHeartbeats 3200000 in
theorem anyM_idx (l : List Hd) (v : Value) (F : Nat) (cb : Array Value) (w : World) (hr : Row w v l.length (l.map hdV)) (hent : ∀ args w, (callFunc F args).run Tryz.prog w = .ok (.enter F args) w)
  (hP : ∀ x ∈ l, ∀ w', Below w.heap.size w w' → Calls Tryz.prog F (#[hdV x] ++ cb) w' (Ret w' (.bool false))) :
  Calls Tryz.prog 153 #[v, .func (.func F) #[] cb] w (Ret w (.int .i64 (-1))) := by
 obtain ⟨va, vc, rfl, hle⟩ := hr.slice
 obtain ⟨m, hm⟩ : ∃ m, m = l.length := ⟨_, rfl⟩
 rw [← hm] at hr hle ⊢
 have HR := Lib.hid hr; clear hr
 have HM := Lib.hid hm; clear hm
 have HP := Lib.hid hP; clear hP
 go_enter Tryz.func153, Tryz.ntmps153
 go_wp2_with fail
 go_loopw [8] (fun i wr => ∃ j : Nat, j ≤ m ∧ i = .int .i64 j ∧ Below w.heap.size w wr) (fun i _ => m - (intOf i).toNat)
 case atStart => exact ⟨0, Nat.zero_le _, rfl, Below.refl _ _⟩
 case round =>
  obtain ⟨j, hj, rfl, hbel⟩ := hrel
  by_cases hlt : j < m
  ·
   have hjl : j < l.length := by rw [← HM.out]; exact hlt
   have hget : l[j]? = some (l[j]'hjl) := List.getElem?_eq_getElem _
   have hp := HP.out _ (List.getElem_mem hjl) wr hbel
   obtain ⟨y, hy⟩ : ∃ y, y = l[j]'hjl := ⟨_, rfl⟩
   rw [← hy] at hget hp
   obtain ⟨b, off, rfl, hbw, hce⟩ := HR.out.at_ (by omega)
   have c0 := (hbel.cell (p := ⟨b, off + j, none⟩) hbw).trans (hce j (hdV y) (by rw [List.getElem?_map, hget]; rfl))
   obtain ⟨y1, y2, y3⟩ := y
   have hix : (0 : Int) ≤ (j : Int) := by omega
   have hix2 : (j : Int) < (m : Int) := by omega
   have HPJ := Lib.hid hp; clear hp
   have HBEL := Lib.hid hbel; clear hbel
   clear hce hget hy
   go_wp2_with fail
   refine HPJ.out.mono ?_
   rintro e w1 ⟨hq1, rfl⟩
   have s1 := HBEL.out.trans (hq1.mono HBEL.out.size)
   have S1 := Lib.hid s1; clear s1
   clear hq1
   go_wp2_with fail
   go_roundw
   case rel => exact ⟨j + 1, by omega, by go_num, S1.out⟩
   case measure => simp [intOf]; omega
  ·
   obtain rfl : j = m := by omega
   have HBEL := Lib.hid hbel; clear hbel
   go_wp2_with fail
   go_ret
   exact ⟨HBEL.out, rfl⟩
set_option maxRecDepth 100000 in
set_option maxHeartbeats 3200000 in
theorem anyM_any (l : List Hd) (v : Value) (F : Nat) (cb : Array Value) (w : World) (hr : Row w v l.length (l.map hdV)) (hent : ∀ args w, (callFunc F args).run Tryz.prog w = .ok (.enter F args) w)
  (hP : ∀ x ∈ l, ∀ w', Below w.heap.size w w' → Calls Tryz.prog F (#[hdV x] ++ cb) w' (Ret w' (.bool false))) :
  Calls Tryz.prog 128 #[v, .func (.func F) #[] cb] w (Ret w (.bool false)) := by
 have hi := anyM_idx l v F cb w hr hent hP
 obtain ⟨va, vc, rfl, hle⟩ := hr.slice
 have HI := Lib.hid hi; clear hi
 clear hr hP
 go_enter Tryz.func128, Tryz.ntmps128
 go_wp2_with fail
 go_at_call 153
 refine HI.out.mono ?_
 rintro e w1 ⟨hq, rfl⟩
 have HQ := Lib.hid hq; clear hq
 go_wp2_with fail
 go_ret
 exact ⟨HQ.out, rfl⟩
end Go.Proofs.YthpgeeaccmgbkaaGreat
