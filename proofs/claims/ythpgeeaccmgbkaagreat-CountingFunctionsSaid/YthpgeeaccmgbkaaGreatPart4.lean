/- Contracts and plain laws of several functions, one after the other: RefAdd, RefSub. -/
import Derived.Deep.RegionHeld3
import Derived.Test.YthpgeeaccmgbkaaGreatRefB
/- The reference integers: addMag. -/
namespace Go.Proofs.YthpgeeaccmgbkaaGreat
open Go.RowKit

theorem mk8 (n : Nat) (h : n ≤ 2199023255552) (N : Int) (hN : N = (n : Int)) (w : World) : (Instr.makeSlice 125 (.int .i64 N) (.int .i64 N)).run Tryz.prog w = .ok (.slice (some ⟨w.heap.size, 0, none⟩) n n) (w.alloc (.cells (zarr (.int .u8 0) n) 5)) :=
 mk_slice 125 5 (.int .u8 0) 1 1 Tryz.underlying125 infoU8r rfl .i64 .i64 n n (Nat.le_refl _) (by omega) (by omega) N N hN hN w

theorem add_row (M j X Y c bx cy : Nat) (hj : j < M + 1) (hc : c = carry8 X Y j) (hx : bx = byt X j) (hy : cy = byt Y j) :
  (List.replicate (M + 1 - j) (Value.int .u8 0) ++ cb (be j (X + Y))).set (M - j) (.int .u8 (((c + bx + cy : Nat) : Int) % 256)) = List.replicate (M + 1 - (j + 1)) (Value.int .u8 0) ++ cb (be (j + 1) (X + Y)) ∧ (c + bx + cy) / 256 = carry8 X Y (j + 1) := by
 have h := add_step8 X Y j
 rw [← hc, ← hx, ← hy] at h
 refine ⟨?_, h.2⟩
 rw [show M + 1 - j = (M - j) + 1 by omega, List.replicate_succ', List.append_assoc, List.set_append_right _ _ (by simp), List.length_replicate, Nat.sub_self, List.singleton_append, List.set_cons_zero, show M + 1 - (j + 1) = M - j by omega, be]
 simp only [cb, List.map_cons]
 congr 3
 rw [← h.1]
 simp
theorem row_get (M j : Nat) (l : List Value) (hj : j < M + 1) : (List.replicate (M + 1 - j) (Value.int .u8 0) ++ l)[M - j]? = some (.int .u8 0) := by
 rw [List.getElem?_append_left (by simp; omega), List.getElem?_replicate, if_pos (by omega)]
theorem byt_str (s : ByteArray) (j : Nat) (h : j < s.size) : (s[s.size - (j + 1)]'(by omega)).toNat = byt (bval s.data.toList) j := by
 have h1 := byt_get s.data.toList j (by rw [bytes_size]; exact h)
 rw [← h1]
 simp only [bytes_size, show s.size - 1 - j = s.size - (j + 1) by omega]
 rfl
theorem byt_over (s : ByteArray) (j : Nat) (h : ¬ j < s.size) : byt (bval s.data.toList) j = 0 := byt_beyond _ _ (by rw [bytes_size]; omega)

set_option maxRecDepth 100000 in
set_option maxHeartbeats 1600000 in
/-- grooveref01.addMag. -/
theorem raddmag_any (s t : ByteArray) (w : World) (hs : s.size ≤ 1099511627775) (ht : t.size ≤ 1099511627775) :
  Calls Tryz.prog 75 #[.string s, .string t] w (Ret w (.string (bstr (bval s.data.toList + bval t.data.toList)))) := by
 obtain ⟨M, hM⟩ : ∃ M, M = max s.size t.size := ⟨_, rfl⟩
 have hMb : M ≤ 1099511627775 := by omega
 have hsM : s.size ≤ M := by omega
 have htM : t.size ≤ M := by omega
 have hmx : ∀ (w' : World) (ts : Array TypeId) (t' : TypeId), (Builtin.max_ ts t' #[.int .i64 (s.size : Int), .int .i64 (t.size : Int)]).run Tryz.prog w' = .ok (.int .i64 (M : Int)) w' := fun w' ts t' => by
  simp [Builtin.max_, Builtin.max2]
  rw [hM]
  rcases Nat.lt_or_ge s.size t.size with h | h
  ·
   rw [show max s.size t.size = t.size by omega]; simp; omega
  ·
   rw [show max s.size t.size = s.size by omega]; simp; omega
 have hmk := mk8 (M + 1) (by omega) ((M : Int) + 1) (by omega)
 obtain ⟨X, hX⟩ : ∃ X, X = bval s.data.toList := ⟨_, rfl⟩
 obtain ⟨Y, hY⟩ : ∃ Y, Y = bval t.data.toList := ⟨_, rfl⟩
 rw [← hX, ← hY]
 have HM := Lib.hid hM; clear hM
 have hXY : X + Y < 256 ^ (M + 1) := by
  have h1 := bval_lt s.data.toList
  have h2 := bval_lt t.data.toList
  rw [bytes_size, ← hX] at h1
  rw [bytes_size, ← hY] at h2
  have h3 : 256 ^ s.size ≤ 256 ^ M := Nat.pow_le_pow_right (by decide) hsM
  have h4 : 256 ^ t.size ≤ 256 ^ M := Nat.pow_le_pow_right (by decide) htM
  rw [Nat.pow_succ]; omega
 have HXY := Lib.hid hXY; clear hXY
 have HX := Lib.hid hX; clear hX
 have HY := Lib.hid hY; clear hY
 go_enter Tryz.func75, Tryz.ntmps75
 go_wp2_with fail
 clear hmk hmx
 go_loopw [7, 8] (fun c i wr => ∃ j : Nat, j ≤ M + 1 ∧ i = .int .i64 ((j : Int) + 1) ∧ c = .int .i64 ((carry8 X Y j : Nat) : Int) ∧ Below w.heap.size w wr ∧ Blk wr w.heap.size 5 (List.replicate (M + 1 - j) (.int .u8 0) ++ cb (be j (X + Y)))) (fun _ i _ => M + 2 - (intOf i).toNat)
 case atStart =>
  refine ⟨0, by omega, rfl, by rw [carry8_zero]; rfl, (Below.refl _ _).alloc (Nat.le_refl _) _, ?_⟩
  have h := Blk.zero w 5 (.int .u8 0) (M + 1)
  rw [zrow_one _ _ rfl] at h
  exact h.congr (by simp [be, cb])
 case round =>
  obtain ⟨j, hj, rfl, rfl, hbel, hrow⟩ := hrel
  have HB := Lib.hid hbel; clear hbel
  obtain ⟨c, hc⟩ : ∃ c, c = carry8 X Y j := ⟨_, rfl⟩
  have hc1 : c ≤ 1 := by rw [hc]; exact (carry8_div X Y j).2
  rw [← hc]
  by_cases hlt : j < M + 1
  ·
   have hcell := hrow.cell (row_get M j _ hlt)
   have hfz := hrow.frozen (M - j)
   have HR := Lib.hid hrow; clear hrow
   have hxb : byt X j ≤ 255 := by have := byt_lt X j; omega
   have hyb : byt Y j ≤ 255 := by have := byt_lt Y j; omega
   obtain ⟨bx, hbx⟩ : ∃ b, b = byt X j := ⟨_, rfl⟩
   obtain ⟨cy, hcy⟩ : ∃ b, b = byt Y j := ⟨_, rfl⟩
   have hstep := add_row M j X Y c bx cy hlt hc hbx hcy
   rw [← hbx] at hxb
   rw [← hcy] at hyb
   have HS := Lib.hid hstep; clear hstep
   have HC := Lib.hid hc; clear hc
   by_cases h1 : j < s.size
   ·
    have e1 : (s[s.size - (j + 1)]'(by omega)).toNat = bx := by rw [byt_str s j h1, ← HX.out, hbx]
    have HBX := Lib.hid hbx; clear hbx
    by_cases h2 : j < t.size
    ·
     have e2 : (t[t.size - (j + 1)]'(by omega)).toNat = cy := by rw [byt_str t j h2, ← HY.out, hcy]
     have HCY := Lib.hid hcy; clear hcy
     go_wp2_with fail
     go_roundw
     case rel =>
      refine ⟨j + 1, by omega, by go_num, ?_, HB.out.setCell (p := ⟨w.heap.size, M - j, none⟩) (Nat.le_refl _) _, (HR.out.set (M - j) _).congr ?_⟩
      ·
       rw [← HS.out.2]; congr 1 <;> omega
      ·
       rw [← HS.out.1]; congr 2 <;> omega
     case measure => simp [intOf]; omega
    ·
     have e2 : cy = 0 := by rw [hcy, HY.out]; exact byt_over t j h2
     subst e2
     have HCY := Lib.hid hcy; clear hcy
     go_wp2_with fail
     go_roundw
     case rel =>
      refine ⟨j + 1, by omega, by go_num, ?_, HB.out.setCell (p := ⟨w.heap.size, M - j, none⟩) (Nat.le_refl _) _, (HR.out.set (M - j) _).congr ?_⟩
      ·
       rw [← HS.out.2]; congr 1 <;> omega
      ·
       rw [← HS.out.1]; congr 2 <;> omega
     case measure => simp [intOf]; omega
   ·
    have e1 : bx = 0 := by rw [hbx, HX.out]; exact byt_over s j h1
    subst e1
    have HBX := Lib.hid hbx; clear hbx
    by_cases h2 : j < t.size
    ·
     have e2 : (t[t.size - (j + 1)]'(by omega)).toNat = cy := by rw [byt_str t j h2, ← HY.out, hcy]
     have HCY := Lib.hid hcy; clear hcy
     go_wp2_with fail
     go_roundw
     case rel =>
      refine ⟨j + 1, by omega, by go_num, ?_, HB.out.setCell (p := ⟨w.heap.size, M - j, none⟩) (Nat.le_refl _) _, (HR.out.set (M - j) _).congr ?_⟩
      ·
       rw [← HS.out.2]; congr 1 <;> omega
      ·
       rw [← HS.out.1]; congr 2 <;> omega
     case measure => simp [intOf]; omega
    ·
     have e2 : cy = 0 := by rw [hcy, HY.out]; exact byt_over t j h2
     subst e2
     have HCY := Lib.hid hcy; clear hcy
     go_wp2_with fail
     go_roundw
     case rel =>
      refine ⟨j + 1, by omega, by go_num, ?_, HB.out.setCell (p := ⟨w.heap.size, M - j, none⟩) (Nat.le_refl _) _, (HR.out.set (M - j) _).congr ?_⟩
      ·
       rw [← HS.out.2]; congr 1 <;> omega
      ·
       rw [← HS.out.1]; congr 2 <;> omega
     case measure => simp [intOf]; omega
  ·
   obtain rfl : j = M + 1 := by omega
   rw [Nat.sub_self, List.replicate_zero, List.nil_append] at hrow
   have hrw := Row.ofBlk hrow (m := M + 1) (cap := M + 1) (Nat.le_refl _) (by unfold maxLen; omega) (M + 1)
   rw [List.take_of_length_le (by rw [cb_length, be_length]; exact Nat.le_refl _)] at hrw
   have hconv := conv_row (P := Tryz.prog) wr 125 9 5 Tryz.underlying125 Tryz.underlying5 Tryz.underlying9 (some ⟨w.heap.size, 0, none⟩) (M + 1) (be (M + 1) (X + Y)) (by rw [be_length]; exact hrw)
   rw [be_length] at hconv
   have htr := fun w' => rtrim_any ⟨(be (M + 1) (X + Y)).toArray⟩ w' (by show (be (M + 1) (X + Y)).length ≤ _; rw [be_length]; omega)
   simp only [List.toList_toArray, be_of_lt HXY.out] at htr
   have HT := Lib.hid htr; clear htr hrow hrw
   have HC := Lib.hid hc; clear hc
   go_wp2_with (go_at_call 108; refine (HT.out _).mono ?_; rintro e w' ⟨rfl, rfl⟩)
   go_ret
   exact ⟨HB.out, rfl⟩
end Go.Proofs.YthpgeeaccmgbkaaGreat

/- The reference integers: subMag, Add. -/
namespace Go.Proofs.YthpgeeaccmgbkaaGreat
open Go.RowKit

/-- One more digit of the difference: v is what is stored. -/
theorem sub_row (N j X Y v : Nat) (hj : j < N) (hv : v = byt (X - Y) j) :
  (List.replicate (N - j) (Value.int .u8 0) ++ cb (be j (X - Y))).set (N - (j + 1)) (.int .u8 (v : Int)) = List.replicate (N - (j + 1)) (Value.int .u8 0) ++ cb (be (j + 1) (X - Y)) := by
 rw [show N - j = (N - (j + 1)) + 1 by omega, List.replicate_succ', List.append_assoc, List.set_append_right _ _ (by simp), List.length_replicate, Nat.sub_self, List.singleton_append, List.set_cons_zero, be]
 simp only [cb, List.map_cons]
 congr 3
 rw [hv]
 have := byt_lt (X - Y) j
 simp; omega
theorem row_get2 (N j : Nat) (l : List Value) (hj : j < N) : (List.replicate (N - j) (Value.int .u8 0) ++ l)[N - (j + 1)]? = some (.int .u8 0) := by
 rw [List.getElem?_append_left (by simp; omega), List.getElem?_replicate, if_pos (by omega)]

set_option maxRecDepth 100000 in
set_option maxHeartbeats 1600000 in
/-- grooveref01.subMag. -/
theorem rsubmag_any (s t : ByteArray) (w : World) (hs : s.size ≤ 1099511627775) (ht : t.size ≤ s.size) (hle : bval t.data.toList ≤ bval s.data.toList) :
  Calls Tryz.prog 77 #[.string s, .string t] w (Ret w (.string (bstr (bval s.data.toList - bval t.data.toList)))) := by
 have hmk := mk8 s.size (by omega) (s.size : Int) rfl
 obtain ⟨X, hX⟩ : ∃ X, X = bval s.data.toList := ⟨_, rfl⟩
 obtain ⟨Y, hY⟩ : ∃ Y, Y = bval t.data.toList := ⟨_, rfl⟩
 rw [← hX, ← hY] at hle ⊢
 have hXY : X - Y < 256 ^ s.size := by
  have h1 := bval_lt s.data.toList
  rw [bytes_size, ← hX] at h1
  omega
 have HXY := Lib.hid hXY; clear hXY
 have HX := Lib.hid hX; clear hX
 have HY := Lib.hid hY; clear hY
 have HLE := Lib.hid hle; clear hle
 go_enter Tryz.func77, Tryz.ntmps77
 go_wp2_with fail
 clear hmk
 go_loopw [6, 7] (fun c i wr => ∃ j : Nat, j ≤ s.size ∧ i = .int .i64 ((j : Int) + 1) ∧ c = .int .i64 ((borrow8 X Y j : Nat) : Int) ∧ Below w.heap.size w wr ∧ Blk wr w.heap.size 5 (List.replicate (s.size - j) (.int .u8 0) ++ cb (be j (X - Y)))) (fun _ i _ => s.size + 1 - (intOf i).toNat)
 case atStart =>
  refine ⟨0, by omega, rfl, by
   rcases borrow8_zero (x := X) (y := Y) with h | h
   ·
    rw [h]; rfl
   ·
    have := HLE.out; omega, (Below.refl _ _).alloc (Nat.le_refl _) _, ?_⟩
  have h := Blk.zero w 5 (.int .u8 0) s.size
  rw [zrow_one _ _ rfl] at h
  exact h.congr (by simp [be, cb])
 case round =>
  obtain ⟨j, hj, rfl, rfl, hbel, hrow⟩ := hrel
  have HB := Lib.hid hbel; clear hbel
  obtain ⟨c, hc⟩ : ∃ c, c = borrow8 X Y j := ⟨_, rfl⟩
  have hc1 : c ≤ 1 := by rw [hc]; exact (borrow8_div HLE.out j).2
  rw [← hc]
  by_cases hlt : j < s.size
  ·
   have hcell := hrow.cell (row_get2 s.size j _ hlt)
   have hfz := hrow.frozen (s.size - (j + 1))
   have HR := Lib.hid hrow; clear hrow
   have hxb : byt X j ≤ 255 := by have := byt_lt X j; omega
   have hyb : byt Y j ≤ 255 := by have := byt_lt Y j; omega
   have hstep := sub_step8 HLE.out j
   rw [← hc] at hstep
   obtain ⟨bx, hbx⟩ : ∃ b, b = byt X j := ⟨_, rfl⟩
   obtain ⟨cy, hcy⟩ : ∃ b, b = byt Y j := ⟨_, rfl⟩
   rw [← hbx, ← hcy] at hstep
   rw [← hbx] at hxb
   rw [← hcy] at hyb
   have HC := Lib.hid hc; clear hc
   have e1 : (s[s.size - (j + 1)]'(by omega)).toNat = bx := by rw [byt_str s j hlt, ← HX.out, hbx]
   have HBX := Lib.hid hbx; clear hbx
   by_cases h2 : j < t.size
   ·
    have e2 : (t[t.size - (j + 1)]'(by omega)).toNat = cy := by rw [byt_str t j h2, ← HY.out, hcy]
    have HCY := Lib.hid hcy; clear hcy
    by_cases hlo : bx < c + cy
    ·
     rw [if_pos hlo, if_pos hlo] at hstep
     have HS := Lib.hid hstep; clear hstep
     go_wp2_with fail
     go_roundw
     case rel =>
      refine ⟨j + 1, by omega, by go_num, ?_, HB.out.setCell (p := ⟨w.heap.size, s.size - (j + 1), none⟩) (Nat.le_refl _) _, (HR.out.set (s.size - (j + 1)) _).congr ?_⟩
      ·
       rw [← HS.out.2]; rfl
      ·
       rw [← sub_row s.size j X Y _ hlt HS.out.1]; congr 2 <;> omega
     case measure => simp [intOf]; omega
    ·
     rw [if_neg hlo, if_neg hlo] at hstep
     have HS := Lib.hid hstep; clear hstep
     go_wp2_with fail
     go_roundw
     case rel =>
      refine ⟨j + 1, by omega, by go_num, ?_, HB.out.setCell (p := ⟨w.heap.size, s.size - (j + 1), none⟩) (Nat.le_refl _) _, (HR.out.set (s.size - (j + 1)) _).congr ?_⟩
      ·
       rw [← HS.out.2]; rfl
      ·
       rw [← sub_row s.size j X Y _ hlt HS.out.1]; congr 2 <;> omega
     case measure => simp [intOf]; omega
   ·
    have e2 : cy = 0 := by rw [hcy, HY.out]; exact byt_over t j h2
    subst e2
    have HCY := Lib.hid hcy; clear hcy
    by_cases hlo : bx < c + 0
    ·
     rw [if_pos hlo, if_pos hlo] at hstep
     have HS := Lib.hid hstep; clear hstep
     go_wp2_with fail
     go_roundw
     case rel =>
      refine ⟨j + 1, by omega, by go_num, ?_, HB.out.setCell (p := ⟨w.heap.size, s.size - (j + 1), none⟩) (Nat.le_refl _) _, (HR.out.set (s.size - (j + 1)) _).congr ?_⟩
      ·
       rw [← HS.out.2]; rfl
      ·
       rw [← sub_row s.size j X Y _ hlt HS.out.1]; congr 2 <;> omega
     case measure => simp [intOf]; omega
    ·
     rw [if_neg hlo, if_neg hlo] at hstep
     have HS := Lib.hid hstep; clear hstep
     go_wp2_with fail
     go_roundw
     case rel =>
      refine ⟨j + 1, by omega, by go_num, ?_, HB.out.setCell (p := ⟨w.heap.size, s.size - (j + 1), none⟩) (Nat.le_refl _) _, (HR.out.set (s.size - (j + 1)) _).congr ?_⟩
      ·
       rw [← HS.out.2]; rfl
      ·
       rw [← sub_row s.size j X Y _ hlt HS.out.1]; congr 2 <;> omega
     case measure => simp [intOf]; omega
  ·
   obtain ⟨q, hq⟩ : ∃ q, q = s.size := ⟨_, rfl⟩
   have hjq : j = s.size := by omega
   subst hjq
   rw [Nat.sub_self, List.replicate_zero, List.nil_append] at hrow
   have hrw := Row.ofBlk hrow (m := s.size) (cap := s.size) (Nat.le_refl _) (by unfold maxLen; omega) s.size
   rw [List.take_of_length_le (by rw [cb_length, be_length]; exact Nat.le_refl _)] at hrw
   have hconv := conv_row (P := Tryz.prog) wr 125 9 5 Tryz.underlying125 Tryz.underlying5 Tryz.underlying9 (some ⟨w.heap.size, 0, none⟩) s.size (be s.size (X - Y)) (by rw [be_length]; exact hrw)
   rw [be_length] at hconv
   have htr := fun w' => rtrim_any ⟨(be s.size (X - Y)).toArray⟩ w' (by show (be s.size (X - Y)).length ≤ _; rw [be_length]; omega)
   simp only [List.toList_toArray, be_of_lt HXY.out] at htr
   have HT := Lib.hid htr; clear htr hrow hrw
   have HC := Lib.hid hc; clear hc
   go_wp2_with (go_at_call 108; refine (HT.out _).mono ?_; rintro e w' ⟨rfl, rfl⟩)
   go_ret
   exact ⟨HB.out, rfl⟩
end Go.Proofs.YthpgeeaccmgbkaaGreat

