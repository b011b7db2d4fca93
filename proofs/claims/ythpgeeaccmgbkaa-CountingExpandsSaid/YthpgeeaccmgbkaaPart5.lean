/- Contracts and plain laws of several functions, one after the other: ExpP, CloneI, Ints, ExpA. -/
import Derived.Lib.SliceRun
import Derived.Deep.RegionHeld3
import Derived.Test.YthpgeeaccmgbkaaProd
import Derived.Test.YthpgeeaccmgbkaaPart16
import Derived.Test.YthpgeeaccmgbkaaPart6
import Derived.Test.YthpgeeaccmgbkaaExpE
import Derived.Test.YthpgeeaccmgbkaaMulI
/- counting.Expand in plain Lean. -/
namespace Go.Proofs.Ythpgeeaccmgbkaa

/-- A coefficient, of which j terms are subtracted. -/
def ecc (N D out : List Int) (k j : Nat) : Int := N.getD k 0 - ((List.range j).map fun t => D.getD (t + 1) 0 * out.getD (k - (t + 1)) 0).sum
theorem ecc_zero (N D out : List Int) (k : Nat) : ecc N D out k 0 = N.getD k 0 := by simp [ecc]
theorem ecc_succ (N D out : List Int) (k j : Nat) : ecc N D out k (j + 1) = ecc N D out k j - D.getD (j + 1) 0 * out.getD (k - (j + 1)) 0 := by
  simp [ecc, List.range_succ]; omega
/-- How many terms there are. -/
def exT (D : List Int) (k : Nat) : Nat := min (D.length - 1) k
/-- The first coefficients. -/
def exL (N D : List Int) : Nat → List Int
  | 0 => []
  | k + 1 => exL N D k ++ [ecc N D (exL N D k) k (exT D k) * D.getD 0 0]
theorem exL_length (N D : List Int) : ∀ k, (exL N D k).length = k
  | 0 => rfl
  | k + 1 => by simp [exL, exL_length N D k]
theorem sub_sm {p q : Nat} {a b : Int} (h : sm p a) (k : sm q b) (hpq : p ≤ q) : sm (q + 1) (a - b) := by
  have h2 := h.mono hpq
  unfold sm at h2 k ⊢
  have : (256 : Nat) ^ (q + 1) = 256 ^ q * 256 := Nat.pow_succ ..
  omega
theorem getD_sm' {p : Nat} {l : List Int} (h : ∀ z ∈ l, sm p z) (k : Nat) : sm p (l.getD k 0) := by
  rw [List.getD_eq_getElem?_getD]
  cases e : l[k]? with
  | none => unfold sm; exact Nat.pow_pos (by decide)
  | some z => exact h z (List.mem_of_getElem? e)
theorem ecc_sm {N D out : List Int} {p q : Nat} (hN : ∀ z ∈ N, sm p z) (hD : ∀ z ∈ D, sm p z) (ho : ∀ z ∈ out, sm q z) (k : Nat) {j : Nat} (hj : j ≤ 255) : sm (p + q + 2) (ecc N D out k j) := by
  have h1 : sm (p + q + 1) ((List.range j).map fun t => D.getD (t + 1) 0 * out.getD (k - (t + 1)) 0).sum := by
    refine sm_sum' (fun z hz => ?_) (by simpa using hj)
    obtain ⟨t, -, rfl⟩ := List.mem_map.1 hz
    exact (getD_sm' hD _).mul (getD_sm' ho _)
  exact sub_sm (getD_sm' hN k) h1 (by omega)
def one2 (d : Int) : Prop := d = 1 ∨ d = -1
theorem exL_sm {N D : List Int} {p : Nat} (hN : ∀ z ∈ N, sm p z) (hD : ∀ z ∈ D, sm p z) (hl : D.length ≤ 65) (h0 : one2 (D.getD 0 0)) : ∀ k, ∀ z ∈ exL N D k, sm ((p + 2) * k) z
  | 0, z, hz => by cases hz
  | k + 1, z, hz => by
    have ih := exL_sm hN hD hl h0 k
    rw [exL] at hz
    have e : (p + 2) * (k + 1) = p + (p + 2) * k + 2 := by rw [Nat.mul_succ]; omega
    rcases List.mem_append.1 hz with h | h
    · exact (ih z h).mono (by omega)
    · have hz2 : z = ecc N D (exL N D k) k (exT D k) * D.getD 0 0 := List.mem_singleton.1 h
      subst hz2
      have h2 := ecc_sm hN hD ih k (j := exT D k) (by unfold exT; omega)
      rw [e]
      rcases h0 with h0 | h0
      · rw [h0, Int.mul_one]; exact h2
      · rw [h0]; unfold sm at h2 ⊢; rw [Int.natAbs_mul]; simpa using h2
theorem exL_pre (N D : List Int) {i n : Nat} (h : i ≤ n) : exL N D i = (exL N D n).take i := by
  induction n with
  | zero => obtain rfl : i = 0 := by omega
            rfl
  | succ n ih =>
    by_cases e : i = n + 1
    · subst e; rw [List.take_of_length_le (by rw [exL_length]; exact Nat.le_refl _)]
    · rw [ih (by omega), exL, List.take_append_of_le_length (by rw [exL_length]; omega)]
theorem exL_getD (N D : List Int) {i j n : Nat} (hj : j < i) (h : i ≤ n) : (exL N D i).getD j 0 = (exL N D n).getD j 0 := by
  rw [exL_pre N D h, List.getD_eq_getElem?_getD, List.getD_eq_getElem?_getD, List.getElem?_take_of_lt hj]
theorem exL_at (N D : List Int) {i n : Nat} (h : i < n) : (exL N D n).getD i 0 = ecc N D (exL N D n) i (exT D i) * D.getD 0 0 := by
  rw [← exL_getD N D (Nat.lt_succ_self i) (show i + 1 ≤ n by omega), exL]
  rw [List.getD_eq_getElem?_getD, List.getElem?_append_right (by rw [exL_length]; exact Nat.le_refl _), exL_length, Nat.sub_self]
  show ecc N D (exL N D i) i (exT D i) * D.getD 0 0 = _
  congr 1
  unfold ecc
  congr 2
  refine List.map_congr_left fun t ht => ?_
  have ht2 := List.mem_range.1 ht
  unfold exT at ht2
  rw [exL_getD N D (show i - (t + 1) < i by omega) (Nat.le_of_lt h)]
/-- The product of den and the series, j terms of it. -/
def exS (D l : List Int) (i j : Nat) : Int := ((List.range j).map fun t => if t ≤ i then D.getD t 0 * l.getD (i - t) 0 else 0).sum
theorem exS_succ (D l : List Int) (i j : Nat) : exS D l i (j + 1) = exS D l i j + if j ≤ i then D.getD j 0 * l.getD (i - j) 0 else 0 := by
  simp [exS, List.range_succ]
theorem exS_all (N D : List Int) {i n : Nat} (h : i < n) (hD : D ≠ []) (h0 : one2 (D.getD 0 0)) : exS D (exL N D n) i D.length = N.getD i 0 := by
  have h1 := exL_at N D h
  have h2 : D.getD 0 0 * (exL N D n).getD i 0 = ecc N D (exL N D n) i (exT D i) := by
    rw [h1]
    rcases h0 with h0 | h0
    · rw [h0]; omega
    · rw [h0]; omega
  have h3 : ∀ j, j + 1 ≤ D.length → exS D (exL N D n) i (j + 1) = D.getD 0 0 * (exL N D n).getD i 0 + ((List.range (min j i)).map fun t => D.getD (t + 1) 0 * (exL N D n).getD (i - (t + 1)) 0).sum := fun j => by
    induction j with
    | zero => intro _; simp [exS]
    | succ j ih =>
      intro hj
      rw [exS_succ, ih (by omega)]
      by_cases e : j + 1 ≤ i
      · rw [if_pos e, show min (j + 1) i = min j i + 1 by omega, show min j i = j by omega, List.range_succ]
        simp; omega
      · rw [if_neg e, show min (j + 1) i = min j i by omega]; omega
  have hl : 0 < D.length := List.length_pos_iff.2 hD
  have h4 := h3 (D.length - 1) (by omega)
  rw [show D.length - 1 + 1 = D.length by omega] at h4
  rw [h4, h2]
  unfold ecc exT
  omega
end Go.Proofs.Ythpgeeaccmgbkaa

/- slices.Clone at integers. -/
namespace Go.Proofs.Ythpgeeaccmgbkaa
open Go.RowKit

/-- A slice of integers of its own. -/
def IntsRet (w : World) (l : List Int) (e : Ending) (w' : World) : Prop :=
  Below w.heap.size w w' ∧ ∃ v, e = .returned v ∧ w'.ownsRow w.heap.size 28 2 v l.length (civ l)
set_option maxRecDepth 100000 in
set_option maxHeartbeats 3200000 in
theorem cloneI_any (l : List Int) (v : Value) (w : World) (hr : Row w v l.length (civ l)) (hlen : l.length ≤ 1000000000) :
    Calls Try.prog 45 #[v] w (IntsRet w l) := by
  rcases hr with ⟨rfl, h1, h2⟩ | ⟨b, off, cap, rfl, h1, h2, h3, h4⟩
  · have hd : l = [] := List.length_eq_zero_iff.1 h1
    subst hd
    clear h1 h2
    have hnil := fun (wx : World) => Lib.run_eql_slice_nil (P := Try.prog) wx 38 28 none 0 0 0 0 Try.underlying38
    simp only [Option.isNone_none] at hnil
    go_enter Try.func45, Try.ntmps45
    go_wp2_with fail
    go_ret
    exact ⟨Below.refl _ _, .slice none 0 0, rfl, World.ownsRow_nil _ _ _ _⟩
  · have hnil := fun (wx : World) => Lib.run_eql_slice_nil (P := Try.prog) wx 38 28 (some ⟨b, off, none⟩) l.length cap 0 0 Try.underlying38
    simp only [Option.isNone_some] at hnil
    obtain ⟨i0, hi, hz0, hz1, hz2⟩ := info_parts infoZ
    have hm0 := World.ownsRow_made w (#[] : Array Value) 0 (base := w.heap.size) (e := 28) (size := 2) (Nat.le_refl _) (Nat.zero_le _) rfl
    have hc : ∀ (j : Nat) (u : Value), (civ l)[j]? = some u → (w.alloc (.cells #[] 28)).cell? ((⟨b, off, none⟩ : Addr).add j) = some u := by
      intro j u hu
      have e : (⟨b, off, none⟩ : Addr).add j = ⟨b, off + j, none⟩ := by
        unfold Addr.add
        split
        · rename_i h0; subst h0; rfl
        · rfl
      rw [e, below_new w _ h3]; exact h4 j u hu
    have h1c : ∀ u ∈ civ l, u.oneCell' = true := by
      intro u hu
      simp only [civ, List.mem_flatMap] at hu
      obtain ⟨e, _, hu⟩ := hu
      simp only [List.mem_cons, List.not_mem_nil, or_false] at hu
      rcases hu with rfl | rfl <;> rfl
    have hcl := civ_length l
    have HM0 := Lib.hid hm0; clear hm0
    have HC := Lib.hid hc; clear hc
    have H1C := Lib.hid h1c; clear h1c
    have HCL := Lib.hid hcl; clear hcl
    clear h4
    go_enter Try.func45, Try.ntmps45
    go_wp2_with (at_builtin; refine wpList_append_own _ rfl (.tmp 5) (.tmp 6) 38 rfl w.heap.size 28 i0 _ 2 24 Try.underlying38 hi hz0 hz1 hz2 rfl (by decide) _ _ _ rfl HM0.out _ _ _ (civ l) rfl HCL.out HC.out H1C.out (by unfold maxLen; omega) (by omega) (by simp) ?_; intro v' w1 hown hg hnn)
    rw [Nat.zero_add, List.nil_append] at hown
    have HO := Lib.hid hown; clear hown
    have HG := Lib.hid hg; clear hg
    clear hnn
    go_wp2_with fail
    go_ret
    exact ⟨((Below.refl w.heap.size w).alloc (Nat.le_refl _) _).grown HG.out (by simp) (fun k hk => by cases hk; exact Nat.le_refl _), v', rfl, HO.out⟩
/-- An owned slice of integers as a block. -/
theorem own_blkI {w : World} {base n : Nat} {e : TypeId} {v : Value} {l : List Int} (h : w.ownsRow base e 2 v n (civ l)) (hn : n ≠ 0) (hl : l.length = n) : ∃ g cap rest, v = .slice (some ⟨g, 0, none⟩) n cap ∧ base ≤ g ∧ Blk w g e (civ l ++ rest) ∧ n ≤ cap ∧ cap ≤ maxLen := by
  rcases h.2 with ⟨_, h0⟩ | ⟨g, cap, cur, hv, h1, h2, h3, h4, h5, h6⟩
  · exact absurd h0 hn
  · refine ⟨g, cap, cur.toList.drop (n * 2), hv, h1, ?_, h3, h4⟩
    have e1 : civ l ++ cur.toList.drop (n * 2) = cur.toList := by
      rw [← h6, List.take_append_drop]
    rw [e1]
    unfold Blk; rw [Array.toArray_toList]; exact h2
/-- A block's beginning as a slice. -/
theorem blk_rowI {w : World} {b cap : Nat} {l : List Int} {rest : List Value} (h : Blk w b 28 (civ l ++ rest)) (h1 : l.length ≤ cap) (h2 : cap ≤ maxLen) : Row w (.slice (some ⟨b, 0, none⟩) l.length cap) l.length (civ l) := by
  have h3 := Row.ofBlk h (m := l.length) (cap := cap) h1 h2 (civ l).length
  rwa [List.take_left] at h3
end Go.Proofs.Ythpgeeaccmgbkaa

/- groovelaw22.ints. -/
namespace Go.Proofs.Ythpgeeaccmgbkaa
open Go.RowKit

theorem civ_snoc (l : List Int) (z : Int) : civ (l ++ [z]) = civ l ++ [.bool (ineg z), .string (imag z)] := by simp [civ]
set_option maxRecDepth 100000 in
set_option maxHeartbeats 3200000 in
theorem ints_any (l : List Int) (v : Value) (w : World) (hr : Row w v l.length (ci l)) (hl : l.length ≤ 100000) (hs : ∀ x ∈ l, -9223372036854775808 ≤ x ∧ x ≤ 9223372036854775807) :
    Calls Try.prog 28 #[v] w (IntsRet w l) := by
  obtain ⟨va, vc, rfl, hle⟩ := hr.slice
  obtain ⟨i0, hi, hz0, hz1', hz2'⟩ := info_parts infoZ
  obtain ⟨n, hn⟩ : ∃ n, n = l.length := ⟨_, rfl⟩
  have hof := fun x (hx : x ∈ l) w' => iof_any x w' (hs x hx).1 (hs x hx).2
  rw [← hn] at hr hle hl
  have HR := Lib.hid hr; clear hr
  have HN := Lib.hid hn; clear hn
  have HOF := Lib.hid hof; clear hof
  clear hs
  go_enter Try.func28, Try.ntmps28
  rw [← HN.out]
  go_wp2_with fail
  go_loopw [3, 5, 8] (fun u _ i wr => ∃ k : Nat, k ≤ n ∧ i = .int .i64 k ∧ wr.ownsRow w.heap.size 28 2 u k (civ (l.take k)) ∧ Below w.heap.size w wr) (fun _ _ i _ => n - (intOf i).toNat)
  case atStart => exact ⟨0, Nat.zero_le _, rfl, World.ownsRow_nil _ _ _ _, Below.refl _ _⟩
  case round =>
    obtain ⟨k, hk, rfl, hown, hbel⟩ := hrel
    have hsz : w.heap.size ≤ wr.heap.size := hbel.size
    by_cases hlt : k < n
    · have hkl : k < l.length := by rw [← HN.out]; exact hlt
      have hget : l[k]? = some (l[k]'hkl) := List.getElem?_eq_getElem _
      obtain ⟨x, hx⟩ : ∃ x, x = l[k]'hkl := ⟨_, rfl⟩
      rw [← hx] at hget
      have hofx := HOF.out x (by rw [hx]; exact List.getElem_mem _)
      have hz2 : civ (l.take (k + 1)) = civ (l.take k) ++ [.bool (ineg x), .string (imag x)] := by
        rw [List.take_add_one, hget]; exact civ_snoc _ _
      obtain ⟨b1, o1, rfl, hb1, hbc⟩ := HR.out.at_ (by omega)
      have hbj : wr.cell? ⟨b1, o1 + k, none⟩ = some (.int .i64 x) := (hbel.cell (p := ⟨b1, o1 + k, none⟩) hb1).trans (hbc k _ (by simp [ci, hget]))
      obtain ⟨a, cap, rfl⟩ := own_slice hown
      have hix1 : (0 : Int) ≤ (k : Int) := by omega
      have hix2 : (k : Int) < (n : Int) := by omega
      have HO := Lib.hid hown; clear hown
      have HB := Lib.hid hbel; clear hbel
      have HZ2 := Lib.hid hz2; clear hz2
      have HOFX := Lib.hid hofx; clear hofx
      clear hx hget hbc hkl
      go_wp2_with fail
      go_at_call 11
      refine (HOFX.out _).mono ?_
      rintro e w2 ⟨hq2, rfl⟩
      have ho2 := own_below HO.out hq2
      have hb2 := HB.out.trans (hq2.mono HB.out.size)
      have hsz2 : w.heap.size ≤ w2.heap.size := hb2.size
      have HO2 := Lib.hid ho2; clear ho2
      have HB2 := Lib.hid hb2; clear hb2
      clear hq2
      go_wp2_with (at_builtin; refine wpList_append_lies _ rfl (.tmp 12) (.tmp 15) 38 rfl w.heap.size 28 i0 _ 2 24 Try.underlying38 hi hz0 hz1' hz2' rfl (by decide) _ _ _ rfl (HO2.out.alloc _) _ 1 1 [.bool (ineg x), .string (imag x)] rfl rfl (World.news_of_block (heap_alloc_new _ _)) (by simp [Value.oneCell']) (by omega) (by unfold maxLen; omega) (by omega) (by simp; omega) _ rfl ?_; intro g cap' w3 hown' hg hat hlt'; have HG := Lib.hid hg; clear hg; have HO4 := Lib.hid hown'; clear hown'; have HAT := Lib.hid hat; clear hat)
      go_roundw
      case rel =>
        refine ⟨k + 1, by omega, by go_num, ?_, (HB2.out.alloc hsz2 _).grown HG.out (by simp; omega) (fun j hj => (HO2.out.lt j hj).1)⟩
        rw [HZ2.out]; exact HO4.out
      case measure => simp [intOf]; omega
    · obtain rfl : k = n := by omega
      have htk : l.take k = l := List.take_of_length_le (by rw [← HN.out]; exact Nat.le_refl _)
      rw [htk] at hown
      have HO := Lib.hid hown; clear hown
      have HB := Lib.hid hbel; clear hbel
      go_wp2_with fail
      go_ret
      exact ⟨HB.out, _, rfl, by rw [← HN.out]; exact HO.out⟩
end Go.Proofs.Ythpgeeaccmgbkaa

/- For counting.Expand where it answers. -/
namespace Go.Proofs.Ythpgeeaccmgbkaa
open Go.RowKit

theorem odd_civ (N : List Int) : oddB (N.map fun z => (ineg z, imag z)) = false := by
  induction N with
  | nil => rfl
  | cons z N ih =>
    have e : oddB ((z :: N).map fun z => (ineg z, imag z)) = (!cnB (ineg z) (imag z) || oddB (N.map fun z => (ineg z, imag z))) := rfl
    rw [e, ih, (cnB_iff _ _).2 (by rw [ival_canon]; exact ⟨rfl, rfl⟩)]; rfl
theorem cfG_civ (N : List Int) (v : Value) (w : World) (hr : Row w v N.length (civ N)) (hs : ∀ z ∈ N, small z) :
    Calls Try.prog 51 #[v, .func (.func 49) #[] #[]] w (Ret w (.bool false)) := by
  have h := cfG_any (N.map fun z => (ineg z, imag z)) v w (by rw [List.length_map, ← civ_cnv]; exact hr) (fun x hx => by
    obtain ⟨z, hz, rfl⟩ := List.mem_map.1 hx
    exact hs z hz)
  rwa [odd_civ] at h
def ExpRet (n : Nat) (l : List Int) (w : World) (e : Ending) (w' : World) : Prop := Below w.heap.size w w' ∧ ∃ v, e = .returned (.tuple #[v, .int .i64 0]) ∧ w'.ownsRow w.heap.size 28 2 v n (civ l)
end Go.Proofs.Ythpgeeaccmgbkaa

