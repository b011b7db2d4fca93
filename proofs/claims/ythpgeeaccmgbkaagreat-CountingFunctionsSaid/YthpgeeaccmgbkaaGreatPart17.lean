/- Contracts and plain laws of several functions, one after the other: RTab, DivMN, SerQ, SerL, RCmp01, RCan. -/
import Derived.Deep.RegionHeld3
import Derived.Test.YthpgeeaccmgbkaaGreatPart7
import Derived.Test.YthpgeeaccmgbkaaGreatRNeg
import Derived.Test.YthpgeeaccmgbkaaGreatDivM
import Derived.Test.YthpgeeaccmgbkaaGreatSer
import Derived.Test.YthpgeeaccmgbkaaGreatPart16
import Derived.Test.YthpgeeaccmgbkaaGreatPart18
import Derived.Test.YthpgeeaccmgbkaaGreatRadd
/- Rows of integers that a call makes itself, in a slice of rows; grooveref04.without, signed. -/
namespace Go.Proofs.YthpgeeaccmgbkaaGreat
open Go.RowKit

theorem own_apart {W : World} {B1 B2 : Nat} {e1 e2 : TypeId} {s1 s2 n1 n2 : Nat} {v1 v2 : Value} {x1 x2 : List Value} (h1 : W.ownsRow B1 e1 s1 v1 n1 x1) (h2 : W.ownsRow B2 e2 s2 v2 n2 x2) (hne : e1 ≠ e2) : v1.ownBlock = none ∨ v1.ownBlock ≠ v2.ownBlock := by
 rcases h1.2 with ⟨rfl, -⟩ | ⟨g, cap, cur, rfl, -, hg, -⟩
 ·
  exact .inl rfl
 ·
  refine .inr ?_
  rcases h2.2 with ⟨rfl, -⟩ | ⟨k, cap', cur', rfl, -, hk, -⟩
  ·
   exact fun h => by cases h
  ·
   intro h
   simp only [Value.ownBlock, Option.some.injEq] at h
   subst h
   rw [hg] at hk
   simp only [Option.some.injEq, Obj.cells.injEq] at hk
   exact hne hk.2.1
theorem own_mn {w : World} {base base' : Nat} {e : TypeId} {size : Nat} {v : Value} {n : Nat} {xs : List Value} (h : w.ownsRow base e size v n xs) (hb : base' ≤ base) : w.ownsRow base' e size v n xs :=
 ⟨h.1, h.2.imp id fun ⟨g, cap, cur, h1, h2, h3⟩ => ⟨g, cap, cur, h1, Nat.le_trans hb h2, h3⟩⟩
/-- Rows that lie in memory of the call's own. -/
def RowsO (B : Nat) (w : World) (rvs : List Value) (rows : List (List Int)) : Prop :=
 rvs.length = rows.length ∧ ∀ (i : Nat) (r : List Int), rows[i]? = some r → ∃ rv : Value, rvs[i]? = some rv ∧ w.ownsRow B 28 2 rv r.length (civ r)
theorem RowsO.nil (B : Nat) (w : World) : RowsO B w [] [] := ⟨rfl, fun i r h => by simp at h⟩
theorem RowsO.below {B : Nat} {w w' : World} {rvs : List Value} {rows : List (List Int)} (h : RowsO B w rvs rows) (k : Below w.heap.size w w') : RowsO B w' rvs rows :=
 ⟨h.1, fun i r hr => by obtain ⟨rv, h1, h2⟩ := h.2 i r hr; exact ⟨rv, h1, own_below h2 k⟩⟩
theorem RowsO.grown {B B2 n : Nat} {w w' : World} {rvs : List Value} {rows : List (List Int)} {v : Value} {xs : List Value} (h : RowsO B w rvs rows) (hv : w.ownsRow B2 32 1 v n xs) (hg : w.grownBy w' v.ownBlock) : RowsO B w' rvs rows :=
 ⟨h.1, fun i r hr => by obtain ⟨rv, h1, h2⟩ := h.2 i r hr; exact ⟨rv, h1, h2.kept hg (own_apart h2 hv (by decide))⟩⟩
theorem RowsO.snoc {B : Nat} {w : World} {rvs : List Value} {rows : List (List Int)} {rv : Value} {r : List Int} (h : RowsO B w rvs rows) (hr : w.ownsRow B 28 2 rv r.length (civ r)) : RowsO B w (rvs ++ [rv]) (rows ++ [r]) := by
 refine ⟨by rw [List.length_append, List.length_append, h.1]; rfl, fun i s hs => ?_⟩
 by_cases hi : i < rows.length
 ·
  rw [List.getElem?_append_left hi] at hs
  obtain ⟨rv', h1, h2⟩ := h.2 i s hs
  exact ⟨rv', by rw [List.getElem?_append_left (by rw [h.1]; exact hi)]; exact h1, h2⟩
 ·
  rw [List.getElem?_append_right (by omega)] at hs
  have h0 : i - rows.length = 0 := by
   have := (List.getElem?_eq_some_iff.1 hs).1
   simp at this; omega
  rw [h0] at hs
  obtain rfl := Option.some.inj hs
  exact ⟨rv, by rw [List.getElem?_append_right (by rw [h.1]; omega), h.1, h0]; rfl, hr⟩
theorem RowsO.tab {B B2 : Nat} {w : World} {rvs : List Value} {rows : List (List Int)} {v : Value} (h : RowsO B w rvs rows) (hv : w.ownsRow B2 32 1 v rows.length rvs) : Tab w v rows :=
 ⟨rvs, h.1, own_row hv, fun i r hr => by obtain ⟨rv, h1, h2⟩ := h.2 i r hr; exact ⟨rv, h1, own_row h2⟩⟩
/-- A table is returned. -/
def TabV (w : World) (rows : List (List Int)) (e : Ending) (w' : World) : Prop := Below w.heap.size w w' ∧ ∃ v, e = .returned v ∧ Tab w' v rows
/-- A row without a column, as far as it is built. -/
def rE (r : List Int) (c k : Nat) : List Int := (r.take k).eraseIdx c
theorem rE_zero (r : List Int) (c : Nat) : rE r c 0 = [] := by simp [rE]
theorem rE_skip {r : List Int} {c : Nat} (h : c < r.length) : rE r c (c + 1) = rE r c c := by
 have e1 : (r.take c).eraseIdx c = r.take c := List.eraseIdx_of_length_le (by simp; omega)
 have e2 : c - (r.take c).length = 0 := by simp; omega
 unfold rE
 rw [e1, List.take_add_one, List.getElem?_eq_getElem h, List.eraseIdx_append_of_length_le (by simp; omega), e2]
 simp
theorem rE_take {r : List Int} {c k : Nat} {x : Int} (h : r[k]? = some x) (hne : k ≠ c) : rE r c (k + 1) = rE r c k ++ [x] := by
 have hk : k < r.length := (List.getElem?_eq_some_iff.1 h).1
 unfold rE
 rw [List.take_add_one, h]
 by_cases hlt : c < k
 ·
  rw [List.eraseIdx_append_of_lt_length (by simp; omega)]; rfl
 ·
  rw [List.eraseIdx_of_length_le (by simp; omega), List.eraseIdx_of_length_le (by simp; omega)]; rfl
theorem rE_full (r : List Int) (c : Nat) : rE r c r.length = r.eraseIdx c := by unfold rE; rw [List.take_length]
theorem rE_len {r : List Int} {c k : Nat} (hk : k ≤ r.length) : (rE r c k).length ≤ k := by
 unfold rE
 rw [List.length_eraseIdx]
 split <;> simp <;> omega
/-- The matrix without its first row and a column. -/
def woM (rows : List (List Int)) (c : Nat) : List (List Int) := rows.tail.map fun r => r.eraseIdx c
def woP (rows : List (List Int)) (c i : Nat) : List (List Int) := ((rows.take i).tail).map fun r => r.eraseIdx c
theorem woP_one (rows : List (List Int)) (c : Nat) : woP rows c 1 = [] := by
 unfold woP
 cases rows <;> rfl
theorem woP_succ {rows : List (List Int)} {c i : Nat} {r : List Int} (h : rows[i]? = some r) (hi : 1 ≤ i) : woP rows c (i + 1) = woP rows c i ++ [r.eraseIdx c] := by
 unfold woP
 rw [List.take_add_one, h]
 have h2 : rows.take i ≠ [] := by
  have h3 := (List.getElem?_eq_some_iff.1 h).1
  intro e
  have h4 := congrArg List.length e
  rw [List.length_take, List.length_nil] at h4
  omega
 rw [List.tail_append_of_ne_nil h2]
 simp
theorem woP_full (rows : List (List Int)) (c : Nat) : woP rows c rows.length = woM rows c := by unfold woP woM; rw [List.take_length]
theorem woP_len {rows : List (List Int)} {c i : Nat} (h : i ≤ rows.length) : (woP rows c i).length = i - 1 := by
 unfold woP; simp; omega
set_option maxRecDepth 100000 in
set_option maxHeartbeats 3200000 in
theorem without_any (n c : Nat) (rows : List (List Int)) (v : Value) (w : World) (hT : Tab w v rows) (hn : rows.length = n) (hn1 : 1 ≤ n) (hn8 : n ≤ 1000) (hc : c < n) (hl : ∀ r ∈ rows, r.length = n) :
  Calls Tryz.prog 135 #[v, .int .i64 0, .int .i64 (c : Int)] w (TabV w (woM rows c)) := by
 obtain ⟨rvs0, hr1, hr2, hr3⟩ := hT
 rw [hn] at hr1 hr2
 obtain ⟨va, vc, rfl, hle⟩ := hr2.slice
 obtain ⟨i0, hi, hz0, hz1, hz2⟩ := info_parts infoZ
 obtain ⟨j0, hj, hy0, hy1, hy2⟩ := info_parts infoRow
 have hlen := fun i r (h : rows[i]? = some r) => hl r (List.mem_of_getElem? h)
 have hget : ∀ i, i < n → ∃ r, rows[i]? = some r ∧ r.length = n := fun i h => ⟨rows[i]'(by omega), List.getElem?_eq_getElem _, hl _ (List.getElem_mem _)⟩
 have hsuc := fun i r h1 h2 => woP_succ (c := c) (i := i) (r := r) (rows := rows) h1 h2
 have hfull := woP_full rows c
 rw [hn] at hfull
 have hpl := fun i (h : i ≤ n) => woP_len (rows := rows) (c := c) (i := i) (by omega)
 have hone := woP_one rows c
 have h0 : woP rows c 0 = [] := by simp [woP]
 have hmade := World.ownsRow_made w (#[] : Array Value) 0 (base := w.heap.size) (e := 32) (size := 1) (Nat.le_refl _) (Nat.zero_le _) rfl
 have s0 := (Below.refl w.heap.size w).alloc (Nat.le_refl _) (.cells #[] 32)
 obtain ⟨w1, hw1⟩ : ∃ w1, w.alloc (.cells #[] 32) = w1 := ⟨_, rfl⟩
 rw [hw1] at hmade s0
 have HR2 := Lib.hid hr2; clear hr2
 have HR3 := Lib.hid hr3; clear hr3
 have HGET := Lib.hid hget; clear hget
 have HSUC := Lib.hid hsuc; clear hsuc
 have HFULL := Lib.hid hfull; clear hfull
 have HPL := Lib.hid hpl; clear hpl
 have HONE := Lib.hid hone; clear hone
 have HMADE := Lib.hid hmade; clear hmade
 have S0 := Lib.hid s0; clear s0
 have H0 := Lib.hid h0; clear h0
 clear hlen hl hr1 hn
 go_enter Tryz.func135, Tryz.ntmps135
 go_wp2_with fail
 (try rw [hw1])
 clear hw1
 go_loopw [7, 8, 9, 10] (fun u i _ _ wr => ∃ (k : Nat) (rvs : List Value), k ≤ n ∧ i = .int .i64 (k : Int) ∧ Below w.heap.size w wr ∧ wr.ownsRow w.heap.size 32 1 u (woP rows c k).length rvs ∧ RowsO w.heap.size wr rvs (woP rows c k)) (fun _ i _ _ _ => n - (intOf i).toNat)
 case atStart => exact ⟨0, [], Nat.zero_le _, rfl, S0.out, by rw [H0.out]; exact HMADE.out, by rw [H0.out]; exact RowsO.nil _ _⟩
 case round =>
  obtain ⟨k, rvs, hk, rfl, hbel, hown, hrows⟩ := hrel
  obtain ⟨wo, rfl⟩ : ∃ wo : World, wo = wr := ⟨_, rfl⟩
  have hszo := hbel.size
  by_cases hkn : k < n
  ·
   have tk : decide ((k : Int) < (n : Int)) = true := by simp; omega
   by_cases hk0 : k = 0
   ·
    subst hk0
    have e1 : HONE.out = HONE.out := rfl
    have HBEL := Lib.hid hbel; clear hbel
    have HOWN := Lib.hid hown; clear hown
    have HROWS := Lib.hid hrows; clear hrows
    clear e1
    go_wp2_with fail
    go_roundw
    case rel => exact ⟨1, rvs, by omega, by go_num, HBEL.out, by rw [HONE.out]; have := HOWN.out; rw [H0.out] at this; exact this, by rw [HONE.out]; have := HROWS.out; rw [H0.out] at this; exact this⟩
    case measure => simp [intOf]; omega
   ·
    have ek : ((k : Int) == 0) = false := by simp; omega
    obtain ⟨r, hr, hrn⟩ := HGET.out k hkn
    have hst := HSUC.out k r hr (by omega)
    obtain ⟨rv, hrv, hrow⟩ := HR3.out k r hr
    rw [hrn] at hrow
    obtain ⟨ra, rc, rfl, hrle⟩ := hrow.slice
    have hrow' := hrow.below hbel (Nat.le_refl _)
    obtain ⟨bv, ov, rfl, hbv, hcv⟩ := HR2.out.at_ (by omega)
    have hhd := (hbel.cell (p := ⟨bv, ov + k, none⟩) hbv).trans (hcv k _ hrv)
    have hfl := rE_full r c
    rw [hrn] at hfl
    have hel := fun j (h : j ≤ n) => rE_len (r := r) (c := c) (k := j) (by omega)
    have hsk := rE_skip (r := r) (c := c) (by omega)
    have htk := fun j x h1 h2 => rE_take (r := r) (c := c) (k := j) (x := x) h1 h2
    have hgr : ∀ j, j < n → ∃ x, r[j]? = some x := fun j hj => ⟨r[j]'(by omega), List.getElem?_eq_getElem _⟩
    have hez := rE_zero r c
    have hmd := World.ownsRow_made wo (#[] : Array Value) 0 (base := wo.heap.size) (e := 28) (size := 2) (Nat.le_refl _) (Nat.zero_le _) rfl
    have s1 := (Below.refl wo.heap.size wo).alloc (Nat.le_refl _) (.cells #[] 28)
    have hpk := HPL.out k hk
    obtain ⟨w2, hw2⟩ : ∃ w2, wo.alloc (.cells #[] 28) = w2 := ⟨_, rfl⟩
    rw [hw2] at hmd s1
    obtain ⟨P, hP⟩ : ∃ P, P = woP rows c k := ⟨_, rfl⟩
    rw [← hP] at hown hrows hpk hst
    have hP1 : P.length ≤ 1000 := by omega
    have hix1 : (0 : Int) ≤ (k : Int) := by omega
    have hix2 : (k : Int) < (n : Int) := by omega
    have HBEL := Lib.hid hbel; clear hbel
    have HOWN := Lib.hid hown; clear hown
    have HROWS := Lib.hid hrows; clear hrows
    have HROW := Lib.hid hrow'; clear hrow'
    have HST := Lib.hid hst; clear hst
    have HHD := Lib.hid hhd; clear hhd
    have HFL := Lib.hid hfl; clear hfl
    have HEL := Lib.hid hel; clear hel
    have HSK := Lib.hid hsk; clear hsk
    have HTK := Lib.hid htk; clear htk
    have HGR := Lib.hid hgr; clear hgr
    have HEZ := Lib.hid hez; clear hez
    have HMD := Lib.hid hmd; clear hmd
    have S1 := Lib.hid s1; clear s1
    clear hpk
    clear hr hrow hcv hrv hrn hP
    go_wp2_with fail
    (try rw [hw2])
    clear hw2
    go_loopw [9, 10] (fun u i wr => ∃ j : Nat, j ≤ n ∧ i = .int .i64 (j : Int) ∧ Below wo.heap.size wo wr ∧ wr.ownsRow wo.heap.size 28 2 u (rE r c j).length (civ (rE r c j))) (fun _ i _ => n - (intOf i).toNat)
    case atStart => exact ⟨0, Nat.zero_le _, rfl, S1.out, by rw [HEZ.out]; exact HMD.out⟩
    case round =>
     obtain ⟨j, hjn, rfl, hbe, hin⟩ := hrel
     obtain ⟨wq, rfl⟩ : ∃ wq : World, wq = wr := ⟨_, rfl⟩
     have hszq := hbe.size
     have hlj := HEL.out j hjn
     by_cases hjl : j < n
     ·
      have tj : decide ((j : Int) < (n : Int)) = true := by simp; omega
      by_cases hjc : j = c
      ·
       subst hjc
       have ej : ((j : Int) != (j : Int)) = false := by simp
       have HBE := Lib.hid hbe; clear hbe
       have HIN := Lib.hid hin; clear hin
       clear hlj
       go_wp2_with fail
       go_roundw
       case rel => exact ⟨j + 1, by omega, by go_num, HBE.out, by rw [HSK.out]; exact HIN.out⟩
       case measure => simp [intOf]; omega
      ·
       have ej : ((j : Int) != (c : Int)) = true := by simp; omega
       obtain ⟨x, hx⟩ := HGR.out j hjl
       have hst2 := HTK.out j x hx hjc
       have hl2 : (rE r c j ++ [x]).length = (rE r c j).length + 1 := by simp
       obtain ⟨br, orr, rfl, hbr, hcr⟩ := HROW.out.at_ (by omega)
       obtain ⟨q0, q1⟩ := int_cells hcr hbe hbr hx
       have hhd2 := (hbe.cell (p := ⟨bv, ov + k, none⟩) (show bv < wo.heap.size by omega)).trans HHD.out
       obtain ⟨L, hL⟩ : ∃ L, L = rE r c j := ⟨_, rfl⟩
       rw [← hL] at hin hst2 hlj hl2
       obtain ⟨a, cap, rfl⟩ := own_slice hin
       have hiy1 : (0 : Int) ≤ (j : Int) := by omega
       have hiy2 : (j : Int) < (n : Int) := by omega
       have HBE := Lib.hid hbe; clear hbe
       have HIN := Lib.hid hin; clear hin
       have HST2 := Lib.hid hst2; clear hst2
       have HL2 := Lib.hid hl2; clear hl2
       clear hx hcr hL
       go_wp2_with (at_builtin; refine wpList_append_lies _ rfl (.tmp 31) (.tmp 39) 32 rfl wo.heap.size 28 i0 _ 2 24 Tryz.underlying32 hi hz0 hz1 hz2 rfl (by decide) _ _ _ rfl (HIN.out.alloc _) _ 1 1 [.bool (ineg x), .string (imag x)] rfl rfl (World.news_of_block (heap_alloc_new _ _)) (by simp [Value.oneCell']) (by omega) (by unfold maxLen; omega) (by omega) (by simp; omega) _ rfl ?_; intro g cap' w3 hown' hg hat hlt'; have HG := Lib.hid hg; clear hg; have HO4 := Lib.hid hown'; clear hown'; have HAT := Lib.hid hat; clear hat)
       go_roundw
       case rel =>
        refine ⟨j + 1, by omega, by go_num, (HBE.out.alloc hszq _).grown HG.out (by simp; omega) (fun jj hj => (HIN.out.lt jj hj).1), ?_⟩
        rw [HST2.out, HL2.out, civ_snoc]; exact HO4.out
       case measure => simp [intOf]; omega
     ·
      have hje : j = n := by omega
      rw [hje, HFL.out] at hin
      have tj : decide ((j : Int) < (n : Int)) = false := by simp; omega
      have hown2 := own_below HOWN.out hbe
      have hrows2 := HROWS.out.below hbe
      obtain ⟨R, hR⟩ : ∃ R, R = r.eraseIdx c := ⟨_, rfl⟩
      have hst3 := HST.out
      rw [← hR] at hin hst3
      obtain ⟨a, cap, rfl⟩ := own_slice hin
      have hlp : (P ++ [R]).length = P.length + 1 := by simp
      have hszw : w.heap.size ≤ wq.heap.size := by omega
      have hnew := hrows2.snoc (own_mn hin (show w.heap.size ≤ wo.heap.size by omega))
      have hbw := HBEL.out.trans (hbe.mono HBEL.out.size)
      have HO3 := Lib.hid hown2; clear hown2
      have HNEW := Lib.hid hnew; clear hnew
      have HST3 := Lib.hid hst3; clear hst3
      have HLP := Lib.hid hlp; clear hlp
      have HBW := Lib.hid hbw; clear hbw
      clear hin hrows2 hbe hR hje
      go_wp2_with (at_builtin; refine wpList_append_lies _ rfl (.tmp 41) (.tmp 43) 70 rfl w.heap.size 32 j0 _ 1 24 Tryz.underlying70 hj hy0 hy1 hy2 rfl (by decide) _ _ _ rfl (HO3.out.alloc _) _ 1 1 [.slice a R.length cap] rfl rfl (World.news_of_block (heap_alloc_new _ _)) (by simp [Value.oneCell']) (by omega) (by unfold maxLen; omega) (by omega) (by simp; omega) _ rfl ?_; intro g' cap' w4 hown' hg hat hlt'; have HG := Lib.hid hg; clear hg; have HO4 := Lib.hid hown'; clear hown'; have HAT := Lib.hid hat; clear hat)
      go_roundw
      case rel =>
       refine ⟨k + 1, rvs ++ [.slice a R.length cap], by omega, by go_num, (HBW.out.alloc hszw _).grown HG.out (by simp; omega) (fun jj hj => ?_), ?_, ?_⟩
       ·
        exact (HO3.out.lt jj hj).1
       ·
        rw [HST3.out, HLP.out]; exact HO4.out
       ·
        rw [HST3.out]
        exact (HNEW.out.below ((Below.refl _ wq).alloc (Nat.le_refl _) (.cells #[.slice a R.length cap] 32))).grown (HO3.out.alloc _) HG.out
      case measure => simp [intOf]; omega
  ·
   have hkn2 : k = n := by omega
   have tk : decide ((k : Int) < (n : Int)) = false := by simp; omega
   rw [hkn2, HFULL.out] at hown hrows
   have hb2 := hbel
   have hret := hrows.tab hown
   have HB2 := Lib.hid hb2; clear hb2
   have HRET := Lib.hid hret; clear hret
   clear hown hrows hbel hkn2
   go_wp2_with fail
   go_ret
   exact ⟨HB2.out, _, rfl, HRET.out⟩
end Go.Proofs.YthpgeeaccmgbkaaGreat

/- integer.Div of a negative number of any digits by one digit that divides it (printed by gen_divm.py). -/
namespace Go.Proofs.YthpgeeaccmgbkaaGreat
open Go.RowKit

set_option maxRecDepth 100000 in
set_option maxHeartbeats 3200000 in
theorem div_negM (X D : Nat) (w : World) (hX0 : 0 < X) (hmod : X % D = 0) (m : Nat) (hX : X < 4294967296 ^ m) (hm : m ≤ 1000) (hD0 : 0 < D) (hD : D < 4294967296) :
  Calls Tryz.prog 46 #[IntV (-(X : Int)), IntV (D : Int)] w (Ret w (.tuple #[IntV (-((X / D : Nat) : Int)), IntV ((X % D : Nat) : Int), .int .i64 0])) := by
 have hsX : (imag (X : Int)).size ≤ 1099511627776 := by
  rw [imag_size]
  have := bb_length_le (x := X) (m := 4 * m) (by rw [Nat.pow_mul]; exact hX)
  rw [Int.natAbs_natCast]; omega
 have hsD : (imag (D : Int)).size ≤ 1099511627776 := by
  rw [imag_size]
  have := bb_length_le (x := D) (m := 4) (by omega)
  simp at this ⊢; omega
 have hdx := fun w' => digits_any true (imag (X : Int)) w' hsX
 have hdd := fun w' => digits_any false (imag (D : Int)) w' hsD
 rw [imag_list, bval_bb, Int.natAbs_natCast] at hdx hdd
 have hXl : (dg X).length ≤ 100000000000 := Nat.le_trans (dg_length_le hX) (by omega)
 have hdv := fun vx vy w' h1 h2 => divide_any X D vx vy w' h1 h2 hXl hD0 hD
 have hdl : (dg D).length = 1 := by rw [dg_one hD0 hD]; rfl
 have hnX : ineg (-(X : Int)) = true := by simp [ineg]; omega
 have hnD : ineg (D : Int) = false := by simp [ineg]
 show Calls Tryz.prog 46 #[.agg #[.bool (ineg (-(X : Int))), .string (imag (-(X : Int)))], .agg #[.bool (ineg (D : Int)), .string (imag (D : Int))]] w _
 rw [hnX, hnD, imag_neg]
 obtain ⟨sa, hsa⟩ : ∃ sa, sa = imag (X : Int) := ⟨_, rfl⟩
 obtain ⟨sb, hsb⟩ : ∃ sb, sb = imag (D : Int) := ⟨_, rfl⟩
 rw [← hsa, ← hsb]
 rw [← hsa] at hdx
 rw [← hsb] at hdd
 obtain ⟨Q, hQ⟩ : ∃ Q, Q = X / D := ⟨_, rfl⟩
 obtain ⟨Rr, hRr⟩ : ∃ Rr, Rr = X % D := ⟨_, rfl⟩
 rw [← hQ, ← hRr] at hdv ⊢
 have hQl : (dg Q).length ≤ 274877906944 := by
  have := dg_length_le (x := Q) (m := m) (by rw [hQ]; exact Nat.lt_of_le_of_lt (Nat.div_le_self X D) hX)
  omega
 have hRl : (dg Rr).length ≤ 274877906944 := by
  have := dg_length_le (x := Rr) (m := 1) (by have := Nat.mod_lt X hD0; omega)
  omega
 have hrl0 : ¬ 0 < (dg Rr).length := by rw [hRr, hmod, dg_zero]; simp
 have HDX := Lib.hid hdx; clear hdx
 have HDD := Lib.hid hdd; clear hdd
 have HDV := Lib.hid hdv; clear hdv
 have HDL := Lib.hid hdl; clear hdl
 have HQL := Lib.hid hQl; clear hQl
 have HRL := Lib.hid hRl; clear hRl
 clear hX hm hXl hsX hsD hnX hnD hsa hsb hQ hRr
 obtain ⟨w4, hw4⟩ : ∃ w4, w4 = ((((w.alloc (.cells #[.bool true, .string sa] 28)).alloc (.cells #[.bool false, .string sb] 28)).alloc (.cells #[.bool false, .string ⟨#[]⟩] 28)).alloc (.cells #[.bool false, .string ⟨#[]⟩] 28)) := ⟨_, rfl⟩
 have hb0 : Blk w4 w.heap.size 28 [.bool true, .string sa] := by rw [hw4]; exact (((Blk.new w 28 _).alloc _).alloc _).alloc _
 have hb1 : Blk w4 (w.heap.size + 1) 28 [.bool false, .string sb] := by
  rw [hw4]
  have h := ((Blk.new (w.alloc (.cells #[.bool true, .string sa] 28)) 28 [.bool false, .string sb]).alloc (.cells #[.bool false, .string ⟨#[]⟩] 28)).alloc (.cells #[.bool false, .string ⟨#[]⟩] 28)
  simp only [World.size_alloc] at h
  exact h
 have hb2 : Blk w4 (w.heap.size + 2) 28 [.bool false, .string ⟨#[]⟩] := by
  rw [hw4]
  have h := (Blk.new ((w.alloc (.cells #[.bool true, .string sa] 28)).alloc (.cells #[.bool false, .string sb] 28)) 28 [.bool false, .string ⟨#[]⟩]).alloc (.cells #[.bool false, .string ⟨#[]⟩] 28)
  simp only [World.size_alloc] at h
  exact h
 have hb3 : Blk w4 (w.heap.size + 3) 28 [.bool false, .string ⟨#[]⟩] := by
  rw [hw4]
  have h := Blk.new (((w.alloc (.cells #[.bool true, .string sa] 28)).alloc (.cells #[.bool false, .string sb] 28)).alloc (.cells #[.bool false, .string ⟨#[]⟩] 28)) 28 [.bool false, .string ⟨#[]⟩]
  simp only [World.size_alloc] at h
  exact h
 have hbel : Below w.heap.size w w4 := by
  rw [hw4]
  exact ((((Below.refl w.heap.size w).alloc (Nat.le_refl _) _).alloc (by simp) _).alloc (by simp <;> omega) _).alloc (by simp <;> omega) _
 have hsz4 : w4.heap.size = w.heap.size + 4 := by rw [hw4]; simp only [World.size_alloc]
 have x0 := hb0.cell (j := 0) rfl
 have x1 := hb0.cell (j := 1) rfl
 have y0 := hb1.cell (j := 0) rfl
 have y1 := hb1.cell (j := 1) rfl
 have HB0 := Lib.hid hb0; clear hb0
 have HB1 := Lib.hid hb1; clear hb1
 have HB2 := Lib.hid hb2; clear hb2
 have HB3 := Lib.hid hb3; clear hb3
 have HB := Lib.hid hbel; clear hbel
 go_enter Tryz.func46, Tryz.ntmps46
 go_wp2_with fail
 rw [← hw4]
 clear hw4
 simp only [Nat.add_assoc, Nat.reduceAdd]
 refine wp_region_held_drew (S := fun w' => w'.cell? ⟨w.heap.size, 0, none⟩ = some (.bool true) ∧ w'.cell? ⟨w.heap.size, 1, none⟩ = some (.string sa) ∧ w'.cell? ⟨w.heap.size + 1, 0, none⟩ = some (.bool false) ∧ w'.cell? ⟨w.heap.size + 1, 1, none⟩ = some (.string sb)) (by kernel_rfl) ?_ (fun hHeld => ?_)
 ·
  go_keep
 refine zT 0 (h := ?_)
 (try simp only [Act.put, zA, zB, zC])
 refine zT 2 (h := ?_)
 (try simp only [Act.put, zA, zB, zC])
 refine zR 1 (h := fun K hK => ?_)
 go_simp
 go_at_call 81
 refine (HDX.out _).mono ?_
 rintro e w5 ⟨hq5, v5, rfl, hv5⟩
 dsimp only
 have z0 := (hq5.cell (p := ⟨w.heap.size, 0, none⟩) (show w.heap.size < w4.drew.heap.size by simp; omega)).trans hHeld.1
 have z1 := (hq5.cell (p := ⟨w.heap.size, 1, none⟩) (show w.heap.size < w4.drew.heap.size by simp; omega)).trans hHeld.2.1
 have z2 := (hq5.cell (p := ⟨w.heap.size + 1, 0, none⟩) (show w.heap.size + 1 < w4.drew.heap.size by simp; omega)).trans hHeld.2.2.1
 have z3 := (hq5.cell (p := ⟨w.heap.size + 1, 1, none⟩) (show w.heap.size + 1 < w4.drew.heap.size by simp; omega)).trans hHeld.2.2.2
 refine hK.out _ _ ⟨z0, z1, z2, z3⟩ (fun hHeld2 => ?_)
 clear hK K x0 x1 y0 y1 z0 z1 z2 z3 hHeld
 have hb5 := HB.out.drew.trans (hq5.mono (by simp; omega))
 have k2 := HB2.out.drew.keep hq5
 have k3 := HB3.out.drew.keep hq5
 have k0 := HB0.out.drew.keep hq5
 have k1 := HB1.out.drew.keep hq5
 have hsz5 := hq5.size
 simp only [World.size_drew] at hsz5
 clear HB HB0 HB1 HB2 HB3 hq5
 have HB5 := Lib.hid hb5; clear hb5
 have K0 := Lib.hid k0; clear k0
 have K1 := Lib.hid k1; clear k1
 have K2 := Lib.hid k2; clear k2
 have K3 := Lib.hid k3; clear k3
 have HV5 := Lib.hid hv5; clear hv5
 (try simp only [Act.put, zA, zB, zC])
 refine zR 3 (h := fun K hK => ?_)
 go_simp
 go_at_call 81
 refine (HDD.out _).mono ?_
 rintro e w6 ⟨hq6, v6, rfl, hv6⟩
 dsimp only
 have z0 := (hq6.cell (p := ⟨w.heap.size, 0, none⟩) (show w.heap.size < w5.heap.size by omega)).trans hHeld2.1
 have z1 := (hq6.cell (p := ⟨w.heap.size, 1, none⟩) (show w.heap.size < w5.heap.size by omega)).trans hHeld2.2.1
 have z2 := (hq6.cell (p := ⟨w.heap.size + 1, 0, none⟩) (show w.heap.size + 1 < w5.heap.size by omega)).trans hHeld2.2.2.1
 have z3 := (hq6.cell (p := ⟨w.heap.size + 1, 1, none⟩) (show w.heap.size + 1 < w5.heap.size by omega)).trans hHeld2.2.2.2
 refine hK.out _ _ ⟨z0, z1, z2, z3⟩ (fun hHeld3 => ?_)
 clear hK K z0 z1 z2 z3 hHeld2
 have hb6 := HB5.out.trans (hq6.mono (by omega))
 have k0 := K0.out.keep hq6
 have k1 := K1.out.keep hq6
 have k2 := K2.out.keep hq6
 have k3 := K3.out.keep hq6
 have hsz6 := hq6.size
 have hv5 := HV5.out.below hq6 (Nat.le_refl _)
 clear HB5 K0 K1 K2 K3 hq6 HV5
 obtain ⟨a6, c6, rfl, -⟩ := hv6.slice
 rw [HDL.out] at hv6 ⊢
 have hv6' : Row w6 (.slice a6 1 c6) (dg D).length (cs32 (dg D)) := by rw [HDL.out]; exact hv6
 have HB6 := Lib.hid hb6; clear hb6
 have K0 := Lib.hid k0; clear k0
 have K1 := Lib.hid k1; clear k1
 have K2 := Lib.hid k2; clear k2
 have K3 := Lib.hid k3; clear k3
 have HV5 := Lib.hid hv5; clear hv5
 have HV6 := Lib.hid hv6'; clear hv6'
 clear hv6
 (try simp only [Act.put, zA, zB, zC])
 refine zT 4 (h := ?_)
 (try simp only [Act.put, zA, zB, zC])
 refine zT 5 (h := ?_)
 (try simp only [Act.put, zA, zB, zC])
 refine wpAnyH_done (by kernel_rfl) ?_ _
 go_wp2_with fail
 go_at_call 86
 refine (HDV.out _ _ _ HV5.out HV6.out).mono ?_
 rintro e w7 ⟨hq7, v7, u7, rfl, hv7, hu7⟩
 dsimp only
 have z0 := (hq7.cell (p := ⟨w.heap.size, 0, none⟩) (show w.heap.size < w6.heap.size by omega)).trans hHeld3.1
 have z2 := (hq7.cell (p := ⟨w.heap.size + 1, 0, none⟩) (show w.heap.size + 1 < w6.heap.size by omega)).trans hHeld3.2.2.1
 clear hHeld3
 have hb7 := HB6.out.trans (hq7.mono (by omega))
 have k2 := K2.out.keep hq7
 have k3 := K3.out.keep hq7
 have hsz7 := hq7.size
 clear HB6 K0 K1 K2 K3 hq7 HV5 HV6
 obtain ⟨a7, c7, rfl, -⟩ := hv7.slice
 obtain ⟨a8, c8, rfl, -⟩ := hu7.slice
 have HB7 := Lib.hid hb7; clear hb7
 have K2 := Lib.hid k2; clear k2
 have K3 := Lib.hid k3; clear k3
 have HV7 := Lib.hid hv7; clear hv7
 have HU7 := Lib.hid hu7; clear hu7
 go_wp2_with fail
 refine wp_region_held_drew (S := fun w' => w'.cell? ⟨w.heap.size, 0, none⟩ = some (.bool true) ∧ w'.cell? ⟨w.heap.size + 1, 0, none⟩ = some (.bool false)) (by kernel_rfl) ?_ (fun hHeld => ?_)
 ·
  go_keep
 refine zT 0 (h := ?_)
 (try simp only [Act.put, zA, zB, zC])
 refine zT 1 (h := ?_)
 (try simp only [Act.put, zA, zB, zC])
 refine zT 2 (h := ?_)
 (try simp only [Act.put, zA, zB, zC])
 refine zT 3 (h := ?_)
 (try simp only [Act.put, zA, zB, zC])
 refine zT 4 (h := ?_)
 (try simp only [Act.put, zA, zB, zC])
 refine zT 5 (h := ?_)
 (try simp only [Act.put, zA, zB, zC])
 refine zT 7 (h := ?_)
 (try simp only [Act.put, zA, zB, zC])
 refine zT 8 (h := ?_)
 (try simp only [Act.put, zA, zB, zC])
 refine zT 9 (h := ?_)
 (try simp only [Act.put, zA, zB, zC])
 refine zR 6 (h := fun K hK => ?_)
 go_simp
 go_at_call 67
 refine (number_any _ _ _ _ HV7.out.drew (dg_lt _) HQL.out).mono ?_
 rintro e w8 ⟨hq8, rfl⟩
 dsimp only
 have z4 := (hq8.cell (p := ⟨w.heap.size, 0, none⟩) (show w.heap.size < w7.drew.heap.size by simp; omega)).trans hHeld.1
 have z5 := (hq8.cell (p := ⟨w.heap.size + 1, 0, none⟩) (show w.heap.size + 1 < w7.drew.heap.size by simp; omega)).trans hHeld.2
 refine hK.out _ _ ⟨z4, z5⟩ (fun hHeld2 => ?_)
 clear hK K z0 z2 z4 z5 hHeld
 have hb8 := HB7.out.drew.trans (hq8.mono (by simp; omega))
 have k2 := K2.out.drew.keep hq8
 have k3 := K3.out.drew.keep hq8
 have hsz8 := hq8.size
 simp only [World.size_drew] at hsz8
 have hu8 := HU7.out.drew.below hq8 (Nat.le_refl _)
 clear HB7 K2 K3 hq8 HU7 HV7
 have HB8 := Lib.hid hb8; clear hb8
 have K2 := Lib.hid k2; clear k2
 have K3 := Lib.hid k3; clear k3
 have HU8 := Lib.hid hu8; clear hu8
 (try simp only [Act.put, zA, zB, zC])
 refine zR 10 (h := fun K hK => ?_)
 go_simp
 go_at_call 67
 refine (number_any _ _ _ _ HU8.out (dg_lt _) HRL.out).mono ?_
 rintro e w9 ⟨hq9, rfl⟩
 dsimp only
 have z4 := (hq9.cell (p := ⟨w.heap.size, 0, none⟩) (show w.heap.size < w8.heap.size by omega)).trans hHeld2.1
 have z5 := (hq9.cell (p := ⟨w.heap.size + 1, 0, none⟩) (show w.heap.size + 1 < w8.heap.size by omega)).trans hHeld2.2
 refine hK.out _ _ ⟨z4, z5⟩ (fun hHeld3 => ?_)
 clear hK K z4 z5 hHeld2
 have hb9 := HB8.out.trans (hq9.mono (by omega))
 have k2 := K2.out.keep hq9
 have k3 := K3.out.keep hq9
 have hsz9 := hq9.size
 clear HB8 K2 K3 hq9 HU8
 have u0 := k2.cell (j := 0) rfl
 have u1 := k2.cell (j := 1) rfl
 have u2 := k3.cell (j := 0) rfl
 have u3 := k3.cell (j := 1) rfl
 have f0 := k2.frozen 0
 have f1 := k2.frozen 1
 have f2 := k3.frozen 0
 have f3 := k3.frozen 1
 have HB9 := Lib.hid hb9; clear hb9
 have K2 := Lib.hid k2; clear k2
 have K3 := Lib.hid k3; clear k3
 (try simp only [Act.put, zA, zB, zC])
 refine zR 11 (h := fun K hK => ?_)
 go_simp
 refine hK.out _ _ ?_ (fun hHeld => ?_)
 ·
  ((try dsimp only); go_keep)
 clear hK K
 (try simp only [Act.put, zA, zB, zC])
 refine zR 12 (h := fun K hK => ?_)
 go_simp
 refine hK.out _ _ ?_ (fun hHeld => ?_)
 ·
  ((try dsimp only); go_keep)
 clear hK K
 (try simp only [Act.put, zA, zB, zC])
 refine zT 13 (h := ?_)
 (try simp only [Act.put, zA, zB, zC])
 refine wpAnyH_done (by kernel_rfl) ?_ _
 split
 ·
  rename_i d hd
  obtain rfl : (6 : Tmp) = d := Option.some.inj (show some (6 : Tmp) = some d from hd)
  clear hd
  simp only [List.set_cons_zero, List.set_cons_succ]
  go_wp2_with fail
  have hvQ : sgn true (val (dg Q)) = -(Q : Int) := by rw [val_dg]; rfl
  have hvR : sgn false (val (dg Rr)) = (Rr : Int) := by rw [val_dg]; rfl
  rw [hvQ, hvR]
  clear hvQ hvR
  refine bodyPost_ret (v := .tuple #[IntV (-(Q : Int)), IntV (Rr : Int), .int .i64 0]) (by simp [results, Tryz.results46, go_sem, u0, u1, u2, u3]) rfl ⟨?_, rfl⟩
  exact (((HB9.out.setCell (p := ⟨w.heap.size + 2, 0, none⟩) (Nat.le_add_right _ _) _).setCell (p := ⟨w.heap.size + 2, 1, none⟩) (Nat.le_add_right _ _) _).setCell (p := ⟨w.heap.size + 3, 0, none⟩) (Nat.le_add_right _ _) _).setCell (p := ⟨w.heap.size + 3, 1, none⟩) (Nat.le_add_right _ _) _
 ·
  rename_i hd
  exact absurd (show some (6 : Tmp) = none from hd) (by simp)
end Go.Proofs.YthpgeeaccmgbkaaGreat

/- counting.Series at any valid graph. -/
namespace Go.Proofs.YthpgeeaccmgbkaaGreat
open Go.RowKit

theorem div_ex (c : Int) (D p : Nat) (w : World) (hD0 : 0 < D) (hD : D < 256) (hc : sm p c) (hp : p ≤ 900) :
  Calls Tryz.prog 46 #[IntV ((D : Int) * c), IntV (D : Int)] w (Ret w (.tuple #[IntV c, IntV 0, .int .i64 0])) := by
 have hX : D * c.natAbs < 4294967296 ^ (p + 1) := by
  unfold sm at hc
  have h1 : (256 : Nat) ^ (p + 1) ≤ 4294967296 ^ (p + 1) := Nat.pow_le_pow_left (by decide) _
  have h2 : D * c.natAbs < 256 ^ p * 256 := by
   rw [Nat.mul_comm]
   exact Nat.mul_lt_mul_of_lt_of_le hc (Nat.le_of_lt hD) (by decide)
  have h3 : (256 : Nat) ^ (p + 1) = 256 ^ p * 256 := Nat.pow_succ ..
  omega
 have hq : D * c.natAbs / D = c.natAbs := Nat.mul_div_cancel_left _ hD0
 have hm : D * c.natAbs % D = 0 := Nat.mul_mod_right _ _
 by_cases hneg : c < 0
 ·
  have h := div_negM (D * c.natAbs) D w (Nat.mul_pos hD0 (by omega)) hm (p + 1) hX (by omega) hD0 (by omega)
  rw [hq, hm] at h
  have e1 : -((D * c.natAbs : Nat) : Int) = (D : Int) * c := by
   rw [Int.natCast_mul, ← Int.mul_neg]; congr 1; omega
  have e2 : -((c.natAbs : Nat) : Int) = c := by omega
  rw [e1, e2] at h
  exact h
 ·
  have h := div_any (D * c.natAbs) D w (p + 1) hX (by omega) hD0 (by omega)
  rw [hq, hm] at h
  have e1 : ((D * c.natAbs : Nat) : Int) = (D : Int) * c := by
   rw [Int.natCast_mul]; congr 1; omega
  have e2 : ((c.natAbs : Nat) : Int) = c := by omega
  rw [e1, e2] at h
  exact h
/-- The denominator, and the numerator, before zeros are left out. -/
def serD (es : List E3) (S : Nat) : List Int := (pL (chC es S) S (S + 1)).reverse
def serN (es : List E3) (S s : Nat) : List Int := numL (serD es S) (bL es s S) S
theorem series_q (L : Int) (S s : Nat) (es : List E3) (v : Value) (w : World) (hr : Row w v es.length (ce es)) (hok : okEs es) (hc : chk L (S : Int) es = 0) (hS : S ≤ 32) (hs : s < S) :
  Calls Tryz.prog 20 #[.agg #[.int .i64 L, .int .i64 (S : Int), v], .int .i64 (s : Int)] w (SerRet (serN es S s) (serD es S) w) := by
 have hlen := (chk_all hc).2.2.2.1
 refine series_any L S s (5 * S + 1) es v (chC es S) (fun _ => 0) w hr hok hc hS hs (by omega) (by omega) (fun j hj => ch_ok hlen hS j hj) (fun j hj => ((ch_sm hlen hS j).2).mono (by omega)) (fun j hj w' => ?_)
 rw [tr_nx, show (j : Int) + 1 = ((j + 1 : Nat) : Int) by omega]
 exact div_ex (chC es S (j + 1)) (j + 1) (5 * (j + 1) + 1) w' (by omega) (by omega) (ch_sm hlen hS (j + 1)).2 (by omega)
end Go.Proofs.YthpgeeaccmgbkaaGreat

/- The law CountingSeries in plain Lean: the quotient's coefficients are the numbers of paths. -/
namespace Go.Proofs.YthpgeeaccmgbkaaGreat

theorem tzI_ex : ∀ (n : Nat) (l : List Int), l.length = n → ∃ m, l = tzI l ++ List.replicate m 0
 | 0, l, h => ⟨0, by obtain rfl := List.length_eq_zero_iff.1 h; rfl⟩
 | n + 1, l, h =>
  by
  rcases List.eq_nil_or_concat l with rfl | ⟨l', x, rfl⟩
  ·
   cases h
  ·
   rw [List.concat_eq_append] at h ⊢
   by_cases hx : x = 0
   ·
    subst hx
    obtain ⟨m, hm⟩ := tzI_ex n l' (by simpa using h)
    refine ⟨m + 1, ?_⟩
    rw [tzI_snoc_zero, List.replicate_succ', ← List.append_assoc, ← hm]
   ·
    exact ⟨0, by rw [tzI_snoc_ne _ hx]; simp⟩
theorem tzI_len (l : List Int) : (tzI l).length ≤ l.length := by
 obtain ⟨m, hm⟩ := tzI_ex _ l rfl
 have : l.length = (tzI l ++ List.replicate m 0).length := by rw [← hm]
 rw [List.length_append] at this; omega
theorem serD_len (es : List E3) (S : Nat) : (serD es S).length = S + 1 := by unfold serD; rw [List.length_reverse, pL_length]
theorem serD_getD (es : List E3) (S t : Nat) : (serD es S).getD t 0 = chC es S t := by
 by_cases ht : t < S + 1
 ·
  have hl := pL_length (chC es S) S (S + 1)
  rw [List.getD_eq_getElem?_getD]
  unfold serD
  rw [List.getElem?_reverse (by rw [hl]; exact ht), hl]
  unfold pL
  rw [List.getElem?_map, List.getElem?_range (by omega)]
  show (if S + 1 - 1 - t = S then (1 : Int) else if S - (S + 1 - 1 - t) < S + 1 then chC es S (S - (S + 1 - 1 - t)) else 0) = _
  by_cases h0 : t = 0
  ·
   subst h0; rw [if_pos (by omega), chC_zero]
  ·
   rw [if_neg (by omega), if_pos (by omega), show S - (S + 1 - 1 - t) = t by omega]
 ·
  rw [ch_deg (by omega), List.getD_eq_getElem?_getD, List.getElem?_eq_none (by rw [serD_len]; omega)]; rfl
theorem serN_len (es : List E3) (S s : Nat) : (serN es S s).length = S := by simp [serN, numL]
end Go.Proofs.YthpgeeaccmgbkaaGreat

/- grooveref01.Compare and Sign, at canonical integers. -/
namespace Go.Proofs.YthpgeeaccmgbkaaGreat
open Go.RowKit

theorem cmpZ_neg2 {x y : Int} (hx : x < 0) (hy : y < 0) : cmpZ x y = cmpN y.natAbs x.natAbs := by
 unfold cmpZ cmpN
 repeat' split
 all_goals first | rfl | omega
theorem cmpZ_pos2 {x y : Int} (hx : 0 ≤ x) (hy : 0 ≤ y) : cmpZ x y = cmpN x.natAbs y.natAbs := by
 unfold cmpZ cmpN
 repeat' split
 all_goals first | rfl | omega
set_option maxRecDepth 100000 in
set_option maxHeartbeats 3200000 in
theorem rcompare_any (x y : Int) (w : World) (hx : (imag x).size ≤ 1099511627775) (hy : (imag y).size ≤ 1099511627775) :
  Calls Tryz.prog 136 #[.agg #[.bool (ineg x), .string (imag x)], .agg #[.bool (ineg y), .string (imag y)]] w (Ret w (.int .i64 (cmpZ x y))) := by
 have hxy : (ineg x = true ∧ ineg y = false ∧ cmpZ x y = -1) ∨ (ineg x = false ∧ ineg y = true ∧ cmpZ x y = 1) ∨ (ineg x = true ∧ ineg y = true ∧ cmpZ x y = cmpN y.natAbs x.natAbs) ∨ (ineg x = false ∧ ineg y = false ∧ cmpZ x y = cmpN x.natAbs y.natAbs) := by
  by_cases h1 : x < 0
  ·
   by_cases h2 : y < 0
   ·
    exact .inr (.inr (.inl ⟨by simp [ineg, h1], by simp [ineg, h2], cmpZ_neg2 h1 h2⟩))
   ·
    exact .inl ⟨by simp [ineg, h1], by simp [ineg]; omega, by unfold cmpZ; rw [if_pos (by omega)]⟩
  ·
   by_cases h2 : y < 0
   ·
    exact .inr (.inl ⟨by simp [ineg]; omega, by simp [ineg, h2], by unfold cmpZ; rw [if_neg (by omega), if_neg (by omega)]⟩)
   ·
    exact .inr (.inr (.inr ⟨by simp [ineg]; omega, by simp [ineg]; omega, cmpZ_pos2 (by omega) (by omega)⟩))
 have hCA : ∀ w', Calls Tryz.prog 73 #[.agg #[.bool (ineg x), .string (imag x)]] w' (Ret w' (.agg #[.bool (ineg x), .string (imag x)])) := fun w' => by
  have h := rcanon_any (ineg x) (imag x) w' (by omega)
  rwa [ival_canon] at h
 have hCB : ∀ w', Calls Tryz.prog 73 #[.agg #[.bool (ineg y), .string (imag y)]] w' (Ret w' (.agg #[.bool (ineg y), .string (imag y)])) := fun w' => by
  have h := rcanon_any (ineg y) (imag y) w' (by omega)
  rwa [ival_canon] at h
 have hc1 := fun w' => rcmp_any x.natAbs y.natAbs (imag x) (imag y) w' (by omega) (by omega) (imag_list x) (imag_list y)
 have hc2 := fun w' => rcmp_any y.natAbs x.natAbs (imag y) (imag x) w' (by omega) (by omega) (imag_list y) (imag_list x)
 obtain ⟨c1, hc1e⟩ : ∃ c1, c1 = cmpN x.natAbs y.natAbs := ⟨_, rfl⟩
 obtain ⟨c2, hc2e⟩ : ∃ c2, c2 = cmpN y.natAbs x.natAbs := ⟨_, rfl⟩
 rw [← hc1e, ← hc2e] at hxy
 simp only [← hc1e] at hc1
 simp only [← hc2e] at hc2
 obtain ⟨Z, hZ⟩ : ∃ Z, Z = cmpZ x y := ⟨_, rfl⟩
 rw [← hZ] at hxy ⊢
 obtain ⟨a, ha⟩ : ∃ a, a = ineg x := ⟨_, rfl⟩
 obtain ⟨b, hb⟩ : ∃ b, b = ineg y := ⟨_, rfl⟩
 obtain ⟨s, hs⟩ : ∃ s, s = imag x := ⟨_, rfl⟩
 obtain ⟨t, ht⟩ : ∃ t, t = imag y := ⟨_, rfl⟩
 rw [← ha, ← hb] at hxy
 simp only [← ha, ← hs] at hCA
 simp only [← hb, ← ht] at hCB
 simp only [← hs, ← ht] at hc1 hc2
 rw [← ha, ← hb, ← hs, ← ht]
 clear ha hb hs ht hc1e hc2e hZ hx hy
 have HCA := Lib.hid hCA; clear hCA
 have HCB := Lib.hid hCB; clear hCB
 have HC1 := Lib.hid hc1; clear hc1
 have HC2 := Lib.hid hc2; clear hc2
 have hA0 := (Blk.new w 28 [.bool a, .string s]).alloc (.cells #[.bool b, .string t] 28)
 have hA1 := Blk.new (w.alloc (.cells #[.bool a, .string s] 28)) 28 [.bool b, .string t]
 simp only [World.size_alloc] at hA1
 have s0 := ((Below.refl w.heap.size w).alloc (Nat.le_refl _) (.cells #[.bool a, .string s] 28)).alloc (by simp) (.cells #[.bool b, .string t] 28)
 have HA0 := Lib.hid hA0; clear hA0
 have HA1 := Lib.hid hA1; clear hA1
 have S0 := Lib.hid s0; clear s0
 have HXY := Lib.hid hxy; clear hxy
 go_enter Tryz.func136, Tryz.ntmps136
 go_wp2_with fail
 go_region_held3 (fun w' => w'.cell? ⟨w.heap.size, 0, none⟩ = some (.bool a) ∧ w'.cell? ⟨w.heap.size, 1, none⟩ = some (.string s) ∧ w'.cell? ⟨w.heap.size + 1, 0, none⟩ = some (.bool b) ∧ w'.cell? ⟨w.heap.size + 1, 1, none⟩ = some (.string t)) ((try refine ⟨?_, ?_, ?_, ?_⟩) <;> (first | (simp [*, World.cell?_alloc_some, World.cell?_setCell_far]; done) | ((repeat (refine keep_cell ?_ (by intro e; first | rfl | (simp at e; done) | (simp at e; omega)))); assumption))) (first | (go_at_call_of 73 (Value.agg #[.bool a, .string s]); ((with_reducible refine (HCA.out _).mono ?_)); rintro e w1 ⟨hq, rfl⟩; have hB0 := HA0.out.drew.keep hq; have cB0 := hB0.cell (j := 0) rfl; have dB0 := hB0.cell (j := 1) rfl; have HB0 := Lib.hid hB0; clear hB0; have hB1 := HA1.out.drew.keep hq; have cB1 := hB1.cell (j := 0) rfl; have dB1 := hB1.cell (j := 1) rfl; have HB1 := Lib.hid hB1; clear hB1; have HQ1 := Lib.hid hq; clear hq) | (go_at_call_of 73 (Value.agg #[.bool b, .string t]); ((with_reducible refine (HCB.out _).mono ?_)); rintro e w2 ⟨hq, rfl⟩; have hC0 := HB0.out.keep hq; have cC0 := hC0.cell (j := 0) rfl; have dC0 := hC0.cell (j := 1) rfl; have fC0 := hC0.frozen 0; have gC0 := hC0.frozen 1; have HC0 := Lib.hid hC0; clear hC0; have hC1 := HB1.out.keep hq; have cC1 := hC1.cell (j := 0) rfl; have dC1 := hC1.cell (j := 1) rfl; have fC1 := hC1.frozen 0; have gC1 := hC1.frozen 1; have HC1b := Lib.hid hC1; clear hC1; have HQ2 := Lib.hid hq; clear hq))
 have n01 : ¬ w.heap.size + 1 = w.heap.size := by omega
 have n02 : ¬ w.heap.size = w.heap.size + 1 := by omega
 have hD0 := (((HC0.out.set 0 (.bool a)).set 1 (.string s)).setOther (a := ⟨w.heap.size + 1, 0, none⟩) n01 (.bool b)).setOther (a := ⟨w.heap.size + 1, 1, none⟩) n01 (.string t)
 have hD1 := (((HC1b.out.setOther (a := ⟨w.heap.size, 0, none⟩) n02 (.bool a)).setOther (a := ⟨w.heap.size, 1, none⟩) n02 (.string s)).set 0 (.bool b)).set 1 (.string t)
 have s1 := S0.out.drew.trans (HQ1.out.mono S0.out.size)
 have s2 := s1.trans (HQ2.out.mono s1.size)
 have s3 := (((s2.setCell (p := ⟨w.heap.size, 0, none⟩) (Nat.le_refl _) (.bool a)).setCell (p := ⟨w.heap.size, 1, none⟩) (Nat.le_refl _) (.string s)).setCell (p := ⟨w.heap.size + 1, 0, none⟩) (Nat.le_add_right _ _) (.bool b)).setCell (p := ⟨w.heap.size + 1, 1, none⟩) (Nat.le_add_right _ _) (.string t)
 clear s1 s2 cB0 dB0 cB1 dB1 cC0 dC0 cC1 dC1 fC0 gC0 fC1 gC1
 obtain ⟨W, hW⟩ : ∃ W, W = (((w2.setCell ⟨w.heap.size, 0, none⟩ (.bool a)).setCell ⟨w.heap.size, 1, none⟩ (.string s)).setCell ⟨w.heap.size + 1, 0, none⟩ (.bool b)).setCell ⟨w.heap.size + 1, 1, none⟩ (.string t) := ⟨_, rfl⟩
 rw [← hW] at hD0 hD1 s3 ⊢
 have HW := Lib.hid hW; clear hW
 have S3 := Lib.hid s3; clear s3
 have cD0 := hD0.cell (j := 0) rfl
 have dD0 := hD0.cell (j := 1) rfl
 have cD1 := hD1.cell (j := 0) rfl
 have dD1 := hD1.cell (j := 1) rfl
 clear hD0 hD1 n01 n02
 rcases HXY.out with ⟨rfl, rfl, rfl⟩ | ⟨rfl, rfl, rfl⟩ | ⟨rfl, rfl, rfl⟩ | ⟨rfl, rfl, rfl⟩
 ·
  go_wp2_with fail
  go_ret
  exact ⟨S3.out, rfl⟩
 ·
  go_wp2_with fail
  go_ret
  exact ⟨S3.out, rfl⟩
 ·
  go_wp2_with (go_at_call 76; refine (HC2.out _).mono ?_; rintro e w' ⟨rfl, rfl⟩)
  go_ret
  exact ⟨S3.out, rfl⟩
 ·
  go_wp2_with (go_at_call 76; refine (HC1.out _).mono ?_; rintro e w' ⟨rfl, rfl⟩)
  go_ret
  exact ⟨S3.out, rfl⟩
end Go.Proofs.YthpgeeaccmgbkaaGreat

/- grooveref03.zero, Degree, Canonical at canonical integers. -/
namespace Go.Proofs.YthpgeeaccmgbkaaGreat
open Go.RowKit

theorem cmpZ_zero (x : Int) : (cmpZ x 0 == 0) = decide (x = 0) := by
 unfold cmpZ
 rcases Int.lt_trichotomy x 0 with h | h | h
 ·
  rw [if_pos h]
  have : ¬ x = 0 := by omega
  simp [this]
 ·
  subst h; simp
 ·
  rw [if_neg (by omega)]
  have : ¬ x = 0 := by omega
  simp [this]
set_option maxRecDepth 100000 in
set_option maxHeartbeats 3200000 in
theorem rzero_any (x : Int) (w : World) (hx : (imag x).size ≤ 1099511627775) :
  Calls Tryz.prog 119 #[.agg #[.bool (ineg x), .string (imag x)]] w (Ret w (.bool (decide (x = 0)))) := by
 have hc := fun w' => rcompare_any x 0 w' hx (by rw [imag_zero]; decide)
 rw [ineg_zero, imag_zero] at hc
 have hz := cmpZ_zero x
 obtain ⟨c, hcc⟩ : ∃ c, c = cmpZ x 0 := ⟨_, rfl⟩
 rw [← hcc] at hz
 simp only [← hcc] at hc
 obtain ⟨b, hb⟩ : ∃ b, b = decide (x = 0) := ⟨_, rfl⟩
 rw [← hb] at hz ⊢
 have s0 := (Below.refl w.heap.size w).alloc (Nat.le_refl _) (.cells #[.bool (ineg x), .string (imag x)] 28)
 have HC := Lib.hid hc; clear hc
 have S0 := Lib.hid s0; clear s0
 clear hcc hb
 go_enter Tryz.func119, Tryz.ntmps119
 go_wp2_with fail
 go_at_call 136
 refine (HC.out _).mono ?_
 rintro e w1 ⟨hq, rfl⟩
 have s1 := S0.out.trans (hq.mono S0.out.size)
 have S1 := Lib.hid s1; clear s1
 clear hq
 go_wp2_with fail
 go_ret
 exact ⟨S1.out, rfl⟩
theorem tzI_take_zero {l : List Int} {k : Nat} (h : l[k]? = some 0) : tzI (l.take (k + 1)) = tzI (l.take k) := by
 rw [List.take_add_one, h]; exact tzI_snoc_zero _
theorem tzI_take_ne {l : List Int} {k : Nat} {x : Int} (h : l[k]? = some x) (hx : x ≠ 0) : tzI (l.take (k + 1)) = l.take (k + 1) := by
 rw [List.take_add_one, h]; exact tzI_snoc_ne _ hx
theorem tzI_take (l : List Int) : l.take (tzI l).length = tzI l := by
 obtain ⟨m, hm⟩ := tzI_ex l.length l rfl
 conv => lhs; rw [hm]
 rw [List.take_append_of_le_length (by rw [← hm]; exact Nat.le_refl _)]
 rw [List.take_of_length_le (by rw [← hm]; exact Nat.le_refl _)]
set_option maxRecDepth 100000 in
set_option maxHeartbeats 3200000 in
theorem rdegree_any (l : List Int) (v : Value) (w : World) (hr : Row w v l.length (civ l)) (hl : l.length ≤ 100000) (hs : ∀ x ∈ l, small x) :
  Calls Tryz.prog 97 #[v] w (Ret w (.int .i64 (((tzI l).length : Int) - 1))) := by
 obtain ⟨va, vc, rfl, hle⟩ := hr.slice
 have hget : ∀ k, k < l.length → ∃ x, l[k]? = some x ∧ small x := fun k hk => ⟨l[k], List.getElem?_eq_getElem hk, hs _ (List.getElem_mem hk)⟩
 have hfull : tzI (l.take l.length) = tzI l := by rw [List.take_length]
 have hz := fun k (h : l[k]? = some 0) => tzI_take_zero h
 have hne := fun k x (h : l[k]? = some x) (hx : x ≠ 0) => congrArg List.length (tzI_take_ne h hx)
 have hln := fun k (hk : k ≤ l.length) => show (l.take k).length = k by simp; omega
 have h00 : (tzI (l.take 0)).length = 0 := by simp [tzI_nil]
 obtain ⟨Z, hZ⟩ : ∃ Z, Z = fun k => tzI (l.take k) := ⟨_, rfl⟩
 have eZ : ∀ k, tzI (l.take k) = Z k := fun k => by rw [hZ]
 simp only [eZ] at hfull hz hne h00
 rw [← hfull]
 obtain ⟨n, hn⟩ : ∃ n, n = l.length := ⟨_, rfl⟩
 rw [← hn] at hr hle hl hget hln ⊢
 obtain ⟨D, hD⟩ : ∃ D : Int, D = ((Z n).length : Int) - 1 := ⟨_, rfl⟩
 rw [← hD]
 have hD0 : ∀ k : Nat, Z k = Z n → ∀ y, (Z k).length = y → (y : Int) - 1 = D := fun k h y hy => by rw [hD, ← h, hy]
 have hnw : IntKind.i64.wrap ((n : Int) - 1) = (n : Int) - 1 := IntWalk.i64_in _ (by omega)
 have HR := Lib.hid hr; clear hr
 have HGET := Lib.hid hget; clear hget
 have HZ := Lib.hid hz; clear hz
 have HNE := Lib.hid hne; clear hne
 have HLN := Lib.hid hln; clear hln
 have H00 := Lib.hid h00; clear h00
 have HD0 := Lib.hid hD0; clear hD0
 clear hZ eZ hfull hs hn hD
 go_enter Tryz.func97, Tryz.ntmps97
 go_wp2_with fail
 go_loopw [3] (fun i wr => ∃ k : Nat, k ≤ n ∧ i = .int .i64 ((k : Int) - 1) ∧ Below w.heap.size w wr ∧ Z k = Z n) (fun i _ => (intOf i + 1).toNat)
 case atStart => exact ⟨n, Nat.le_refl _, rfl, Below.refl _ _, rfl⟩
 case round =>
  obtain ⟨k, hk, rfl, hbel, hzk⟩ := hrel
  obtain ⟨i, hi⟩ : ∃ i : Int, i = (k : Int) - 1 := ⟨_, rfl⟩
  rw [← hi]
  by_cases hk0 : k = 0
  ·
   have e1 : decide (0 ≤ i) = false := decide_eq_false (by omega)
   have e2 : ¬ 0 ≤ i := by omega
   have hd := HD0.out k hzk 0 (by rw [hk0]; exact H00.out)
   have hiD : i = D := by omega
   have HBEL := Lib.hid hbel; clear hbel
   have HID := Lib.hid hiD; clear hiD
   clear hi hd hzk
   go_wp2_with fail
   go_ret
   exact ⟨HBEL.out, by rw [← HID.out]; (try rfl)⟩
  ·
   obtain ⟨j, rfl⟩ : ∃ j, k = j + 1 := ⟨k - 1, by omega⟩
   have hij : i = (j : Int) := by omega
   subst hij
   have e1 : decide (0 ≤ (j : Int)) = true := decide_eq_true (by omega)
   obtain ⟨x, hx, hxs⟩ := HGET.out j (by omega)
   obtain ⟨b, o, rfl, hb, hbc⟩ := HR.out.at_ (by omega)
   obtain ⟨q0, q1⟩ := int_cells hbc hbel hb hx
   have hzr := fun w' => rzero_any x w' hxs
   have hix1 : (0 : Int) ≤ (j : Int) := by omega
   have hix2 : (j : Int) < (n : Int) := by omega
   have hjw : IntKind.i64.wrap ((j : Int) - 1) = (j : Int) - 1 := IntWalk.i64_in _ (by omega)
   by_cases hx0 : x = 0
   ·
    have hst := HZ.out j (by rw [hx, hx0])
    rw [decide_eq_true hx0] at hzr
    have hz2 : Z j = Z n := by rw [← hst]; exact hzk
    have HZR := Lib.hid hzr; clear hzr
    have HBEL := Lib.hid hbel; clear hbel
    have HZ2 := Lib.hid hz2; clear hz2
    clear hx hst hzk hi hbc hx0
    go_wp2_with fail
    go_at_call 119
    refine (HZR.out _).mono ?_
    rintro e w2 ⟨hq, rfl⟩
    have hb2 := HBEL.out.trans (hq.mono HBEL.out.size)
    have HB2 := Lib.hid hb2; clear hb2
    clear hq q0 q1
    go_wp2_with fail
    go_roundw
    case rel => exact ⟨j, by omega, by go_num, HB2.out, HZ2.out⟩
    case measure => simp [intOf]; (try omega)
   ·
    have hst := HNE.out j x hx hx0
    rw [decide_eq_false hx0] at hzr
    have hd := HD0.out (j + 1) hzk (j + 1) (by rw [hst]; exact HLN.out (j + 1) (by omega))
    have hiD : (j : Int) = D := by omega
    have HZR := Lib.hid hzr; clear hzr
    have HBEL := Lib.hid hbel; clear hbel
    have HID := Lib.hid hiD; clear hiD
    clear hx hst hzk hi hbc hd
    go_wp2_with fail
    go_at_call 119
    refine (HZR.out _).mono ?_
    rintro e w2 ⟨hq, rfl⟩
    have hb2 := HBEL.out.trans (hq.mono HBEL.out.size)
    have HB2 := Lib.hid hb2; clear hb2
    clear hq q0 q1
    go_wp2_with fail
    go_ret
    exact ⟨HB2.out, by rw [← HID.out]; (try rfl)⟩
/-- A list of integers in memory of the call's own. -/
def ListO (l : List Int) (w : World) (e : Ending) (w' : World) : Prop := Below w.heap.size w w' ∧ ∃ u, e = .returned u ∧ w'.ownsRow w.heap.size 28 2 u l.length (civ l)
set_option maxRecDepth 100000 in
set_option maxHeartbeats 3200000 in
theorem rcanL_any (l : List Int) (v : Value) (w : World) (hr : Row w v l.length (civ l)) (hl : l.length ≤ 100000) (hs : ∀ x ∈ l, small x) :
  Calls Tryz.prog 57 #[v] w (ListO (tzI l) w) := by
 have hdg := fun w' h => rdegree_any l v w' h hl hs
 obtain ⟨va, vc, rfl, hle⟩ := hr.slice
 obtain ⟨i0, hi, hz0, hz1, hz2⟩ := info_parts infoZ
 have hget : ∀ k, k < l.length → ∃ x, l[k]? = some x ∧ small x := fun k hk => ⟨l[k], List.getElem?_eq_getElem hk, hs _ (List.getElem_mem hk)⟩
 have hsu := fun k x (h : l[k]? = some x) => show l.take (k + 1) = l.take k ++ [x] by rw [List.take_add_one, h]; rfl
 have htk := tzI_take l
 have htl := tzI_len l
 obtain ⟨d, hd⟩ : ∃ d, d = (tzI l).length := ⟨_, rfl⟩
 rw [← hd] at htk htl
 simp only [← hd] at hdg
 obtain ⟨F, hF⟩ : ∃ F, F = tzI l := ⟨_, rfl⟩
 rw [← hF] at htk hd ⊢
 obtain ⟨n, hn⟩ : ∃ n, n = l.length := ⟨_, rfl⟩
 rw [← hn] at hr hle hl hget htl hdg
 rw [← hn]
 have hadd := fun (x : Int) w' (hx : small x) => radd_any x 0 w' hx (by rw [imag_zero]; decide)
 simp only [Int.add_zero] at hadd
 have hadd2 : ∀ (x : Int) w', small x → Calls Tryz.prog 40 #[.agg #[.bool (ineg x), .string (imag x)], .agg #[.bool false, .string ⟨#[]⟩]] w' (Ret w' (IntV x)) := fun x w' hx => by
  have h := hadd x w' hx
  rwa [show IntV 0 = .agg #[.bool false, .string ⟨#[]⟩] by rw [IntV, ineg_zero, imag_zero]] at h
 have hmd := World.ownsRow_made w (#[] : Array Value) 0 (base := w.heap.size) (e := 28) (size := 2) (Nat.le_refl _) (Nat.zero_le _) rfl
 have s0 := (Below.refl w.heap.size w).alloc (Nat.le_refl _) (.cells #[] 28)
 obtain ⟨w1, hw1⟩ : ∃ w1, w.alloc (.cells #[] 28) = w1 := ⟨_, rfl⟩
 rw [hw1] at hmd s0
 have hr1 := hr.below s0 (Nat.le_refl _)
 have hdg1 := hdg w1 hr1
 have HR := Lib.hid hr; clear hr
 have HGET := Lib.hid hget; clear hget
 have HSU := Lib.hid hsu; clear hsu
 have HADD := Lib.hid hadd2; clear hadd2
 have HDG := Lib.hid hdg1; clear hdg1
 have HTK := Lib.hid htk; clear htk
 have HD := Lib.hid hd; clear hd
 have HMD := Lib.hid hmd; clear hmd
 have S0 := Lib.hid s0; clear s0
 clear hs hadd hdg hr1 hF hn
 go_enter Tryz.func57, Tryz.ntmps57
 go_wp2_with fail
 (try rw [hw1])
 clear hw1
 go_at_call 97
 refine HDG.out.mono ?_
 rintro e w2 ⟨hq, rfl⟩
 have ho2 := own_below HMD.out hq
 have s2 := S0.out.trans (hq.mono S0.out.size)
 have HO2 := Lib.hid ho2; clear ho2
 have S2 := Lib.hid s2; clear s2
 clear hq
 go_wp2_with fail
 go_loopw [3, 5] (fun u i wr => ∃ k : Nat, k ≤ d ∧ i = .int .i64 (k : Int) ∧ Below w.heap.size w wr ∧ wr.ownsRow w.heap.size 28 2 u k (civ (l.take k))) (fun _ i _ => d - (intOf i).toNat)
 case atStart => exact ⟨0, Nat.zero_le _, rfl, S2.out, by rw [List.take_zero]; exact HO2.out⟩
 case round =>
  obtain ⟨k, hk, rfl, hbel, hown⟩ := hrel
  obtain ⟨g, hg⟩ : ∃ g : Int, g = (d : Int) - 1 := ⟨_, rfl⟩
  rw [← hg]
  by_cases hkd : k < d
  ·
   have tk : decide ((k : Int) ≤ g) = true := decide_eq_true (by omega)
   have tk2 : (k : Int) ≤ g := by omega
   obtain ⟨x, hx, hxs⟩ := HGET.out k (by omega)
   have hst := HSU.out k x hx
   obtain ⟨b, o, rfl, hb, hbc⟩ := HR.out.at_ (by omega)
   obtain ⟨q0, q1⟩ := int_cells hbc hbel hb hx
   have hax := fun w' => HADD.out x w' hxs
   obtain ⟨a, cap, rfl⟩ := own_slice hown
   have hix1 : (0 : Int) ≤ (k : Int) := by omega
   have hix2 : (k : Int) < (n : Int) := by omega
   have HAX := Lib.hid hax; clear hax
   have HST := Lib.hid hst; clear hst
   have HBEL := Lib.hid hbel; clear hbel
   have HOWN := Lib.hid hown; clear hown
   clear hx hxs hbc hg
   go_wp2_with fail
   go_at_call 40
   refine (HAX.out _).mono ?_
   rintro e w4 ⟨hq, rfl⟩
   have ho4 := own_below HOWN.out hq
   have hb4 := HBEL.out.trans (hq.mono HBEL.out.size)
   have hsz4 := hb4.size
   have HO4 := Lib.hid ho4; clear ho4
   have HB4 := Lib.hid hb4; clear hb4
   clear hq q0 q1
   go_wp2_with (at_builtin; refine wpList_append_lies _ rfl (.tmp 14) (.tmp 21) 32 rfl w.heap.size 28 i0 _ 2 24 Tryz.underlying32 hi hz0 hz1 hz2 rfl (by decide) _ _ _ rfl (HO4.out.alloc _) _ 1 1 [.bool (ineg x), .string (imag x)] rfl rfl (World.news_of_block (heap_alloc_new _ _)) (by simp [Value.oneCell']) (by omega) (by unfold maxLen; omega) (by omega) (by simp; omega) _ rfl ?_; intro g' cap' w5 hown' hg' hat hlt'; have HG := Lib.hid hg'; clear hg'; have HO5 := Lib.hid hown'; clear hown'; have HAT := Lib.hid hat; clear hat)
   go_roundw
   case rel =>
    refine ⟨k + 1, by omega, by go_num, (HB4.out.alloc hsz4 _).grown HG.out (by simp; omega) (fun j hj => (HO4.out.lt j hj).1), ?_⟩
    rw [HST.out, civ_snoc]; exact HO5.out
   case measure => simp [intOf]; omega
  ·
   have hkd2 : k = d := by omega
   have tk : decide ((k : Int) ≤ g) = false := decide_eq_false (by omega)
   have tk2 : ¬ (k : Int) ≤ g := by omega
   rw [hkd2, HTK.out, HD.out] at hown
   have HBEL := Lib.hid hbel; clear hbel
   have HOWN := Lib.hid hown; clear hown
   clear hkd2 hg
   go_wp2_with fail
   go_ret
   exact ⟨HBEL.out, _, rfl, HOWN.out⟩
end Go.Proofs.YthpgeeaccmgbkaaGreat

