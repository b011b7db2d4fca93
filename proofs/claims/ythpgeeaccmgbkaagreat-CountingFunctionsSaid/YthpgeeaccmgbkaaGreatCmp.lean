/- The contracts of cmp.Compare[int], slices.Compare[[]int], graph.list, graph.by and its closure: they compare edges by from, label, to; nothing that was there is changed. -/
import Derived.Test.YthpgeeaccmgbkaaGreatProg
import Derived.Deep.QuietTactic
import Derived.BigQuiet
import Derived.Deep.RegionHeld3
import Derived.Sort.Grow
import Derived.Test.YthpgeeaccmgbkaaGreatPart9
namespace Go.Proofs.YthpgeeaccmgbkaaGreat
open Go.RowKit

/-- Cells of ints. -/
def ci (l : List Int) : List Value := l.map fun (x : Int) => Value.int .i64 x
theorem ci_get {l : List Int} {i : Nat} {x : Int} (h : l[i]? = some x) : (ci l)[i]? = some (.int .i64 x) := by simp [ci, h]
/-- As cmp.Compare tells it. -/
def cmpI (x y : Int) : Int := if x < y then -1 else if y < x then 1 else 0
/-- As slices.Compare tells it. -/
def cmpL : List Int → List Int → Int
 | [], [] => 0
 | [], _ :: _ => -1
 | _ :: _, [] => 1
 | x :: s, y :: t => if cmpI x y = 0 then cmpL s t else cmpI x y

theorem cmpI_any (x y : Int) (w : World) (hx : -9223372036854775808 ≤ x ∧ x ≤ 9223372036854775807) (hy : -9223372036854775808 ≤ y ∧ y ≤ 9223372036854775807) :
  Calls Tryz.prog 125 #[.int .i64 x, .int .i64 y] w fun e w' => e = .returned (.int .i64 (cmpI x y)) ∧ w = w' := by
 rcases Int.lt_trichotomy x y with h | h | h
 ·
  have hc : cmpI x y = -1 := by simp [cmpI, h]
  have HC := Lib.hid hc; clear hc
  go_enter Tryz.func125, Tryz.ntmps125
  go_wp2
  go_ret
  exact ⟨by rw [HC.out]; rfl, rfl⟩
 ·
  subst h
  have hc : cmpI x x = 0 := by simp [cmpI]
  have HC := Lib.hid hc; clear hc
  go_enter Tryz.func125, Tryz.ntmps125
  go_wp2
  go_ret
  exact ⟨by rw [HC.out]; rfl, rfl⟩
 ·
  have hc : cmpI x y = 1 := by unfold cmpI; rw [if_neg (by omega), if_pos h]
  have HC := Lib.hid hc; clear hc
  go_enter Tryz.func125, Tryz.ntmps125
  go_wp2
  go_ret
  exact ⟨by rw [HC.out]; rfl, rfl⟩

/-- All numbers are Go's ints. -/
def Ints (l : List Int) : Prop := ∀ x ∈ l, -9223372036854775808 ≤ x ∧ x ≤ 9223372036854775807
theorem drop_get {α : Type} {l : List α} {k : Nat} {x : α} (h : l[k]? = some x) : l.drop k = x :: l.drop (k + 1) := by
 obtain ⟨hlt, rfl⟩ := List.getElem?_eq_some_iff.1 h
 exact List.drop_eq_getElem_cons hlt

set_option maxRecDepth 100000 in
set_option maxHeartbeats 800000 in
theorem cmpL_any (s t : List Int) (vs vt : Value) (w : World) (hs : Row w vs s.length (ci s)) (ht : Row w vt t.length (ci t)) (is : Ints s) (it : Ints t) :
  Calls Tryz.prog 107 #[vs, vt] w fun e w' => e = .returned (.int .i64 (cmpL s t)) ∧ w = w' := by
 obtain ⟨as_, cs, rfl, hls⟩ := hs.slice
 obtain ⟨at_, ct, rfl, hlt⟩ := ht.slice
 have HS := Lib.hid hs; clear hs
 have HT := Lib.hid ht; clear ht
 have IS := Lib.hid is; clear is
 have IT := Lib.hid it; clear it
 obtain ⟨m, hm⟩ : ∃ m, m = s.length := ⟨_, rfl⟩
 obtain ⟨n, hn⟩ : ∃ n, n = t.length := ⟨_, rfl⟩
 rw [← hm] at HS hls ⊢
 rw [← hn] at HT hlt ⊢
 have HM := Lib.hid hm; clear hm
 have HN := Lib.hid hn; clear hn
 go_enter Tryz.func107, Tryz.ntmps107
 go_wp2_with fail
 go_loop [11] (fun i => ∃ k : Nat, k ≤ m ∧ k ≤ n ∧ i = .int .i64 k ∧ cmpL (s.drop k) (t.drop k) = cmpL s t) (fun i => m - (intOf i).toNat)
 case atStart => exact ⟨0, Nat.zero_le _, Nat.zero_le _, rfl, rfl⟩
 case round =>
  obtain ⟨k, hkm, hkn, rfl, he⟩ := hrel
  by_cases h1 : k < m
  ·
   have g1 : s[k]? = some (s[k]'(by rw [← HM.out]; exact h1)) := List.getElem?_eq_getElem _
   obtain ⟨x, hx⟩ : ∃ x, x = s[k]'(by rw [← HM.out]; exact h1) := ⟨_, rfl⟩
   rw [← hx] at g1
   have ix := IS.out x (by rw [hx]; exact List.getElem_mem _)
   clear hx
   obtain ⟨bs, os, rfl, _, hcs⟩ := HS.out.at_ (by omega)
   have c1 := hcs k _ (ci_get g1)
   clear hcs
   by_cases h2 : k < n
   ·
    have g2 : t[k]? = some (t[k]'(by rw [← HN.out]; exact h2)) := List.getElem?_eq_getElem _
    obtain ⟨y, hy⟩ : ∃ y, y = t[k]'(by rw [← HN.out]; exact h2) := ⟨_, rfl⟩
    rw [← hy] at g2
    have iy := IT.out y (by rw [hy]; exact List.getElem_mem _)
    clear hy
    obtain ⟨bt, ot, rfl, _, hct⟩ := HT.out.at_ (by omega)
    have c2 := hct k _ (ci_get g2)
    clear hct
    rw [drop_get g1, drop_get g2, cmpL] at he
    have G1 := Lib.hid g1; clear g1
    have G2 := Lib.hid g2; clear g2
    have IX := Lib.hid ix; clear ix
    have IY := Lib.hid iy; clear iy
    by_cases h3 : cmpI x y = 0
    ·
     rw [if_pos h3] at he
     have h4 : (cmpI x y != 0) = false := by simp [h3]
     have HE := Lib.hid he; clear he h3
     go_wp2_with (go_at_call 125; refine (cmpI_any x y _ IX.out IY.out).mono ?_; rintro e w' ⟨rfl, rfl⟩)
     go_round
     case rel => exact ⟨k + 1, by omega, by omega, by go_num, HE.out⟩
     case measure => simp [intOf]; omega
    ·
     rw [if_neg h3] at he
     have h4 : (cmpI x y != 0) = true := by simp [h3]
     have HE := Lib.hid he; clear he h3
     go_wp2_with (go_at_call 125; refine (cmpI_any x y _ IX.out IY.out).mono ?_; rintro e w' ⟨rfl, rfl⟩)
     go_ret
     exact ⟨by rw [← HE.out]; rfl, rfl⟩
   ·
    have e2 : t.drop k = [] := List.drop_of_length_le (by rw [← HN.out]; omega)
    rw [drop_get g1, e2, cmpL] at he
    have HE := Lib.hid he; clear he g1 e2
    go_wp2_with fail
    go_ret
    exact ⟨by rw [← HE.out]; rfl, rfl⟩
  ·
   have e1 : s.drop k = [] := List.drop_of_length_le (by rw [← HM.out]; omega)
   obtain rfl : k = m := by omega
   by_cases h2 : k < n
   ·
    obtain ⟨y, l, e2⟩ : ∃ y l, t.drop k = y :: l := ⟨_, _, List.drop_eq_getElem_cons (by rw [← HN.out]; exact h2)⟩
    rw [e1, e2, cmpL] at he
    have HE := Lib.hid he; clear he e1 e2
    go_wp2_with fail
    go_ret
    exact ⟨by rw [← HE.out]; rfl, rfl⟩
   ·
    have e2 : t.drop k = [] := List.drop_of_length_le (by rw [← HN.out]; omega)
    rw [e1, e2, cmpL] at he
    have HE := Lib.hid he; clear he e1 e2
    go_wp2_with fail
    go_ret
    exact ⟨by rw [← HE.out]; rfl, rfl⟩

/-- An edge: from, label, to. -/
structure E3 where
 f : Int
 l : Int
 t : Int
deriving DecidableEq
instance : Inhabited E3 := ⟨⟨0, 0, 0⟩⟩
def E3.ok (e : E3) : Prop := Ints [e.f, e.l, e.t]
def E3.cells (e : E3) : List Value := [.int .i64 e.f, .int .i64 e.l, .int .i64 e.t]
abbrev E3.val (e : E3) : Value := .agg #[.int .i64 e.f, .int .i64 e.l, .int .i64 e.t]
/-- As the closure of graph.by compares edges. -/
def cmpE (a b : E3) : Int := cmpL [a.f, a.l, a.t] [b.f, b.l, b.t]

/-- graph.list. -/
theorem list_any (e : E3) (w : World) :
  Calls Tryz.prog 69 #[e.val] w fun r w' => r = .returned (.slice (some ⟨w.heap.size + 1, 0, none⟩) 3 3) ∧
   w' = (w.alloc (.cells #[.int .i64 e.f, .int .i64 e.l, .int .i64 e.t] 53)).alloc (.cells #[.int .i64 e.f, .int .i64 e.l, .int .i64 e.t] 3) := by
 go_enter Tryz.func69, Tryz.ntmps69
 go_wp2
 go_ret
 exact ⟨rfl, rfl⟩

/-- graph.list as a value. -/
abbrev listF : Value := .func (.func 69) #[] #[]
theorem by_any (w : World) :
  Calls Tryz.prog 68 #[listF] w fun r w' => r = .returned (.func (.func 106) #[] #[.pointer (some ⟨w.heap.size, 0, none⟩)]) ∧
   w' = w.alloc (.cells #[listF] 94) := by
 go_enter Tryz.func68, Tryz.ntmps68
 go_wp2
 go_ret
 exact ⟨rfl, rfl⟩

/-- The world has grown by draws and new blocks alone. -/
def Grew (w w' : World) : Prop := ∃ q os, w' = Go.Sort.grow (w.drewN q) os
theorem Grew.refl (w : World) : Grew w w := ⟨0, #[], by rw [Go.Sort.grow_empty]; rfl⟩
theorem Grew.alloc {w w' : World} (h : Grew w w') (o : Obj) : Grew w (w'.alloc o) := by
 obtain ⟨q, os, rfl⟩ := h
 exact ⟨q, os ++ #[o], by rw [Go.Sort.alloc_eq_grow, Go.Sort.grow_grow]⟩
theorem Grew.drew {w w' : World} (h : Grew w w') : Grew w w'.drew := by
 obtain ⟨q, os, rfl⟩ := h
 exact ⟨q + 1, os, rfl⟩
theorem Grew.below {w w' : World} (h : Grew w w') : Below w.heap.size w w' := by
 obtain ⟨q, os, rfl⟩ := h
 exact ⟨rfl, rfl, rfl, by simp [Go.Sort.grow, World.drewN], fun k hk => (Array.getElem?_append_left (xs := (w.drewN q).heap) hk).trans rfl⟩
theorem Grew.trans {a b c : World} (h : Grew a b) (k : Grew b c) : Grew a c := by
 obtain ⟨q, os, rfl⟩ := h
 obtain ⟨q', os', rfl⟩ := k
 refine ⟨q + q', os ++ os', ?_⟩
 show Go.Sort.grow (Go.Sort.grow ((a.drewN q).drewN q') os) os' = _
 rw [Go.Sort.grow_grow]
 show Go.Sort.grow _ _ = Go.Sort.grow _ _
 congr 1
 simp [World.drewN, Nat.add_assoc]
/-- What graph.list returns. -/
def ListPost (w : World) (x : E3) (e : Ending) (w' : World) : Prop := Grew w w' ∧ ∃ v, e = .returned v ∧ Row w' v [x.f, x.l, x.t].length (ci [x.f, x.l, x.t])
theorem list_row (e : E3) (w : World) : Calls Tryz.prog 69 #[e.val] w (ListPost w e) :=
 (list_any e w).mono fun r w' ⟨hr, hw⟩ => by
  subst hr hw
  refine ⟨((Grew.refl w).alloc _).alloc _, _, rfl, ?_⟩
  have hb := Blk.new (w.alloc (.cells #[.int .i64 e.f, .int .i64 e.l, .int .i64 e.t] 53)) 3 [.int .i64 e.f, .int .i64 e.l, .int .i64 e.t]
  rw [World.size_alloc] at hb
  exact Row.ofBlk hb (m := 3) (cap := 3) (Nat.le_refl _) (by decide) 3
def GrewRet (w : World) (v : Value) (e : Ending) (w' : World) : Prop := Grew w w' ∧ e = .returned v

set_option maxRecDepth 100000 in
set_option maxHeartbeats 1600000 in
/-- The closure of graph.by. -/
theorem byc_any (a b : E3) (c : Nat) (w : World) (hc : w.cell? ⟨c, 0, none⟩ = some listF) (ha : a.ok) (hb : b.ok) (hcl : c < w.heap.size) :
  Calls Tryz.prog 106 #[a.val, b.val, .pointer (some ⟨c, 0, none⟩)] w (GrewRet w (.int .i64 (cmpE a b))) := by
 have hA := (Blk.new w 53 a.cells).alloc (.cells #[.int .i64 b.f, .int .i64 b.l, .int .i64 b.t] 53)
 have hB := Blk.new (w.alloc (.cells #[.int .i64 a.f, .int .i64 a.l, .int .i64 a.t] 53)) 53 b.cells
 rw [World.size_alloc] at hB
 have HA := Lib.hid hA; clear hA
 have HB := Lib.hid hB; clear hB
 have hg := ((Grew.refl w).alloc (.cells #[.int .i64 a.f, .int .i64 a.l, .int .i64 a.t] 53)).alloc (.cells #[.int .i64 b.f, .int .i64 b.l, .int .i64 b.t] 53)
 have HG := Lib.hid hg; clear hg
 have hcc : (((w.alloc (.cells #[.int .i64 a.f, .int .i64 a.l, .int .i64 a.t] 53)).alloc (.cells #[.int .i64 b.f, .int .i64 b.l, .int .i64 b.t] 53)).drew).cell? ⟨c, 0, none⟩ = some listF := (HG.out.below.cell (p := ⟨c, 0, none⟩) hcl).trans hc
 have HCC := Lib.hid hcc; clear hcc
 have ia := Lib.hid ha; clear ha
 have ib := Lib.hid hb; clear hb
 go_enter Tryz.func106, Tryz.ntmps106
 go_wp2_with fail
 go_region_held3 (fun w' => w'.cell? ⟨c, 0, none⟩ = some listF ∧ w'.cell? ⟨w.heap.size, 0, none⟩ = some (.int .i64 a.f) ∧ w'.cell? ⟨w.heap.size, 1, none⟩ = some (.int .i64 a.l) ∧ w'.cell? ⟨w.heap.size, 2, none⟩ = some (.int .i64 a.t) ∧ w'.cell? ⟨w.heap.size + 1, 0, none⟩ = some (.int .i64 b.f) ∧ w'.cell? ⟨w.heap.size + 1, 1, none⟩ = some (.int .i64 b.l) ∧ w'.cell? ⟨w.heap.size + 1, 2, none⟩ = some (.int .i64 b.t)) (go_keep) (first | (go_at_call_of 69 (Value.agg #[.int .i64 a.f, .int .i64 a.l, .int .i64 a.t]); refine (list_row a _).mono ?_; rintro e w1 ⟨hq1, v1, rfl, hv1⟩; have hc1 := (hq1.below.cell (p := ⟨c, 0, none⟩) (by simp <;> omega)).trans (HCC.out); have hA1 := HA.out.drew.below hq1.below (by simp <;> omega); have cA10 := hA1.cell (j := 0) rfl; have cA11 := hA1.cell (j := 1) rfl; have cA12 := hA1.cell (j := 2) rfl; have HA1 := Lib.hid hA1; clear hA1; have hB1 := HB.out.drew.below hq1.below (by simp <;> omega); have cB10 := hB1.cell (j := 0) rfl; have cB11 := hB1.cell (j := 1) rfl; have cB12 := hB1.cell (j := 2) rfl; have HB1 := Lib.hid hB1; clear hB1; have hcs : c < w1.heap.size := (by have := hq1.below.size; simp at this; omega); have HCS := Lib.hid hcs; clear hcs; have HV1 := Lib.hid hv1; clear hv1; have HQ1 := Lib.hid hq1; clear hq1) | (go_at_call_of 69 (Value.agg #[.int .i64 b.f, .int .i64 b.l, .int .i64 b.t]); refine (list_row b _).mono ?_; rintro e w2 ⟨hq2, v2, rfl, hv2⟩; have hc2 := (hq2.below.cell (p := ⟨c, 0, none⟩) HCS.out).trans hc1; have hA2 := HA1.out.below hq2.below HA1.out.lt; have cA20 := hA2.cell (j := 0) rfl; have cA21 := hA2.cell (j := 1) rfl; have cA22 := hA2.cell (j := 2) rfl; have HA2 := Lib.hid hA2; clear hA2; have hB2 := HB1.out.below hq2.below HB1.out.lt; have cB20 := hB2.cell (j := 0) rfl; have cB21 := hB2.cell (j := 1) rfl; have cB22 := hB2.cell (j := 2) rfl; have HB2 := Lib.hid hB2; clear hB2; have hv3 := HV1.out.below hq2.below (Nat.le_refl _); have HV2 := Lib.hid hv2; clear hv2; have HV3 := Lib.hid hv3; clear hv3; have HQ2 := Lib.hid hq2; clear hq2) | (go_at_call 107; refine (cmpL_any _ _ _ _ _ HV3.out HV2.out ia.out ib.out).mono ?_; rintro e w3 ⟨rfl, rfl⟩))
 go_wp2
 go_ret
 exact ⟨(HG.out.drew.trans HQ1.out).trans HQ2.out, rfl⟩
end Go.Proofs.YthpgeeaccmgbkaaGreat
