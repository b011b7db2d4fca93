/- The reference's Compare, Add, zero, Degree, Canonical at numbers that are not canonical; grooveref03.Great (printed by gen_rawc.py out of the texts for canonical ones). -/
import Derived.Deep.CutRange
import Derived.Test.YtjpalbonclgflaaGreatPart3
import Derived.Test.YtjpalbonclgflaaGreatPart14
namespace Go.Proofs.YtjpalbonclgflaaGreat
open Go.RowKit

def cnv (l : List (Bool × ByteArray)) : List Value := l.flatMap fun x => [.bool x.1, .string x.2]
theorem cnv_get {l : List (Bool × ByteArray)} {k : Nat} {x : Bool × ByteArray} (h : l[k]? = some x) : (cnv l)[k * 2]? = some (.bool x.1) ∧ (cnv l)[k * 2 + 1]? = some (.string x.2) := by
 induction l generalizing k with
 | nil => cases h
 | cons y l ih =>
  have e : cnv (y :: l) = [.bool y.1, .string y.2] ++ cnv l := rfl
  cases k with
  | zero =>
   obtain rfl : y = x := by simpa using h
   rw [e]
   exact ⟨rfl, rfl⟩
  | succ k =>
   have h2 := ih (k := k) (by simpa using h)
   rw [e, show (k + 1) * 2 = k * 2 + 1 + 1 by omega]
   simpa using h2
theorem num_cells {w w' : World} {B b off : Nat} {l : List (Bool × ByteArray)} {k : Nat} {x : Bool × ByteArray} (hce : ∀ (j : Nat) (u : Value), (cnv l)[j]? = some u → w.cell? ⟨b, off + j, none⟩ = some u) (hb : Below B w w') (hlt : b < B) (h : l[k]? = some x) :
  w'.cell? ⟨b, off + k * 2, none⟩ = some (.bool x.1) ∧ w'.cell? ⟨b, off + k * 2 + 1, none⟩ = some (.string x.2) :=
 ⟨(hb.cell (p := ⟨b, off + k * 2, none⟩) hlt).trans (hce (k * 2) _ (cnv_get h).1), (hb.cell (p := ⟨b, off + k * 2 + 1, none⟩) hlt).trans (hce (k * 2 + 1) _ (cnv_get h).2)⟩
def GLP (l : List (Bool × ByteArray)) : Prop := (∀ x ∈ l, x.2.size ≤ 3) ∧ (l.length ≤ 8 ∨ (65 < l.length ∧ l.length ≤ 68))
def GLRet (l : List (Bool × ByteArray)) (w : World) (e : Ending) (w' : World) : Prop := Below w.heap.size w w' ∧ ∃ b, e = .returned (.bool b) ∧ (b = false → GLP l)
set_option maxRecDepth 100000 in
set_option maxHeartbeats 3200000 in
theorem great3_any (l : List (Bool × ByteArray)) (v : Value) (w : World) (hr : Row w v l.length (cnv l)) :
  Calls Tryz.prog 11 #[v] w (GLRet l w) := by
 obtain ⟨va, vc, rfl, hle⟩ := hr.slice
 obtain ⟨m, hm⟩ : ∃ m, m = l.length := ⟨_, rfl⟩
 have hget : ∀ j, j < m → ∃ x, l[j]? = some x := fun j hj => ⟨l[j]'(by omega), List.getElem?_eq_getElem _⟩
 have hfin : (∀ x ∈ l.take m, x.2.size ≤ 3) → (m ≤ 8 ∨ (65 < m ∧ m ≤ 68)) → GLP l := fun h1 h2 => by
  rw [hm, List.take_length] at h1
  rw [hm] at h2
  exact ⟨h1, h2⟩
 have hstep : ∀ j x, l[j]? = some x → (∀ y ∈ l.take j, y.2.size ≤ 3) → x.2.size ≤ 3 → ∀ y ∈ l.take (j + 1), y.2.size ≤ 3 := fun j x h1 h2 h3 y hy => by
  rw [List.take_add_one, h1] at hy
  rcases List.mem_append.1 hy with h | h
  ·
   exact h2 y h
  ·
   obtain rfl : y = x := by simpa using h
   exact h3
 rw [← hm] at hr hle ⊢
 have HR := zh hr; clear hr
 have HGET := zh hget; clear hget
 have HFIN := zh hfin; clear hfin
 have HSTEP := zh hstep; clear hstep
 clear hm
 go_enter Tryz.func11, Tryz.ntmps11
 go_wp2_with fail
 go_loopw [3] (fun i wr => ∃ j : Nat, j ≤ m ∧ i = .int .i64 j ∧ Below w.heap.size w wr ∧ ∀ y ∈ l.take j, y.2.size ≤ 3) (fun i _ => m - (intOf i).toNat)
 case atStart => exact ⟨0, Nat.zero_le _, rfl, Below.refl _ _, fun y hy => by simp at hy⟩
 case round =>
  obtain ⟨j, hj, rfl, hbel, hal⟩ := hrel
  by_cases hlt : j < m
  ·
   obtain ⟨x, hx⟩ := HGET.out j hlt
   obtain ⟨b, off, rfl, hbw, hce⟩ := HR.out.at_ (by omega)
   obtain ⟨c0, c1⟩ := num_cells hce hbel hbw hx
   have hnx := HSTEP.out j x hx hal
   obtain ⟨ng, s⟩ := x
   dsimp only at c0 c1 hnx
   have hix : (0 : Int) ≤ (j : Int) := by omega
   have hix2 : (j : Int) < (m : Int) := by omega
   have HNX := zh hnx; clear hnx
   have HBEL := zh hbel; clear hbel
   have HAL := zh hal; clear hal
   clear hce hx
   by_cases hs : 3 < s.size
   ·
    have t1 : decide (3 < (s.size : Int)) = true := by simp; omega
    go_wp2_with fail
    go_ret
    exact ⟨HBEL.out, _, rfl, fun h => by cases h⟩
   ·
    have t1 : decide (3 < (s.size : Int)) = false := by simp; omega
    have hnx := HNX.out (by omega)
    have HN2 := zh hnx; clear hnx
    go_wp2_with fail
    go_roundw
    case rel => exact ⟨j + 1, by omega, by go_num, HBEL.out, HN2.out⟩
    case measure => simp [intOf]; omega
  ·
   obtain rfl : j = m := by omega
   have hf := HFIN.out hal
   have HF := zh hf; clear hf
   have HBEL := zh hbel; clear hbel
   clear hal
   by_cases h8 : 8 < j
   ·
    by_cases h65 : j ≤ 65
    ·
     have t1 : decide (8 < (j : Int)) = true := by simp; omega
     have t2 : decide ((j : Int) ≤ 65) = true := by simp; omega
     go_wp2_with fail
     go_ret
     exact ⟨HBEL.out, _, rfl, fun h => by cases h⟩
    ·
     have t1 : decide (8 < (j : Int)) = true := by simp; omega
     have t2 : decide ((j : Int) ≤ 65) = false := by simp; omega
     by_cases h68 : 68 < j
     ·
      have t3 : decide (68 < (j : Int)) = true := by simp; omega
      go_wp2_with fail
      go_ret
      exact ⟨HBEL.out, _, rfl, fun h => by cases h⟩
     ·
      have t3 : decide (68 < (j : Int)) = false := by simp; omega
      go_wp2_with fail
      go_ret
      exact ⟨HBEL.out, _, rfl, fun _ => HF.out (.inr ⟨by omega, by omega⟩)⟩
   ·
    have t1 : decide (8 < (j : Int)) = false := by simp; omega
    have t3 : decide (68 < (j : Int)) = false := by simp; omega
    go_wp2_with fail
    go_ret
    exact ⟨HBEL.out, _, rfl, fun _ => HF.out (.inl (by omega))⟩
set_option maxRecDepth 100000 in
set_option maxHeartbeats 3200000 in
theorem rcompareR (na nb : Bool) (sa sb : ByteArray) (w : World) (hx0 : sa.size ≤ 1099511627775) (hy0 : sb.size ≤ 1099511627775) :
  Calls Tryz.prog 78 #[.agg #[.bool na, .string sa], .agg #[.bool nb, .string sb]] w (Ret w (.int .i64 (cmpZ (ival na sa) (ival nb sb)))) := by
 have hCA := fun w' => rcanon_any na sa w' (by omega)
 have hCB := fun w' => rcanon_any nb sb w' (by omega)
 have hx := Nat.le_trans (imag_size_ival na sa) hx0
 have hy := Nat.le_trans (imag_size_ival nb sb) hy0
 obtain ⟨x, hx9⟩ : ∃ x, x = ival na sa := ⟨_, rfl⟩
 obtain ⟨y, hy9⟩ : ∃ y, y = ival nb sb := ⟨_, rfl⟩
 rw [← hx9] at hCA hx ⊢
 rw [← hy9] at hCB hy ⊢
 replace hCA : ∀ w', Calls Tryz.prog 117 #[.agg #[.bool na, .string sa]] w' (Ret w' (.agg #[.bool (ineg x), .string (imag x)])) := hCA
 replace hCB : ∀ w', Calls Tryz.prog 117 #[.agg #[.bool nb, .string sb]] w' (Ret w' (.agg #[.bool (ineg y), .string (imag y)])) := hCB
 clear hx9 hy9 hx0 hy0
 have hxy : (ineg x = true ∧ ineg y = false ∧ cmpZ x y = -1) ∨ (ineg x = false ∧ ineg y = true ∧ cmpZ x y = 1) ∨ (ineg x = true ∧ ineg y = true ∧ cmpZ x y = cmpN y.natAbs x.natAbs) ∨ (ineg x = false ∧ ineg y = false ∧ cmpZ x y = cmpN x.natAbs y.natAbs) := by
  by_cases h1 : x < 0
  ·
   by_cases h2 : y < 0
   ·
    exact .inr (.inr (.inl ⟨by simp [ineg, h1], by simp [ineg, h2], cmpZ_neg2 h1 h2⟩))
   ·
    exact .inl ⟨by simp [ineg, h1], by simp [ineg]; omega, by unfold cmpZ; rw [if_pos (by omega)]⟩
  ·
   by_cases h2 : y < 0
   ·
    exact .inr (.inl ⟨by simp [ineg]; omega, by simp [ineg, h2], by unfold cmpZ; rw [if_neg (by omega), if_neg (by omega)]⟩)
   ·
    exact .inr (.inr (.inr ⟨by simp [ineg]; omega, by simp [ineg]; omega, cmpZ_pos2 (by omega) (by omega)⟩))
 have hc1 := fun w' => rcmp_any x.natAbs y.natAbs (imag x) (imag y) w' (by omega) (by omega) (imag_list x) (imag_list y)
 have hc2 := fun w' => rcmp_any y.natAbs x.natAbs (imag y) (imag x) w' (by omega) (by omega) (imag_list y) (imag_list x)
 obtain ⟨c1, hc1e⟩ : ∃ c1, c1 = cmpN x.natAbs y.natAbs := ⟨_, rfl⟩
 obtain ⟨c2, hc2e⟩ : ∃ c2, c2 = cmpN y.natAbs x.natAbs := ⟨_, rfl⟩
 rw [← hc1e, ← hc2e] at hxy
 simp only [← hc1e] at hc1
 simp only [← hc2e] at hc2
 obtain ⟨Z, hZ⟩ : ∃ Z, Z = cmpZ x y := ⟨_, rfl⟩
 rw [← hZ] at hxy ⊢
 obtain ⟨a, ha⟩ : ∃ a, a = ineg x := ⟨_, rfl⟩
 obtain ⟨b, hb⟩ : ∃ b, b = ineg y := ⟨_, rfl⟩
 obtain ⟨s, hs⟩ : ∃ s, s = imag x := ⟨_, rfl⟩
 obtain ⟨t, ht⟩ : ∃ t, t = imag y := ⟨_, rfl⟩
 rw [← ha, ← hb] at hxy
 simp only [← ha, ← hs] at hCA
 simp only [← hb, ← ht] at hCB
 simp only [← hs, ← ht] at hc1 hc2
 clear ha hb hs ht hc1e hc2e hZ hx hy
 have HCA := zh hCA; clear hCA
 have HCB := zh hCB; clear hCB
 have HC1 := zh hc1; clear hc1
 have HC2 := zh hc2; clear hc2
 have HXY := zh hxy; clear hxy
 obtain ⟨w4, hw4⟩ : ∃ w4, w4 = (w.alloc (.cells #[.bool na, .string sa] 25)).alloc (.cells #[.bool nb, .string sb] 25) := ⟨_, rfl⟩
 have k_a : Blk w4 (w.heap.size) 25 [.bool na, .string sa] := by
  rw [hw4]
  have h := ((Blk.new (w) 25 [.bool na, .string sa]).alloc (.cells #[.bool nb, .string sb] 25))
  (try simp only [World.size_alloc, Nat.add_assoc, Nat.reduceAdd] at h)
  exact h
 have k_b : Blk w4 (w.heap.size + 1) 25 [.bool nb, .string sb] := by
  rw [hw4]
  have h := (Blk.new (w.alloc (.cells #[.bool na, .string sa] 25)) 25 [.bool nb, .string sb])
  (try simp only [World.size_alloc, Nat.add_assoc, Nat.reduceAdd] at h)
  exact h
 have tl : Below w.heap.size w w4 := by
  rw [hw4]
  exact (((Below.refl w.heap.size w).alloc (by simp <;> omega) (.cells #[.bool na, .string sa] 25)).alloc (by simp <;> omega) (.cells #[.bool nb, .string sb] 25))
 have hs4 : w4.heap.size = w.heap.size + 2 := by rw [hw4]; simp only [World.size_alloc]
 obtain ⟨a_0, a_f0, a_1, a_f1⟩ := k_a.f2
 have HA := zh k_a; clear k_a
 obtain ⟨b_0, b_f0, b_1, b_f1⟩ := k_b.f2
 have HB := zh k_b; clear k_b
 have HBL := zh tl; clear tl
 go_enter Tryz.func78, Tryz.ntmps78
 go_upto_region 1 with fail
 (try rw [← hw4])
 clear hw4
 (try simp only [Nat.add_assoc, Nat.reduceAdd])
 go_cut [] from 5 to 8 (fun wx => Blk wx w.heap.size 25 [.bool a, .string s] ∧ Blk wx (w.heap.size + 1) 25 [.bool b, .string t] ∧ Below w.heap.size w wx)
 case first =>
  have HA := zh HA.out.drew
  have HB := zh HB.out.drew
  have HBL := zh HBL.out.drew
  refine wp_region_held_drew (S := fun _ => True) (by kernel_rfl) trivial (fun _ => ?_)
  refine wpAnyH_ready (rs := [0, 2]) (by kernel_rfl) (by simp) ?_
  refine (AllReadyH.cons rfl (fun K hK => ?_) (AllReadyH.cons rfl (fun K hK => ?_) AllReadyH.nil))
  ·
   go_simp
   refine hK.out _ _ trivial (fun _ => ?_)
   clear hK K
   (try simp only [Act.put, zA, zB, zC])
   refine wpAnyH_ready (rs := [1, 2]) (by kernel_rfl) (by simp) ?_
   refine (AllReadyH.cons rfl (fun K hK => ?_) (AllReadyH.cons rfl (fun K hK => ?_) AllReadyH.nil))
   ·
    go_simp
    go_at_call 117
    refine (HCA.out _).mono ?_
    rintro e wn50 ⟨hq, rfl⟩
    dsimp only
    refine hK.out _ _ trivial (fun _ => ?_)
    clear hK K
    (try simp only [Act.put, zA, zB, zC])
    have k_a := HA.out.keep hq
    have k_b := HB.out.keep hq
    have tl := HBL.out.trans ((hq).mono HBL.out.size)
    clear HBL HA HB
    clear a_0 a_f0 a_1 a_f1
    obtain ⟨a_0, a_f0, a_1, a_f1⟩ := k_a.f2
    have HA := zh k_a; clear k_a
    clear b_0 b_f0 b_1 b_f1
    obtain ⟨b_0, b_f0, b_1, b_f1⟩ := k_b.f2
    have HB := zh k_b; clear k_b
    have HBL := zh tl; clear tl
    clear hq
    refine wpAnyH_ready (rs := [2]) (by kernel_rfl) (by simp) ?_
    refine (AllReadyH.cons rfl (fun K hK => ?_) AllReadyH.nil)
    ·
     go_simp
     refine hK.out _ _ trivial (fun _ => ?_)
     clear hK K
     (try simp only [Act.put, zA, zB, zC])
     refine wpAnyH_ready (rs := [3]) (by kernel_rfl) (by simp) ?_
     refine (AllReadyH.cons rfl (fun K hK => ?_) AllReadyH.nil)
     ·
      go_simp
      go_at_call 117
      refine (HCB.out _).mono ?_
      rintro e wn51 ⟨hq, rfl⟩
      dsimp only
      refine hK.out _ _ trivial (fun _ => ?_)
      clear hK K
      (try simp only [Act.put, zA, zB, zC])
      have k_a := HA.out.keep hq
      have k_b := HB.out.keep hq
      have tl := HBL.out.trans ((hq).mono HBL.out.size)
      clear HBL HA HB
      clear a_0 a_f0 a_1 a_f1
      obtain ⟨a_0, a_f0, a_1, a_f1⟩ := k_a.f2
      have HA := zh k_a; clear k_a
      clear b_0 b_f0 b_1 b_f1
      obtain ⟨b_0, b_f0, b_1, b_f1⟩ := k_b.f2
      have HB := zh k_b; clear k_b
      have HBL := zh tl; clear tl
      clear hq
      refine wpAnyH_ready (rs := [4]) (by kernel_rfl) (by simp) ?_
      refine (AllReadyH.cons rfl (fun K hK => ?_) AllReadyH.nil)
      ·
       go_simp
       refine hK.out _ _ trivial (fun _ => ?_)
       clear hK K
       (try simp only [Act.put, zA, zB, zC])
       refine wpAnyH_ready (rs := [5]) (by kernel_rfl) (by simp) ?_
       refine (AllReadyH.cons rfl (fun K hK => ?_) AllReadyH.nil)
       ·
        go_simp
        refine hK.out _ _ trivial (fun _ => ?_)
        clear hK K
        (try simp only [Act.put, zA, zB, zC])
        refine wpAnyH_done (by kernel_rfl) ?_ _
        (try simp only [List.getElem_toArray, List.getElem_cons_zero, List.getElem_cons_succ, Act.put, zA, zB, zC])
        go_wp2_with fail
        go_meet
        exact ⟨((((HA.out.set 0 (.bool a)).set 1 (.string s)).setOther (a := ⟨w.heap.size + 1, 0, none⟩) (by show w.heap.size + 1 ≠ w.heap.size; omega) (.bool b)).setOther (a := ⟨w.heap.size + 1, 1, none⟩) (by show w.heap.size + 1 ≠ w.heap.size; omega) (.string t)), ((((HB.out.setOther (a := ⟨w.heap.size, 0, none⟩) (by show w.heap.size ≠ w.heap.size + 1; omega) (.bool a)).setOther (a := ⟨w.heap.size, 1, none⟩) (by show w.heap.size ≠ w.heap.size + 1; omega) (.string s)).set 0 (.bool b)).set 1 (.string t)), ((((HBL.out.setCell (p := ⟨w.heap.size, 0, none⟩) (by show w.heap.size ≤ w.heap.size; omega) (.bool a)).setCell (p := ⟨w.heap.size, 1, none⟩) (by show w.heap.size ≤ w.heap.size; omega) (.string s)).setCell (p := ⟨w.heap.size + 1, 0, none⟩) (by show w.heap.size ≤ w.heap.size + 1; omega) (.bool b)).setCell (p := ⟨w.heap.size + 1, 1, none⟩) (by show w.heap.size ≤ w.heap.size + 1; omega) (.string t))⟩
   ·
    go_simp
    refine hK.out _ _ trivial (fun _ => ?_)
    clear hK K
    (try simp only [Act.put, zA, zB, zC])
    refine wpAnyH_ready (rs := [1]) (by kernel_rfl) (by simp) ?_
    refine (AllReadyH.cons rfl (fun K hK => ?_) AllReadyH.nil)
    ·
     go_simp
     go_at_call 117
     refine (HCA.out _).mono ?_
     rintro e wn50 ⟨hq, rfl⟩
     dsimp only
     refine hK.out _ _ trivial (fun _ => ?_)
     clear hK K
     (try simp only [Act.put, zA, zB, zC])
     have k_a := HA.out.keep hq
     have k_b := HB.out.keep hq
     have tl := HBL.out.trans ((hq).mono HBL.out.size)
     clear HBL HA HB
     clear a_0 a_f0 a_1 a_f1
     obtain ⟨a_0, a_f0, a_1, a_f1⟩ := k_a.f2
     have HA := zh k_a; clear k_a
     clear b_0 b_f0 b_1 b_f1
     obtain ⟨b_0, b_f0, b_1, b_f1⟩ := k_b.f2
     have HB := zh k_b; clear k_b
     have HBL := zh tl; clear tl
     clear hq
     refine wpAnyH_ready (rs := [3]) (by kernel_rfl) (by simp) ?_
     refine (AllReadyH.cons rfl (fun K hK => ?_) AllReadyH.nil)
     ·
      go_simp
      go_at_call 117
      refine (HCB.out _).mono ?_
      rintro e wn51 ⟨hq, rfl⟩
      dsimp only
      refine hK.out _ _ trivial (fun _ => ?_)
      clear hK K
      (try simp only [Act.put, zA, zB, zC])
      have k_a := HA.out.keep hq
      have k_b := HB.out.keep hq
      have tl := HBL.out.trans ((hq).mono HBL.out.size)
      clear HBL HA HB
      clear a_0 a_f0 a_1 a_f1
      obtain ⟨a_0, a_f0, a_1, a_f1⟩ := k_a.f2
      have HA := zh k_a; clear k_a
      clear b_0 b_f0 b_1 b_f1
      obtain ⟨b_0, b_f0, b_1, b_f1⟩ := k_b.f2
      have HB := zh k_b; clear k_b
      have HBL := zh tl; clear tl
      clear hq
      refine wpAnyH_ready (rs := [4]) (by kernel_rfl) (by simp) ?_
      refine (AllReadyH.cons rfl (fun K hK => ?_) AllReadyH.nil)
      ·
       go_simp
       refine hK.out _ _ trivial (fun _ => ?_)
       clear hK K
       (try simp only [Act.put, zA, zB, zC])
       refine wpAnyH_ready (rs := [5]) (by kernel_rfl) (by simp) ?_
       refine (AllReadyH.cons rfl (fun K hK => ?_) AllReadyH.nil)
       ·
        go_simp
        refine hK.out _ _ trivial (fun _ => ?_)
        clear hK K
        (try simp only [Act.put, zA, zB, zC])
        refine wpAnyH_done (by kernel_rfl) ?_ _
        (try simp only [List.getElem_toArray, List.getElem_cons_zero, List.getElem_cons_succ, Act.put, zA, zB, zC])
        go_wp2_with fail
        go_meet
        exact ⟨((((HA.out.set 0 (.bool a)).set 1 (.string s)).setOther (a := ⟨w.heap.size + 1, 0, none⟩) (by show w.heap.size + 1 ≠ w.heap.size; omega) (.bool b)).setOther (a := ⟨w.heap.size + 1, 1, none⟩) (by show w.heap.size + 1 ≠ w.heap.size; omega) (.string t)), ((((HB.out.setOther (a := ⟨w.heap.size, 0, none⟩) (by show w.heap.size ≠ w.heap.size + 1; omega) (.bool a)).setOther (a := ⟨w.heap.size, 1, none⟩) (by show w.heap.size ≠ w.heap.size + 1; omega) (.string s)).set 0 (.bool b)).set 1 (.string t)), ((((HBL.out.setCell (p := ⟨w.heap.size, 0, none⟩) (by show w.heap.size ≤ w.heap.size; omega) (.bool a)).setCell (p := ⟨w.heap.size, 1, none⟩) (by show w.heap.size ≤ w.heap.size; omega) (.string s)).setCell (p := ⟨w.heap.size + 1, 0, none⟩) (by show w.heap.size ≤ w.heap.size + 1; omega) (.bool b)).setCell (p := ⟨w.heap.size + 1, 1, none⟩) (by show w.heap.size ≤ w.heap.size + 1; omega) (.string t))⟩
  ·
   go_simp
   refine hK.out _ _ trivial (fun _ => ?_)
   clear hK K
   (try simp only [Act.put, zA, zB, zC])
   refine wpAnyH_ready (rs := [0]) (by kernel_rfl) (by simp) ?_
   refine (AllReadyH.cons rfl (fun K hK => ?_) AllReadyH.nil)
   ·
    go_simp
    refine hK.out _ _ trivial (fun _ => ?_)
    clear hK K
    (try simp only [Act.put, zA, zB, zC])
    refine wpAnyH_ready (rs := [1]) (by kernel_rfl) (by simp) ?_
    refine (AllReadyH.cons rfl (fun K hK => ?_) AllReadyH.nil)
    ·
     go_simp
     go_at_call 117
     refine (HCA.out _).mono ?_
     rintro e wn50 ⟨hq, rfl⟩
     dsimp only
     refine hK.out _ _ trivial (fun _ => ?_)
     clear hK K
     (try simp only [Act.put, zA, zB, zC])
     have k_a := HA.out.keep hq
     have k_b := HB.out.keep hq
     have tl := HBL.out.trans ((hq).mono HBL.out.size)
     clear HBL HA HB
     clear a_0 a_f0 a_1 a_f1
     obtain ⟨a_0, a_f0, a_1, a_f1⟩ := k_a.f2
     have HA := zh k_a; clear k_a
     clear b_0 b_f0 b_1 b_f1
     obtain ⟨b_0, b_f0, b_1, b_f1⟩ := k_b.f2
     have HB := zh k_b; clear k_b
     have HBL := zh tl; clear tl
     clear hq
     refine wpAnyH_ready (rs := [3]) (by kernel_rfl) (by simp) ?_
     refine (AllReadyH.cons rfl (fun K hK => ?_) AllReadyH.nil)
     ·
      go_simp
      go_at_call 117
      refine (HCB.out _).mono ?_
      rintro e wn51 ⟨hq, rfl⟩
      dsimp only
      refine hK.out _ _ trivial (fun _ => ?_)
      clear hK K
      (try simp only [Act.put, zA, zB, zC])
      have k_a := HA.out.keep hq
      have k_b := HB.out.keep hq
      have tl := HBL.out.trans ((hq).mono HBL.out.size)
      clear HBL HA HB
      clear a_0 a_f0 a_1 a_f1
      obtain ⟨a_0, a_f0, a_1, a_f1⟩ := k_a.f2
      have HA := zh k_a; clear k_a
      clear b_0 b_f0 b_1 b_f1
      obtain ⟨b_0, b_f0, b_1, b_f1⟩ := k_b.f2
      have HB := zh k_b; clear k_b
      have HBL := zh tl; clear tl
      clear hq
      refine wpAnyH_ready (rs := [4]) (by kernel_rfl) (by simp) ?_
      refine (AllReadyH.cons rfl (fun K hK => ?_) AllReadyH.nil)
      ·
       go_simp
       refine hK.out _ _ trivial (fun _ => ?_)
       clear hK K
       (try simp only [Act.put, zA, zB, zC])
       refine wpAnyH_ready (rs := [5]) (by kernel_rfl) (by simp) ?_
       refine (AllReadyH.cons rfl (fun K hK => ?_) AllReadyH.nil)
       ·
        go_simp
        refine hK.out _ _ trivial (fun _ => ?_)
        clear hK K
        (try simp only [Act.put, zA, zB, zC])
        refine wpAnyH_done (by kernel_rfl) ?_ _
        (try simp only [List.getElem_toArray, List.getElem_cons_zero, List.getElem_cons_succ, Act.put, zA, zB, zC])
        go_wp2_with fail
        go_meet
        exact ⟨((((HA.out.set 0 (.bool a)).set 1 (.string s)).setOther (a := ⟨w.heap.size + 1, 0, none⟩) (by show w.heap.size + 1 ≠ w.heap.size; omega) (.bool b)).setOther (a := ⟨w.heap.size + 1, 1, none⟩) (by show w.heap.size + 1 ≠ w.heap.size; omega) (.string t)), ((((HB.out.setOther (a := ⟨w.heap.size, 0, none⟩) (by show w.heap.size ≠ w.heap.size + 1; omega) (.bool a)).setOther (a := ⟨w.heap.size, 1, none⟩) (by show w.heap.size ≠ w.heap.size + 1; omega) (.string s)).set 0 (.bool b)).set 1 (.string t)), ((((HBL.out.setCell (p := ⟨w.heap.size, 0, none⟩) (by show w.heap.size ≤ w.heap.size; omega) (.bool a)).setCell (p := ⟨w.heap.size, 1, none⟩) (by show w.heap.size ≤ w.heap.size; omega) (.string s)).setCell (p := ⟨w.heap.size + 1, 0, none⟩) (by show w.heap.size ≤ w.heap.size + 1; omega) (.bool b)).setCell (p := ⟨w.heap.size + 1, 1, none⟩) (by show w.heap.size ≤ w.heap.size + 1; omega) (.string t))⟩
 case rest =>
  obtain ⟨k_a, k_b, tl⟩ := hcut
  clear HBL HA HB a_0 a_f0 a_1 a_f1 b_0 b_f0 b_1 b_f1
  obtain ⟨a_0, a_f0, a_1, a_f1⟩ := k_a.f2
  have HA := zh k_a; clear k_a
  obtain ⟨b_0, b_f0, b_1, b_f1⟩ := k_b.f2
  have HB := zh k_b; clear k_b
  have HBL := zh tl; clear tl
  rcases HXY.out with ⟨rfl, rfl, rfl⟩ | ⟨rfl, rfl, rfl⟩ | ⟨rfl, rfl, rfl⟩ | ⟨rfl, rfl, rfl⟩
  ·
   go_wp2_with fail
   go_ret
   exact ⟨HBL.out, rfl⟩
  ·
   go_wp2_with fail
   go_ret
   exact ⟨HBL.out, rfl⟩
  ·
   go_wp2_with (go_at_call 122; refine (HC2.out _).mono ?_; rintro e w' ⟨rfl, rfl⟩)
   go_ret
   exact ⟨HBL.out, rfl⟩
  ·
   go_wp2_with (go_at_call 122; refine (HC1.out _).mono ?_; rintro e w' ⟨rfl, rfl⟩)
   go_ret
   exact ⟨HBL.out, rfl⟩
set_option maxRecDepth 100000 in
set_option maxHeartbeats 3200000 in
theorem raddR (na nb : Bool) (sa sb : ByteArray) (w : World) (h10 : sa.size < 8) (h20 : sb.size < 8) :
  Calls Tryz.prog 79 #[.agg #[.bool na, .string sa], .agg #[.bool nb, .string sb]] w (Ret w (IntV (ival na sa + ival nb sb))) := by
 have hCA := fun w' => rcanon_any na sa w' (by omega)
 have hCB := fun w' => rcanon_any nb sb w' (by omega)
 have h1 := Nat.lt_of_le_of_lt (imag_size_ival na sa) h10
 have h2 := Nat.lt_of_le_of_lt (imag_size_ival nb sb) h20
 obtain ⟨a, ha9⟩ : ∃ a, a = ineg (ival na sa) := ⟨_, rfl⟩
 obtain ⟨s, hs9⟩ : ∃ s, s = imag (ival na sa) := ⟨_, rfl⟩
 obtain ⟨b, hb9⟩ : ∃ b, b = ineg (ival nb sb) := ⟨_, rfl⟩
 obtain ⟨t, ht9⟩ : ∃ t, t = imag (ival nb sb) := ⟨_, rfl⟩
 have hia : ival a s = ival na sa := by rw [ha9, hs9, ival_canon]
 have hib : ival b t = ival nb sb := by rw [hb9, ht9, ival_canon]
 have hca : IntV (ival a s) = .agg #[.bool a, .string s] := by rw [hia, ha9, hs9]
 have hcb : IntV (ival b t) = .agg #[.bool b, .string t] := by rw [hib, hb9, ht9]
 rw [← hs9] at h1
 rw [← ht9] at h2
 rw [← hia] at hCA ⊢
 rw [← hib] at hCB ⊢
 rw [hca] at hCA
 rw [hcb] at hCB
 clear ha9 hs9 hb9 ht9 hia hib h10 h20
 have HCA := zh hCA; clear hCA
 have HCB := zh hCB; clear hCB
 have eX := can_bb a s hca
 have eY := can_bb b t hcb
 have hlt : ∀ (c : Bool) (u : ByteArray), u.size < 8 → -72057594037927936 < ival c u ∧ ival c u < 72057594037927936 := by
  intro c u hu
  have h1 := bval_lt u.data.toList
  rw [bytes_size] at h1
  have h2 : 256 ^ u.size ≤ 256 ^ 7 := Nat.pow_le_pow_right (by decide) (by omega)
  have h3 : 256 ^ 7 = 72057594037927936 := by decide
  have h4 : (ival c u).natAbs = bval u.data.toList := sgn_abs _ _
  omega
 have l1 := hlt a s h1
 have l2 := hlt b t h2
 have v1 := fun w' => rvalue_any a s w' (by omega)
 have v2 := fun w' => rvalue_any b t w' (by omega)
 have hof : ∀ w', Calls Tryz.prog 80 #[.int .i64 (IntKind.i64.wrap (ival a s + ival b t))] w' (Ret w' (IntV (ival a s + ival b t))) := fun w' => by
  rw [IntWalk.i64_in _ (by omega)]
  exact rof_any _ w' (by omega) (by omega)
 obtain ⟨xv, hxv⟩ : ∃ x, x = ival a s := ⟨_, rfl⟩
 obtain ⟨yv, hyv⟩ : ∃ x, x = ival b t := ⟨_, rfl⟩
 simp only [← hxv] at v1 hof ⊢
 simp only [← hyv] at v2 hof ⊢
 have V1 := zh v1; clear v1
 have V2 := zh v2; clear v2
 have HOF := zh hof; clear hof
 clear hlt l1 l2 hxv hyv eX eY hca hcb

 obtain ⟨w4, hw4⟩ : ∃ w4, w4 = ((w.alloc (.cells #[.bool na, .string sa] 25)).alloc (.cells #[.bool nb, .string sb] 25)).alloc (.cells #[.bool false, .string ⟨#[]⟩] 25) := ⟨_, rfl⟩
 have k_a : Blk w4 (w.heap.size) 25 [.bool na, .string sa] := by
  rw [hw4]
  have h := (((Blk.new (w) 25 [.bool na, .string sa]).alloc (.cells #[.bool nb, .string sb] 25)).alloc (.cells #[.bool false, .string ⟨#[]⟩] 25))
  (try simp only [World.size_alloc, Nat.add_assoc, Nat.reduceAdd] at h)
  exact h
 have k_b : Blk w4 (w.heap.size + 1) 25 [.bool nb, .string sb] := by
  rw [hw4]
  have h := ((Blk.new (w.alloc (.cells #[.bool na, .string sa] 25)) 25 [.bool nb, .string sb]).alloc (.cells #[.bool false, .string ⟨#[]⟩] 25))
  (try simp only [World.size_alloc, Nat.add_assoc, Nat.reduceAdd] at h)
  exact h
 have k_r : Blk w4 (w.heap.size + 2) 25 [.bool false, .string ⟨#[]⟩] := by
  rw [hw4]
  have h := (Blk.new ((w.alloc (.cells #[.bool na, .string sa] 25)).alloc (.cells #[.bool nb, .string sb] 25)) 25 [.bool false, .string ⟨#[]⟩])
  (try simp only [World.size_alloc, Nat.add_assoc, Nat.reduceAdd] at h)
  exact h
 have tl : Below w.heap.size w w4 := by
  rw [hw4]
  exact ((((Below.refl w.heap.size w).alloc (by simp <;> omega) (.cells #[.bool na, .string sa] 25)).alloc (by simp <;> omega) (.cells #[.bool nb, .string sb] 25)).alloc (by simp <;> omega) (.cells #[.bool false, .string ⟨#[]⟩] 25))
 have hs4 : w4.heap.size = w.heap.size + 3 := by rw [hw4]; simp only [World.size_alloc]
 obtain ⟨a_0, a_f0, a_1, a_f1⟩ := k_a.f2
 have HA := zh k_a; clear k_a
 obtain ⟨b_0, b_f0, b_1, b_f1⟩ := k_b.f2
 have HB := zh k_b; clear k_b
 obtain ⟨r_0, r_f0, r_1, r_f1⟩ := k_r.f2
 have HR := zh k_r; clear k_r
 have HBL := zh tl; clear tl
 go_enter Tryz.func79, Tryz.ntmps79
 go_upto_region 1 with fail
 (try rw [← hw4])
 clear hw4
 (try simp only [Nat.add_assoc, Nat.reduceAdd])
 go_cut [] from 6 to 9 (fun wx => Blk wx w.heap.size 25 [.bool a, .string s] ∧ Blk wx (w.heap.size + 1) 25 [.bool b, .string t] ∧ Blk wx (w.heap.size + 2) 25 [.bool false, .string ⟨#[]⟩] ∧ Below w.heap.size w wx)
 case first =>
  have HA := zh HA.out.drew
  have HB := zh HB.out.drew
  have HR := zh HR.out.drew
  have HBL := zh HBL.out.drew
  refine wp_region_held_drew (S := fun _ => True) (by kernel_rfl) trivial (fun _ => ?_)
  refine wpAnyH_ready (rs := [0, 2]) (by kernel_rfl) (by simp) ?_
  refine (AllReadyH.cons rfl (fun K hK => ?_) (AllReadyH.cons rfl (fun K hK => ?_) AllReadyH.nil))
  ·
   go_simp
   refine hK.out _ _ trivial (fun _ => ?_)
   clear hK K
   (try simp only [Act.put, zA, zB, zC])
   refine wpAnyH_ready (rs := [1, 2]) (by kernel_rfl) (by simp) ?_
   refine (AllReadyH.cons rfl (fun K hK => ?_) (AllReadyH.cons rfl (fun K hK => ?_) AllReadyH.nil))
   ·
    go_simp
    go_at_call 117
    refine (HCA.out _).mono ?_
    rintro e wn50 ⟨hq, rfl⟩
    dsimp only
    refine hK.out _ _ trivial (fun _ => ?_)
    clear hK K
    (try simp only [Act.put, zA, zB, zC])
    have k_a := HA.out.keep hq
    have k_b := HB.out.keep hq
    have k_r := HR.out.keep hq
    have tl := HBL.out.trans ((hq).mono HBL.out.size)
    clear HBL HA HB HR
    clear a_0 a_f0 a_1 a_f1
    obtain ⟨a_0, a_f0, a_1, a_f1⟩ := k_a.f2
    have HA := zh k_a; clear k_a
    clear b_0 b_f0 b_1 b_f1
    obtain ⟨b_0, b_f0, b_1, b_f1⟩ := k_b.f2
    have HB := zh k_b; clear k_b
    clear r_0 r_f0 r_1 r_f1
    obtain ⟨r_0, r_f0, r_1, r_f1⟩ := k_r.f2
    have HR := zh k_r; clear k_r
    have HBL := zh tl; clear tl
    clear hq
    refine wpAnyH_ready (rs := [2]) (by kernel_rfl) (by simp) ?_
    refine (AllReadyH.cons rfl (fun K hK => ?_) AllReadyH.nil)
    ·
     go_simp
     refine hK.out _ _ trivial (fun _ => ?_)
     clear hK K
     (try simp only [Act.put, zA, zB, zC])
     refine wpAnyH_ready (rs := [3]) (by kernel_rfl) (by simp) ?_
     refine (AllReadyH.cons rfl (fun K hK => ?_) AllReadyH.nil)
     ·
      go_simp
      go_at_call 117
      refine (HCB.out _).mono ?_
      rintro e wn51 ⟨hq, rfl⟩
      dsimp only
      refine hK.out _ _ trivial (fun _ => ?_)
      clear hK K
      (try simp only [Act.put, zA, zB, zC])
      have k_a := HA.out.keep hq
      have k_b := HB.out.keep hq
      have k_r := HR.out.keep hq
      have tl := HBL.out.trans ((hq).mono HBL.out.size)
      clear HBL HA HB HR
      clear a_0 a_f0 a_1 a_f1
      obtain ⟨a_0, a_f0, a_1, a_f1⟩ := k_a.f2
      have HA := zh k_a; clear k_a
      clear b_0 b_f0 b_1 b_f1
      obtain ⟨b_0, b_f0, b_1, b_f1⟩ := k_b.f2
      have HB := zh k_b; clear k_b
      clear r_0 r_f0 r_1 r_f1
      obtain ⟨r_0, r_f0, r_1, r_f1⟩ := k_r.f2
      have HR := zh k_r; clear k_r
      have HBL := zh tl; clear tl
      clear hq
      refine wpAnyH_ready (rs := [4]) (by kernel_rfl) (by simp) ?_
      refine (AllReadyH.cons rfl (fun K hK => ?_) AllReadyH.nil)
      ·
       go_simp
       refine hK.out _ _ trivial (fun _ => ?_)
       clear hK K
       (try simp only [Act.put, zA, zB, zC])
       refine wpAnyH_ready (rs := [5]) (by kernel_rfl) (by simp) ?_
       refine (AllReadyH.cons rfl (fun K hK => ?_) AllReadyH.nil)
       ·
        go_simp
        refine hK.out _ _ trivial (fun _ => ?_)
        clear hK K
        (try simp only [Act.put, zA, zB, zC])
        refine wpAnyH_done (by kernel_rfl) ?_ _
        (try simp only [List.getElem_toArray, List.getElem_cons_zero, List.getElem_cons_succ, Act.put, zA, zB, zC])
        go_wp2_with fail
        go_meet
        exact ⟨((((HA.out.set 0 (.bool a)).set 1 (.string s)).setOther (a := ⟨w.heap.size + 1, 0, none⟩) (by show w.heap.size + 1 ≠ w.heap.size; omega) (.bool b)).setOther (a := ⟨w.heap.size + 1, 1, none⟩) (by show w.heap.size + 1 ≠ w.heap.size; omega) (.string t)), ((((HB.out.setOther (a := ⟨w.heap.size, 0, none⟩) (by show w.heap.size ≠ w.heap.size + 1; omega) (.bool a)).setOther (a := ⟨w.heap.size, 1, none⟩) (by show w.heap.size ≠ w.heap.size + 1; omega) (.string s)).set 0 (.bool b)).set 1 (.string t)), ((((HR.out.setOther (a := ⟨w.heap.size, 0, none⟩) (by show w.heap.size ≠ w.heap.size + 2; omega) (.bool a)).setOther (a := ⟨w.heap.size, 1, none⟩) (by show w.heap.size ≠ w.heap.size + 2; omega) (.string s)).setOther (a := ⟨w.heap.size + 1, 0, none⟩) (by show w.heap.size + 1 ≠ w.heap.size + 2; omega) (.bool b)).setOther (a := ⟨w.heap.size + 1, 1, none⟩) (by show w.heap.size + 1 ≠ w.heap.size + 2; omega) (.string t)), ((((HBL.out.setCell (p := ⟨w.heap.size, 0, none⟩) (by show w.heap.size ≤ w.heap.size; omega) (.bool a)).setCell (p := ⟨w.heap.size, 1, none⟩) (by show w.heap.size ≤ w.heap.size; omega) (.string s)).setCell (p := ⟨w.heap.size + 1, 0, none⟩) (by show w.heap.size ≤ w.heap.size + 1; omega) (.bool b)).setCell (p := ⟨w.heap.size + 1, 1, none⟩) (by show w.heap.size ≤ w.heap.size + 1; omega) (.string t))⟩
   ·
    go_simp
    refine hK.out _ _ trivial (fun _ => ?_)
    clear hK K
    (try simp only [Act.put, zA, zB, zC])
    refine wpAnyH_ready (rs := [1]) (by kernel_rfl) (by simp) ?_
    refine (AllReadyH.cons rfl (fun K hK => ?_) AllReadyH.nil)
    ·
     go_simp
     go_at_call 117
     refine (HCA.out _).mono ?_
     rintro e wn50 ⟨hq, rfl⟩
     dsimp only
     refine hK.out _ _ trivial (fun _ => ?_)
     clear hK K
     (try simp only [Act.put, zA, zB, zC])
     have k_a := HA.out.keep hq
     have k_b := HB.out.keep hq
     have k_r := HR.out.keep hq
     have tl := HBL.out.trans ((hq).mono HBL.out.size)
     clear HBL HA HB HR
     clear a_0 a_f0 a_1 a_f1
     obtain ⟨a_0, a_f0, a_1, a_f1⟩ := k_a.f2
     have HA := zh k_a; clear k_a
     clear b_0 b_f0 b_1 b_f1
     obtain ⟨b_0, b_f0, b_1, b_f1⟩ := k_b.f2
     have HB := zh k_b; clear k_b
     clear r_0 r_f0 r_1 r_f1
     obtain ⟨r_0, r_f0, r_1, r_f1⟩ := k_r.f2
     have HR := zh k_r; clear k_r
     have HBL := zh tl; clear tl
     clear hq
     refine wpAnyH_ready (rs := [3]) (by kernel_rfl) (by simp) ?_
     refine (AllReadyH.cons rfl (fun K hK => ?_) AllReadyH.nil)
     ·
      go_simp
      go_at_call 117
      refine (HCB.out _).mono ?_
      rintro e wn51 ⟨hq, rfl⟩
      dsimp only
      refine hK.out _ _ trivial (fun _ => ?_)
      clear hK K
      (try simp only [Act.put, zA, zB, zC])
      have k_a := HA.out.keep hq
      have k_b := HB.out.keep hq
      have k_r := HR.out.keep hq
      have tl := HBL.out.trans ((hq).mono HBL.out.size)
      clear HBL HA HB HR
      clear a_0 a_f0 a_1 a_f1
      obtain ⟨a_0, a_f0, a_1, a_f1⟩ := k_a.f2
      have HA := zh k_a; clear k_a
      clear b_0 b_f0 b_1 b_f1
      obtain ⟨b_0, b_f0, b_1, b_f1⟩ := k_b.f2
      have HB := zh k_b; clear k_b
      clear r_0 r_f0 r_1 r_f1
      obtain ⟨r_0, r_f0, r_1, r_f1⟩ := k_r.f2
      have HR := zh k_r; clear k_r
      have HBL := zh tl; clear tl
      clear hq
      refine wpAnyH_ready (rs := [4]) (by kernel_rfl) (by simp) ?_
      refine (AllReadyH.cons rfl (fun K hK => ?_) AllReadyH.nil)
      ·
       go_simp
       refine hK.out _ _ trivial (fun _ => ?_)
       clear hK K
       (try simp only [Act.put, zA, zB, zC])
       refine wpAnyH_ready (rs := [5]) (by kernel_rfl) (by simp) ?_
       refine (AllReadyH.cons rfl (fun K hK => ?_) AllReadyH.nil)
       ·
        go_simp
        refine hK.out _ _ trivial (fun _ => ?_)
        clear hK K
        (try simp only [Act.put, zA, zB, zC])
        refine wpAnyH_done (by kernel_rfl) ?_ _
        (try simp only [List.getElem_toArray, List.getElem_cons_zero, List.getElem_cons_succ, Act.put, zA, zB, zC])
        go_wp2_with fail
        go_meet
        exact ⟨((((HA.out.set 0 (.bool a)).set 1 (.string s)).setOther (a := ⟨w.heap.size + 1, 0, none⟩) (by show w.heap.size + 1 ≠ w.heap.size; omega) (.bool b)).setOther (a := ⟨w.heap.size + 1, 1, none⟩) (by show w.heap.size + 1 ≠ w.heap.size; omega) (.string t)), ((((HB.out.setOther (a := ⟨w.heap.size, 0, none⟩) (by show w.heap.size ≠ w.heap.size + 1; omega) (.bool a)).setOther (a := ⟨w.heap.size, 1, none⟩) (by show w.heap.size ≠ w.heap.size + 1; omega) (.string s)).set 0 (.bool b)).set 1 (.string t)), ((((HR.out.setOther (a := ⟨w.heap.size, 0, none⟩) (by show w.heap.size ≠ w.heap.size + 2; omega) (.bool a)).setOther (a := ⟨w.heap.size, 1, none⟩) (by show w.heap.size ≠ w.heap.size + 2; omega) (.string s)).setOther (a := ⟨w.heap.size + 1, 0, none⟩) (by show w.heap.size + 1 ≠ w.heap.size + 2; omega) (.bool b)).setOther (a := ⟨w.heap.size + 1, 1, none⟩) (by show w.heap.size + 1 ≠ w.heap.size + 2; omega) (.string t)), ((((HBL.out.setCell (p := ⟨w.heap.size, 0, none⟩) (by show w.heap.size ≤ w.heap.size; omega) (.bool a)).setCell (p := ⟨w.heap.size, 1, none⟩) (by show w.heap.size ≤ w.heap.size; omega) (.string s)).setCell (p := ⟨w.heap.size + 1, 0, none⟩) (by show w.heap.size ≤ w.heap.size + 1; omega) (.bool b)).setCell (p := ⟨w.heap.size + 1, 1, none⟩) (by show w.heap.size ≤ w.heap.size + 1; omega) (.string t))⟩
  ·
   go_simp
   refine hK.out _ _ trivial (fun _ => ?_)
   clear hK K
   (try simp only [Act.put, zA, zB, zC])
   refine wpAnyH_ready (rs := [0]) (by kernel_rfl) (by simp) ?_
   refine (AllReadyH.cons rfl (fun K hK => ?_) AllReadyH.nil)
   ·
    go_simp
    refine hK.out _ _ trivial (fun _ => ?_)
    clear hK K
    (try simp only [Act.put, zA, zB, zC])
    refine wpAnyH_ready (rs := [1]) (by kernel_rfl) (by simp) ?_
    refine (AllReadyH.cons rfl (fun K hK => ?_) AllReadyH.nil)
    ·
     go_simp
     go_at_call 117
     refine (HCA.out _).mono ?_
     rintro e wn50 ⟨hq, rfl⟩
     dsimp only
     refine hK.out _ _ trivial (fun _ => ?_)
     clear hK K
     (try simp only [Act.put, zA, zB, zC])
     have k_a := HA.out.keep hq
     have k_b := HB.out.keep hq
     have k_r := HR.out.keep hq
     have tl := HBL.out.trans ((hq).mono HBL.out.size)
     clear HBL HA HB HR
     clear a_0 a_f0 a_1 a_f1
     obtain ⟨a_0, a_f0, a_1, a_f1⟩ := k_a.f2
     have HA := zh k_a; clear k_a
     clear b_0 b_f0 b_1 b_f1
     obtain ⟨b_0, b_f0, b_1, b_f1⟩ := k_b.f2
     have HB := zh k_b; clear k_b
     clear r_0 r_f0 r_1 r_f1
     obtain ⟨r_0, r_f0, r_1, r_f1⟩ := k_r.f2
     have HR := zh k_r; clear k_r
     have HBL := zh tl; clear tl
     clear hq
     refine wpAnyH_ready (rs := [3]) (by kernel_rfl) (by simp) ?_
     refine (AllReadyH.cons rfl (fun K hK => ?_) AllReadyH.nil)
     ·
      go_simp
      go_at_call 117
      refine (HCB.out _).mono ?_
      rintro e wn51 ⟨hq, rfl⟩
      dsimp only
      refine hK.out _ _ trivial (fun _ => ?_)
      clear hK K
      (try simp only [Act.put, zA, zB, zC])
      have k_a := HA.out.keep hq
      have k_b := HB.out.keep hq
      have k_r := HR.out.keep hq
      have tl := HBL.out.trans ((hq).mono HBL.out.size)
      clear HBL HA HB HR
      clear a_0 a_f0 a_1 a_f1
      obtain ⟨a_0, a_f0, a_1, a_f1⟩ := k_a.f2
      have HA := zh k_a; clear k_a
      clear b_0 b_f0 b_1 b_f1
      obtain ⟨b_0, b_f0, b_1, b_f1⟩ := k_b.f2
      have HB := zh k_b; clear k_b
      clear r_0 r_f0 r_1 r_f1
      obtain ⟨r_0, r_f0, r_1, r_f1⟩ := k_r.f2
      have HR := zh k_r; clear k_r
      have HBL := zh tl; clear tl
      clear hq
      refine wpAnyH_ready (rs := [4]) (by kernel_rfl) (by simp) ?_
      refine (AllReadyH.cons rfl (fun K hK => ?_) AllReadyH.nil)
      ·
       go_simp
       refine hK.out _ _ trivial (fun _ => ?_)
       clear hK K
       (try simp only [Act.put, zA, zB, zC])
       refine wpAnyH_ready (rs := [5]) (by kernel_rfl) (by simp) ?_
       refine (AllReadyH.cons rfl (fun K hK => ?_) AllReadyH.nil)
       ·
        go_simp
        refine hK.out _ _ trivial (fun _ => ?_)
        clear hK K
        (try simp only [Act.put, zA, zB, zC])
        refine wpAnyH_done (by kernel_rfl) ?_ _
        (try simp only [List.getElem_toArray, List.getElem_cons_zero, List.getElem_cons_succ, Act.put, zA, zB, zC])
        go_wp2_with fail
        go_meet
        exact ⟨((((HA.out.set 0 (.bool a)).set 1 (.string s)).setOther (a := ⟨w.heap.size + 1, 0, none⟩) (by show w.heap.size + 1 ≠ w.heap.size; omega) (.bool b)).setOther (a := ⟨w.heap.size + 1, 1, none⟩) (by show w.heap.size + 1 ≠ w.heap.size; omega) (.string t)), ((((HB.out.setOther (a := ⟨w.heap.size, 0, none⟩) (by show w.heap.size ≠ w.heap.size + 1; omega) (.bool a)).setOther (a := ⟨w.heap.size, 1, none⟩) (by show w.heap.size ≠ w.heap.size + 1; omega) (.string s)).set 0 (.bool b)).set 1 (.string t)), ((((HR.out.setOther (a := ⟨w.heap.size, 0, none⟩) (by show w.heap.size ≠ w.heap.size + 2; omega) (.bool a)).setOther (a := ⟨w.heap.size, 1, none⟩) (by show w.heap.size ≠ w.heap.size + 2; omega) (.string s)).setOther (a := ⟨w.heap.size + 1, 0, none⟩) (by show w.heap.size + 1 ≠ w.heap.size + 2; omega) (.bool b)).setOther (a := ⟨w.heap.size + 1, 1, none⟩) (by show w.heap.size + 1 ≠ w.heap.size + 2; omega) (.string t)), ((((HBL.out.setCell (p := ⟨w.heap.size, 0, none⟩) (by show w.heap.size ≤ w.heap.size; omega) (.bool a)).setCell (p := ⟨w.heap.size, 1, none⟩) (by show w.heap.size ≤ w.heap.size; omega) (.string s)).setCell (p := ⟨w.heap.size + 1, 0, none⟩) (by show w.heap.size ≤ w.heap.size + 1; omega) (.bool b)).setCell (p := ⟨w.heap.size + 1, 1, none⟩) (by show w.heap.size ≤ w.heap.size + 1; omega) (.string t))⟩
 case rest =>
  obtain ⟨k_a, k_b, k_r, tl⟩ := hcut
  clear HBL HA HB HR a_0 a_f0 a_1 a_f1 b_0 b_f0 b_1 b_f1 r_0 r_f0 r_1 r_f1
  obtain ⟨a_0, a_f0, a_1, a_f1⟩ := k_a.f2
  have HA := zh k_a; clear k_a
  obtain ⟨b_0, b_f0, b_1, b_f1⟩ := k_b.f2
  have HB := zh k_b; clear k_b
  obtain ⟨r_0, r_f0, r_1, r_f1⟩ := k_r.f2
  have HR := zh k_r; clear k_r
  have HBL := zh tl; clear tl
  go_wp2_with fail
  have HA := zh HA.out.drew
  have HB := zh HB.out.drew
  have HR := zh HR.out.drew
  have HBL := zh HBL.out.drew
  refine wp_region_held_drew (S := fun w' => w'.cell? ⟨w.heap.size, 0, none⟩ = some (.bool a) ∧ w'.cell? ⟨w.heap.size, 1, none⟩ = some (.string s) ∧ w'.cell? ⟨w.heap.size + 1, 0, none⟩ = some (.bool b) ∧ w'.cell? ⟨w.heap.size + 1, 1, none⟩ = some (.string t)) (by kernel_rfl) ?_ (fun hHeld0 => ?_)
  ·
   go_keep
  refine zT 0 (h := ?_)
  (try simp only [Act.put, zA, zB, zC])
  refine zT 2 (h := ?_)
  (try simp only [Act.put, zA, zB, zC])
  refine zR 1 (h := fun K hK => ?_)
  go_simp
  go_at_call 123
  refine (V1.out _).mono ?_
  rintro e w5 ⟨hq, rfl⟩
  dsimp only
  have z0 := zK hq HA.out.lt hHeld0.1
  have z1 := zK hq HA.out.lt hHeld0.2.1
  have z2 := zK hq HB.out.lt hHeld0.2.2.1
  have z3 := zK hq HB.out.lt hHeld0.2.2.2
  refine hK.out _ _ ⟨z0, z1, z2, z3⟩ (fun hHeld1 => ?_)
  clear hK K hHeld0 z0 z1 z2 z3
  (try simp only [Act.put, zA, zB, zC])
  have k_a := HA.out.keep hq
  have k_b := HB.out.keep hq
  have k_r := HR.out.keep hq
  have tl := HBL.out.trans ((hq).mono HBL.out.size)
  clear HBL HA HB HR
  clear a_0 a_f0 a_1 a_f1
  obtain ⟨a_0, a_f0, a_1, a_f1⟩ := k_a.f2
  have HA := zh k_a; clear k_a
  clear b_0 b_f0 b_1 b_f1
  obtain ⟨b_0, b_f0, b_1, b_f1⟩ := k_b.f2
  have HB := zh k_b; clear k_b
  clear r_0 r_f0 r_1 r_f1
  obtain ⟨r_0, r_f0, r_1, r_f1⟩ := k_r.f2
  have HR := zh k_r; clear k_r
  have HBL := zh tl; clear tl
  clear hq
  refine zR 3 (h := fun K hK => ?_)
  go_simp
  go_at_call 123
  refine (V2.out _).mono ?_
  rintro e w6 ⟨hq, rfl⟩
  dsimp only
  have z0 := zK hq HA.out.lt hHeld1.1
  have z1 := zK hq HA.out.lt hHeld1.2.1
  have z2 := zK hq HB.out.lt hHeld1.2.2.1
  have z3 := zK hq HB.out.lt hHeld1.2.2.2
  refine hK.out _ _ ⟨z0, z1, z2, z3⟩ (fun hHeld2 => ?_)
  clear hK K hHeld1 z0 z1 z2 z3
  (try simp only [Act.put, zA, zB, zC])
  have k_a := HA.out.keep hq
  have k_b := HB.out.keep hq
  have k_r := HR.out.keep hq
  have tl := HBL.out.trans ((hq).mono HBL.out.size)
  clear HBL HA HB HR
  clear a_0 a_f0 a_1 a_f1
  obtain ⟨a_0, a_f0, a_1, a_f1⟩ := k_a.f2
  have HA := zh k_a; clear k_a
  clear b_0 b_f0 b_1 b_f1
  obtain ⟨b_0, b_f0, b_1, b_f1⟩ := k_b.f2
  have HB := zh k_b; clear k_b
  clear r_0 r_f0 r_1 r_f1
  obtain ⟨r_0, r_f0, r_1, r_f1⟩ := k_r.f2
  have HR := zh k_r; clear k_r
  have HBL := zh tl; clear tl
  clear hq
  refine zT 4 (h := ?_)
  (try simp only [Act.put, zA, zB, zC])
  refine zR 5 (h := fun K hK => ?_)
  go_simp
  go_at_call 80
  refine (HOF.out _).mono ?_
  rintro e w7 ⟨hq, rfl⟩
  dsimp only
  have z0 := zK hq HA.out.lt hHeld2.1
  have z1 := zK hq HA.out.lt hHeld2.2.1
  have z2 := zK hq HB.out.lt hHeld2.2.2.1
  have z3 := zK hq HB.out.lt hHeld2.2.2.2
  refine hK.out _ _ ⟨z0, z1, z2, z3⟩ (fun hHeld3 => ?_)
  clear hK K hHeld2 z0 z1 z2 z3
  (try simp only [Act.put, zA, zB, zC])
  have k_a := HA.out.keep hq
  have k_b := HB.out.keep hq
  have k_r := HR.out.keep hq
  have tl := HBL.out.trans ((hq).mono HBL.out.size)
  clear HBL HA HB HR
  clear a_0 a_f0 a_1 a_f1
  obtain ⟨a_0, a_f0, a_1, a_f1⟩ := k_a.f2
  have HA := zh k_a; clear k_a
  clear b_0 b_f0 b_1 b_f1
  obtain ⟨b_0, b_f0, b_1, b_f1⟩ := k_b.f2
  have HB := zh k_b; clear k_b
  clear r_0 r_f0 r_1 r_f1
  obtain ⟨r_0, r_f0, r_1, r_f1⟩ := k_r.f2
  have HR := zh k_r; clear k_r
  have HBL := zh tl; clear tl
  clear hq
  refine zR 6 (h := fun K hK => ?_)
  go_simp
  refine hK.out _ _ ?_ (fun hHeld4 => ?_)
  ·
   ((try dsimp only); go_keep)
  clear hK K
  (try simp only [Act.put, zA, zB, zC])
  refine wpAnyH_done (by kernel_rfl) ?_ _
  (try simp only [List.getElem_toArray, List.getElem_cons_zero, List.getElem_cons_succ, Act.put, zA, zB, zC])
  go_wp2_with fail
  have hrv : IntV (xv + yv) = .agg #[.bool (ineg (xv + yv)), .string (imag (xv + yv))] := rfl
  have kz := ((HR.out.set 0 (.bool (ineg (xv + yv)))).set 1 (.string (imag (xv + yv))))
  have sz := ((HBL.out.setCell (p := ⟨w.heap.size + 2, 0, none⟩) (by show w.heap.size ≤ w.heap.size + 2; omega) (.bool (ineg (xv + yv)))).setCell (p := ⟨w.heap.size + 2, 1, none⟩) (by show w.heap.size ≤ w.heap.size + 2; omega) (.string (imag (xv + yv))))
  have e0 := kz.c 0 rfl
  have e1 := kz.c 1 rfl
  refine bodyPost_ret (v := IntV (xv + yv)) (by rw [hrv]; simp [results, Tryz.results79, go_sem, e0, e1]) rfl ⟨sz, rfl⟩
theorem cmpZ_zero (x : Int) : (cmpZ x 0 == 0) = decide (x = 0) := by
 unfold cmpZ
 rcases Int.lt_trichotomy x 0 with h | h | h
 ·
  rw [if_pos h]
  have : ¬ x = 0 := by omega
  simp [this]
 ·
  subst h; simp
 ·
  rw [if_neg (by omega)]
  have : ¬ x = 0 := by omega
  simp [this]
set_option maxRecDepth 100000 in
set_option maxHeartbeats 3200000 in
theorem rzeroR (nx : Bool) (sx : ByteArray) (w : World) (hx : sx.size ≤ 1099511627775) :
  Calls Tryz.prog 179 #[.agg #[.bool nx, .string sx]] w (Ret w (.bool (decide (ival nx sx = 0)))) := by
 have hc := fun w' => rcompareR nx false sx ⟨#[]⟩ w' hx (by decide)
 rw [ival_nil] at hc
 obtain ⟨x, hx9⟩ : ∃ x, x = ival nx sx := ⟨_, rfl⟩
 rw [← hx9] at hc ⊢
 clear hx9
 have hz := cmpZ_zero x
 obtain ⟨c, hcc⟩ : ∃ c, c = cmpZ x 0 := ⟨_, rfl⟩
 rw [← hcc] at hz
 simp only [← hcc] at hc
 obtain ⟨b, hb⟩ : ∃ b, b = decide (x = 0) := ⟨_, rfl⟩
 rw [← hb] at hz ⊢
 have s0 := (Below.refl w.heap.size w).alloc (Nat.le_refl _) (.cells #[.bool nx, .string sx] 25)
 have HC := zh hc; clear hc
 have S0 := zh s0; clear s0
 clear hcc hb
 go_enter Tryz.func179, Tryz.ntmps179
 go_wp2_with fail
 go_at_call 78
 refine (HC.out _).mono ?_
 rintro e w1 ⟨hq, rfl⟩
 have s1 := S0.out.trans (hq.mono S0.out.size)
 have S1 := zh s1; clear s1
 clear hq
 go_wp2_with fail
 go_ret
 exact ⟨S1.out, rfl⟩
theorem tzI_take_zero {l : List Int} {k : Nat} (h : l[k]? = some 0) : tzI (l.take (k + 1)) = tzI (l.take k) := by
 rw [List.take_add_one, h]; exact tzI_snoc_zero _
theorem tzI_take_ne {l : List Int} {k : Nat} {x : Int} (h : l[k]? = some x) (hx : x ≠ 0) : tzI (l.take (k + 1)) = l.take (k + 1) := by
 rw [List.take_add_one, h]; exact tzI_snoc_ne _ hx
theorem tzI_take (l : List Int) : l.take (tzI l).length = tzI l := by
 obtain ⟨t, ht⟩ := tzI_prefix l
 have h2 : (tzI l ++ t).take (tzI l).length = tzI l := by rw [List.take_append_of_le_length (Nat.le_refl _), List.take_length]
 rw [ht] at h2
 exact h2
def vals (l : List (Bool × ByteArray)) : List Int := l.map fun x => ival x.1 x.2
theorem vals_length (l : List (Bool × ByteArray)) : (vals l).length = l.length := by simp [vals]
theorem vals_get {l : List (Bool × ByteArray)} {k : Nat} {x : Bool × ByteArray} (h : l[k]? = some x) : (vals l)[k]? = some (ival x.1 x.2) := by unfold vals; rw [List.getElem?_map, h]; rfl
set_option maxRecDepth 100000 in
set_option maxHeartbeats 3200000 in
theorem rdegreeR (r : List (Bool × ByteArray)) (v : Value) (w : World) (hr : Row w v r.length (cnv r)) (hl : r.length ≤ 100000) (hs : ∀ x ∈ r, x.2.size < 8) :
  Calls Tryz.prog 155 #[v] w (Ret w (.int .i64 (((tzI (vals r)).length : Int) - 1))) := by
 obtain ⟨va, vc, rfl, hle⟩ := hr.slice
 have hget : ∀ k, k < r.length → ∃ x, r[k]? = some x ∧ x.2.size < 8 ∧ (vals r)[k]? = some (ival x.1 x.2) := fun k hk => ⟨r[k], List.getElem?_eq_getElem hk, hs _ (List.getElem_mem hk), vals_get (List.getElem?_eq_getElem hk)⟩
 rw [← vals_length] at hr hl hget
 have hv9 := vals_length r
 obtain ⟨l, hl9⟩ : ∃ l, l = vals r := ⟨_, rfl⟩
 rw [← hl9] at hr hl hget hv9 ⊢
 rw [← hv9]
 clear hl9 hv9 hle
 have hle : l.length ≤ 9223372036854775807 := by omega
 have hfull : tzI (l.take l.length) = tzI l := by rw [List.take_length]
 have hz := fun k (h : l[k]? = some 0) => tzI_take_zero h
 have hne := fun k x (h : l[k]? = some x) (hx : x ≠ 0) => congrArg List.length (tzI_take_ne h hx)
 have hln := fun k (hk : k ≤ l.length) => show (l.take k).length = k by simp; omega
 have h00 : (tzI (l.take 0)).length = 0 := by simp [tzI_nil]
 obtain ⟨Z, hZ⟩ : ∃ Z, Z = fun k => tzI (l.take k) := ⟨_, rfl⟩
 have eZ : ∀ k, tzI (l.take k) = Z k := fun k => by rw [hZ]
 simp only [eZ] at hfull hz hne h00
 rw [← hfull]
 obtain ⟨n, hn⟩ : ∃ n, n = l.length := ⟨_, rfl⟩
 rw [← hn] at hr hle hl hget hln ⊢
 obtain ⟨D, hD⟩ : ∃ D : Int, D = ((Z n).length : Int) - 1 := ⟨_, rfl⟩
 rw [← hD]
 have hD0 : ∀ k : Nat, Z k = Z n → ∀ y, (Z k).length = y → (y : Int) - 1 = D := fun k h y hy => by rw [hD, ← h, hy]
 have hnw : IntKind.i64.wrap ((n : Int) - 1) = (n : Int) - 1 := IntWalk.i64_in _ (by omega)
 have HR := zh hr; clear hr
 have HGET := zh hget; clear hget
 have HZ := zh hz; clear hz
 have HNE := zh hne; clear hne
 have HLN := zh hln; clear hln
 have H00 := zh h00; clear h00
 have HD0 := zh hD0; clear hD0
 clear hZ eZ hfull hs hn hD
 go_enter Tryz.func155, Tryz.ntmps155
 go_wp2_with fail
 go_loopw [3] (fun i wr => ∃ k : Nat, k ≤ n ∧ i = .int .i64 ((k : Int) - 1) ∧ Below w.heap.size w wr ∧ Z k = Z n) (fun i _ => (intOf i + 1).toNat)
 case atStart => exact ⟨n, Nat.le_refl _, rfl, Below.refl _ _, rfl⟩
 case round =>
  obtain ⟨k, hk, rfl, hbel, hzk⟩ := hrel
  obtain ⟨i, hi⟩ : ∃ i : Int, i = (k : Int) - 1 := ⟨_, rfl⟩
  rw [← hi]
  by_cases hk0 : k = 0
  ·
   have e1 : decide (0 ≤ i) = false := decide_eq_false (by omega)
   have e2 : ¬ 0 ≤ i := by omega
   have hd := HD0.out k hzk 0 (by rw [hk0]; exact H00.out)
   have hiD : i = D := by omega
   have HBEL := zh hbel; clear hbel
   have HID := zh hiD; clear hiD
   clear hi hd hzk
   go_wp2_with fail
   go_ret
   exact ⟨HBEL.out, by rw [← HID.out]; (try rfl)⟩
  ·
   obtain ⟨j, rfl⟩ : ∃ j, k = j + 1 := ⟨k - 1, by omega⟩
   have hij : i = (j : Int) := by omega
   subst hij
   have e1 : decide (0 ≤ (j : Int)) = true := decide_eq_true (by omega)
   obtain ⟨⟨nx, sx⟩, hxr, hxs, hx⟩ := HGET.out j (by omega)
   dsimp only at hxs hx
   obtain ⟨b, o, rfl, hb, hbc⟩ := HR.out.at_ (by omega)
   obtain ⟨q0, q1⟩ := num_cells hbc hbel hb hxr
   have hzr := fun w' => rzeroR nx sx w' (by omega)
   obtain ⟨x, hx9⟩ : ∃ x, x = ival nx sx := ⟨_, rfl⟩
   rw [← hx9] at hx hzr
   clear hx9 hxr
   have hix1 : (0 : Int) ≤ (j : Int) := by omega
   have hix2 : (j : Int) < (n : Int) := by omega
   have hjw : IntKind.i64.wrap ((j : Int) - 1) = (j : Int) - 1 := IntWalk.i64_in _ (by omega)
   by_cases hx0 : x = 0
   ·
    have hst := HZ.out j (by rw [hx, hx0])
    rw [decide_eq_true hx0] at hzr
    have hz2 : Z j = Z n := by rw [← hst]; exact hzk
    have HZR := zh hzr; clear hzr
    have HBEL := zh hbel; clear hbel
    have HZ2 := zh hz2; clear hz2
    clear hx hst hzk hi hbc hx0
    go_wp2_with fail
    go_at_call 179
    refine (HZR.out _).mono ?_
    rintro e w2 ⟨hq, rfl⟩
    have hb2 := HBEL.out.trans (hq.mono HBEL.out.size)
    have HB2 := zh hb2; clear hb2
    clear hq q0 q1
    go_wp2_with fail
    go_roundw
    case rel => exact ⟨j, by omega, by go_num, HB2.out, HZ2.out⟩
    case measure => simp [intOf]; (try omega)
   ·
    have hst := HNE.out j x hx hx0
    rw [decide_eq_false hx0] at hzr
    have hd := HD0.out (j + 1) hzk (j + 1) (by rw [hst]; exact HLN.out (j + 1) (by omega))
    have hiD : (j : Int) = D := by omega
    have HZR := zh hzr; clear hzr
    have HBEL := zh hbel; clear hbel
    have HID := zh hiD; clear hiD
    clear hx hst hzk hi hbc hd
    go_wp2_with fail
    go_at_call 179
    refine (HZR.out _).mono ?_
    rintro e w2 ⟨hq, rfl⟩
    have hb2 := HBEL.out.trans (hq.mono HBEL.out.size)
    have HB2 := zh hb2; clear hb2
    clear hq q0 q1
    go_wp2_with fail
    go_ret
    exact ⟨HB2.out, by rw [← HID.out]; (try rfl)⟩
def ListO (l : List Int) (w : World) (e : Ending) (w' : World) : Prop := Below w.heap.size w w' ∧ ∃ u, e = .returned u ∧ w'.ownsRow w.heap.size 25 2 u l.length (civ l)
set_option maxRecDepth 100000 in
set_option maxHeartbeats 3200000 in
theorem rcanLR (r : List (Bool × ByteArray)) (v : Value) (w : World) (hr : Row w v r.length (cnv r)) (hl : r.length ≤ 100000) (hs : ∀ x ∈ r, x.2.size < 8) :
  Calls Tryz.prog 103 #[v] w (ListO (tzI (vals r)) w) := by
 have hdg := fun w' h => rdegreeR r v w' h hl hs
 obtain ⟨va, vc, rfl, hle⟩ := hr.slice
 obtain ⟨i0, hi, hz0, hz1, hz2⟩ := info_parts infoZ
 have hget : ∀ k, k < r.length → ∃ x, r[k]? = some x ∧ x.2.size < 8 ∧ (vals r)[k]? = some (ival x.1 x.2) := fun k hk => ⟨r[k], List.getElem?_eq_getElem hk, hs _ (List.getElem_mem hk), vals_get (List.getElem?_eq_getElem hk)⟩
 rw [← vals_length] at hr hl hget hdg
 have hv9 := vals_length r
 obtain ⟨l, hl9⟩ : ∃ l, l = vals r := ⟨_, rfl⟩
 rw [← hl9] at hr hl hget hdg hv9 ⊢
 rw [← hv9]
 clear hl9 hv9 hle
 have hle : l.length ≤ 9223372036854775807 := by omega
 have hsu := fun k x (h : l[k]? = some x) => show l.take (k + 1) = l.take k ++ [x] by rw [List.take_add_one, h]; rfl
 have htk := tzI_take l
 have htl := tzI_len l
 obtain ⟨d, hd⟩ : ∃ d, d = (tzI l).length := ⟨_, rfl⟩
 rw [← hd] at htk htl
 simp only [← hd] at hdg
 obtain ⟨F, hF⟩ : ∃ F, F = tzI l := ⟨_, rfl⟩
 rw [← hF] at htk hd ⊢
 obtain ⟨n, hn⟩ : ∃ n, n = l.length := ⟨_, rfl⟩
 rw [← hn] at hr hle hl hget htl hdg
 rw [← hn]
 have hadd2 : ∀ (nx : Bool) (sx : ByteArray) w', sx.size < 8 → Calls Tryz.prog 79 #[.agg #[.bool nx, .string sx], .agg #[.bool false, .string ⟨#[]⟩]] w' (Ret w' (IntV (ival nx sx))) := fun nx sx w' hx => by
  have h := raddR nx false sx ⟨#[]⟩ w' hx (by decide)
  rw [ival_nil, Int.add_zero] at h
  exact h
 have hmd := World.ownsRow_made w (#[] : Array Value) 0 (base := w.heap.size) (e := 25) (size := 2) (Nat.le_refl _) (Nat.zero_le _) rfl
 have s0 := (Below.refl w.heap.size w).alloc (Nat.le_refl _) (.cells #[] 25)
 obtain ⟨w1, hw1⟩ : ∃ w1, w.alloc (.cells #[] 25) = w1 := ⟨_, rfl⟩
 rw [hw1] at hmd s0
 have hr1 := hr.below s0 (Nat.le_refl _)
 have hdg1 := hdg w1 hr1
 have HR := zh hr; clear hr
 have HGET := zh hget; clear hget
 have HSU := zh hsu; clear hsu
 have HADD := zh hadd2; clear hadd2
 have HDG := zh hdg1; clear hdg1
 have HTK := zh htk; clear htk
 have HD := zh hd; clear hd
 have HMD := zh hmd; clear hmd
 have S0 := zh s0; clear s0
 clear hs hdg hr1 hF hn
 go_enter Tryz.func103, Tryz.ntmps103
 go_wp2_with fail
 (try rw [hw1])
 clear hw1
 go_at_call 155
 refine HDG.out.mono ?_
 rintro e w2 ⟨hq, rfl⟩
 have ho2 := own_below HMD.out hq
 have s2 := S0.out.trans (hq.mono S0.out.size)
 have HO2 := zh ho2; clear ho2
 have S2 := zh s2; clear s2
 clear hq
 go_wp2_with fail
 go_loopw [3, 5] (fun u i wr => ∃ k : Nat, k ≤ d ∧ i = .int .i64 (k : Int) ∧ Below w.heap.size w wr ∧ wr.ownsRow w.heap.size 25 2 u k (civ (l.take k))) (fun _ i _ => d - (intOf i).toNat)
 case atStart => exact ⟨0, Nat.zero_le _, rfl, S2.out, by rw [List.take_zero]; exact HO2.out⟩
 case round =>
  obtain ⟨k, hk, rfl, hbel, hown⟩ := hrel
  obtain ⟨g, hg⟩ : ∃ g : Int, g = (d : Int) - 1 := ⟨_, rfl⟩
  rw [← hg]
  by_cases hkd : k < d
  ·
   have tk : decide ((k : Int) ≤ g) = true := decide_eq_true (by omega)
   have tk2 : (k : Int) ≤ g := by omega
   obtain ⟨⟨nx, sx⟩, hxr, hxs, hx⟩ := HGET.out k (by omega)
   dsimp only at hxs hx
   obtain ⟨b, o, rfl, hb, hbc⟩ := HR.out.at_ (by omega)
   obtain ⟨q0, q1⟩ := num_cells hbc hbel hb hxr
   have hax := fun w' => HADD.out nx sx w' hxs
   obtain ⟨x, hx9⟩ : ∃ x, x = ival nx sx := ⟨_, rfl⟩
   rw [← hx9] at hx hax
   have hst := HSU.out k x hx
   clear hx9 hxr
   obtain ⟨a, cap, rfl⟩ := own_slice hown
   have hix1 : (0 : Int) ≤ (k : Int) := by omega
   have hix2 : (k : Int) < (n : Int) := by omega
   have HAX := zh hax; clear hax
   have HST := zh hst; clear hst
   have HBEL := zh hbel; clear hbel
   have HOWN := zh hown; clear hown
   clear hx hxs hbc hg
   go_wp2_with fail
   go_at_call 79
   refine (HAX.out _).mono ?_
   rintro e w4 ⟨hq, rfl⟩
   have ho4 := own_below HOWN.out hq
   have hb4 := HBEL.out.trans (hq.mono HBEL.out.size)
   have hsz4 := hb4.size
   have HO4 := zh ho4; clear ho4
   have HB4 := zh hb4; clear hb4
   clear hq q0 q1
   go_wp2_with (at_builtin; refine wpList_append_lies _ rfl (.tmp 14) (.tmp 21) 22 rfl w.heap.size 25 i0 _ 2 24 Tryz.underlying22 hi hz0 hz1 hz2 rfl (by decide) _ _ _ rfl (HO4.out.alloc _) _ 1 1 [.bool (ineg x), .string (imag x)] rfl rfl (World.news_of_block (heap_alloc_new _ _)) (by simp [Value.oneCell']) (by omega) (by unfold maxLen; omega) (by omega) (by simp; omega) _ rfl ?_; intro g' cap' w5 hown' hg' hat hlt'; have HG := zh hg'; clear hg'; have HO5 := zh hown'; clear hown'; have HAT := zh hat; clear hat)
   go_roundw
   case rel =>
    refine ⟨k + 1, by omega, by go_num, (HB4.out.alloc hsz4 _).grown HG.out (by simp; omega) (fun j hj => (HO4.out.lt j hj).1), ?_⟩
    rw [HST.out, civ_snoc]; exact HO5.out
   case measure => simp [intOf]; omega
  ·
   have hkd2 : k = d := by omega
   have tk : decide ((k : Int) ≤ g) = false := decide_eq_false (by omega)
   have tk2 : ¬ (k : Int) ≤ g := by omega
   rw [hkd2, HTK.out, HD.out] at hown
   have HBEL := zh hbel; clear hbel
   have HOWN := zh hown; clear hown
   clear hkd2 hg
   go_wp2_with fail
   go_ret
   exact ⟨HBEL.out, _, rfl, HOWN.out⟩
end Go.Proofs.YtjpalbonclgflaaGreat
