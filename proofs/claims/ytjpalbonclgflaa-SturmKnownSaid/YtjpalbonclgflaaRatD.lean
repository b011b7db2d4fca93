/- rational.Compare, Quo, Check (printed by gen_rcmpq.py). -/
import Derived.Deep.CutRange
import Derived.Deep.CutBlock
import Derived.Test.YtjpalbonclgflaaRatC
import Derived.Test.YtjpalbonclgflaaPart14
namespace Go.Proofs.Ytjpalbonclgflaa
open Go.RowKit

theorem fldNum (a b : Bool) (s t : ByteArray) (w : World) : (Instr.field 35 (.agg #[.bool a, .string s, .bool b, .string t]) 0).run Try.prog w = .ok (.agg #[.bool a, .string s]) w := by kernel_rfl
theorem str_ext2 {s t : ByteArray} (h : s.data.toList = t.data.toList) : s = t := by
 cases s; cases t; congr 1; exact Array.toList_inj.1 h
theorem eqZ_dec (x y : Int) : (ineg x == ineg y && imag x == imag y) = decide (x = y) := by
 have hb : ∀ a b : ByteArray, (a == b) = decide (a = b) := fun a b => by
  rw [beq_toListBytes]
  by_cases h : a = b
  ·
   subst h; simp
  ·
   have h2 : ¬ a.toList = b.toList := fun e => h (str_ext2 (by rw [← ByteArray.toList_eq, ← ByteArray.toList_eq]; exact e))
   simp [h, h2]
 rw [hb]
 by_cases h : x = y
 ·
  subst h; simp
 ·
  rw [decide_eq_false h]
  by_cases h1 : ineg x = ineg y
  ·
   by_cases h2 : imag x = imag y
   ·
    exact absurd ((ival_canon x).symm.trans (by rw [h1, h2, ival_canon])) h
   ·
    simp [h2]
  ·
   simp [h1]
theorem eqIn_zero2 (x : Int) (w : World) : (Op.equalIn 10000 33 (.agg #[.bool (ineg x), .string (imag x)]) (.agg #[.bool false, .string ⟨#[]⟩])).run Try.prog w = .ok (decide (x = 0)) w := by
 rw [eqIn_int]
 have := eqZ_dec x 0
 rw [show imag 0 = ⟨#[]⟩ by simp [imag, bb_zero], show ineg 0 = false from rfl] at this
 rw [this]
theorem cmp_rat (a b : Rat) : cmpZ (a.num * (b.den : Int)) (b.num * (a.den : Int)) = if a < b then -1 else if a = b then 0 else 1 := by
 unfold cmpZ
 by_cases h : a < b
 ·
  rw [if_pos h, if_pos ((Rat.lt_iff a b).1 h)]
 ·
  rw [if_neg h, if_neg (fun e => h ((Rat.lt_iff a b).2 e))]
  by_cases h2 : a = b
  ·
   subst h2; rw [if_pos rfl, if_pos rfl]
  ·
   rw [if_neg h2, if_neg]
   intro e
   apply h2
   have h3 : ¬ b < a := by
    intro h4
    have := (Rat.lt_iff b a).1 h4
    omega
   exact Rat.le_antisymm (Rat.not_lt.1 h3) (Rat.not_lt.1 h)
attribute [local go_sem] fldNum
set_option maxRecDepth 100000 in
set_option maxHeartbeats 3200000 in
theorem qcompare_any (na ma : Bool) (sa ta : ByteArray) (nb mb : Bool) (sb tb : ByteArray) (w : World) (h1 : sa.size ≤ 20000000000) (h2 : ta.size ≤ 20000000000) (h3 : sb.size ≤ 20000000000) (h4 : tb.size ≤ 20000000000) :
  Calls Try.prog 9 #[.agg #[.bool na, .string sa, .bool ma, .string ta], .agg #[.bool nb, .string sb, .bool mb, .string tb]] w (Ret w (.int .i64 (if Rat.divInt (ival na sa) (ival ma ta) < Rat.divInt (ival nb sb) (ival mb tb) then -1 else if Rat.divInt (ival na sa) (ival ma ta) = Rat.divInt (ival nb sb) (ival mb tb) then 0 else 1))) := by
 obtain ⟨w4, hw4⟩ : ∃ w4, w4 = (w.alloc (.cells #[.bool na, .string sa, .bool ma, .string ta] 35)).alloc (.cells #[.bool nb, .string sb, .bool mb, .string tb] 35) := ⟨_, rfl⟩
 have k_a : Blk w4 (w.heap.size) 35 [.bool na, .string sa, .bool ma, .string ta] := by
  rw [hw4]
  have h := ((Blk.new (w) 35 [.bool na, .string sa, .bool ma, .string ta]).alloc (.cells #[.bool nb, .string sb, .bool mb, .string tb] 35))
  (try simp only [World.size_alloc, Nat.add_assoc, Nat.reduceAdd] at h)
  exact h
 have k_b : Blk w4 (w.heap.size + 1) 35 [.bool nb, .string sb, .bool mb, .string tb] := by
  rw [hw4]
  have h := (Blk.new (w.alloc (.cells #[.bool na, .string sa, .bool ma, .string ta] 35)) 35 [.bool nb, .string sb, .bool mb, .string tb])
  (try simp only [World.size_alloc, Nat.add_assoc, Nat.reduceAdd] at h)
  exact h
 have tl : Below w.heap.size w w4 := by
  rw [hw4]
  exact (((Below.refl w.heap.size w).alloc (by simp <;> omega) (.cells #[.bool na, .string sa, .bool ma, .string ta] 35)).alloc (by simp <;> omega) (.cells #[.bool nb, .string sb, .bool mb, .string tb] 35))
 have hs4 : w4.heap.size = w.heap.size + 2 := by rw [hw4]; simp only [World.size_alloc]
 obtain ⟨a_0, a_f0, a_1, a_f1, a_2, a_f2, a_3, a_f3⟩ := k_a.f4
 have HA := zh k_a; clear k_a
 obtain ⟨b_0, b_f0, b_1, b_f1, b_2, b_f2, b_3, b_f3⟩ := k_b.f4
 have HB := zh k_b; clear k_b
 have HBL := zh tl; clear tl
 have hca := fun w' => canonical_any na ma sa ta w' (by omega) (by omega)
 have hcb := fun w' => canonical_any nb mb sb tb w' (by omega) (by omega)
 have hqa := divInt_sized (ival_sized h1 na) (ival_sized h2 ma) (by decide)
 have hqb := divInt_sized (ival_sized h3 nb) (ival_sized h4 mb) (by decide)
 obtain ⟨qa, ha⟩ : ∃ q, q = Rat.divInt (ival na sa) (ival ma ta) := ⟨_, rfl⟩
 obtain ⟨qb, hb⟩ : ∃ q, q = Rat.divInt (ival nb sb) (ival mb tb) := ⟨_, rfl⟩
 rw [← ha] at hca hqa ⊢
 rw [← hb] at hcb hqb ⊢
 obtain ⟨z1, z3⟩ := hqa
 obtain ⟨z2, z4⟩ := hqb
 have hm1 := fun w' => imulV qa.num (qb.den : Int) w' (Nat.le_trans z1.size (by decide)) (Nat.le_trans z4.size (by decide))
 have hm2 := fun w' => imulV qb.num (qa.den : Int) w' (Nat.le_trans z2.size (by decide)) (Nat.le_trans z3.size (by decide))
 have zx := z1.mul z4
 have zy := z2.mul z3
 have hcm := cmp_rat qa qb
 obtain ⟨x, hx⟩ : ∃ x, x = qa.num * (qb.den : Int) := ⟨_, rfl⟩
 obtain ⟨y, hy⟩ : ∃ y, y = qb.num * (qa.den : Int) := ⟨_, rfl⟩
 rw [← hx] at hm1 zx hcm
 rw [← hy] at hm2 zy hcm
 have hc := fun w' => icompare_any (ineg x) (ineg y) (imag x) (imag y) w' (Nat.le_trans zx.size (by decide)) (Nat.le_trans zy.size (by decide))
 simp only [ival_canon] at hc
 rw [hcm] at hc
 obtain ⟨c, hc0⟩ : ∃ c : Int, c = if qa < qb then -1 else if qa = qb then 0 else 1 := ⟨_, rfl⟩
 rw [← hc0] at hc ⊢
 clear hc0 hcm zx zy hx hy z1 z2 z3 z4 ha hb h1 h2 h3 h4
 have HCA := zh hca; clear hca
 have HCB := zh hcb; clear hcb
 have HM1 := zh hm1; clear hm1
 have HM2 := zh hm2; clear hm2
 have HCM := zh hc; clear hc
 go_enter Try.func9, Try.ntmps9
 go_upto_region 1 with fail
 (try rw [← hw4])
 clear hw4
 (try simp only [Nat.add_assoc, Nat.reduceAdd])
 go_cut [] from 5 to 8 (fun wx => Blk wx w.heap.size 35 [.bool (ineg qa.num), .string (imag qa.num), .bool (ineg (qa.den : Int)), .string (imag (qa.den : Int))] ∧ Blk wx (w.heap.size + 1) 35 [.bool (ineg qb.num), .string (imag qb.num), .bool (ineg (qb.den : Int)), .string (imag (qb.den : Int))] ∧ Below w.heap.size w wx)
 case first =>
  have HA := zh HA.out.drew
  have HB := zh HB.out.drew
  have HBL := zh HBL.out.drew
  refine wp_region_held_drew (S := fun _ => True) (by kernel_rfl) trivial (fun _ => ?_)
  refine wpAnyH_ready (rs := [0, 2]) (by kernel_rfl) (by simp) ?_
  refine (AllReadyH.cons rfl (fun K hK => ?_) (AllReadyH.cons rfl (fun K hK => ?_) AllReadyH.nil))
  ·
   go_simp
   refine hK.out _ _ trivial (fun _ => ?_)
   clear hK K
   (try simp only [Act.put, zA, zB, zC])
   refine wpAnyH_ready (rs := [1, 2]) (by kernel_rfl) (by simp) ?_
   refine (AllReadyH.cons rfl (fun K hK => ?_) (AllReadyH.cons rfl (fun K hK => ?_) AllReadyH.nil))
   ·
    go_simp
    go_at_call 24
    refine (HCA.out _).mono ?_
    rintro e wn50 ⟨hq, rfl⟩
    dsimp only
    refine hK.out _ _ trivial (fun _ => ?_)
    clear hK K
    (try simp only [Act.put, zA, zB, zC])
    have k_a := HA.out.keep hq
    have k_b := HB.out.keep hq
    have tl := HBL.out.trans ((hq).mono HBL.out.size)
    clear HBL HA HB
    clear a_0 a_f0 a_1 a_f1 a_2 a_f2 a_3 a_f3
    obtain ⟨a_0, a_f0, a_1, a_f1, a_2, a_f2, a_3, a_f3⟩ := k_a.f4
    have HA := zh k_a; clear k_a
    clear b_0 b_f0 b_1 b_f1 b_2 b_f2 b_3 b_f3
    obtain ⟨b_0, b_f0, b_1, b_f1, b_2, b_f2, b_3, b_f3⟩ := k_b.f4
    have HB := zh k_b; clear k_b
    have HBL := zh tl; clear tl
    clear hq
    refine wpAnyH_ready (rs := [2]) (by kernel_rfl) (by simp) ?_
    refine (AllReadyH.cons rfl (fun K hK => ?_) AllReadyH.nil)
    ·
     go_simp
     refine hK.out _ _ trivial (fun _ => ?_)
     clear hK K
     (try simp only [Act.put, zA, zB, zC])
     refine wpAnyH_ready (rs := [3]) (by kernel_rfl) (by simp) ?_
     refine (AllReadyH.cons rfl (fun K hK => ?_) AllReadyH.nil)
     ·
      go_simp
      go_at_call 24
      refine (HCB.out _).mono ?_
      rintro e wn51 ⟨hq, rfl⟩
      dsimp only
      refine hK.out _ _ trivial (fun _ => ?_)
      clear hK K
      (try simp only [Act.put, zA, zB, zC])
      have k_a := HA.out.keep hq
      have k_b := HB.out.keep hq
      have tl := HBL.out.trans ((hq).mono HBL.out.size)
      clear HBL HA HB
      clear a_0 a_f0 a_1 a_f1 a_2 a_f2 a_3 a_f3
      obtain ⟨a_0, a_f0, a_1, a_f1, a_2, a_f2, a_3, a_f3⟩ := k_a.f4
      have HA := zh k_a; clear k_a
      clear b_0 b_f0 b_1 b_f1 b_2 b_f2 b_3 b_f3
      obtain ⟨b_0, b_f0, b_1, b_f1, b_2, b_f2, b_3, b_f3⟩ := k_b.f4
      have HB := zh k_b; clear k_b
      have HBL := zh tl; clear tl
      clear hq
      refine wpAnyH_ready (rs := [4]) (by kernel_rfl) (by simp) ?_
      refine (AllReadyH.cons rfl (fun K hK => ?_) AllReadyH.nil)
      ·
       go_simp
       refine hK.out _ _ trivial (fun _ => ?_)
       clear hK K
       (try simp only [Act.put, zA, zB, zC])
       refine wpAnyH_ready (rs := [5]) (by kernel_rfl) (by simp) ?_
       refine (AllReadyH.cons rfl (fun K hK => ?_) AllReadyH.nil)
       ·
        go_simp
        refine hK.out _ _ trivial (fun _ => ?_)
        clear hK K
        (try simp only [Act.put, zA, zB, zC])
        refine wpAnyH_done (by kernel_rfl) ?_ _
        (try simp only [List.getElem_toArray, List.getElem_cons_zero, List.getElem_cons_succ, Act.put, zA, zB, zC])
        go_wp2_with fail
        go_meet
        exact ⟨((((((((HA.out.set 0 (.bool (ineg qa.num))).set 1 (.string (imag qa.num))).set 2 (.bool (ineg (qa.den : Int)))).set 3 (.string (imag (qa.den : Int)))).setOther (a := ⟨w.heap.size + 1, 0, none⟩) (by show w.heap.size + 1 ≠ w.heap.size; omega) (.bool (ineg qb.num))).setOther (a := ⟨w.heap.size + 1, 1, none⟩) (by show w.heap.size + 1 ≠ w.heap.size; omega) (.string (imag qb.num))).setOther (a := ⟨w.heap.size + 1, 2, none⟩) (by show w.heap.size + 1 ≠ w.heap.size; omega) (.bool (ineg (qb.den : Int)))).setOther (a := ⟨w.heap.size + 1, 3, none⟩) (by show w.heap.size + 1 ≠ w.heap.size; omega) (.string (imag (qb.den : Int)))), ((((((((HB.out.setOther (a := ⟨w.heap.size, 0, none⟩) (by show w.heap.size ≠ w.heap.size + 1; omega) (.bool (ineg qa.num))).setOther (a := ⟨w.heap.size, 1, none⟩) (by show w.heap.size ≠ w.heap.size + 1; omega) (.string (imag qa.num))).setOther (a := ⟨w.heap.size, 2, none⟩) (by show w.heap.size ≠ w.heap.size + 1; omega) (.bool (ineg (qa.den : Int)))).setOther (a := ⟨w.heap.size, 3, none⟩) (by show w.heap.size ≠ w.heap.size + 1; omega) (.string (imag (qa.den : Int)))).set 0 (.bool (ineg qb.num))).set 1 (.string (imag qb.num))).set 2 (.bool (ineg (qb.den : Int)))).set 3 (.string (imag (qb.den : Int)))), ((((((((HBL.out.setCell (p := ⟨w.heap.size, 0, none⟩) (by show w.heap.size ≤ w.heap.size; omega) (.bool (ineg qa.num))).setCell (p := ⟨w.heap.size, 1, none⟩) (by show w.heap.size ≤ w.heap.size; omega) (.string (imag qa.num))).setCell (p := ⟨w.heap.size, 2, none⟩) (by show w.heap.size ≤ w.heap.size; omega) (.bool (ineg (qa.den : Int)))).setCell (p := ⟨w.heap.size, 3, none⟩) (by show w.heap.size ≤ w.heap.size; omega) (.string (imag (qa.den : Int)))).setCell (p := ⟨w.heap.size + 1, 0, none⟩) (by show w.heap.size ≤ w.heap.size + 1; omega) (.bool (ineg qb.num))).setCell (p := ⟨w.heap.size + 1, 1, none⟩) (by show w.heap.size ≤ w.heap.size + 1; omega) (.string (imag qb.num))).setCell (p := ⟨w.heap.size + 1, 2, none⟩) (by show w.heap.size ≤ w.heap.size + 1; omega) (.bool (ineg (qb.den : Int)))).setCell (p := ⟨w.heap.size + 1, 3, none⟩) (by show w.heap.size ≤ w.heap.size + 1; omega) (.string (imag (qb.den : Int))))⟩
   ·
    go_simp
    refine hK.out _ _ trivial (fun _ => ?_)
    clear hK K
    (try simp only [Act.put, zA, zB, zC])
    refine wpAnyH_ready (rs := [1]) (by kernel_rfl) (by simp) ?_
    refine (AllReadyH.cons rfl (fun K hK => ?_) AllReadyH.nil)
    ·
     go_simp
     go_at_call 24
     refine (HCA.out _).mono ?_
     rintro e wn50 ⟨hq, rfl⟩
     dsimp only
     refine hK.out _ _ trivial (fun _ => ?_)
     clear hK K
     (try simp only [Act.put, zA, zB, zC])
     have k_a := HA.out.keep hq
     have k_b := HB.out.keep hq
     have tl := HBL.out.trans ((hq).mono HBL.out.size)
     clear HBL HA HB
     clear a_0 a_f0 a_1 a_f1 a_2 a_f2 a_3 a_f3
     obtain ⟨a_0, a_f0, a_1, a_f1, a_2, a_f2, a_3, a_f3⟩ := k_a.f4
     have HA := zh k_a; clear k_a
     clear b_0 b_f0 b_1 b_f1 b_2 b_f2 b_3 b_f3
     obtain ⟨b_0, b_f0, b_1, b_f1, b_2, b_f2, b_3, b_f3⟩ := k_b.f4
     have HB := zh k_b; clear k_b
     have HBL := zh tl; clear tl
     clear hq
     refine wpAnyH_ready (rs := [3]) (by kernel_rfl) (by simp) ?_
     refine (AllReadyH.cons rfl (fun K hK => ?_) AllReadyH.nil)
     ·
      go_simp
      go_at_call 24
      refine (HCB.out _).mono ?_
      rintro e wn51 ⟨hq, rfl⟩
      dsimp only
      refine hK.out _ _ trivial (fun _ => ?_)
      clear hK K
      (try simp only [Act.put, zA, zB, zC])
      have k_a := HA.out.keep hq
      have k_b := HB.out.keep hq
      have tl := HBL.out.trans ((hq).mono HBL.out.size)
      clear HBL HA HB
      clear a_0 a_f0 a_1 a_f1 a_2 a_f2 a_3 a_f3
      obtain ⟨a_0, a_f0, a_1, a_f1, a_2, a_f2, a_3, a_f3⟩ := k_a.f4
      have HA := zh k_a; clear k_a
      clear b_0 b_f0 b_1 b_f1 b_2 b_f2 b_3 b_f3
      obtain ⟨b_0, b_f0, b_1, b_f1, b_2, b_f2, b_3, b_f3⟩ := k_b.f4
      have HB := zh k_b; clear k_b
      have HBL := zh tl; clear tl
      clear hq
      refine wpAnyH_ready (rs := [4]) (by kernel_rfl) (by simp) ?_
      refine (AllReadyH.cons rfl (fun K hK => ?_) AllReadyH.nil)
      ·
       go_simp
       refine hK.out _ _ trivial (fun _ => ?_)
       clear hK K
       (try simp only [Act.put, zA, zB, zC])
       refine wpAnyH_ready (rs := [5]) (by kernel_rfl) (by simp) ?_
       refine (AllReadyH.cons rfl (fun K hK => ?_) AllReadyH.nil)
       ·
        go_simp
        refine hK.out _ _ trivial (fun _ => ?_)
        clear hK K
        (try simp only [Act.put, zA, zB, zC])
        refine wpAnyH_done (by kernel_rfl) ?_ _
        (try simp only [List.getElem_toArray, List.getElem_cons_zero, List.getElem_cons_succ, Act.put, zA, zB, zC])
        go_wp2_with fail
        go_meet
        exact ⟨((((((((HA.out.set 0 (.bool (ineg qa.num))).set 1 (.string (imag qa.num))).set 2 (.bool (ineg (qa.den : Int)))).set 3 (.string (imag (qa.den : Int)))).setOther (a := ⟨w.heap.size + 1, 0, none⟩) (by show w.heap.size + 1 ≠ w.heap.size; omega) (.bool (ineg qb.num))).setOther (a := ⟨w.heap.size + 1, 1, none⟩) (by show w.heap.size + 1 ≠ w.heap.size; omega) (.string (imag qb.num))).setOther (a := ⟨w.heap.size + 1, 2, none⟩) (by show w.heap.size + 1 ≠ w.heap.size; omega) (.bool (ineg (qb.den : Int)))).setOther (a := ⟨w.heap.size + 1, 3, none⟩) (by show w.heap.size + 1 ≠ w.heap.size; omega) (.string (imag (qb.den : Int)))), ((((((((HB.out.setOther (a := ⟨w.heap.size, 0, none⟩) (by show w.heap.size ≠ w.heap.size + 1; omega) (.bool (ineg qa.num))).setOther (a := ⟨w.heap.size, 1, none⟩) (by show w.heap.size ≠ w.heap.size + 1; omega) (.string (imag qa.num))).setOther (a := ⟨w.heap.size, 2, none⟩) (by show w.heap.size ≠ w.heap.size + 1; omega) (.bool (ineg (qa.den : Int)))).setOther (a := ⟨w.heap.size, 3, none⟩) (by show w.heap.size ≠ w.heap.size + 1; omega) (.string (imag (qa.den : Int)))).set 0 (.bool (ineg qb.num))).set 1 (.string (imag qb.num))).set 2 (.bool (ineg (qb.den : Int)))).set 3 (.string (imag (qb.den : Int)))), ((((((((HBL.out.setCell (p := ⟨w.heap.size, 0, none⟩) (by show w.heap.size ≤ w.heap.size; omega) (.bool (ineg qa.num))).setCell (p := ⟨w.heap.size, 1, none⟩) (by show w.heap.size ≤ w.heap.size; omega) (.string (imag qa.num))).setCell (p := ⟨w.heap.size, 2, none⟩) (by show w.heap.size ≤ w.heap.size; omega) (.bool (ineg (qa.den : Int)))).setCell (p := ⟨w.heap.size, 3, none⟩) (by show w.heap.size ≤ w.heap.size; omega) (.string (imag (qa.den : Int)))).setCell (p := ⟨w.heap.size + 1, 0, none⟩) (by show w.heap.size ≤ w.heap.size + 1; omega) (.bool (ineg qb.num))).setCell (p := ⟨w.heap.size + 1, 1, none⟩) (by show w.heap.size ≤ w.heap.size + 1; omega) (.string (imag qb.num))).setCell (p := ⟨w.heap.size + 1, 2, none⟩) (by show w.heap.size ≤ w.heap.size + 1; omega) (.bool (ineg (qb.den : Int)))).setCell (p := ⟨w.heap.size + 1, 3, none⟩) (by show w.heap.size ≤ w.heap.size + 1; omega) (.string (imag (qb.den : Int))))⟩
  ·
   go_simp
   refine hK.out _ _ trivial (fun _ => ?_)
   clear hK K
   (try simp only [Act.put, zA, zB, zC])
   refine wpAnyH_ready (rs := [0]) (by kernel_rfl) (by simp) ?_
   refine (AllReadyH.cons rfl (fun K hK => ?_) AllReadyH.nil)
   ·
    go_simp
    refine hK.out _ _ trivial (fun _ => ?_)
    clear hK K
    (try simp only [Act.put, zA, zB, zC])
    refine wpAnyH_ready (rs := [1]) (by kernel_rfl) (by simp) ?_
    refine (AllReadyH.cons rfl (fun K hK => ?_) AllReadyH.nil)
    ·
     go_simp
     go_at_call 24
     refine (HCA.out _).mono ?_
     rintro e wn50 ⟨hq, rfl⟩
     dsimp only
     refine hK.out _ _ trivial (fun _ => ?_)
     clear hK K
     (try simp only [Act.put, zA, zB, zC])
     have k_a := HA.out.keep hq
     have k_b := HB.out.keep hq
     have tl := HBL.out.trans ((hq).mono HBL.out.size)
     clear HBL HA HB
     clear a_0 a_f0 a_1 a_f1 a_2 a_f2 a_3 a_f3
     obtain ⟨a_0, a_f0, a_1, a_f1, a_2, a_f2, a_3, a_f3⟩ := k_a.f4
     have HA := zh k_a; clear k_a
     clear b_0 b_f0 b_1 b_f1 b_2 b_f2 b_3 b_f3
     obtain ⟨b_0, b_f0, b_1, b_f1, b_2, b_f2, b_3, b_f3⟩ := k_b.f4
     have HB := zh k_b; clear k_b
     have HBL := zh tl; clear tl
     clear hq
     refine wpAnyH_ready (rs := [3]) (by kernel_rfl) (by simp) ?_
     refine (AllReadyH.cons rfl (fun K hK => ?_) AllReadyH.nil)
     ·
      go_simp
      go_at_call 24
      refine (HCB.out _).mono ?_
      rintro e wn51 ⟨hq, rfl⟩
      dsimp only
      refine hK.out _ _ trivial (fun _ => ?_)
      clear hK K
      (try simp only [Act.put, zA, zB, zC])
      have k_a := HA.out.keep hq
      have k_b := HB.out.keep hq
      have tl := HBL.out.trans ((hq).mono HBL.out.size)
      clear HBL HA HB
      clear a_0 a_f0 a_1 a_f1 a_2 a_f2 a_3 a_f3
      obtain ⟨a_0, a_f0, a_1, a_f1, a_2, a_f2, a_3, a_f3⟩ := k_a.f4
      have HA := zh k_a; clear k_a
      clear b_0 b_f0 b_1 b_f1 b_2 b_f2 b_3 b_f3
      obtain ⟨b_0, b_f0, b_1, b_f1, b_2, b_f2, b_3, b_f3⟩ := k_b.f4
      have HB := zh k_b; clear k_b
      have HBL := zh tl; clear tl
      clear hq
      refine wpAnyH_ready (rs := [4]) (by kernel_rfl) (by simp) ?_
      refine (AllReadyH.cons rfl (fun K hK => ?_) AllReadyH.nil)
      ·
       go_simp
       refine hK.out _ _ trivial (fun _ => ?_)
       clear hK K
       (try simp only [Act.put, zA, zB, zC])
       refine wpAnyH_ready (rs := [5]) (by kernel_rfl) (by simp) ?_
       refine (AllReadyH.cons rfl (fun K hK => ?_) AllReadyH.nil)
       ·
        go_simp
        refine hK.out _ _ trivial (fun _ => ?_)
        clear hK K
        (try simp only [Act.put, zA, zB, zC])
        refine wpAnyH_done (by kernel_rfl) ?_ _
        (try simp only [List.getElem_toArray, List.getElem_cons_zero, List.getElem_cons_succ, Act.put, zA, zB, zC])
        go_wp2_with fail
        go_meet
        exact ⟨((((((((HA.out.set 0 (.bool (ineg qa.num))).set 1 (.string (imag qa.num))).set 2 (.bool (ineg (qa.den : Int)))).set 3 (.string (imag (qa.den : Int)))).setOther (a := ⟨w.heap.size + 1, 0, none⟩) (by show w.heap.size + 1 ≠ w.heap.size; omega) (.bool (ineg qb.num))).setOther (a := ⟨w.heap.size + 1, 1, none⟩) (by show w.heap.size + 1 ≠ w.heap.size; omega) (.string (imag qb.num))).setOther (a := ⟨w.heap.size + 1, 2, none⟩) (by show w.heap.size + 1 ≠ w.heap.size; omega) (.bool (ineg (qb.den : Int)))).setOther (a := ⟨w.heap.size + 1, 3, none⟩) (by show w.heap.size + 1 ≠ w.heap.size; omega) (.string (imag (qb.den : Int)))), ((((((((HB.out.setOther (a := ⟨w.heap.size, 0, none⟩) (by show w.heap.size ≠ w.heap.size + 1; omega) (.bool (ineg qa.num))).setOther (a := ⟨w.heap.size, 1, none⟩) (by show w.heap.size ≠ w.heap.size + 1; omega) (.string (imag qa.num))).setOther (a := ⟨w.heap.size, 2, none⟩) (by show w.heap.size ≠ w.heap.size + 1; omega) (.bool (ineg (qa.den : Int)))).setOther (a := ⟨w.heap.size, 3, none⟩) (by show w.heap.size ≠ w.heap.size + 1; omega) (.string (imag (qa.den : Int)))).set 0 (.bool (ineg qb.num))).set 1 (.string (imag qb.num))).set 2 (.bool (ineg (qb.den : Int)))).set 3 (.string (imag (qb.den : Int)))), ((((((((HBL.out.setCell (p := ⟨w.heap.size, 0, none⟩) (by show w.heap.size ≤ w.heap.size; omega) (.bool (ineg qa.num))).setCell (p := ⟨w.heap.size, 1, none⟩) (by show w.heap.size ≤ w.heap.size; omega) (.string (imag qa.num))).setCell (p := ⟨w.heap.size, 2, none⟩) (by show w.heap.size ≤ w.heap.size; omega) (.bool (ineg (qa.den : Int)))).setCell (p := ⟨w.heap.size, 3, none⟩) (by show w.heap.size ≤ w.heap.size; omega) (.string (imag (qa.den : Int)))).setCell (p := ⟨w.heap.size + 1, 0, none⟩) (by show w.heap.size ≤ w.heap.size + 1; omega) (.bool (ineg qb.num))).setCell (p := ⟨w.heap.size + 1, 1, none⟩) (by show w.heap.size ≤ w.heap.size + 1; omega) (.string (imag qb.num))).setCell (p := ⟨w.heap.size + 1, 2, none⟩) (by show w.heap.size ≤ w.heap.size + 1; omega) (.bool (ineg (qb.den : Int)))).setCell (p := ⟨w.heap.size + 1, 3, none⟩) (by show w.heap.size ≤ w.heap.size + 1; omega) (.string (imag (qb.den : Int))))⟩
 case rest =>
  obtain ⟨k_a, k_b, tl⟩ := hcut
  clear HA HB HBL
  clear a_0 a_f0 a_1 a_f1 a_2 a_f2 a_3 a_f3
  obtain ⟨a_0, a_f0, a_1, a_f1, a_2, a_f2, a_3, a_f3⟩ := k_a.f4
  have HA := zh k_a; clear k_a
  clear b_0 b_f0 b_1 b_f1 b_2 b_f2 b_3 b_f3
  obtain ⟨b_0, b_f0, b_1, b_f1, b_2, b_f2, b_3, b_f3⟩ := k_b.f4
  have HB := zh k_b; clear k_b
  have HBL := zh tl; clear tl
  go_wp2_with fail
  have HA := zh HA.out.drew
  have HB := zh HB.out.drew
  have HBL := zh HBL.out.drew
  refine wp_region_held_drew (S := fun w' => w'.cell? ⟨w.heap.size, 0, none⟩ = some (.bool (ineg qa.num)) ∧ w'.cell? ⟨w.heap.size, 1, none⟩ = some (.string (imag qa.num)) ∧ w'.cell? ⟨w.heap.size, 2, none⟩ = some (.bool (ineg (qa.den : Int))) ∧ w'.cell? ⟨w.heap.size, 3, none⟩ = some (.string (imag (qa.den : Int))) ∧ w'.cell? ⟨w.heap.size + 1, 0, none⟩ = some (.bool (ineg qb.num)) ∧ w'.cell? ⟨w.heap.size + 1, 1, none⟩ = some (.string (imag qb.num)) ∧ w'.cell? ⟨w.heap.size + 1, 2, none⟩ = some (.bool (ineg (qb.den : Int))) ∧ w'.cell? ⟨w.heap.size + 1, 3, none⟩ = some (.string (imag (qb.den : Int)))) (by kernel_rfl) ?_ (fun hHeld0 => ?_)
  ·
   go_keep
  refine zT 0 (h := ?_)
  (try simp only [Act.put, zA, zB, zC])
  refine zT 1 (h := ?_)
  (try simp only [Act.put, zA, zB, zC])
  refine zT 2 (h := ?_)
  (try simp only [Act.put, zA, zB, zC])
  refine zT 3 (h := ?_)
  (try simp only [Act.put, zA, zB, zC])
  refine zT 5 (h := ?_)
  (try simp only [Act.put, zA, zB, zC])
  refine zT 6 (h := ?_)
  (try simp only [Act.put, zA, zB, zC])
  refine zT 7 (h := ?_)
  (try simp only [Act.put, zA, zB, zC])
  refine zT 8 (h := ?_)
  (try simp only [Act.put, zA, zB, zC])
  refine zR 4 (h := fun K hK => ?_)
  go_simp
  go_at_call 21
  refine (HM1.out _).mono ?_
  rintro e w5 ⟨hq, rfl⟩
  dsimp only
  have z0 := zK hq HA.out.lt hHeld0.1
  have z1 := zK hq HA.out.lt hHeld0.2.1
  have z2 := zK hq HA.out.lt hHeld0.2.2.1
  have z3 := zK hq HA.out.lt hHeld0.2.2.2.1
  have z4 := zK hq HB.out.lt hHeld0.2.2.2.2.1
  have z5 := zK hq HB.out.lt hHeld0.2.2.2.2.2.1
  have z6 := zK hq HB.out.lt hHeld0.2.2.2.2.2.2.1
  have z7 := zK hq HB.out.lt hHeld0.2.2.2.2.2.2.2
  refine hK.out _ _ ⟨z0, z1, z2, z3, z4, z5, z6, z7⟩ (fun hHeld1 => ?_)
  clear hK K hHeld0 z0 z1 z2 z3 z4 z5 z6 z7
  (try simp only [Act.put, zA, zB, zC])
  have k_a := HA.out.keep hq
  have k_b := HB.out.keep hq
  have tl := HBL.out.trans ((hq).mono HBL.out.size)
  clear HBL HA HB
  clear a_0 a_f0 a_1 a_f1 a_2 a_f2 a_3 a_f3
  obtain ⟨a_0, a_f0, a_1, a_f1, a_2, a_f2, a_3, a_f3⟩ := k_a.f4
  have HA := zh k_a; clear k_a
  clear b_0 b_f0 b_1 b_f1 b_2 b_f2 b_3 b_f3
  obtain ⟨b_0, b_f0, b_1, b_f1, b_2, b_f2, b_3, b_f3⟩ := k_b.f4
  have HB := zh k_b; clear k_b
  have HBL := zh tl; clear tl
  clear hq
  refine zR 9 (h := fun K hK => ?_)
  go_simp
  go_at_call 21
  refine (HM2.out _).mono ?_
  rintro e w6 ⟨hq, rfl⟩
  dsimp only
  have z0 := zK hq HA.out.lt hHeld1.1
  have z1 := zK hq HA.out.lt hHeld1.2.1
  have z2 := zK hq HA.out.lt hHeld1.2.2.1
  have z3 := zK hq HA.out.lt hHeld1.2.2.2.1
  have z4 := zK hq HB.out.lt hHeld1.2.2.2.2.1
  have z5 := zK hq HB.out.lt hHeld1.2.2.2.2.2.1
  have z6 := zK hq HB.out.lt hHeld1.2.2.2.2.2.2.1
  have z7 := zK hq HB.out.lt hHeld1.2.2.2.2.2.2.2
  refine hK.out _ _ ⟨z0, z1, z2, z3, z4, z5, z6, z7⟩ (fun hHeld2 => ?_)
  clear hK K hHeld1 z0 z1 z2 z3 z4 z5 z6 z7
  (try simp only [Act.put, zA, zB, zC])
  have k_a := HA.out.keep hq
  have k_b := HB.out.keep hq
  have tl := HBL.out.trans ((hq).mono HBL.out.size)
  clear HBL HA HB
  clear a_0 a_f0 a_1 a_f1 a_2 a_f2 a_3 a_f3
  obtain ⟨a_0, a_f0, a_1, a_f1, a_2, a_f2, a_3, a_f3⟩ := k_a.f4
  have HA := zh k_a; clear k_a
  clear b_0 b_f0 b_1 b_f1 b_2 b_f2 b_3 b_f3
  obtain ⟨b_0, b_f0, b_1, b_f1, b_2, b_f2, b_3, b_f3⟩ := k_b.f4
  have HB := zh k_b; clear k_b
  have HBL := zh tl; clear tl
  clear hq
  refine zR 10 (h := fun K hK => ?_)
  go_simp
  go_at_call 25
  refine (HCM.out _).mono ?_
  rintro e w7 ⟨hq, rfl⟩
  dsimp only
  have z0 := zK hq HA.out.lt hHeld2.1
  have z1 := zK hq HA.out.lt hHeld2.2.1
  have z2 := zK hq HA.out.lt hHeld2.2.2.1
  have z3 := zK hq HA.out.lt hHeld2.2.2.2.1
  have z4 := zK hq HB.out.lt hHeld2.2.2.2.2.1
  have z5 := zK hq HB.out.lt hHeld2.2.2.2.2.2.1
  have z6 := zK hq HB.out.lt hHeld2.2.2.2.2.2.2.1
  have z7 := zK hq HB.out.lt hHeld2.2.2.2.2.2.2.2
  refine hK.out _ _ ⟨z0, z1, z2, z3, z4, z5, z6, z7⟩ (fun hHeld3 => ?_)
  clear hK K hHeld2 z0 z1 z2 z3 z4 z5 z6 z7
  (try simp only [Act.put, zA, zB, zC])
  have k_a := HA.out.keep hq
  have k_b := HB.out.keep hq
  have tl := HBL.out.trans ((hq).mono HBL.out.size)
  clear HBL HA HB
  clear a_0 a_f0 a_1 a_f1 a_2 a_f2 a_3 a_f3
  obtain ⟨a_0, a_f0, a_1, a_f1, a_2, a_f2, a_3, a_f3⟩ := k_a.f4
  have HA := zh k_a; clear k_a
  clear b_0 b_f0 b_1 b_f1 b_2 b_f2 b_3 b_f3
  obtain ⟨b_0, b_f0, b_1, b_f1, b_2, b_f2, b_3, b_f3⟩ := k_b.f4
  have HB := zh k_b; clear k_b
  have HBL := zh tl; clear tl
  clear hq
  refine zT 11 (h := ?_)
  (try simp only [Act.put, zA, zB, zC])
  refine wpAnyH_done (by kernel_rfl) ?_ _
  (try simp only [List.getElem_toArray, List.getElem_cons_zero, List.getElem_cons_succ, Act.put, zA, zB, zC])
  go_wp2_with fail
  go_ret
  exact ⟨HBL.out, rfl⟩
set_option maxRecDepth 100000 in
set_option maxHeartbeats 3200000 in
theorem rquo_any (na ma : Bool) (sa ta : ByteArray) (nb mb : Bool) (sb tb : ByteArray) (w : World) (h1 : sa.size ≤ 20000000000) (h2 : ta.size ≤ 20000000000) (h3 : sb.size ≤ 20000000000) (h4 : tb.size ≤ 20000000000) (h0 : Rat.divInt (ival nb sb) (ival mb tb) ≠ 0) :
  Calls Try.prog 57 #[.agg #[.bool na, .string sa, .bool ma, .string ta], .agg #[.bool nb, .string sb, .bool mb, .string tb]] w (Ret w (.tuple #[RatV (Rat.divInt (ival na sa) (ival ma ta) / Rat.divInt (ival nb sb) (ival mb tb)), .int .i64 0])) := by
 obtain ⟨w4, hw4⟩ : ∃ w4, w4 = ((w.alloc (.cells #[.bool na, .string sa, .bool ma, .string ta] 35)).alloc (.cells #[.bool nb, .string sb, .bool mb, .string tb] 35)).alloc (.cells #[.bool false, .string ⟨#[]⟩, .bool false, .string ⟨#[]⟩] 35) := ⟨_, rfl⟩
 have k_a : Blk w4 (w.heap.size) 35 [.bool na, .string sa, .bool ma, .string ta] := by
  rw [hw4]
  have h := (((Blk.new (w) 35 [.bool na, .string sa, .bool ma, .string ta]).alloc (.cells #[.bool nb, .string sb, .bool mb, .string tb] 35)).alloc (.cells #[.bool false, .string ⟨#[]⟩, .bool false, .string ⟨#[]⟩] 35))
  (try simp only [World.size_alloc, Nat.add_assoc, Nat.reduceAdd] at h)
  exact h
 have k_b : Blk w4 (w.heap.size + 1) 35 [.bool nb, .string sb, .bool mb, .string tb] := by
  rw [hw4]
  have h := ((Blk.new (w.alloc (.cells #[.bool na, .string sa, .bool ma, .string ta] 35)) 35 [.bool nb, .string sb, .bool mb, .string tb]).alloc (.cells #[.bool false, .string ⟨#[]⟩, .bool false, .string ⟨#[]⟩] 35))
  (try simp only [World.size_alloc, Nat.add_assoc, Nat.reduceAdd] at h)
  exact h
 have k_r : Blk w4 (w.heap.size + 2) 35 [.bool false, .string ⟨#[]⟩, .bool false, .string ⟨#[]⟩] := by
  rw [hw4]
  have h := (Blk.new ((w.alloc (.cells #[.bool na, .string sa, .bool ma, .string ta] 35)).alloc (.cells #[.bool nb, .string sb, .bool mb, .string tb] 35)) 35 [.bool false, .string ⟨#[]⟩, .bool false, .string ⟨#[]⟩])
  (try simp only [World.size_alloc, Nat.add_assoc, Nat.reduceAdd] at h)
  exact h
 have tl : Below w.heap.size w w4 := by
  rw [hw4]
  exact ((((Below.refl w.heap.size w).alloc (by simp <;> omega) (.cells #[.bool na, .string sa, .bool ma, .string ta] 35)).alloc (by simp <;> omega) (.cells #[.bool nb, .string sb, .bool mb, .string tb] 35)).alloc (by simp <;> omega) (.cells #[.bool false, .string ⟨#[]⟩, .bool false, .string ⟨#[]⟩] 35))
 have hs4 : w4.heap.size = w.heap.size + 3 := by rw [hw4]; simp only [World.size_alloc]
 obtain ⟨a_0, a_f0, a_1, a_f1, a_2, a_f2, a_3, a_f3⟩ := k_a.f4
 have HA := zh k_a; clear k_a
 obtain ⟨b_0, b_f0, b_1, b_f1, b_2, b_f2, b_3, b_f3⟩ := k_b.f4
 have HB := zh k_b; clear k_b
 obtain ⟨r_0, r_f0, r_1, r_f1, r_2, r_f2, r_3, r_f3⟩ := k_r.f4
 have HR := zh k_r; clear k_r
 have HBL := zh tl; clear tl
 have hcb := fun w' => canonical_any nb mb sb tb w' (by omega) (by omega)
 have hdo := fun w' => do3_any na ma sa ta nb mb sb tb w' h1 h2 h3 h4
 obtain ⟨qa, ha⟩ : ∃ q, q = Rat.divInt (ival na sa) (ival ma ta) := ⟨_, rfl⟩
 obtain ⟨qb, hb⟩ : ∃ q, q = Rat.divInt (ival nb sb) (ival mb tb) := ⟨_, rfl⟩
 rw [← ha] at hdo ⊢
 rw [← hb] at hcb hdo h0 ⊢
 have hn : ¬ qb.num = 0 := fun e => h0 (Rat.num_eq_zero.1 e)
 have hnd : decide (qb.num = 0) = false := decide_eq_false hn
 have hez := fun w' => eqIn_zero2 qb.num w'
 obtain ⟨q, hq'⟩ : ∃ q, q = qa / qb := ⟨_, rfl⟩
 rw [← hq'] at hdo ⊢
 clear hq' ha hb h0 h1 h2 h3 h4
 have HCB := zh hcb; clear hcb
 have HDO := zh hdo; clear hdo
 go_enter Try.func57, Try.ntmps57
 go_wp2_with fail
 (try rw [← hw4])
 clear hw4
 (try simp only [Nat.add_assoc, Nat.reduceAdd])
 refine (HCB.out _).mono ?_
 rintro e w5 ⟨hq, rfl⟩
 dsimp only
 have k_a := HA.out.keep hq
 have k_b := HB.out.keep hq
 have k_r := HR.out.keep hq
 have tl := HBL.out.trans ((hq).mono HBL.out.size)
 clear HBL HA HB HR
 clear a_0 a_f0 a_1 a_f1 a_2 a_f2 a_3 a_f3
 obtain ⟨a_0, a_f0, a_1, a_f1, a_2, a_f2, a_3, a_f3⟩ := k_a.f4
 have HA := zh k_a; clear k_a
 clear b_0 b_f0 b_1 b_f1 b_2 b_f2 b_3 b_f3
 obtain ⟨b_0, b_f0, b_1, b_f1, b_2, b_f2, b_3, b_f3⟩ := k_b.f4
 have HB := zh k_b; clear k_b
 clear r_0 r_f0 r_1 r_f1 r_2 r_f2 r_3 r_f3
 obtain ⟨r_0, r_f0, r_1, r_f1, r_2, r_f2, r_3, r_f3⟩ := k_r.f4
 have HR := zh k_r; clear k_r
 have HBL := zh tl; clear tl
 clear hq
 go_wp2_with fail
 refine (HDO.out _).mono ?_
 rintro e w6 ⟨hq, rfl⟩
 dsimp only
 have k_a := HA.out.keep hq
 have k_b := HB.out.keep hq
 have k_r := HR.out.keep hq
 have tl := HBL.out.trans ((hq).mono HBL.out.size)
 clear HBL HA HB HR
 clear a_0 a_f0 a_1 a_f1 a_2 a_f2 a_3 a_f3
 obtain ⟨a_0, a_f0, a_1, a_f1, a_2, a_f2, a_3, a_f3⟩ := k_a.f4
 have HA := zh k_a; clear k_a
 clear b_0 b_f0 b_1 b_f1 b_2 b_f2 b_3 b_f3
 obtain ⟨b_0, b_f0, b_1, b_f1, b_2, b_f2, b_3, b_f3⟩ := k_b.f4
 have HB := zh k_b; clear k_b
 clear r_0 r_f0 r_1 r_f1 r_2 r_f2 r_3 r_f3
 obtain ⟨r_0, r_f0, r_1, r_f1, r_2, r_f2, r_3, r_f3⟩ := k_r.f4
 have HR := zh k_r; clear k_r
 have HBL := zh tl; clear tl
 clear hq
 go_wp2_with fail
 have hrv : RatV q = .agg #[.bool (ineg q.num), .string (imag q.num), .bool (ineg (q.den : Int)), .string (imag (q.den : Int))] := rfl
 have kz := ((((HR.out.set 0 (.bool (ineg q.num))).set 1 (.string (imag q.num))).set 2 (.bool (ineg (q.den : Int)))).set 3 (.string (imag (q.den : Int))))
 have sz := ((((HBL.out.setCell (p := ⟨w.heap.size + 2, 0, none⟩) (by show w.heap.size ≤ w.heap.size + 2; omega) (.bool (ineg q.num))).setCell (p := ⟨w.heap.size + 2, 1, none⟩) (by show w.heap.size ≤ w.heap.size + 2; omega) (.string (imag q.num))).setCell (p := ⟨w.heap.size + 2, 2, none⟩) (by show w.heap.size ≤ w.heap.size + 2; omega) (.bool (ineg (q.den : Int)))).setCell (p := ⟨w.heap.size + 2, 3, none⟩) (by show w.heap.size ≤ w.heap.size + 2; omega) (.string (imag (q.den : Int))))
 have e0 := kz.c 0 rfl
 have e1 := kz.c 1 rfl
 have e2 := kz.c 2 rfl
 have e3 := kz.c 3 rfl
 refine bodyPost_ret (v := .tuple #[RatV q, .int .i64 0]) (by rw [hrv]; simp [results, Try.results57, go_sem, e0, e1, e2, e3]) rfl ⟨sz, rfl⟩
end Go.Proofs.Ytjpalbonclgflaa
