/- sturm.count (printed by gen_chg.py). -/
import Derived.Test.YtjpalbonclgflaaStC
namespace Go.Proofs.Ytjpalbonclgflaa
open Go.RowKit

set_option maxRecDepth 100000 in
set_option maxHeartbeats 3200000 in
theorem scount_any (rows : List (List Int)) (v : Value) (na ma : Bool) (sa ta : ByteArray) (nb mb : Bool) (sb tb : ByteArray) (w : World) (m : Nat) (ht : Tab w v rows) (hlr : rows.length ≤ 1000) (hs : ∀ p ∈ rows, p.length ≤ 65 ∧ ∀ x ∈ p, zs m x) (hm : m ≤ 1000000000)
  (h1 : sa.size ≤ 1000000000) (h2 : ta.size ≤ 1000000000) (h3 : sb.size ≤ 1000000000) (h4 : tb.size ≤ 1000000000) :
  Calls Try.prog 28 #[v, .agg #[.bool na, .string sa, .bool ma, .string ta], .agg #[.bool nb, .string sb, .bool mb, .string tb]] w (Ret w (.int .i64 ((chg rows (Rat.divInt (ival na sa) (ival ma ta)) : Int) - (chg rows (Rat.divInt (ival nb sb) (ival mb tb)) : Int)))) := by
 obtain ⟨va, vc, rfl, -⟩ : ∃ a c, v = .slice a rows.length c ∧ True := by obtain ⟨rvs, -, hrow, -⟩ := ht; obtain ⟨a, c, h, -⟩ := hrow.slice; exact ⟨a, c, h, trivial⟩
 have hc1 : ∀ w', Tab w' (.slice va rows.length vc) rows → Calls Try.prog 18 #[.slice va rows.length vc, .agg #[.bool na, .string sa, .bool ma, .string ta]] w' (Ret w' (.int .i64 (chg rows (Rat.divInt (ival na sa) (ival ma ta)) : Int))) := fun w' h => schanges_any rows _ na ma sa ta w' m h hlr hs hm h1 h2
 have hc2 : ∀ w', Tab w' (.slice va rows.length vc) rows → Calls Try.prog 18 #[.slice va rows.length vc, .agg #[.bool nb, .string sb, .bool mb, .string tb]] w' (Ret w' (.int .i64 (chg rows (Rat.divInt (ival nb sb) (ival mb tb)) : Int))) := fun w' h => schanges_any rows _ nb mb sb tb w' m h hlr hs hm h3 h4
 obtain ⟨qa, ha⟩ : ∃ q, q = Rat.divInt (ival na sa) (ival ma ta) := ⟨_, rfl⟩
 obtain ⟨qb, hb⟩ : ∃ q, q = Rat.divInt (ival nb sb) (ival mb tb) := ⟨_, rfl⟩
 rw [← ha] at hc1 ⊢
 rw [← hb] at hc2 ⊢
 obtain ⟨x, hx⟩ : ∃ x, x = chg rows qa := ⟨_, rfl⟩
 obtain ⟨y, hy⟩ : ∃ y, y = chg rows qb := ⟨_, rfl⟩
 have hxl : x ≤ 1000 := by rw [hx]; exact Nat.le_trans (chg_le _ _) hlr
 have hyl : y ≤ 1000 := by rw [hy]; exact Nat.le_trans (chg_le _ _) hlr
 rw [← hx] at hc1 ⊢
 rw [← hy] at hc2 ⊢
 clear hx hy h1 h2 h3 h4 hs hm ha hb
 have HC1 := zh hc1; clear hc1
 have HC2 := zh hc2; clear hc2
 have HT := zh ht; clear ht
 obtain ⟨w4, hw4⟩ : ∃ w4, w4 = (w.alloc (.cells #[.bool na, .string sa, .bool ma, .string ta] 35)).alloc (.cells #[.bool nb, .string sb, .bool mb, .string tb] 35) := ⟨_, rfl⟩
 have k_a : Blk w4 (w.heap.size) 35 [.bool na, .string sa, .bool ma, .string ta] := by
  rw [hw4]
  have h := ((Blk.new (w) 35 [.bool na, .string sa, .bool ma, .string ta]).alloc (.cells #[.bool nb, .string sb, .bool mb, .string tb] 35))
  (try simp only [World.size_alloc, Nat.add_assoc, Nat.reduceAdd] at h)
  exact h
 have k_b : Blk w4 (w.heap.size + 1) 35 [.bool nb, .string sb, .bool mb, .string tb] := by
  rw [hw4]
  have h := (Blk.new (w.alloc (.cells #[.bool na, .string sa, .bool ma, .string ta] 35)) 35 [.bool nb, .string sb, .bool mb, .string tb])
  (try simp only [World.size_alloc, Nat.add_assoc, Nat.reduceAdd] at h)
  exact h
 have tl : Below w.heap.size w w4 := by
  rw [hw4]
  exact (((Below.refl w.heap.size w).alloc (by simp <;> omega) (.cells #[.bool na, .string sa, .bool ma, .string ta] 35)).alloc (by simp <;> omega) (.cells #[.bool nb, .string sb, .bool mb, .string tb] 35))
 have hs4 : w4.heap.size = w.heap.size + 2 := by rw [hw4]; simp only [World.size_alloc]
 obtain ⟨a_0, a_f0, a_1, a_f1, a_2, a_f2, a_3, a_f3⟩ := k_a.f4
 have HA := zh k_a; clear k_a
 obtain ⟨b_0, b_f0, b_1, b_f1, b_2, b_f2, b_3, b_f3⟩ := k_b.f4
 have HB := zh k_b; clear k_b
 have HBL := zh tl; clear tl
 go_enter Try.func28, Try.ntmps28
 go_wp2_with fail
 (try rw [← hw4])
 clear hw4
 (try simp only [Nat.add_assoc, Nat.reduceAdd])
 have hwr : IntKind.i64.wrap ((x : Int) - (y : Int)) = (x : Int) - (y : Int) := IntWalk.i64_in _ (by omega)
 have ht := (HT.out.below HBL.out (Nat.le_refl _)).drew
 have HTA := zh ht; clear ht
 have HA := zh HA.out.drew
 have HB := zh HB.out.drew
 have HBL := zh HBL.out.drew
 refine wp_region_held_drew (S := fun w' => w'.cell? ⟨w.heap.size, 0, none⟩ = some (.bool na) ∧ w'.cell? ⟨w.heap.size, 1, none⟩ = some (.string sa) ∧ w'.cell? ⟨w.heap.size, 2, none⟩ = some (.bool ma) ∧ w'.cell? ⟨w.heap.size, 3, none⟩ = some (.string ta) ∧ w'.cell? ⟨w.heap.size + 1, 0, none⟩ = some (.bool nb) ∧ w'.cell? ⟨w.heap.size + 1, 1, none⟩ = some (.string sb) ∧ w'.cell? ⟨w.heap.size + 1, 2, none⟩ = some (.bool mb) ∧ w'.cell? ⟨w.heap.size + 1, 3, none⟩ = some (.string tb)) (by kernel_rfl) ?_ (fun hHeld0 => ?_)
 ·
  go_keep
 refine zT 0 (h := ?_)
 (try simp only [Act.put, zA, zB, zC])
 refine zT 1 (h := ?_)
 (try simp only [Act.put, zA, zB, zC])
 refine zT 3 (h := ?_)
 (try simp only [Act.put, zA, zB, zC])
 refine zT 4 (h := ?_)
 (try simp only [Act.put, zA, zB, zC])
 refine zR 2 (h := fun K hK => ?_)
 go_simp
 go_at_call 18
 refine (HC1.out _ HTA.out).mono ?_
 rintro e w5 ⟨hq, rfl⟩
 dsimp only
 have z0 := zK hq HA.out.lt hHeld0.1
 have z1 := zK hq HA.out.lt hHeld0.2.1
 have z2 := zK hq HA.out.lt hHeld0.2.2.1
 have z3 := zK hq HA.out.lt hHeld0.2.2.2.1
 have z4 := zK hq HB.out.lt hHeld0.2.2.2.2.1
 have z5 := zK hq HB.out.lt hHeld0.2.2.2.2.2.1
 have z6 := zK hq HB.out.lt hHeld0.2.2.2.2.2.2.1
 have z7 := zK hq HB.out.lt hHeld0.2.2.2.2.2.2.2
 refine hK.out _ _ ⟨z0, z1, z2, z3, z4, z5, z6, z7⟩ (fun hHeld1 => ?_)
 clear hK K hHeld0 z0 z1 z2 z3 z4 z5 z6 z7
 (try simp only [Act.put, zA, zB, zC])
 have k_a := HA.out.keep hq
 have k_b := HB.out.keep hq
 have tl := HBL.out.trans ((hq).mono HBL.out.size)
 clear HBL HA HB
 clear a_0 a_f0 a_1 a_f1 a_2 a_f2 a_3 a_f3
 obtain ⟨a_0, a_f0, a_1, a_f1, a_2, a_f2, a_3, a_f3⟩ := k_a.f4
 have HA := zh k_a; clear k_a
 clear b_0 b_f0 b_1 b_f1 b_2 b_f2 b_3 b_f3
 obtain ⟨b_0, b_f0, b_1, b_f1, b_2, b_f2, b_3, b_f3⟩ := k_b.f4
 have HB := zh k_b; clear k_b
 have HBL := zh tl; clear tl
 clear hq
 have ht := HT.out.below HBL.out (Nat.le_refl _)
 have HTB := zh ht; clear ht
 refine zR 5 (h := fun K hK => ?_)
 go_simp
 go_at_call 18
 refine (HC2.out _ HTB.out).mono ?_
 rintro e w6 ⟨hq, rfl⟩
 dsimp only
 have z0 := zK hq HA.out.lt hHeld1.1
 have z1 := zK hq HA.out.lt hHeld1.2.1
 have z2 := zK hq HA.out.lt hHeld1.2.2.1
 have z3 := zK hq HA.out.lt hHeld1.2.2.2.1
 have z4 := zK hq HB.out.lt hHeld1.2.2.2.2.1
 have z5 := zK hq HB.out.lt hHeld1.2.2.2.2.2.1
 have z6 := zK hq HB.out.lt hHeld1.2.2.2.2.2.2.1
 have z7 := zK hq HB.out.lt hHeld1.2.2.2.2.2.2.2
 refine hK.out _ _ ⟨z0, z1, z2, z3, z4, z5, z6, z7⟩ (fun hHeld2 => ?_)
 clear hK K hHeld1 z0 z1 z2 z3 z4 z5 z6 z7
 (try simp only [Act.put, zA, zB, zC])
 have k_a := HA.out.keep hq
 have k_b := HB.out.keep hq
 have tl := HBL.out.trans ((hq).mono HBL.out.size)
 clear HBL HA HB
 clear a_0 a_f0 a_1 a_f1 a_2 a_f2 a_3 a_f3
 obtain ⟨a_0, a_f0, a_1, a_f1, a_2, a_f2, a_3, a_f3⟩ := k_a.f4
 have HA := zh k_a; clear k_a
 clear b_0 b_f0 b_1 b_f1 b_2 b_f2 b_3 b_f3
 obtain ⟨b_0, b_f0, b_1, b_f1, b_2, b_f2, b_3, b_f3⟩ := k_b.f4
 have HB := zh k_b; clear k_b
 have HBL := zh tl; clear tl
 clear hq
 refine zT 6 (h := ?_)
 (try simp only [Act.put, zA, zB, zC])
 refine zT 7 (h := ?_)
 (try simp only [Act.put, zA, zB, zC])
 refine wpAnyH_done (by kernel_rfl) ?_ _
 (try simp only [List.getElem_toArray, List.getElem_cons_zero, List.getElem_cons_succ, Act.put, zA, zB, zC])
 go_wp2_with fail
 go_ret
 refine ⟨HBL.out, ?_⟩
 rw [← hwr]
 rfl
end Go.Proofs.Ytjpalbonclgflaa
