/- rational.Check; slices.IndexFunc, ContainsFunc over rationals (printed by gen_chkq.py). -/
import Derived.Shelf.Abstract
import Derived.Test.YtjpalbonclgflaaRatD
namespace Go.Proofs.Ytjpalbonclgflaa
open Go.RowKit

set_option maxRecDepth 100000 in
theorem eqIn_intD (d : Nat) (a b : Bool) (s t : ByteArray) (w : World) : (Op.equalIn (d + 2) 33 (.agg #[.bool a, .string s]) (.agg #[.bool b, .string t])).run Try.prog w = .ok (a == b && s == t) w := by
 have e : ∀ fs, (Try.prog.fieldsOf 33).toList = fs → (Op.eqFields (d + 1) #[.bool a, .string s] #[.bool b, .string t] fs).run Try.prog w = .ok (a == b && s == t) w := by
  intro fs hfs
  have hm := iqFlds
  rw [hfs] at hm
  match fs, hm with
  | [f0, f1], hm =>
   simp only [List.map_cons, List.map_nil, List.cons.injEq, Prod.mk.injEq, and_true] at hm
   obtain ⟨⟨t0, o0, n0⟩, ⟨t1, o1, n1⟩⟩ := hm
   rw [beq_eq_false_iff_ne] at n0 n1
   simp [Op.eqFields, n0, n1, t0, o0, t1, o1, Go.part, Try.isAgg4, Try.isAgg9, run_equalIn_bool', run_equalIn_string, Try.underlying4, Try.underlying9]
   rw [beq_toListBytes]
   by_cases h1 : a = b <;> by_cases h2 : s.toList = t.toList <;> simp [h1, h2]
 exact (run_equalIn_struct (P := Try.prog) w (d + 1) 33 _ _ iqType iqStood).trans (e _ rfl)
theorem rqType : Try.prog.underlying 35 = some (.struct (Try.prog.fieldsOf 35)) := by kernel_rfl
theorem rqStood : Try.prog.stoodInHeld 35 = false := by kernel_rfl
theorem rqFlds : (Try.prog.fieldsOf 35).toList.map (fun f => (f.type, f.offset, f.name == "_")) = [(33, 0, false), (33, 2, false)] := by kernel_rfl
theorem part0 (a b : Bool) (s t : ByteArray) (w : World) : (Go.part 33 #[.bool a, .string s, .bool b, .string t] 0).run Try.prog w = .ok (.agg #[.bool a, .string s]) w := by kernel_rfl
theorem part2 (a b : Bool) (s t : ByteArray) (w : World) : (Go.part 33 #[.bool a, .string s, .bool b, .string t] 2).run Try.prog w = .ok (.agg #[.bool b, .string t]) w := by kernel_rfl
set_option maxRecDepth 100000 in
theorem eqIn_ratD (d : Nat) (a b a' b' : Bool) (s t s' t' : ByteArray) (w : World) : (Op.equalIn (d + 4) 35 (.agg #[.bool a, .string s, .bool b, .string t]) (.agg #[.bool a', .string s', .bool b', .string t'])).run Try.prog w = .ok ((a == a' && s == s') && (b == b' && t == t')) w := by
 have e : ∀ fs, (Try.prog.fieldsOf 35).toList = fs → (Op.eqFields (d + 3) #[.bool a, .string s, .bool b, .string t] #[.bool a', .string s', .bool b', .string t'] fs).run Try.prog w = .ok ((a == a' && s == s') && (b == b' && t == t')) w := by
  intro fs hfs
  have hm := rqFlds
  rw [hfs] at hm
  match fs, hm with
  | [f0, f1], hm =>
   simp only [List.map_cons, List.map_nil, List.cons.injEq, Prod.mk.injEq, and_true] at hm
   obtain ⟨⟨t0, o0, n0⟩, ⟨t1, o1, n1⟩⟩ := hm
   rw [beq_eq_false_iff_ne] at n0 n1
   have h1 := fun w => eqIn_intD (d + 1) a a' s s' w
   have h2 := fun w => eqIn_intD (d + 1) b b' t t' w
   obtain ⟨u, hu⟩ : ∃ u, u = (a == a' && s == s') := ⟨_, rfl⟩
   obtain ⟨v, hv⟩ : ∃ v, v = (b == b' && t == t') := ⟨_, rfl⟩
   rw [← hu] at h1 ⊢
   rw [← hv] at h2 ⊢
   simp only [show d + 1 + 2 = d + 3 by omega] at h1 h2
   cases u <;> cases v <;> simp [Op.eqFields, n0, n1, t0, o0, t1, o1, part0, part2, h1, h2]
 exact (run_equalIn_struct (P := Try.prog) w (d + 3) 35 _ _ rqType rqStood).trans (e _ rfl)
abbrev RawQ := Bool × ByteArray × Bool × ByteArray
def rqv (x : RawQ) : Rat := Rat.divInt (ival x.1 x.2.1) (ival x.2.2.1 x.2.2.2)
def cqB (x : RawQ) : Bool := (ineg (rqv x).num == x.1 && imag (rqv x).num == x.2.1) && (ineg ((rqv x).den : Int) == x.2.2.1 && imag ((rqv x).den : Int) == x.2.2.2)
def crv (l : List RawQ) : List Value := l.flatMap fun x => [.bool x.1, .string x.2.1, .bool x.2.2.1, .string x.2.2.2]
theorem crv_get {l : List RawQ} {k : Nat} {x : RawQ} (h : l[k]? = some x) : (crv l)[k * 4]? = some (.bool x.1) ∧ (crv l)[k * 4 + 1]? = some (.string x.2.1) ∧ (crv l)[k * 4 + 2]? = some (.bool x.2.2.1) ∧ (crv l)[k * 4 + 3]? = some (.string x.2.2.2) := by
 induction l generalizing k with
 | nil => simp at h
 | cons y l ih =>
  have e : crv (y :: l) = [.bool y.1, .string y.2.1, .bool y.2.2.1, .string y.2.2.2] ++ crv l := rfl
  cases k with
  | zero => simp at h; subst h; rw [e]; exact ⟨rfl, rfl, rfl, rfl⟩
  | succ k =>
   have := ih (k := k) (by simpa using h)
   have e1 : (k + 1) * 4 = k * 4 + 4 := by omega
   rw [e, e1]
   exact this
theorem rat_cells {w w' : World} {B b off : Nat} {l : List RawQ} {k : Nat} {x : RawQ} (hce : ∀ (j : Nat) (u : Value), (crv l)[j]? = some u → w.cell? ⟨b, off + j, none⟩ = some u) (hb : Below B w w') (hlt : b < B) (h : l[k]? = some x) :
  w'.cell? ⟨b, off + k * 4, none⟩ = some (.bool x.1) ∧ w'.cell? ⟨b, off + k * 4 + 1, none⟩ = some (.string x.2.1) ∧ w'.cell? ⟨b, off + k * 4 + 2, none⟩ = some (.bool x.2.2.1) ∧ w'.cell? ⟨b, off + k * 4 + 3, none⟩ = some (.string x.2.2.2) :=
 ⟨(hb.cell (p := ⟨b, off + k * 4, none⟩) hlt).trans (hce (k * 4) _ (crv_get h).1), (hb.cell (p := ⟨b, off + k * 4 + 1, none⟩) hlt).trans (hce (k * 4 + 1) _ (crv_get h).2.1), (hb.cell (p := ⟨b, off + k * 4 + 2, none⟩) hlt).trans (hce (k * 4 + 2) _ (crv_get h).2.2.1), (hb.cell (p := ⟨b, off + k * 4 + 3, none⟩) hlt).trans (hce (k * 4 + 3) _ (crv_get h).2.2.2)⟩
def oddQ (l : List RawQ) : Bool := l.any fun x => !cqB x
set_option maxRecDepth 100000 in
set_option maxHeartbeats 3200000 in
theorem rcheck_anyQ (na ma : Bool) (sa ta : ByteArray) (w : World) (h1 : sa.size ≤ 20000000000) (h2 : ta.size ≤ 20000000000) :
  Calls Try.prog 51 #[.agg #[.bool na, .string sa, .bool ma, .string ta]] w (Ret w (.int .i64 (if cqB (na, sa, ma, ta) then 0 else 1))) := by
 obtain ⟨w4, hw4⟩ : ∃ w4, w4 = w.alloc (.cells #[.bool na, .string sa, .bool ma, .string ta] 35) := ⟨_, rfl⟩
 have k_a : Blk w4 (w.heap.size) 35 [.bool na, .string sa, .bool ma, .string ta] := by
  rw [hw4]
  have h := (Blk.new (w) 35 [.bool na, .string sa, .bool ma, .string ta])
  (try simp only [World.size_alloc, Nat.add_assoc, Nat.reduceAdd] at h)
  exact h
 have tl : Below w.heap.size w w4 := by
  rw [hw4]
  exact ((Below.refl w.heap.size w).alloc (by simp <;> omega) (.cells #[.bool na, .string sa, .bool ma, .string ta] 35))
 have hs4 : w4.heap.size = w.heap.size + 1 := by rw [hw4]; simp only [World.size_alloc]
 obtain ⟨a_0, a_f0, a_1, a_f1, a_2, a_f2, a_3, a_f3⟩ := k_a.f4
 have HA := zh k_a; clear k_a
 have HBL := zh tl; clear tl
 have hca := fun w' => canonical_any na ma sa ta w' (by omega) (by omega)
 have heq := fun w' => eqIn_ratD 9996 (ineg (Rat.divInt (ival na sa) (ival ma ta)).num) (ineg ((Rat.divInt (ival na sa) (ival ma ta)).den : Int)) na ma (imag (Rat.divInt (ival na sa) (ival ma ta)).num) (imag ((Rat.divInt (ival na sa) (ival ma ta)).den : Int)) sa ta w'
 have hcq : cqB (na, sa, ma, ta) = ((ineg (Rat.divInt (ival na sa) (ival ma ta)).num == na && imag (Rat.divInt (ival na sa) (ival ma ta)).num == sa) && (ineg ((Rat.divInt (ival na sa) (ival ma ta)).den : Int) == ma && imag ((Rat.divInt (ival na sa) (ival ma ta)).den : Int) == ta)) := rfl
 rw [← hcq] at heq
 obtain ⟨q, hq'⟩ : ∃ q, q = Rat.divInt (ival na sa) (ival ma ta) := ⟨_, rfl⟩
 rw [← hq'] at hca heq
 clear hcq hq' h1 h2
 obtain ⟨t, ht⟩ : ∃ t, t = cqB (na, sa, ma, ta) := ⟨_, rfl⟩
 rw [← ht] at heq ⊢
 clear ht
 simp only [Nat.reduceAdd] at heq
 have HCA := zh hca; clear hca
 cases t
 ·
  go_enter Try.func51, Try.ntmps51
  go_wp2_with fail
  (try rw [← hw4])
  clear hw4
  (try simp only [Nat.add_assoc, Nat.reduceAdd])
  have HA := zh HA.out.drew
  have HBL := zh HBL.out.drew
  refine wp_region_held_drew (S := fun w' => w'.cell? ⟨w.heap.size, 0, none⟩ = some (.bool na) ∧ w'.cell? ⟨w.heap.size, 1, none⟩ = some (.string sa) ∧ w'.cell? ⟨w.heap.size, 2, none⟩ = some (.bool ma) ∧ w'.cell? ⟨w.heap.size, 3, none⟩ = some (.string ta)) (by kernel_rfl) ?_ (fun hHeld0 => ?_)
  ·
   go_keep
  refine zT 0 (h := ?_)
  (try simp only [Act.put, zA, zB, zC])
  refine zT 2 (h := ?_)
  (try simp only [Act.put, zA, zB, zC])
  refine zR 1 (h := fun K hK => ?_)
  go_simp
  go_at_call 24
  refine (HCA.out _).mono ?_
  rintro e w5 ⟨hq, rfl⟩
  dsimp only
  have z0 := zK hq HA.out.lt hHeld0.1
  have z1 := zK hq HA.out.lt hHeld0.2.1
  have z2 := zK hq HA.out.lt hHeld0.2.2.1
  have z3 := zK hq HA.out.lt hHeld0.2.2.2
  refine hK.out _ _ ⟨z0, z1, z2, z3⟩ (fun hHeld1 => ?_)
  clear hK K hHeld0 z0 z1 z2 z3
  (try simp only [Act.put, zA, zB, zC])
  have k_a := HA.out.keep hq
  have tl := HBL.out.trans ((hq).mono HBL.out.size)
  clear HBL HA
  clear a_0 a_f0 a_1 a_f1 a_2 a_f2 a_3 a_f3
  obtain ⟨a_0, a_f0, a_1, a_f1, a_2, a_f2, a_3, a_f3⟩ := k_a.f4
  have HA := zh k_a; clear k_a
  have HBL := zh tl; clear tl
  clear hq
  refine zT 3 (h := ?_)
  (try simp only [Act.put, zA, zB, zC])
  refine wpAnyH_done (by kernel_rfl) ?_ _
  (try simp only [List.getElem_toArray, List.getElem_cons_zero, List.getElem_cons_succ, Act.put, zA, zB, zC])
  go_wp2_with fail
  go_ret
  exact ⟨HBL.out, rfl⟩
 ·
  go_enter Try.func51, Try.ntmps51
  go_wp2_with fail
  (try rw [← hw4])
  clear hw4
  (try simp only [Nat.add_assoc, Nat.reduceAdd])
  have HA := zh HA.out.drew
  have HBL := zh HBL.out.drew
  refine wp_region_held_drew (S := fun w' => w'.cell? ⟨w.heap.size, 0, none⟩ = some (.bool na) ∧ w'.cell? ⟨w.heap.size, 1, none⟩ = some (.string sa) ∧ w'.cell? ⟨w.heap.size, 2, none⟩ = some (.bool ma) ∧ w'.cell? ⟨w.heap.size, 3, none⟩ = some (.string ta)) (by kernel_rfl) ?_ (fun hHeld0 => ?_)
  ·
   go_keep
  refine zT 0 (h := ?_)
  (try simp only [Act.put, zA, zB, zC])
  refine zT 2 (h := ?_)
  (try simp only [Act.put, zA, zB, zC])
  refine zR 1 (h := fun K hK => ?_)
  go_simp
  go_at_call 24
  refine (HCA.out _).mono ?_
  rintro e w5 ⟨hq, rfl⟩
  dsimp only
  have z0 := zK hq HA.out.lt hHeld0.1
  have z1 := zK hq HA.out.lt hHeld0.2.1
  have z2 := zK hq HA.out.lt hHeld0.2.2.1
  have z3 := zK hq HA.out.lt hHeld0.2.2.2
  refine hK.out _ _ ⟨z0, z1, z2, z3⟩ (fun hHeld1 => ?_)
  clear hK K hHeld0 z0 z1 z2 z3
  (try simp only [Act.put, zA, zB, zC])
  have k_a := HA.out.keep hq
  have tl := HBL.out.trans ((hq).mono HBL.out.size)
  clear HBL HA
  clear a_0 a_f0 a_1 a_f1 a_2 a_f2 a_3 a_f3
  obtain ⟨a_0, a_f0, a_1, a_f1, a_2, a_f2, a_3, a_f3⟩ := k_a.f4
  have HA := zh k_a; clear k_a
  have HBL := zh tl; clear tl
  clear hq
  refine zT 3 (h := ?_)
  (try simp only [Act.put, zA, zB, zC])
  refine wpAnyH_done (by kernel_rfl) ?_ _
  (try simp only [List.getElem_toArray, List.getElem_cons_zero, List.getElem_cons_succ, Act.put, zA, zB, zC])
  go_wp2_with fail
  go_ret
  exact ⟨HBL.out, rfl⟩
set_option maxRecDepth 100000 in
set_option maxHeartbeats 3200000 in
theorem scheck1_any (na ma : Bool) (sa ta : ByteArray) (w : World) (h1 : sa.size ≤ 20000000000) (h2 : ta.size ≤ 20000000000) :
  Calls Try.prog 50 #[.agg #[.bool na, .string sa, .bool ma, .string ta]] w (Ret w (.bool (!cqB (na, sa, ma, ta)))) := by
 obtain ⟨w4, hw4⟩ : ∃ w4, w4 = w.alloc (.cells #[.bool na, .string sa, .bool ma, .string ta] 35) := ⟨_, rfl⟩
 have k_a : Blk w4 (w.heap.size) 35 [.bool na, .string sa, .bool ma, .string ta] := by
  rw [hw4]
  have h := (Blk.new (w) 35 [.bool na, .string sa, .bool ma, .string ta])
  (try simp only [World.size_alloc, Nat.add_assoc, Nat.reduceAdd] at h)
  exact h
 have tl : Below w.heap.size w w4 := by
  rw [hw4]
  exact ((Below.refl w.heap.size w).alloc (by simp <;> omega) (.cells #[.bool na, .string sa, .bool ma, .string ta] 35))
 have hs4 : w4.heap.size = w.heap.size + 1 := by rw [hw4]; simp only [World.size_alloc]
 obtain ⟨a_0, a_f0, a_1, a_f1, a_2, a_f2, a_3, a_f3⟩ := k_a.f4
 have HA := zh k_a; clear k_a
 have HBL := zh tl; clear tl
 have hca := fun w' => rcheck_anyQ na ma sa ta w' h1 h2
 obtain ⟨t, ht⟩ : ∃ t, t = cqB (na, sa, ma, ta) := ⟨_, rfl⟩
 rw [← ht] at hca ⊢
 clear ht h1 h2
 cases t
 ·
  simp only [Bool.false_eq_true, if_false] at hca
  have HCA := zh hca; clear hca
  go_enter Try.func50, Try.ntmps50
  go_wp2_with fail
  (try rw [← hw4])
  clear hw4
  (try simp only [Nat.add_assoc, Nat.reduceAdd])
  refine (HCA.out _).mono ?_
  rintro e w5 ⟨hq, rfl⟩
  dsimp only
  have k_a := HA.out.keep hq
  have tl := HBL.out.trans ((hq).mono HBL.out.size)
  clear HBL HA
  clear a_0 a_f0 a_1 a_f1 a_2 a_f2 a_3 a_f3
  obtain ⟨a_0, a_f0, a_1, a_f1, a_2, a_f2, a_3, a_f3⟩ := k_a.f4
  have HA := zh k_a; clear k_a
  have HBL := zh tl; clear tl
  clear hq
  go_wp2_with fail
  go_ret
  exact ⟨HBL.out, rfl⟩
 ·
  simp only [if_true] at hca
  have HCA := zh hca; clear hca
  go_enter Try.func50, Try.ntmps50
  go_wp2_with fail
  (try rw [← hw4])
  clear hw4
  (try simp only [Nat.add_assoc, Nat.reduceAdd])
  refine (HCA.out _).mono ?_
  rintro e w5 ⟨hq, rfl⟩
  dsimp only
  have k_a := HA.out.keep hq
  have tl := HBL.out.trans ((hq).mono HBL.out.size)
  clear HBL HA
  clear a_0 a_f0 a_1 a_f1 a_2 a_f2 a_3 a_f3
  obtain ⟨a_0, a_f0, a_1, a_f1, a_2, a_f2, a_3, a_f3⟩ := k_a.f4
  have HA := zh k_a; clear k_a
  have HBL := zh tl; clear tl
  clear hq
  go_wp2_with fail
  go_ret
  exact ⟨HBL.out, rfl⟩
def IdxRetQ (b : Bool) (w : World) (e : Ending) (w' : World) : Prop := Below w.heap.size w w' ∧ ∃ z : Int, e = .returned (.int .i64 z) ∧ decide (0 ≤ z) = b
set_option maxRecDepth 100000 in
set_option maxHeartbeats 3200000 in
theorem idxQ_any (l : List RawQ) (v : Value) (w : World) (hr : Row w v l.length (crv l)) (hs : ∀ x ∈ l, x.2.1.size ≤ 20000000000 ∧ x.2.2.2.size ≤ 20000000000) :
  Calls Try.prog 63 #[v, .func (.func 50) #[] #[]] w (IdxRetQ (oddQ l) w) := by
 obtain ⟨va, vc, rfl, hle⟩ := hr.slice
 obtain ⟨m, hm⟩ : ∃ m, m = l.length := ⟨_, rfl⟩
 have hent : ∀ args w, (callFunc 50 args).run Try.prog w = .ok (.enter 50 args) w := fun args w => enters_of Try.func50 (by kernel_rfl) rfl args w
 obtain ⟨R, hR⟩ : ∃ R, R = oddQ l := ⟨_, rfl⟩
 have hRR : R = oddQ (l.drop 0) := hR
 rw [← hR]
 rw [← hm] at hr hle ⊢
 have HR := zh hr; clear hr
 have HM := zh hm; clear hm
 have HS := zh hs; clear hs
 have HRR := zh hRR; clear hRR
 clear hR
 go_enter Try.func63, Try.ntmps63
 go_wp2_with fail
 go_loopw [8] (fun i wr => ∃ j : Nat, j ≤ m ∧ i = .int .i64 j ∧ Below w.heap.size w wr ∧ R = oddQ (l.drop j)) (fun i _ => m - (intOf i).toNat)
 case atStart => exact ⟨0, Nat.zero_le _, rfl, Below.refl _ _, HRR.out⟩
 case round =>
  obtain ⟨j, hj, rfl, hbel, hno⟩ := hrel
  by_cases hlt : j < m
  ·
   have hjl : j < l.length := by rw [← HM.out]; exact hlt
   have hget : l[j]? = some (l[j]'hjl) := List.getElem?_eq_getElem _
   have hsj := HS.out _ (List.getElem_mem hjl)
   rw [List.drop_eq_getElem_cons hjl] at hno
   obtain ⟨y, hy⟩ : ∃ y, y = l[j]'hjl := ⟨_, rfl⟩
   rw [← hy] at hget hsj hno
   obtain ⟨na, sa, ma, ta⟩ := y
   obtain ⟨b, off, rfl, hbw, hce⟩ := HR.out.at_ (by omega)
   obtain ⟨c0, c1, c2, c3⟩ := rat_cells hce hbel hbw hget
   have his := scheck1_any na ma sa ta wr hsj.1 hsj.2
   obtain ⟨t, ht⟩ : ∃ t, cqB (na, sa, ma, ta) = t := ⟨_, rfl⟩
   have hstep : oddQ ((na, sa, ma, ta) :: l.drop (j + 1)) = (!cqB (na, sa, ma, ta) || oddQ (l.drop (j + 1))) := rfl
   rw [hstep, ht] at hno
   rw [ht] at his
   have HIS := zh his; clear his
   have HBEL := zh hbel; clear hbel
   clear hce hget hy hstep ht
   cases t with
   | true =>
    have hno2 : R = oddQ (l.drop (j + 1)) := by rw [hno]; rfl
    have HNO := zh hno2; clear hno2
    clear hno
    go_wp2_with fail
    refine HIS.out.mono ?_
    rintro e w1 ⟨hq1, rfl⟩
    have s1 := HBEL.out.trans (hq1.mono HBEL.out.size)
    have S1 := zh s1; clear s1
    clear hq1
    go_wp2_with fail
    go_roundw
    case rel => exact ⟨j + 1, by omega, by go_num, S1.out, HNO.out⟩
    case measure => simp [intOf]; omega
   | false =>
    have hno2 : R = true := by rw [hno]; rfl
    have HNO := zh hno2; clear hno2
    clear hno
    go_wp2_with fail
    refine HIS.out.mono ?_
    rintro e w1 ⟨hq1, rfl⟩
    have s1 := HBEL.out.trans (hq1.mono HBEL.out.size)
    have S1 := zh s1; clear s1
    clear hq1
    go_wp2_with fail
    go_ret
    exact ⟨S1.out, _, rfl, by rw [HNO.out]; exact decide_eq_true (by omega)⟩
  ·
   obtain rfl : j = m := by omega
   rw [List.drop_of_length_le (by rw [← HM.out]; exact Nat.le_refl _)] at hno
   have hno2 : R = false := hno
   have HNO := zh hno2; clear hno2
   have HBEL := zh hbel; clear hbel
   clear hno
   go_wp2_with fail
   go_ret
   exact ⟨HBEL.out, _, rfl, by rw [HNO.out]; rfl⟩
set_option maxRecDepth 100000 in
set_option maxHeartbeats 3200000 in
theorem cfQ_any (l : List RawQ) (v : Value) (w : World) (hr : Row w v l.length (crv l)) (hs : ∀ x ∈ l, x.2.1.size ≤ 20000000000 ∧ x.2.2.2.size ≤ 20000000000) :
  Calls Try.prog 49 #[v, .func (.func 50) #[] #[]] w (Ret w (.bool (oddQ l))) := by
 have hi := idxQ_any l v w hr hs
 obtain ⟨R, hR⟩ : ∃ R, R = oddQ l := ⟨_, rfl⟩
 rw [← hR] at hi ⊢
 have HI := zh hi; clear hi
 clear hR
 go_enter Try.func49, Try.ntmps49
 go_wp2_with fail
 refine HI.out.mono ?_
 rintro e w1 ⟨hq, z, rfl, hz⟩
 dsimp only
 have HQ := zh hq; clear hq
 go_wp2_with fail
 go_ret
 exact ⟨HQ.out, rfl⟩
end Go.Proofs.Ytjpalbonclgflaa
