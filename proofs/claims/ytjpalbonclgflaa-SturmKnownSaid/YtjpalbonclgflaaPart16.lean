/- Contracts and plain laws of several functions, one after the other: StS, CanF. -/
import Derived.Test.YtjpalbonclgflaaRatD
import Derived.Test.YtjpalbonclgflaaDer
/- sturm.sign, number, absolute, middle; polynomial.Derivative (printed by gen_small.py). -/
namespace Go.Proofs.Ytjpalbonclgflaa
open Go.RowKit

theorem zs_nat (n m : Nat) (h : n < 256 ^ m) : zs m (n : Int) := by unfold zs; rw [Int.natAbs_natCast]; exact h
theorem der_sized {l : List Int} {m : Nat} (hl : l.length ≤ 1000) (hs : ∀ x ∈ l, zs m x) : ∀ x ∈ der l, zs (m + 2) x := by
 intro x hx
 unfold der derT at hx
 obtain ⟨j, hj, rfl⟩ := List.mem_map.1 hx
 have hj := List.mem_range.1 hj
 refine zs.mul ?_ (zs_nat _ _ (by omega))
 have hjl : j + 1 < l.length := by omega
 rw [List.getD, List.getElem?_eq_getElem hjl]
 exact hs _ (List.getElem_mem _)
theorem tzI_mem {l : List Int} {x : Int} (h : x ∈ tzI l) : x ∈ l := by
 unfold tzI at h
 rw [List.mem_reverse] at h
 exact List.mem_reverse.1 ((List.dropWhile_sublist _).mem h)
theorem tzI_len (l : List Int) : (tzI l).length ≤ l.length := by
 unfold tzI
 rw [List.length_reverse]
 exact Nat.le_trans (List.dropWhile_sublist _).length_le (by simp)
theorem tzI_ends (l : List Int) : Ends (tzI l) := by
 intro k x h
 rcases List.eq_nil_or_concat l with rfl | ⟨l0, y, rfl⟩
 ·
  simp [tzI] at h
 ·
  rw [List.concat_eq_append] at h
  induction hn : l0.length generalizing l0 y with
  | zero =>
   obtain rfl := List.length_eq_zero_iff.1 hn
   by_cases hy : y = 0
   ·
    subst hy
    rw [tzI_snoc_zero, tzI_nil] at h
    simp at h
   ·
    rw [tzI_snoc_ne _ hy] at h
    have := List.append_inj' h rfl
    simp at this
    rw [← this.2]; exact hy
  | succ n ih =>
   by_cases hy : y = 0
   ·
    subst hy
    rw [tzI_snoc_zero] at h
    rcases List.eq_nil_or_concat l0 with rfl | ⟨l1, y1, rfl⟩
    ·
     simp at hn
    ·
     rw [List.concat_eq_append] at h hn
     exact ih l1 y1 h (by simp at hn; omega)
   ·
    rw [tzI_snoc_ne _ hy] at h
    have := List.append_inj' h rfl
    simp at this
    rw [← this.2]; exact hy
theorem tzI_id {l : List Int} (h : Ends l) : tzI l = l := by
 rcases List.eq_nil_or_concat l with rfl | ⟨l0, y, rfl⟩
 ·
  rfl
 ·
  rw [List.concat_eq_append] at *
  exact tzI_snoc_ne _ (h _ _ rfl)
set_option maxRecDepth 100000 in
set_option maxHeartbeats 3200000 in
theorem ssign_any (n : Bool) (s : ByteArray) (w : World) (hs : s.size ≤ 100000000000) :
  Calls Try.prog 60 #[.agg #[.bool n, .string s]] w (Ret w (.int .i64 (cmpZ (ival n s) 0))) := by
 obtain ⟨w4, hw4⟩ : ∃ w4, w4 = w.alloc (.cells #[.bool n, .string s] 33) := ⟨_, rfl⟩
 have k_a : Blk w4 (w.heap.size) 33 [.bool n, .string s] := by
  rw [hw4]
  have h := (Blk.new (w) 33 [.bool n, .string s])
  (try simp only [World.size_alloc, Nat.add_assoc, Nat.reduceAdd] at h)
  exact h
 have tl : Below w.heap.size w w4 := by
  rw [hw4]
  exact ((Below.refl w.heap.size w).alloc (by simp <;> omega) (.cells #[.bool n, .string s] 33))
 have hs4 : w4.heap.size = w.heap.size + 1 := by rw [hw4]; simp only [World.size_alloc]
 obtain ⟨a_0, a_f0, a_1, a_f1⟩ := k_a.f2
 have HA := zh k_a; clear k_a
 have HBL := zh tl; clear tl
 have hc := fun w' => icompare_any n false s ⟨#[]⟩ w' (by omega) (by decide)
 rw [ival_nil] at hc
 clear hs
 have HC := zh hc; clear hc
 go_enter Try.func60, Try.ntmps60
 go_wp2_with fail
 (try rw [← hw4])
 clear hw4
 (try simp only [Nat.add_assoc, Nat.reduceAdd])
 refine (HC.out _).mono ?_
 rintro e w5 ⟨hq, rfl⟩
 dsimp only
 have k_a := HA.out.keep hq
 have tl := HBL.out.trans ((hq).mono HBL.out.size)
 clear HBL HA
 clear a_0 a_f0 a_1 a_f1
 obtain ⟨a_0, a_f0, a_1, a_f1⟩ := k_a.f2
 have HA := zh k_a; clear k_a
 have HBL := zh tl; clear tl
 clear hq
 go_wp2_with fail
 go_ret
 exact ⟨HBL.out, rfl⟩
set_option maxRecDepth 100000 in
set_option maxHeartbeats 3200000 in
theorem snumber_any (n : Int) (w : World) (h1 : -9223372036854775808 ≤ n) (h2 : n ≤ 9223372036854775807) :
  Calls Try.prog 36 #[.int .i64 n] w (Ret w (RatV (Rat.divInt n 1))) := by
 obtain ⟨w4, hw4⟩ : ∃ w4, w4 = w.alloc (.cells #[.bool false, .string ⟨#[]⟩, .bool false, .string ⟨#[]⟩] 35) := ⟨_, rfl⟩
 have k_r : Blk w4 (w.heap.size) 35 [.bool false, .string ⟨#[]⟩, .bool false, .string ⟨#[]⟩] := by
  rw [hw4]
  have h := (Blk.new (w) 35 [.bool false, .string ⟨#[]⟩, .bool false, .string ⟨#[]⟩])
  (try simp only [World.size_alloc, Nat.add_assoc, Nat.reduceAdd] at h)
  exact h
 have tl : Below w.heap.size w w4 := by
  rw [hw4]
  exact ((Below.refl w.heap.size w).alloc (by simp <;> omega) (.cells #[.bool false, .string ⟨#[]⟩, .bool false, .string ⟨#[]⟩] 35))
 have hs4 : w4.heap.size = w.heap.size + 1 := by rw [hw4]; simp only [World.size_alloc]
 obtain ⟨r_0, r_f0, r_1, r_f1, r_2, r_f2, r_3, r_f3⟩ := k_r.f4
 have HR := zh k_r; clear k_r
 have HBL := zh tl; clear tl
 have ho := fun w' => iof_any n w' h1 h2
 have hr := fun w' => qof_any (ineg n) (imag n) w' (by rw [imag_size]; exact Nat.le_trans (bb_length_le (m := 8) (by omega)) (by decide))
 simp only [ival_canon] at hr
 obtain ⟨q, hq'⟩ : ∃ q, q = Rat.divInt n 1 := ⟨_, rfl⟩
 rw [← hq'] at hr ⊢
 clear hq' h1 h2
 have HO := zh ho; clear ho
 have HRO := zh hr; clear hr
 go_enter Try.func36, Try.ntmps36
 go_wp2_with fail
 (try rw [← hw4])
 clear hw4
 (try simp only [Nat.add_assoc, Nat.reduceAdd])
 refine (HO.out _).mono ?_
 rintro e w5 ⟨hq, rfl⟩
 dsimp only
 have k_r := HR.out.keep hq
 have tl := HBL.out.trans ((hq).mono HBL.out.size)
 clear HBL HR
 clear r_0 r_f0 r_1 r_f1 r_2 r_f2 r_3 r_f3
 obtain ⟨r_0, r_f0, r_1, r_f1, r_2, r_f2, r_3, r_f3⟩ := k_r.f4
 have HR := zh k_r; clear k_r
 have HBL := zh tl; clear tl
 clear hq
 go_wp2_with fail
 refine (HRO.out _).mono ?_
 rintro e w6 ⟨hq, rfl⟩
 dsimp only
 have k_r := HR.out.keep hq
 have tl := HBL.out.trans ((hq).mono HBL.out.size)
 clear HBL HR
 clear r_0 r_f0 r_1 r_f1 r_2 r_f2 r_3 r_f3
 obtain ⟨r_0, r_f0, r_1, r_f1, r_2, r_f2, r_3, r_f3⟩ := k_r.f4
 have HR := zh k_r; clear k_r
 have HBL := zh tl; clear tl
 clear hq
 go_wp2_with fail
 have hrv : RatV q = .agg #[.bool (ineg q.num), .string (imag q.num), .bool (ineg (q.den : Int)), .string (imag (q.den : Int))] := rfl
 have kz := ((((HR.out.set 0 (.bool (ineg q.num))).set 1 (.string (imag q.num))).set 2 (.bool (ineg (q.den : Int)))).set 3 (.string (imag (q.den : Int))))
 have sz := ((((HBL.out.setCell (p := ⟨w.heap.size, 0, none⟩) (by show w.heap.size ≤ w.heap.size; omega) (.bool (ineg q.num))).setCell (p := ⟨w.heap.size, 1, none⟩) (by show w.heap.size ≤ w.heap.size; omega) (.string (imag q.num))).setCell (p := ⟨w.heap.size, 2, none⟩) (by show w.heap.size ≤ w.heap.size; omega) (.bool (ineg (q.den : Int)))).setCell (p := ⟨w.heap.size, 3, none⟩) (by show w.heap.size ≤ w.heap.size; omega) (.string (imag (q.den : Int))))
 have e0 := kz.c 0 rfl
 have e1 := kz.c 1 rfl
 have e2 := kz.c 2 rfl
 have e3 := kz.c 3 rfl
 refine bodyPost_ret (v := RatV q) (by rw [hrv]; simp [results, Try.results36, go_sem, e0, e1, e2, e3]) rfl ⟨sz, rfl⟩
set_option maxRecDepth 100000 in
set_option maxHeartbeats 3200000 in
theorem sabs_any (z : Int) (w : World) (hs : (imag z).size ≤ 100000000000) :
  Calls Try.prog 55 #[IntV z] w (Ret w (IntV (z.natAbs : Int))) := by
 have hsg := fun w' => ssign_any (ineg z) (imag z) w' hs
 have hng := fun w' => neg_any (ineg z) (imag z) w' (by omega)
 rw [ival_canon] at hng
 simp only [ival_canon] at hsg
 show Calls Try.prog 55 #[.agg #[.bool (ineg z), .string (imag z)]] w _
 obtain ⟨w4, hw4⟩ : ∃ w4, w4 = (w.alloc (.cells #[.bool (ineg z), .string (imag z)] 33)).alloc (.cells #[.bool false, .string ⟨#[]⟩] 33) := ⟨_, rfl⟩
 have k_a : Blk w4 (w.heap.size) 33 [.bool (ineg z), .string (imag z)] := by
  rw [hw4]
  have h := ((Blk.new (w) 33 [.bool (ineg z), .string (imag z)]).alloc (.cells #[.bool false, .string ⟨#[]⟩] 33))
  (try simp only [World.size_alloc, Nat.add_assoc, Nat.reduceAdd] at h)
  exact h
 have k_r : Blk w4 (w.heap.size + 1) 33 [.bool false, .string ⟨#[]⟩] := by
  rw [hw4]
  have h := (Blk.new (w.alloc (.cells #[.bool (ineg z), .string (imag z)] 33)) 33 [.bool false, .string ⟨#[]⟩])
  (try simp only [World.size_alloc, Nat.add_assoc, Nat.reduceAdd] at h)
  exact h
 have tl : Below w.heap.size w w4 := by
  rw [hw4]
  exact (((Below.refl w.heap.size w).alloc (by simp <;> omega) (.cells #[.bool (ineg z), .string (imag z)] 33)).alloc (by simp <;> omega) (.cells #[.bool false, .string ⟨#[]⟩] 33))
 have hs4 : w4.heap.size = w.heap.size + 2 := by rw [hw4]; simp only [World.size_alloc]
 obtain ⟨a_0, a_f0, a_1, a_f1⟩ := k_a.f2
 have HA := zh k_a; clear k_a
 obtain ⟨r_0, r_f0, r_1, r_f1⟩ := k_r.f2
 have HR := zh k_r; clear k_r
 have HBL := zh tl; clear tl
 by_cases hz : z < 0
 ·
  have hc : cmpZ z 0 = -1 := by simp [cmpZ, hz]
  have ha : (z.natAbs : Int) = -z := by omega
  rw [hc] at hsg
  rw [ha]
  obtain ⟨y, hy⟩ : ∃ y, y = -z := ⟨_, rfl⟩
  rw [← hy] at hng ⊢
  clear hc ha hz hy hs
  have HSG := zh hsg; clear hsg
  have HNG := zh hng; clear hng
  go_enter Try.func55, Try.ntmps55
  go_wp2_with fail
  (try rw [← hw4])
  clear hw4
  (try simp only [Nat.add_assoc, Nat.reduceAdd])
  refine (HSG.out _).mono ?_
  rintro e w5 ⟨hq, rfl⟩
  dsimp only
  have k_a := HA.out.keep hq
  have k_r := HR.out.keep hq
  have tl := HBL.out.trans ((hq).mono HBL.out.size)
  clear HBL HA HR
  clear a_0 a_f0 a_1 a_f1
  obtain ⟨a_0, a_f0, a_1, a_f1⟩ := k_a.f2
  have HA := zh k_a; clear k_a
  clear r_0 r_f0 r_1 r_f1
  obtain ⟨r_0, r_f0, r_1, r_f1⟩ := k_r.f2
  have HR := zh k_r; clear k_r
  have HBL := zh tl; clear tl
  clear hq
  go_wp2_with fail
  refine (HNG.out _).mono ?_
  rintro e w6 ⟨hq, rfl⟩
  dsimp only
  have k_a := HA.out.keep hq
  have k_r := HR.out.keep hq
  have tl := HBL.out.trans ((hq).mono HBL.out.size)
  clear HBL HA HR
  clear a_0 a_f0 a_1 a_f1
  obtain ⟨a_0, a_f0, a_1, a_f1⟩ := k_a.f2
  have HA := zh k_a; clear k_a
  clear r_0 r_f0 r_1 r_f1
  obtain ⟨r_0, r_f0, r_1, r_f1⟩ := k_r.f2
  have HR := zh k_r; clear k_r
  have HBL := zh tl; clear tl
  clear hq
  go_wp2_with fail
  have hrv : IntV y = .agg #[.bool (ineg y), .string (imag y)] := rfl
  have kz := ((HR.out.set 0 (.bool (ineg y))).set 1 (.string (imag y)))
  have sz := ((HBL.out.setCell (p := ⟨w.heap.size + 1, 0, none⟩) (by show w.heap.size ≤ w.heap.size + 1; omega) (.bool (ineg y))).setCell (p := ⟨w.heap.size + 1, 1, none⟩) (by show w.heap.size ≤ w.heap.size + 1; omega) (.string (imag y)))
  have e0 := kz.c 0 rfl
  have e1 := kz.c 1 rfl
  refine bodyPost_ret (v := IntV y) (by rw [hrv]; simp [results, Try.results55, go_sem, e0, e1]) rfl ⟨sz, rfl⟩
 ·
  obtain ⟨c, hc⟩ : ∃ c, c = cmpZ z 0 := ⟨_, rfl⟩
  have hc0 : ¬ c < 0 := by rw [hc]; simp only [cmpZ, if_neg hz]; split <;> decide
  have ha : (z.natAbs : Int) = z := by omega
  rw [← hc] at hsg
  rw [ha]
  clear hc ha hz hs hng
  have HSG := zh hsg; clear hsg
  go_enter Try.func55, Try.ntmps55
  go_wp2_with fail
  (try rw [← hw4])
  clear hw4
  (try simp only [Nat.add_assoc, Nat.reduceAdd])
  refine (HSG.out _).mono ?_
  rintro e w5 ⟨hq, rfl⟩
  dsimp only
  have k_a := HA.out.keep hq
  have k_r := HR.out.keep hq
  have tl := HBL.out.trans ((hq).mono HBL.out.size)
  clear HBL HA HR
  clear a_0 a_f0 a_1 a_f1
  obtain ⟨a_0, a_f0, a_1, a_f1⟩ := k_a.f2
  have HA := zh k_a; clear k_a
  clear r_0 r_f0 r_1 r_f1
  obtain ⟨r_0, r_f0, r_1, r_f1⟩ := k_r.f2
  have HR := zh k_r; clear k_r
  have HBL := zh tl; clear tl
  clear hq
  go_wp2_with fail
  have hrv : IntV z = .agg #[.bool (ineg z), .string (imag z)] := rfl
  have kz := ((HR.out.set 0 (.bool (ineg z))).set 1 (.string (imag z)))
  have sz := ((HBL.out.setCell (p := ⟨w.heap.size + 1, 0, none⟩) (by show w.heap.size ≤ w.heap.size + 1; omega) (.bool (ineg z))).setCell (p := ⟨w.heap.size + 1, 1, none⟩) (by show w.heap.size ≤ w.heap.size + 1; omega) (.string (imag z)))
  have e0 := kz.c 0 rfl
  have e1 := kz.c 1 rfl
  refine bodyPost_ret (v := IntV z) (by rw [hrv]; simp [results, Try.results55, go_sem, e0, e1]) rfl ⟨sz, rfl⟩
set_option maxRecDepth 100000 in
set_option maxHeartbeats 3200000 in
theorem smiddle_any (na ma : Bool) (sa ta : ByteArray) (nb mb : Bool) (sb tb : ByteArray) (w : World) (h1 : sa.size ≤ 9000000000) (h2 : ta.size ≤ 9000000000) (h3 : sb.size ≤ 9000000000) (h4 : tb.size ≤ 9000000000) :
  Calls Try.prog 33 #[.agg #[.bool na, .string sa, .bool ma, .string ta], .agg #[.bool nb, .string sb, .bool mb, .string tb]] w (Ret w (RatV ((Rat.divInt (ival na sa) (ival ma ta) + Rat.divInt (ival nb sb) (ival mb tb)) / 2))) := by
 obtain ⟨w4, hw4⟩ : ∃ w4, w4 = ((w.alloc (.cells #[.bool na, .string sa, .bool ma, .string ta] 35)).alloc (.cells #[.bool nb, .string sb, .bool mb, .string tb] 35)).alloc (.cells #[.bool false, .string ⟨#[]⟩, .bool false, .string ⟨#[]⟩] 35) := ⟨_, rfl⟩
 have k_a : Blk w4 (w.heap.size) 35 [.bool na, .string sa, .bool ma, .string ta] := by
  rw [hw4]
  have h := (((Blk.new (w) 35 [.bool na, .string sa, .bool ma, .string ta]).alloc (.cells #[.bool nb, .string sb, .bool mb, .string tb] 35)).alloc (.cells #[.bool false, .string ⟨#[]⟩, .bool false, .string ⟨#[]⟩] 35))
  (try simp only [World.size_alloc, Nat.add_assoc, Nat.reduceAdd] at h)
  exact h
 have k_b : Blk w4 (w.heap.size + 1) 35 [.bool nb, .string sb, .bool mb, .string tb] := by
  rw [hw4]
  have h := ((Blk.new (w.alloc (.cells #[.bool na, .string sa, .bool ma, .string ta] 35)) 35 [.bool nb, .string sb, .bool mb, .string tb]).alloc (.cells #[.bool false, .string ⟨#[]⟩, .bool false, .string ⟨#[]⟩] 35))
  (try simp only [World.size_alloc, Nat.add_assoc, Nat.reduceAdd] at h)
  exact h
 have k_r : Blk w4 (w.heap.size + 2) 35 [.bool false, .string ⟨#[]⟩, .bool false, .string ⟨#[]⟩] := by
  rw [hw4]
  have h := (Blk.new ((w.alloc (.cells #[.bool na, .string sa, .bool ma, .string ta] 35)).alloc (.cells #[.bool nb, .string sb, .bool mb, .string tb] 35)) 35 [.bool false, .string ⟨#[]⟩, .bool false, .string ⟨#[]⟩])
  (try simp only [World.size_alloc, Nat.add_assoc, Nat.reduceAdd] at h)
  exact h
 have tl : Below w.heap.size w w4 := by
  rw [hw4]
  exact ((((Below.refl w.heap.size w).alloc (by simp <;> omega) (.cells #[.bool na, .string sa, .bool ma, .string ta] 35)).alloc (by simp <;> omega) (.cells #[.bool nb, .string sb, .bool mb, .string tb] 35)).alloc (by simp <;> omega) (.cells #[.bool false, .string ⟨#[]⟩, .bool false, .string ⟨#[]⟩] 35))
 have hs4 : w4.heap.size = w.heap.size + 3 := by rw [hw4]; simp only [World.size_alloc]
 obtain ⟨a_0, a_f0, a_1, a_f1, a_2, a_f2, a_3, a_f3⟩ := k_a.f4
 have HA := zh k_a; clear k_a
 obtain ⟨b_0, b_f0, b_1, b_f1, b_2, b_f2, b_3, b_f3⟩ := k_b.f4
 have HB := zh k_b; clear k_b
 obtain ⟨r_0, r_f0, r_1, r_f1, r_2, r_f2, r_3, r_f3⟩ := k_r.f4
 have HR := zh k_r; clear k_r
 have HBL := zh tl; clear tl
 have had := fun w' => radd_anyQ na ma sa ta nb mb sb tb w' (by omega) (by omega) (by omega) (by omega)
 have hqa := divInt_sized (ival_sized h1 na) (ival_sized h2 ma) (by decide)
 have hqb := divInt_sized (ival_sized h3 nb) (ival_sized h4 mb) (by decide)
 obtain ⟨qa, ha⟩ : ∃ q, q = Rat.divInt (ival na sa) (ival ma ta) := ⟨_, rfl⟩
 obtain ⟨qb, hb⟩ : ∃ q, q = Rat.divInt (ival nb sb) (ival mb tb) := ⟨_, rfl⟩
 rw [← ha] at had hqa ⊢
 rw [← hb] at had hqb ⊢
 have hsum : rs 18000000001 (qa + qb) := by rw [← rat_add]; exact divInt_sized ((hqa.1.mul hqb.2).add (hqb.1.mul hqa.2)) ((hqa.2.mul hqb.2).mono (by decide)) (by decide)
 have hnu := fun w' => snumber_any 2 w' (by decide) (by decide)
 obtain ⟨qs, hqs⟩ : ∃ q, q = qa + qb := ⟨_, rfl⟩
 rw [← hqs] at had hsum ⊢
 obtain ⟨q2, hq2⟩ : ∃ q, q = Rat.divInt 2 1 := ⟨_, rfl⟩
 have h2s : rs 1 q2 := by rw [hq2]; exact divInt_sized (zs_nat 2 1 (by decide)) (zs_nat 1 1 (by decide)) (by decide)
 have h20 : q2 ≠ 0 := by rw [hq2]; decide
 have h22 : q2 = 2 := by rw [hq2]; rfl
 rw [← hq2] at hnu
 rw [← h22]
 have hqu := fun w' => rquo_any (ineg qs.num) (ineg (qs.den : Int)) (imag qs.num) (imag (qs.den : Int)) (ineg q2.num) (ineg (q2.den : Int)) (imag q2.num) (imag (q2.den : Int)) w' (Nat.le_trans hsum.1.size (by decide)) (Nat.le_trans hsum.2.size (by decide)) (Nat.le_trans h2s.1.size (by decide)) (Nat.le_trans h2s.2.size (by decide)) (by simp only [ival_canon, Rat.num_divInt_den]; exact h20)
 simp only [ival_canon, Rat.num_divInt_den] at hqu
 obtain ⟨q, hq'⟩ : ∃ q, q = qs / q2 := ⟨_, rfl⟩
 rw [← hq'] at hqu ⊢
 clear hq' hsum h2s h20 h22 hq2 hqs hqa hqb ha hb h1 h2 h3 h4
 have HAD := zh had; clear had
 have HNU := zh hnu; clear hnu
 have HQU := zh hqu; clear hqu
 go_enter Try.func33, Try.ntmps33
 go_wp2_with fail
 (try rw [← hw4])
 clear hw4
 (try simp only [Nat.add_assoc, Nat.reduceAdd])
 refine (HAD.out _).mono ?_
 rintro e w5 ⟨hq, rfl⟩
 dsimp only
 have k_a := HA.out.keep hq
 have k_b := HB.out.keep hq
 have k_r := HR.out.keep hq
 have tl := HBL.out.trans ((hq).mono HBL.out.size)
 clear HBL HA HB HR
 clear a_0 a_f0 a_1 a_f1 a_2 a_f2 a_3 a_f3
 obtain ⟨a_0, a_f0, a_1, a_f1, a_2, a_f2, a_3, a_f3⟩ := k_a.f4
 have HA := zh k_a; clear k_a
 clear b_0 b_f0 b_1 b_f1 b_2 b_f2 b_3 b_f3
 obtain ⟨b_0, b_f0, b_1, b_f1, b_2, b_f2, b_3, b_f3⟩ := k_b.f4
 have HB := zh k_b; clear k_b
 clear r_0 r_f0 r_1 r_f1 r_2 r_f2 r_3 r_f3
 obtain ⟨r_0, r_f0, r_1, r_f1, r_2, r_f2, r_3, r_f3⟩ := k_r.f4
 have HR := zh k_r; clear k_r
 have HBL := zh tl; clear tl
 clear hq
 go_wp2_with fail
 refine (HNU.out _).mono ?_
 rintro e w6 ⟨hq, rfl⟩
 dsimp only
 have k_a := HA.out.keep hq
 have k_b := HB.out.keep hq
 have k_r := HR.out.keep hq
 have tl := HBL.out.trans ((hq).mono HBL.out.size)
 clear HBL HA HB HR
 clear a_0 a_f0 a_1 a_f1 a_2 a_f2 a_3 a_f3
 obtain ⟨a_0, a_f0, a_1, a_f1, a_2, a_f2, a_3, a_f3⟩ := k_a.f4
 have HA := zh k_a; clear k_a
 clear b_0 b_f0 b_1 b_f1 b_2 b_f2 b_3 b_f3
 obtain ⟨b_0, b_f0, b_1, b_f1, b_2, b_f2, b_3, b_f3⟩ := k_b.f4
 have HB := zh k_b; clear k_b
 clear r_0 r_f0 r_1 r_f1 r_2 r_f2 r_3 r_f3
 obtain ⟨r_0, r_f0, r_1, r_f1, r_2, r_f2, r_3, r_f3⟩ := k_r.f4
 have HR := zh k_r; clear k_r
 have HBL := zh tl; clear tl
 clear hq
 go_wp2_with fail
 refine (HQU.out _).mono ?_
 rintro e w7 ⟨hq, rfl⟩
 dsimp only
 have k_a := HA.out.keep hq
 have k_b := HB.out.keep hq
 have k_r := HR.out.keep hq
 have tl := HBL.out.trans ((hq).mono HBL.out.size)
 clear HBL HA HB HR
 clear a_0 a_f0 a_1 a_f1 a_2 a_f2 a_3 a_f3
 obtain ⟨a_0, a_f0, a_1, a_f1, a_2, a_f2, a_3, a_f3⟩ := k_a.f4
 have HA := zh k_a; clear k_a
 clear b_0 b_f0 b_1 b_f1 b_2 b_f2 b_3 b_f3
 obtain ⟨b_0, b_f0, b_1, b_f1, b_2, b_f2, b_3, b_f3⟩ := k_b.f4
 have HB := zh k_b; clear k_b
 clear r_0 r_f0 r_1 r_f1 r_2 r_f2 r_3 r_f3
 obtain ⟨r_0, r_f0, r_1, r_f1, r_2, r_f2, r_3, r_f3⟩ := k_r.f4
 have HR := zh k_r; clear k_r
 have HBL := zh tl; clear tl
 clear hq
 obtain ⟨b_m, hb_m⟩ : ∃ b, b = w7.heap.size := ⟨_, rfl⟩
 have hal : Below w7.heap.size w7 (w7.alloc (.cells #[.bool (ineg q.num), .string (imag q.num), .bool (ineg (q.den : Int)), .string (imag (q.den : Int))] 35)) := (Below.refl _ _).alloc (Nat.le_refl _) _
 have k_m : Blk (w7.alloc (.cells #[.bool (ineg q.num), .string (imag q.num), .bool (ineg (q.den : Int)), .string (imag (q.den : Int))] 35)) b_m 35 [.bool (ineg q.num), .string (imag q.num), .bool (ineg (q.den : Int)), .string (imag (q.den : Int))] := by rw [hb_m]; exact Blk.new w7 _ _
 have hge_m : w.heap.size ≤ b_m := by rw [hb_m]; exact HBL.out.size
 have k_a := HA.out.keep hal
 have k_b := HB.out.keep hal
 have k_r := HR.out.keep hal
 have tl := HBL.out.trans ((hal).mono HBL.out.size)
 clear HBL HA HB HR
 clear a_0 a_f0 a_1 a_f1 a_2 a_f2 a_3 a_f3
 obtain ⟨a_0, a_f0, a_1, a_f1, a_2, a_f2, a_3, a_f3⟩ := k_a.f4
 have HA := zh k_a; clear k_a
 clear b_0 b_f0 b_1 b_f1 b_2 b_f2 b_3 b_f3
 obtain ⟨b_0, b_f0, b_1, b_f1, b_2, b_f2, b_3, b_f3⟩ := k_b.f4
 have HB := zh k_b; clear k_b
 clear r_0 r_f0 r_1 r_f1 r_2 r_f2 r_3 r_f3
 obtain ⟨r_0, r_f0, r_1, r_f1, r_2, r_f2, r_3, r_f3⟩ := k_r.f4
 have HR := zh k_r; clear k_r
 have HBL := zh tl; clear tl
 clear hal
 obtain ⟨m_0, m_f0, m_1, m_f1, m_2, m_f2, m_3, m_f3⟩ := k_m.f4
 have HM := zh k_m; clear k_m
 go_wp2_with fail
 (try rw [← hb_m])
 have HB_m := zh hb_m; clear hb_m
 have hrv : RatV q = .agg #[.bool (ineg q.num), .string (imag q.num), .bool (ineg (q.den : Int)), .string (imag (q.den : Int))] := rfl
 have kz := ((((HR.out.set 0 (.bool (ineg q.num))).set 1 (.string (imag q.num))).set 2 (.bool (ineg (q.den : Int)))).set 3 (.string (imag (q.den : Int))))
 have sz := ((((HBL.out.setCell (p := ⟨w.heap.size + 2, 0, none⟩) (by show w.heap.size ≤ w.heap.size + 2; omega) (.bool (ineg q.num))).setCell (p := ⟨w.heap.size + 2, 1, none⟩) (by show w.heap.size ≤ w.heap.size + 2; omega) (.string (imag q.num))).setCell (p := ⟨w.heap.size + 2, 2, none⟩) (by show w.heap.size ≤ w.heap.size + 2; omega) (.bool (ineg (q.den : Int)))).setCell (p := ⟨w.heap.size + 2, 3, none⟩) (by show w.heap.size ≤ w.heap.size + 2; omega) (.string (imag (q.den : Int))))
 have e0 := kz.c 0 rfl
 have e1 := kz.c 1 rfl
 have e2 := kz.c 2 rfl
 have e3 := kz.c 3 rfl
 refine bodyPost_ret (v := RatV q) (by rw [hrv]; simp [results, Try.results33, go_sem, e0, e1, e2, e3]) rfl ⟨sz, rfl⟩
set_option maxRecDepth 100000 in
set_option maxHeartbeats 3200000 in
theorem Derivative_any (l : List Int) (v : Value) (w : World) (m : Nat) (hr : Row w v l.length (civ l)) (hl : l.length ≤ 1000) (hs : ∀ x ∈ l, zs m x) (hm : m ≤ 90000000000) :
  Calls Try.prog 72 #[v] w (PolRet (tzI (der (tzI l))) w) := by
 have hc1 := canon_any l v w hr (by omega) (fun x hx => by unfold small; exact Nat.le_trans (hs x hx).size (by omega))
 have ht := tzI_len l
 have hd := fun v w' h => derivative_any (tzI l) v w' m h (by omega) (fun x hx => hs x (tzI_mem hx)) (by omega)
 have hdl : (der (tzI l)).length ≤ 100000 := by unfold der; rw [derT_length]; omega
 have hc2 := fun v w' h => canon_any (der (tzI l)) v w' h hdl (fun x hx => by unfold small; exact Nat.le_trans (der_sized (by omega) (fun x hx => hs x (tzI_mem hx)) x hx).size (by omega))
 have HC1 := zh hc1; clear hc1
 have HD := zh hd; clear hd
 have HC2 := zh hc2; clear hc2
 clear hr hl hs hm ht hdl
 go_enter Try.func72, Try.ntmps72
 go_wp2_with fail
 refine (HC1.out).mono ?_
 rintro e w1 ⟨hq1, v1, rfl, hv1⟩
 dsimp only
 have hd1 := HD.out _ _ hv1
 have HD1 := zh hd1; clear hd1
 have HQ1 := zh hq1; clear hq1
 go_wp2_with fail
 refine (HD1.out).mono ?_
 rintro e w2 ⟨hq2, v2, rfl, hv2⟩
 dsimp only
 have hd2 := HC2.out _ _ hv2
 have s2 := HQ1.out.trans (hq2.mono HQ1.out.size)
 have HD2 := zh hd2; clear hd2
 have S2 := zh s2; clear s2
 go_wp2_with fail
 refine (HD2.out).mono ?_
 rintro e w3 ⟨hq3, v3, rfl, hv3⟩
 dsimp only
 have s3 := S2.out.trans (hq3.mono S2.out.size)
 obtain ⟨a3, c3, rfl, -⟩ := hv3.slice
 have S3 := zh s3; clear s3
 have HV3 := zh hv3; clear hv3
 go_wp2_with fail
 go_ret
 exact ⟨S3.out, _, rfl, HV3.out⟩
end Go.Proofs.Ytjpalbonclgflaa

/- polynomial.Canonical: its result lies in memory of its own (the proof of XCanI with one limb more). -/
namespace Go.Proofs.Ytjpalbonclgflaa
open Go.RowKit

def Fresh (w : World) (v : Value) : Prop := ∀ b, v.ownBlock = some b → w.heap.size ≤ b
def CanRetF (l : List Int) (w : World) (e : Ending) (w' : World) : Prop :=
 Below w.heap.size w w' ∧ ∃ v, e = .returned v ∧ Row w' v (tzI l).length (civ (tzI l)) ∧ Fresh w v
def PolRetF (r : List Int) (w : World) (e : Ending) (w' : World) : Prop := Below w.heap.size w w' ∧ ∃ v, e = .returned v ∧ Row w' v r.length (civ r) ∧ Fresh w v
set_option maxRecDepth 100000 in
set_option maxHeartbeats 6400000 in
theorem canon_fresh (l : List Int) (v : Value) (w : World) (hr : Row w v l.length (civ l)) (hl : l.length ≤ 100000) (hs : ∀ x ∈ l, small x) :
  Calls Try.prog 19 #[v] w (CanRetF l w) := by
 obtain ⟨va, vc, rfl, hle⟩ := hr.slice
 obtain ⟨i0, hi, hz0, hz1', hz2'⟩ := info_parts infoZ
 obtain ⟨n, hn⟩ : ∃ n, n = l.length := ⟨_, rfl⟩
 have hadd : ∀ x, x ∈ l → ∀ w', Calls Try.prog 20 #[IntV x, .agg #[.bool false, .string ⟨#[]⟩]] w' (Ret w' (IntV x)) := fun x hx w' => by
  have h := iadd_any (ineg x) (ineg 0) (imag x) (imag 0) w' (hs x hx) (by rw [imag_zero]; decide)
  rw [ival_canon, ival_canon, Int.add_zero, imag_zero] at h
  exact h
 rw [← hn] at hr hle hl
 have hmk := mkI0 n (by omega)
 have hmade := own_made w w.heap.size 33 (.agg #[.bool false, .string ⟨#[]⟩]) n (Nat.le_refl _) (by unfold maxLen; omega)
 have s0 := (Below.refl w.heap.size w).alloc (Nat.le_refl _) (.cells (zarr (.agg #[.bool false, .string ⟨#[]⟩]) n) 33)
 have HR := zh hr; clear hr
 have HN := zh hn; clear hn
 have HADD := zh hadd; clear hadd
 have HMADE := zh hmade; clear hmade
 have S0 := zh s0; clear s0
 clear hs
 go_enter Try.func19, Try.ntmps19
 rw [← HN.out]
 go_wp2_with fail
 go_loopw [3, 5, 11] (fun u _ i wr => ∃ k : Nat, k ≤ n ∧ i = .int .i64 k ∧ wr.ownsRow w.heap.size 33 2 u k (civ (l.take k)) ∧ Below w.heap.size w wr) (fun _ _ i _ => n - (intOf i).toNat)
 case atStart => exact ⟨0, Nat.zero_le _, rfl, HMADE.out, S0.out⟩
 case round =>
  obtain ⟨k, hk, rfl, hown, hbel⟩ := hrel
  have hsz : w.heap.size ≤ wr.heap.size := hbel.size
  obtain ⟨wo, rfl⟩ : ∃ wo : World, wo = wr := ⟨_, rfl⟩
  by_cases hlt : k < n
  ·
   have hkl : k < l.length := by rw [← HN.out]; exact hlt
   have hget : l[k]? = some (l[k]'hkl) := List.getElem?_eq_getElem _
   obtain ⟨x, hx⟩ : ∃ x, x = l[k]'hkl := ⟨_, rfl⟩
   rw [← hx] at hget
   have haddx := HADD.out x (by rw [hx]; exact List.getElem_mem _)
   have hz2 : civ (l.take (k + 1)) = civ (l.take k) ++ [.bool (ineg x), .string (imag x)] := by
    rw [List.take_add_one, hget]; exact civ_snoc _ _
   obtain ⟨b1, o1, rfl, hb1, hbc⟩ := HR.out.at_ (by omega)
   obtain ⟨c0, c1⟩ := int_cells hbc hbel hb1 hget
   obtain ⟨a, cap, rfl⟩ := own_slice hown
   have hix1 : (0 : Int) ≤ (k : Int) := by omega
   have hix2 : (k : Int) < (n : Int) := by omega
   have ho1 := hown.alloc (.cells #[.bool (ineg x), .string (imag x)] 33)
   have s1 := hbel.alloc hsz (.cells #[.bool (ineg x), .string (imag x)] 33)
   have bx := Blk.new wo 33 [.bool (ineg x), .string (imag x)]
   have d0 := bx.c 0 rfl
   have d1 := bx.c 1 rfl
   have HO1 := zh ho1; clear ho1
   have S1 := zh s1; clear s1
   have HZ2 := zh hz2; clear hz2
   have HADDX := zh haddx; clear haddx
   clear hx hget hbc hkl bx hown
   go_wp2_with fail
   go_at_call 20
   refine (HADDX.out _).mono ?_
   rintro e w2 ⟨hq2, rfl⟩
   have ho2 := own_below HO1.out hq2
   have hb2 := S1.out.trans (hq2.mono S1.out.size)
   have hsz2 : w.heap.size ≤ w2.heap.size := hb2.size
   have HO2 := zh ho2; clear ho2
   have HB2 := zh hb2; clear hb2
   clear hq2 d0 d1 c0 c1
   go_wp2_with (at_builtin; refine wpList_append_lies _ rfl (.tmp 15) (.tmp 19) 25 rfl w.heap.size 33 i0 _ 2 24 Try.underlying25 hi hz0 hz1' hz2' rfl (by decide) _ _ _ rfl (HO2.out.alloc _) _ 1 1 [.bool (ineg x), .string (imag x)] rfl rfl (World.news_of_block (heap_alloc_new _ _)) (by simp [Value.oneCell']) (by omega) (by unfold maxLen; omega) (by omega) (by simp; omega) _ rfl ?_; intro g cap' w3 hown' hg hat hlt'; have HG := zh hg; clear hg; have HO4 := zh hown'; clear hown'; have HAT := zh hat; clear hat)
   go_roundw
   case rel =>
    refine ⟨k + 1, by omega, by go_num, ?_, (HB2.out.alloc hsz2 _).grown HG.out (by simp; omega) (fun j hj => (HO2.out.lt j hj).1)⟩
    rw [HZ2.out]; exact HO4.out
   case measure => simp [intOf]; omega
  ·
   obtain rfl : k = n := by omega
   have htk : l.take k = l := List.take_of_length_le (by rw [← HN.out]; exact Nat.le_refl _)
   rw [htk] at hown
   have hrow := own_row hown
   have hfr0 : Fresh w _ := fun b e => (hown.lt b e).1
   have HROW := zh hrow; clear hrow
   have HFR0 := zh hfr0; clear hfr0
   have HB := zh hbel; clear hbel
   clear hown htk hlt hk
   go_wp2_with fail
   go_loopw [3] (fun u wr => ∃ m : Nat, m ≤ k ∧ Row wr u m (civ (l.take m)) ∧ tzI (l.take m) = tzI l ∧ Below wo.heap.size wo wr ∧ Fresh w u) (fun u _ => slLen u)
   case atStart => exact ⟨k, Nat.le_refl _, by rw [List.take_of_length_le (by rw [← HN.out]; exact Nat.le_refl _)]; exact HROW.out, by rw [List.take_of_length_le (by rw [← HN.out]; exact Nat.le_refl _)], Below.refl _ _, HFR0.out⟩
   case round =>
    obtain ⟨m, hm, hrw, htz, hbw, hfr⟩ := hrel
    have HFR := zh hfr; clear hfr
    have s2 := HB.out.trans (hbw.mono HB.out.size)
    obtain ⟨ua, uc, rfl, hule⟩ := hrw.slice
    have HTZ := zh htz; clear htz
    have HBW := zh hbw; clear hbw
    have S2 := zh s2; clear s2
    cases m with
    | zero =>
     have HRW := zh hrw; clear hrw
     go_wp2_with fail
     go_ret
     refine ⟨S2.out, _, rfl, ?_⟩
     rw [← HTZ.out]
     exact ⟨HRW.out, fun b e => HFR.out b e⟩
    | succ m =>
     have hml : m < l.length := by rw [← HN.out]; omega
     have hget : l[m]? = some (l[m]'hml) := List.getElem?_eq_getElem _
     obtain ⟨x, hx⟩ : ∃ x, x = l[m]'hml := ⟨_, rfl⟩
     rw [← hx] at hget
     have htake : l.take (m + 1) = l.take m ++ [x] := by rw [List.take_add_one, hget]; rfl
     have hget2 : (l.take (m + 1))[m]? = some x := by rw [List.getElem?_take, if_pos (by omega)]; exact hget
     obtain ⟨b1, o1, rfl, hb1, hbc⟩ := hrw.at_ (by omega)
     obtain ⟨c0, c1⟩ := int_cells hbc (Below.refl wr.heap.size wr) hb1 hget2
     have hez := fun w' => eqIn_zero x w'
     have hpos : (0 : Int) < ((m : Int) + 1) := by omega
     have hcap : m + 1 ≤ uc := by
      rcases id hrw with ⟨h1, -, -⟩ | ⟨b, off, cap, h1, h2, h3, h4, h5⟩
      ·
       cases h1
      ·
       cases h1; exact h2
     have hcap1 : m ≤ uc := by omega
     have hcap0 : ¬ uc = 0 := by omega
     have hcut : Row wr (.slice (some ⟨b1, o1, none⟩) m uc) m (civ (l.take m)) := by
      rcases id hrw with ⟨h1, -, -⟩ | ⟨b, off, cap, h1, h2, h3, h4, h5⟩
      ·
       cases h1
      ·
       cases h1
       refine .inr ⟨_, _, _, rfl, by omega, h3, h4, fun j u hu => h5 j u ?_⟩
       rw [htake, civ_append, List.getElem?_append_left (List.getElem?_eq_some_iff.1 hu).1]
       exact hu
     have HCUT := zh hcut; clear hcut
     by_cases h0 : x = 0
     ·
      have hnx : tzI (l.take m) = tzI l := by rw [← HTZ.out, htake, h0, tzI_snoc_zero]
      rw [decide_eq_true h0] at hez
      have HNX := zh hnx; clear hnx
      clear hbc hget hget2 htake h0 hrw hml hx
      go_wp2_with fail
      go_roundw
      case rel => exact ⟨m, by omega, HCUT.out, HNX.out, HBW.out, fun b e => HFR.out b e⟩
      case measure => simp [slLen]
     ·
      have hfin : tzI l = l.take (m + 1) := by rw [← HTZ.out, htake, tzI_snoc_ne _ h0]
      rw [decide_eq_false h0] at hez
      have hlen : (tzI l).length = m + 1 := by rw [hfin, List.length_take]; omega
      have HFIN := zh hfin; clear hfin
      have HLEN := zh hlen; clear hlen
      have HRW := zh hrw; clear hrw
      clear hbc hget hget2 htake h0 hml hx
      go_wp2_with fail
      go_ret
      refine ⟨S2.out, _, rfl, ?_⟩
      rw [HLEN.out, HFIN.out]
      exact ⟨HRW.out, fun b e => HFR.out b e⟩
end Go.Proofs.Ytjpalbonclgflaa

