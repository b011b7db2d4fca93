/- Contracts and plain laws of several functions, one after the other: StS, PdvP, GcdP, ChnP, CanF, BndP. -/
import Derived.Test.YtjpalbonclgflaaGreatRatD
import Derived.Test.YtjpalbonclgflaaGreatDer
/- sturm.sign, number, absolute, middle; polynomial.Derivative (printed by gen_small.py). -/
namespace Go.Proofs.YtjpalbonclgflaaGreat
open Go.RowKit

theorem zs_nat (n m : Nat) (h : n < 256 ^ m) : zs m (n : Int) := by unfold zs; rw [Int.natAbs_natCast]; exact h
theorem der_sized {l : List Int} {m : Nat} (hl : l.length ≤ 1000) (hs : ∀ x ∈ l, zs m x) : ∀ x ∈ der l, zs (m + 2) x := by
 intro x hx
 unfold der derT at hx
 obtain ⟨j, hj, rfl⟩ := List.mem_map.1 hx
 have hj := List.mem_range.1 hj
 refine zs.mul ?_ (zs_nat _ _ (by omega))
 have hjl : j + 1 < l.length := by omega
 rw [List.getD, List.getElem?_eq_getElem hjl]
 exact hs _ (List.getElem_mem _)
theorem tzI_mem {l : List Int} {x : Int} (h : x ∈ tzI l) : x ∈ l := by
 unfold tzI at h
 rw [List.mem_reverse] at h
 exact List.mem_reverse.1 ((List.dropWhile_sublist _).mem h)
theorem tzI_len (l : List Int) : (tzI l).length ≤ l.length := by
 unfold tzI
 rw [List.length_reverse]
 exact Nat.le_trans (List.dropWhile_sublist _).length_le (by simp)
theorem tzI_ends (l : List Int) : Ends (tzI l) := by
 intro k x h
 rcases List.eq_nil_or_concat l with rfl | ⟨l0, y, rfl⟩
 ·
  simp [tzI] at h
 ·
  rw [List.concat_eq_append] at h
  induction hn : l0.length generalizing l0 y with
  | zero =>
   obtain rfl := List.length_eq_zero_iff.1 hn
   by_cases hy : y = 0
   ·
    subst hy
    rw [tzI_snoc_zero, tzI_nil] at h
    simp at h
   ·
    rw [tzI_snoc_ne _ hy] at h
    have := List.append_inj' h rfl
    simp at this
    rw [← this.2]; exact hy
  | succ n ih =>
   by_cases hy : y = 0
   ·
    subst hy
    rw [tzI_snoc_zero] at h
    rcases List.eq_nil_or_concat l0 with rfl | ⟨l1, y1, rfl⟩
    ·
     simp at hn
    ·
     rw [List.concat_eq_append] at h hn
     exact ih l1 y1 h (by simp at hn; omega)
   ·
    rw [tzI_snoc_ne _ hy] at h
    have := List.append_inj' h rfl
    simp at this
    rw [← this.2]; exact hy
theorem tzI_id {l : List Int} (h : Ends l) : tzI l = l := by
 rcases List.eq_nil_or_concat l with rfl | ⟨l0, y, rfl⟩
 ·
  rfl
 ·
  rw [List.concat_eq_append] at *
  exact tzI_snoc_ne _ (h _ _ rfl)
set_option maxRecDepth 100000 in
set_option maxHeartbeats 3200000 in
theorem ssign_any (n : Bool) (s : ByteArray) (w : World) (hs : s.size ≤ 100000000000) :
  Calls Tryz.prog 109 #[.agg #[.bool n, .string s]] w (Ret w (.int .i64 (cmpZ (ival n s) 0))) := by
 obtain ⟨w4, hw4⟩ : ∃ w4, w4 = w.alloc (.cells #[.bool n, .string s] 25) := ⟨_, rfl⟩
 have k_a : Blk w4 (w.heap.size) 25 [.bool n, .string s] := by
  rw [hw4]
  have h := (Blk.new (w) 25 [.bool n, .string s])
  (try simp only [World.size_alloc, Nat.add_assoc, Nat.reduceAdd] at h)
  exact h
 have tl : Below w.heap.size w w4 := by
  rw [hw4]
  exact ((Below.refl w.heap.size w).alloc (by simp <;> omega) (.cells #[.bool n, .string s] 25))
 have hs4 : w4.heap.size = w.heap.size + 1 := by rw [hw4]; simp only [World.size_alloc]
 obtain ⟨a_0, a_f0, a_1, a_f1⟩ := k_a.f2
 have HA := zh k_a; clear k_a
 have HBL := zh tl; clear tl
 have hc := fun w' => icompare_any n false s ⟨#[]⟩ w' (by omega) (by decide)
 rw [ival_nil] at hc
 clear hs
 have HC := zh hc; clear hc
 go_enter Tryz.func109, Tryz.ntmps109
 go_wp2_with fail
 (try rw [← hw4])
 clear hw4
 (try simp only [Nat.add_assoc, Nat.reduceAdd])
 refine (HC.out _).mono ?_
 rintro e w5 ⟨hq, rfl⟩
 dsimp only
 have k_a := HA.out.keep hq
 have tl := HBL.out.trans ((hq).mono HBL.out.size)
 clear HBL HA
 clear a_0 a_f0 a_1 a_f1
 obtain ⟨a_0, a_f0, a_1, a_f1⟩ := k_a.f2
 have HA := zh k_a; clear k_a
 have HBL := zh tl; clear tl
 clear hq
 go_wp2_with fail
 go_ret
 exact ⟨HBL.out, rfl⟩
set_option maxRecDepth 100000 in
set_option maxHeartbeats 3200000 in
theorem snumber_any (n : Int) (w : World) (h1 : -9223372036854775808 ≤ n) (h2 : n ≤ 9223372036854775807) :
  Calls Tryz.prog 56 #[.int .i64 n] w (Ret w (RatV (Rat.divInt n 1))) := by
 obtain ⟨w4, hw4⟩ : ∃ w4, w4 = w.alloc (.cells #[.bool false, .string ⟨#[]⟩, .bool false, .string ⟨#[]⟩] 27) := ⟨_, rfl⟩
 have k_r : Blk w4 (w.heap.size) 27 [.bool false, .string ⟨#[]⟩, .bool false, .string ⟨#[]⟩] := by
  rw [hw4]
  have h := (Blk.new (w) 27 [.bool false, .string ⟨#[]⟩, .bool false, .string ⟨#[]⟩])
  (try simp only [World.size_alloc, Nat.add_assoc, Nat.reduceAdd] at h)
  exact h
 have tl : Below w.heap.size w w4 := by
  rw [hw4]
  exact ((Below.refl w.heap.size w).alloc (by simp <;> omega) (.cells #[.bool false, .string ⟨#[]⟩, .bool false, .string ⟨#[]⟩] 27))
 have hs4 : w4.heap.size = w.heap.size + 1 := by rw [hw4]; simp only [World.size_alloc]
 obtain ⟨r_0, r_f0, r_1, r_f1, r_2, r_f2, r_3, r_f3⟩ := k_r.f4
 have HR := zh k_r; clear k_r
 have HBL := zh tl; clear tl
 have ho := fun w' => iof_any n w' h1 h2
 have hr := fun w' => qof_any (ineg n) (imag n) w' (by rw [imag_size]; exact Nat.le_trans (bb_length_le (m := 8) (by omega)) (by decide))
 simp only [ival_canon] at hr
 obtain ⟨q, hq'⟩ : ∃ q, q = Rat.divInt n 1 := ⟨_, rfl⟩
 rw [← hq'] at hr ⊢
 clear hq' h1 h2
 have HO := zh ho; clear ho
 have HRO := zh hr; clear hr
 go_enter Tryz.func56, Tryz.ntmps56
 go_wp2_with fail
 (try rw [← hw4])
 clear hw4
 (try simp only [Nat.add_assoc, Nat.reduceAdd])
 refine (HO.out _).mono ?_
 rintro e w5 ⟨hq, rfl⟩
 dsimp only
 have k_r := HR.out.keep hq
 have tl := HBL.out.trans ((hq).mono HBL.out.size)
 clear HBL HR
 clear r_0 r_f0 r_1 r_f1 r_2 r_f2 r_3 r_f3
 obtain ⟨r_0, r_f0, r_1, r_f1, r_2, r_f2, r_3, r_f3⟩ := k_r.f4
 have HR := zh k_r; clear k_r
 have HBL := zh tl; clear tl
 clear hq
 go_wp2_with fail
 refine (HRO.out _).mono ?_
 rintro e w6 ⟨hq, rfl⟩
 dsimp only
 have k_r := HR.out.keep hq
 have tl := HBL.out.trans ((hq).mono HBL.out.size)
 clear HBL HR
 clear r_0 r_f0 r_1 r_f1 r_2 r_f2 r_3 r_f3
 obtain ⟨r_0, r_f0, r_1, r_f1, r_2, r_f2, r_3, r_f3⟩ := k_r.f4
 have HR := zh k_r; clear k_r
 have HBL := zh tl; clear tl
 clear hq
 go_wp2_with fail
 have hrv : RatV q = .agg #[.bool (ineg q.num), .string (imag q.num), .bool (ineg (q.den : Int)), .string (imag (q.den : Int))] := rfl
 have kz := ((((HR.out.set 0 (.bool (ineg q.num))).set 1 (.string (imag q.num))).set 2 (.bool (ineg (q.den : Int)))).set 3 (.string (imag (q.den : Int))))
 have sz := ((((HBL.out.setCell (p := ⟨w.heap.size, 0, none⟩) (by show w.heap.size ≤ w.heap.size; omega) (.bool (ineg q.num))).setCell (p := ⟨w.heap.size, 1, none⟩) (by show w.heap.size ≤ w.heap.size; omega) (.string (imag q.num))).setCell (p := ⟨w.heap.size, 2, none⟩) (by show w.heap.size ≤ w.heap.size; omega) (.bool (ineg (q.den : Int)))).setCell (p := ⟨w.heap.size, 3, none⟩) (by show w.heap.size ≤ w.heap.size; omega) (.string (imag (q.den : Int))))
 have e0 := kz.c 0 rfl
 have e1 := kz.c 1 rfl
 have e2 := kz.c 2 rfl
 have e3 := kz.c 3 rfl
 refine bodyPost_ret (v := RatV q) (by rw [hrv]; simp [results, Tryz.results56, go_sem, e0, e1, e2, e3]) rfl ⟨sz, rfl⟩
set_option maxRecDepth 100000 in
set_option maxHeartbeats 3200000 in
theorem sabs_any (z : Int) (w : World) (hs : (imag z).size ≤ 100000000000) :
  Calls Tryz.prog 116 #[IntV z] w (Ret w (IntV (z.natAbs : Int))) := by
 have hsg := fun w' => ssign_any (ineg z) (imag z) w' hs
 have hng := fun w' => neg_any (ineg z) (imag z) w' (by omega)
 rw [ival_canon] at hng
 simp only [ival_canon] at hsg
 show Calls Tryz.prog 116 #[.agg #[.bool (ineg z), .string (imag z)]] w _
 obtain ⟨w4, hw4⟩ : ∃ w4, w4 = (w.alloc (.cells #[.bool (ineg z), .string (imag z)] 25)).alloc (.cells #[.bool false, .string ⟨#[]⟩] 25) := ⟨_, rfl⟩
 have k_a : Blk w4 (w.heap.size) 25 [.bool (ineg z), .string (imag z)] := by
  rw [hw4]
  have h := ((Blk.new (w) 25 [.bool (ineg z), .string (imag z)]).alloc (.cells #[.bool false, .string ⟨#[]⟩] 25))
  (try simp only [World.size_alloc, Nat.add_assoc, Nat.reduceAdd] at h)
  exact h
 have k_r : Blk w4 (w.heap.size + 1) 25 [.bool false, .string ⟨#[]⟩] := by
  rw [hw4]
  have h := (Blk.new (w.alloc (.cells #[.bool (ineg z), .string (imag z)] 25)) 25 [.bool false, .string ⟨#[]⟩])
  (try simp only [World.size_alloc, Nat.add_assoc, Nat.reduceAdd] at h)
  exact h
 have tl : Below w.heap.size w w4 := by
  rw [hw4]
  exact (((Below.refl w.heap.size w).alloc (by simp <;> omega) (.cells #[.bool (ineg z), .string (imag z)] 25)).alloc (by simp <;> omega) (.cells #[.bool false, .string ⟨#[]⟩] 25))
 have hs4 : w4.heap.size = w.heap.size + 2 := by rw [hw4]; simp only [World.size_alloc]
 obtain ⟨a_0, a_f0, a_1, a_f1⟩ := k_a.f2
 have HA := zh k_a; clear k_a
 obtain ⟨r_0, r_f0, r_1, r_f1⟩ := k_r.f2
 have HR := zh k_r; clear k_r
 have HBL := zh tl; clear tl
 by_cases hz : z < 0
 ·
  have hc : cmpZ z 0 = -1 := by simp [cmpZ, hz]
  have ha : (z.natAbs : Int) = -z := by omega
  rw [hc] at hsg
  rw [ha]
  obtain ⟨y, hy⟩ : ∃ y, y = -z := ⟨_, rfl⟩
  rw [← hy] at hng ⊢
  clear hc ha hz hy hs
  have HSG := zh hsg; clear hsg
  have HNG := zh hng; clear hng
  go_enter Tryz.func116, Tryz.ntmps116
  go_wp2_with fail
  (try rw [← hw4])
  clear hw4
  (try simp only [Nat.add_assoc, Nat.reduceAdd])
  refine (HSG.out _).mono ?_
  rintro e w5 ⟨hq, rfl⟩
  dsimp only
  have k_a := HA.out.keep hq
  have k_r := HR.out.keep hq
  have tl := HBL.out.trans ((hq).mono HBL.out.size)
  clear HBL HA HR
  clear a_0 a_f0 a_1 a_f1
  obtain ⟨a_0, a_f0, a_1, a_f1⟩ := k_a.f2
  have HA := zh k_a; clear k_a
  clear r_0 r_f0 r_1 r_f1
  obtain ⟨r_0, r_f0, r_1, r_f1⟩ := k_r.f2
  have HR := zh k_r; clear k_r
  have HBL := zh tl; clear tl
  clear hq
  go_wp2_with fail
  refine (HNG.out _).mono ?_
  rintro e w6 ⟨hq, rfl⟩
  dsimp only
  have k_a := HA.out.keep hq
  have k_r := HR.out.keep hq
  have tl := HBL.out.trans ((hq).mono HBL.out.size)
  clear HBL HA HR
  clear a_0 a_f0 a_1 a_f1
  obtain ⟨a_0, a_f0, a_1, a_f1⟩ := k_a.f2
  have HA := zh k_a; clear k_a
  clear r_0 r_f0 r_1 r_f1
  obtain ⟨r_0, r_f0, r_1, r_f1⟩ := k_r.f2
  have HR := zh k_r; clear k_r
  have HBL := zh tl; clear tl
  clear hq
  go_wp2_with fail
  have hrv : IntV y = .agg #[.bool (ineg y), .string (imag y)] := rfl
  have kz := ((HR.out.set 0 (.bool (ineg y))).set 1 (.string (imag y)))
  have sz := ((HBL.out.setCell (p := ⟨w.heap.size + 1, 0, none⟩) (by show w.heap.size ≤ w.heap.size + 1; omega) (.bool (ineg y))).setCell (p := ⟨w.heap.size + 1, 1, none⟩) (by show w.heap.size ≤ w.heap.size + 1; omega) (.string (imag y)))
  have e0 := kz.c 0 rfl
  have e1 := kz.c 1 rfl
  refine bodyPost_ret (v := IntV y) (by rw [hrv]; simp [results, Tryz.results116, go_sem, e0, e1]) rfl ⟨sz, rfl⟩
 ·
  obtain ⟨c, hc⟩ : ∃ c, c = cmpZ z 0 := ⟨_, rfl⟩
  have hc0 : ¬ c < 0 := by rw [hc]; simp only [cmpZ, if_neg hz]; split <;> decide
  have ha : (z.natAbs : Int) = z := by omega
  rw [← hc] at hsg
  rw [ha]
  clear hc ha hz hs hng
  have HSG := zh hsg; clear hsg
  go_enter Tryz.func116, Tryz.ntmps116
  go_wp2_with fail
  (try rw [← hw4])
  clear hw4
  (try simp only [Nat.add_assoc, Nat.reduceAdd])
  refine (HSG.out _).mono ?_
  rintro e w5 ⟨hq, rfl⟩
  dsimp only
  have k_a := HA.out.keep hq
  have k_r := HR.out.keep hq
  have tl := HBL.out.trans ((hq).mono HBL.out.size)
  clear HBL HA HR
  clear a_0 a_f0 a_1 a_f1
  obtain ⟨a_0, a_f0, a_1, a_f1⟩ := k_a.f2
  have HA := zh k_a; clear k_a
  clear r_0 r_f0 r_1 r_f1
  obtain ⟨r_0, r_f0, r_1, r_f1⟩ := k_r.f2
  have HR := zh k_r; clear k_r
  have HBL := zh tl; clear tl
  clear hq
  go_wp2_with fail
  have hrv : IntV z = .agg #[.bool (ineg z), .string (imag z)] := rfl
  have kz := ((HR.out.set 0 (.bool (ineg z))).set 1 (.string (imag z)))
  have sz := ((HBL.out.setCell (p := ⟨w.heap.size + 1, 0, none⟩) (by show w.heap.size ≤ w.heap.size + 1; omega) (.bool (ineg z))).setCell (p := ⟨w.heap.size + 1, 1, none⟩) (by show w.heap.size ≤ w.heap.size + 1; omega) (.string (imag z)))
  have e0 := kz.c 0 rfl
  have e1 := kz.c 1 rfl
  refine bodyPost_ret (v := IntV z) (by rw [hrv]; simp [results, Tryz.results116, go_sem, e0, e1]) rfl ⟨sz, rfl⟩
set_option maxRecDepth 100000 in
set_option maxHeartbeats 3200000 in
theorem smiddle_any (na ma : Bool) (sa ta : ByteArray) (nb mb : Bool) (sb tb : ByteArray) (w : World) (h1 : sa.size ≤ 9000000000) (h2 : ta.size ≤ 9000000000) (h3 : sb.size ≤ 9000000000) (h4 : tb.size ≤ 9000000000) :
  Calls Tryz.prog 66 #[.agg #[.bool na, .string sa, .bool ma, .string ta], .agg #[.bool nb, .string sb, .bool mb, .string tb]] w (Ret w (RatV ((Rat.divInt (ival na sa) (ival ma ta) + Rat.divInt (ival nb sb) (ival mb tb)) / 2))) := by
 obtain ⟨w4, hw4⟩ : ∃ w4, w4 = ((w.alloc (.cells #[.bool na, .string sa, .bool ma, .string ta] 27)).alloc (.cells #[.bool nb, .string sb, .bool mb, .string tb] 27)).alloc (.cells #[.bool false, .string ⟨#[]⟩, .bool false, .string ⟨#[]⟩] 27) := ⟨_, rfl⟩
 have k_a : Blk w4 (w.heap.size) 27 [.bool na, .string sa, .bool ma, .string ta] := by
  rw [hw4]
  have h := (((Blk.new (w) 27 [.bool na, .string sa, .bool ma, .string ta]).alloc (.cells #[.bool nb, .string sb, .bool mb, .string tb] 27)).alloc (.cells #[.bool false, .string ⟨#[]⟩, .bool false, .string ⟨#[]⟩] 27))
  (try simp only [World.size_alloc, Nat.add_assoc, Nat.reduceAdd] at h)
  exact h
 have k_b : Blk w4 (w.heap.size + 1) 27 [.bool nb, .string sb, .bool mb, .string tb] := by
  rw [hw4]
  have h := ((Blk.new (w.alloc (.cells #[.bool na, .string sa, .bool ma, .string ta] 27)) 27 [.bool nb, .string sb, .bool mb, .string tb]).alloc (.cells #[.bool false, .string ⟨#[]⟩, .bool false, .string ⟨#[]⟩] 27))
  (try simp only [World.size_alloc, Nat.add_assoc, Nat.reduceAdd] at h)
  exact h
 have k_r : Blk w4 (w.heap.size + 2) 27 [.bool false, .string ⟨#[]⟩, .bool false, .string ⟨#[]⟩] := by
  rw [hw4]
  have h := (Blk.new ((w.alloc (.cells #[.bool na, .string sa, .bool ma, .string ta] 27)).alloc (.cells #[.bool nb, .string sb, .bool mb, .string tb] 27)) 27 [.bool false, .string ⟨#[]⟩, .bool false, .string ⟨#[]⟩])
  (try simp only [World.size_alloc, Nat.add_assoc, Nat.reduceAdd] at h)
  exact h
 have tl : Below w.heap.size w w4 := by
  rw [hw4]
  exact ((((Below.refl w.heap.size w).alloc (by simp <;> omega) (.cells #[.bool na, .string sa, .bool ma, .string ta] 27)).alloc (by simp <;> omega) (.cells #[.bool nb, .string sb, .bool mb, .string tb] 27)).alloc (by simp <;> omega) (.cells #[.bool false, .string ⟨#[]⟩, .bool false, .string ⟨#[]⟩] 27))
 have hs4 : w4.heap.size = w.heap.size + 3 := by rw [hw4]; simp only [World.size_alloc]
 obtain ⟨a_0, a_f0, a_1, a_f1, a_2, a_f2, a_3, a_f3⟩ := k_a.f4
 have HA := zh k_a; clear k_a
 obtain ⟨b_0, b_f0, b_1, b_f1, b_2, b_f2, b_3, b_f3⟩ := k_b.f4
 have HB := zh k_b; clear k_b
 obtain ⟨r_0, r_f0, r_1, r_f1, r_2, r_f2, r_3, r_f3⟩ := k_r.f4
 have HR := zh k_r; clear k_r
 have HBL := zh tl; clear tl
 have had := fun w' => radd_anyQ na ma sa ta nb mb sb tb w' (by omega) (by omega) (by omega) (by omega)
 have hqa := divInt_sized (ival_sized h1 na) (ival_sized h2 ma) (by decide)
 have hqb := divInt_sized (ival_sized h3 nb) (ival_sized h4 mb) (by decide)
 obtain ⟨qa, ha⟩ : ∃ q, q = Rat.divInt (ival na sa) (ival ma ta) := ⟨_, rfl⟩
 obtain ⟨qb, hb⟩ : ∃ q, q = Rat.divInt (ival nb sb) (ival mb tb) := ⟨_, rfl⟩
 rw [← ha] at had hqa ⊢
 rw [← hb] at had hqb ⊢
 have hsum : rs 18000000001 (qa + qb) := by rw [← rat_add]; exact divInt_sized ((hqa.1.mul hqb.2).add (hqb.1.mul hqa.2)) ((hqa.2.mul hqb.2).mono (by decide)) (by decide)
 have hnu := fun w' => snumber_any 2 w' (by decide) (by decide)
 obtain ⟨qs, hqs⟩ : ∃ q, q = qa + qb := ⟨_, rfl⟩
 rw [← hqs] at had hsum ⊢
 obtain ⟨q2, hq2⟩ : ∃ q, q = Rat.divInt 2 1 := ⟨_, rfl⟩
 have h2s : rs 1 q2 := by rw [hq2]; exact divInt_sized (zs_nat 2 1 (by decide)) (zs_nat 1 1 (by decide)) (by decide)
 have h20 : q2 ≠ 0 := by rw [hq2]; decide
 have h22 : q2 = 2 := by rw [hq2]; rfl
 rw [← hq2] at hnu
 rw [← h22]
 have hqu := fun w' => rquo_any (ineg qs.num) (ineg (qs.den : Int)) (imag qs.num) (imag (qs.den : Int)) (ineg q2.num) (ineg (q2.den : Int)) (imag q2.num) (imag (q2.den : Int)) w' (Nat.le_trans hsum.1.size (by decide)) (Nat.le_trans hsum.2.size (by decide)) (Nat.le_trans h2s.1.size (by decide)) (Nat.le_trans h2s.2.size (by decide)) (by simp only [ival_canon, Rat.num_divInt_den]; exact h20)
 simp only [ival_canon, Rat.num_divInt_den] at hqu
 obtain ⟨q, hq'⟩ : ∃ q, q = qs / q2 := ⟨_, rfl⟩
 rw [← hq'] at hqu ⊢
 clear hq' hsum h2s h20 h22 hq2 hqs hqa hqb ha hb h1 h2 h3 h4
 have HAD := zh had; clear had
 have HNU := zh hnu; clear hnu
 have HQU := zh hqu; clear hqu
 go_enter Tryz.func66, Tryz.ntmps66
 go_wp2_with fail
 (try rw [← hw4])
 clear hw4
 (try simp only [Nat.add_assoc, Nat.reduceAdd])
 refine (HAD.out _).mono ?_
 rintro e w5 ⟨hq, rfl⟩
 dsimp only
 have k_a := HA.out.keep hq
 have k_b := HB.out.keep hq
 have k_r := HR.out.keep hq
 have tl := HBL.out.trans ((hq).mono HBL.out.size)
 clear HBL HA HB HR
 clear a_0 a_f0 a_1 a_f1 a_2 a_f2 a_3 a_f3
 obtain ⟨a_0, a_f0, a_1, a_f1, a_2, a_f2, a_3, a_f3⟩ := k_a.f4
 have HA := zh k_a; clear k_a
 clear b_0 b_f0 b_1 b_f1 b_2 b_f2 b_3 b_f3
 obtain ⟨b_0, b_f0, b_1, b_f1, b_2, b_f2, b_3, b_f3⟩ := k_b.f4
 have HB := zh k_b; clear k_b
 clear r_0 r_f0 r_1 r_f1 r_2 r_f2 r_3 r_f3
 obtain ⟨r_0, r_f0, r_1, r_f1, r_2, r_f2, r_3, r_f3⟩ := k_r.f4
 have HR := zh k_r; clear k_r
 have HBL := zh tl; clear tl
 clear hq
 go_wp2_with fail
 refine (HNU.out _).mono ?_
 rintro e w6 ⟨hq, rfl⟩
 dsimp only
 have k_a := HA.out.keep hq
 have k_b := HB.out.keep hq
 have k_r := HR.out.keep hq
 have tl := HBL.out.trans ((hq).mono HBL.out.size)
 clear HBL HA HB HR
 clear a_0 a_f0 a_1 a_f1 a_2 a_f2 a_3 a_f3
 obtain ⟨a_0, a_f0, a_1, a_f1, a_2, a_f2, a_3, a_f3⟩ := k_a.f4
 have HA := zh k_a; clear k_a
 clear b_0 b_f0 b_1 b_f1 b_2 b_f2 b_3 b_f3
 obtain ⟨b_0, b_f0, b_1, b_f1, b_2, b_f2, b_3, b_f3⟩ := k_b.f4
 have HB := zh k_b; clear k_b
 clear r_0 r_f0 r_1 r_f1 r_2 r_f2 r_3 r_f3
 obtain ⟨r_0, r_f0, r_1, r_f1, r_2, r_f2, r_3, r_f3⟩ := k_r.f4
 have HR := zh k_r; clear k_r
 have HBL := zh tl; clear tl
 clear hq
 go_wp2_with fail
 refine (HQU.out _).mono ?_
 rintro e w7 ⟨hq, rfl⟩
 dsimp only
 have k_a := HA.out.keep hq
 have k_b := HB.out.keep hq
 have k_r := HR.out.keep hq
 have tl := HBL.out.trans ((hq).mono HBL.out.size)
 clear HBL HA HB HR
 clear a_0 a_f0 a_1 a_f1 a_2 a_f2 a_3 a_f3
 obtain ⟨a_0, a_f0, a_1, a_f1, a_2, a_f2, a_3, a_f3⟩ := k_a.f4
 have HA := zh k_a; clear k_a
 clear b_0 b_f0 b_1 b_f1 b_2 b_f2 b_3 b_f3
 obtain ⟨b_0, b_f0, b_1, b_f1, b_2, b_f2, b_3, b_f3⟩ := k_b.f4
 have HB := zh k_b; clear k_b
 clear r_0 r_f0 r_1 r_f1 r_2 r_f2 r_3 r_f3
 obtain ⟨r_0, r_f0, r_1, r_f1, r_2, r_f2, r_3, r_f3⟩ := k_r.f4
 have HR := zh k_r; clear k_r
 have HBL := zh tl; clear tl
 clear hq
 obtain ⟨b_m, hb_m⟩ : ∃ b, b = w7.heap.size := ⟨_, rfl⟩
 have hal : Below w7.heap.size w7 (w7.alloc (.cells #[.bool (ineg q.num), .string (imag q.num), .bool (ineg (q.den : Int)), .string (imag (q.den : Int))] 27)) := (Below.refl _ _).alloc (Nat.le_refl _) _
 have k_m : Blk (w7.alloc (.cells #[.bool (ineg q.num), .string (imag q.num), .bool (ineg (q.den : Int)), .string (imag (q.den : Int))] 27)) b_m 27 [.bool (ineg q.num), .string (imag q.num), .bool (ineg (q.den : Int)), .string (imag (q.den : Int))] := by rw [hb_m]; exact Blk.new w7 _ _
 have hge_m : w.heap.size ≤ b_m := by rw [hb_m]; exact HBL.out.size
 have k_a := HA.out.keep hal
 have k_b := HB.out.keep hal
 have k_r := HR.out.keep hal
 have tl := HBL.out.trans ((hal).mono HBL.out.size)
 clear HBL HA HB HR
 clear a_0 a_f0 a_1 a_f1 a_2 a_f2 a_3 a_f3
 obtain ⟨a_0, a_f0, a_1, a_f1, a_2, a_f2, a_3, a_f3⟩ := k_a.f4
 have HA := zh k_a; clear k_a
 clear b_0 b_f0 b_1 b_f1 b_2 b_f2 b_3 b_f3
 obtain ⟨b_0, b_f0, b_1, b_f1, b_2, b_f2, b_3, b_f3⟩ := k_b.f4
 have HB := zh k_b; clear k_b
 clear r_0 r_f0 r_1 r_f1 r_2 r_f2 r_3 r_f3
 obtain ⟨r_0, r_f0, r_1, r_f1, r_2, r_f2, r_3, r_f3⟩ := k_r.f4
 have HR := zh k_r; clear k_r
 have HBL := zh tl; clear tl
 clear hal
 obtain ⟨m_0, m_f0, m_1, m_f1, m_2, m_f2, m_3, m_f3⟩ := k_m.f4
 have HM := zh k_m; clear k_m
 go_wp2_with fail
 (try rw [← hb_m])
 have HB_m := zh hb_m; clear hb_m
 have hrv : RatV q = .agg #[.bool (ineg q.num), .string (imag q.num), .bool (ineg (q.den : Int)), .string (imag (q.den : Int))] := rfl
 have kz := ((((HR.out.set 0 (.bool (ineg q.num))).set 1 (.string (imag q.num))).set 2 (.bool (ineg (q.den : Int)))).set 3 (.string (imag (q.den : Int))))
 have sz := ((((HBL.out.setCell (p := ⟨w.heap.size + 2, 0, none⟩) (by show w.heap.size ≤ w.heap.size + 2; omega) (.bool (ineg q.num))).setCell (p := ⟨w.heap.size + 2, 1, none⟩) (by show w.heap.size ≤ w.heap.size + 2; omega) (.string (imag q.num))).setCell (p := ⟨w.heap.size + 2, 2, none⟩) (by show w.heap.size ≤ w.heap.size + 2; omega) (.bool (ineg (q.den : Int)))).setCell (p := ⟨w.heap.size + 2, 3, none⟩) (by show w.heap.size ≤ w.heap.size + 2; omega) (.string (imag (q.den : Int))))
 have e0 := kz.c 0 rfl
 have e1 := kz.c 1 rfl
 have e2 := kz.c 2 rfl
 have e3 := kz.c 3 rfl
 refine bodyPost_ret (v := RatV q) (by rw [hrv]; simp [results, Tryz.results66, go_sem, e0, e1, e2, e3]) rfl ⟨sz, rfl⟩
set_option maxRecDepth 100000 in
set_option maxHeartbeats 3200000 in
theorem Derivative_any (l : List Int) (v : Value) (w : World) (m : Nat) (hr : Row w v l.length (civ l)) (hl : l.length ≤ 1000) (hs : ∀ x ∈ l, zs m x) (hm : m ≤ 90000000000) :
  Calls Tryz.prog 153 #[v] w (PolRet (tzI (der (tzI l))) w) := by
 have hc1 := canon_any l v w hr (by omega) (fun x hx => by unfold small; exact Nat.le_trans (hs x hx).size (by omega))
 have ht := tzI_len l
 have hd := fun v w' h => derivative_any (tzI l) v w' m h (by omega) (fun x hx => hs x (tzI_mem hx)) (by omega)
 have hdl : (der (tzI l)).length ≤ 100000 := by unfold der; rw [derT_length]; omega
 have hc2 := fun v w' h => canon_any (der (tzI l)) v w' h hdl (fun x hx => by unfold small; exact Nat.le_trans (der_sized (by omega) (fun x hx => hs x (tzI_mem hx)) x hx).size (by omega))
 have HC1 := zh hc1; clear hc1
 have HD := zh hd; clear hd
 have HC2 := zh hc2; clear hc2
 clear hr hl hs hm ht hdl
 go_enter Tryz.func153, Tryz.ntmps153
 go_wp2_with fail
 refine (HC1.out).mono ?_
 rintro e w1 ⟨hq1, v1, rfl, hv1⟩
 dsimp only
 have hd1 := HD.out _ _ hv1
 have HD1 := zh hd1; clear hd1
 have HQ1 := zh hq1; clear hq1
 go_wp2_with fail
 refine (HD1.out).mono ?_
 rintro e w2 ⟨hq2, v2, rfl, hv2⟩
 dsimp only
 have hd2 := HC2.out _ _ hv2
 have s2 := HQ1.out.trans (hq2.mono HQ1.out.size)
 have HD2 := zh hd2; clear hd2
 have S2 := zh s2; clear s2
 go_wp2_with fail
 refine (HD2.out).mono ?_
 rintro e w3 ⟨hq3, v3, rfl, hv3⟩
 dsimp only
 have s3 := S2.out.trans (hq3.mono S2.out.size)
 obtain ⟨a3, c3, rfl, -⟩ := hv3.slice
 have S3 := zh s3; clear s3
 have HV3 := zh hv3; clear hv3
 go_wp2_with fail
 go_ret
 exact ⟨S3.out, _, rfl, HV3.out⟩
end Go.Proofs.YtjpalbonclgflaaGreat

/- The pseudo-division of polynomials, as the program does it: plain. -/
namespace Go.Proofs.YtjpalbonclgflaaGreat

def mulT (c : Int) (r : List Int) (j : Nat) : List Int := (r.take j).map (· * c) ++ r.drop j
theorem mulT_length (c : Int) (r : List Int) (j : Nat) : (mulT c r j).length = r.length := by simp [mulT]; omega
theorem mulT_zero (c : Int) (r : List Int) : mulT c r 0 = r := by simp [mulT]
theorem mulT_full (c : Int) (r : List Int) : mulT c r r.length = r.map (· * c) := by simp [mulT]
theorem mulT_get {c : Int} {r : List Int} {j : Nat} {x : Int} (h : r[j]? = some x) : (mulT c r j)[j]? = some x := by
 have hj := (List.getElem?_eq_some_iff.1 h).1
 unfold mulT
 rw [List.getElem?_append_right (by simp; omega)]
 simp [Nat.min_eq_left (Nat.le_of_lt hj), h]
theorem mulT_set {c : Int} {r : List Int} {j : Nat} {x : Int} (h : r[j]? = some x) : (mulT c r j).set j (x * c) = mulT c r (j + 1) := by
 have hj := (List.getElem?_eq_some_iff.1 h).1
 unfold mulT
 rw [List.set_append_right _ _ (by simp; omega), List.take_add_one, h]
 have : r.drop j = x :: r.drop (j + 1) := by
  have := List.drop_eq_getElem_cons hj
  rw [this, (List.getElem?_eq_some_iff.1 h).2]
 rw [this]
 simp [Nat.min_eq_left (Nat.le_of_lt hj)]
def addT (q : List Int) (k : Nat) (t : Int) : List Int := q.set k (q.getD k 0 + t)
def subT (t : Int) (k : Nat) (b r : List Int) (j : Nat) : List Int := (List.range r.length).map fun i => if k ≤ i ∧ i < k + j then r.getD i 0 - t * b.getD (i - k) 0 else r.getD i 0
theorem subT_length (t : Int) (k : Nat) (b r : List Int) (j : Nat) : (subT t k b r j).length = r.length := by simp [subT]
theorem subT_zero (t : Int) (k : Nat) (b r : List Int) : subT t k b r 0 = r := by
 apply List.ext_getElem?
 intro i
 unfold subT
 rcases Nat.lt_or_ge i r.length with h | h
 ·
  rw [List.getElem?_map, List.getElem?_range h, Option.map_some, if_neg (by omega), List.getD, List.getElem?_eq_getElem h]; rfl
 ·
  rw [List.getElem?_eq_none (by simp; omega), List.getElem?_eq_none h]
theorem subT_get {t : Int} {k : Nat} {b r : List Int} {j : Nat} {x : Int} (h : r[k + j]? = some x) : (subT t k b r j)[k + j]? = some x := by
 have hj := (List.getElem?_eq_some_iff.1 h).1
 unfold subT
 rw [List.getElem?_map, List.getElem?_range hj, Option.map_some, if_neg (by omega), List.getD, h]; rfl
theorem subT_set {t : Int} {k : Nat} {b r : List Int} {j : Nat} {x y : Int} (h : r[k + j]? = some x) (hb : b[j]? = some y) : (subT t k b r j).set (k + j) (x - t * y) = subT t k b r (j + 1) := by
 have hj := (List.getElem?_eq_some_iff.1 h).1
 apply List.ext_getElem?
 intro i
 unfold subT
 rw [List.getElem?_set]
 by_cases hi : k + j = i
 ·
  subst hi
  rw [if_pos rfl, if_pos (by simpa using hj), List.getElem?_map, List.getElem?_range hj, Option.map_some, if_pos (by omega), List.getD, h, show k + j - k = j by omega, List.getD, hb]; rfl
 ·
  rw [if_neg hi]
  rcases Nat.lt_or_ge i r.length with h2 | h2
  ·
   rw [List.getElem?_map, List.getElem?_map, List.getElem?_range h2, Option.map_some, Option.map_some]
   congr 1
   by_cases h3 : k ≤ i ∧ i < k + j
   ·
    rw [if_pos h3, if_pos (by omega)]
   ·
    rw [if_neg h3, if_neg (by omega)]
  ·
   rw [List.getElem?_eq_none (by simp; omega), List.getElem?_eq_none (by simp; omega)]
def dvS (c : Int) (b : List Int) (n : Nat) (a : List Int) : Nat → List Int × List Int
 | 0 => (List.replicate (n + 1) 0, a)
 | i + 1 =>
  (addT ((dvS c b n a i).1.map (· * c)) (n - i) ((dvS c b n a i).2.getD (n - i + b.length - 1) 0),
   subT ((dvS c b n a i).2.getD (n - i + b.length - 1) 0) (n - i) b ((dvS c b n a i).2.map (· * c)) b.length)
theorem dvS_length (c : Int) (b : List Int) (n : Nat) (a : List Int) : ∀ i, (dvS c b n a i).1.length = n + 1 ∧ (dvS c b n a i).2.length = a.length
 | 0 => by simp [dvS]
 | i + 1 =>
  by
  have h := dvS_length c b n a i
  simp [dvS, addT, subT_length, h.1, h.2]
theorem getD_zs {l : List Int} {m : Nat} (h : ∀ x ∈ l, zs m x) (i : Nat) : zs m (l.getD i 0) := by
 rw [List.getD]
 rcases Nat.lt_or_ge i l.length with h1 | h1
 ·
  rw [List.getElem?_eq_getElem h1]; exact h _ (List.getElem_mem _)
 ·
  rw [List.getElem?_eq_none h1]
  unfold zs
  exact Nat.pow_pos (by decide)
theorem dvS_zs {c : Int} {b : List Int} {n : Nat} {a : List Int} {m k : Nat} (ha : ∀ x ∈ a, zs m x) (hb : ∀ x ∈ b, zs k x) (hc : zs k c) :
  ∀ i, (∀ x ∈ (dvS c b n a i).1, zs (m + i * (k + 1)) x) ∧ (∀ x ∈ (dvS c b n a i).2, zs (m + i * (k + 1)) x)
 | 0 =>
  by
  refine ⟨fun x hx => ?_, fun x hx => (ha x hx).mono (by omega)⟩
  rw [dvS] at hx
  rw [List.eq_of_mem_replicate hx]
  unfold zs
  exact Nat.pow_pos (by decide)
 | i + 1 =>
  by
  have h := dvS_zs (n := n) ha hb hc i
  have e : m + (i + 1) * (k + 1) = (m + i * (k + 1) + k) + 1 := by rw [Nat.add_mul]; omega
  have ht := getD_zs h.2 (n - i + b.length - 1)
  have hmul : ∀ l : List Int, (∀ x ∈ l, zs (m + i * (k + 1)) x) → ∀ x ∈ l.map (· * c), zs (m + i * (k + 1) + k) x := by
   intro l hl x hx
   obtain ⟨y, hy, rfl⟩ := List.mem_map.1 hx
   exact (hl y hy).mul hc
  constructor
  ·
   intro x hx
   rw [dvS] at hx
   unfold addT at hx
   rcases List.mem_or_eq_of_mem_set hx with h1 | rfl
   ·
    exact (hmul _ h.1 x h1).mono (by omega)
   ·
    rw [e]; exact (getD_zs (hmul _ h.1) _).add (ht.mono (by omega))
  ·
   intro x hx
   rw [dvS] at hx
   unfold subT at hx
   obtain ⟨j, -, rfl⟩ := List.mem_map.1 hx
   split
   ·
    rw [e]; exact (getD_zs (hmul _ h.2) _).sub (ht.mul (getD_zs hb _))
   ·
    exact (getD_zs (hmul _ h.2) _).mono (by omega)
theorem civ_one {l : List Int} {u : Value} (h : u ∈ civ l) : u.oneCell' = true := by
 unfold civ at h
 obtain ⟨z, -, hz⟩ := List.mem_flatMap.1 h
 simp at hz
 rcases hz with rfl | rfl <;> rfl
def pdv (a b : List Int) : List Int × List Int :=
 if a.length < b.length then ([], a) else
  (tzI (dvS (b.getLast?.getD 0) b (a.length - b.length) a (a.length - b.length + 1)).1, tzI (dvS (b.getLast?.getD 0) b (a.length - b.length) a (a.length - b.length + 1)).2)
end Go.Proofs.YtjpalbonclgflaaGreat

/- The greatest common divisor of polynomials, as the program does it: plain. -/
namespace Go.Proofs.YtjpalbonclgflaaGreat

theorem gcdL_dvd {l : List Int} {x : Int} (hx : x ∈ l) : (gcdL l : Int) ∣ x := by
 have h : ∀ (l : List Int) (g : Nat), l.foldl (fun g x => Nat.gcd g x.natAbs) g ∣ g ∧ ∀ x ∈ l, l.foldl (fun g x => Nat.gcd g x.natAbs) g ∣ x.natAbs := by
  intro l
  induction l with
  | nil => intro g; exact ⟨Nat.dvd_refl _, fun x hx => absurd hx (by simp)⟩
  | cons y l ih =>
   intro g
   have h := ih (Nat.gcd g y.natAbs)
   refine ⟨Nat.dvd_trans h.1 (Nat.gcd_dvd_left _ _), fun x hx => ?_⟩
   rcases List.mem_cons.1 hx with rfl | hx
   ·
    exact Nat.dvd_trans h.1 (Nat.gcd_dvd_right _ _)
   ·
    exact h.2 x hx
 exact Int.ofNat_dvd_left.2 ((h l 0).2 x hx)
theorem contS_dvd {l : List Int} {x : Int} (hx : x ∈ l) : contS l ∣ x := by
 unfold contS
 split
 ·
  exact Int.neg_dvd.2 (gcdL_dvd hx)
 ·
  exact gcdL_dvd hx
theorem fdiv_zs {x c : Int} {m : Nat} (h : c ∣ x) (hx : zs m x) : zs m (x.fdiv c) := by
 obtain ⟨k, rfl⟩ := h
 by_cases hc : c = 0
 ·
  subst hc; rw [Int.fdiv_zero]; unfold zs; exact Nat.pow_pos (by decide)
 ·
  rw [Int.mul_fdiv_cancel_left _ hc]
  unfold zs at *
  refine Nat.lt_of_le_of_lt ?_ hx
  rw [Int.natAbs_mul]
  exact Nat.le_mul_of_pos_left _ (Int.natAbs_pos.2 hc)
theorem prm_zs {l : List Int} {m : Nat} (hs : ∀ x ∈ l, zs m x) : ∀ x ∈ prm l, zs m x := by
 intro x hx
 obtain ⟨y, hy, rfl⟩ := List.mem_map.1 hx
 exact fdiv_zs (contS_dvd hy) (hs y hy)
theorem fdiv_ne {x c : Int} (h : c ∣ x) (hx : x ≠ 0) : x.fdiv c ≠ 0 := by
 obtain ⟨k, rfl⟩ := h
 have hc : c ≠ 0 := fun h => hx (by rw [h, Int.zero_mul])
 rw [Int.mul_fdiv_cancel_left _ hc]
 exact fun h => hx (by rw [h, Int.mul_zero])
theorem prm_ends {l : List Int} (he : Ends l) : Ends (prm l) := by
 intro k x h
 rcases List.eq_nil_or_concat l with rfl | ⟨l0, y, rfl⟩
 ·
  simp [prm] at h
 ·
  rw [List.concat_eq_append] at *
  unfold prm at h
  rw [List.map_append] at h
  have h2 := (List.append_inj' h rfl).2
  simp only [List.map_cons, List.map_nil, List.cons.injEq, and_true] at h2
  rw [← h2]
  exact fdiv_ne (contS_dvd (by simp)) (he _ _ rfl)
theorem tzI_prefix (l : List Int) : tzI l <+: l := by
 have h := List.reverse_prefix.2 (List.dropWhile_suffix (l := l.reverse) (· == 0))
 rw [List.reverse_reverse] at h
 exact h
theorem tzI_len_le {l : List Int} {k : Nat} (h : ∀ i, k ≤ i → l.getD i 0 = 0) : (tzI l).length ≤ k := by
 rcases Nat.lt_or_ge k (tzI l).length with hk | hk
 ·
  exfalso
  rcases List.eq_nil_or_concat (tzI l) with h0 | ⟨l0, y, h0⟩
  ·
   rw [h0] at hk; simp at hk
  ·
   rw [List.concat_eq_append] at h0
   have hy := tzI_ends l _ _ h0
   obtain ⟨t, ht⟩ := tzI_prefix l
   have h1 := h l0.length (by rw [h0] at hk; simp at hk; omega)
   rw [← ht, h0] at h1
   simp at h1
   exact hy h1
 ·
  exact hk
theorem getD_map_mul (l : List Int) (c : Int) (i : Nat) : (l.map (· * c)).getD i 0 = l.getD i 0 * c := by
 simp only [List.getD, List.getElem?_map]
 rcases l[i]? with _ | x <;> simp
theorem subT_getD (t : Int) (k : Nat) (b r : List Int) (j i : Nat) (hi : i < r.length) : (subT t k b r j).getD i 0 = if k ≤ i ∧ i < k + j then r.getD i 0 - t * b.getD (i - k) 0 else r.getD i 0 := by
 unfold subT
 rw [List.getD, List.getElem?_map, List.getElem?_range hi]
 rfl
theorem getD_ge {l : List Int} {i : Nat} (h : l.length ≤ i) : l.getD i 0 = 0 := by rw [List.getD, List.getElem?_eq_none h]; rfl
theorem getLast_getD (l : List Int) : l.getLast?.getD 0 = l.getD (l.length - 1) 0 := by rw [List.getLast?_eq_getElem?]; rfl
theorem dvS_zero {b a : List Int} {n : Nat} (hn : a.length = n + b.length) (hb : 0 < b.length) :
  ∀ i, i ≤ n + 1 → ∀ j, a.length - i ≤ j → (dvS (b.getLast?.getD 0) b n a i).2.getD j 0 = 0
 | 0 => fun _ j hj => getD_ge (by rw [(dvS_length _ _ _ _ 0).2]; omega)
 | i + 1 =>
  by
  intro hi j hj
  have h := dvS_zero hn hb i (by omega)
  have hl := (dvS_length (b.getLast?.getD 0) b n a i).2
  rw [dvS]
  show (subT _ _ _ _ _).getD j 0 = 0
  rcases Nat.lt_or_ge j a.length with h1 | h1
  ·
   rw [subT_getD _ _ _ _ _ _ (by rw [List.length_map, hl]; exact h1), getD_map_mul]
   split
   ·
    have e : j = n - i + b.length - 1 := by omega
    have e2 : j - (n - i) = b.length - 1 := by omega
    rw [e2, ← e, getLast_getD]
    omega
   ·
    rw [h j (by omega), Int.zero_mul]
  ·
   exact getD_ge (by rw [subT_length, List.length_map, hl]; exact h1)
theorem pdv_len {a b : List Int} (hb : 0 < b.length) : (pdv a b).2.length < b.length := by
 unfold pdv
 split
 ·
  assumption
 ·
  rename_i h
  have h2 := dvS_zero (a := a) (b := b) (n := a.length - b.length) (by omega) hb (a.length - b.length + 1) (Nat.le_refl _)
  have := tzI_len_le (l := (dvS (b.getLast?.getD 0) b (a.length - b.length) a (a.length - b.length + 1)).2) (k := b.length - 1) (fun i hi => h2 i (by omega))
  show (tzI _).length < _
  omega
theorem pdv_ends {a : List Int} (b : List Int) (ha : Ends a) : Ends (pdv a b).2 := by
 unfold pdv
 split
 ·
  exact ha
 ·
  exact tzI_ends _
theorem pdv_ends1 (a b : List Int) : Ends (pdv a b).1 := by
 unfold pdv
 split
 ·
  intro k x h; simp at h
 ·
  exact tzI_ends _
theorem pdv_zs {a b : List Int} {m k : Nat} (ha : ∀ x ∈ a, zs m x) (hb : ∀ x ∈ b, zs k x) :
  (∀ x ∈ (pdv a b).1, zs (m + (a.length - b.length + 1) * (k + 1)) x) ∧ (∀ x ∈ (pdv a b).2, zs (m + (a.length - b.length + 1) * (k + 1)) x) := by
 unfold pdv
 have hc : zs k (b.getLast?.getD 0) := by rw [getLast_getD]; exact getD_zs hb _
 have h := dvS_zs (n := a.length - b.length) ha hb hc (a.length - b.length + 1)
 split
 ·
  exact ⟨fun x hx => absurd hx (by simp), fun x hx => (ha x hx).mono (by omega)⟩
 ·
  exact ⟨fun x hx => h.1 x (tzI_mem hx), fun x hx => h.2 x (tzI_mem hx)⟩
theorem pdv_len1 (a b : List Int) : (pdv a b).1.length ≤ a.length - b.length + 1 := by
 unfold pdv
 split
 ·
  simp
 ·
  refine Nat.le_trans (tzI_len _) ?_
  rw [(dvS_length _ _ _ _ _).1]
  exact Nat.le_refl _
def gst (p : List Int × List Int) : List Int × List Int :=
 if p.2.length = 0 then p else if p.1.length < p.2.length then (p.2, p.1) else (p.2, prm (pdv p.1 p.2).2)
def gsts (p : List Int × List Int) : Nat → List Int × List Int
 | 0 => p
 | n + 1 => gst (gsts p n)
theorem gst_nil {p : List Int × List Int} (h : p.2.length = 0) : gst p = p := by unfold gst; rw [if_pos h]
theorem gst_swap {p : List Int × List Int} (h : ¬ p.2.length = 0) (h2 : p.1.length < p.2.length) : gst p = (p.2, p.1) := by unfold gst; rw [if_neg h, if_pos h2]
theorem gst_div {p : List Int × List Int} (h : ¬ p.2.length = 0) (h2 : ¬ p.1.length < p.2.length) : gst p = (p.2, prm (pdv p.1 p.2).2) := by unfold gst; rw [if_neg h, if_neg h2]
theorem gst_less {p : List Int × List Int} (h : ¬ p.2.length = 0) : (gst p).2.length < p.2.length := by
 by_cases h2 : p.1.length < p.2.length
 ·
  rw [gst_swap h h2]; exact h2
 ·
  rw [gst_div h h2]
  show (prm _).length < _
  rw [prm_length]
  exact pdv_len (by omega)
theorem gsts_stay {p : List Int × List Int} {n : Nat} (h : (gsts p n).2.length = 0) : ∀ k, gsts p (n + k) = gsts p n
 | 0 => rfl
 | k + 1 =>
  by
  show gst (gsts p (n + k)) = _
  rw [gsts_stay h k]
  exact gst_nil h
theorem gsts_len (p : List Int × List Int) : ∀ n, (gsts p n).2.length ≤ p.2.length - n
 | 0 => by simp [gsts]
 | n + 1 =>
  by
  have h := gsts_len p n
  by_cases h0 : (gsts p n).2.length = 0
  ·
   show (gst (gsts p n)).2.length ≤ _
   rw [gst_nil h0]; omega
  ·
   have := gst_less h0
   show (gst (gsts p n)).2.length ≤ _
   omega
def gcdQ (p : List Int × List Int) : List Int := (gsts p p.2.length).1
theorem gcdQ_of {p : List Int × List Int} {n : Nat} (h : (gsts p n).2.length = 0) : (gsts p n).1 = gcdQ p := by
 have h2 : (gsts p p.2.length).2.length = 0 := by have := gsts_len p p.2.length; omega
 unfold gcdQ
 rcases Nat.le_total n p.2.length with hn | hn
 ·
  have := gsts_stay h (p.2.length - n)
  rw [show n + (p.2.length - n) = p.2.length by omega] at this
  rw [this]
 ·
  have := gsts_stay h2 (n - p.2.length)
  rw [show p.2.length + (n - p.2.length) = n by omega] at this
  rw [this]
def gcdP (a b : List Int) : List Int := gcdQ (prm a, prm b)
def GFine (p : List Int × List Int) (M : Nat) : Prop := ∀ n, (∀ x ∈ (gsts p n).1, zs M x) ∧ (∀ x ∈ (gsts p n).2, zs M x)
theorem gsts_ends {p : List Int × List Int} (h1 : Ends p.1) (h2 : Ends p.2) : ∀ n, Ends (gsts p n).1 ∧ Ends (gsts p n).2
 | 0 => ⟨h1, h2⟩
 | n + 1 =>
  by
  have h := gsts_ends h1 h2 n
  show Ends (gst (gsts p n)).1 ∧ Ends (gst (gsts p n)).2
  by_cases h0 : (gsts p n).2.length = 0
  ·
   rw [gst_nil h0]; exact h
  ·
   by_cases h3 : (gsts p n).1.length < (gsts p n).2.length
   ·
    rw [gst_swap h0 h3]; exact ⟨h.2, h.1⟩
   ·
    rw [gst_div h0 h3]; exact ⟨h.2, prm_ends (pdv_ends _ h.1)⟩
theorem gsts_lens {p : List Int × List Int} {L : Nat} (h1 : p.1.length ≤ L) (h2 : p.2.length ≤ L) : ∀ n, (gsts p n).1.length ≤ L ∧ (gsts p n).2.length ≤ L
 | 0 => ⟨h1, h2⟩
 | n + 1 =>
  by
  have h := gsts_lens h1 h2 n
  show (gst (gsts p n)).1.length ≤ L ∧ (gst (gsts p n)).2.length ≤ L
  by_cases h0 : (gsts p n).2.length = 0
  ·
   rw [gst_nil h0]; exact h
  ·
   by_cases h3 : (gsts p n).1.length < (gsts p n).2.length
   ·
    rw [gst_swap h0 h3]; exact ⟨h.2, h.1⟩
   ·
    rw [gst_div h0 h3]
    have := pdv_len (a := (gsts p n).1) (b := (gsts p n).2) (by omega)
    refine ⟨h.2, ?_⟩
    show (prm _).length ≤ L
    rw [prm_length]
    omega
theorem gfine_of {p : List Int × List Int} {M : Nat} (h : ∀ n, n ≤ p.2.length → (∀ x ∈ (gsts p n).1, zs M x) ∧ (∀ x ∈ (gsts p n).2, zs M x)) : GFine p M := by
 intro n
 rcases Nat.le_total n p.2.length with hn | hn
 ·
  exact h n hn
 ·
  have h2 : (gsts p p.2.length).2.length = 0 := by have := gsts_len p p.2.length; omega
  have := gsts_stay h2 (n - p.2.length)
  rw [show p.2.length + (n - p.2.length) = n by omega] at this
  rw [this]
  exact h _ (Nat.le_refl _)
def sqf (p : List Int) : List Int := prm (pdv p (gcdP p (der p))).1
end Go.Proofs.YtjpalbonclgflaaGreat

/- The Sturm chain, the changes of sign and the bound, as the program makes them: plain. -/
namespace Go.Proofs.YtjpalbonclgflaaGreat

def redC (l : List Int) (s : Int) (x : Int) : Int := if s < 0 then -(x.fdiv (gcdL l)) else x.fdiv (gcdL l)
def red (l : List Int) (s : Int) : List Int := tzI (l.map (redC l s))
theorem red_len (l : List Int) (s : Int) : (red l s).length ≤ l.length := by
 unfold red
 exact Nat.le_trans (tzI_len _) (by simp)
theorem red_ends (l : List Int) (s : Int) : Ends (red l s) := tzI_ends _
theorem redC_zs {l : List Int} {s x : Int} {m : Nat} (hx : x ∈ l) (h : zs m x) : zs m (redC l s x) := by
 unfold redC
 split
 ·
  exact (fdiv_zs (gcdL_dvd hx) h).neg
 ·
  exact fdiv_zs (gcdL_dvd hx) h
theorem red_zs {l : List Int} {s : Int} {m : Nat} (h : ∀ x ∈ l, zs m x) : ∀ x ∈ red l s, zs m x := by
 intro x hx
 obtain ⟨y, hy, rfl⟩ := List.mem_map.1 (tzI_mem hx)
 exact redC_zs hy (h y hy)
theorem gcdL_pos {l : List Int} {x : Int} (hx : x ∈ l) (h : x ≠ 0) : 0 < gcdL l := by
 have := gcdL_dvd hx
 rcases Nat.eq_zero_or_pos (gcdL l) with h0 | h0
 ·
  rw [h0] at this; exact absurd (Int.zero_dvd.1 this) h
 ·
  exact h0
theorem Ends.gcd {l : List Int} (h : Ends l) (h0 : 0 < l.length) : 0 < gcdL l := by
 rcases List.eq_nil_or_concat l with rfl | ⟨l0, y, rfl⟩
 ·
  simp at h0
 ·
  rw [List.concat_eq_append] at *
  exact gcdL_pos (x := y) (by simp) (h _ _ rfl)
def sgS (a b : List Int) : Int := if b.getLast?.getD 0 < 0 ∧ (a.length - b.length + 1) % 2 = 1 then 1 else -1
def chn : Nat → List Int → List Int → List (List Int)
 | 0, _, _ => []
 | n + 1, p, q => if q.length = 0 then [] else q :: chn n q (red (pdv p q).2 (sgS p q))
theorem chn_nil {n : Nat} {p q : List Int} (h : q.length = 0) : chn n p q = [] := by
 cases n with
 | zero => rfl
 | succ n => rw [chn, if_pos h]
theorem chn_step {n : Nat} {p q : List Int} (h : ¬ q.length = 0) : chn (n + 1) p q = q :: chn n q (red (pdv p q).2 (sgS p q)) := by rw [chn, if_neg h]
theorem chn_less {p q : List Int} (s : Int) (h : ¬ q.length = 0) : (red (pdv p q).2 s).length < q.length := Nat.lt_of_le_of_lt (red_len _ _) (pdv_len (by omega))
def stm (p : List Int) : List (List Int) := p :: if p.length < 2 then [] else chn p.length p (red (der p) 1)
def stmA (p : List Int) : List (List Int) := stm (sqf p)
def atV (l : List Int) (n d : Int) : Int × Int := l.foldr (fun c s => (s.1 * n + c * s.2, s.2 * d)) (0, 1)
theorem atV_nil (n d : Int) : atV [] n d = (0, 1) := rfl
theorem atV_cons (c : Int) (l : List Int) (n d : Int) : atV (c :: l) n d = ((atV l n d).1 * n + c * (atV l n d).2, (atV l n d).2 * d) := rfl
theorem atV_drop {l : List Int} {k : Nat} {x : Int} (n d : Int) (h : l[k]? = some x) : atV (l.drop k) n d = ((atV (l.drop (k + 1)) n d).1 * n + x * (atV (l.drop (k + 1)) n d).2, (atV (l.drop (k + 1)) n d).2 * d) := by
 have hk := (List.getElem?_eq_some_iff.1 h).1
 rw [List.drop_eq_getElem_cons hk, (List.getElem?_eq_some_iff.1 h).2]
 rfl
theorem atV_zs {l : List Int} {n d : Int} {m k : Nat} (hl : ∀ x ∈ l, zs m x) (hn : zs k n) (hd : zs k d) : zs (m + 1 + l.length * (k + 1)) (atV l n d).1 ∧ zs (1 + l.length * k) (atV l n d).2 := by
 induction l with
 | nil => rw [atV_nil]; exact ⟨zs_nat 0 _ (Nat.pow_pos (by decide)), zs_nat 1 _ (by simp)⟩
 | cons c l ih =>
  have h := ih (fun x hx => hl x (by simp [hx]))
  rw [atV_cons]
  have e1 : m + 1 + (l.length + 1) * (k + 1) = (m + 1 + l.length * (k + 1) + k) + 1 := by rw [Nat.add_mul]; omega
  have e2 : 1 + (l.length + 1) * k = (1 + l.length * k) + k := by rw [Nat.add_mul]; omega
  have e3 : l.length * (k + 1) = l.length * k + l.length := by rw [Nat.mul_add]; omega
  refine ⟨?_, ?_⟩
  ·
   show zs (m + 1 + (l.length + 1) * (k + 1)) _
   rw [e1]
   exact (h.1.mul hn).add (((hl c (by simp)).mul h.2).mono (by omega))
  ·
   show zs (1 + (l.length + 1) * k) _
   rw [e2]
   exact h.2.mul hd
def chgS (n d : Int) (st : Nat × Int) (p : List Int) : Nat × Int :=
 let s := cmpZ (atV p n d).1 0
 (if s ≠ 0 ∧ st.2 ≠ 0 ∧ s ≠ st.2 then st.1 + 1 else st.1, if s ≠ 0 then s else st.2)
def chg (l : List (List Int)) (r : Rat) : Nat := (l.foldl (chgS r.num (r.den : Int)) (0, 0)).1
def mostL (l : List Int) : Nat := l.foldl (fun g x => max g x.natAbs) 0
theorem mostL_snoc (l : List Int) (x : Int) : mostL (l ++ [x]) = max (mostL l) x.natAbs := by simp [mostL]
theorem mostL_zs {l : List Int} {m : Nat} (h : ∀ x ∈ l, zs m x) : zs m (mostL l : Int) := by
 have : ∀ (l : List Int) (g : Nat), g < 256 ^ m → (∀ x ∈ l, zs m x) → l.foldl (fun g x => max g x.natAbs) g < 256 ^ m := by
  intro l
  induction l with
  | nil => intro g hg _; exact hg
  | cons x l ih =>
   intro g hg hx
   have hx0 : x.natAbs < 256 ^ m := hx x (by simp)
   exact ih _ (Nat.max_lt.2 ⟨hg, hx0⟩) (fun y hy => hx y (by simp [hy]))
 unfold zs
 rw [Int.natAbs_natCast]
 exact this l 0 (Nat.pow_pos (by decide)) h
def bndK (p : List Int) : Nat := Nat.log2 (((p.getLast?.getD 0).natAbs + mostL p.dropLast) / (p.getLast?.getD 0).natAbs) + 1
def bnd (p : List Int) : Nat := 2 ^ bndK p
theorem bnd_le {p : List Int} (h : Ends p) (h0 : 0 < p.length) (k : Nat) : 2 ^ k * (p.getLast?.getD 0).natAbs ≤ (p.getLast?.getD 0).natAbs + mostL p.dropLast ↔ k < bndK p := by
 unfold bndK
 obtain ⟨l0, y, hp⟩ : ∃ l0 y, p = l0 ++ [y] := by
  rcases List.eq_nil_or_concat p with rfl | ⟨l0, y, rfl⟩
  ·
   simp at h0
  ·
   exact ⟨l0, y, List.concat_eq_append⟩
 have hy := h _ _ hp
 have hl : (p.getLast?.getD 0).natAbs = y.natAbs := by rw [hp]; simp
 rw [hl]
 have hy0 : 0 < y.natAbs := Int.natAbs_pos.2 hy
 rw [← Nat.le_div_iff_mul_le hy0, Nat.lt_succ_iff]
 have hne : (y.natAbs + mostL p.dropLast) / y.natAbs ≠ 0 := by
  have : 1 ≤ (y.natAbs + mostL p.dropLast) / y.natAbs := (Nat.le_div_iff_mul_le hy0).2 (by omega)
  omega
 exact (Nat.le_log2 hne).symm
end Go.Proofs.YtjpalbonclgflaaGreat

/- polynomial.Canonical: its result lies in memory of its own (the proof of XCanI with one limb more). -/
namespace Go.Proofs.YtjpalbonclgflaaGreat
open Go.RowKit

def Fresh (w : World) (v : Value) : Prop := ∀ b, v.ownBlock = some b → w.heap.size ≤ b
def CanRetF (l : List Int) (w : World) (e : Ending) (w' : World) : Prop :=
 Below w.heap.size w w' ∧ ∃ v, e = .returned v ∧ Row w' v (tzI l).length (civ (tzI l)) ∧ Fresh w v
def PolRetF (r : List Int) (w : World) (e : Ending) (w' : World) : Prop := Below w.heap.size w w' ∧ ∃ v, e = .returned v ∧ Row w' v r.length (civ r) ∧ Fresh w v
set_option maxRecDepth 100000 in
set_option maxHeartbeats 6400000 in
theorem canon_fresh (l : List Int) (v : Value) (w : World) (hr : Row w v l.length (civ l)) (hl : l.length ≤ 100000) (hs : ∀ x ∈ l, small x) :
  Calls Tryz.prog 84 #[v] w (CanRetF l w) := by
 obtain ⟨va, vc, rfl, hle⟩ := hr.slice
 obtain ⟨i0, hi, hz0, hz1', hz2'⟩ := info_parts infoZ
 obtain ⟨n, hn⟩ : ∃ n, n = l.length := ⟨_, rfl⟩
 have hadd : ∀ x, x ∈ l → ∀ w', Calls Tryz.prog 85 #[IntV x, .agg #[.bool false, .string ⟨#[]⟩]] w' (Ret w' (IntV x)) := fun x hx w' => by
  have h := iadd_any (ineg x) (ineg 0) (imag x) (imag 0) w' (hs x hx) (by rw [imag_zero]; decide)
  rw [ival_canon, ival_canon, Int.add_zero, imag_zero] at h
  exact h
 rw [← hn] at hr hle hl
 have hmk := mkI0 n (by omega)
 have hmade := own_made w w.heap.size 25 (.agg #[.bool false, .string ⟨#[]⟩]) n (Nat.le_refl _) (by unfold maxLen; omega)
 have s0 := (Below.refl w.heap.size w).alloc (Nat.le_refl _) (.cells (zarr (.agg #[.bool false, .string ⟨#[]⟩]) n) 25)
 have HR := zh hr; clear hr
 have HN := zh hn; clear hn
 have HADD := zh hadd; clear hadd
 have HMADE := zh hmade; clear hmade
 have S0 := zh s0; clear s0
 clear hs
 go_enter Tryz.func84, Tryz.ntmps84
 rw [← HN.out]
 go_wp2_with fail
 go_loopw [3, 5, 11] (fun u _ i wr => ∃ k : Nat, k ≤ n ∧ i = .int .i64 k ∧ wr.ownsRow w.heap.size 25 2 u k (civ (l.take k)) ∧ Below w.heap.size w wr) (fun _ _ i _ => n - (intOf i).toNat)
 case atStart => exact ⟨0, Nat.zero_le _, rfl, HMADE.out, S0.out⟩
 case round =>
  obtain ⟨k, hk, rfl, hown, hbel⟩ := hrel
  have hsz : w.heap.size ≤ wr.heap.size := hbel.size
  obtain ⟨wo, rfl⟩ : ∃ wo : World, wo = wr := ⟨_, rfl⟩
  by_cases hlt : k < n
  ·
   have hkl : k < l.length := by rw [← HN.out]; exact hlt
   have hget : l[k]? = some (l[k]'hkl) := List.getElem?_eq_getElem _
   obtain ⟨x, hx⟩ : ∃ x, x = l[k]'hkl := ⟨_, rfl⟩
   rw [← hx] at hget
   have haddx := HADD.out x (by rw [hx]; exact List.getElem_mem _)
   have hz2 : civ (l.take (k + 1)) = civ (l.take k) ++ [.bool (ineg x), .string (imag x)] := by
    rw [List.take_add_one, hget]; exact civ_snoc _ _
   obtain ⟨b1, o1, rfl, hb1, hbc⟩ := HR.out.at_ (by omega)
   obtain ⟨c0, c1⟩ := int_cells hbc hbel hb1 hget
   obtain ⟨a, cap, rfl⟩ := own_slice hown
   have hix1 : (0 : Int) ≤ (k : Int) := by omega
   have hix2 : (k : Int) < (n : Int) := by omega
   have ho1 := hown.alloc (.cells #[.bool (ineg x), .string (imag x)] 25)
   have s1 := hbel.alloc hsz (.cells #[.bool (ineg x), .string (imag x)] 25)
   have bx := Blk.new wo 25 [.bool (ineg x), .string (imag x)]
   have d0 := bx.c 0 rfl
   have d1 := bx.c 1 rfl
   have HO1 := zh ho1; clear ho1
   have S1 := zh s1; clear s1
   have HZ2 := zh hz2; clear hz2
   have HADDX := zh haddx; clear haddx
   clear hx hget hbc hkl bx hown
   go_wp2_with fail
   go_at_call 85
   refine (HADDX.out _).mono ?_
   rintro e w2 ⟨hq2, rfl⟩
   have ho2 := own_below HO1.out hq2
   have hb2 := S1.out.trans (hq2.mono S1.out.size)
   have hsz2 : w.heap.size ≤ w2.heap.size := hb2.size
   have HO2 := zh ho2; clear ho2
   have HB2 := zh hb2; clear hb2
   clear hq2 d0 d1 c0 c1
   go_wp2_with (at_builtin; refine wpList_append_lies _ rfl (.tmp 15) (.tmp 19) 22 rfl w.heap.size 25 i0 _ 2 24 Tryz.underlying22 hi hz0 hz1' hz2' rfl (by decide) _ _ _ rfl (HO2.out.alloc _) _ 1 1 [.bool (ineg x), .string (imag x)] rfl rfl (World.news_of_block (heap_alloc_new _ _)) (by simp [Value.oneCell']) (by omega) (by unfold maxLen; omega) (by omega) (by simp; omega) _ rfl ?_; intro g cap' w3 hown' hg hat hlt'; have HG := zh hg; clear hg; have HO4 := zh hown'; clear hown'; have HAT := zh hat; clear hat)
   go_roundw
   case rel =>
    refine ⟨k + 1, by omega, by go_num, ?_, (HB2.out.alloc hsz2 _).grown HG.out (by simp; omega) (fun j hj => (HO2.out.lt j hj).1)⟩
    rw [HZ2.out]; exact HO4.out
   case measure => simp [intOf]; omega
  ·
   obtain rfl : k = n := by omega
   have htk : l.take k = l := List.take_of_length_le (by rw [← HN.out]; exact Nat.le_refl _)
   rw [htk] at hown
   have hrow := own_row hown
   have hfr0 : Fresh w _ := fun b e => (hown.lt b e).1
   have HROW := zh hrow; clear hrow
   have HFR0 := zh hfr0; clear hfr0
   have HB := zh hbel; clear hbel
   clear hown htk hlt hk
   go_wp2_with fail
   go_loopw [3] (fun u wr => ∃ m : Nat, m ≤ k ∧ Row wr u m (civ (l.take m)) ∧ tzI (l.take m) = tzI l ∧ Below wo.heap.size wo wr ∧ Fresh w u) (fun u _ => slLen u)
   case atStart => exact ⟨k, Nat.le_refl _, by rw [List.take_of_length_le (by rw [← HN.out]; exact Nat.le_refl _)]; exact HROW.out, by rw [List.take_of_length_le (by rw [← HN.out]; exact Nat.le_refl _)], Below.refl _ _, HFR0.out⟩
   case round =>
    obtain ⟨m, hm, hrw, htz, hbw, hfr⟩ := hrel
    have HFR := zh hfr; clear hfr
    have s2 := HB.out.trans (hbw.mono HB.out.size)
    obtain ⟨ua, uc, rfl, hule⟩ := hrw.slice
    have HTZ := zh htz; clear htz
    have HBW := zh hbw; clear hbw
    have S2 := zh s2; clear s2
    cases m with
    | zero =>
     have HRW := zh hrw; clear hrw
     go_wp2_with fail
     go_ret
     refine ⟨S2.out, _, rfl, ?_⟩
     rw [← HTZ.out]
     exact ⟨HRW.out, fun b e => HFR.out b e⟩
    | succ m =>
     have hml : m < l.length := by rw [← HN.out]; omega
     have hget : l[m]? = some (l[m]'hml) := List.getElem?_eq_getElem _
     obtain ⟨x, hx⟩ : ∃ x, x = l[m]'hml := ⟨_, rfl⟩
     rw [← hx] at hget
     have htake : l.take (m + 1) = l.take m ++ [x] := by rw [List.take_add_one, hget]; rfl
     have hget2 : (l.take (m + 1))[m]? = some x := by rw [List.getElem?_take, if_pos (by omega)]; exact hget
     obtain ⟨b1, o1, rfl, hb1, hbc⟩ := hrw.at_ (by omega)
     obtain ⟨c0, c1⟩ := int_cells hbc (Below.refl wr.heap.size wr) hb1 hget2
     have hez := fun w' => eqIn_zero x w'
     have hpos : (0 : Int) < ((m : Int) + 1) := by omega
     have hcap : m + 1 ≤ uc := by
      rcases id hrw with ⟨h1, -, -⟩ | ⟨b, off, cap, h1, h2, h3, h4, h5⟩
      ·
       cases h1
      ·
       cases h1; exact h2
     have hcap1 : m ≤ uc := by omega
     have hcap0 : ¬ uc = 0 := by omega
     have hcut : Row wr (.slice (some ⟨b1, o1, none⟩) m uc) m (civ (l.take m)) := by
      rcases id hrw with ⟨h1, -, -⟩ | ⟨b, off, cap, h1, h2, h3, h4, h5⟩
      ·
       cases h1
      ·
       cases h1
       refine .inr ⟨_, _, _, rfl, by omega, h3, h4, fun j u hu => h5 j u ?_⟩
       rw [htake, civ_append, List.getElem?_append_left (List.getElem?_eq_some_iff.1 hu).1]
       exact hu
     have HCUT := zh hcut; clear hcut
     by_cases h0 : x = 0
     ·
      have hnx : tzI (l.take m) = tzI l := by rw [← HTZ.out, htake, h0, tzI_snoc_zero]
      rw [decide_eq_true h0] at hez
      have HNX := zh hnx; clear hnx
      clear hbc hget hget2 htake h0 hrw hml hx
      go_wp2_with fail
      go_roundw
      case rel => exact ⟨m, by omega, HCUT.out, HNX.out, HBW.out, fun b e => HFR.out b e⟩
      case measure => simp [slLen]
     ·
      have hfin : tzI l = l.take (m + 1) := by rw [← HTZ.out, htake, tzI_snoc_ne _ h0]
      rw [decide_eq_false h0] at hez
      have hlen : (tzI l).length = m + 1 := by rw [hfin, List.length_take]; omega
      have HFIN := zh hfin; clear hfin
      have HLEN := zh hlen; clear hlen
      have HRW := zh hrw; clear hrw
      clear hbc hget hget2 htake h0 hml hx
      go_wp2_with fail
      go_ret
      refine ⟨S2.out, _, rfl, ?_⟩
      rw [HLEN.out, HFIN.out]
      exact ⟨HRW.out, fun b e => HFR.out b e⟩
end Go.Proofs.YtjpalbonclgflaaGreat

/- At its bound a polynomial has the sign of its leading coefficient: plain. -/
namespace Go.Proofs.YtjpalbonclgflaaGreat

theorem mostL_le {l : List Int} {x : Int} (hx : x ∈ l) : x.natAbs ≤ mostL l := by
 have : ∀ (l : List Int) (g : Nat), g ≤ l.foldl (fun g x => max g x.natAbs) g ∧ ∀ x ∈ l, x.natAbs ≤ l.foldl (fun g x => max g x.natAbs) g := by
  intro l
  induction l with
  | nil => intro g; exact ⟨Nat.le_refl _, fun x hx => absurd hx (by simp)⟩
  | cons y l ih =>
   intro g
   have h := ih (max g y.natAbs)
   refine ⟨Nat.le_trans (Nat.le_max_left _ _) h.1, fun x hx => ?_⟩
   rcases List.mem_cons.1 hx with rfl | hx
   ·
    exact Nat.le_trans (Nat.le_max_right _ _) h.1
   ·
    exact h.2 x hx
 exact (this l 0).2 x hx
end Go.Proofs.YtjpalbonclgflaaGreat

