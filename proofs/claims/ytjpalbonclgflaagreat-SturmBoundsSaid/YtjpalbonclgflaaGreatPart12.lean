/- Contracts and plain laws of several functions, one after the other: StS, CanF, PrmF. -/
import Derived.Test.YtjpalbonclgflaaGreatRatD
import Derived.Test.YtjpalbonclgflaaGreatDer
/- sturm.sign, number, absolute, middle; polynomial.Derivative (printed by gen_small.py). -/
namespace Go.Proofs.YtjpalbonclgflaaGreat
open Go.RowKit

theorem zs_nat (n m : Nat) (h : n < 256 ^ m) : zs m (n : Int) := by unfold zs; rw [Int.natAbs_natCast]; exact h
theorem der_sized {l : List Int} {m : Nat} (hl : l.length ≤ 1000) (hs : ∀ x ∈ l, zs m x) : ∀ x ∈ der l, zs (m + 2) x := by
 intro x hx
 unfold der derT at hx
 obtain ⟨j, hj, rfl⟩ := List.mem_map.1 hx
 have hj := List.mem_range.1 hj
 refine zs.mul ?_ (zs_nat _ _ (by omega))
 have hjl : j + 1 < l.length := by omega
 rw [List.getD, List.getElem?_eq_getElem hjl]
 exact hs _ (List.getElem_mem _)
theorem tzI_mem {l : List Int} {x : Int} (h : x ∈ tzI l) : x ∈ l := by
 unfold tzI at h
 rw [List.mem_reverse] at h
 exact List.mem_reverse.1 ((List.dropWhile_sublist _).mem h)
theorem tzI_len (l : List Int) : (tzI l).length ≤ l.length := by
 unfold tzI
 rw [List.length_reverse]
 exact Nat.le_trans (List.dropWhile_sublist _).length_le (by simp)
theorem tzI_ends (l : List Int) : Ends (tzI l) := by
 intro k x h
 rcases List.eq_nil_or_concat l with rfl | ⟨l0, y, rfl⟩
 ·
  simp [tzI] at h
 ·
  rw [List.concat_eq_append] at h
  induction hn : l0.length generalizing l0 y with
  | zero =>
   obtain rfl := List.length_eq_zero_iff.1 hn
   by_cases hy : y = 0
   ·
    subst hy
    rw [tzI_snoc_zero, tzI_nil] at h
    simp at h
   ·
    rw [tzI_snoc_ne _ hy] at h
    have := List.append_inj' h rfl
    simp at this
    rw [← this.2]; exact hy
  | succ n ih =>
   by_cases hy : y = 0
   ·
    subst hy
    rw [tzI_snoc_zero] at h
    rcases List.eq_nil_or_concat l0 with rfl | ⟨l1, y1, rfl⟩
    ·
     simp at hn
    ·
     rw [List.concat_eq_append] at h hn
     exact ih l1 y1 h (by simp at hn; omega)
   ·
    rw [tzI_snoc_ne _ hy] at h
    have := List.append_inj' h rfl
    simp at this
    rw [← this.2]; exact hy
theorem tzI_id {l : List Int} (h : Ends l) : tzI l = l := by
 rcases List.eq_nil_or_concat l with rfl | ⟨l0, y, rfl⟩
 ·
  rfl
 ·
  rw [List.concat_eq_append] at *
  exact tzI_snoc_ne _ (h _ _ rfl)
set_option maxRecDepth 100000 in
set_option maxHeartbeats 3200000 in
theorem ssign_any (n : Bool) (s : ByteArray) (w : World) (hs : s.size ≤ 100000000000) :
  Calls Tryz.prog 109 #[.agg #[.bool n, .string s]] w (Ret w (.int .i64 (cmpZ (ival n s) 0))) := by
 obtain ⟨w4, hw4⟩ : ∃ w4, w4 = w.alloc (.cells #[.bool n, .string s] 25) := ⟨_, rfl⟩
 have k_a : Blk w4 (w.heap.size) 25 [.bool n, .string s] := by
  rw [hw4]
  have h := (Blk.new (w) 25 [.bool n, .string s])
  (try simp only [World.size_alloc, Nat.add_assoc, Nat.reduceAdd] at h)
  exact h
 have tl : Below w.heap.size w w4 := by
  rw [hw4]
  exact ((Below.refl w.heap.size w).alloc (by simp <;> omega) (.cells #[.bool n, .string s] 25))
 have hs4 : w4.heap.size = w.heap.size + 1 := by rw [hw4]; simp only [World.size_alloc]
 have a_0 := k_a.c 0 rfl
 have a_f0 := k_a.frozen 0
 have a_1 := k_a.c 1 rfl
 have a_f1 := k_a.frozen 1
 have HA := Lib.hid k_a; clear k_a
 have HBL := Lib.hid tl; clear tl
 have hc := fun w' => icompare_any n false s ⟨#[]⟩ w' (by omega) (by decide)
 rw [ival_nil] at hc
 clear hs
 have HC := Lib.hid hc; clear hc
 go_enter Tryz.func109, Tryz.ntmps109
 go_wp2_with fail
 (try rw [← hw4])
 clear hw4
 (try simp only [Nat.add_assoc, Nat.reduceAdd])
 refine (HC.out _).mono ?_
 rintro e w5 ⟨hq, rfl⟩
 dsimp only
 have k_a := HA.out.keep hq
 have tl := HBL.out.trans ((hq).mono HBL.out.size)
 clear HBL HA
 clear a_0 a_f0 a_1 a_f1
 have a_0 := k_a.c 0 rfl
 have a_f0 := k_a.frozen 0
 have a_1 := k_a.c 1 rfl
 have a_f1 := k_a.frozen 1
 have HA := Lib.hid k_a; clear k_a
 have HBL := Lib.hid tl; clear tl
 clear hq
 go_wp2_with fail
 go_ret
 exact ⟨HBL.out, rfl⟩
set_option maxRecDepth 100000 in
set_option maxHeartbeats 3200000 in
theorem snumber_any (n : Int) (w : World) (h1 : -9223372036854775808 ≤ n) (h2 : n ≤ 9223372036854775807) :
  Calls Tryz.prog 56 #[.int .i64 n] w (Ret w (RatV (Rat.divInt n 1))) := by
 obtain ⟨w4, hw4⟩ : ∃ w4, w4 = w.alloc (.cells #[.bool false, .string ⟨#[]⟩, .bool false, .string ⟨#[]⟩] 27) := ⟨_, rfl⟩
 have k_r : Blk w4 (w.heap.size) 27 [.bool false, .string ⟨#[]⟩, .bool false, .string ⟨#[]⟩] := by
  rw [hw4]
  have h := (Blk.new (w) 27 [.bool false, .string ⟨#[]⟩, .bool false, .string ⟨#[]⟩])
  (try simp only [World.size_alloc, Nat.add_assoc, Nat.reduceAdd] at h)
  exact h
 have tl : Below w.heap.size w w4 := by
  rw [hw4]
  exact ((Below.refl w.heap.size w).alloc (by simp <;> omega) (.cells #[.bool false, .string ⟨#[]⟩, .bool false, .string ⟨#[]⟩] 27))
 have hs4 : w4.heap.size = w.heap.size + 1 := by rw [hw4]; simp only [World.size_alloc]
 have r_0 := k_r.c 0 rfl
 have r_f0 := k_r.frozen 0
 have r_1 := k_r.c 1 rfl
 have r_f1 := k_r.frozen 1
 have r_2 := k_r.c 2 rfl
 have r_f2 := k_r.frozen 2
 have r_3 := k_r.c 3 rfl
 have r_f3 := k_r.frozen 3
 have HR := Lib.hid k_r; clear k_r
 have HBL := Lib.hid tl; clear tl
 have ho := fun w' => iof_any n w' h1 h2
 have hr := fun w' => qof_any (ineg n) (imag n) w' (by rw [imag_size]; exact Nat.le_trans (bb_length_le (m := 8) (by omega)) (by decide))
 simp only [ival_canon] at hr
 obtain ⟨q, hq'⟩ : ∃ q, q = Rat.divInt n 1 := ⟨_, rfl⟩
 rw [← hq'] at hr ⊢
 clear hq' h1 h2
 have HO := Lib.hid ho; clear ho
 have HRO := Lib.hid hr; clear hr
 go_enter Tryz.func56, Tryz.ntmps56
 go_wp2_with fail
 (try rw [← hw4])
 clear hw4
 (try simp only [Nat.add_assoc, Nat.reduceAdd])
 refine (HO.out _).mono ?_
 rintro e w5 ⟨hq, rfl⟩
 dsimp only
 have k_r := HR.out.keep hq
 have tl := HBL.out.trans ((hq).mono HBL.out.size)
 clear HBL HR
 clear r_0 r_f0 r_1 r_f1 r_2 r_f2 r_3 r_f3
 have r_0 := k_r.c 0 rfl
 have r_f0 := k_r.frozen 0
 have r_1 := k_r.c 1 rfl
 have r_f1 := k_r.frozen 1
 have r_2 := k_r.c 2 rfl
 have r_f2 := k_r.frozen 2
 have r_3 := k_r.c 3 rfl
 have r_f3 := k_r.frozen 3
 have HR := Lib.hid k_r; clear k_r
 have HBL := Lib.hid tl; clear tl
 clear hq
 go_wp2_with fail
 refine (HRO.out _).mono ?_
 rintro e w6 ⟨hq, rfl⟩
 dsimp only
 have k_r := HR.out.keep hq
 have tl := HBL.out.trans ((hq).mono HBL.out.size)
 clear HBL HR
 clear r_0 r_f0 r_1 r_f1 r_2 r_f2 r_3 r_f3
 have r_0 := k_r.c 0 rfl
 have r_f0 := k_r.frozen 0
 have r_1 := k_r.c 1 rfl
 have r_f1 := k_r.frozen 1
 have r_2 := k_r.c 2 rfl
 have r_f2 := k_r.frozen 2
 have r_3 := k_r.c 3 rfl
 have r_f3 := k_r.frozen 3
 have HR := Lib.hid k_r; clear k_r
 have HBL := Lib.hid tl; clear tl
 clear hq
 go_wp2_with fail
 have hrv : RatV q = .agg #[.bool (ineg (q).num), .string (imag (q).num), .bool (ineg ((q).den : Int)), .string (imag ((q).den : Int))] := rfl
 have kz := ((((HR.out.set 0 (.bool (ineg (q).num))).set 1 (.string (imag (q).num))).set 2 (.bool (ineg ((q).den : Int)))).set 3 (.string (imag ((q).den : Int))))
 have sz := ((((HBL.out.setCell (p := ⟨w.heap.size, 0, none⟩) (by show w.heap.size ≤ w.heap.size; omega) (.bool (ineg (q).num))).setCell (p := ⟨w.heap.size, 1, none⟩) (by show w.heap.size ≤ w.heap.size; omega) (.string (imag (q).num))).setCell (p := ⟨w.heap.size, 2, none⟩) (by show w.heap.size ≤ w.heap.size; omega) (.bool (ineg ((q).den : Int)))).setCell (p := ⟨w.heap.size, 3, none⟩) (by show w.heap.size ≤ w.heap.size; omega) (.string (imag ((q).den : Int))))
 have e0 := kz.c 0 rfl
 have e1 := kz.c 1 rfl
 have e2 := kz.c 2 rfl
 have e3 := kz.c 3 rfl
 refine bodyPost_ret (v := RatV q) (by rw [hrv]; simp [results, Tryz.results56, go_sem, e0, e1, e2, e3]) rfl ⟨sz, rfl⟩
set_option maxRecDepth 100000 in
set_option maxHeartbeats 3200000 in
theorem sabs_any (z : Int) (w : World) (hs : (imag z).size ≤ 100000000000) :
  Calls Tryz.prog 116 #[IntV z] w (Ret w (IntV (z.natAbs : Int))) := by
 have hsg := fun w' => ssign_any (ineg z) (imag z) w' hs
 have hng := fun w' => neg_any (ineg z) (imag z) w' (by omega)
 rw [ival_canon] at hng
 simp only [ival_canon] at hsg
 show Calls Tryz.prog 116 #[.agg #[.bool (ineg z), .string (imag z)]] w _
 obtain ⟨w4, hw4⟩ : ∃ w4, w4 = (w.alloc (.cells #[.bool (ineg z), .string (imag z)] 25)).alloc (.cells #[.bool false, .string ⟨#[]⟩] 25) := ⟨_, rfl⟩
 have k_a : Blk w4 (w.heap.size) 25 [.bool (ineg z), .string (imag z)] := by
  rw [hw4]
  have h := ((Blk.new (w) 25 [.bool (ineg z), .string (imag z)]).alloc (.cells #[.bool false, .string ⟨#[]⟩] 25))
  (try simp only [World.size_alloc, Nat.add_assoc, Nat.reduceAdd] at h)
  exact h
 have k_r : Blk w4 (w.heap.size + 1) 25 [.bool false, .string ⟨#[]⟩] := by
  rw [hw4]
  have h := (Blk.new (w.alloc (.cells #[.bool (ineg z), .string (imag z)] 25)) 25 [.bool false, .string ⟨#[]⟩])
  (try simp only [World.size_alloc, Nat.add_assoc, Nat.reduceAdd] at h)
  exact h
 have tl : Below w.heap.size w w4 := by
  rw [hw4]
  exact (((Below.refl w.heap.size w).alloc (by simp <;> omega) (.cells #[.bool (ineg z), .string (imag z)] 25)).alloc (by simp <;> omega) (.cells #[.bool false, .string ⟨#[]⟩] 25))
 have hs4 : w4.heap.size = w.heap.size + 2 := by rw [hw4]; simp only [World.size_alloc]
 have a_0 := k_a.c 0 rfl
 have a_f0 := k_a.frozen 0
 have a_1 := k_a.c 1 rfl
 have a_f1 := k_a.frozen 1
 have HA := Lib.hid k_a; clear k_a
 have r_0 := k_r.c 0 rfl
 have r_f0 := k_r.frozen 0
 have r_1 := k_r.c 1 rfl
 have r_f1 := k_r.frozen 1
 have HR := Lib.hid k_r; clear k_r
 have HBL := Lib.hid tl; clear tl
 by_cases hz : z < 0
 ·
  have hc : cmpZ z 0 = -1 := by simp [cmpZ, hz]
  have ha : (z.natAbs : Int) = -z := by omega
  rw [hc] at hsg
  rw [ha]
  obtain ⟨y, hy⟩ : ∃ y, y = -z := ⟨_, rfl⟩
  rw [← hy] at hng ⊢
  clear hc ha hz hy hs
  have HSG := Lib.hid hsg; clear hsg
  have HNG := Lib.hid hng; clear hng
  go_enter Tryz.func116, Tryz.ntmps116
  go_wp2_with fail
  (try rw [← hw4])
  clear hw4
  (try simp only [Nat.add_assoc, Nat.reduceAdd])
  refine (HSG.out _).mono ?_
  rintro e w5 ⟨hq, rfl⟩
  dsimp only
  have k_a := HA.out.keep hq
  have k_r := HR.out.keep hq
  have tl := HBL.out.trans ((hq).mono HBL.out.size)
  clear HBL HA HR
  clear a_0 a_f0 a_1 a_f1
  have a_0 := k_a.c 0 rfl
  have a_f0 := k_a.frozen 0
  have a_1 := k_a.c 1 rfl
  have a_f1 := k_a.frozen 1
  have HA := Lib.hid k_a; clear k_a
  clear r_0 r_f0 r_1 r_f1
  have r_0 := k_r.c 0 rfl
  have r_f0 := k_r.frozen 0
  have r_1 := k_r.c 1 rfl
  have r_f1 := k_r.frozen 1
  have HR := Lib.hid k_r; clear k_r
  have HBL := Lib.hid tl; clear tl
  clear hq
  go_wp2_with fail
  refine (HNG.out _).mono ?_
  rintro e w6 ⟨hq, rfl⟩
  dsimp only
  have k_a := HA.out.keep hq
  have k_r := HR.out.keep hq
  have tl := HBL.out.trans ((hq).mono HBL.out.size)
  clear HBL HA HR
  clear a_0 a_f0 a_1 a_f1
  have a_0 := k_a.c 0 rfl
  have a_f0 := k_a.frozen 0
  have a_1 := k_a.c 1 rfl
  have a_f1 := k_a.frozen 1
  have HA := Lib.hid k_a; clear k_a
  clear r_0 r_f0 r_1 r_f1
  have r_0 := k_r.c 0 rfl
  have r_f0 := k_r.frozen 0
  have r_1 := k_r.c 1 rfl
  have r_f1 := k_r.frozen 1
  have HR := Lib.hid k_r; clear k_r
  have HBL := Lib.hid tl; clear tl
  clear hq
  go_wp2_with fail
  have hrv : IntV y = .agg #[.bool (ineg y), .string (imag y)] := rfl
  have kz := ((HR.out.set 0 (.bool (ineg y))).set 1 (.string (imag y)))
  have sz := ((HBL.out.setCell (p := ⟨w.heap.size + 1, 0, none⟩) (by show w.heap.size ≤ w.heap.size + 1; omega) (.bool (ineg y))).setCell (p := ⟨w.heap.size + 1, 1, none⟩) (by show w.heap.size ≤ w.heap.size + 1; omega) (.string (imag y)))
  have e0 := kz.c 0 rfl
  have e1 := kz.c 1 rfl
  refine bodyPost_ret (v := IntV y) (by rw [hrv]; simp [results, Tryz.results116, go_sem, e0, e1]) rfl ⟨sz, rfl⟩
 ·
  obtain ⟨c, hc⟩ : ∃ c, c = cmpZ z 0 := ⟨_, rfl⟩
  have hc0 : ¬ c < 0 := by rw [hc]; simp only [cmpZ, if_neg hz]; split <;> decide
  have ha : (z.natAbs : Int) = z := by omega
  rw [← hc] at hsg
  rw [ha]
  clear hc ha hz hs hng
  have HSG := Lib.hid hsg; clear hsg
  go_enter Tryz.func116, Tryz.ntmps116
  go_wp2_with fail
  (try rw [← hw4])
  clear hw4
  (try simp only [Nat.add_assoc, Nat.reduceAdd])
  refine (HSG.out _).mono ?_
  rintro e w5 ⟨hq, rfl⟩
  dsimp only
  have k_a := HA.out.keep hq
  have k_r := HR.out.keep hq
  have tl := HBL.out.trans ((hq).mono HBL.out.size)
  clear HBL HA HR
  clear a_0 a_f0 a_1 a_f1
  have a_0 := k_a.c 0 rfl
  have a_f0 := k_a.frozen 0
  have a_1 := k_a.c 1 rfl
  have a_f1 := k_a.frozen 1
  have HA := Lib.hid k_a; clear k_a
  clear r_0 r_f0 r_1 r_f1
  have r_0 := k_r.c 0 rfl
  have r_f0 := k_r.frozen 0
  have r_1 := k_r.c 1 rfl
  have r_f1 := k_r.frozen 1
  have HR := Lib.hid k_r; clear k_r
  have HBL := Lib.hid tl; clear tl
  clear hq
  go_wp2_with fail
  have hrv : IntV z = .agg #[.bool (ineg z), .string (imag z)] := rfl
  have kz := ((HR.out.set 0 (.bool (ineg z))).set 1 (.string (imag z)))
  have sz := ((HBL.out.setCell (p := ⟨w.heap.size + 1, 0, none⟩) (by show w.heap.size ≤ w.heap.size + 1; omega) (.bool (ineg z))).setCell (p := ⟨w.heap.size + 1, 1, none⟩) (by show w.heap.size ≤ w.heap.size + 1; omega) (.string (imag z)))
  have e0 := kz.c 0 rfl
  have e1 := kz.c 1 rfl
  refine bodyPost_ret (v := IntV z) (by rw [hrv]; simp [results, Tryz.results116, go_sem, e0, e1]) rfl ⟨sz, rfl⟩
set_option maxRecDepth 100000 in
set_option maxHeartbeats 3200000 in
theorem smiddle_any (na ma : Bool) (sa ta : ByteArray) (nb mb : Bool) (sb tb : ByteArray) (w : World) (h1 : sa.size ≤ 9000000000) (h2 : ta.size ≤ 9000000000) (h3 : sb.size ≤ 9000000000) (h4 : tb.size ≤ 9000000000) :
  Calls Tryz.prog 66 #[.agg #[.bool na, .string sa, .bool ma, .string ta], .agg #[.bool nb, .string sb, .bool mb, .string tb]] w (Ret w (RatV ((Rat.divInt (ival na sa) (ival ma ta) + Rat.divInt (ival nb sb) (ival mb tb)) / 2))) := by
 obtain ⟨w4, hw4⟩ : ∃ w4, w4 = ((w.alloc (.cells #[.bool na, .string sa, .bool ma, .string ta] 27)).alloc (.cells #[.bool nb, .string sb, .bool mb, .string tb] 27)).alloc (.cells #[.bool false, .string ⟨#[]⟩, .bool false, .string ⟨#[]⟩] 27) := ⟨_, rfl⟩
 have k_a : Blk w4 (w.heap.size) 27 [.bool na, .string sa, .bool ma, .string ta] := by
  rw [hw4]
  have h := (((Blk.new (w) 27 [.bool na, .string sa, .bool ma, .string ta]).alloc (.cells #[.bool nb, .string sb, .bool mb, .string tb] 27)).alloc (.cells #[.bool false, .string ⟨#[]⟩, .bool false, .string ⟨#[]⟩] 27))
  (try simp only [World.size_alloc, Nat.add_assoc, Nat.reduceAdd] at h)
  exact h
 have k_b : Blk w4 (w.heap.size + 1) 27 [.bool nb, .string sb, .bool mb, .string tb] := by
  rw [hw4]
  have h := ((Blk.new (w.alloc (.cells #[.bool na, .string sa, .bool ma, .string ta] 27)) 27 [.bool nb, .string sb, .bool mb, .string tb]).alloc (.cells #[.bool false, .string ⟨#[]⟩, .bool false, .string ⟨#[]⟩] 27))
  (try simp only [World.size_alloc, Nat.add_assoc, Nat.reduceAdd] at h)
  exact h
 have k_r : Blk w4 (w.heap.size + 2) 27 [.bool false, .string ⟨#[]⟩, .bool false, .string ⟨#[]⟩] := by
  rw [hw4]
  have h := (Blk.new ((w.alloc (.cells #[.bool na, .string sa, .bool ma, .string ta] 27)).alloc (.cells #[.bool nb, .string sb, .bool mb, .string tb] 27)) 27 [.bool false, .string ⟨#[]⟩, .bool false, .string ⟨#[]⟩])
  (try simp only [World.size_alloc, Nat.add_assoc, Nat.reduceAdd] at h)
  exact h
 have tl : Below w.heap.size w w4 := by
  rw [hw4]
  exact ((((Below.refl w.heap.size w).alloc (by simp <;> omega) (.cells #[.bool na, .string sa, .bool ma, .string ta] 27)).alloc (by simp <;> omega) (.cells #[.bool nb, .string sb, .bool mb, .string tb] 27)).alloc (by simp <;> omega) (.cells #[.bool false, .string ⟨#[]⟩, .bool false, .string ⟨#[]⟩] 27))
 have hs4 : w4.heap.size = w.heap.size + 3 := by rw [hw4]; simp only [World.size_alloc]
 have a_0 := k_a.c 0 rfl
 have a_f0 := k_a.frozen 0
 have a_1 := k_a.c 1 rfl
 have a_f1 := k_a.frozen 1
 have a_2 := k_a.c 2 rfl
 have a_f2 := k_a.frozen 2
 have a_3 := k_a.c 3 rfl
 have a_f3 := k_a.frozen 3
 have HA := Lib.hid k_a; clear k_a
 have b_0 := k_b.c 0 rfl
 have b_f0 := k_b.frozen 0
 have b_1 := k_b.c 1 rfl
 have b_f1 := k_b.frozen 1
 have b_2 := k_b.c 2 rfl
 have b_f2 := k_b.frozen 2
 have b_3 := k_b.c 3 rfl
 have b_f3 := k_b.frozen 3
 have HB := Lib.hid k_b; clear k_b
 have r_0 := k_r.c 0 rfl
 have r_f0 := k_r.frozen 0
 have r_1 := k_r.c 1 rfl
 have r_f1 := k_r.frozen 1
 have r_2 := k_r.c 2 rfl
 have r_f2 := k_r.frozen 2
 have r_3 := k_r.c 3 rfl
 have r_f3 := k_r.frozen 3
 have HR := Lib.hid k_r; clear k_r
 have HBL := Lib.hid tl; clear tl
 have had := fun w' => radd_anyQ na ma sa ta nb mb sb tb w' (by omega) (by omega) (by omega) (by omega)
 have hqa := divInt_sized (ival_sized h1 na) (ival_sized h2 ma) (by decide)
 have hqb := divInt_sized (ival_sized h3 nb) (ival_sized h4 mb) (by decide)
 obtain ⟨qa, ha⟩ : ∃ q, q = Rat.divInt (ival na sa) (ival ma ta) := ⟨_, rfl⟩
 obtain ⟨qb, hb⟩ : ∃ q, q = Rat.divInt (ival nb sb) (ival mb tb) := ⟨_, rfl⟩
 rw [← ha] at had hqa ⊢
 rw [← hb] at had hqb ⊢
 have hsum : rs 18000000001 (qa + qb) := by rw [← rat_add]; exact divInt_sized ((hqa.1.mul hqb.2).add (hqb.1.mul hqa.2)) ((hqa.2.mul hqb.2).mono (by decide)) (by decide)
 have hnu := fun w' => snumber_any 2 w' (by decide) (by decide)
 obtain ⟨qs, hqs⟩ : ∃ q, q = qa + qb := ⟨_, rfl⟩
 rw [← hqs] at had hsum ⊢
 obtain ⟨q2, hq2⟩ : ∃ q, q = Rat.divInt 2 1 := ⟨_, rfl⟩
 have h2s : rs 1 q2 := by rw [hq2]; exact divInt_sized (zs_nat 2 1 (by decide)) (zs_nat 1 1 (by decide)) (by decide)
 have h20 : q2 ≠ 0 := by rw [hq2]; decide
 have h22 : q2 = 2 := by rw [hq2]; rfl
 rw [← hq2] at hnu
 rw [← h22]
 have hqu := fun w' => rquo_any (ineg qs.num) (ineg (qs.den : Int)) (imag qs.num) (imag (qs.den : Int)) (ineg q2.num) (ineg (q2.den : Int)) (imag q2.num) (imag (q2.den : Int)) w' (Nat.le_trans hsum.1.size (by decide)) (Nat.le_trans hsum.2.size (by decide)) (Nat.le_trans h2s.1.size (by decide)) (Nat.le_trans h2s.2.size (by decide)) (by simp only [ival_canon, Rat.num_divInt_den]; exact h20)
 simp only [ival_canon, Rat.num_divInt_den] at hqu
 obtain ⟨q, hq'⟩ : ∃ q, q = qs / q2 := ⟨_, rfl⟩
 rw [← hq'] at hqu ⊢
 clear hq' hsum h2s h20 h22 hq2 hqs hqa hqb ha hb h1 h2 h3 h4
 have HAD := Lib.hid had; clear had
 have HNU := Lib.hid hnu; clear hnu
 have HQU := Lib.hid hqu; clear hqu
 go_enter Tryz.func66, Tryz.ntmps66
 go_wp2_with fail
 (try rw [← hw4])
 clear hw4
 (try simp only [Nat.add_assoc, Nat.reduceAdd])
 refine (HAD.out _).mono ?_
 rintro e w5 ⟨hq, rfl⟩
 dsimp only
 have k_a := HA.out.keep hq
 have k_b := HB.out.keep hq
 have k_r := HR.out.keep hq
 have tl := HBL.out.trans ((hq).mono HBL.out.size)
 clear HBL HA HB HR
 clear a_0 a_f0 a_1 a_f1 a_2 a_f2 a_3 a_f3
 have a_0 := k_a.c 0 rfl
 have a_f0 := k_a.frozen 0
 have a_1 := k_a.c 1 rfl
 have a_f1 := k_a.frozen 1
 have a_2 := k_a.c 2 rfl
 have a_f2 := k_a.frozen 2
 have a_3 := k_a.c 3 rfl
 have a_f3 := k_a.frozen 3
 have HA := Lib.hid k_a; clear k_a
 clear b_0 b_f0 b_1 b_f1 b_2 b_f2 b_3 b_f3
 have b_0 := k_b.c 0 rfl
 have b_f0 := k_b.frozen 0
 have b_1 := k_b.c 1 rfl
 have b_f1 := k_b.frozen 1
 have b_2 := k_b.c 2 rfl
 have b_f2 := k_b.frozen 2
 have b_3 := k_b.c 3 rfl
 have b_f3 := k_b.frozen 3
 have HB := Lib.hid k_b; clear k_b
 clear r_0 r_f0 r_1 r_f1 r_2 r_f2 r_3 r_f3
 have r_0 := k_r.c 0 rfl
 have r_f0 := k_r.frozen 0
 have r_1 := k_r.c 1 rfl
 have r_f1 := k_r.frozen 1
 have r_2 := k_r.c 2 rfl
 have r_f2 := k_r.frozen 2
 have r_3 := k_r.c 3 rfl
 have r_f3 := k_r.frozen 3
 have HR := Lib.hid k_r; clear k_r
 have HBL := Lib.hid tl; clear tl
 clear hq
 go_wp2_with fail
 refine (HNU.out _).mono ?_
 rintro e w6 ⟨hq, rfl⟩
 dsimp only
 have k_a := HA.out.keep hq
 have k_b := HB.out.keep hq
 have k_r := HR.out.keep hq
 have tl := HBL.out.trans ((hq).mono HBL.out.size)
 clear HBL HA HB HR
 clear a_0 a_f0 a_1 a_f1 a_2 a_f2 a_3 a_f3
 have a_0 := k_a.c 0 rfl
 have a_f0 := k_a.frozen 0
 have a_1 := k_a.c 1 rfl
 have a_f1 := k_a.frozen 1
 have a_2 := k_a.c 2 rfl
 have a_f2 := k_a.frozen 2
 have a_3 := k_a.c 3 rfl
 have a_f3 := k_a.frozen 3
 have HA := Lib.hid k_a; clear k_a
 clear b_0 b_f0 b_1 b_f1 b_2 b_f2 b_3 b_f3
 have b_0 := k_b.c 0 rfl
 have b_f0 := k_b.frozen 0
 have b_1 := k_b.c 1 rfl
 have b_f1 := k_b.frozen 1
 have b_2 := k_b.c 2 rfl
 have b_f2 := k_b.frozen 2
 have b_3 := k_b.c 3 rfl
 have b_f3 := k_b.frozen 3
 have HB := Lib.hid k_b; clear k_b
 clear r_0 r_f0 r_1 r_f1 r_2 r_f2 r_3 r_f3
 have r_0 := k_r.c 0 rfl
 have r_f0 := k_r.frozen 0
 have r_1 := k_r.c 1 rfl
 have r_f1 := k_r.frozen 1
 have r_2 := k_r.c 2 rfl
 have r_f2 := k_r.frozen 2
 have r_3 := k_r.c 3 rfl
 have r_f3 := k_r.frozen 3
 have HR := Lib.hid k_r; clear k_r
 have HBL := Lib.hid tl; clear tl
 clear hq
 go_wp2_with fail
 refine (HQU.out _).mono ?_
 rintro e w7 ⟨hq, rfl⟩
 dsimp only
 have k_a := HA.out.keep hq
 have k_b := HB.out.keep hq
 have k_r := HR.out.keep hq
 have tl := HBL.out.trans ((hq).mono HBL.out.size)
 clear HBL HA HB HR
 clear a_0 a_f0 a_1 a_f1 a_2 a_f2 a_3 a_f3
 have a_0 := k_a.c 0 rfl
 have a_f0 := k_a.frozen 0
 have a_1 := k_a.c 1 rfl
 have a_f1 := k_a.frozen 1
 have a_2 := k_a.c 2 rfl
 have a_f2 := k_a.frozen 2
 have a_3 := k_a.c 3 rfl
 have a_f3 := k_a.frozen 3
 have HA := Lib.hid k_a; clear k_a
 clear b_0 b_f0 b_1 b_f1 b_2 b_f2 b_3 b_f3
 have b_0 := k_b.c 0 rfl
 have b_f0 := k_b.frozen 0
 have b_1 := k_b.c 1 rfl
 have b_f1 := k_b.frozen 1
 have b_2 := k_b.c 2 rfl
 have b_f2 := k_b.frozen 2
 have b_3 := k_b.c 3 rfl
 have b_f3 := k_b.frozen 3
 have HB := Lib.hid k_b; clear k_b
 clear r_0 r_f0 r_1 r_f1 r_2 r_f2 r_3 r_f3
 have r_0 := k_r.c 0 rfl
 have r_f0 := k_r.frozen 0
 have r_1 := k_r.c 1 rfl
 have r_f1 := k_r.frozen 1
 have r_2 := k_r.c 2 rfl
 have r_f2 := k_r.frozen 2
 have r_3 := k_r.c 3 rfl
 have r_f3 := k_r.frozen 3
 have HR := Lib.hid k_r; clear k_r
 have HBL := Lib.hid tl; clear tl
 clear hq
 obtain ⟨b_m, hb_m⟩ : ∃ b, b = w7.heap.size := ⟨_, rfl⟩
 have hal : Below w7.heap.size w7 (w7.alloc (.cells #[.bool (ineg (q).num), .string (imag (q).num), .bool (ineg ((q).den : Int)), .string (imag ((q).den : Int))] 27)) := (Below.refl _ _).alloc (Nat.le_refl _) _
 have k_m : Blk (w7.alloc (.cells #[.bool (ineg (q).num), .string (imag (q).num), .bool (ineg ((q).den : Int)), .string (imag ((q).den : Int))] 27)) b_m 27 [.bool (ineg (q).num), .string (imag (q).num), .bool (ineg ((q).den : Int)), .string (imag ((q).den : Int))] := by rw [hb_m]; exact Blk.new w7 _ _
 have hge_m : w.heap.size ≤ b_m := by rw [hb_m]; exact HBL.out.size
 have k_a := HA.out.keep hal
 have k_b := HB.out.keep hal
 have k_r := HR.out.keep hal
 have tl := HBL.out.trans ((hal).mono HBL.out.size)
 clear HBL HA HB HR
 clear a_0 a_f0 a_1 a_f1 a_2 a_f2 a_3 a_f3
 have a_0 := k_a.c 0 rfl
 have a_f0 := k_a.frozen 0
 have a_1 := k_a.c 1 rfl
 have a_f1 := k_a.frozen 1
 have a_2 := k_a.c 2 rfl
 have a_f2 := k_a.frozen 2
 have a_3 := k_a.c 3 rfl
 have a_f3 := k_a.frozen 3
 have HA := Lib.hid k_a; clear k_a
 clear b_0 b_f0 b_1 b_f1 b_2 b_f2 b_3 b_f3
 have b_0 := k_b.c 0 rfl
 have b_f0 := k_b.frozen 0
 have b_1 := k_b.c 1 rfl
 have b_f1 := k_b.frozen 1
 have b_2 := k_b.c 2 rfl
 have b_f2 := k_b.frozen 2
 have b_3 := k_b.c 3 rfl
 have b_f3 := k_b.frozen 3
 have HB := Lib.hid k_b; clear k_b
 clear r_0 r_f0 r_1 r_f1 r_2 r_f2 r_3 r_f3
 have r_0 := k_r.c 0 rfl
 have r_f0 := k_r.frozen 0
 have r_1 := k_r.c 1 rfl
 have r_f1 := k_r.frozen 1
 have r_2 := k_r.c 2 rfl
 have r_f2 := k_r.frozen 2
 have r_3 := k_r.c 3 rfl
 have r_f3 := k_r.frozen 3
 have HR := Lib.hid k_r; clear k_r
 have HBL := Lib.hid tl; clear tl
 clear hal
 have m_0 := k_m.c 0 rfl
 have m_f0 := k_m.frozen 0
 have m_1 := k_m.c 1 rfl
 have m_f1 := k_m.frozen 1
 have m_2 := k_m.c 2 rfl
 have m_f2 := k_m.frozen 2
 have m_3 := k_m.c 3 rfl
 have m_f3 := k_m.frozen 3
 have HM := Lib.hid k_m; clear k_m
 go_wp2_with fail
 (try rw [← hb_m])
 have HB_m := Lib.hid hb_m; clear hb_m
 have hrv : RatV q = .agg #[.bool (ineg (q).num), .string (imag (q).num), .bool (ineg ((q).den : Int)), .string (imag ((q).den : Int))] := rfl
 have kz := ((((HR.out.set 0 (.bool (ineg (q).num))).set 1 (.string (imag (q).num))).set 2 (.bool (ineg ((q).den : Int)))).set 3 (.string (imag ((q).den : Int))))
 have sz := ((((HBL.out.setCell (p := ⟨w.heap.size + 2, 0, none⟩) (by show w.heap.size ≤ w.heap.size + 2; omega) (.bool (ineg (q).num))).setCell (p := ⟨w.heap.size + 2, 1, none⟩) (by show w.heap.size ≤ w.heap.size + 2; omega) (.string (imag (q).num))).setCell (p := ⟨w.heap.size + 2, 2, none⟩) (by show w.heap.size ≤ w.heap.size + 2; omega) (.bool (ineg ((q).den : Int)))).setCell (p := ⟨w.heap.size + 2, 3, none⟩) (by show w.heap.size ≤ w.heap.size + 2; omega) (.string (imag ((q).den : Int))))
 have e0 := kz.c 0 rfl
 have e1 := kz.c 1 rfl
 have e2 := kz.c 2 rfl
 have e3 := kz.c 3 rfl
 refine bodyPost_ret (v := RatV q) (by rw [hrv]; simp [results, Tryz.results66, go_sem, e0, e1, e2, e3]) rfl ⟨sz, rfl⟩
set_option maxRecDepth 100000 in
set_option maxHeartbeats 3200000 in
theorem Derivative_any (l : List Int) (v : Value) (w : World) (m : Nat) (hr : Row w v l.length (civ l)) (hl : l.length ≤ 1000) (hs : ∀ x ∈ l, zs m x) (hm : m ≤ 90000000000) :
  Calls Tryz.prog 153 #[v] w (PolRet (tzI (der (tzI l))) w) := by
 have hc1 := canon_any l v w hr (by omega) (fun x hx => by unfold small; exact Nat.le_trans (hs x hx).size (by omega))
 have ht := tzI_len l
 have hd := fun v w' h => derivative_any (tzI l) v w' m h (by omega) (fun x hx => hs x (tzI_mem hx)) (by omega)
 have hdl : (der (tzI l)).length ≤ 100000 := by unfold der; rw [derT_length]; omega
 have hc2 := fun v w' h => canon_any (der (tzI l)) v w' h hdl (fun x hx => by unfold small; exact Nat.le_trans (der_sized (by omega) (fun x hx => hs x (tzI_mem hx)) x hx).size (by omega))
 have HC1 := Lib.hid hc1; clear hc1
 have HD := Lib.hid hd; clear hd
 have HC2 := Lib.hid hc2; clear hc2
 clear hr hl hs hm ht hdl
 go_enter Tryz.func153, Tryz.ntmps153
 go_wp2_with fail
 refine (HC1.out).mono ?_
 rintro e w1 ⟨hq1, v1, rfl, hv1⟩
 dsimp only
 have hd1 := HD.out _ _ hv1
 have HD1 := Lib.hid hd1; clear hd1
 have HQ1 := Lib.hid hq1; clear hq1
 go_wp2_with fail
 refine (HD1.out).mono ?_
 rintro e w2 ⟨hq2, v2, rfl, hv2⟩
 dsimp only
 have hd2 := HC2.out _ _ hv2
 have s2 := HQ1.out.trans (hq2.mono HQ1.out.size)
 have HD2 := Lib.hid hd2; clear hd2
 have S2 := Lib.hid s2; clear s2
 go_wp2_with fail
 refine (HD2.out).mono ?_
 rintro e w3 ⟨hq3, v3, rfl, hv3⟩
 dsimp only
 have s3 := S2.out.trans (hq3.mono S2.out.size)
 obtain ⟨a3, c3, rfl, -⟩ := hv3.slice
 have S3 := Lib.hid s3; clear s3
 have HV3 := Lib.hid hv3; clear hv3
 go_wp2_with fail
 go_ret
 exact ⟨S3.out, _, rfl, HV3.out⟩
end Go.Proofs.YtjpalbonclgflaaGreat

/- polynomial.Canonical: its result lies in memory of its own (the proof of XCanI with one limb more). -/
namespace Go.Proofs.YtjpalbonclgflaaGreat
open Go.RowKit

def Fresh (w : World) (v : Value) : Prop := ∀ b, v.ownBlock = some b → w.heap.size ≤ b
def CanRetF (l : List Int) (w : World) (e : Ending) (w' : World) : Prop :=
 Below w.heap.size w w' ∧ ∃ v, e = .returned v ∧ Row w' v (tzI l).length (civ (tzI l)) ∧ Fresh w v
def PolRetF (r : List Int) (w : World) (e : Ending) (w' : World) : Prop := Below w.heap.size w w' ∧ ∃ v, e = .returned v ∧ Row w' v r.length (civ r) ∧ Fresh w v
set_option maxRecDepth 100000 in
set_option maxHeartbeats 6400000 in
theorem canon_fresh (l : List Int) (v : Value) (w : World) (hr : Row w v l.length (civ l)) (hl : l.length ≤ 100000) (hs : ∀ x ∈ l, small x) :
  Calls Tryz.prog 84 #[v] w (CanRetF l w) := by
 obtain ⟨va, vc, rfl, hle⟩ := hr.slice
 obtain ⟨i0, hi, hz0, hz1', hz2'⟩ := info_parts infoZ
 obtain ⟨n, hn⟩ : ∃ n, n = l.length := ⟨_, rfl⟩
 have hadd : ∀ x, x ∈ l → ∀ w', Calls Tryz.prog 85 #[IntV x, .agg #[.bool false, .string ⟨#[]⟩]] w' (Ret w' (IntV x)) := fun x hx w' => by
  have h := iadd_any (ineg x) (ineg 0) (imag x) (imag 0) w' (hs x hx) (by rw [imag_zero]; decide)
  rw [ival_canon, ival_canon, Int.add_zero, imag_zero] at h
  exact h
 rw [← hn] at hr hle hl
 have hmk := mkI0 n (by omega)
 have hmade := own_made w w.heap.size 25 (.agg #[.bool false, .string ⟨#[]⟩]) n (Nat.le_refl _) (by unfold maxLen; omega)
 have s0 := (Below.refl w.heap.size w).alloc (Nat.le_refl _) (.cells (zarr (.agg #[.bool false, .string ⟨#[]⟩]) n) 25)
 have HR := Lib.hid hr; clear hr
 have HN := Lib.hid hn; clear hn
 have HADD := Lib.hid hadd; clear hadd
 have HMADE := Lib.hid hmade; clear hmade
 have S0 := Lib.hid s0; clear s0
 clear hs
 go_enter Tryz.func84, Tryz.ntmps84
 rw [← HN.out]
 go_wp2_with fail
 go_loopw [3, 5, 11] (fun u _ i wr => ∃ k : Nat, k ≤ n ∧ i = .int .i64 k ∧ wr.ownsRow w.heap.size 25 2 u k (civ (l.take k)) ∧ Below w.heap.size w wr) (fun _ _ i _ => n - (intOf i).toNat)
 case atStart => exact ⟨0, Nat.zero_le _, rfl, HMADE.out, S0.out⟩
 case round =>
  obtain ⟨k, hk, rfl, hown, hbel⟩ := hrel
  have hsz : w.heap.size ≤ wr.heap.size := hbel.size
  obtain ⟨wo, rfl⟩ : ∃ wo : World, wo = wr := ⟨_, rfl⟩
  by_cases hlt : k < n
  ·
   have hkl : k < l.length := by rw [← HN.out]; exact hlt
   have hget : l[k]? = some (l[k]'hkl) := List.getElem?_eq_getElem _
   obtain ⟨x, hx⟩ : ∃ x, x = l[k]'hkl := ⟨_, rfl⟩
   rw [← hx] at hget
   have haddx := HADD.out x (by rw [hx]; exact List.getElem_mem _)
   have hz2 : civ (l.take (k + 1)) = civ (l.take k) ++ [.bool (ineg x), .string (imag x)] := by
    rw [List.take_add_one, hget]; exact civ_snoc _ _
   obtain ⟨b1, o1, rfl, hb1, hbc⟩ := HR.out.at_ (by omega)
   obtain ⟨c0, c1⟩ := int_cells hbc hbel hb1 hget
   obtain ⟨a, cap, rfl⟩ := own_slice hown
   have hix1 : (0 : Int) ≤ (k : Int) := by omega
   have hix2 : (k : Int) < (n : Int) := by omega
   have ho1 := hown.alloc (.cells #[.bool (ineg x), .string (imag x)] 25)
   have s1 := hbel.alloc hsz (.cells #[.bool (ineg x), .string (imag x)] 25)
   have bx := Blk.new wo 25 [.bool (ineg x), .string (imag x)]
   have d0 := bx.c 0 rfl
   have d1 := bx.c 1 rfl
   have HO1 := Lib.hid ho1; clear ho1
   have S1 := Lib.hid s1; clear s1
   have HZ2 := Lib.hid hz2; clear hz2
   have HADDX := Lib.hid haddx; clear haddx
   clear hx hget hbc hkl bx hown
   go_wp2_with fail
   go_at_call 85
   refine (HADDX.out _).mono ?_
   rintro e w2 ⟨hq2, rfl⟩
   have ho2 := own_below HO1.out hq2
   have hb2 := S1.out.trans (hq2.mono S1.out.size)
   have hsz2 : w.heap.size ≤ w2.heap.size := hb2.size
   have HO2 := Lib.hid ho2; clear ho2
   have HB2 := Lib.hid hb2; clear hb2
   clear hq2 d0 d1 c0 c1
   go_wp2_with (at_builtin; refine wpList_append_lies _ rfl (.tmp 15) (.tmp 19) 22 rfl w.heap.size 25 i0 _ 2 24 Tryz.underlying22 hi hz0 hz1' hz2' rfl (by decide) _ _ _ rfl (HO2.out.alloc _) _ 1 1 [.bool (ineg x), .string (imag x)] rfl rfl (World.news_of_block (heap_alloc_new _ _)) (by simp [Value.oneCell']) (by omega) (by unfold maxLen; omega) (by omega) (by simp; omega) _ rfl ?_; intro g cap' w3 hown' hg hat hlt'; have HG := Lib.hid hg; clear hg; have HO4 := Lib.hid hown'; clear hown'; have HAT := Lib.hid hat; clear hat)
   go_roundw
   case rel =>
    refine ⟨k + 1, by omega, by go_num, ?_, (HB2.out.alloc hsz2 _).grown HG.out (by simp; omega) (fun j hj => (HO2.out.lt j hj).1)⟩
    rw [HZ2.out]; exact HO4.out
   case measure => simp [intOf]; omega
  ·
   obtain rfl : k = n := by omega
   have htk : l.take k = l := List.take_of_length_le (by rw [← HN.out]; exact Nat.le_refl _)
   rw [htk] at hown
   have hrow := own_row hown
   have hfr0 : Fresh w _ := fun b e => (hown.lt b e).1
   have HROW := Lib.hid hrow; clear hrow
   have HFR0 := Lib.hid hfr0; clear hfr0
   have HB := Lib.hid hbel; clear hbel
   clear hown htk hlt hk
   go_wp2_with fail
   go_loopw [3] (fun u wr => ∃ m : Nat, m ≤ k ∧ Row wr u m (civ (l.take m)) ∧ tzI (l.take m) = tzI l ∧ Below wo.heap.size wo wr ∧ Fresh w u) (fun u _ => slLen u)
   case atStart => exact ⟨k, Nat.le_refl _, by rw [List.take_of_length_le (by rw [← HN.out]; exact Nat.le_refl _)]; exact HROW.out, by rw [List.take_of_length_le (by rw [← HN.out]; exact Nat.le_refl _)], Below.refl _ _, HFR0.out⟩
   case round =>
    obtain ⟨m, hm, hrw, htz, hbw, hfr⟩ := hrel
    have HFR := Lib.hid hfr; clear hfr
    have s2 := HB.out.trans (hbw.mono HB.out.size)
    obtain ⟨ua, uc, rfl, hule⟩ := hrw.slice
    have HTZ := Lib.hid htz; clear htz
    have HBW := Lib.hid hbw; clear hbw
    have S2 := Lib.hid s2; clear s2
    cases m with
    | zero =>
     have HRW := Lib.hid hrw; clear hrw
     go_wp2_with fail
     go_ret
     refine ⟨S2.out, _, rfl, ?_⟩
     rw [← HTZ.out]
     exact ⟨HRW.out, fun b e => HFR.out b e⟩
    | succ m =>
     have hml : m < l.length := by rw [← HN.out]; omega
     have hget : l[m]? = some (l[m]'hml) := List.getElem?_eq_getElem _
     obtain ⟨x, hx⟩ : ∃ x, x = l[m]'hml := ⟨_, rfl⟩
     rw [← hx] at hget
     have htake : l.take (m + 1) = l.take m ++ [x] := by rw [List.take_add_one, hget]; rfl
     have hget2 : (l.take (m + 1))[m]? = some x := by rw [List.getElem?_take, if_pos (by omega)]; exact hget
     obtain ⟨b1, o1, rfl, hb1, hbc⟩ := hrw.at_ (by omega)
     obtain ⟨c0, c1⟩ := int_cells hbc (Below.refl wr.heap.size wr) hb1 hget2
     have hez := fun w' => eqIn_zero x w'
     have hpos : (0 : Int) < ((m : Int) + 1) := by omega
     have hcap : m + 1 ≤ uc := by
      rcases id hrw with ⟨h1, -, -⟩ | ⟨b, off, cap, h1, h2, h3, h4, h5⟩
      ·
       cases h1
      ·
       cases h1; exact h2
     have hcap1 : m ≤ uc := by omega
     have hcap0 : ¬ uc = 0 := by omega
     have hcut : Row wr (.slice (some ⟨b1, o1, none⟩) m uc) m (civ (l.take m)) := by
      rcases id hrw with ⟨h1, -, -⟩ | ⟨b, off, cap, h1, h2, h3, h4, h5⟩
      ·
       cases h1
      ·
       cases h1
       refine .inr ⟨_, _, _, rfl, by omega, h3, h4, fun j u hu => h5 j u ?_⟩
       rw [htake, civ_append, List.getElem?_append_left (List.getElem?_eq_some_iff.1 hu).1]
       exact hu
     have HCUT := Lib.hid hcut; clear hcut
     by_cases h0 : x = 0
     ·
      have hnx : tzI (l.take m) = tzI l := by rw [← HTZ.out, htake, h0, tzI_snoc_zero]
      rw [decide_eq_true h0] at hez
      have HNX := Lib.hid hnx; clear hnx
      clear hbc hget hget2 htake h0 hrw hml hx
      go_wp2_with fail
      go_roundw
      case rel => exact ⟨m, by omega, HCUT.out, HNX.out, HBW.out, fun b e => HFR.out b e⟩
      case measure => simp [slLen]
     ·
      have hfin : tzI l = l.take (m + 1) := by rw [← HTZ.out, htake, tzI_snoc_ne _ h0]
      rw [decide_eq_false h0] at hez
      have hlen : (tzI l).length = m + 1 := by rw [hfin, List.length_take]; omega
      have HFIN := Lib.hid hfin; clear hfin
      have HLEN := Lib.hid hlen; clear hlen
      have HRW := Lib.hid hrw; clear hrw
      clear hbc hget hget2 htake h0 hml hx
      go_wp2_with fail
      go_ret
      refine ⟨S2.out, _, rfl, ?_⟩
      rw [HLEN.out, HFIN.out]
      exact ⟨HRW.out, fun b e => HFR.out b e⟩
end Go.Proofs.YtjpalbonclgflaaGreat

/- polynomial.primitive: its result lies in memory of its own (the proof of XPrim with one limb more). -/
namespace Go.Proofs.YtjpalbonclgflaaGreat
open Go.RowKit

set_option maxRecDepth 100000 in
set_option maxHeartbeats 6400000 in
theorem primitive_fresh (l : List Int) (v : Value) (w : World) (m : Nat) (hr : Row w v l.length (civ l)) (hl : l.length ≤ 1000) (hs : ∀ x ∈ l, zs m x) (hm : m ≤ 100000000000) (he : Ends l) :
  Calls Tryz.prog 133 #[v] w (PolRetF (prm l) w) := by
 obtain ⟨va, vc, rfl, hle⟩ := hr.slice
 rcases List.eq_nil_or_concat l with rfl | ⟨l0, xl, rfl⟩
 ·
  clear hs
  go_enter Tryz.func133, Tryz.ntmps133
  go_wp2_with fail
  go_ret
  exact ⟨Below.refl _ _, _, rfl, Row.nil _, fun b e => by have e2 : (none : Option Nat) = some b := e; cases e2⟩
 ·
  rw [List.concat_eq_append] at *
  obtain ⟨l, hll⟩ : ∃ l, l = l0 ++ [xl] := ⟨_, rfl⟩
  have hxl := he l0 xl rfl
  rw [← hll] at hr hl hs he hle ⊢
  obtain ⟨n, hn⟩ : ∃ n, n = l.length := ⟨_, rfl⟩
  have hn0 : n = l0.length + 1 := by rw [hn, hll]; simp
  rw [← hn] at hr hle hl ⊢
  have hnb : ((n : Int) == 0) = false := by simp; omega
  have tg : Blk (w.alloc (.cells #[.bool false, .string ⟨#[]⟩] 25)) w.heap.size 25 [.bool false, .string ⟨#[]⟩] := Blk.new w _ _
  have hgt := fun k => gcdL_zs (m := m) (l.take k) (fun x hx => hs x (List.mem_of_mem_take hx))
  have HR := Lib.hid hr; clear hr
  have hnp : 0 < n := by omega
  have HN0 := Lib.hid hn0; clear hn0
  have HN := Lib.hid hn; clear hn
  have HS := Lib.hid hs; clear hs
  have HLL := Lib.hid hll; clear hll
  have HG := Lib.hid tg; clear tg
  have HGT := Lib.hid hgt; clear hgt
  go_enter Tryz.func133, Tryz.ntmps133
  go_wp2_with fail
  go_loopw [14] (fun i wr => ∃ k : Nat, k ≤ n ∧ i = .int .i64 k ∧ Below w.heap.size w wr ∧ Blk wr w.heap.size 25 [.bool (ineg (gcdL (l.take k) : Int)), .string (imag (gcdL (l.take k) : Int))]) (fun i _ => n - (intOf i).toNat)
  case atStart => exact ⟨0, Nat.zero_le _, rfl, (Below.refl _ _).alloc (Nat.le_refl _) _, by rw [List.take_zero]; rw [show ((gcdL [] : Nat) : Int) = 0 from rfl, ineg_zero, imag_zero]; exact HG.out⟩
  case round =>
   obtain ⟨k, hk, rfl, hbel, hgb⟩ := hrel
   obtain ⟨wo, rfl⟩ : ∃ wo : World, wo = wr := ⟨_, rfl⟩
   by_cases hlt : k < n
   ·
    have hkl : k < l.length := by rw [← HN.out]; exact hlt
    have hget : l[k]? = some (l[k]'hkl) := List.getElem?_eq_getElem _
    obtain ⟨x, hx⟩ : ∃ x, x = l[k]'hkl := ⟨_, rfl⟩
    rw [← hx] at hget
    have hxs := HS.out x (by rw [hx]; exact List.getElem_mem _)
    obtain ⟨G, hG⟩ : ∃ G, G = gcdL (l.take k) := ⟨_, rfl⟩
    have hsn : gcdL (l.take (k + 1)) = Nat.gcd G x.natAbs := by rw [hG, List.take_add_one, hget]; exact gcdL_snoc _ _
    have hgs := HGT.out k
    rw [← hG] at hgb hgs
    have hcall := fun w' => igcd_any (ineg (G : Int)) (ineg x) (imag (G : Int)) (imag x) w' (Nat.le_trans hgs.size hm) (Nat.le_trans hxs.size hm)
    rw [imag_list, imag_list, bval_bb, bval_bb, Int.natAbs_natCast, ← hsn] at hcall
    obtain ⟨b1, o1, rfl, hb1, hbc⟩ := HR.out.at_ (by omega)
    obtain ⟨c0, c1⟩ := int_cells hbc hbel hb1 hget
    have hlt2 : (k : Int) < (n : Int) := by omega
    have hal : Below wo.heap.size wo (wo.alloc (.cells #[.bool (ineg x), .string (imag x)] 25)) := (Below.refl _ _).alloc (Nat.le_refl _) _
    have bx := Blk.new wo 25 [.bool (ineg x), .string (imag x)]
    have d0 := bx.c 0 rfl
    have d1 := bx.c 1 rfl
    have tg := hgb.keep hal
    have g0 := tg.c 0 rfl
    have g1 := tg.c 1 rfl
    have tl := hbel.trans (hal.mono hbel.size)
    have HGB := Lib.hid tg; clear tg
    have HBL := Lib.hid tl; clear tl
    have HC := Lib.hid hcall; clear hcall
    clear hG hx hget hbc hkl hsn hgs bx hal hgb hbel hxs
    go_wp2_with fail
    refine (HC.out _).mono ?_
    rintro e w2 ⟨hq, rfl⟩
    dsimp only
    have tg := HGB.out.keep hq
    have tl := HBL.out.trans (hq.mono HBL.out.size)
    have g0 := tg.c 0 rfl
    have g1 := tg.c 1 rfl
    have f0 := tg.frozen 0
    have f1 := tg.frozen 1
    obtain ⟨G', hG'⟩ : ∃ G' : Int, G' = (gcdL (l.take (k + 1)) : Int) := ⟨_, rfl⟩
    rw [← hG']
    clear HGB HBL hq
    have HGB := Lib.hid tg; clear tg
    have HBL := Lib.hid tl; clear tl
    have HGE := Lib.hid hG'; clear hG'
    go_wp2_with fail
    go_roundw
    case rel =>
     refine ⟨k + 1, by omega, by go_num, (HBL.out.setCell (p := ⟨w.heap.size, 0, none⟩) (Nat.le_refl _) _).setCell (p := ⟨w.heap.size, 1, none⟩) (Nat.le_refl _) _, ?_⟩
     rw [← HGE.out]
     exact (HGB.out.set 0 _).set 1 _
    case measure => simp [intOf]; omega
   ·
    obtain rfl : k = n := by omega
    have htk : l.take k = l := List.take_of_length_le (by rw [← HN.out]; exact Nat.le_refl _)
    rw [htk] at hgb
    have hgs := HGT.out k
    rw [htk] at hgs
    obtain ⟨G, hG⟩ : ∃ G, G = gcdL l := ⟨_, rfl⟩
    rw [← hG] at hgb hgs
    have hxk : l[l0.length]? = some xl := by rw [HLL.out]; simp
    obtain ⟨b1, o1, rfl, hb1, hbc⟩ := HR.out.at_ (by omega)
    obtain ⟨c0, c1⟩ := int_cells hbc hbel hb1 hxk
    have hgp : 0 < G := by
     rw [hG, HLL.out, gcdL_snoc]
     exact Nat.gcd_pos_of_pos_right _ (Int.natAbs_pos.2 hxl)
    have hcS : contS l = if xl < 0 then -(G : Int) else (G : Int) := by
     unfold contS
     rw [HLL.out, List.getLast?_concat, Option.getD_some, ← HLL.out, hG]
    obtain ⟨C, hC⟩ : ∃ C, C = contS l := ⟨_, rfl⟩
    have hng := fun w' => neg_any (ineg (G : Int)) (imag (G : Int)) w' (Nat.le_trans hgs.size (by omega))
    rw [ival_canon] at hng
    have g0 := hgb.c 0 rfl
    have g1 := hgb.c 1 rfl
    have f0 := hgb.frozen 0
    have f1 := hgb.frozen 1
    obtain ⟨j0, hj0⟩ : ∃ j, j = l0.length := ⟨_, rfl⟩
    rw [← hj0] at c0 c1
    have hn0 := HN0.out
    have hki : (k : Int) - 1 = (j0 : Int) := by omega
    have hjk : (j0 : Int) < (k : Int) := by omega
    clear hn0
    have hC0 : C ≠ 0 := by rw [hC, hcS]; split <;> omega
    have hCs : zs m C := by
     rw [hC, hcS]
     split
     ·
      exact hgs.neg
     ·
      exact hgs
    have hrl : (prm l).length = k := by rw [prm_length, ← HN.out]
    have hcS2 : C = if xl < 0 then -(G : Int) else (G : Int) := hC.trans hcS
    have HJ0 := Lib.hid hj0; clear hj0
    have HCE := Lib.hid hC; clear hC
    have HGE := Lib.hid hG; clear hG
    have HCS := Lib.hid hcS; clear hcS
    have HNG := Lib.hid hng
    have HGB := Lib.hid hgb; clear hgb
    have HBL := Lib.hid hbel; clear hbel
    clear hbc hxk
    by_cases hneg : xl < 0
    ·
     have hin : ineg xl = true := by simp [ineg, hneg]
     rw [if_pos hneg] at hcS2
     rw [← hcS2] at hng
     have HNG := Lib.hid hng; clear hng
     clear hneg
     go_wp2_with fail
     refine (HNG.out _).mono ?_
     rintro e w2 ⟨hq, rfl⟩
     dsimp only
     have tg := HGB.out.keep hq
     have tl := HBL.out.trans (hq.mono HBL.out.size)
     have hgb := (tg.set 0 (.bool (ineg C))).set 1 (.string (imag C))
     have hbel := (tl.setCell (p := ⟨w.heap.size, 0, none⟩) (Nat.le_refl _) (.bool (ineg C))).setCell (p := ⟨w.heap.size, 1, none⟩) (Nat.le_refl _) (.string (imag C))
     have g0 := tg.c 0 rfl
     have g1 := tg.c 1 rfl
     have f0 := tg.frozen 0
     have f1 := tg.frozen 1
     clear HGB HBL hq tg tl
     obtain ⟨wc, hwc0⟩ : ∃ x, x = (w2.setCell ⟨w.heap.size, 0, none⟩ (.bool (ineg C))).setCell ⟨w.heap.size, 1, none⟩ (.string (imag C)) := ⟨_, rfl⟩
     rw [← hwc0] at hgb hbel
     have HWC := Lib.hid hwc0; clear hwc0
     replace hgb : Blk wc w.heap.size 25 [.bool (ineg C), .string (imag C)] := hgb
     have HCS2 := Lib.hid hcS2; clear hcS2
     go_upto_region 11 with fail
     rw [← HWC.out]
     have hmk := mkI k (by omega) (k : Int) rfl
     have hob := blk_mkI wc k
     have hal : Below wc.heap.size wc (wc.alloc (.cells (zarr (.agg #[.bool false, .string ⟨#[]⟩]) k) 25)) := (Below.refl _ _).alloc (Nat.le_refl _) _
     have tg := hgb.keep hal
     have tl := hbel.trans (hal.mono hbel.size)
     have hwc := hbel.size
     have hwl := hgb.lt
     have HGB2 := Lib.hid tg; clear tg
     have HBL2 := Lib.hid tl; clear tl
     have HOB := Lib.hid hob; clear hob
     clear hgb hbel hal c0 c1 g0 g1 f0 f1 hb1
     go_wp2_with fail
     go_loopw [36] (fun i wr => ∃ j : Nat, j ≤ k ∧ i = .int .i64 j ∧ Below w.heap.size w wr ∧ Blk wr w.heap.size 25 [.bool (ineg C), .string (imag C)] ∧ Blk wr wc.heap.size 25 (civ (fillL (prm l) j))) (fun i _ => k - (intOf i).toNat)
     case atStart => exact ⟨0, Nat.zero_le _, rfl, HBL2.out, HGB2.out, by rw [fillL_zero, hrl]; exact HOB.out⟩
     case round =>
      obtain ⟨j, hj, rfl, hbel, hgb, hob⟩ := hrel
      obtain ⟨wo, rfl⟩ : ∃ wo : World, wo = wr := ⟨_, rfl⟩
      by_cases hlt3 : j < k
      ·
       have hkl : j < l.length := by rw [← HN.out]; exact hlt3
       have hget : l[j]? = some (l[j]'hkl) := List.getElem?_eq_getElem _
       obtain ⟨x, hx⟩ : ∃ x, x = l[j]'hkl := ⟨_, rfl⟩
       rw [← hx] at hget
       have hxs := HS.out x (by rw [hx]; exact List.getElem_mem _)
       obtain ⟨z, hz⟩ : ∃ z, z = x.fdiv C := ⟨_, rfl⟩
       obtain ⟨r, hr'⟩ : ∃ r, r = x.fmod C := ⟨_, rfl⟩
       have hpz : (prm l)[j]? = some z := by
        unfold prm
        rw [List.getElem?_map, hget, Option.map_some, ← HCE.out, hz]
       have hdv := fun w' => idiv_any (ineg x) (ineg C) (imag x) (imag C) w' (Nat.le_trans hxs.size hm) (Nat.le_trans hCs.size hm) (by rw [imag_list, bval_bb]; exact Int.natAbs_pos.2 hC0)
       rw [ival_canon, ival_canon, ← hz, ← hr'] at hdv
       obtain ⟨b1, o1, hbo, hb1, hbc⟩ := HR.out.at_ (by omega)
       obtain ⟨c0, c1⟩ := int_cells hbc hbel hb1 hget
       simp only [Option.some.injEq, Addr.mk.injEq, and_true] at hbo
       obtain ⟨rfl, rfl⟩ := hbo
       have hlt4 : (j : Int) < (k : Int) := by omega
       have hal : Below wo.heap.size wo (wo.alloc (.cells #[.bool (ineg x), .string (imag x)] 25)) := (Below.refl _ _).alloc (Nat.le_refl _) _
       have bx := Blk.new wo 25 [.bool (ineg x), .string (imag x)]
       have d0 := bx.c 0 rfl
       have d1 := bx.c 1 rfl
       have tg := hgb.keep hal
       have ko := hob.keep hal
       have g0 := tg.c 0 rfl
       have g1 := tg.c 1 rfl
       have tl := hbel.trans (hal.mono hbel.size)
       have hset : ((civ (fillL (prm l) j)).set (j * 2) (.bool (ineg z))).set (j * 2 + 1) (.string (imag z)) = civ (fillL (prm l) (j + 1)) := by rw [civ_set, fillL_set hpz]
       have hg0 := civ_get (fillL_get (r := prm l) (k := j) (by rw [hrl]; exact hlt3))
       have HGB := Lib.hid tg; clear tg
       have HBL := Lib.hid tl; clear tl
       have HOB2 := Lib.hid ko; clear ko
       have HDV := Lib.hid hdv; clear hdv
       have HSET := Lib.hid hset; clear hset
       have HPZ := Lib.hid hpz; clear hpz
       clear hx hget hbc hkl bx hal hgb hbel hob hxs hz hr'
       go_wp2_with fail
       refine (HDV.out _).mono ?_
       rintro e w2 ⟨hq, rfl⟩
       dsimp only
       have tg := HGB.out.keep hq
       have ko := HOB2.out.keep hq
       have tl := HBL.out.trans (hq.mono HBL.out.size)
       have v0 := ko.cell hg0.1
       have v1 := ko.cell hg0.2
       have f0 := ko.frozen (j * 2)
       have f1 := ko.frozen (j * 2 + 1)
       clear HGB HBL HOB2 hq
       have HGB := Lib.hid tg; clear tg
       have HBL := Lib.hid tl; clear tl
       have HOB2 := Lib.hid ko; clear ko
       go_wp2_with fail
       go_roundw
       case rel =>
        refine ⟨j + 1, by omega, by go_num, (HBL.out.setCell (p := ⟨wc.heap.size, j * 2, none⟩) (by show w.heap.size ≤ wc.heap.size; omega) _).setCell (p := ⟨wc.heap.size, j * 2 + 1, none⟩) (by show w.heap.size ≤ wc.heap.size; omega) _, (HGB.out.setOther (by show wc.heap.size ≠ w.heap.size; omega) _).setOther (by show wc.heap.size ≠ w.heap.size; omega) _, ?_⟩
        rw [← HSET.out]
        exact (HOB2.out.set _ _).set _ _
       case measure => simp [intOf]; omega
      ·
       obtain rfl : j = k := by omega
       rw [← hrl, fillL_full] at hob
       have hrow := blk_row hob (by omega)
       rw [hrl] at hrow
       have HBL := Lib.hid hbel; clear hbel
       have HROW := Lib.hid hrow; clear hrow
       clear hgb hob
       go_wp2_with fail
       go_ret
       refine ⟨HBL.out, _, rfl, ?_, fun b e => ?_⟩
       ·
        rw [hrl]
        exact HROW.out
       ·
        have e2 : some wc.heap.size = some b := e
        injection e2 with e3
        omega
    ·
     have hin : ineg xl = false := by simp [ineg, hneg]
     rw [if_neg hneg] at hcS2
     obtain ⟨wc, rfl⟩ : ∃ x : World, x = wo := ⟨_, rfl⟩
     have hgb := HGB.out
     have hbel := HBL.out
     rw [← hcS2] at hgb
     clear hneg HNG HGB HBL
     have HCS2 := Lib.hid hcS2; clear hcS2
     go_upto_region 11 with fail
     have hmk := mkI k (by omega) (k : Int) rfl
     have hob := blk_mkI wc k
     have hal : Below wc.heap.size wc (wc.alloc (.cells (zarr (.agg #[.bool false, .string ⟨#[]⟩]) k) 25)) := (Below.refl _ _).alloc (Nat.le_refl _) _
     have tg := hgb.keep hal
     have tl := hbel.trans (hal.mono hbel.size)
     have hwc := hbel.size
     have hwl := hgb.lt
     have HGB2 := Lib.hid tg; clear tg
     have HBL2 := Lib.hid tl; clear tl
     have HOB := Lib.hid hob; clear hob
     clear hgb hbel hal c0 c1 g0 g1 f0 f1 hb1
     go_wp2_with fail
     go_loopw [36] (fun i wr => ∃ j : Nat, j ≤ k ∧ i = .int .i64 j ∧ Below w.heap.size w wr ∧ Blk wr w.heap.size 25 [.bool (ineg C), .string (imag C)] ∧ Blk wr wc.heap.size 25 (civ (fillL (prm l) j))) (fun i _ => k - (intOf i).toNat)
     case atStart => exact ⟨0, Nat.zero_le _, rfl, HBL2.out, HGB2.out, by rw [fillL_zero, hrl]; exact HOB.out⟩
     case round =>
      obtain ⟨j, hj, rfl, hbel, hgb, hob⟩ := hrel
      obtain ⟨wo, rfl⟩ : ∃ wo : World, wo = wr := ⟨_, rfl⟩
      by_cases hlt3 : j < k
      ·
       have hkl : j < l.length := by rw [← HN.out]; exact hlt3
       have hget : l[j]? = some (l[j]'hkl) := List.getElem?_eq_getElem _
       obtain ⟨x, hx⟩ : ∃ x, x = l[j]'hkl := ⟨_, rfl⟩
       rw [← hx] at hget
       have hxs := HS.out x (by rw [hx]; exact List.getElem_mem _)
       obtain ⟨z, hz⟩ : ∃ z, z = x.fdiv C := ⟨_, rfl⟩
       obtain ⟨r, hr'⟩ : ∃ r, r = x.fmod C := ⟨_, rfl⟩
       have hpz : (prm l)[j]? = some z := by
        unfold prm
        rw [List.getElem?_map, hget, Option.map_some, ← HCE.out, hz]
       have hdv := fun w' => idiv_any (ineg x) (ineg C) (imag x) (imag C) w' (Nat.le_trans hxs.size hm) (Nat.le_trans hCs.size hm) (by rw [imag_list, bval_bb]; exact Int.natAbs_pos.2 hC0)
       rw [ival_canon, ival_canon, ← hz, ← hr'] at hdv
       obtain ⟨b1, o1, hbo, hb1, hbc⟩ := HR.out.at_ (by omega)
       obtain ⟨c0, c1⟩ := int_cells hbc hbel hb1 hget
       simp only [Option.some.injEq, Addr.mk.injEq, and_true] at hbo
       obtain ⟨rfl, rfl⟩ := hbo
       have hlt4 : (j : Int) < (k : Int) := by omega
       have hal : Below wo.heap.size wo (wo.alloc (.cells #[.bool (ineg x), .string (imag x)] 25)) := (Below.refl _ _).alloc (Nat.le_refl _) _
       have bx := Blk.new wo 25 [.bool (ineg x), .string (imag x)]
       have d0 := bx.c 0 rfl
       have d1 := bx.c 1 rfl
       have tg := hgb.keep hal
       have ko := hob.keep hal
       have g0 := tg.c 0 rfl
       have g1 := tg.c 1 rfl
       have tl := hbel.trans (hal.mono hbel.size)
       have hset : ((civ (fillL (prm l) j)).set (j * 2) (.bool (ineg z))).set (j * 2 + 1) (.string (imag z)) = civ (fillL (prm l) (j + 1)) := by rw [civ_set, fillL_set hpz]
       have hg0 := civ_get (fillL_get (r := prm l) (k := j) (by rw [hrl]; exact hlt3))
       have HGB := Lib.hid tg; clear tg
       have HBL := Lib.hid tl; clear tl
       have HOB2 := Lib.hid ko; clear ko
       have HDV := Lib.hid hdv; clear hdv
       have HSET := Lib.hid hset; clear hset
       have HPZ := Lib.hid hpz; clear hpz
       clear hx hget hbc hkl bx hal hgb hbel hob hxs hz hr'
       go_wp2_with fail
       refine (HDV.out _).mono ?_
       rintro e w2 ⟨hq, rfl⟩
       dsimp only
       have tg := HGB.out.keep hq
       have ko := HOB2.out.keep hq
       have tl := HBL.out.trans (hq.mono HBL.out.size)
       have v0 := ko.cell hg0.1
       have v1 := ko.cell hg0.2
       have f0 := ko.frozen (j * 2)
       have f1 := ko.frozen (j * 2 + 1)
       clear HGB HBL HOB2 hq
       have HGB := Lib.hid tg; clear tg
       have HBL := Lib.hid tl; clear tl
       have HOB2 := Lib.hid ko; clear ko
       go_wp2_with fail
       go_roundw
       case rel =>
        refine ⟨j + 1, by omega, by go_num, (HBL.out.setCell (p := ⟨wc.heap.size, j * 2, none⟩) (by show w.heap.size ≤ wc.heap.size; omega) _).setCell (p := ⟨wc.heap.size, j * 2 + 1, none⟩) (by show w.heap.size ≤ wc.heap.size; omega) _, (HGB.out.setOther (by show wc.heap.size ≠ w.heap.size; omega) _).setOther (by show wc.heap.size ≠ w.heap.size; omega) _, ?_⟩
        rw [← HSET.out]
        exact (HOB2.out.set _ _).set _ _
       case measure => simp [intOf]; omega
      ·
       obtain rfl : j = k := by omega
       rw [← hrl, fillL_full] at hob
       have hrow := blk_row hob (by omega)
       rw [hrl] at hrow
       have HBL := Lib.hid hbel; clear hbel
       have HROW := Lib.hid hrow; clear hrow
       clear hgb hob
       go_wp2_with fail
       go_ret
       refine ⟨HBL.out, _, rfl, ?_, fun b e => ?_⟩
       ·
        rw [hrl]
        exact HROW.out
       ·
        have e2 : some wc.heap.size = some b := e
        injection e2 with e3
        omega
end Go.Proofs.YtjpalbonclgflaaGreat

