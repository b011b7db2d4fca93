/- rational.lowest: the canonical number with a value (printed by gen_rat.py). -/
import Derived.Test.YtjpalbonclgflaaGcd
namespace Go.Proofs.Ytjpalbonclgflaa
open Go.RowKit

abbrev RatV (q : Rat) : Value := .agg #[.bool (ineg q.num), .string (imag q.num), .bool (ineg (q.den : Int)), .string (imag (q.den : Int))]
theorem bb_mono {x y : Nat} (h : x ≤ y) : (bb x).length ≤ (bb y).length := bb_length_le (Nat.lt_of_le_of_lt h (by have := bval_lt (bb y); rwa [bval_bb] at this))
theorem ratV_zero : RatV 0 = .agg #[.bool false, .string ⟨#[]⟩, .bool (ineg 1), .string (imag 1)] := by
 show Value.agg #[.bool (ineg 0), .string (imag 0), .bool (ineg ((1 : Nat) : Int)), .string (imag ((1 : Nat) : Int))] = _
 rw [show imag 0 = ⟨#[]⟩ by simp [imag, bb_zero]]
 rfl
theorem ival_nil : ival false ⟨#[]⟩ = 0 := rfl
theorem divInt_parts {n d n' d' : Int} (hd' : 0 < d') (h : (n' = n ∧ d' = d) ∨ (n' = -n ∧ d' = -d)) :
  (Rat.divInt n d).num = n'.fdiv ((Nat.gcd n'.natAbs d'.natAbs : Nat) : Int) ∧ ((Rat.divInt n d).den : Int) = d'.fdiv ((Nat.gcd n'.natAbs d'.natAbs : Nat) : Int) := by
 have hg : Int.gcd d n = Nat.gcd n'.natAbs d'.natAbs := by
  rcases h with ⟨rfl, rfl⟩ | ⟨rfl, rfl⟩
  ·
   rw [Int.gcd, Nat.gcd_comm]
  ·
   rw [Int.gcd, Nat.gcd_comm, Int.natAbs_neg, Int.natAbs_neg]
 have hd0 : d ≠ 0 := by rcases h with ⟨-, rfl⟩ | ⟨-, rfl⟩ <;> omega
 rw [Rat.num_divInt, Rat.den_divInt, if_neg hd0, hg, Int.fdiv_eq_ediv_of_nonneg _ (by omega), Int.fdiv_eq_ediv_of_nonneg _ (by omega)]
 constructor
 ·
  congr 1
  rcases h with ⟨rfl, rfl⟩ | ⟨rfl, rfl⟩
  ·
   rw [Int.sign_eq_one_of_pos hd', Int.one_mul]
  ·
   have : d.sign = -1 := Int.sign_eq_neg_one_of_neg (by omega)
   rw [this]; omega
 ·
  have : (d.natAbs : Int) = d' := by rcases h with ⟨-, rfl⟩ | ⟨-, rfl⟩ <;> omega
  rw [Int.natCast_ediv, this]
set_option maxRecDepth 100000 in
set_option maxHeartbeats 6400000 in
theorem lowest_any (na nb : Bool) (sa sb : ByteArray) (w : World) (hsa : sa.size ≤ 100000000000) (hsb : sb.size ≤ 100000000000) :
  Calls Try.prog 46 #[.agg #[.bool na, .string sa], .agg #[.bool nb, .string sb]] w (Ret w (RatV (Rat.divInt (ival na sa) (ival nb sb)))) := by
 have hc0 := fun w' => icompare_any nb false sb ⟨#[]⟩ w' (by omega) (by decide)
 have hc1 := fun w' => icompare_any na false sa ⟨#[]⟩ w' (by omega) (by decide)
 have hof := fun w' => iof_any 1 w' (by decide) (by decide)
 have hna := fun w' => neg_any na sa w' (by omega)
 have hnb := fun w' => neg_any nb sb w' (by omega)
 have hpar := fun n' d' h1 h2 => @divInt_parts (ival na sa) (ival nb sb) n' d' h1 h2
 have hnd : (ival na sa).natAbs = bval sa.data.toList := sgn_natAbs _ _
 have hdd : (ival nb sb).natAbs = bval sb.data.toList := sgn_natAbs _ _
 have hsn : (imag (-ival na sa)).size ≤ 100000000000 := by rw [imag_neg]; exact Nat.le_trans (imag_size_ival _ _) hsa
 have hsd : (imag (-ival nb sb)).size ≤ 100000000000 := by rw [imag_neg]; exact Nat.le_trans (imag_size_ival _ _) hsb
 have hival : ∀ e : Rat, e = Rat.divInt (ival na sa) (ival nb sb) → e = Rat.divInt (ival na sa) (ival nb sb) := fun _ h => h
 rw [ival_nil] at hc0 hc1
 obtain ⟨n, hn⟩ : ∃ n, n = ival na sa := ⟨_, rfl⟩
 obtain ⟨d, hd⟩ : ∃ d, d = ival nb sb := ⟨_, rfl⟩
 obtain ⟨q, hq⟩ : ∃ q, q = Rat.divInt (ival na sa) (ival nb sb) := ⟨_, rfl⟩
 rw [← hq]
 rw [← hq] at hpar
 rw [← hn] at hc1 hna hpar hnd hsn hq
 rw [← hd] at hc0 hnb hpar hdd hsd hq
 clear hival
 have HOF := zh hof; clear hof
 have HNA := zh hna; clear hna
 have HNB := zh hnb; clear hnb
 have HPAR := zh hpar; clear hpar
 have HND := zh hnd; clear hnd
 have HDD := zh hdd; clear hdd
 have HSA := zh hsa; clear hsa
 have HSB := zh hsb; clear hsb
 have HSN := zh hsn; clear hsn
 have HSD := zh hsd; clear hsd
 obtain ⟨w4, hw4⟩ : ∃ w4, w4 = ((w.alloc (.cells #[.bool na, .string sa] 33)).alloc (.cells #[.bool nb, .string sb] 33)).alloc (.cells #[.bool false, .string ⟨#[]⟩, .bool false, .string ⟨#[]⟩] 35) := ⟨_, rfl⟩
 have ta : Blk w4 w.heap.size 33 [.bool na, .string sa] := by rw [hw4]; exact ((Blk.new w 33 _).alloc _).alloc _
 have td : Blk w4 (w.heap.size + 1) 33 [.bool nb, .string sb] := by
  rw [hw4]
  have h := (Blk.new (w.alloc (.cells #[.bool na, .string sa] 33)) 33 [.bool nb, .string sb]).alloc (.cells #[.bool false, .string ⟨#[]⟩, .bool false, .string ⟨#[]⟩] 35)
  simp only [World.size_alloc] at h
  exact h
 have tr : Blk w4 (w.heap.size + 2) 35 [.bool false, .string ⟨#[]⟩, .bool false, .string ⟨#[]⟩] := by
  rw [hw4]
  have h := Blk.new ((w.alloc (.cells #[.bool na, .string sa] 33)).alloc (.cells #[.bool nb, .string sb] 33)) 35 [.bool false, .string ⟨#[]⟩, .bool false, .string ⟨#[]⟩]
  simp only [World.size_alloc] at h
  exact h
 have tl : Below w.heap.size w w4 := by
  rw [hw4]
  exact (((Below.refl w.heap.size w).alloc (Nat.le_refl _) _).alloc (by simp) _).alloc (by simp <;> omega) _
 have hsz4 : w4.heap.size = w.heap.size + 3 := by rw [hw4]; simp only [World.size_alloc]
 have x0 := ta.c 0 rfl
 have x1 := ta.c 1 rfl
 have y0 := td.c 0 rfl
 have y1 := td.c 1 rfl
 have HA := zh ta; clear ta
 have HD := zh td; clear td
 have HR := zh tr; clear tr
 have HBL := zh tl; clear tl
 by_cases hd0 : d = 0
 ·
  have hq0 : q = 0 := by rw [hq, hd0]; exact Rat.divInt_zero n
  have hcz : cmpZ d 0 = 0 := by rw [hd0]; decide
  rw [hcz] at hc0
  have HQ0 := zh hq0; clear hq0
  clear hcz hd0 hn hd hq
  have HC0 := zh hc0; clear hc0
  have HC1 := zh hc1; clear hc1
  go_enter Try.func46, Try.ntmps46
  go_wp2_with fail
  rw [← hw4]
  clear hw4
  simp only [Nat.add_assoc, Nat.reduceAdd]
  refine (HC0.out _).mono ?_
  rintro e w5 ⟨hq5, rfl⟩
  dsimp only
  have ta := HA.out.keep hq5
  have td := HD.out.keep hq5
  have tr := HR.out.keep hq5
  have tl := HBL.out.trans ((hq5).mono HBL.out.size)
  clear HA HD HR HBL x0 x1 y0 y1
  have x0 := ta.c 0 rfl
  have x1 := ta.c 1 rfl
  have y0 := td.c 0 rfl
  have y1 := td.c 1 rfl
  have HA := zh ta; clear ta
  have HD := zh td; clear td
  have HR := zh tr; clear tr
  have HBL := zh tl; clear tl
  have hs5 := hq5.size
  clear hq5
  have u0 := HR.out.frozen 0
  have u1 := HR.out.frozen 1
  have u2 := HR.out.frozen 2
  have u3 := HR.out.frozen 3
  go_wp2_with fail
  refine (HOF.out _).mono ?_
  rintro e w6 ⟨hq6, rfl⟩
  dsimp only
  have ta := HA.out.keep hq6
  have td := HD.out.keep hq6
  have tr := HR.out.keep hq6
  have tl := HBL.out.trans ((hq6).mono HBL.out.size)
  clear HA HD HR HBL x0 x1 y0 y1
  have x0 := ta.c 0 rfl
  have x1 := ta.c 1 rfl
  have y0 := td.c 0 rfl
  have y1 := td.c 1 rfl
  have HA := zh ta; clear ta
  have HD := zh td; clear td
  have HR := zh tr; clear tr
  have HBL := zh tl; clear tl
  clear hq6
  have v0 := HR.out.c 0 rfl
  have v1 := HR.out.c 1 rfl
  have v2 := HR.out.c 2 rfl
  have v3 := HR.out.c 3 rfl
  have u0 := HR.out.frozen 0
  have u1 := HR.out.frozen 1
  have u2 := HR.out.frozen 2
  have u3 := HR.out.frozen 3
  go_wp2_with fail
  have hrv : RatV q = .agg #[.bool false, .string ⟨#[]⟩, .bool (ineg 1), .string (imag 1)] := by rw [HQ0.out]; exact ratV_zero
  have kz := (((HR.out.set 0 (.bool false)).set 1 (.string ⟨#[]⟩)).set 2 (.bool (ineg 1))).set 3 (.string (imag 1))
  have sz := ((((HBL.out.setCell (p := ⟨w.heap.size + 2, 0, none⟩) (show w.heap.size ≤ w.heap.size + 2 by omega) (.bool false)).setCell (p := ⟨w.heap.size + 2, 1, none⟩) (show w.heap.size ≤ w.heap.size + 2 by omega) (.string ⟨#[]⟩)).setCell (p := ⟨w.heap.size + 2, 2, none⟩) (show w.heap.size ≤ w.heap.size + 2 by omega) (.bool (ineg 1))).setCell (p := ⟨w.heap.size + 2, 3, none⟩) (show w.heap.size ≤ w.heap.size + 2 by omega) (.string (imag 1)))
  have e0 := kz.c 0 rfl
  have e1 := kz.c 1 rfl
  have e2 := kz.c 2 rfl
  have e3 := kz.c 3 rfl
  refine bodyPost_ret (v := RatV q) (by rw [hrv]; simp [results, Try.results46, go_sem, e0, e1, e2, e3]) rfl ⟨sz, rfl⟩
 ·
  have hcz : (d < 0 ∧ cmpZ d 0 = -1) ∨ (0 < d ∧ cmpZ d 0 = 1) := by
   unfold cmpZ
   rcases Int.lt_or_gt_of_ne hd0 with h | h
   ·
    left; rw [if_pos h]; exact ⟨h, rfl⟩
   ·
    right; rw [if_neg (by omega), if_neg hd0]; exact ⟨h, rfl⟩
  obtain ⟨z, hz⟩ : ∃ z, z = cmpZ d 0 := ⟨_, rfl⟩
  rw [← hz] at hc0 hcz
  clear hz
  by_cases hn0 : n = 0
  ·
   have hq0 : q = 0 := by rw [hq, hn0]; exact Rat.zero_divInt d
   have hcn : cmpZ n 0 = 0 := by rw [hn0]; decide
   have hz0 : ¬ z = 0 := by omega
   have hzb : (z == 0) = false := by simpa using hz0
   rw [hcn] at hc1
   have HQ0 := zh hq0; clear hq0
   clear hcn hn0 hn hd hq hcz
   have HC0 := zh hc0; clear hc0
   have HC1 := zh hc1; clear hc1
   go_enter Try.func46, Try.ntmps46
   go_wp2_with fail
   rw [← hw4]
   clear hw4
   simp only [Nat.add_assoc, Nat.reduceAdd]
   refine (HC0.out _).mono ?_
   rintro e w5 ⟨hq5, rfl⟩
   dsimp only
   have ta := HA.out.keep hq5
   have td := HD.out.keep hq5
   have tr := HR.out.keep hq5
   have tl := HBL.out.trans ((hq5).mono HBL.out.size)
   clear HA HD HR HBL x0 x1 y0 y1
   have x0 := ta.c 0 rfl
   have x1 := ta.c 1 rfl
   have y0 := td.c 0 rfl
   have y1 := td.c 1 rfl
   have HA := zh ta; clear ta
   have HD := zh td; clear td
   have HR := zh tr; clear tr
   have HBL := zh tl; clear tl
   have hs5 := hq5.size
   clear hq5
   go_wp2_with fail
   refine (HC1.out _).mono ?_
   rintro e w6 ⟨hq6, rfl⟩
   dsimp only
   have ta := HA.out.keep hq6
   have td := HD.out.keep hq6
   have tr := HR.out.keep hq6
   have tl := HBL.out.trans ((hq6).mono HBL.out.size)
   clear HA HD HR HBL x0 x1 y0 y1
   have x0 := ta.c 0 rfl
   have x1 := ta.c 1 rfl
   have y0 := td.c 0 rfl
   have y1 := td.c 1 rfl
   have HA := zh ta; clear ta
   have HD := zh td; clear td
   have HR := zh tr; clear tr
   have HBL := zh tl; clear tl
   have hs6 := hq6.size
   clear hq6
   have u0 := HR.out.frozen 0
   have u1 := HR.out.frozen 1
   have u2 := HR.out.frozen 2
   have u3 := HR.out.frozen 3
   go_wp2_with fail
   refine (HOF.out _).mono ?_
   rintro e w7 ⟨hq7, rfl⟩
   dsimp only
   have ta := HA.out.keep hq7
   have td := HD.out.keep hq7
   have tr := HR.out.keep hq7
   have tl := HBL.out.trans ((hq7).mono HBL.out.size)
   clear HA HD HR HBL x0 x1 y0 y1
   have x0 := ta.c 0 rfl
   have x1 := ta.c 1 rfl
   have y0 := td.c 0 rfl
   have y1 := td.c 1 rfl
   have HA := zh ta; clear ta
   have HD := zh td; clear td
   have HR := zh tr; clear tr
   have HBL := zh tl; clear tl
   clear hq7
   have v0 := HR.out.c 0 rfl
   have v1 := HR.out.c 1 rfl
   have v2 := HR.out.c 2 rfl
   have v3 := HR.out.c 3 rfl
   have u0 := HR.out.frozen 0
   have u1 := HR.out.frozen 1
   have u2 := HR.out.frozen 2
   have u3 := HR.out.frozen 3
   go_wp2_with fail
   have hrv : RatV q = .agg #[.bool false, .string ⟨#[]⟩, .bool (ineg 1), .string (imag 1)] := by rw [HQ0.out]; exact ratV_zero
   have kz := (((HR.out.set 0 (.bool false)).set 1 (.string ⟨#[]⟩)).set 2 (.bool (ineg 1))).set 3 (.string (imag 1))
   have sz := ((((HBL.out.setCell (p := ⟨w.heap.size + 2, 0, none⟩) (show w.heap.size ≤ w.heap.size + 2 by omega) (.bool false)).setCell (p := ⟨w.heap.size + 2, 1, none⟩) (show w.heap.size ≤ w.heap.size + 2 by omega) (.string ⟨#[]⟩)).setCell (p := ⟨w.heap.size + 2, 2, none⟩) (show w.heap.size ≤ w.heap.size + 2 by omega) (.bool (ineg 1))).setCell (p := ⟨w.heap.size + 2, 3, none⟩) (show w.heap.size ≤ w.heap.size + 2 by omega) (.string (imag 1)))
   have e0 := kz.c 0 rfl
   have e1 := kz.c 1 rfl
   have e2 := kz.c 2 rfl
   have e3 := kz.c 3 rfl
   refine bodyPost_ret (v := RatV q) (by rw [hrv]; simp [results, Try.results46, go_sem, e0, e1, e2, e3]) rfl ⟨sz, rfl⟩
  ·
   obtain ⟨y, hy⟩ : ∃ y, y = cmpZ n 0 := ⟨_, rfl⟩
   have hy0 : ¬ y = 0 := by
    rw [hy]; simp only [cmpZ, if_neg hn0]; split <;> decide
   have hyb : (y == 0) = false := by simpa using hy0
   rw [← hy] at hc1
   rcases hcz with ⟨hdn, rfl⟩ | ⟨hdp, rfl⟩
   ·
    have hpr := HPAR.out (-n) (-d) (by omega) (Or.inr ⟨rfl, rfl⟩)
    rw [Int.natAbs_neg, Int.natAbs_neg] at hpr
    have HPR := zh hpr; clear hpr
    have HNE := zh hn; clear hn
    have HDE := zh hd; clear hd
    clear hy hn0 hq hdn
    have HC0 := zh hc0; clear hc0
    have HC1 := zh hc1; clear hc1
    go_enter Try.func46, Try.ntmps46
    go_wp2_with fail
    rw [← hw4]
    clear hw4
    simp only [Nat.add_assoc, Nat.reduceAdd]
    refine (HC0.out _).mono ?_
    rintro e w5 ⟨hq5, rfl⟩
    dsimp only
    have ta := HA.out.keep hq5
    have td := HD.out.keep hq5
    have tr := HR.out.keep hq5
    have tl := HBL.out.trans ((hq5).mono HBL.out.size)
    clear HA HD HR HBL x0 x1 y0 y1
    have x0 := ta.c 0 rfl
    have x1 := ta.c 1 rfl
    have y0 := td.c 0 rfl
    have y1 := td.c 1 rfl
    have HA := zh ta; clear ta
    have HD := zh td; clear td
    have HR := zh tr; clear tr
    have HBL := zh tl; clear tl
    have hs5 := hq5.size
    clear hq5
    go_upto_block 0 with fail
    go_cut [] from 16 to 33 (fun wx => Blk wx w.heap.size 33 [.bool (ineg (-n)), .string (imag (-n))] ∧ Blk wx (w.heap.size + 1) 33 [.bool (ineg (-d)), .string (imag (-d))] ∧ Blk wx (w.heap.size + 2) 35 [.bool false, .string ⟨#[]⟩, .bool false, .string ⟨#[]⟩] ∧ Below w.heap.size w wx)
    case first =>
     go_wp2_with fail
     refine (HC1.out _).mono ?_
     rintro e w6 ⟨hq6, rfl⟩
     dsimp only
     have ta := HA.out.keep hq6
     have td := HD.out.keep hq6
     have tr := HR.out.keep hq6
     have tl := HBL.out.trans ((hq6).mono HBL.out.size)
     clear HA HD HR HBL x0 x1 y0 y1
     have x0 := ta.c 0 rfl
     have x1 := ta.c 1 rfl
     have y0 := td.c 0 rfl
     have y1 := td.c 1 rfl
     have HA := zh ta; clear ta
     have HD := zh td; clear td
     have HR := zh tr; clear tr
     have HBL := zh tl; clear tl
     have hs6 := hq6.size
     clear hq6
     go_wp2_with fail
     refine wp_region_held_drew (S := fun _ => True) (by kernel_rfl) trivial (fun _ => ?_)
     have HA := zh HA.out.drew
     have HD := zh HD.out.drew
     have HR := zh HR.out.drew
     have HBL := zh HBL.out.drew
     refine wpAnyH_ready (rs := [0, 2]) (by kernel_rfl) (by simp) ?_
     refine (AllReadyH.cons rfl (fun K hK => ?_) (AllReadyH.cons rfl (fun K hK => ?_) AllReadyH.nil))
     ·
      go_simp
      refine hK.out _ _ trivial (fun _ => ?_)
      clear hK K
      (try simp only [Act.put, zA, zB, zC])
      refine wpAnyH_ready (rs := [1, 2]) (by kernel_rfl) (by simp) ?_
      refine (AllReadyH.cons rfl (fun K hK => ?_) (AllReadyH.cons rfl (fun K hK => ?_) AllReadyH.nil))
      ·
       go_simp
       go_at_call 56
       refine (HNA.out _).mono ?_
       rintro e wn7 ⟨hq, rfl⟩
       dsimp only
       refine hK.out _ _ trivial (fun _ => ?_)
       clear hK K
       (try simp only [Act.put, zA, zB, zC])
       have ta := HA.out.keep hq
       have td := HD.out.keep hq
       have tr := HR.out.keep hq
       have tl := HBL.out.trans (hq.mono HBL.out.size)
       clear HA HD HR HBL x0 x1 y0 y1 hq
       have x0 := ta.c 0 rfl
       have x1 := ta.c 1 rfl
       have y0 := td.c 0 rfl
       have y1 := td.c 1 rfl
       have fa := ta.frozen 0
       have fb := ta.frozen 1
       have fc := td.frozen 0
       have fd := td.frozen 1
       have HA := zh ta; clear ta
       have HD := zh td; clear td
       have HR := zh tr; clear tr
       have HBL := zh tl; clear tl
       refine wpAnyH_ready (rs := [2]) (by kernel_rfl) (by simp) ?_
       refine (AllReadyH.cons rfl (fun K hK => ?_) AllReadyH.nil)
       ·
        go_simp
        refine hK.out _ _ trivial (fun _ => ?_)
        clear hK K
        (try simp only [Act.put, zA, zB, zC])
        refine wpAnyH_ready (rs := [3]) (by kernel_rfl) (by simp) ?_
        refine (AllReadyH.cons rfl (fun K hK => ?_) AllReadyH.nil)
        ·
         go_simp
         go_at_call 56
         refine (HNB.out _).mono ?_
         rintro e wn8 ⟨hq, rfl⟩
         dsimp only
         refine hK.out _ _ trivial (fun _ => ?_)
         clear hK K
         (try simp only [Act.put, zA, zB, zC])
         have ta := HA.out.keep hq
         have td := HD.out.keep hq
         have tr := HR.out.keep hq
         have tl := HBL.out.trans (hq.mono HBL.out.size)
         clear HA HD HR HBL x0 x1 y0 y1 hq
         have x0 := ta.c 0 rfl
         have x1 := ta.c 1 rfl
         have y0 := td.c 0 rfl
         have y1 := td.c 1 rfl
         have fa := ta.frozen 0
         have fb := ta.frozen 1
         have fc := td.frozen 0
         have fd := td.frozen 1
         have HA := zh ta; clear ta
         have HD := zh td; clear td
         have HR := zh tr; clear tr
         have HBL := zh tl; clear tl
         refine wpAnyH_ready (rs := [4]) (by kernel_rfl) (by simp) ?_
         refine (AllReadyH.cons rfl (fun K hK => ?_) AllReadyH.nil)
         ·
          go_simp
          refine hK.out _ _ trivial (fun _ => ?_)
          clear hK K
          (try simp only [Act.put, zA, zB, zC])
          refine wpAnyH_ready (rs := [5]) (by kernel_rfl) (by simp) ?_
          refine (AllReadyH.cons rfl (fun K hK => ?_) AllReadyH.nil)
          ·
           go_simp
           refine hK.out _ _ trivial (fun _ => ?_)
           clear hK K
           (try simp only [Act.put, zA, zB, zC])
           refine wpAnyH_done (by kernel_rfl) ?_ _
           (try simp only [List.getElem_toArray, List.getElem_cons_zero, List.getElem_cons_succ, Act.put, zA, zB, zC])
           go_wp2_with fail
           go_meet
           have za := (((HA.out.set 0 (.bool (ineg (-n)))).set 1 (.string (imag (-n)))).setOther (a := ⟨w.heap.size + 1, 0, none⟩) (by show w.heap.size + 1 ≠ w.heap.size; omega) (.bool (ineg (-d)))).setOther (a := ⟨w.heap.size + 1, 1, none⟩) (by show w.heap.size + 1 ≠ w.heap.size; omega) (.string (imag (-d)))
           have zd := (((HD.out.setOther (a := ⟨w.heap.size, 0, none⟩) (by show w.heap.size ≠ w.heap.size + 1; omega) (.bool (ineg (-n)))).setOther (a := ⟨w.heap.size, 1, none⟩) (by show w.heap.size ≠ w.heap.size + 1; omega) (.string (imag (-n)))).set 0 (.bool (ineg (-d)))).set 1 (.string (imag (-d)))
           have zr := (((HR.out.setOther (a := ⟨w.heap.size, 0, none⟩) (by show w.heap.size ≠ w.heap.size + 2; omega) (.bool (ineg (-n)))).setOther (a := ⟨w.heap.size, 1, none⟩) (by show w.heap.size ≠ w.heap.size + 2; omega) (.string (imag (-n)))).setOther (a := ⟨w.heap.size + 1, 0, none⟩) (by show w.heap.size + 1 ≠ w.heap.size + 2; omega) (.bool (ineg (-d)))).setOther (a := ⟨w.heap.size + 1, 1, none⟩) (by show w.heap.size + 1 ≠ w.heap.size + 2; omega) (.string (imag (-d)))
           have zl := (((HBL.out.setCell (p := ⟨w.heap.size, 0, none⟩) (Nat.le_refl _) (.bool (ineg (-n)))).setCell (p := ⟨w.heap.size, 1, none⟩) (Nat.le_refl _) (.string (imag (-n)))).setCell (p := ⟨w.heap.size + 1, 0, none⟩) (Nat.le_add_right _ _) (.bool (ineg (-d)))).setCell (p := ⟨w.heap.size + 1, 1, none⟩) (Nat.le_add_right _ _) (.string (imag (-d)))
           exact ⟨za, zd, zr, zl⟩
      ·
       go_simp
       refine hK.out _ _ trivial (fun _ => ?_)
       clear hK K
       (try simp only [Act.put, zA, zB, zC])
       refine wpAnyH_ready (rs := [1]) (by kernel_rfl) (by simp) ?_
       refine (AllReadyH.cons rfl (fun K hK => ?_) AllReadyH.nil)
       ·
        go_simp
        go_at_call 56
        refine (HNA.out _).mono ?_
        rintro e wn7 ⟨hq, rfl⟩
        dsimp only
        refine hK.out _ _ trivial (fun _ => ?_)
        clear hK K
        (try simp only [Act.put, zA, zB, zC])
        have ta := HA.out.keep hq
        have td := HD.out.keep hq
        have tr := HR.out.keep hq
        have tl := HBL.out.trans (hq.mono HBL.out.size)
        clear HA HD HR HBL x0 x1 y0 y1 hq
        have x0 := ta.c 0 rfl
        have x1 := ta.c 1 rfl
        have y0 := td.c 0 rfl
        have y1 := td.c 1 rfl
        have fa := ta.frozen 0
        have fb := ta.frozen 1
        have fc := td.frozen 0
        have fd := td.frozen 1
        have HA := zh ta; clear ta
        have HD := zh td; clear td
        have HR := zh tr; clear tr
        have HBL := zh tl; clear tl
        refine wpAnyH_ready (rs := [3]) (by kernel_rfl) (by simp) ?_
        refine (AllReadyH.cons rfl (fun K hK => ?_) AllReadyH.nil)
        ·
         go_simp
         go_at_call 56
         refine (HNB.out _).mono ?_
         rintro e wn8 ⟨hq, rfl⟩
         dsimp only
         refine hK.out _ _ trivial (fun _ => ?_)
         clear hK K
         (try simp only [Act.put, zA, zB, zC])
         have ta := HA.out.keep hq
         have td := HD.out.keep hq
         have tr := HR.out.keep hq
         have tl := HBL.out.trans (hq.mono HBL.out.size)
         clear HA HD HR HBL x0 x1 y0 y1 hq
         have x0 := ta.c 0 rfl
         have x1 := ta.c 1 rfl
         have y0 := td.c 0 rfl
         have y1 := td.c 1 rfl
         have fa := ta.frozen 0
         have fb := ta.frozen 1
         have fc := td.frozen 0
         have fd := td.frozen 1
         have HA := zh ta; clear ta
         have HD := zh td; clear td
         have HR := zh tr; clear tr
         have HBL := zh tl; clear tl
         refine wpAnyH_ready (rs := [4]) (by kernel_rfl) (by simp) ?_
         refine (AllReadyH.cons rfl (fun K hK => ?_) AllReadyH.nil)
         ·
          go_simp
          refine hK.out _ _ trivial (fun _ => ?_)
          clear hK K
          (try simp only [Act.put, zA, zB, zC])
          refine wpAnyH_ready (rs := [5]) (by kernel_rfl) (by simp) ?_
          refine (AllReadyH.cons rfl (fun K hK => ?_) AllReadyH.nil)
          ·
           go_simp
           refine hK.out _ _ trivial (fun _ => ?_)
           clear hK K
           (try simp only [Act.put, zA, zB, zC])
           refine wpAnyH_done (by kernel_rfl) ?_ _
           (try simp only [List.getElem_toArray, List.getElem_cons_zero, List.getElem_cons_succ, Act.put, zA, zB, zC])
           go_wp2_with fail
           go_meet
           have za := (((HA.out.set 0 (.bool (ineg (-n)))).set 1 (.string (imag (-n)))).setOther (a := ⟨w.heap.size + 1, 0, none⟩) (by show w.heap.size + 1 ≠ w.heap.size; omega) (.bool (ineg (-d)))).setOther (a := ⟨w.heap.size + 1, 1, none⟩) (by show w.heap.size + 1 ≠ w.heap.size; omega) (.string (imag (-d)))
           have zd := (((HD.out.setOther (a := ⟨w.heap.size, 0, none⟩) (by show w.heap.size ≠ w.heap.size + 1; omega) (.bool (ineg (-n)))).setOther (a := ⟨w.heap.size, 1, none⟩) (by show w.heap.size ≠ w.heap.size + 1; omega) (.string (imag (-n)))).set 0 (.bool (ineg (-d)))).set 1 (.string (imag (-d)))
           have zr := (((HR.out.setOther (a := ⟨w.heap.size, 0, none⟩) (by show w.heap.size ≠ w.heap.size + 2; omega) (.bool (ineg (-n)))).setOther (a := ⟨w.heap.size, 1, none⟩) (by show w.heap.size ≠ w.heap.size + 2; omega) (.string (imag (-n)))).setOther (a := ⟨w.heap.size + 1, 0, none⟩) (by show w.heap.size + 1 ≠ w.heap.size + 2; omega) (.bool (ineg (-d)))).setOther (a := ⟨w.heap.size + 1, 1, none⟩) (by show w.heap.size + 1 ≠ w.heap.size + 2; omega) (.string (imag (-d)))
           have zl := (((HBL.out.setCell (p := ⟨w.heap.size, 0, none⟩) (Nat.le_refl _) (.bool (ineg (-n)))).setCell (p := ⟨w.heap.size, 1, none⟩) (Nat.le_refl _) (.string (imag (-n)))).setCell (p := ⟨w.heap.size + 1, 0, none⟩) (Nat.le_add_right _ _) (.bool (ineg (-d)))).setCell (p := ⟨w.heap.size + 1, 1, none⟩) (Nat.le_add_right _ _) (.string (imag (-d)))
           exact ⟨za, zd, zr, zl⟩
     ·
      go_simp
      refine hK.out _ _ trivial (fun _ => ?_)
      clear hK K
      (try simp only [Act.put, zA, zB, zC])
      refine wpAnyH_ready (rs := [0]) (by kernel_rfl) (by simp) ?_
      refine (AllReadyH.cons rfl (fun K hK => ?_) AllReadyH.nil)
      ·
       go_simp
       refine hK.out _ _ trivial (fun _ => ?_)
       clear hK K
       (try simp only [Act.put, zA, zB, zC])
       refine wpAnyH_ready (rs := [1]) (by kernel_rfl) (by simp) ?_
       refine (AllReadyH.cons rfl (fun K hK => ?_) AllReadyH.nil)
       ·
        go_simp
        go_at_call 56
        refine (HNA.out _).mono ?_
        rintro e wn7 ⟨hq, rfl⟩
        dsimp only
        refine hK.out _ _ trivial (fun _ => ?_)
        clear hK K
        (try simp only [Act.put, zA, zB, zC])
        have ta := HA.out.keep hq
        have td := HD.out.keep hq
        have tr := HR.out.keep hq
        have tl := HBL.out.trans (hq.mono HBL.out.size)
        clear HA HD HR HBL x0 x1 y0 y1 hq
        have x0 := ta.c 0 rfl
        have x1 := ta.c 1 rfl
        have y0 := td.c 0 rfl
        have y1 := td.c 1 rfl
        have fa := ta.frozen 0
        have fb := ta.frozen 1
        have fc := td.frozen 0
        have fd := td.frozen 1
        have HA := zh ta; clear ta
        have HD := zh td; clear td
        have HR := zh tr; clear tr
        have HBL := zh tl; clear tl
        refine wpAnyH_ready (rs := [3]) (by kernel_rfl) (by simp) ?_
        refine (AllReadyH.cons rfl (fun K hK => ?_) AllReadyH.nil)
        ·
         go_simp
         go_at_call 56
         refine (HNB.out _).mono ?_
         rintro e wn8 ⟨hq, rfl⟩
         dsimp only
         refine hK.out _ _ trivial (fun _ => ?_)
         clear hK K
         (try simp only [Act.put, zA, zB, zC])
         have ta := HA.out.keep hq
         have td := HD.out.keep hq
         have tr := HR.out.keep hq
         have tl := HBL.out.trans (hq.mono HBL.out.size)
         clear HA HD HR HBL x0 x1 y0 y1 hq
         have x0 := ta.c 0 rfl
         have x1 := ta.c 1 rfl
         have y0 := td.c 0 rfl
         have y1 := td.c 1 rfl
         have fa := ta.frozen 0
         have fb := ta.frozen 1
         have fc := td.frozen 0
         have fd := td.frozen 1
         have HA := zh ta; clear ta
         have HD := zh td; clear td
         have HR := zh tr; clear tr
         have HBL := zh tl; clear tl
         refine wpAnyH_ready (rs := [4]) (by kernel_rfl) (by simp) ?_
         refine (AllReadyH.cons rfl (fun K hK => ?_) AllReadyH.nil)
         ·
          go_simp
          refine hK.out _ _ trivial (fun _ => ?_)
          clear hK K
          (try simp only [Act.put, zA, zB, zC])
          refine wpAnyH_ready (rs := [5]) (by kernel_rfl) (by simp) ?_
          refine (AllReadyH.cons rfl (fun K hK => ?_) AllReadyH.nil)
          ·
           go_simp
           refine hK.out _ _ trivial (fun _ => ?_)
           clear hK K
           (try simp only [Act.put, zA, zB, zC])
           refine wpAnyH_done (by kernel_rfl) ?_ _
           (try simp only [List.getElem_toArray, List.getElem_cons_zero, List.getElem_cons_succ, Act.put, zA, zB, zC])
           go_wp2_with fail
           go_meet
           have za := (((HA.out.set 0 (.bool (ineg (-n)))).set 1 (.string (imag (-n)))).setOther (a := ⟨w.heap.size + 1, 0, none⟩) (by show w.heap.size + 1 ≠ w.heap.size; omega) (.bool (ineg (-d)))).setOther (a := ⟨w.heap.size + 1, 1, none⟩) (by show w.heap.size + 1 ≠ w.heap.size; omega) (.string (imag (-d)))
           have zd := (((HD.out.setOther (a := ⟨w.heap.size, 0, none⟩) (by show w.heap.size ≠ w.heap.size + 1; omega) (.bool (ineg (-n)))).setOther (a := ⟨w.heap.size, 1, none⟩) (by show w.heap.size ≠ w.heap.size + 1; omega) (.string (imag (-n)))).set 0 (.bool (ineg (-d)))).set 1 (.string (imag (-d)))
           have zr := (((HR.out.setOther (a := ⟨w.heap.size, 0, none⟩) (by show w.heap.size ≠ w.heap.size + 2; omega) (.bool (ineg (-n)))).setOther (a := ⟨w.heap.size, 1, none⟩) (by show w.heap.size ≠ w.heap.size + 2; omega) (.string (imag (-n)))).setOther (a := ⟨w.heap.size + 1, 0, none⟩) (by show w.heap.size + 1 ≠ w.heap.size + 2; omega) (.bool (ineg (-d)))).setOther (a := ⟨w.heap.size + 1, 1, none⟩) (by show w.heap.size + 1 ≠ w.heap.size + 2; omega) (.string (imag (-d)))
           have zl := (((HBL.out.setCell (p := ⟨w.heap.size, 0, none⟩) (Nat.le_refl _) (.bool (ineg (-n)))).setCell (p := ⟨w.heap.size, 1, none⟩) (Nat.le_refl _) (.string (imag (-n)))).setCell (p := ⟨w.heap.size + 1, 0, none⟩) (Nat.le_add_right _ _) (.bool (ineg (-d)))).setCell (p := ⟨w.heap.size + 1, 1, none⟩) (Nat.le_add_right _ _) (.string (imag (-d)))
           exact ⟨za, zd, zr, zl⟩
    case rest =>
     obtain ⟨ta, td, tr, tl⟩ := hcut
     have hs6 : w.heap.size + 3 ≤ wc.heap.size := by have := tr.lt; omega
     clear HA HD HR HBL x0 x1 y0 y1
     have x0 := ta.c 0 rfl
     have x1 := ta.c 1 rfl
     have y0 := td.c 0 rfl
     have y1 := td.c 1 rfl
     have HA := zh ta; clear ta
     have HD := zh td; clear td
     have HR := zh tr; clear tr
     have HBL := zh tl; clear tl
     have hbn : bval (imag (-n)).data.toList = n.natAbs := by rw [imag_list, bval_bb, Int.natAbs_neg]
     have hbd : bval (imag (-d)).data.toList = d.natAbs := by rw [imag_list, bval_bb, Int.natAbs_neg]
     have hg := fun w' => igcd_any (ineg (-n)) (ineg (-d)) (imag (-n)) (imag (-d)) w' HSN.out HSD.out
     rw [hbn, hbd] at hg
     obtain ⟨g, hgg⟩ : ∃ g, g = Nat.gcd n.natAbs d.natAbs := ⟨_, rfl⟩
     have hg0 : 0 < g := by rw [hgg]; exact Nat.gcd_pos_of_pos_right _ (Int.natAbs_pos.2 hd0)
     have hgl : (imag (g : Int)).size ≤ 100000000000 := by
      rw [imag_size, Int.natAbs_natCast]
      refine Nat.le_trans (bb_mono (show g ≤ (-d).natAbs by rw [hgg, Int.natAbs_neg]; exact Nat.gcd_le_right _ (Int.natAbs_pos.2 hd0))) ?_
      rw [← imag_size]; exact HSD.out
     have hgb : 0 < bval (imag (g : Int)).data.toList := by rw [imag_list, bval_bb, Int.natAbs_natCast]; exact hg0
     have hv1 := fun w' => idiv_any (ineg (-n)) (ineg (g : Int)) (imag (-n)) (imag (g : Int)) w' HSN.out hgl hgb
     have hv2 := fun w' => idiv_any (ineg (-d)) (ineg (g : Int)) (imag (-d)) (imag (g : Int)) w' HSD.out hgl hgb
     simp only [ival_canon] at hv1 hv2
     have hpr := HPR.out
     rw [← hgg] at hpr hg
     obtain ⟨N, hN⟩ : ∃ N, N = q.num := ⟨_, rfl⟩
     obtain ⟨D, hD⟩ : ∃ D, D = (q.den : Int) := ⟨_, rfl⟩
     have hrv : RatV q = .agg #[.bool (ineg N), .string (imag N), .bool (ineg D), .string (imag D)] := by rw [hN, hD]
     rw [← hN, ← hD] at hpr
     rw [← hpr.1] at hv1
     rw [← hpr.2] at hv2
     have HG := zh hg; clear hg
     obtain ⟨r1, hr1⟩ : ∃ r1, r1 = (-n).fmod (g : Int) := ⟨_, rfl⟩
     obtain ⟨r2, hr2⟩ : ∃ r2, r2 = (-d).fmod (g : Int) := ⟨_, rfl⟩
     rw [← hr1] at hv1
     rw [← hr2] at hv2
     have HV1 := zh hv1; clear hv1
     have HV2 := zh hv2; clear hv2
     clear hr1 hr2
     have HRV := zh hrv; clear hrv
     clear hN hD hpr hgb hgl hg0 hgg
     go_wp2_with fail
     refine (HG.out _).mono ?_
     rintro e w7 ⟨hq7, rfl⟩
     dsimp only
     have ta := HA.out.keep hq7
     have td := HD.out.keep hq7
     have tr := HR.out.keep hq7
     have tl := HBL.out.trans ((hq7).mono HBL.out.size)
     clear HA HD HR HBL x0 x1 y0 y1
     have x0 := ta.c 0 rfl
     have x1 := ta.c 1 rfl
     have y0 := td.c 0 rfl
     have y1 := td.c 1 rfl
     have HA := zh ta; clear ta
     have HD := zh td; clear td
     have HR := zh tr; clear tr
     have HBL := zh tl; clear tl
     have hs7 := hq7.size
     clear hq7
     obtain ⟨bg, hbg⟩ : ∃ bg, bg = w7.heap.size := ⟨_, rfl⟩
     have hal : Below w7.heap.size w7 (w7.alloc (.cells #[.bool (ineg (g : Int)), .string (imag (g : Int))] 33)) := (Below.refl _ _).alloc (Nat.le_refl _) _
     have tg : Blk (w7.alloc (.cells #[.bool (ineg (g : Int)), .string (imag (g : Int))] 33)) bg 33 [.bool (ineg (g : Int)), .string (imag (g : Int))] := by rw [hbg]; exact Blk.new w7 _ _
     have ta := HA.out.keep hal
     have td := HD.out.keep hal
     have tr := HR.out.keep hal
     have tl := HBL.out.trans ((hal).mono HBL.out.size)
     clear HA HD HR HBL x0 x1 y0 y1
     have x0 := ta.c 0 rfl
     have x1 := ta.c 1 rfl
     have y0 := td.c 0 rfl
     have y1 := td.c 1 rfl
     have HA := zh ta; clear ta
     have HD := zh td; clear td
     have HR := zh tr; clear tr
     have HBL := zh tl; clear tl
     have hs8 := hal.size
     clear hal
     have g0 := tg.c 0 rfl
     have g1 := tg.c 1 rfl
     have HGB := zh tg; clear tg
     go_wp2_with fail
     (try rw [← hbg])
     have HBG := zh hbg; clear hbg
     refine (HV1.out _).mono ?_
     rintro e w9 ⟨hq9, rfl⟩
     dsimp only
     have ta := HA.out.keep hq9
     have td := HD.out.keep hq9
     have tr := HR.out.keep hq9
     have tl := HBL.out.trans ((hq9).mono HBL.out.size)
     clear HA HD HR HBL x0 x1 y0 y1
     have x0 := ta.c 0 rfl
     have x1 := ta.c 1 rfl
     have y0 := td.c 0 rfl
     have y1 := td.c 1 rfl
     have HA := zh ta; clear ta
     have HD := zh td; clear td
     have HR := zh tr; clear tr
     have HBL := zh tl; clear tl
     have tg := HGB.out.keep hq9
     clear HGB g0 g1
     have g0 := tg.c 0 rfl
     have g1 := tg.c 1 rfl
     have HGB := zh tg; clear tg
     clear hq9
     obtain ⟨bn, hbn'⟩ : ∃ bn, bn = w9.heap.size := ⟨_, rfl⟩
     have hal : Below w9.heap.size w9 ((w9.alloc (.cells #[.bool (ineg N), .string (imag N)] 33)).alloc (.cells #[.bool (ineg r1), .string (imag r1)] 33)) := ((Below.refl _ _).alloc (Nat.le_refl _) _).alloc (by simp) _
     have tn : Blk ((w9.alloc (.cells #[.bool (ineg N), .string (imag N)] 33)).alloc (.cells #[.bool (ineg r1), .string (imag r1)] 33)) bn 33 [.bool (ineg N), .string (imag N)] := by rw [hbn']; exact (Blk.new w9 _ _).alloc _
     have ta := HA.out.keep hal
     have td := HD.out.keep hal
     have tr := HR.out.keep hal
     have tl := HBL.out.trans ((hal).mono HBL.out.size)
     clear HA HD HR HBL x0 x1 y0 y1
     have x0 := ta.c 0 rfl
     have x1 := ta.c 1 rfl
     have y0 := td.c 0 rfl
     have y1 := td.c 1 rfl
     have HA := zh ta; clear ta
     have HD := zh td; clear td
     have HR := zh tr; clear tr
     have HBL := zh tl; clear tl
     have tg := HGB.out.keep hal
     clear HGB g0 g1
     have g0 := tg.c 0 rfl
     have g1 := tg.c 1 rfl
     have HGB := zh tg; clear tg
     have hs9 := hal.size
     clear hal
     have m0 := tn.c 0 rfl
     have m1 := tn.c 1 rfl
     have HNB2 := zh tn; clear tn
     go_wp2_with fail
     (try rw [← hbn'])
     have HBN := zh hbn'; clear hbn'
     refine (HV2.out _).mono ?_
     rintro e w10 ⟨hq10, rfl⟩
     dsimp only
     have ta := HA.out.keep hq10
     have td := HD.out.keep hq10
     have tr := HR.out.keep hq10
     have tl := HBL.out.trans ((hq10).mono HBL.out.size)
     clear HA HD HR HBL x0 x1 y0 y1
     have x0 := ta.c 0 rfl
     have x1 := ta.c 1 rfl
     have y0 := td.c 0 rfl
     have y1 := td.c 1 rfl
     have HA := zh ta; clear ta
     have HD := zh td; clear td
     have HR := zh tr; clear tr
     have HBL := zh tl; clear tl
     have tn := HNB2.out.keep hq10
     clear HNB2 m0 m1
     have m0 := tn.c 0 rfl
     have m1 := tn.c 1 rfl
     have HNB2 := zh tn; clear tn
     clear hq10 HGB g0 g1
     obtain ⟨bd, hbd'⟩ : ∃ bd, bd = w10.heap.size := ⟨_, rfl⟩
     have hal : Below w10.heap.size w10 ((w10.alloc (.cells #[.bool (ineg D), .string (imag D)] 33)).alloc (.cells #[.bool (ineg r2), .string (imag r2)] 33)) := ((Below.refl _ _).alloc (Nat.le_refl _) _).alloc (by simp) _
     have tq : Blk ((w10.alloc (.cells #[.bool (ineg D), .string (imag D)] 33)).alloc (.cells #[.bool (ineg r2), .string (imag r2)] 33)) bd 33 [.bool (ineg D), .string (imag D)] := by rw [hbd']; exact (Blk.new w10 _ _).alloc _
     have ta := HA.out.keep hal
     have td := HD.out.keep hal
     have tr := HR.out.keep hal
     have tl := HBL.out.trans ((hal).mono HBL.out.size)
     clear HA HD HR HBL x0 x1 y0 y1
     have x0 := ta.c 0 rfl
     have x1 := ta.c 1 rfl
     have y0 := td.c 0 rfl
     have y1 := td.c 1 rfl
     have HA := zh ta; clear ta
     have HD := zh td; clear td
     have HR := zh tr; clear tr
     have HBL := zh tl; clear tl
     have tn := HNB2.out.keep hal
     clear HNB2 m0 m1
     have m0 := tn.c 0 rfl
     have m1 := tn.c 1 rfl
     have HNB2 := zh tn; clear tn
     have hs10 := hal.size
     clear hal
     have l0 := tq.c 0 rfl
     have l1 := tq.c 1 rfl
     have v0 := HR.out.c 0 rfl
     have v1 := HR.out.c 1 rfl
     have v2 := HR.out.c 2 rfl
     have v3 := HR.out.c 3 rfl
     have f0 := HR.out.frozen 0
     have f1 := HR.out.frozen 1
     have f2 := HR.out.frozen 2
     have f3 := HR.out.frozen 3
     go_wp2_with fail
     (try rw [← hbd'])
     have HBD := zh hbd'; clear hbd'
     have hrv : RatV q = .agg #[.bool (ineg N), .string (imag N), .bool (ineg D), .string (imag D)] := HRV.out
     have kz := (((HR.out.set 0 (.bool (ineg N))).set 1 (.string (imag N))).set 2 (.bool (ineg D))).set 3 (.string (imag D))
     have sz := ((((HBL.out.setCell (p := ⟨w.heap.size + 2, 0, none⟩) (show w.heap.size ≤ w.heap.size + 2 by omega) (.bool (ineg N))).setCell (p := ⟨w.heap.size + 2, 1, none⟩) (show w.heap.size ≤ w.heap.size + 2 by omega) (.string (imag N))).setCell (p := ⟨w.heap.size + 2, 2, none⟩) (show w.heap.size ≤ w.heap.size + 2 by omega) (.bool (ineg D))).setCell (p := ⟨w.heap.size + 2, 3, none⟩) (show w.heap.size ≤ w.heap.size + 2 by omega) (.string (imag D)))
     have e0 := kz.c 0 rfl
     have e1 := kz.c 1 rfl
     have e2 := kz.c 2 rfl
     have e3 := kz.c 3 rfl
     refine bodyPost_ret (v := RatV q) (by rw [hrv]; simp [results, Try.results46, go_sem, e0, e1, e2, e3]) rfl ⟨sz, rfl⟩

   ·
    have hpr := HPAR.out n d hdp (Or.inl ⟨rfl, rfl⟩)
    have HPR := zh hpr; clear hpr
    have HNE := zh hn; clear hn
    have HDE := zh hd; clear hd
    clear hy hn0 hq hdp
    have HC0 := zh hc0; clear hc0
    have HC1 := zh hc1; clear hc1
    go_enter Try.func46, Try.ntmps46
    go_wp2_with fail
    rw [← hw4]
    clear hw4
    simp only [Nat.add_assoc, Nat.reduceAdd]
    refine (HC0.out _).mono ?_
    rintro e w5 ⟨hq5, rfl⟩
    dsimp only
    have ta := HA.out.keep hq5
    have td := HD.out.keep hq5
    have tr := HR.out.keep hq5
    have tl := HBL.out.trans ((hq5).mono HBL.out.size)
    clear HA HD HR HBL x0 x1 y0 y1
    have x0 := ta.c 0 rfl
    have x1 := ta.c 1 rfl
    have y0 := td.c 0 rfl
    have y1 := td.c 1 rfl
    have HA := zh ta; clear ta
    have HD := zh td; clear td
    have HR := zh tr; clear tr
    have HBL := zh tl; clear tl
    have hs5 := hq5.size
    clear hq5
    go_wp2_with fail
    refine (HC1.out _).mono ?_
    rintro e w6 ⟨hq6, rfl⟩
    dsimp only
    have ta := HA.out.keep hq6
    have td := HD.out.keep hq6
    have tr := HR.out.keep hq6
    have tl := HBL.out.trans ((hq6).mono HBL.out.size)
    clear HA HD HR HBL x0 x1 y0 y1
    have x0 := ta.c 0 rfl
    have x1 := ta.c 1 rfl
    have y0 := td.c 0 rfl
    have y1 := td.c 1 rfl
    have HA := zh ta; clear ta
    have HD := zh td; clear td
    have HR := zh tr; clear tr
    have HBL := zh tl; clear tl
    have hs6 := hq6.size
    clear hq6
    have hg := fun w' => igcd_any na nb sa sb w' HSA.out HSB.out
    rw [← HND.out, ← HDD.out] at hg
    obtain ⟨g, hgg⟩ : ∃ g, g = Nat.gcd n.natAbs d.natAbs := ⟨_, rfl⟩
    have hg0 : 0 < g := by rw [hgg]; exact Nat.gcd_pos_of_pos_right _ (Int.natAbs_pos.2 hd0)
    have hgl : (imag (g : Int)).size ≤ 100000000000 := by
     rw [imag_size, Int.natAbs_natCast]
     refine Nat.le_trans (bb_mono (show g ≤ d.natAbs by rw [hgg]; exact Nat.gcd_le_right _ (Int.natAbs_pos.2 hd0))) ?_
     have := HSD.out
     rwa [imag_neg, imag_size] at this
    have hgb : 0 < bval (imag (g : Int)).data.toList := by rw [imag_list, bval_bb, Int.natAbs_natCast]; exact hg0
    have hv1 := fun w' => idiv_any na (ineg (g : Int)) sa (imag (g : Int)) w' HSA.out hgl hgb
    have hv2 := fun w' => idiv_any nb (ineg (g : Int)) sb (imag (g : Int)) w' HSB.out hgl hgb
    simp only [ival_canon] at hv1 hv2
    rw [← HNE.out] at hv1
    rw [← HDE.out] at hv2
    have hpr := HPR.out
    rw [← hgg] at hpr hg
    obtain ⟨N, hN⟩ : ∃ N, N = q.num := ⟨_, rfl⟩
    obtain ⟨D, hD⟩ : ∃ D, D = (q.den : Int) := ⟨_, rfl⟩
    have hrv : RatV q = .agg #[.bool (ineg N), .string (imag N), .bool (ineg D), .string (imag D)] := by rw [hN, hD]
    rw [← hN, ← hD] at hpr
    rw [← hpr.1] at hv1
    rw [← hpr.2] at hv2
    have HG := zh hg; clear hg
    obtain ⟨r1, hr1⟩ : ∃ r1, r1 = n.fmod (g : Int) := ⟨_, rfl⟩
    obtain ⟨r2, hr2⟩ : ∃ r2, r2 = d.fmod (g : Int) := ⟨_, rfl⟩
    rw [← hr1] at hv1
    rw [← hr2] at hv2
    have HV1 := zh hv1; clear hv1
    have HV2 := zh hv2; clear hv2
    clear hr1 hr2
    have HRV := zh hrv; clear hrv
    clear hN hD hpr hgb hgl hg0 hgg
    go_wp2_with fail
    refine (HG.out _).mono ?_
    rintro e w7 ⟨hq7, rfl⟩
    dsimp only
    have ta := HA.out.keep hq7
    have td := HD.out.keep hq7
    have tr := HR.out.keep hq7
    have tl := HBL.out.trans ((hq7).mono HBL.out.size)
    clear HA HD HR HBL x0 x1 y0 y1
    have x0 := ta.c 0 rfl
    have x1 := ta.c 1 rfl
    have y0 := td.c 0 rfl
    have y1 := td.c 1 rfl
    have HA := zh ta; clear ta
    have HD := zh td; clear td
    have HR := zh tr; clear tr
    have HBL := zh tl; clear tl
    have hs7 := hq7.size
    clear hq7
    obtain ⟨bg, hbg⟩ : ∃ bg, bg = w7.heap.size := ⟨_, rfl⟩
    have hal : Below w7.heap.size w7 (w7.alloc (.cells #[.bool (ineg (g : Int)), .string (imag (g : Int))] 33)) := (Below.refl _ _).alloc (Nat.le_refl _) _
    have tg : Blk (w7.alloc (.cells #[.bool (ineg (g : Int)), .string (imag (g : Int))] 33)) bg 33 [.bool (ineg (g : Int)), .string (imag (g : Int))] := by rw [hbg]; exact Blk.new w7 _ _
    have ta := HA.out.keep hal
    have td := HD.out.keep hal
    have tr := HR.out.keep hal
    have tl := HBL.out.trans ((hal).mono HBL.out.size)
    clear HA HD HR HBL x0 x1 y0 y1
    have x0 := ta.c 0 rfl
    have x1 := ta.c 1 rfl
    have y0 := td.c 0 rfl
    have y1 := td.c 1 rfl
    have HA := zh ta; clear ta
    have HD := zh td; clear td
    have HR := zh tr; clear tr
    have HBL := zh tl; clear tl
    have hs8 := hal.size
    clear hal
    have g0 := tg.c 0 rfl
    have g1 := tg.c 1 rfl
    have HGB := zh tg; clear tg
    go_wp2_with fail
    (try rw [← hbg])
    have HBG := zh hbg; clear hbg
    refine (HV1.out _).mono ?_
    rintro e w9 ⟨hq9, rfl⟩
    dsimp only
    have ta := HA.out.keep hq9
    have td := HD.out.keep hq9
    have tr := HR.out.keep hq9
    have tl := HBL.out.trans ((hq9).mono HBL.out.size)
    clear HA HD HR HBL x0 x1 y0 y1
    have x0 := ta.c 0 rfl
    have x1 := ta.c 1 rfl
    have y0 := td.c 0 rfl
    have y1 := td.c 1 rfl
    have HA := zh ta; clear ta
    have HD := zh td; clear td
    have HR := zh tr; clear tr
    have HBL := zh tl; clear tl
    have tg := HGB.out.keep hq9
    clear HGB g0 g1
    have g0 := tg.c 0 rfl
    have g1 := tg.c 1 rfl
    have HGB := zh tg; clear tg
    clear hq9
    obtain ⟨bn, hbn'⟩ : ∃ bn, bn = w9.heap.size := ⟨_, rfl⟩
    have hal : Below w9.heap.size w9 ((w9.alloc (.cells #[.bool (ineg N), .string (imag N)] 33)).alloc (.cells #[.bool (ineg r1), .string (imag r1)] 33)) := ((Below.refl _ _).alloc (Nat.le_refl _) _).alloc (by simp) _
    have tn : Blk ((w9.alloc (.cells #[.bool (ineg N), .string (imag N)] 33)).alloc (.cells #[.bool (ineg r1), .string (imag r1)] 33)) bn 33 [.bool (ineg N), .string (imag N)] := by rw [hbn']; exact (Blk.new w9 _ _).alloc _
    have ta := HA.out.keep hal
    have td := HD.out.keep hal
    have tr := HR.out.keep hal
    have tl := HBL.out.trans ((hal).mono HBL.out.size)
    clear HA HD HR HBL x0 x1 y0 y1
    have x0 := ta.c 0 rfl
    have x1 := ta.c 1 rfl
    have y0 := td.c 0 rfl
    have y1 := td.c 1 rfl
    have HA := zh ta; clear ta
    have HD := zh td; clear td
    have HR := zh tr; clear tr
    have HBL := zh tl; clear tl
    have tg := HGB.out.keep hal
    clear HGB g0 g1
    have g0 := tg.c 0 rfl
    have g1 := tg.c 1 rfl
    have HGB := zh tg; clear tg
    have hs9 := hal.size
    clear hal
    have m0 := tn.c 0 rfl
    have m1 := tn.c 1 rfl
    have HNB2 := zh tn; clear tn
    go_wp2_with fail
    (try rw [← hbn'])
    have HBN := zh hbn'; clear hbn'
    refine (HV2.out _).mono ?_
    rintro e w10 ⟨hq10, rfl⟩
    dsimp only
    have ta := HA.out.keep hq10
    have td := HD.out.keep hq10
    have tr := HR.out.keep hq10
    have tl := HBL.out.trans ((hq10).mono HBL.out.size)
    clear HA HD HR HBL x0 x1 y0 y1
    have x0 := ta.c 0 rfl
    have x1 := ta.c 1 rfl
    have y0 := td.c 0 rfl
    have y1 := td.c 1 rfl
    have HA := zh ta; clear ta
    have HD := zh td; clear td
    have HR := zh tr; clear tr
    have HBL := zh tl; clear tl
    have tn := HNB2.out.keep hq10
    clear HNB2 m0 m1
    have m0 := tn.c 0 rfl
    have m1 := tn.c 1 rfl
    have HNB2 := zh tn; clear tn
    clear hq10 HGB g0 g1
    obtain ⟨bd, hbd'⟩ : ∃ bd, bd = w10.heap.size := ⟨_, rfl⟩
    have hal : Below w10.heap.size w10 ((w10.alloc (.cells #[.bool (ineg D), .string (imag D)] 33)).alloc (.cells #[.bool (ineg r2), .string (imag r2)] 33)) := ((Below.refl _ _).alloc (Nat.le_refl _) _).alloc (by simp) _
    have tq : Blk ((w10.alloc (.cells #[.bool (ineg D), .string (imag D)] 33)).alloc (.cells #[.bool (ineg r2), .string (imag r2)] 33)) bd 33 [.bool (ineg D), .string (imag D)] := by rw [hbd']; exact (Blk.new w10 _ _).alloc _
    have ta := HA.out.keep hal
    have td := HD.out.keep hal
    have tr := HR.out.keep hal
    have tl := HBL.out.trans ((hal).mono HBL.out.size)
    clear HA HD HR HBL x0 x1 y0 y1
    have x0 := ta.c 0 rfl
    have x1 := ta.c 1 rfl
    have y0 := td.c 0 rfl
    have y1 := td.c 1 rfl
    have HA := zh ta; clear ta
    have HD := zh td; clear td
    have HR := zh tr; clear tr
    have HBL := zh tl; clear tl
    have tn := HNB2.out.keep hal
    clear HNB2 m0 m1
    have m0 := tn.c 0 rfl
    have m1 := tn.c 1 rfl
    have HNB2 := zh tn; clear tn
    have hs10 := hal.size
    clear hal
    have l0 := tq.c 0 rfl
    have l1 := tq.c 1 rfl
    have v0 := HR.out.c 0 rfl
    have v1 := HR.out.c 1 rfl
    have v2 := HR.out.c 2 rfl
    have v3 := HR.out.c 3 rfl
    have f0 := HR.out.frozen 0
    have f1 := HR.out.frozen 1
    have f2 := HR.out.frozen 2
    have f3 := HR.out.frozen 3
    go_wp2_with fail
    (try rw [← hbd'])
    have HBD := zh hbd'; clear hbd'
    have hrv : RatV q = .agg #[.bool (ineg N), .string (imag N), .bool (ineg D), .string (imag D)] := HRV.out
    have kz := (((HR.out.set 0 (.bool (ineg N))).set 1 (.string (imag N))).set 2 (.bool (ineg D))).set 3 (.string (imag D))
    have sz := ((((HBL.out.setCell (p := ⟨w.heap.size + 2, 0, none⟩) (show w.heap.size ≤ w.heap.size + 2 by omega) (.bool (ineg N))).setCell (p := ⟨w.heap.size + 2, 1, none⟩) (show w.heap.size ≤ w.heap.size + 2 by omega) (.string (imag N))).setCell (p := ⟨w.heap.size + 2, 2, none⟩) (show w.heap.size ≤ w.heap.size + 2 by omega) (.bool (ineg D))).setCell (p := ⟨w.heap.size + 2, 3, none⟩) (show w.heap.size ≤ w.heap.size + 2 by omega) (.string (imag D)))
    have e0 := kz.c 0 rfl
    have e1 := kz.c 1 rfl
    have e2 := kz.c 2 rfl
    have e3 := kz.c 3 rfl
    refine bodyPost_ret (v := RatV q) (by rw [hrv]; simp [results, Try.results46, go_sem, e0, e1, e2, e3]) rfl ⟨sz, rfl⟩

end Go.Proofs.Ytjpalbonclgflaa
