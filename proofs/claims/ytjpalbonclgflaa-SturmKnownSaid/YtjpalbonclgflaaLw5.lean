/- groovelaw05.poly, ratio; grooveref03.Same, grooveref05.Same at equal ones. -/
import Derived.Test.YtjpalbonclgflaaPart17
namespace Go.Proofs.Ytjpalbonclgflaa
open Go.RowKit

def ci (l : List Int) : List Value := l.map fun x => .int .i64 x
def PolyRet (l : List Int) (w : World) (e : Ending) (w' : World) : Prop := Below w.heap.size w w' ∧ ∃ v, e = .returned v ∧ Row w' v l.length (civ l)
set_option maxRecDepth 100000 in
set_option maxHeartbeats 3200000 in
theorem poly_any (l : List Int) (v : Value) (w : World) (hr : Row w v l.length (ci l)) (hl : l.length ≤ 100000) (hs : ∀ x ∈ l, -9223372036854775808 ≤ x ∧ x ≤ 9223372036854775807) :
  Calls Try.prog 5 #[v] w (PolyRet l w) := by
 obtain ⟨va, vc, rfl, hle⟩ := hr.slice
 obtain ⟨i0, hi, hz0, hz1', hz2'⟩ := info_parts infoZ
 obtain ⟨n, hn⟩ : ∃ n, n = l.length := ⟨_, rfl⟩
 have hof := fun x (hx : x ∈ l) w' => iof_any x w' (hs x hx).1 (hs x hx).2
 rw [← hn] at hr hle hl
 have HR := zh hr; clear hr
 have HN := zh hn; clear hn
 have HOF := zh hof; clear hof
 clear hs
 go_enter Try.func5, Try.ntmps5
 rw [← HN.out]
 go_wp2_with fail
 go_loopw [3, 5, 8] (fun u _ i wr => ∃ k : Nat, k ≤ n ∧ i = .int .i64 k ∧ wr.ownsRow w.heap.size 33 2 u k (civ (l.take k)) ∧ Below w.heap.size w wr) (fun _ _ i _ => n - (intOf i).toNat)
 case atStart => exact ⟨0, Nat.zero_le _, rfl, World.ownsRow_nil _ _ _ _, Below.refl _ _⟩
 case round =>
  obtain ⟨k, hk, rfl, hown, hbel⟩ := hrel
  have hsz : w.heap.size ≤ wr.heap.size := hbel.size
  by_cases hlt : k < n
  ·
   have hkl : k < l.length := by rw [← HN.out]; exact hlt
   have hget : l[k]? = some (l[k]'hkl) := List.getElem?_eq_getElem _
   obtain ⟨x, hx⟩ : ∃ x, x = l[k]'hkl := ⟨_, rfl⟩
   rw [← hx] at hget
   have hofx := HOF.out x (by rw [hx]; exact List.getElem_mem _)
   have hz2 : civ (l.take (k + 1)) = civ (l.take k) ++ [.bool (ineg x), .string (imag x)] := by
    rw [List.take_add_one, hget]; exact civ_snoc _ _
   obtain ⟨b1, o1, rfl, hb1, hbc⟩ := HR.out.at_ (by omega)
   have hbj : wr.cell? ⟨b1, o1 + k, none⟩ = some (.int .i64 x) := (hbel.cell (p := ⟨b1, o1 + k, none⟩) hb1).trans (hbc k _ (by simp [ci, hget]))
   obtain ⟨a, cap, rfl⟩ := own_slice hown
   have hix1 : (0 : Int) ≤ (k : Int) := by omega
   have hix2 : (k : Int) < (n : Int) := by omega
   have HO := zh hown; clear hown
   have HB := zh hbel; clear hbel
   have HZ2 := zh hz2; clear hz2
   have HOFX := zh hofx; clear hofx
   clear hx hget hbc hkl
   go_wp2_with fail
   go_at_call 16
   refine (HOFX.out _).mono ?_
   rintro e w2 ⟨hq2, rfl⟩
   have ho2 := own_below HO.out hq2
   have hb2 := HB.out.trans (hq2.mono HB.out.size)
   have hsz2 : w.heap.size ≤ w2.heap.size := hb2.size
   have HO2 := zh ho2; clear ho2
   have HB2 := zh hb2; clear hb2
   clear hq2
   go_wp2_with (at_builtin; refine wpList_append_lies _ rfl (.tmp 12) (.tmp 15) 25 rfl w.heap.size 33 i0 _ 2 24 Try.underlying25 hi hz0 hz1' hz2' rfl (by decide) _ _ _ rfl (HO2.out.alloc _) _ 1 1 [.bool (ineg x), .string (imag x)] rfl rfl (World.news_of_block (heap_alloc_new _ _)) (by simp [Value.oneCell']) (by omega) (by unfold maxLen; omega) (by omega) (by simp; omega) _ rfl ?_; intro g cap' w3 hown' hg hat hlt'; have HG := zh hg; clear hg; have HO4 := zh hown'; clear hown'; have HAT := zh hat; clear hat)
   go_roundw
   case rel =>
    refine ⟨k + 1, by omega, by go_num, ?_, (HB2.out.alloc hsz2 _).grown HG.out (by simp; omega) (fun j hj => (HO2.out.lt j hj).1)⟩
    rw [HZ2.out]; exact HO4.out
   case measure => simp [intOf]; omega
  ·
   obtain rfl : k = n := by omega
   have htk : l.take k = l := List.take_of_length_le (by rw [← HN.out]; exact Nat.le_refl _)
   rw [htk] at hown
   have HO := zh hown; clear hown
   have HB := zh hbel; clear hbel
   go_wp2_with fail
   go_ret
   exact ⟨HB.out, _, rfl, by rw [← HN.out]; exact own_row HO.out⟩
set_option maxRecDepth 100000 in
set_option maxHeartbeats 3200000 in
theorem rsame3_yes (l : List Int) (va vb : Value) (w : World) (ha : Row w va l.length (civ l)) (hb : Row w vb l.length (civ l)) :
  Calls Try.prog 34 #[va, vb] w (Ret w (.bool true)) := by
 obtain ⟨a1, c1, rfl, hle⟩ := ha.slice
 obtain ⟨a2, c2, rfl, -⟩ := hb.slice
 obtain ⟨n, hn⟩ : ∃ n, n = l.length := ⟨_, rfl⟩
 rw [← hn] at ha hb hle ⊢
 have HA := zh ha; clear ha
 have HB := zh hb; clear hb
 have HN := zh hn; clear hn
 have hne : ((n : Int) != (n : Int)) = false := by simp
 go_enter Try.func34, Try.ntmps34
 go_wp2_with fail
 go_loopw [5] (fun i wr => ∃ k : Nat, k ≤ n ∧ i = .int .i64 k ∧ Below w.heap.size w wr) (fun i _ => n - (intOf i).toNat)
 case atStart => exact ⟨0, Nat.zero_le _, rfl, Below.refl _ _⟩
 case round =>
  obtain ⟨k, hk, rfl, hbel⟩ := hrel
  have HBEL := zh hbel; clear hbel
  by_cases hlt : k < n
  ·
   have hget : l[k]? = some (l[k]'(by rw [← HN.out]; exact hlt)) := List.getElem?_eq_getElem _
   obtain ⟨x, hx⟩ : ∃ x, x = l[k]'(by rw [← HN.out]; exact hlt) := ⟨_, rfl⟩
   rw [← hx] at hget
   obtain ⟨b1, o1, rfl, hb1, hc1⟩ := HA.out.at_ (by omega)
   obtain ⟨b2, o2, rfl, hb2, hc2⟩ := HB.out.at_ (by omega)
   obtain ⟨x0, x1⟩ := int_cells hc1 HBEL.out hb1 hget
   obtain ⟨x2, x3⟩ := int_cells hc2 HBEL.out hb2 hget
   have hxx := fun w' => eqIn_same (ineg x) (imag x) w'
   clear hx hget hc1 hc2
   go_wp2_with fail
   go_quiet (fail)
   go_wp2_with fail
   go_roundw
   case rel => exact ⟨k + 1, by omega, by go_num, below_drewN HBEL.out _⟩
   case measure => simp [intOf]; omega
  ·
   obtain rfl : k = n := by omega
   go_wp2_with fail
   go_ret
   exact ⟨HBEL.out, rfl⟩
set_option maxRecDepth 100000 in
set_option maxHeartbeats 3200000 in
theorem lratio_any (n d : Int) (w : World) (h1 : -9223372036854775808 ≤ n) (h2 : n ≤ 9223372036854775807) (h3 : -9223372036854775808 ≤ d) (h4 : d ≤ 9223372036854775807) (h0 : d ≠ 0) :
  Calls Try.prog 7 #[.int .i64 n, .int .i64 d] w (Ret w (RatV (Rat.divInt n d))) := by
 have hr := fun w' => ratio_any n d w' h1 h2 h3 h4 h0
 obtain ⟨q, hq'⟩ : ∃ q, q = Rat.divInt n d := ⟨_, rfl⟩
 rw [← hq'] at hr ⊢
 clear hq' h1 h2 h3 h4 h0
 have HRA := zh hr; clear hr
 obtain ⟨w4, hw4⟩ : ∃ w4, w4 = w.alloc (.cells #[.bool false, .string ⟨#[]⟩, .bool false, .string ⟨#[]⟩] 35) := ⟨_, rfl⟩
 have k_r : Blk w4 (w.heap.size) 35 [.bool false, .string ⟨#[]⟩, .bool false, .string ⟨#[]⟩] := by
  rw [hw4]
  have h := (Blk.new (w) 35 [.bool false, .string ⟨#[]⟩, .bool false, .string ⟨#[]⟩])
  (try simp only [World.size_alloc, Nat.add_assoc, Nat.reduceAdd] at h)
  exact h
 have tl : Below w.heap.size w w4 := by
  rw [hw4]
  exact ((Below.refl w.heap.size w).alloc (by simp <;> omega) (.cells #[.bool false, .string ⟨#[]⟩, .bool false, .string ⟨#[]⟩] 35))
 have hs4 : w4.heap.size = w.heap.size + 1 := by rw [hw4]; simp only [World.size_alloc]
 obtain ⟨r_0, r_f0, r_1, r_f1, r_2, r_f2, r_3, r_f3⟩ := k_r.f4
 have HR := zh k_r; clear k_r
 have HBL := zh tl; clear tl
 go_enter Try.func7, Try.ntmps7
 go_wp2_with fail
 (try rw [← hw4])
 clear hw4
 (try simp only [Nat.add_assoc, Nat.reduceAdd])
 refine (HRA.out _).mono ?_
 rintro e w5 ⟨hq, rfl⟩
 dsimp only
 have k_r := HR.out.keep hq
 have tl := HBL.out.trans ((hq).mono HBL.out.size)
 clear HBL HR
 clear r_0 r_f0 r_1 r_f1 r_2 r_f2 r_3 r_f3
 obtain ⟨r_0, r_f0, r_1, r_f1, r_2, r_f2, r_3, r_f3⟩ := k_r.f4
 have HR := zh k_r; clear k_r
 have HBL := zh tl; clear tl
 clear hq
 obtain ⟨b_x, hb_x⟩ : ∃ b, b = w5.heap.size := ⟨_, rfl⟩
 have hal : Below w5.heap.size w5 (w5.alloc (.cells #[.bool (ineg q.num), .string (imag q.num), .bool (ineg (q.den : Int)), .string (imag (q.den : Int))] 35)) := (Below.refl _ _).alloc (Nat.le_refl _) _
 have k_x : Blk (w5.alloc (.cells #[.bool (ineg q.num), .string (imag q.num), .bool (ineg (q.den : Int)), .string (imag (q.den : Int))] 35)) b_x 35 [.bool (ineg q.num), .string (imag q.num), .bool (ineg (q.den : Int)), .string (imag (q.den : Int))] := by rw [hb_x]; exact Blk.new w5 _ _
 have hge_x : w.heap.size ≤ b_x := by rw [hb_x]; exact HBL.out.size
 have k_r := HR.out.keep hal
 have tl := HBL.out.trans ((hal).mono HBL.out.size)
 clear HBL HR
 clear r_0 r_f0 r_1 r_f1 r_2 r_f2 r_3 r_f3
 obtain ⟨r_0, r_f0, r_1, r_f1, r_2, r_f2, r_3, r_f3⟩ := k_r.f4
 have HR := zh k_r; clear k_r
 have HBL := zh tl; clear tl
 clear hal
 obtain ⟨x_0, x_f0, x_1, x_f1, x_2, x_f2, x_3, x_f3⟩ := k_x.f4
 have HX := zh k_x; clear k_x
 go_wp2_with fail
 (try rw [← hb_x])
 have HB_x := zh hb_x; clear hb_x
 have hrv : RatV q = .agg #[.bool (ineg q.num), .string (imag q.num), .bool (ineg (q.den : Int)), .string (imag (q.den : Int))] := rfl
 have kz := ((((HR.out.set 0 (.bool (ineg q.num))).set 1 (.string (imag q.num))).set 2 (.bool (ineg (q.den : Int)))).set 3 (.string (imag (q.den : Int))))
 have sz := ((((HBL.out.setCell (p := ⟨w.heap.size, 0, none⟩) (by show w.heap.size ≤ w.heap.size; omega) (.bool (ineg q.num))).setCell (p := ⟨w.heap.size, 1, none⟩) (by show w.heap.size ≤ w.heap.size; omega) (.string (imag q.num))).setCell (p := ⟨w.heap.size, 2, none⟩) (by show w.heap.size ≤ w.heap.size; omega) (.bool (ineg (q.den : Int)))).setCell (p := ⟨w.heap.size, 3, none⟩) (by show w.heap.size ≤ w.heap.size; omega) (.string (imag (q.den : Int))))
 have e0 := kz.c 0 rfl
 have e1 := kz.c 1 rfl
 have e2 := kz.c 2 rfl
 have e3 := kz.c 3 rfl
 refine bodyPost_ret (v := RatV q) (by rw [hrv]; simp [results, Try.results7, go_sem, e0, e1, e2, e3]) rfl ⟨sz, rfl⟩
set_option maxRecDepth 100000 in
set_option maxHeartbeats 6400000 in
theorem rsame5_yes (rows : List (List Int)) (va vb : Value) (w : World) (ha : Tab w va rows) (hb : Tab w vb rows) (hl : rows.length ≤ 1000) (hrl : ∀ r ∈ rows, r.length ≤ 1000) :
  Calls Try.prog 15 #[va, vb] w (Ret w (.bool true)) := by
 obtain ⟨rva, hla, hra, hrra⟩ := ha
 obtain ⟨rvb, hlb, hrb, hrrb⟩ := hb
 obtain ⟨a1', c1', rfl, -⟩ := hra.slice
 obtain ⟨a2', c2', rfl, -⟩ := hrb.slice
 obtain ⟨m, hm⟩ : ∃ m, m = rows.length := ⟨_, rfl⟩
 rw [← hm] at hra hrb hl ⊢
 have hmm : ((m : Int) != (m : Int)) = false := by simp
 have HRA := zh hra; clear hra
 have HRB := zh hrb; clear hrb
 have HRRA := zh hrra; clear hrra
 have HRRB := zh hrrb; clear hrrb
 have HM := zh hm; clear hm
 have HRL := zh hrl; clear hrl
 go_enter Try.func15, Try.ntmps15
 go_wp2_with fail
 go_loopw [5] (fun i wr => ∃ k : Nat, k ≤ m ∧ i = .int .i64 (k : Int) ∧ Below w.heap.size w wr) (fun i _ => m - (intOf i).toNat)
 case atStart => exact ⟨0, Nat.zero_le _, rfl, Below.refl _ _⟩
 case round =>
  obtain ⟨k, hk, rfl, tl⟩ := hrel
  obtain ⟨wo, rfl⟩ : ∃ wo : World, wo = wr := ⟨_, rfl⟩
  by_cases hlt : k < m
  ·
   have hkl : k < rows.length := by rw [← HM.out]; exact hlt
   have hget : rows[k]? = some (rows[k]'hkl) := List.getElem?_eq_getElem _
   obtain ⟨r, hr⟩ : ∃ r, r = rows[k]'hkl := ⟨_, rfl⟩
   rw [← hr] at hget
   have hrll := HRL.out r (by rw [hr]; exact List.getElem_mem _)
   obtain ⟨rv1, h1, h2⟩ := HRRA.out k r hget
   obtain ⟨rv2, h3, h4⟩ := HRRB.out k r hget
   obtain ⟨b1, o1, rfl, hb1, hbc1⟩ := HRA.out.at_ (by omega)
   obtain ⟨b2, o2, rfl, hb2, hbc2⟩ := HRB.out.at_ (by omega)
   have c1_ := (tl.cell (p := ⟨b1, o1 + k, none⟩) hb1).trans (hbc1 k rv1 h1)
   have c2_ := (tl.cell (p := ⟨b2, o2 + k, none⟩) hb2).trans (hbc2 k rv2 h3)
   have hsm := fun w' hb => rsame3_yes r rv1 rv2 w' (h2.below (B := w.heap.size) hb (Nat.le_refl _)) (h4.below (B := w.heap.size) hb (Nat.le_refl _))
   have hsm := hsm wo.drew tl.drew
   obtain ⟨a1, c1, rfl, -⟩ := h2.slice
   obtain ⟨a2, c2, rfl, -⟩ := h4.slice
   obtain ⟨n, hn⟩ : ∃ n, n = r.length := ⟨_, rfl⟩
   rw [← hn] at hsm c1_ c2_
   have hnn : ((n : Int) != (n : Int)) = false := by simp
   have hkm : (k : Int) < (m : Int) := by omega
   have HSM := zh hsm; clear hsm
   have HBL := zh tl; clear tl
   clear hr hget hkl h1 h2 h3 h4 hbc1 hbc2 hn hrll
   go_wp2_with fail
   have HBL := zh HBL.out.drew
   refine wp_region_held_drew (S := fun w' => w'.cell? ⟨b1, o1 + k, none⟩ = some (.slice a1 n c1) ∧ w'.cell? ⟨b2, o2 + k, none⟩ = some (.slice a2 n c2)) (by kernel_rfl) ?_ (fun hHeld0 => ?_)
   ·
    go_keep
   refine zT 0 (h := ?_)
   (try simp only [Act.put, zA, zB, zC])
   refine zT 1 (h := ?_)
   (try simp only [Act.put, zA, zB, zC])
   refine zT 2 (h := ?_)
   (try simp only [Act.put, zA, zB, zC])
   refine zT 3 (h := ?_)
   (try simp only [Act.put, zA, zB, zC])
   refine zT 4 (h := ?_)
   (try simp only [Act.put, zA, zB, zC])
   refine zT 5 (h := ?_)
   (try simp only [Act.put, zA, zB, zC])
   refine zT 6 (h := ?_)
   (try simp only [Act.put, zA, zB, zC])
   refine zT 7 (h := ?_)
   (try simp only [Act.put, zA, zB, zC])
   refine zR 8 (h := fun K hK => ?_)
   go_simp
   go_at_call 34
   refine (HSM.out).mono ?_
   rintro e w21 ⟨hq, rfl⟩
   dsimp only
   have z0 := zK hq (Nat.lt_of_lt_of_le hb1 HBL.out.size) hHeld0.1
   have z1 := zK hq (Nat.lt_of_lt_of_le hb2 HBL.out.size) hHeld0.2
   refine hK.out _ _ ⟨z0, z1⟩ (fun hHeld1 => ?_)
   clear hK K hHeld0 z0 z1
   (try simp only [Act.put, zA, zB, zC])
   have tl := HBL.out.trans ((hq).mono HBL.out.size)
   clear HBL 
   have HBL := zh tl; clear tl
   clear hq
   refine zT 9 (h := ?_)
   (try simp only [Act.put, zA, zB, zC])
   refine zT 10 (h := ?_)
   (try simp only [Act.put, zA, zB, zC])
   refine zT 11 (h := ?_)
   (try simp only [Act.put, zA, zB, zC])
   refine zT 12 (h := ?_)
   (try simp only [Act.put, zA, zB, zC])
   refine zT 13 (h := ?_)
   (try simp only [Act.put, zA, zB, zC])
   refine zT 14 (h := ?_)
   (try simp only [Act.put, zA, zB, zC])
   refine zT 15 (h := ?_)
   (try simp only [Act.put, zA, zB, zC])
   refine zT 16 (h := ?_)
   (try simp only [Act.put, zA, zB, zC])
   refine zT 17 (h := ?_)
   (try simp only [Act.put, zA, zB, zC])
   refine zT 18 (h := ?_)
   (try simp only [Act.put, zA, zB, zC])
   refine zT 19 (h := ?_)
   (try simp only [Act.put, zA, zB, zC])
   refine zT 20 (h := ?_)
   (try simp only [Act.put, zA, zB, zC])
   refine zT 21 (h := ?_)
   (try simp only [Act.put, zA, zB, zC])
   refine zT 22 (h := ?_)
   (try simp only [Act.put, zA, zB, zC])
   refine wpAnyH_done (by kernel_rfl) ?_ _
   (try simp only [List.getElem_toArray, List.getElem_cons_zero, List.getElem_cons_succ, Act.put, zA, zB, zC])
   go_wp2_with fail
   go_roundw
   case rel => exact ⟨k + 1, by omega, by go_num, HBL.out⟩
   case measure => simp [intOf]; omega
  ·
   obtain rfl : k = m := by omega
   have HBL := zh tl; clear tl
   go_wp2_with fail
   go_ret
   exact ⟨HBL.out, rfl⟩
end Go.Proofs.Ytjpalbonclgflaa
