/- sturm.Changes, count (printed by gen_chg.py). -/
import Derived.Deep.CutRange
import Derived.Test.YtjpalbonclgflaaStA
namespace Go.Proofs.Ytjpalbonclgflaa
open Go.RowKit

theorem chgS_le (n d : Int) (l : List (List Int)) : ∀ st : Nat × Int, (l.foldl (chgS n d) st).1 ≤ st.1 + l.length := by
 induction l with
 | nil => intro st; simp
 | cons p l ih =>
  intro st
  have h := ih (chgS n d st p)
  have h2 : (chgS n d st p).1 ≤ st.1 + 1 := by unfold chgS; dsimp only; split <;> omega
  simp only [List.foldl_cons, List.length_cons]
  omega
theorem cmpZ_three (a b : Int) : cmpZ a b = -1 ∨ cmpZ a b = 0 ∨ cmpZ a b = 1 := by unfold cmpZ; split <;> (try split) <;> simp
theorem chgS_three (n d : Int) (l : List (List Int)) : ∀ st : Nat × Int, (st.2 = -1 ∨ st.2 = 0 ∨ st.2 = 1) → ((l.foldl (chgS n d) st).2 = -1 ∨ (l.foldl (chgS n d) st).2 = 0 ∨ (l.foldl (chgS n d) st).2 = 1) := by
 induction l with
 | nil => intro st h; exact h
 | cons p l ih =>
  intro st h
  refine ih _ ?_
  unfold chgS
  dsimp only
  split
  ·
   exact cmpZ_three _ _
  ·
   exact h
theorem chgS_eq {n d : Int} {st : Nat × Int} {p : List Int} {s : Int} (h : cmpZ (atV p n d).1 0 = s) : chgS n d st p = (if s ≠ 0 ∧ st.2 ≠ 0 ∧ s ≠ st.2 then st.1 + 1 else st.1, if s ≠ 0 then s else st.2) := by subst h; rfl
theorem chg_le (rows : List (List Int)) (q : Rat) : chg rows q ≤ rows.length := by
 have h := chgS_le q.num (q.den : Int) rows (0, 0)
 rw [show ((0, 0) : Nat × Int).1 = 0 from rfl, Nat.zero_add] at h
 exact h
set_option maxRecDepth 100000 in
set_option maxHeartbeats 6400000 in
theorem schanges_any (rows : List (List Int)) (v : Value) (na ma : Bool) (sa ta : ByteArray) (w : World) (m : Nat) (ht : Tab w v rows) (hlr : rows.length ≤ 1000) (hs : ∀ p ∈ rows, p.length ≤ 65 ∧ ∀ x ∈ p, zs m x) (hm : m ≤ 1000000000)
  (h1 : sa.size ≤ 1000000000) (h2 : ta.size ≤ 1000000000) :
  Calls Try.prog 18 #[v, .agg #[.bool na, .string sa, .bool ma, .string ta]] w (Ret w (.int .i64 (chg rows (Rat.divInt (ival na sa) (ival ma ta)) : Int))) := by
 obtain ⟨rvs, hrl, hrow, hrows⟩ := ht
 obtain ⟨va, vc, rfl, hle⟩ := hrow.slice
 have hnum := fun w' => snumber_any 0 w' (by decide) (by decide)
 have hqa := divInt_sized (ival_sized h1 na) (ival_sized h2 ma) (by decide)
 obtain ⟨qa, ha⟩ : ∃ q, q = Rat.divInt (ival na sa) (ival ma ta) := ⟨_, rfl⟩
 obtain ⟨q0, hq0⟩ : ∃ q, q = Rat.divInt 0 1 := ⟨_, rfl⟩
 have h0s : rs 1 q0 := by rw [hq0]; exact divInt_sized (zs_nat 0 1 (by decide)) (zs_nat 1 1 (by decide)) (by decide)
 have had := fun w' => radd_anyQ na ma sa ta (ineg q0.num) (ineg (q0.den : Int)) (imag q0.num) (imag (q0.den : Int)) w' (by omega) (by omega) (Nat.le_trans h0s.1.size (by decide)) (Nat.le_trans h0s.2.size (by decide))
 simp only [ival_canon, Rat.num_divInt_den] at had
 rw [← hq0] at hnum
 have hz : q0 = 0 := by rw [hq0]; rfl
 rw [← ha, hz, Rat.add_zero, ← hz] at had
 rw [← ha] at hqa ⊢
 obtain ⟨n, hn⟩ : ∃ n, n = rows.length := ⟨_, rfl⟩
 rw [← hn] at hrow hle hlr ⊢
 have hat := fun l v w' h1 h2 h3 => sat_any l v qa w' 1000000000 h1 h2 h3 hqa (by decide)
 unfold chg
 obtain ⟨N, hN⟩ : ∃ N, N = qa.num := ⟨_, rfl⟩
 obtain ⟨D, hD⟩ : ∃ D : Int, D = (qa.den : Int) := ⟨_, rfl⟩
 simp only [← hN, ← hD] at hat ⊢
 have hrat : RatV qa = .agg #[.bool (ineg N), .string (imag N), .bool (ineg D), .string (imag D)] := by rw [hN, hD]
 rw [hrat] at had
 simp only [hrat] at hat
 clear hrat hqa hN hD ha hz h0s hq0 h1 h2
 have HR0 := zh hrow; clear hrow
 have HRS := zh hrows; clear hrows
 have HRL := zh hrl; clear hrl
 have HN := zh hn; clear hn
 have HS := zh hs; clear hs
 have HAD := zh had; clear had
 have HNUM := zh hnum; clear hnum
 have HAT := zh hat; clear hat
 obtain ⟨w4, hw4⟩ : ∃ w4, w4 = w.alloc (.cells #[.bool na, .string sa, .bool ma, .string ta] 35) := ⟨_, rfl⟩
 have k_r : Blk w4 (w.heap.size) 35 [.bool na, .string sa, .bool ma, .string ta] := by
  rw [hw4]
  have h := (Blk.new (w) 35 [.bool na, .string sa, .bool ma, .string ta])
  (try simp only [World.size_alloc, Nat.add_assoc, Nat.reduceAdd] at h)
  exact h
 have tl : Below w.heap.size w w4 := by
  rw [hw4]
  exact ((Below.refl w.heap.size w).alloc (by simp <;> omega) (.cells #[.bool na, .string sa, .bool ma, .string ta] 35))
 have hs4 : w4.heap.size = w.heap.size + 1 := by rw [hw4]; simp only [World.size_alloc]
 obtain ⟨r_0, r_f0, r_1, r_f1, r_2, r_f2, r_3, r_f3⟩ := k_r.f4
 have HR := zh k_r; clear k_r
 have HBL := zh tl; clear tl
 go_enter Try.func18, Try.ntmps18
 go_upto_region 1 with fail
 (try rw [← hw4])
 clear hw4
 (try simp only [Nat.add_assoc, Nat.reduceAdd])
 go_cut [] from 10 to 12 (fun wx => Blk wx w.heap.size 35 [.bool (ineg N), .string (imag N), .bool (ineg D), .string (imag D)] ∧ Below w.heap.size w wx)
 case first =>
  have HR := zh HR.out.drew
  have HBL := zh HBL.out.drew
  refine wp_region_held_drew (S := fun _ => True) (by kernel_rfl) trivial (fun _ => ?_)
  refine wpAnyH_ready (rs := [0, 1]) (by kernel_rfl) (by simp) ?_
  refine (AllReadyH.cons rfl (fun K hK => ?_) (AllReadyH.cons rfl (fun K hK => ?_) AllReadyH.nil))
  ·
   go_simp
   refine hK.out _ _ trivial (fun _ => ?_)
   clear hK K
   (try simp only [Act.put, zA, zB, zC])
   refine wpAnyH_ready (rs := [1]) (by kernel_rfl) (by simp) ?_
   refine (AllReadyH.cons rfl (fun K hK => ?_) AllReadyH.nil)
   ·
    go_simp
    go_at_call 36
    refine (HNUM.out _).mono ?_
    rintro e wn20 ⟨hq, rfl⟩
    dsimp only
    refine hK.out _ _ trivial (fun _ => ?_)
    clear hK K
    (try simp only [Act.put, zA, zB, zC])
    have k_r := HR.out.keep hq
    have tl := HBL.out.trans ((hq).mono HBL.out.size)
    clear HBL HR
    clear r_0 r_f0 r_1 r_f1 r_2 r_f2 r_3 r_f3
    obtain ⟨r_0, r_f0, r_1, r_f1, r_2, r_f2, r_3, r_f3⟩ := k_r.f4
    have HR := zh k_r; clear k_r
    have HBL := zh tl; clear tl
    clear hq
    refine wpAnyH_ready (rs := [2]) (by kernel_rfl) (by simp) ?_
    refine (AllReadyH.cons rfl (fun K hK => ?_) AllReadyH.nil)
    ·
     go_simp
     go_at_call 38
     refine (HAD.out _).mono ?_
     rintro e wn21 ⟨hq, rfl⟩
     dsimp only
     refine hK.out _ _ trivial (fun _ => ?_)
     clear hK K
     (try simp only [Act.put, zA, zB, zC])
     have k_r := HR.out.keep hq
     have tl := HBL.out.trans ((hq).mono HBL.out.size)
     clear HBL HR
     clear r_0 r_f0 r_1 r_f1 r_2 r_f2 r_3 r_f3
     obtain ⟨r_0, r_f0, r_1, r_f1, r_2, r_f2, r_3, r_f3⟩ := k_r.f4
     have HR := zh k_r; clear k_r
     have HBL := zh tl; clear tl
     clear hq
     refine wpAnyH_ready (rs := [3]) (by kernel_rfl) (by simp) ?_
     refine (AllReadyH.cons rfl (fun K hK => ?_) AllReadyH.nil)
     ·
      go_simp
      refine hK.out _ _ trivial (fun _ => ?_)
      clear hK K
      (try simp only [Act.put, zA, zB, zC])
      refine wpAnyH_done (by kernel_rfl) ?_ _
      (try simp only [List.getElem_toArray, List.getElem_cons_zero, List.getElem_cons_succ, Act.put, zA, zB, zC])
      go_wp2_with fail
      go_meet
      exact ⟨((((HR.out.set 0 (.bool (ineg N))).set 1 (.string (imag N))).set 2 (.bool (ineg D))).set 3 (.string (imag D))), ((((HBL.out.setCell (p := ⟨w.heap.size, 0, none⟩) (Nat.le_refl _) (.bool (ineg N))).setCell (p := ⟨w.heap.size, 1, none⟩) (Nat.le_refl _) (.string (imag N))).setCell (p := ⟨w.heap.size, 2, none⟩) (Nat.le_refl _) (.bool (ineg D))).setCell (p := ⟨w.heap.size, 3, none⟩) (Nat.le_refl _) (.string (imag D)))⟩
  ·
   go_simp
   go_at_call 36
   refine (HNUM.out _).mono ?_
   rintro e wn20 ⟨hq, rfl⟩
   dsimp only
   refine hK.out _ _ trivial (fun _ => ?_)
   clear hK K
   (try simp only [Act.put, zA, zB, zC])
   have k_r := HR.out.keep hq
   have tl := HBL.out.trans ((hq).mono HBL.out.size)
   clear HBL HR
   clear r_0 r_f0 r_1 r_f1 r_2 r_f2 r_3 r_f3
   obtain ⟨r_0, r_f0, r_1, r_f1, r_2, r_f2, r_3, r_f3⟩ := k_r.f4
   have HR := zh k_r; clear k_r
   have HBL := zh tl; clear tl
   clear hq
   refine wpAnyH_ready (rs := [0]) (by kernel_rfl) (by simp) ?_
   refine (AllReadyH.cons rfl (fun K hK => ?_) AllReadyH.nil)
   ·
    go_simp
    refine hK.out _ _ trivial (fun _ => ?_)
    clear hK K
    (try simp only [Act.put, zA, zB, zC])
    refine wpAnyH_ready (rs := [2]) (by kernel_rfl) (by simp) ?_
    refine (AllReadyH.cons rfl (fun K hK => ?_) AllReadyH.nil)
    ·
     go_simp
     go_at_call 38
     refine (HAD.out _).mono ?_
     rintro e wn21 ⟨hq, rfl⟩
     dsimp only
     refine hK.out _ _ trivial (fun _ => ?_)
     clear hK K
     (try simp only [Act.put, zA, zB, zC])
     have k_r := HR.out.keep hq
     have tl := HBL.out.trans ((hq).mono HBL.out.size)
     clear HBL HR
     clear r_0 r_f0 r_1 r_f1 r_2 r_f2 r_3 r_f3
     obtain ⟨r_0, r_f0, r_1, r_f1, r_2, r_f2, r_3, r_f3⟩ := k_r.f4
     have HR := zh k_r; clear k_r
     have HBL := zh tl; clear tl
     clear hq
     refine wpAnyH_ready (rs := [3]) (by kernel_rfl) (by simp) ?_
     refine (AllReadyH.cons rfl (fun K hK => ?_) AllReadyH.nil)
     ·
      go_simp
      refine hK.out _ _ trivial (fun _ => ?_)
      clear hK K
      (try simp only [Act.put, zA, zB, zC])
      refine wpAnyH_done (by kernel_rfl) ?_ _
      (try simp only [List.getElem_toArray, List.getElem_cons_zero, List.getElem_cons_succ, Act.put, zA, zB, zC])
      go_wp2_with fail
      go_meet
      exact ⟨((((HR.out.set 0 (.bool (ineg N))).set 1 (.string (imag N))).set 2 (.bool (ineg D))).set 3 (.string (imag D))), ((((HBL.out.setCell (p := ⟨w.heap.size, 0, none⟩) (Nat.le_refl _) (.bool (ineg N))).setCell (p := ⟨w.heap.size, 1, none⟩) (Nat.le_refl _) (.string (imag N))).setCell (p := ⟨w.heap.size, 2, none⟩) (Nat.le_refl _) (.bool (ineg D))).setCell (p := ⟨w.heap.size, 3, none⟩) (Nat.le_refl _) (.string (imag D)))⟩
 case rest =>
  obtain ⟨k_r, tl⟩ := hcut
  clear HR HBL r_0 r_f0 r_1 r_f1 r_2 r_f2 r_3 r_f3
  obtain ⟨r_0, r_f0, r_1, r_f1, r_2, r_f2, r_3, r_f3⟩ := k_r.f4
  have HR := zh k_r; clear k_r
  have HBL := zh tl; clear tl
  go_wp2_with fail
  go_loopw [5, 6, 15] (fun c s i wr => ∃ k : Nat, k ≤ n ∧ i = .int .i64 (k : Int) ∧ c = .int .i64 (((rows.take k).foldl (chgS N D) (0, 0)).1 : Int) ∧ s = .int .i64 ((rows.take k).foldl (chgS N D) (0, 0)).2 ∧ Below w.heap.size w wr ∧ Blk wr w.heap.size 35 [.bool (ineg N), .string (imag N), .bool (ineg D), .string (imag D)]) (fun _ _ i _ => n - (intOf i).toNat)
  case atStart => exact ⟨0, Nat.zero_le _, rfl, rfl, rfl, HBL.out, HR.out⟩
  case round =>
   clear r_0 r_f0 r_1 r_f1 r_2 r_f2 r_3 r_f3 HBL HR
   obtain ⟨k, hk, rfl, rfl, rfl, tl, k_r⟩ := hrel
   obtain ⟨wo, rfl⟩ : ∃ wo : World, wo = wr := ⟨_, rfl⟩
   have hle1 := chgS_le N D (rows.take k) (0, 0)
   have hth := chgS_three N D (rows.take k) (0, 0) (Or.inr (Or.inl rfl))
   have hcl : ((rows.take k).foldl (chgS N D) (0, 0)).1 ≤ 1000 := by rw [List.length_take] at hle1; omega
   by_cases hlt : k < n
   ·
    have hkl : k < rows.length := by rw [← HN.out]; exact hlt
    have hget : rows[k]? = some (rows[k]'hkl) := List.getElem?_eq_getElem _
    obtain ⟨p, hp⟩ : ∃ p, p = rows[k]'hkl := ⟨_, rfl⟩
    rw [← hp] at hget
    have hps := HS.out p (by rw [hp]; exact List.getElem_mem _)
    obtain ⟨rv, hrv, hrr⟩ := HRS.out k p hget
    obtain ⟨b1, o1, rfl, hb1, hbc⟩ := HR0.out.at_ (by omega)
    have hcell := (tl.cell (p := ⟨b1, o1 + k, none⟩) hb1).trans (hbc k rv hrv)
    have hstep : (rows.take (k + 1)).foldl (chgS N D) (0, 0) = chgS N D ((rows.take k).foldl (chgS N D) (0, 0)) p := by rw [List.take_add_one, hget]; simp
    obtain ⟨st, hst⟩ : ∃ st, st = ((rows.take k).foldl (chgS N D) (0, 0)) := ⟨_, rfl⟩
    rw [← hst] at hcl hth hstep ⊢
    obtain ⟨c, s⟩ := st
    dsimp only at hcl hth ⊢
    have hat := HAT.out p rv _ (hrr.below tl (Nat.le_refl _)) hps.1 (fun x hx => (hps.2 x hx).mono hm)
    obtain ⟨s2, hs2⟩ : ∃ s, s = cmpZ (atV p N D).1 0 := ⟨_, rfl⟩
    have hs3 := cmpZ_three (atV p N D).1 0
    rw [← hs2] at hat hs3
    rw [chgS_eq hs2.symm] at hstep
    have hkn : (k : Int) < (n : Int) := by omega
    clear hp hget hkl hps hrv hrr hbc hs2 hst hle1
    have HAT1 := zh hat; clear hat
    have HST := zh hstep; clear hstep
    obtain ⟨r_0, r_f0, r_1, r_f1, r_2, r_f2, r_3, r_f3⟩ := k_r.f4
    have HR := zh k_r; clear k_r
    have HBL := zh tl; clear tl
    go_wp2_with fail
    refine (HAT1.out).mono ?_
    rintro e w51 ⟨hq, rfl⟩
    dsimp only
    have k_r := HR.out.keep hq
    have tl := HBL.out.trans ((hq).mono HBL.out.size)
    clear HBL HR
    clear r_0 r_f0 r_1 r_f1 r_2 r_f2 r_3 r_f3
    obtain ⟨r_0, r_f0, r_1, r_f1, r_2, r_f2, r_3, r_f3⟩ := k_r.f4
    have HR := zh k_r; clear k_r
    have HBL := zh tl; clear tl
    clear hq
    clear hcell HAT1
    rcases hs3 with rfl | rfl | rfl <;> rcases hth with rfl | rfl | rfl
    ·
     go_wp2_with fail
     go_roundw
     case rel =>
      refine ⟨k + 1, by omega, by go_num, ?_, ?_, HBL.out, HR.out⟩
      ·
       rw [HST.out]; first | rfl | (simp; done) | go_num | (show _ = Value.int .i64 ((c + 1 : Nat) : Int); go_num)
      ·
       rw [HST.out]; first | rfl | (simp; done)
     case measure => simp [intOf]; omega
    ·
     go_wp2_with fail
     go_roundw
     case rel =>
      refine ⟨k + 1, by omega, by go_num, ?_, ?_, HBL.out, HR.out⟩
      ·
       rw [HST.out]; first | rfl | (simp; done) | go_num | (show _ = Value.int .i64 ((c + 1 : Nat) : Int); go_num)
      ·
       rw [HST.out]; first | rfl | (simp; done)
     case measure => simp [intOf]; omega
    ·
     go_wp2_with fail
     go_roundw
     case rel =>
      refine ⟨k + 1, by omega, by go_num, ?_, ?_, HBL.out, HR.out⟩
      ·
       rw [HST.out]; first | rfl | (simp; done) | go_num | (show _ = Value.int .i64 ((c + 1 : Nat) : Int); go_num)
      ·
       rw [HST.out]; first | rfl | (simp; done)
     case measure => simp [intOf]; omega
    ·
     go_wp2_with fail
     go_roundw
     case rel =>
      refine ⟨k + 1, by omega, by go_num, ?_, ?_, HBL.out, HR.out⟩
      ·
       rw [HST.out]; first | rfl | (simp; done) | go_num | (show _ = Value.int .i64 ((c + 1 : Nat) : Int); go_num)
      ·
       rw [HST.out]; first | rfl | (simp; done)
     case measure => simp [intOf]; omega
    ·
     go_wp2_with fail
     go_roundw
     case rel =>
      refine ⟨k + 1, by omega, by go_num, ?_, ?_, HBL.out, HR.out⟩
      ·
       rw [HST.out]; first | rfl | (simp; done) | go_num | (show _ = Value.int .i64 ((c + 1 : Nat) : Int); go_num)
      ·
       rw [HST.out]; first | rfl | (simp; done)
     case measure => simp [intOf]; omega
    ·
     go_wp2_with fail
     go_roundw
     case rel =>
      refine ⟨k + 1, by omega, by go_num, ?_, ?_, HBL.out, HR.out⟩
      ·
       rw [HST.out]; first | rfl | (simp; done) | go_num | (show _ = Value.int .i64 ((c + 1 : Nat) : Int); go_num)
      ·
       rw [HST.out]; first | rfl | (simp; done)
     case measure => simp [intOf]; omega
    ·
     go_wp2_with fail
     go_roundw
     case rel =>
      refine ⟨k + 1, by omega, by go_num, ?_, ?_, HBL.out, HR.out⟩
      ·
       rw [HST.out]; first | rfl | (simp; done) | go_num | (show _ = Value.int .i64 ((c + 1 : Nat) : Int); go_num)
      ·
       rw [HST.out]; first | rfl | (simp; done)
     case measure => simp [intOf]; omega
    ·
     go_wp2_with fail
     go_roundw
     case rel =>
      refine ⟨k + 1, by omega, by go_num, ?_, ?_, HBL.out, HR.out⟩
      ·
       rw [HST.out]; first | rfl | (simp; done) | go_num | (show _ = Value.int .i64 ((c + 1 : Nat) : Int); go_num)
      ·
       rw [HST.out]; first | rfl | (simp; done)
     case measure => simp [intOf]; omega
    ·
     go_wp2_with fail
     go_roundw
     case rel =>
      refine ⟨k + 1, by omega, by go_num, ?_, ?_, HBL.out, HR.out⟩
      ·
       rw [HST.out]; first | rfl | (simp; done) | go_num | (show _ = Value.int .i64 ((c + 1 : Nat) : Int); go_num)
      ·
       rw [HST.out]; first | rfl | (simp; done)
     case measure => simp [intOf]; omega
   ·
    obtain rfl : k = n := by omega
    have htk : rows.take k = rows := List.take_of_length_le (by rw [← HN.out]; exact Nat.le_refl _)
    rw [htk]
    clear htk hth hle1 hcl
    obtain ⟨r_0, r_f0, r_1, r_f1, r_2, r_f2, r_3, r_f3⟩ := k_r.f4
    have HR := zh k_r; clear k_r
    have HBL := zh tl; clear tl
    go_wp2_with fail
    go_ret
    exact ⟨HBL.out, rfl⟩
end Go.Proofs.Ytjpalbonclgflaa
