/- groovelaw05.SturmBounds is true (printed by gen_lbnd.py). -/
import Derived.Test.YtjpalbonclgflaaGreatPart10
import Derived.Test.YtjpalbonclgflaaGreatAwk5
import Derived.Test.YtjpalbonclgflaaGreatPart15
namespace Go.Proofs.YtjpalbonclgflaaGreat
open Go.RowKit

set_option maxRecDepth 100000 in
set_option maxHeartbeats 3200000 in
theorem sBound_gen (l : List Int) (v : Value) (w : World) (m : Nat) (hr : Row w v l.length (civ l)) (hl0 : 0 < l.length) (hl : l.length ≤ 65) (he : Ends l) (hs : ∀ x ∈ l, zs m x) (hm : m ≤ 1000000000) :
  Calls Tryz.prog 34 #[v] w (Ret w (.tuple #[IntV (bnd l : Int), .int .i64 0])) := by
 have hsm : ∀ x ∈ l, small x := fun x hx => by have := (hs x hx).size; unfold small; omega
 have hck : ∀ w', Row w' v l.length (civ l) → Calls Tryz.prog 51 #[v, .slice none 0 0] w' (Ret w' (.int .i64 0)) := fun w' h => scheck_any l v [] _ w' h (Row.nil _) hl0 hl hsm he (fun x hx => absurd hx (by simp))
 have hbo := fun w' h => sbound_any l v w' m h hl0 (by omega) he hs (by omega)
 obtain ⟨B, hB⟩ : ∃ B : Int, B = (bnd l : Int) := ⟨_, rfl⟩
 rw [← hB] at hbo ⊢
 clear hB hsm
 obtain ⟨va, vc, rfl, -⟩ := hr.slice
 obtain ⟨n, hn⟩ : ∃ n, n = l.length := ⟨_, rfl⟩
 rw [← hn] at hr hck hbo ⊢
 clear hn hs he hl hl0
 have HRW := Lib.hid hr; clear hr
 have HCK := Lib.hid hck; clear hck
 have HBO := Lib.hid hbo; clear hbo
 obtain ⟨w4, hw4⟩ : ∃ w4, w4 = w.alloc (.cells #[.bool false, .string ⟨#[]⟩] 25) := ⟨_, rfl⟩
 have k_r : Blk w4 (w.heap.size) 25 [.bool false, .string ⟨#[]⟩] := by
  rw [hw4]
  have h := (Blk.new (w) 25 [.bool false, .string ⟨#[]⟩])
  (try simp only [World.size_alloc, Nat.add_assoc, Nat.reduceAdd] at h)
  exact h
 have tl : Below w.heap.size w w4 := by
  rw [hw4]
  exact ((Below.refl w.heap.size w).alloc (by simp <;> omega) (.cells #[.bool false, .string ⟨#[]⟩] 25))
 have hs4 : w4.heap.size = w.heap.size + 1 := by rw [hw4]; simp only [World.size_alloc]
 have r_0 := k_r.c 0 rfl
 have r_f0 := k_r.frozen 0
 have r_1 := k_r.c 1 rfl
 have r_f1 := k_r.frozen 1
 have HR := Lib.hid k_r; clear k_r
 have HBL := Lib.hid tl; clear tl
 go_enter Tryz.func34, Tryz.ntmps34
 go_wp2_with fail
 (try rw [← hw4])
 clear hw4
 (try simp only [Nat.add_assoc, Nat.reduceAdd])
 have hck := HCK.out _ (HRW.out.below HBL.out (Nat.le_refl _))
 have HCK1 := Lib.hid hck; clear hck
 refine (HCK1.out).mono ?_
 rintro e w5 ⟨hq, rfl⟩
 dsimp only
 have k_r := HR.out.keep hq
 have tl := HBL.out.trans ((hq).mono HBL.out.size)
 clear HBL HR
 clear r_0 r_f0 r_1 r_f1
 have r_0 := k_r.c 0 rfl
 have r_f0 := k_r.frozen 0
 have r_1 := k_r.c 1 rfl
 have r_f1 := k_r.frozen 1
 have HR := Lib.hid k_r; clear k_r
 have HBL := Lib.hid tl; clear tl
 clear hq
 have hbo := HBO.out _ (HRW.out.below HBL.out (Nat.le_refl _))
 have HBO1 := Lib.hid hbo; clear hbo
 go_wp2_with fail
 refine (HBO1.out).mono ?_
 rintro e w6 ⟨hq, rfl⟩
 dsimp only
 have k_r := HR.out.keep hq
 have tl := HBL.out.trans ((hq).mono HBL.out.size)
 clear HBL HR
 clear r_0 r_f0 r_1 r_f1
 have r_0 := k_r.c 0 rfl
 have r_f0 := k_r.frozen 0
 have r_1 := k_r.c 1 rfl
 have r_f1 := k_r.frozen 1
 have HR := Lib.hid k_r; clear k_r
 have HBL := Lib.hid tl; clear tl
 clear hq
 go_wp2_with fail
 have hrv : IntV B = .agg #[.bool (ineg (B)), .string (imag (B))] := rfl
 have kz := ((HR.out.set 0 (.bool (ineg (B)))).set 1 (.string (imag (B))))
 have sz := ((HBL.out.setCell (p := ⟨w.heap.size, 0, none⟩) (by show w.heap.size ≤ w.heap.size; omega) (.bool (ineg (B)))).setCell (p := ⟨w.heap.size, 1, none⟩) (by show w.heap.size ≤ w.heap.size; omega) (.string (imag (B))))
 have e0 := kz.c 0 rfl
 have e1 := kz.c 1 rfl
 refine bodyPost_ret (v := .tuple #[IntV B, .int .i64 0]) (by rw [hrv]; simp [results, Tryz.results34, go_sem, e0, e1]) rfl ⟨sz, rfl⟩
theorem eqIn_intB (b : Bool) (s : ByteArray) (w : World) : (Op.equalIn 10000 25 (.agg #[.bool b, .string s]) (.agg #[.bool b, .string s])).run Tryz.prog w = .ok true w := eqIn_same b s w
set_option maxRecDepth 100000 in
set_option maxHeartbeats 12800000 in
theorem lbounds_true (r : List (Bool × ByteArray)) (v : Value) (w : World) (hr0 : Row w v r.length (cnv r)) :
  Calls Tryz.prog 9 #[v] w (Ret w (.bool true)) := by
 have hfi := fine5_any r v w hr0
 unfold FineRet at hfi
 have HFI := Lib.hid hfi; clear hfi
 have HR00 := Lib.hid hr0; clear hr0
 go_enter Tryz.func9, Tryz.ntmps9
 go_wp2_with fail
 refine (HFI.out).mono ?_
 rintro e0 wF ⟨hq0, b, rfl, hb⟩
 dsimp only
 have hr1 := HR00.out.below hq0 (Nat.le_refl _)
 have HF0 := Lib.hid hq0; clear hq0
 cases b with
 | false =>
  clear hb hr1
  go_wp2_with fail
  refine (awake5_true _).mono ?_
  rintro e w2 ⟨hq, rfl⟩
  dsimp only
  have s2 := HF0.out.trans (hq.mono HF0.out.size)
  have S2 := Lib.hid s2; clear s2
  clear hq
  go_wp2_with fail
  go_ret
  exact ⟨S2.out, rfl⟩
 | true =>
 obtain ⟨⟨hg1, hg2⟩, hc1, hc2, hc3, hc4⟩ := hb rfl
 have hs : ∀ x ∈ vals r, zs 3 x := fun x hx => by
  obtain ⟨y, hy, rfl⟩ := List.mem_map.1 hx
  exact ival_sized (hg1 y hy) y.1
 have he : Ends (vals r) := by rw [← hc2]; exact tzI_ends _
 have hl : (vals r).length ≤ 8 := by rw [vals_length]; omega
 have hl0 : 0 < (vals r).length := by rw [vals_length]; exact hc3
 have hr : Row wF v (vals r).length (civ (vals r)) := by rw [vals_length, ← hc1]; exact hr1
 obtain ⟨l, hl9⟩ : ∃ l, l = vals r := ⟨_, rfl⟩
 rw [← hl9] at hs he hl hl0 hr
 clear hl9 hg1 hg2 hc1 hc2 hc3 hc4 hb hr1
 have hk := bndK_small he hl0 hs
 have hbo := sBound_gen l v wF 3 hr hl0 (by omega) he hs (by decide)
 have hbp : bnd l = 2 ^ bndK l := rfl
 have hbz := bnd_zs he hl0 hs (Nat.le_refl (bndK l))
 rw [← hbp] at hbz
 have hbits := fun w' => bits_any (bnd l : Int) w' (Nat.le_trans hbz.size (by decide))
 rw [Int.natAbs_natCast, hbp, lenB_pow hk, ← hbp] at hbits
 have hpow := fun w' => pow2_any (bndK l) hk w'
 rw [← hbp] at hpow
 have hat := fun w' h => atB_any l v w' h hl hl0 he hs
 have hsg := bnd_sign he hl0
 have hqo := fun w' => qof_any (ineg (bnd l : Int)) (imag (bnd l : Int)) w' (Nat.le_trans hbz.size (by decide))
 simp only [ival_canon] at hqo
 obtain ⟨K, hK⟩ : ∃ K, K = bndK l := ⟨_, rfl⟩
 rw [← hK] at hbits hpow
 obtain ⟨B, hB⟩ : ∃ B : Int, B = (bnd l : Int) := ⟨_, rfl⟩
 rw [← hB] at hbo hbits hpow hat hsg hqo hbz
 have hBl : bnd l < 256 ^ 4 := by
  have : 2 ^ bndK l < 2 ^ 32 := Nat.pow_lt_pow_right (by decide) hk
  have h2 : (256 : Nat) ^ 4 = 2 ^ 32 := by decide
  omega
 have hez := evZ_sized (l := l) (B := bnd l) (M := 0) (Nat.pow_pos (by decide)) hl hs hBl
 rw [← hB] at hez
 have hof2 := fun w' => iof_any 2 w' (by decide) (by decide)
 obtain ⟨Z, hZ⟩ : ∃ Z, Z = evZ l B := ⟨_, rfl⟩
 rw [← hZ] at hat hsg hez
 obtain ⟨q, hq⟩ : ∃ q, q = Rat.divInt B 1 := ⟨_, rfl⟩
 obtain ⟨E, hE⟩ : ∃ E, E = Rat.divInt Z 1 := ⟨_, rfl⟩
 obtain ⟨O, hO⟩ : ∃ O, O = Rat.divInt 0 1 := ⟨_, rfl⟩
 have hcp := cmp_int Z
 have hE1 : rs 40 E := by rw [hE]; exact divInt_sized hez (by have h9 := zs_nat 1 40 (by decide); exact h9) (by decide)
 have hO1 : rs 40 O := by rw [hO]; exact divInt_sized (zs_nat 0 40 (by decide)) (by have h9 := zs_nat 1 40 (by decide); exact h9) (by decide)
 rw [← hq] at hqo hat
 rw [← hE] at hat hcp
 rw [← hO] at hcp
 have hcm := fun w' => qcompare_any (ineg E.num) (ineg (E.den : Int)) (imag E.num) (imag (E.den : Int)) (ineg O.num) (ineg (O.den : Int)) (imag O.num) (imag (O.den : Int)) w' (Nat.le_trans hE1.1.size (by decide)) (Nat.le_trans hE1.2.size (by decide)) (Nat.le_trans hO1.1.size (by decide)) (Nat.le_trans hO1.2.size (by decide))
 simp only [ival_canon, Rat.num_divInt_den] at hcm
 rw [hcp, hsg.1] at hcm
 have hrt := fun w' => lratio_any 0 1 w' (by decide) (by decide) (by decide) (by decide) (by decide)
 rw [← hO] at hrt
 obtain ⟨y, hy⟩ : ∃ y, y = l.getLast?.getD 0 := ⟨_, rfl⟩
 have hyg : l[l.length - 1]? = some y := by
  rcases List.eq_nil_or_concat l with h | ⟨l0, z, h⟩
  ·
   rw [h] at hl0; simp at hl0
  ·
   rw [List.concat_eq_append] at h
   rw [hy, h]; simp
 have hyz := hs y (List.mem_of_getElem? hyg)
 rw [← hy] at hcm
 have hic := fun w' => icompare_any (ineg y) false (imag y) ⟨#[]⟩ w' (Nat.le_trans hyz.size (by decide)) (by decide)
 rw [ival_nil, ival_canon] at hic
 have hne : cmpZ y 0 ≠ 0 := by
  rw [hy, ← hsg.1]
  have h2 := hsg.2
  unfold cmpZ
  rw [if_neg h2]
  split <;> decide
 obtain ⟨c, hc⟩ : ∃ c, c = cmpZ y 0 := ⟨_, rfl⟩
 rw [← hc] at hcm hic hne
 have hwK : IntKind.i64.wrap (K : Int) = (K : Int) := IntWalk.i64_in _ (by rw [hK]; omega)
 have hwK1 : IntKind.i64.wrap ((K : Int) + 1 - 1) = (K : Int) := by rw [show (K : Int) + 1 - 1 = (K : Int) by omega]; exact hwK
 have hcc : ((c : Int) == c) = true := by simp
 have hc0 : ((c : Int) != 0) = true := by simpa using hne
 have heql := fun w' => eqIn_intB (ineg B) (imag B) w'
 obtain ⟨va, vc, rfl, -⟩ := hr.slice
 obtain ⟨j0, hj0⟩ : ∃ n, l.length = n + 1 := ⟨l.length - 1, by omega⟩
 rw [hj0] at hr hbo hat hl hl0 hyg ⊢
 have hyg : l[j0]? = some y := hyg
 obtain ⟨b1, o1, rfl, hb1, hbc⟩ := hr.at_ (by omega)
 obtain ⟨p0, p1⟩ := int_cells hbc (Below.refl wF.heap.size wF) hb1 hyg
 have hwj : IntKind.i64.wrap (j0 : Int) = (j0 : Int) := IntWalk.i64_in _ (by omega)
 have hj1 : (0 : Int) ≤ (j0 : Int) := by omega
 have hj2 : (j0 : Int) < (j0 : Int) + 1 := by omega
 have HRW := Lib.hid hr; clear hr
 have HBO := Lib.hid hbo; clear hbo
 have HBITS := Lib.hid hbits; clear hbits
 have HPOW := Lib.hid hpow; clear hpow
 have HAT := Lib.hid hat; clear hat
 have HQO := Lib.hid hqo; clear hqo
 have HOF2 := Lib.hid hof2; clear hof2
 have HCM := Lib.hid hcm; clear hcm
 have HRT := Lib.hid hrt; clear hrt
 have HIC := Lib.hid hic; clear hic
 clear hk hbp hbz hsg hcp hE1 hO1 hBl hez hyz hne hbc hc hy hyg hB hK hZ hq hE hO hj0 hs he
 go_wp2_with fail
 refine (HBO.out).mono ?_
 rintro e1 w5 ⟨hq5, rfl⟩
 dsimp only
 have tl := hq5
 have HBL := Lib.hid tl; clear tl
 clear hq5
 obtain ⟨b_b, hb_b⟩ : ∃ b, b = w5.heap.size := ⟨_, rfl⟩
 have hal : Below w5.heap.size w5 (w5.alloc (.cells #[.bool (ineg (B)), .string (imag (B))] 25)) := (Below.refl _ _).alloc (Nat.le_refl _) _
 have k_b : Blk (w5.alloc (.cells #[.bool (ineg (B)), .string (imag (B))] 25)) b_b 25 [.bool (ineg (B)), .string (imag (B))] := by rw [hb_b]; exact Blk.new w5 _ _
 have hge_b : wF.heap.size ≤ b_b := by rw [hb_b]; exact HBL.out.size
 have tl := HBL.out.trans ((hal).mono HBL.out.size)
 clear HBL
 have HBL := Lib.hid tl; clear tl
 clear hal
 have b_0 := k_b.c 0 rfl
 have b_f0 := k_b.frozen 0
 have b_1 := k_b.c 1 rfl
 have b_f1 := k_b.frozen 1
 have HB := Lib.hid k_b; clear k_b
 obtain ⟨w6, hw6⟩ : ∃ x, x = (w5.alloc (.cells #[.bool (ineg (B)), .string (imag (B))] 25)) := ⟨_, rfl⟩
 rw [← hw6] at HB HBL b_0 b_f0 b_1 b_f1
 have HW6 := Lib.hid hw6; clear hw6
 go_wp2_with fail
 (try rw [← hb_b])
 (try rw [← HW6.out])
 have HB_b := Lib.hid hb_b; clear hb_b
 go_cut [5, 6] from 19 to 26 (fun p e wx => ∃ bx, p = .pointer (some ⟨bx, 0, none⟩) ∧ e = .int .i64 0 ∧ bx ≠ b_b ∧ wF.heap.size ≤ bx ∧ Below wF.heap.size wF wx ∧ Blk wx b_b 25 [.bool (ineg (B)), .string (imag (B))] ∧ Blk wx bx 25 [.bool (ineg (B)), .string (imag (B))])
 case first =>
  have HB := Lib.hid HB.out.drew
  have HBL := Lib.hid HBL.out.drew
  refine wp_region_held_drew (S := fun w' => w'.cell? ⟨b_b, 0, none⟩ = some (.bool (ineg (B))) ∧ w'.cell? ⟨b_b, 1, none⟩ = some (.string (imag (B)))) (by kernel_rfl) ?_ (fun hHeld0 => ?_)
  ·
   go_keep
  refine zT 1 (h := ?_)
  (try simp only [Act.put, zA, zB, zC])
  refine wpAnyH_ready (rs := [0, 8]) (by kernel_rfl) (by simp) ?_
  refine (AllReadyH.cons rfl (fun K hK => ?_) (AllReadyH.cons rfl (fun K hK => ?_) AllReadyH.nil))
  ·
   go_simp
   go_at_call 44
   refine (HOF2.out _).mono ?_
   rintro e w41 ⟨hq, rfl⟩
   dsimp only
   have z0 := (hq.cell (p := ⟨b_b, 0, none⟩) HB.out.lt).trans hHeld0.1
   have z1 := (hq.cell (p := ⟨b_b, 1, none⟩) HB.out.lt).trans hHeld0.2
   refine hK.out _ _ ⟨z0, z1⟩ (fun hHeld1 => ?_)
   clear hK K hHeld0 z0 z1
   (try simp only [Act.put, zA, zB, zC])
   have k_b := HB.out.keep hq
   have tl := HBL.out.trans ((hq).mono HBL.out.size)
   clear HBL HB
   clear b_0 b_f0 b_1 b_f1
   have b_0 := k_b.c 0 rfl
   have b_f0 := k_b.frozen 0
   have b_1 := k_b.c 1 rfl
   have b_f1 := k_b.frozen 1
   have HB := Lib.hid k_b; clear k_b
   have HBL := Lib.hid tl; clear tl
   clear hq
   refine wpAnyH_ready (rs := [2, 8]) (by kernel_rfl) (by simp) ?_
   refine (AllReadyH.cons rfl (fun K hK => ?_) (AllReadyH.cons rfl (fun K hK => ?_) AllReadyH.nil))
   ·
    go_simp
    go_at_call 45
    refine (HBITS.out _).mono ?_
    rintro e w42 ⟨hq, rfl⟩
    dsimp only
    have z0 := (hq.cell (p := ⟨b_b, 0, none⟩) HB.out.lt).trans hHeld1.1
    have z1 := (hq.cell (p := ⟨b_b, 1, none⟩) HB.out.lt).trans hHeld1.2
    refine hK.out _ _ ⟨z0, z1⟩ (fun hHeld2 => ?_)
    clear hK K hHeld1 z0 z1
    (try simp only [Act.put, zA, zB, zC])
    have k_b := HB.out.keep hq
    have tl := HBL.out.trans ((hq).mono HBL.out.size)
    clear HBL HB
    clear b_0 b_f0 b_1 b_f1
    have b_0 := k_b.c 0 rfl
    have b_f0 := k_b.frozen 0
    have b_1 := k_b.c 1 rfl
    have b_f1 := k_b.frozen 1
    have HB := Lib.hid k_b; clear k_b
    have HBL := Lib.hid tl; clear tl
    clear hq
    refine zT 3 (h := ?_)
    (try simp only [Act.put, zA, zB, zC])
    refine wpAnyH_ready (rs := [4, 8]) (by kernel_rfl) (by simp) ?_
    refine (AllReadyH.cons rfl (fun K hK => ?_) (AllReadyH.cons rfl (fun K hK => ?_) AllReadyH.nil))
    ·
     go_simp
     go_at_call 43
     refine (HPOW.out _).mono ?_
     rintro e w43 ⟨hq, rfl⟩
     dsimp only
     have z0 := (hq.cell (p := ⟨b_b, 0, none⟩) HB.out.lt).trans hHeld2.1
     have z1 := (hq.cell (p := ⟨b_b, 1, none⟩) HB.out.lt).trans hHeld2.2
     refine hK.out _ _ ⟨z0, z1⟩ (fun hHeld3 => ?_)
     clear hK K hHeld2 z0 z1
     (try simp only [Act.put, zA, zB, zC])
     have k_b := HB.out.keep hq
     have tl := HBL.out.trans ((hq).mono HBL.out.size)
     clear HBL HB
     clear b_0 b_f0 b_1 b_f1
     have b_0 := k_b.c 0 rfl
     have b_f0 := k_b.frozen 0
     have b_1 := k_b.c 1 rfl
     have b_f1 := k_b.frozen 1
     have HB := Lib.hid k_b; clear k_b
     have HBL := Lib.hid tl; clear tl
     clear hq
     refine zT 5 (h := ?_)
     (try simp only [Act.put, zA, zB, zC])
     refine zT 6 (h := ?_)
     (try simp only [Act.put, zA, zB, zC])
     refine zT 7 (h := ?_)
     (try simp only [Act.put, zA, zB, zC])
     refine wpAnyH_ready (rs := [8]) (by kernel_rfl) (by simp) ?_
     refine (AllReadyH.cons rfl (fun K hK => ?_) AllReadyH.nil)
     ·
      go_simp
      refine hK.out _ _ ?_ (fun hHeld4 => ?_)
      ·
       ((try dsimp only); go_keep)
      clear hK K
      (try simp only [Act.put, zA, zB, zC])
      have hcs := HBL.out.size
      have hcb := HB.out.lt
      obtain ⟨b_x, hb_x⟩ : ∃ b, b = w43.heap.size := ⟨_, rfl⟩
      have hal : Below w43.heap.size w43 (w43.alloc (.cells #[.bool false, .string ⟨#[]⟩] 25)) := (Below.refl _ _).alloc (Nat.le_refl _) _
      have k_x : Blk (w43.alloc (.cells #[.bool false, .string ⟨#[]⟩] 25)) b_x 25 [.bool false, .string ⟨#[]⟩] := by rw [hb_x]; exact Blk.new w43 _ _
      have hge_x : wF.heap.size ≤ b_x := by rw [hb_x]; exact HBL.out.size
      have k_b := HB.out.keep hal
      have tl := HBL.out.trans ((hal).mono HBL.out.size)
      clear HBL HB
      clear b_0 b_f0 b_1 b_f1
      have b_0 := k_b.c 0 rfl
      have b_f0 := k_b.frozen 0
      have b_1 := k_b.c 1 rfl
      have b_f1 := k_b.frozen 1
      have HB := Lib.hid k_b; clear k_b
      have HBL := Lib.hid tl; clear tl
      clear hal
      have x_0 := k_x.c 0 rfl
      have x_f0 := k_x.frozen 0
      have x_1 := k_x.c 1 rfl
      have x_f1 := k_x.frozen 1
      have HX := Lib.hid k_x; clear k_x
      have hxF : wF.heap.size ≤ b_x := by rw [hb_x]; exact hcs
      have hxb : b_b < b_x := by rw [hb_x]; exact hcb
      have hnb1 : ¬ b_x = b_b := by omega
      have hnb2 : ¬ b_b = b_x := by omega
      (try simp only [World.size_drew] at hb_x)
      (try rw [← hb_x])
      have HB_x := Lib.hid hb_x; clear hb_x
      refine zR 9 (h := fun K hK => ?_)
      go_simp
      refine hK.out _ _ ?_ (fun hHeld5 => ?_)
      ·
       ((try dsimp only); go_keep)
      clear hK K
      (try simp only [Act.put, zA, zB, zC])
      refine zT 10 (h := ?_)
      (try simp only [Act.put, zA, zB, zC])
      refine wpAnyH_done (by kernel_rfl) ?_ _
      (try simp only [List.getElem_toArray, List.getElem_cons_zero, List.getElem_cons_succ, Act.put, zA, zB, zC])
      obtain ⟨w44, hw_⟩ : ∃ x, x = (((w43.alloc (.cells #[.bool false, .string ⟨#[]⟩] 25))).setCell ⟨b_x, 0, none⟩ (.bool (ineg (B)))).setCell ⟨b_x, 1, none⟩ (.string (imag (B))) := ⟨_, rfl⟩
      (try rw [← hw_])
      have k_b : Blk w44 (b_b) 25 [.bool (ineg (B)), .string (imag (B))] := by rw [hw_]; exact ((HB.out.setOther (a := ⟨b_x, 0, none⟩) (by show b_x ≠ b_b; omega) (.bool (ineg (B)))).setOther (a := ⟨b_x, 1, none⟩) (by show b_x ≠ b_b; omega) (.string (imag (B))))
      have k_x : Blk w44 (b_x) 25 [.bool (ineg (B)), .string (imag (B))] := by rw [hw_]; exact ((HX.out.set 0 (.bool (ineg (B)))).set 1 (.string (imag (B))))
      have tl : Below wF.heap.size wF w44 := by rw [hw_]; exact ((HBL.out.setCell (p := ⟨b_x, 0, none⟩) (by show wF.heap.size ≤ b_x; omega) (.bool (ineg (B)))).setCell (p := ⟨b_x, 1, none⟩) (by show wF.heap.size ≤ b_x; omega) (.string (imag (B))))
      clear HBL hw_ HB HX
      clear x_0 x_f0 x_1 x_f1
      clear b_0 b_f0 b_1 b_f1
      have b_0 := k_b.c 0 rfl
      have b_f0 := k_b.frozen 0
      have b_1 := k_b.c 1 rfl
      have b_f1 := k_b.frozen 1
      have HB := Lib.hid k_b; clear k_b
      have x_0 := k_x.c 0 rfl
      have x_f0 := k_x.frozen 0
      have x_1 := k_x.c 1 rfl
      have x_f1 := k_x.frozen 1
      have HX := Lib.hid k_x; clear k_x
      have HBL := Lib.hid tl; clear tl
      go_wp2_with fail
      go_meet
      exact ⟨b_x, rfl, rfl, by omega, hxF, HBL.out, HB.out, HX.out⟩
    ·
     go_simp
     refine hK.out _ _ ?_ (fun hHeld3 => ?_)
     ·
      ((try dsimp only); go_keep)
     clear hK K
     (try simp only [Act.put, zA, zB, zC])
     have hcs := HBL.out.size
     have hcb := HB.out.lt
     obtain ⟨b_x, hb_x⟩ : ∃ b, b = w42.heap.size := ⟨_, rfl⟩
     have hal : Below w42.heap.size w42 (w42.alloc (.cells #[.bool false, .string ⟨#[]⟩] 25)) := (Below.refl _ _).alloc (Nat.le_refl _) _
     have k_x : Blk (w42.alloc (.cells #[.bool false, .string ⟨#[]⟩] 25)) b_x 25 [.bool false, .string ⟨#[]⟩] := by rw [hb_x]; exact Blk.new w42 _ _
     have hge_x : wF.heap.size ≤ b_x := by rw [hb_x]; exact HBL.out.size
     have k_b := HB.out.keep hal
     have tl := HBL.out.trans ((hal).mono HBL.out.size)
     clear HBL HB
     clear b_0 b_f0 b_1 b_f1
     have b_0 := k_b.c 0 rfl
     have b_f0 := k_b.frozen 0
     have b_1 := k_b.c 1 rfl
     have b_f1 := k_b.frozen 1
     have HB := Lib.hid k_b; clear k_b
     have HBL := Lib.hid tl; clear tl
     clear hal
     have x_0 := k_x.c 0 rfl
     have x_f0 := k_x.frozen 0
     have x_1 := k_x.c 1 rfl
     have x_f1 := k_x.frozen 1
     have HX := Lib.hid k_x; clear k_x
     have hxF : wF.heap.size ≤ b_x := by rw [hb_x]; exact hcs
     have hxb : b_b < b_x := by rw [hb_x]; exact hcb
     have hnb1 : ¬ b_x = b_b := by omega
     have hnb2 : ¬ b_b = b_x := by omega
     (try simp only [World.size_drew] at hb_x)
     (try rw [← hb_x])
     have HB_x := Lib.hid hb_x; clear hb_x
     refine wpAnyH_ready (rs := [4]) (by kernel_rfl) (by simp) ?_
     refine (AllReadyH.cons rfl (fun K hK => ?_) AllReadyH.nil)
     ·
      go_simp
      go_at_call 43
      refine (HPOW.out _).mono ?_
      rintro e w43 ⟨hq, rfl⟩
      dsimp only
      have z0 := (hq.cell (p := ⟨b_b, 0, none⟩) HB.out.lt).trans hHeld3.1
      have z1 := (hq.cell (p := ⟨b_b, 1, none⟩) HB.out.lt).trans hHeld3.2
      refine hK.out _ _ ⟨z0, z1⟩ (fun hHeld4 => ?_)
      clear hK K hHeld3 z0 z1
      (try simp only [Act.put, zA, zB, zC])
      have k_b := HB.out.keep hq
      have k_x := HX.out.keep hq
      have tl := HBL.out.trans ((hq).mono HBL.out.size)
      clear HBL HB HX
      clear b_0 b_f0 b_1 b_f1
      have b_0 := k_b.c 0 rfl
      have b_f0 := k_b.frozen 0
      have b_1 := k_b.c 1 rfl
      have b_f1 := k_b.frozen 1
      have HB := Lib.hid k_b; clear k_b
      clear x_0 x_f0 x_1 x_f1
      have x_0 := k_x.c 0 rfl
      have x_f0 := k_x.frozen 0
      have x_1 := k_x.c 1 rfl
      have x_f1 := k_x.frozen 1
      have HX := Lib.hid k_x; clear k_x
      have HBL := Lib.hid tl; clear tl
      clear hq
      refine zT 5 (h := ?_)
      (try simp only [Act.put, zA, zB, zC])
      refine zT 6 (h := ?_)
      (try simp only [Act.put, zA, zB, zC])
      refine zT 7 (h := ?_)
      (try simp only [Act.put, zA, zB, zC])
      refine zR 9 (h := fun K hK => ?_)
      go_simp
      refine hK.out _ _ ?_ (fun hHeld5 => ?_)
      ·
       ((try dsimp only); go_keep)
      clear hK K
      (try simp only [Act.put, zA, zB, zC])
      refine zT 10 (h := ?_)
      (try simp only [Act.put, zA, zB, zC])
      refine wpAnyH_done (by kernel_rfl) ?_ _
      (try simp only [List.getElem_toArray, List.getElem_cons_zero, List.getElem_cons_succ, Act.put, zA, zB, zC])
      obtain ⟨w44, hw_⟩ : ∃ x, x = ((w43).setCell ⟨b_x, 0, none⟩ (.bool (ineg (B)))).setCell ⟨b_x, 1, none⟩ (.string (imag (B))) := ⟨_, rfl⟩
      (try rw [← hw_])
      have k_b : Blk w44 (b_b) 25 [.bool (ineg (B)), .string (imag (B))] := by rw [hw_]; exact ((HB.out.setOther (a := ⟨b_x, 0, none⟩) (by show b_x ≠ b_b; omega) (.bool (ineg (B)))).setOther (a := ⟨b_x, 1, none⟩) (by show b_x ≠ b_b; omega) (.string (imag (B))))
      have k_x : Blk w44 (b_x) 25 [.bool (ineg (B)), .string (imag (B))] := by rw [hw_]; exact ((HX.out.set 0 (.bool (ineg (B)))).set 1 (.string (imag (B))))
      have tl : Below wF.heap.size wF w44 := by rw [hw_]; exact ((HBL.out.setCell (p := ⟨b_x, 0, none⟩) (by show wF.heap.size ≤ b_x; omega) (.bool (ineg (B)))).setCell (p := ⟨b_x, 1, none⟩) (by show wF.heap.size ≤ b_x; omega) (.string (imag (B))))
      clear HBL hw_ HB HX
      clear x_0 x_f0 x_1 x_f1
      clear b_0 b_f0 b_1 b_f1
      have b_0 := k_b.c 0 rfl
      have b_f0 := k_b.frozen 0
      have b_1 := k_b.c 1 rfl
      have b_f1 := k_b.frozen 1
      have HB := Lib.hid k_b; clear k_b
      have x_0 := k_x.c 0 rfl
      have x_f0 := k_x.frozen 0
      have x_1 := k_x.c 1 rfl
      have x_f1 := k_x.frozen 1
      have HX := Lib.hid k_x; clear k_x
      have HBL := Lib.hid tl; clear tl
      go_wp2_with fail
      go_meet
      exact ⟨b_x, rfl, rfl, by omega, hxF, HBL.out, HB.out, HX.out⟩
   ·
    go_simp
    refine hK.out _ _ ?_ (fun hHeld2 => ?_)
    ·
     ((try dsimp only); go_keep)
    clear hK K
    (try simp only [Act.put, zA, zB, zC])
    have hcs := HBL.out.size
    have hcb := HB.out.lt
    obtain ⟨b_x, hb_x⟩ : ∃ b, b = w41.heap.size := ⟨_, rfl⟩
    have hal : Below w41.heap.size w41 (w41.alloc (.cells #[.bool false, .string ⟨#[]⟩] 25)) := (Below.refl _ _).alloc (Nat.le_refl _) _
    have k_x : Blk (w41.alloc (.cells #[.bool false, .string ⟨#[]⟩] 25)) b_x 25 [.bool false, .string ⟨#[]⟩] := by rw [hb_x]; exact Blk.new w41 _ _
    have hge_x : wF.heap.size ≤ b_x := by rw [hb_x]; exact HBL.out.size
    have k_b := HB.out.keep hal
    have tl := HBL.out.trans ((hal).mono HBL.out.size)
    clear HBL HB
    clear b_0 b_f0 b_1 b_f1
    have b_0 := k_b.c 0 rfl
    have b_f0 := k_b.frozen 0
    have b_1 := k_b.c 1 rfl
    have b_f1 := k_b.frozen 1
    have HB := Lib.hid k_b; clear k_b
    have HBL := Lib.hid tl; clear tl
    clear hal
    have x_0 := k_x.c 0 rfl
    have x_f0 := k_x.frozen 0
    have x_1 := k_x.c 1 rfl
    have x_f1 := k_x.frozen 1
    have HX := Lib.hid k_x; clear k_x
    have hxF : wF.heap.size ≤ b_x := by rw [hb_x]; exact hcs
    have hxb : b_b < b_x := by rw [hb_x]; exact hcb
    have hnb1 : ¬ b_x = b_b := by omega
    have hnb2 : ¬ b_b = b_x := by omega
    (try simp only [World.size_drew] at hb_x)
    (try rw [← hb_x])
    have HB_x := Lib.hid hb_x; clear hb_x
    refine wpAnyH_ready (rs := [2]) (by kernel_rfl) (by simp) ?_
    refine (AllReadyH.cons rfl (fun K hK => ?_) AllReadyH.nil)
    ·
     go_simp
     go_at_call 45
     refine (HBITS.out _).mono ?_
     rintro e w42 ⟨hq, rfl⟩
     dsimp only
     have z0 := (hq.cell (p := ⟨b_b, 0, none⟩) HB.out.lt).trans hHeld2.1
     have z1 := (hq.cell (p := ⟨b_b, 1, none⟩) HB.out.lt).trans hHeld2.2
     refine hK.out _ _ ⟨z0, z1⟩ (fun hHeld3 => ?_)
     clear hK K hHeld2 z0 z1
     (try simp only [Act.put, zA, zB, zC])
     have k_b := HB.out.keep hq
     have k_x := HX.out.keep hq
     have tl := HBL.out.trans ((hq).mono HBL.out.size)
     clear HBL HB HX
     clear b_0 b_f0 b_1 b_f1
     have b_0 := k_b.c 0 rfl
     have b_f0 := k_b.frozen 0
     have b_1 := k_b.c 1 rfl
     have b_f1 := k_b.frozen 1
     have HB := Lib.hid k_b; clear k_b
     clear x_0 x_f0 x_1 x_f1
     have x_0 := k_x.c 0 rfl
     have x_f0 := k_x.frozen 0
     have x_1 := k_x.c 1 rfl
     have x_f1 := k_x.frozen 1
     have HX := Lib.hid k_x; clear k_x
     have HBL := Lib.hid tl; clear tl
     clear hq
     refine zT 3 (h := ?_)
     (try simp only [Act.put, zA, zB, zC])
     refine wpAnyH_ready (rs := [4]) (by kernel_rfl) (by simp) ?_
     refine (AllReadyH.cons rfl (fun K hK => ?_) AllReadyH.nil)
     ·
      go_simp
      go_at_call 43
      refine (HPOW.out _).mono ?_
      rintro e w43 ⟨hq, rfl⟩
      dsimp only
      have z0 := (hq.cell (p := ⟨b_b, 0, none⟩) HB.out.lt).trans hHeld3.1
      have z1 := (hq.cell (p := ⟨b_b, 1, none⟩) HB.out.lt).trans hHeld3.2
      refine hK.out _ _ ⟨z0, z1⟩ (fun hHeld4 => ?_)
      clear hK K hHeld3 z0 z1
      (try simp only [Act.put, zA, zB, zC])
      have k_b := HB.out.keep hq
      have k_x := HX.out.keep hq
      have tl := HBL.out.trans ((hq).mono HBL.out.size)
      clear HBL HB HX
      clear b_0 b_f0 b_1 b_f1
      have b_0 := k_b.c 0 rfl
      have b_f0 := k_b.frozen 0
      have b_1 := k_b.c 1 rfl
      have b_f1 := k_b.frozen 1
      have HB := Lib.hid k_b; clear k_b
      clear x_0 x_f0 x_1 x_f1
      have x_0 := k_x.c 0 rfl
      have x_f0 := k_x.frozen 0
      have x_1 := k_x.c 1 rfl
      have x_f1 := k_x.frozen 1
      have HX := Lib.hid k_x; clear k_x
      have HBL := Lib.hid tl; clear tl
      clear hq
      refine zT 5 (h := ?_)
      (try simp only [Act.put, zA, zB, zC])
      refine zT 6 (h := ?_)
      (try simp only [Act.put, zA, zB, zC])
      refine zT 7 (h := ?_)
      (try simp only [Act.put, zA, zB, zC])
      refine zR 9 (h := fun K hK => ?_)
      go_simp
      refine hK.out _ _ ?_ (fun hHeld5 => ?_)
      ·
       ((try dsimp only); go_keep)
      clear hK K
      (try simp only [Act.put, zA, zB, zC])
      refine zT 10 (h := ?_)
      (try simp only [Act.put, zA, zB, zC])
      refine wpAnyH_done (by kernel_rfl) ?_ _
      (try simp only [List.getElem_toArray, List.getElem_cons_zero, List.getElem_cons_succ, Act.put, zA, zB, zC])
      obtain ⟨w44, hw_⟩ : ∃ x, x = ((w43).setCell ⟨b_x, 0, none⟩ (.bool (ineg (B)))).setCell ⟨b_x, 1, none⟩ (.string (imag (B))) := ⟨_, rfl⟩
      (try rw [← hw_])
      have k_b : Blk w44 (b_b) 25 [.bool (ineg (B)), .string (imag (B))] := by rw [hw_]; exact ((HB.out.setOther (a := ⟨b_x, 0, none⟩) (by show b_x ≠ b_b; omega) (.bool (ineg (B)))).setOther (a := ⟨b_x, 1, none⟩) (by show b_x ≠ b_b; omega) (.string (imag (B))))
      have k_x : Blk w44 (b_x) 25 [.bool (ineg (B)), .string (imag (B))] := by rw [hw_]; exact ((HX.out.set 0 (.bool (ineg (B)))).set 1 (.string (imag (B))))
      have tl : Below wF.heap.size wF w44 := by rw [hw_]; exact ((HBL.out.setCell (p := ⟨b_x, 0, none⟩) (by show wF.heap.size ≤ b_x; omega) (.bool (ineg (B)))).setCell (p := ⟨b_x, 1, none⟩) (by show wF.heap.size ≤ b_x; omega) (.string (imag (B))))
      clear HBL hw_ HB HX
      clear x_0 x_f0 x_1 x_f1
      clear b_0 b_f0 b_1 b_f1
      have b_0 := k_b.c 0 rfl
      have b_f0 := k_b.frozen 0
      have b_1 := k_b.c 1 rfl
      have b_f1 := k_b.frozen 1
      have HB := Lib.hid k_b; clear k_b
      have x_0 := k_x.c 0 rfl
      have x_f0 := k_x.frozen 0
      have x_1 := k_x.c 1 rfl
      have x_f1 := k_x.frozen 1
      have HX := Lib.hid k_x; clear k_x
      have HBL := Lib.hid tl; clear tl
      go_wp2_with fail
      go_meet
      exact ⟨b_x, rfl, rfl, by omega, hxF, HBL.out, HB.out, HX.out⟩
  ·
   go_simp
   refine hK.out _ _ ?_ (fun hHeld1 => ?_)
   ·
    ((try dsimp only); go_keep)
   clear hK K
   (try simp only [Act.put, zA, zB, zC])
   have hcs := HBL.out.size
   have hcb := HB.out.lt
   obtain ⟨b_x, hb_x⟩ : ∃ b, b = w6.drew.heap.size := ⟨_, rfl⟩
   have hal : Below w6.drew.heap.size w6.drew (w6.drew.alloc (.cells #[.bool false, .string ⟨#[]⟩] 25)) := (Below.refl _ _).alloc (Nat.le_refl _) _
   have k_x : Blk (w6.drew.alloc (.cells #[.bool false, .string ⟨#[]⟩] 25)) b_x 25 [.bool false, .string ⟨#[]⟩] := by rw [hb_x]; exact Blk.new w6.drew _ _
   have hge_x : wF.heap.size ≤ b_x := by rw [hb_x]; exact HBL.out.size
   have k_b := HB.out.keep hal
   have tl := HBL.out.trans ((hal).mono HBL.out.size)
   clear HBL HB
   clear b_0 b_f0 b_1 b_f1
   have b_0 := k_b.c 0 rfl
   have b_f0 := k_b.frozen 0
   have b_1 := k_b.c 1 rfl
   have b_f1 := k_b.frozen 1
   have HB := Lib.hid k_b; clear k_b
   have HBL := Lib.hid tl; clear tl
   clear hal
   have x_0 := k_x.c 0 rfl
   have x_f0 := k_x.frozen 0
   have x_1 := k_x.c 1 rfl
   have x_f1 := k_x.frozen 1
   have HX := Lib.hid k_x; clear k_x
   have hxF : wF.heap.size ≤ b_x := by rw [hb_x]; exact hcs
   have hxb : b_b < b_x := by rw [hb_x]; exact hcb
   have hnb1 : ¬ b_x = b_b := by omega
   have hnb2 : ¬ b_b = b_x := by omega
   (try simp only [World.size_drew] at hb_x)
   (try rw [← hb_x])
   have HB_x := Lib.hid hb_x; clear hb_x
   refine wpAnyH_ready (rs := [0]) (by kernel_rfl) (by simp) ?_
   refine (AllReadyH.cons rfl (fun K hK => ?_) AllReadyH.nil)
   ·
    go_simp
    go_at_call 44
    refine (HOF2.out _).mono ?_
    rintro e w41 ⟨hq, rfl⟩
    dsimp only
    have z0 := (hq.cell (p := ⟨b_b, 0, none⟩) HB.out.lt).trans hHeld1.1
    have z1 := (hq.cell (p := ⟨b_b, 1, none⟩) HB.out.lt).trans hHeld1.2
    refine hK.out _ _ ⟨z0, z1⟩ (fun hHeld2 => ?_)
    clear hK K hHeld1 z0 z1
    (try simp only [Act.put, zA, zB, zC])
    have k_b := HB.out.keep hq
    have k_x := HX.out.keep hq
    have tl := HBL.out.trans ((hq).mono HBL.out.size)
    clear HBL HB HX
    clear b_0 b_f0 b_1 b_f1
    have b_0 := k_b.c 0 rfl
    have b_f0 := k_b.frozen 0
    have b_1 := k_b.c 1 rfl
    have b_f1 := k_b.frozen 1
    have HB := Lib.hid k_b; clear k_b
    clear x_0 x_f0 x_1 x_f1
    have x_0 := k_x.c 0 rfl
    have x_f0 := k_x.frozen 0
    have x_1 := k_x.c 1 rfl
    have x_f1 := k_x.frozen 1
    have HX := Lib.hid k_x; clear k_x
    have HBL := Lib.hid tl; clear tl
    clear hq
    refine wpAnyH_ready (rs := [2]) (by kernel_rfl) (by simp) ?_
    refine (AllReadyH.cons rfl (fun K hK => ?_) AllReadyH.nil)
    ·
     go_simp
     go_at_call 45
     refine (HBITS.out _).mono ?_
     rintro e w42 ⟨hq, rfl⟩
     dsimp only
     have z0 := (hq.cell (p := ⟨b_b, 0, none⟩) HB.out.lt).trans hHeld2.1
     have z1 := (hq.cell (p := ⟨b_b, 1, none⟩) HB.out.lt).trans hHeld2.2
     refine hK.out _ _ ⟨z0, z1⟩ (fun hHeld3 => ?_)
     clear hK K hHeld2 z0 z1
     (try simp only [Act.put, zA, zB, zC])
     have k_b := HB.out.keep hq
     have k_x := HX.out.keep hq
     have tl := HBL.out.trans ((hq).mono HBL.out.size)
     clear HBL HB HX
     clear b_0 b_f0 b_1 b_f1
     have b_0 := k_b.c 0 rfl
     have b_f0 := k_b.frozen 0
     have b_1 := k_b.c 1 rfl
     have b_f1 := k_b.frozen 1
     have HB := Lib.hid k_b; clear k_b
     clear x_0 x_f0 x_1 x_f1
     have x_0 := k_x.c 0 rfl
     have x_f0 := k_x.frozen 0
     have x_1 := k_x.c 1 rfl
     have x_f1 := k_x.frozen 1
     have HX := Lib.hid k_x; clear k_x
     have HBL := Lib.hid tl; clear tl
     clear hq
     refine zT 3 (h := ?_)
     (try simp only [Act.put, zA, zB, zC])
     refine wpAnyH_ready (rs := [4]) (by kernel_rfl) (by simp) ?_
     refine (AllReadyH.cons rfl (fun K hK => ?_) AllReadyH.nil)
     ·
      go_simp
      go_at_call 43
      refine (HPOW.out _).mono ?_
      rintro e w43 ⟨hq, rfl⟩
      dsimp only
      have z0 := (hq.cell (p := ⟨b_b, 0, none⟩) HB.out.lt).trans hHeld3.1
      have z1 := (hq.cell (p := ⟨b_b, 1, none⟩) HB.out.lt).trans hHeld3.2
      refine hK.out _ _ ⟨z0, z1⟩ (fun hHeld4 => ?_)
      clear hK K hHeld3 z0 z1
      (try simp only [Act.put, zA, zB, zC])
      have k_b := HB.out.keep hq
      have k_x := HX.out.keep hq
      have tl := HBL.out.trans ((hq).mono HBL.out.size)
      clear HBL HB HX
      clear b_0 b_f0 b_1 b_f1
      have b_0 := k_b.c 0 rfl
      have b_f0 := k_b.frozen 0
      have b_1 := k_b.c 1 rfl
      have b_f1 := k_b.frozen 1
      have HB := Lib.hid k_b; clear k_b
      clear x_0 x_f0 x_1 x_f1
      have x_0 := k_x.c 0 rfl
      have x_f0 := k_x.frozen 0
      have x_1 := k_x.c 1 rfl
      have x_f1 := k_x.frozen 1
      have HX := Lib.hid k_x; clear k_x
      have HBL := Lib.hid tl; clear tl
      clear hq
      refine zT 5 (h := ?_)
      (try simp only [Act.put, zA, zB, zC])
      refine zT 6 (h := ?_)
      (try simp only [Act.put, zA, zB, zC])
      refine zT 7 (h := ?_)
      (try simp only [Act.put, zA, zB, zC])
      refine zR 9 (h := fun K hK => ?_)
      go_simp
      refine hK.out _ _ ?_ (fun hHeld5 => ?_)
      ·
       ((try dsimp only); go_keep)
      clear hK K
      (try simp only [Act.put, zA, zB, zC])
      refine zT 10 (h := ?_)
      (try simp only [Act.put, zA, zB, zC])
      refine wpAnyH_done (by kernel_rfl) ?_ _
      (try simp only [List.getElem_toArray, List.getElem_cons_zero, List.getElem_cons_succ, Act.put, zA, zB, zC])
      obtain ⟨w44, hw_⟩ : ∃ x, x = ((w43).setCell ⟨b_x, 0, none⟩ (.bool (ineg (B)))).setCell ⟨b_x, 1, none⟩ (.string (imag (B))) := ⟨_, rfl⟩
      (try rw [← hw_])
      have k_b : Blk w44 (b_b) 25 [.bool (ineg (B)), .string (imag (B))] := by rw [hw_]; exact ((HB.out.setOther (a := ⟨b_x, 0, none⟩) (by show b_x ≠ b_b; omega) (.bool (ineg (B)))).setOther (a := ⟨b_x, 1, none⟩) (by show b_x ≠ b_b; omega) (.string (imag (B))))
      have k_x : Blk w44 (b_x) 25 [.bool (ineg (B)), .string (imag (B))] := by rw [hw_]; exact ((HX.out.set 0 (.bool (ineg (B)))).set 1 (.string (imag (B))))
      have tl : Below wF.heap.size wF w44 := by rw [hw_]; exact ((HBL.out.setCell (p := ⟨b_x, 0, none⟩) (by show wF.heap.size ≤ b_x; omega) (.bool (ineg (B)))).setCell (p := ⟨b_x, 1, none⟩) (by show wF.heap.size ≤ b_x; omega) (.string (imag (B))))
      clear HBL hw_ HB HX
      clear x_0 x_f0 x_1 x_f1
      clear b_0 b_f0 b_1 b_f1
      have b_0 := k_b.c 0 rfl
      have b_f0 := k_b.frozen 0
      have b_1 := k_b.c 1 rfl
      have b_f1 := k_b.frozen 1
      have HB := Lib.hid k_b; clear k_b
      have x_0 := k_x.c 0 rfl
      have x_f0 := k_x.frozen 0
      have x_1 := k_x.c 1 rfl
      have x_f1 := k_x.frozen 1
      have HX := Lib.hid k_x; clear k_x
      have HBL := Lib.hid tl; clear tl
      go_wp2_with fail
      go_meet
      exact ⟨b_x, rfl, rfl, by omega, hxF, HBL.out, HB.out, HX.out⟩
 case rest =>
  obtain ⟨bx, rfl, rfl, hbx, hxF, tl, k_b, k_x⟩ := hcut
  clear HBL HB b_0 b_f0 b_1 b_f1
  have b_0 := k_b.c 0 rfl
  have b_f0 := k_b.frozen 0
  have b_1 := k_b.c 1 rfl
  have b_f1 := k_b.frozen 1
  have HB := Lib.hid k_b; clear k_b
  have x_0 := k_x.c 0 rfl
  have x_f0 := k_x.frozen 0
  have x_1 := k_x.c 1 rfl
  have x_f1 := k_x.frozen 1
  have HX := Lib.hid k_x; clear k_x
  have HBL := Lib.hid tl; clear tl
  go_wp2_with fail
  refine (HQO.out _).mono ?_
  rintro e w101 ⟨hq, rfl⟩
  dsimp only
  have k_b := HB.out.keep hq
  have k_x := HX.out.keep hq
  have tl := HBL.out.trans ((hq).mono HBL.out.size)
  clear HBL HB HX
  clear b_0 b_f0 b_1 b_f1
  have b_0 := k_b.c 0 rfl
  have b_f0 := k_b.frozen 0
  have b_1 := k_b.c 1 rfl
  have b_f1 := k_b.frozen 1
  have HB := Lib.hid k_b; clear k_b
  clear x_0 x_f0 x_1 x_f1
  have x_0 := k_x.c 0 rfl
  have x_f0 := k_x.frozen 0
  have x_1 := k_x.c 1 rfl
  have x_f1 := k_x.frozen 1
  have HX := Lib.hid k_x; clear k_x
  have HBL := Lib.hid tl; clear tl
  clear hq
  have hat := HAT.out _ (HRW.out.below HBL.out (Nat.le_refl _))
  have HAT1 := Lib.hid hat; clear hat
  go_wp2_with fail
  refine (HAT1.out).mono ?_
  rintro e w102 ⟨hq, rfl⟩
  dsimp only
  have k_b := HB.out.keep hq
  have k_x := HX.out.keep hq
  have tl := HBL.out.trans ((hq).mono HBL.out.size)
  clear HBL HB HX
  clear b_0 b_f0 b_1 b_f1
  have b_0 := k_b.c 0 rfl
  have b_f0 := k_b.frozen 0
  have b_1 := k_b.c 1 rfl
  have b_f1 := k_b.frozen 1
  have HB := Lib.hid k_b; clear k_b
  clear x_0 x_f0 x_1 x_f1
  have x_0 := k_x.c 0 rfl
  have x_f0 := k_x.frozen 0
  have x_1 := k_x.c 1 rfl
  have x_f1 := k_x.frozen 1
  have HX := Lib.hid k_x; clear k_x
  have HBL := Lib.hid tl; clear tl
  clear hq
  have hlt_b := HB.out.lt
  have hlt_x := HX.out.lt
  obtain ⟨b_v, hb_v⟩ : ∃ b, b = w102.heap.size := ⟨_, rfl⟩
  have hal : Below w102.heap.size w102 (w102.alloc (.cells #[.bool (ineg (E).num), .string (imag (E).num), .bool (ineg ((E).den : Int)), .string (imag ((E).den : Int))] 27)) := (Below.refl _ _).alloc (Nat.le_refl _) _
  have k_v : Blk (w102.alloc (.cells #[.bool (ineg (E).num), .string (imag (E).num), .bool (ineg ((E).den : Int)), .string (imag ((E).den : Int))] 27)) b_v 27 [.bool (ineg (E).num), .string (imag (E).num), .bool (ineg ((E).den : Int)), .string (imag ((E).den : Int))] := by rw [hb_v]; exact Blk.new w102 _ _
  have hge_v : wF.heap.size ≤ b_v := by rw [hb_v]; exact HBL.out.size
  have far_b_v : b_b < b_v := by rw [hb_v]; exact hlt_b
  clear hlt_b
  have far_x_v : bx < b_v := by rw [hb_v]; exact hlt_x
  clear hlt_x
  have k_b := HB.out.keep hal
  have k_x := HX.out.keep hal
  have tl := HBL.out.trans ((hal).mono HBL.out.size)
  clear HBL HB HX
  clear b_0 b_f0 b_1 b_f1
  have b_0 := k_b.c 0 rfl
  have b_f0 := k_b.frozen 0
  have b_1 := k_b.c 1 rfl
  have b_f1 := k_b.frozen 1
  have HB := Lib.hid k_b; clear k_b
  clear x_0 x_f0 x_1 x_f1
  have x_0 := k_x.c 0 rfl
  have x_f0 := k_x.frozen 0
  have x_1 := k_x.c 1 rfl
  have x_f1 := k_x.frozen 1
  have HX := Lib.hid k_x; clear k_x
  have HBL := Lib.hid tl; clear tl
  clear hal
  have v_0 := k_v.c 0 rfl
  have v_f0 := k_v.frozen 0
  have v_1 := k_v.c 1 rfl
  have v_f1 := k_v.frozen 1
  have v_2 := k_v.c 2 rfl
  have v_f2 := k_v.frozen 2
  have v_3 := k_v.c 3 rfl
  have v_f3 := k_v.frozen 3
  have HV := Lib.hid k_v; clear k_v
  go_wp2_with fail
  (try rw [← hb_v])
  have HB_v := Lib.hid hb_v; clear hb_v
  refine (HRT.out _).mono ?_
  rintro e w103 ⟨hq, rfl⟩
  dsimp only
  have k_b := HB.out.keep hq
  have k_x := HX.out.keep hq
  have k_v := HV.out.keep hq
  have tl := HBL.out.trans ((hq).mono HBL.out.size)
  clear HBL HB HX HV
  clear b_0 b_f0 b_1 b_f1
  have b_0 := k_b.c 0 rfl
  have b_f0 := k_b.frozen 0
  have b_1 := k_b.c 1 rfl
  have b_f1 := k_b.frozen 1
  have HB := Lib.hid k_b; clear k_b
  clear x_0 x_f0 x_1 x_f1
  have x_0 := k_x.c 0 rfl
  have x_f0 := k_x.frozen 0
  have x_1 := k_x.c 1 rfl
  have x_f1 := k_x.frozen 1
  have HX := Lib.hid k_x; clear k_x
  clear v_0 v_f0 v_1 v_f1 v_2 v_f2 v_3 v_f3
  have v_0 := k_v.c 0 rfl
  have v_f0 := k_v.frozen 0
  have v_1 := k_v.c 1 rfl
  have v_f1 := k_v.frozen 1
  have v_2 := k_v.c 2 rfl
  have v_f2 := k_v.frozen 2
  have v_3 := k_v.c 3 rfl
  have v_f3 := k_v.frozen 3
  have HV := Lib.hid k_v; clear k_v
  have HBL := Lib.hid tl; clear tl
  clear hq
  have hlt_b := HB.out.lt
  have hlt_x := HX.out.lt
  have hlt_v := HV.out.lt
  obtain ⟨b_o, hb_o⟩ : ∃ b, b = w103.heap.size := ⟨_, rfl⟩
  have hal : Below w103.heap.size w103 (w103.alloc (.cells #[.bool (ineg (O).num), .string (imag (O).num), .bool (ineg ((O).den : Int)), .string (imag ((O).den : Int))] 27)) := (Below.refl _ _).alloc (Nat.le_refl _) _
  have k_o : Blk (w103.alloc (.cells #[.bool (ineg (O).num), .string (imag (O).num), .bool (ineg ((O).den : Int)), .string (imag ((O).den : Int))] 27)) b_o 27 [.bool (ineg (O).num), .string (imag (O).num), .bool (ineg ((O).den : Int)), .string (imag ((O).den : Int))] := by rw [hb_o]; exact Blk.new w103 _ _
  have hge_o : wF.heap.size ≤ b_o := by rw [hb_o]; exact HBL.out.size
  have far_b_o : b_b < b_o := by rw [hb_o]; exact hlt_b
  clear hlt_b
  have far_x_o : bx < b_o := by rw [hb_o]; exact hlt_x
  clear hlt_x
  have far_v_o : b_v < b_o := by rw [hb_o]; exact hlt_v
  clear hlt_v
  have k_b := HB.out.keep hal
  have k_x := HX.out.keep hal
  have k_v := HV.out.keep hal
  have tl := HBL.out.trans ((hal).mono HBL.out.size)
  clear HBL HB HX HV
  clear b_0 b_f0 b_1 b_f1
  have b_0 := k_b.c 0 rfl
  have b_f0 := k_b.frozen 0
  have b_1 := k_b.c 1 rfl
  have b_f1 := k_b.frozen 1
  have HB := Lib.hid k_b; clear k_b
  clear x_0 x_f0 x_1 x_f1
  have x_0 := k_x.c 0 rfl
  have x_f0 := k_x.frozen 0
  have x_1 := k_x.c 1 rfl
  have x_f1 := k_x.frozen 1
  have HX := Lib.hid k_x; clear k_x
  clear v_0 v_f0 v_1 v_f1 v_2 v_f2 v_3 v_f3
  have v_0 := k_v.c 0 rfl
  have v_f0 := k_v.frozen 0
  have v_1 := k_v.c 1 rfl
  have v_f1 := k_v.frozen 1
  have v_2 := k_v.c 2 rfl
  have v_f2 := k_v.frozen 2
  have v_3 := k_v.c 3 rfl
  have v_f3 := k_v.frozen 3
  have HV := Lib.hid k_v; clear k_v
  have HBL := Lib.hid tl; clear tl
  clear hal
  have o_0 := k_o.c 0 rfl
  have o_f0 := k_o.frozen 0
  have o_1 := k_o.c 1 rfl
  have o_f1 := k_o.frozen 1
  have o_2 := k_o.c 2 rfl
  have o_f2 := k_o.frozen 2
  have o_3 := k_o.c 3 rfl
  have o_f3 := k_o.frozen 3
  have HO := Lib.hid k_o; clear k_o
  go_wp2_with fail
  (try rw [← hb_o])
  have HB_o := Lib.hid hb_o; clear hb_o
  have p0 := (HBL.out.cell (p := ⟨b1, o1 + j0 * 2, none⟩) hb1).trans p0
  have p1 := (HBL.out.cell (p := ⟨b1, o1 + j0 * 2 + 1, none⟩) hb1).trans p1
  have HB := Lib.hid HB.out.drew
  have HX := Lib.hid HX.out.drew
  have HV := Lib.hid HV.out.drew
  have HO := Lib.hid HO.out.drew
  have HBL := Lib.hid HBL.out.drew
  refine wp_region_held_drew (S := fun w' => w'.cell? ⟨b_b, 0, none⟩ = some (.bool (ineg (B))) ∧ w'.cell? ⟨b_b, 1, none⟩ = some (.string (imag (B))) ∧ w'.cell? ⟨bx, 0, none⟩ = some (.bool (ineg (B))) ∧ w'.cell? ⟨bx, 1, none⟩ = some (.string (imag (B))) ∧ w'.cell? ⟨b_v, 0, none⟩ = some (.bool (ineg (E).num)) ∧ w'.cell? ⟨b_v, 1, none⟩ = some (.string (imag (E).num)) ∧ w'.cell? ⟨b_v, 2, none⟩ = some (.bool (ineg ((E).den : Int))) ∧ w'.cell? ⟨b_v, 3, none⟩ = some (.string (imag ((E).den : Int))) ∧ w'.cell? ⟨b_o, 0, none⟩ = some (.bool (ineg (O).num)) ∧ w'.cell? ⟨b_o, 1, none⟩ = some (.string (imag (O).num)) ∧ w'.cell? ⟨b_o, 2, none⟩ = some (.bool (ineg ((O).den : Int))) ∧ w'.cell? ⟨b_o, 3, none⟩ = some (.string (imag ((O).den : Int))) ∧ w'.cell? ⟨b1, o1 + j0 * 2, none⟩ = some (.bool (ineg (y))) ∧ w'.cell? ⟨b1, o1 + j0 * 2 + 1, none⟩ = some (.string (imag (y)))) (by kernel_rfl) ?_ (fun hHeld0 => ?_)
  ·
   go_keep
  refine zT 0 (h := ?_)
  (try simp only [Act.put, zA, zB, zC])
  refine zT 1 (h := ?_)
  (try simp only [Act.put, zA, zB, zC])
  refine zT 2 (h := ?_)
  (try simp only [Act.put, zA, zB, zC])
  refine zR 3 (h := fun K hK => ?_)
  go_simp
  refine hK.out _ _ ?_ (fun hHeld1 => ?_)
  ·
   ((try dsimp only); go_keep)
  clear hK K
  (try simp only [Act.put, zA, zB, zC])
  refine zT 4 (h := ?_)
  (try simp only [Act.put, zA, zB, zC])
  refine zT 5 (h := ?_)
  (try simp only [Act.put, zA, zB, zC])
  refine zT 6 (h := ?_)
  (try simp only [Act.put, zA, zB, zC])
  refine zT 7 (h := ?_)
  (try simp only [Act.put, zA, zB, zC])
  refine zT 8 (h := ?_)
  (try simp only [Act.put, zA, zB, zC])
  refine zT 9 (h := ?_)
  (try simp only [Act.put, zA, zB, zC])
  refine zT 10 (h := ?_)
  (try simp only [Act.put, zA, zB, zC])
  refine zT 11 (h := ?_)
  (try simp only [Act.put, zA, zB, zC])
  refine zT 12 (h := ?_)
  (try simp only [Act.put, zA, zB, zC])
  refine zT 14 (h := ?_)
  (try simp only [Act.put, zA, zB, zC])
  refine zT 15 (h := ?_)
  (try simp only [Act.put, zA, zB, zC])
  refine zT 16 (h := ?_)
  (try simp only [Act.put, zA, zB, zC])
  refine zT 17 (h := ?_)
  (try simp only [Act.put, zA, zB, zC])
  refine zT 18 (h := ?_)
  (try simp only [Act.put, zA, zB, zC])
  refine zT 19 (h := ?_)
  (try simp only [Act.put, zA, zB, zC])
  refine zT 20 (h := ?_)
  (try simp only [Act.put, zA, zB, zC])
  refine zR 13 (h := fun K hK => ?_)
  rw [if_pos (by kernel_rfl)]
  go_simp
  go_at_call 31
  refine (HCM.out _).mono ?_
  rintro e w104 ⟨hq, rfl⟩
  dsimp only
  have z0 := (hq.cell (p := ⟨b_b, 0, none⟩) HB.out.lt).trans hHeld1.1
  have z1 := (hq.cell (p := ⟨b_b, 1, none⟩) HB.out.lt).trans hHeld1.2.1
  have z2 := (hq.cell (p := ⟨bx, 0, none⟩) HX.out.lt).trans hHeld1.2.2.1
  have z3 := (hq.cell (p := ⟨bx, 1, none⟩) HX.out.lt).trans hHeld1.2.2.2.1
  have z4 := (hq.cell (p := ⟨b_v, 0, none⟩) HV.out.lt).trans hHeld1.2.2.2.2.1
  have z5 := (hq.cell (p := ⟨b_v, 1, none⟩) HV.out.lt).trans hHeld1.2.2.2.2.2.1
  have z6 := (hq.cell (p := ⟨b_v, 2, none⟩) HV.out.lt).trans hHeld1.2.2.2.2.2.2.1
  have z7 := (hq.cell (p := ⟨b_v, 3, none⟩) HV.out.lt).trans hHeld1.2.2.2.2.2.2.2.1
  have z8 := (hq.cell (p := ⟨b_o, 0, none⟩) HO.out.lt).trans hHeld1.2.2.2.2.2.2.2.2.1
  have z9 := (hq.cell (p := ⟨b_o, 1, none⟩) HO.out.lt).trans hHeld1.2.2.2.2.2.2.2.2.2.1
  have z10 := (hq.cell (p := ⟨b_o, 2, none⟩) HO.out.lt).trans hHeld1.2.2.2.2.2.2.2.2.2.2.1
  have z11 := (hq.cell (p := ⟨b_o, 3, none⟩) HO.out.lt).trans hHeld1.2.2.2.2.2.2.2.2.2.2.2.1
  have z12 := (hq.cell (p := ⟨b1, o1 + j0 * 2, none⟩) (Nat.lt_of_lt_of_le hb1 HBL.out.size)).trans hHeld1.2.2.2.2.2.2.2.2.2.2.2.2.1
  have z13 := (hq.cell (p := ⟨b1, o1 + j0 * 2 + 1, none⟩) (Nat.lt_of_lt_of_le hb1 HBL.out.size)).trans hHeld1.2.2.2.2.2.2.2.2.2.2.2.2.2
  refine hK.out _ _ ⟨z0, z1, z2, z3, z4, z5, z6, z7, z8, z9, z10, z11, z12, z13⟩ (fun hHeld2 => ?_)
  clear hK K hHeld1 z0 z1 z2 z3 z4 z5 z6 z7 z8 z9 z10 z11 z12 z13
  (try simp only [Act.put, zA, zB, zC])
  have k_b := HB.out.keep hq
  have k_x := HX.out.keep hq
  have k_v := HV.out.keep hq
  have k_o := HO.out.keep hq
  have tl := HBL.out.trans ((hq).mono HBL.out.size)
  clear HBL HB HX HV HO
  clear b_0 b_f0 b_1 b_f1
  have b_0 := k_b.c 0 rfl
  have b_f0 := k_b.frozen 0
  have b_1 := k_b.c 1 rfl
  have b_f1 := k_b.frozen 1
  have HB := Lib.hid k_b; clear k_b
  clear x_0 x_f0 x_1 x_f1
  have x_0 := k_x.c 0 rfl
  have x_f0 := k_x.frozen 0
  have x_1 := k_x.c 1 rfl
  have x_f1 := k_x.frozen 1
  have HX := Lib.hid k_x; clear k_x
  clear v_0 v_f0 v_1 v_f1 v_2 v_f2 v_3 v_f3
  have v_0 := k_v.c 0 rfl
  have v_f0 := k_v.frozen 0
  have v_1 := k_v.c 1 rfl
  have v_f1 := k_v.frozen 1
  have v_2 := k_v.c 2 rfl
  have v_f2 := k_v.frozen 2
  have v_3 := k_v.c 3 rfl
  have v_f3 := k_v.frozen 3
  have HV := Lib.hid k_v; clear k_v
  clear o_0 o_f0 o_1 o_f1 o_2 o_f2 o_3 o_f3
  have o_0 := k_o.c 0 rfl
  have o_f0 := k_o.frozen 0
  have o_1 := k_o.c 1 rfl
  have o_f1 := k_o.frozen 1
  have o_2 := k_o.c 2 rfl
  have o_f2 := k_o.frozen 2
  have o_3 := k_o.c 3 rfl
  have o_f3 := k_o.frozen 3
  have HO := Lib.hid k_o; clear k_o
  have HBL := Lib.hid tl; clear tl
  clear hq
  refine zR 21 (h := fun K hK => ?_)
  rw [if_pos (by kernel_rfl)]
  go_simp
  go_at_call 47
  refine (HIC.out _).mono ?_
  rintro e w105 ⟨hq, rfl⟩
  dsimp only
  have z0 := (hq.cell (p := ⟨b_b, 0, none⟩) HB.out.lt).trans hHeld2.1
  have z1 := (hq.cell (p := ⟨b_b, 1, none⟩) HB.out.lt).trans hHeld2.2.1
  have z2 := (hq.cell (p := ⟨bx, 0, none⟩) HX.out.lt).trans hHeld2.2.2.1
  have z3 := (hq.cell (p := ⟨bx, 1, none⟩) HX.out.lt).trans hHeld2.2.2.2.1
  have z4 := (hq.cell (p := ⟨b_v, 0, none⟩) HV.out.lt).trans hHeld2.2.2.2.2.1
  have z5 := (hq.cell (p := ⟨b_v, 1, none⟩) HV.out.lt).trans hHeld2.2.2.2.2.2.1
  have z6 := (hq.cell (p := ⟨b_v, 2, none⟩) HV.out.lt).trans hHeld2.2.2.2.2.2.2.1
  have z7 := (hq.cell (p := ⟨b_v, 3, none⟩) HV.out.lt).trans hHeld2.2.2.2.2.2.2.2.1
  have z8 := (hq.cell (p := ⟨b_o, 0, none⟩) HO.out.lt).trans hHeld2.2.2.2.2.2.2.2.2.1
  have z9 := (hq.cell (p := ⟨b_o, 1, none⟩) HO.out.lt).trans hHeld2.2.2.2.2.2.2.2.2.2.1
  have z10 := (hq.cell (p := ⟨b_o, 2, none⟩) HO.out.lt).trans hHeld2.2.2.2.2.2.2.2.2.2.2.1
  have z11 := (hq.cell (p := ⟨b_o, 3, none⟩) HO.out.lt).trans hHeld2.2.2.2.2.2.2.2.2.2.2.2.1
  have z12 := (hq.cell (p := ⟨b1, o1 + j0 * 2, none⟩) (Nat.lt_of_lt_of_le hb1 HBL.out.size)).trans hHeld2.2.2.2.2.2.2.2.2.2.2.2.2.1
  have z13 := (hq.cell (p := ⟨b1, o1 + j0 * 2 + 1, none⟩) (Nat.lt_of_lt_of_le hb1 HBL.out.size)).trans hHeld2.2.2.2.2.2.2.2.2.2.2.2.2.2
  refine hK.out _ _ ⟨z0, z1, z2, z3, z4, z5, z6, z7, z8, z9, z10, z11, z12, z13⟩ (fun hHeld3 => ?_)
  clear hK K hHeld2 z0 z1 z2 z3 z4 z5 z6 z7 z8 z9 z10 z11 z12 z13
  (try simp only [Act.put, zA, zB, zC])
  have k_b := HB.out.keep hq
  have k_x := HX.out.keep hq
  have k_v := HV.out.keep hq
  have k_o := HO.out.keep hq
  have tl := HBL.out.trans ((hq).mono HBL.out.size)
  clear HBL HB HX HV HO
  clear b_0 b_f0 b_1 b_f1
  have b_0 := k_b.c 0 rfl
  have b_f0 := k_b.frozen 0
  have b_1 := k_b.c 1 rfl
  have b_f1 := k_b.frozen 1
  have HB := Lib.hid k_b; clear k_b
  clear x_0 x_f0 x_1 x_f1
  have x_0 := k_x.c 0 rfl
  have x_f0 := k_x.frozen 0
  have x_1 := k_x.c 1 rfl
  have x_f1 := k_x.frozen 1
  have HX := Lib.hid k_x; clear k_x
  clear v_0 v_f0 v_1 v_f1 v_2 v_f2 v_3 v_f3
  have v_0 := k_v.c 0 rfl
  have v_f0 := k_v.frozen 0
  have v_1 := k_v.c 1 rfl
  have v_f1 := k_v.frozen 1
  have v_2 := k_v.c 2 rfl
  have v_f2 := k_v.frozen 2
  have v_3 := k_v.c 3 rfl
  have v_f3 := k_v.frozen 3
  have HV := Lib.hid k_v; clear k_v
  clear o_0 o_f0 o_1 o_f1 o_2 o_f2 o_3 o_f3
  have o_0 := k_o.c 0 rfl
  have o_f0 := k_o.frozen 0
  have o_1 := k_o.c 1 rfl
  have o_f1 := k_o.frozen 1
  have o_2 := k_o.c 2 rfl
  have o_f2 := k_o.frozen 2
  have o_3 := k_o.c 3 rfl
  have o_f3 := k_o.frozen 3
  have HO := Lib.hid k_o; clear k_o
  have HBL := Lib.hid tl; clear tl
  clear hq
  refine zT 22 (h := ?_)
  (try simp only [Act.put, zA, zB, zC])
  refine zT 23 (h := ?_)
  (try simp only [Act.put, zA, zB, zC])
  refine zT 24 (h := ?_)
  (try simp only [Act.put, zA, zB, zC])
  refine zT 25 (h := ?_)
  (try simp only [Act.put, zA, zB, zC])
  refine zT 26 (h := ?_)
  (try simp only [Act.put, zA, zB, zC])
  refine zR 27 (h := fun K hK => ?_)
  rw [if_pos (by kernel_rfl)]
  go_simp
  go_at_call 31
  refine (HCM.out _).mono ?_
  rintro e w106 ⟨hq, rfl⟩
  dsimp only
  have z0 := (hq.cell (p := ⟨b_b, 0, none⟩) HB.out.lt).trans hHeld3.1
  have z1 := (hq.cell (p := ⟨b_b, 1, none⟩) HB.out.lt).trans hHeld3.2.1
  have z2 := (hq.cell (p := ⟨bx, 0, none⟩) HX.out.lt).trans hHeld3.2.2.1
  have z3 := (hq.cell (p := ⟨bx, 1, none⟩) HX.out.lt).trans hHeld3.2.2.2.1
  have z4 := (hq.cell (p := ⟨b_v, 0, none⟩) HV.out.lt).trans hHeld3.2.2.2.2.1
  have z5 := (hq.cell (p := ⟨b_v, 1, none⟩) HV.out.lt).trans hHeld3.2.2.2.2.2.1
  have z6 := (hq.cell (p := ⟨b_v, 2, none⟩) HV.out.lt).trans hHeld3.2.2.2.2.2.2.1
  have z7 := (hq.cell (p := ⟨b_v, 3, none⟩) HV.out.lt).trans hHeld3.2.2.2.2.2.2.2.1
  have z8 := (hq.cell (p := ⟨b_o, 0, none⟩) HO.out.lt).trans hHeld3.2.2.2.2.2.2.2.2.1
  have z9 := (hq.cell (p := ⟨b_o, 1, none⟩) HO.out.lt).trans hHeld3.2.2.2.2.2.2.2.2.2.1
  have z10 := (hq.cell (p := ⟨b_o, 2, none⟩) HO.out.lt).trans hHeld3.2.2.2.2.2.2.2.2.2.2.1
  have z11 := (hq.cell (p := ⟨b_o, 3, none⟩) HO.out.lt).trans hHeld3.2.2.2.2.2.2.2.2.2.2.2.1
  have z12 := (hq.cell (p := ⟨b1, o1 + j0 * 2, none⟩) (Nat.lt_of_lt_of_le hb1 HBL.out.size)).trans hHeld3.2.2.2.2.2.2.2.2.2.2.2.2.1
  have z13 := (hq.cell (p := ⟨b1, o1 + j0 * 2 + 1, none⟩) (Nat.lt_of_lt_of_le hb1 HBL.out.size)).trans hHeld3.2.2.2.2.2.2.2.2.2.2.2.2.2
  refine hK.out _ _ ⟨z0, z1, z2, z3, z4, z5, z6, z7, z8, z9, z10, z11, z12, z13⟩ (fun hHeld4 => ?_)
  clear hK K hHeld3 z0 z1 z2 z3 z4 z5 z6 z7 z8 z9 z10 z11 z12 z13
  (try simp only [Act.put, zA, zB, zC])
  have k_b := HB.out.keep hq
  have k_x := HX.out.keep hq
  have k_v := HV.out.keep hq
  have k_o := HO.out.keep hq
  have tl := HBL.out.trans ((hq).mono HBL.out.size)
  clear HBL HB HX HV HO
  clear b_0 b_f0 b_1 b_f1
  have b_0 := k_b.c 0 rfl
  have b_f0 := k_b.frozen 0
  have b_1 := k_b.c 1 rfl
  have b_f1 := k_b.frozen 1
  have HB := Lib.hid k_b; clear k_b
  clear x_0 x_f0 x_1 x_f1
  have x_0 := k_x.c 0 rfl
  have x_f0 := k_x.frozen 0
  have x_1 := k_x.c 1 rfl
  have x_f1 := k_x.frozen 1
  have HX := Lib.hid k_x; clear k_x
  clear v_0 v_f0 v_1 v_f1 v_2 v_f2 v_3 v_f3
  have v_0 := k_v.c 0 rfl
  have v_f0 := k_v.frozen 0
  have v_1 := k_v.c 1 rfl
  have v_f1 := k_v.frozen 1
  have v_2 := k_v.c 2 rfl
  have v_f2 := k_v.frozen 2
  have v_3 := k_v.c 3 rfl
  have v_f3 := k_v.frozen 3
  have HV := Lib.hid k_v; clear k_v
  clear o_0 o_f0 o_1 o_f1 o_2 o_f2 o_3 o_f3
  have o_0 := k_o.c 0 rfl
  have o_f0 := k_o.frozen 0
  have o_1 := k_o.c 1 rfl
  have o_f1 := k_o.frozen 1
  have o_2 := k_o.c 2 rfl
  have o_f2 := k_o.frozen 2
  have o_3 := k_o.c 3 rfl
  have o_f3 := k_o.frozen 3
  have HO := Lib.hid k_o; clear k_o
  have HBL := Lib.hid tl; clear tl
  clear hq
  refine zT 28 (h := ?_)
  (try simp only [Act.put, zA, zB, zC])
  refine zT 29 (h := ?_)
  (try simp only [Act.put, zA, zB, zC])
  refine zT 30 (h := ?_)
  (try simp only [Act.put, zA, zB, zC])
  refine zR 31 (h := fun K hK => ?_)
  rw [if_pos (by kernel_rfl)]
  go_simp
  go_at_call 15
  refine (awake5_true _).mono ?_
  rintro e w107 ⟨hq, rfl⟩
  dsimp only
  have z0 := (hq.cell (p := ⟨b_b, 0, none⟩) HB.out.lt).trans hHeld4.1
  have z1 := (hq.cell (p := ⟨b_b, 1, none⟩) HB.out.lt).trans hHeld4.2.1
  have z2 := (hq.cell (p := ⟨bx, 0, none⟩) HX.out.lt).trans hHeld4.2.2.1
  have z3 := (hq.cell (p := ⟨bx, 1, none⟩) HX.out.lt).trans hHeld4.2.2.2.1
  have z4 := (hq.cell (p := ⟨b_v, 0, none⟩) HV.out.lt).trans hHeld4.2.2.2.2.1
  have z5 := (hq.cell (p := ⟨b_v, 1, none⟩) HV.out.lt).trans hHeld4.2.2.2.2.2.1
  have z6 := (hq.cell (p := ⟨b_v, 2, none⟩) HV.out.lt).trans hHeld4.2.2.2.2.2.2.1
  have z7 := (hq.cell (p := ⟨b_v, 3, none⟩) HV.out.lt).trans hHeld4.2.2.2.2.2.2.2.1
  have z8 := (hq.cell (p := ⟨b_o, 0, none⟩) HO.out.lt).trans hHeld4.2.2.2.2.2.2.2.2.1
  have z9 := (hq.cell (p := ⟨b_o, 1, none⟩) HO.out.lt).trans hHeld4.2.2.2.2.2.2.2.2.2.1
  have z10 := (hq.cell (p := ⟨b_o, 2, none⟩) HO.out.lt).trans hHeld4.2.2.2.2.2.2.2.2.2.2.1
  have z11 := (hq.cell (p := ⟨b_o, 3, none⟩) HO.out.lt).trans hHeld4.2.2.2.2.2.2.2.2.2.2.2.1
  have z12 := (hq.cell (p := ⟨b1, o1 + j0 * 2, none⟩) (Nat.lt_of_lt_of_le hb1 HBL.out.size)).trans hHeld4.2.2.2.2.2.2.2.2.2.2.2.2.1
  have z13 := (hq.cell (p := ⟨b1, o1 + j0 * 2 + 1, none⟩) (Nat.lt_of_lt_of_le hb1 HBL.out.size)).trans hHeld4.2.2.2.2.2.2.2.2.2.2.2.2.2
  refine hK.out _ _ ⟨z0, z1, z2, z3, z4, z5, z6, z7, z8, z9, z10, z11, z12, z13⟩ (fun hHeld5 => ?_)
  clear hK K hHeld4 z0 z1 z2 z3 z4 z5 z6 z7 z8 z9 z10 z11 z12 z13
  (try simp only [Act.put, zA, zB, zC])
  have k_b := HB.out.keep hq
  have k_x := HX.out.keep hq
  have k_v := HV.out.keep hq
  have k_o := HO.out.keep hq
  have tl := HBL.out.trans ((hq).mono HBL.out.size)
  clear HBL HB HX HV HO
  clear b_0 b_f0 b_1 b_f1
  have b_0 := k_b.c 0 rfl
  have b_f0 := k_b.frozen 0
  have b_1 := k_b.c 1 rfl
  have b_f1 := k_b.frozen 1
  have HB := Lib.hid k_b; clear k_b
  clear x_0 x_f0 x_1 x_f1
  have x_0 := k_x.c 0 rfl
  have x_f0 := k_x.frozen 0
  have x_1 := k_x.c 1 rfl
  have x_f1 := k_x.frozen 1
  have HX := Lib.hid k_x; clear k_x
  clear v_0 v_f0 v_1 v_f1 v_2 v_f2 v_3 v_f3
  have v_0 := k_v.c 0 rfl
  have v_f0 := k_v.frozen 0
  have v_1 := k_v.c 1 rfl
  have v_f1 := k_v.frozen 1
  have v_2 := k_v.c 2 rfl
  have v_f2 := k_v.frozen 2
  have v_3 := k_v.c 3 rfl
  have v_f3 := k_v.frozen 3
  have HV := Lib.hid k_v; clear k_v
  clear o_0 o_f0 o_1 o_f1 o_2 o_f2 o_3 o_f3
  have o_0 := k_o.c 0 rfl
  have o_f0 := k_o.frozen 0
  have o_1 := k_o.c 1 rfl
  have o_f1 := k_o.frozen 1
  have o_2 := k_o.c 2 rfl
  have o_f2 := k_o.frozen 2
  have o_3 := k_o.c 3 rfl
  have o_f3 := k_o.frozen 3
  have HO := Lib.hid k_o; clear k_o
  have HBL := Lib.hid tl; clear tl
  clear hq
  refine zT 32 (h := ?_)
  (try simp only [Act.put, zA, zB, zC])
  refine zT 33 (h := ?_)
  (try simp only [Act.put, zA, zB, zC])
  refine wpAnyH_done (by kernel_rfl) ?_ _
  (try simp only [List.getElem_toArray, List.getElem_cons_zero, List.getElem_cons_succ, Act.put, zA, zB, zC])
  go_wp2_with fail
  go_ret
  exact ⟨HF0.out.trans (HBL.out.mono HF0.out.size), rfl⟩
end Go.Proofs.YtjpalbonclgflaaGreat
