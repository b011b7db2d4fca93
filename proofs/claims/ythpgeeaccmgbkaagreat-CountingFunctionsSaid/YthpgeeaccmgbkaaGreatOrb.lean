/- counting.Orbits, given what the quotient is. -/
import Derived.Test.YthpgeeaccmgbkaaGreatPart13
import Derived.Test.YthpgeeaccmgbkaaGreatPart7
import Derived.Test.YthpgeeaccmgbkaaGreatProd
namespace Go.Proofs.YthpgeeaccmgbkaaGreat
open Go.RowKit Go.Shelf

attribute [local go_sem] Oper.semAt_some

set_option maxRecDepth 100000 in
set_option maxHeartbeats 8000000 in
theorem orbits_in (L : Int) (S N : Nat) (es : List E3) (v : Value) (q r : Int) (w : World) (hr : Row w v es.length (ce es)) (hok : okEs es) (hc : chk L (S : Int) es = 0) (hS : S ≤ 32) (hN1 : 1 ≤ N) (hN : N ≤ 4096)
  (hdiv : ∀ w', Calls Tryz.prog 46 #[IntV (oS (clN es S) (fun x : Nat × Int => x) (divL N N)), IntV (N : Int)] w' (Ret w' (.tuple #[IntV q, IntV r, .int .i64 0]))) :
  CallsIn Fence.wide 8 Tryz.prog 16 #[.agg #[.int .i64 L, .int .i64 (S : Int), v], .int .i64 (N : Int)] w (Ret w (.tuple #[IntV q, .int .i64 0])) := by
 obtain ⟨va, vc, rfl, hle⟩ := hr.slice
 have hca := chk_all hc
 have hlen := hca.2.2.2.1
 have hcc := fun w' h => ccheck_lo L (S : Int) N 1 es (.slice va es.length vc) w' h hok hc hN1 hN
 have hcl := fun (d : Nat) (hd : d ≤ N) w' h => closed_all L S d es (.slice va es.length vc) w' h hS hlen (chk_inS hc) (by omega)
 have hfs : ∀ d, d ≤ N → sm (2 * N + 2) (clN es S d) := fun d hd => clN_sm hlen hS hd
 have hof := fun (s : Int) (h1 : -1 ≤ s) (h2 : s ≤ 1) w' => iof_any s w' (by omega) (by omega)
 have hofN := fun w' => iof_any (N : Int) w' (by omega) (by omega)
 obtain ⟨LL, hLL⟩ := divL_in N
 obtain ⟨m, hm⟩ : ∃ m, m = es.length := ⟨_, rfl⟩
 rw [← hm] at hr hle hcc hcl
 have s0 := ((Below.refl w.heap.size w).alloc (Nat.le_refl _) (.cells #[.int .i64 L, .int .i64 (S : Int), .slice va m vc] 24)).alloc (by simp) (.cells #[.bool false, .string ⟨#[]⟩] 28)
 have bg := (Blk.new w 24 [.int .i64 L, .int .i64 (S : Int), .slice va m vc]).alloc (.cells #[.bool false, .string ⟨#[]⟩] 28)
 have br := Blk.new (w.alloc (.cells #[.int .i64 L, .int .i64 (S : Int), .slice va m vc] 24)) 28 [.bool false, .string ⟨#[]⟩]
 simp only [World.size_alloc] at br
 have hr0 := hr.below s0 (Nat.le_refl _)
 obtain ⟨w1, hw1⟩ : ∃ w1, (w.alloc (.cells #[.int .i64 L, .int .i64 (S : Int), .slice va m vc] 24)).alloc (.cells #[.bool false, .string ⟨#[]⟩] 28) = w1 := ⟨_, rfl⟩
 have hsz1 : w1.heap.size = w.heap.size + 2 := by rw [← hw1]; simp
 rw [hw1] at s0 bg br hr0
 have x0 := bg.cell (j := 0) rfl
 have x1 := bg.cell (j := 1) rfl
 have x2 := bg.cell (j := 2) rfl
 have t3 : ¬ (32 : Int) < (S : Int) := by omega
 have hcw := hcc w1 hr0
 rw [show ((1 : Nat) : Int) = 1 from rfl] at hcw
 have HCC := Lib.hid hcw; clear hcw
 have HSZ1 := Lib.hid hsz1; clear hsz1
 have S0 := Lib.hid s0; clear s0
 have BG := Lib.hid bg; clear bg
 have BR := Lib.hid br; clear br
 have HR0 := Lib.hid hr0; clear hr0
 have HLL := Lib.hid hLL; clear hLL
 have HDIV := Lib.hid hdiv; clear hdiv
 rw [← hm]
 have HM := Lib.hid hm; clear hm
 refine callsIn_of_wp_marks Tryz.func16 rfl trivial ?_ rfl
 simp only [Tryz.ntmps16, List.size_toArray, List.length_cons, List.length_nil, Nat.reduceAdd, Nat.reduceSub, Array.replicate_succ, Array.replicate_zero, List.push_toArray, List.append_toArray, List.nil_append, List.cons_append]
 gi_wp2
 refine ⟨trivial, ?_⟩
 refine (callsIn_wide (n := 7)).2 HCC.out |>.mono ?_
 rintro e w2 ⟨hq, rfl⟩
 have s2 := S0.out.trans (hq.mono S0.out.size)
 have bg2 := BG.out.keep hq
 have br2 := BR.out.keep hq
 have y0 := bg2.cell (j := 0) rfl
 have y1 := bg2.cell (j := 1) rfl
 have y2 := bg2.cell (j := 2) rfl
 have S2 := Lib.hid s2; clear s2
 have BG2 := Lib.hid bg2; clear bg2
 have BR2 := Lib.hid br2; clear br2
 clear hq x0 x1 x2
 gi_wp2
 refine ⟨trivial, ?_⟩
 refine (divs_in Fence.wide 7 trivial rfl N _).mono ?_
 rintro e w3 ⟨rfl, rfl⟩
 have hsz2 := BG2.out.lt
 have bT := (Blk.new w2 28 [.bool false, .string ⟨#[]⟩]).alloc (.cells #[.int .i64 (N : Int)] 3)
 have bN := Blk.new (w2.alloc (.cells #[.bool false, .string ⟨#[]⟩] 28)) 3 [.int .i64 (N : Int)]
 have s3 := (S2.out.alloc S2.out.size (.cells #[.bool false, .string ⟨#[]⟩] 28)).alloc (by have := S2.out.size; simp; omega) (.cells #[.int .i64 (N : Int)] 3)
 have bg3 := (BG2.out.alloc (.cells #[.bool false, .string ⟨#[]⟩] 28)).alloc (.cells #[.int .i64 (N : Int)] 3)
 have br3 := (BR2.out.alloc (.cells #[.bool false, .string ⟨#[]⟩] 28)).alloc (.cells #[.int .i64 (N : Int)] 3)
 simp only [World.size_alloc] at bN
 obtain ⟨w3, hw3⟩ : ∃ w3, (w2.alloc (.cells #[.bool false, .string ⟨#[]⟩] 28)).alloc (.cells #[.int .i64 (N : Int)] 3) = w3 := ⟨_, rfl⟩
 have hsz3 : w3.heap.size = w2.heap.size + 2 := by rw [← hw3]; simp
 rw [hw3] at bT bN s3 bg3 br3
 obtain ⟨tb, htb⟩ : ∃ tb, tb = w2.heap.size := ⟨_, rfl⟩
 have hszr := BR2.out.lt
 have hd0 : oS (clN es S) (fun x : DivIt N => x.x) [] = 0 := rfl
 rw [← htb] at hsz2 hsz3 bT bN hszr
 gi_wp2
 (try rw [hw3])
 (try rw [← htb])
 clear htb hw3 y0 y1 y2
 refine wpIn_rangeFunc_ownH rfl (by decide) (gf := 80) (lb := #[.pointer (some ⟨tb + 1, 0, none⟩)]) rfl trivial (enters_of Tryz.func80 (by kernel_rfl) rfl)
  (divs_stops 7 (by decide) (tb + 1) N (by omega) w w3 (fun x : DivIt N => x.x) LL HLL.out (by omega) (bN.cell (j := 0) rfl))
  cKpS.trans (ckpS_b (by omega) (by omega) (by omega)) (Below.refl _ _) (fun _ => rfl)
  (fun pre W => Blk W tb 28 [.bool (ineg (oS (clN es S) (fun x : DivIt N => x.x) pre)), .string (imag (oS (clN es S) (fun x : DivIt N => x.x) pre))] ∧ Blk W w.heap.size 24 [.int .i64 L, .int .i64 (S : Int), .slice va m vc] ∧ Blk W (w.heap.size + 1) 28 [.bool false, .string ⟨#[]⟩] ∧ Below w.heap.size w W ∧ w3.heap.size ≤ W.heap.size)
  (fun _ _ _ => False)
  ((blk_ownS _).and ((blk_ownS _).and ((blk_ownS _).and ((ownFrom_below (Nat.le_refl _) (by omega)).and (fun _ _ _ _ hs hg _ => Nat.le_trans hs hg.size)))))
  (fun _ => fun _ _ _ _ hs _ _ => hs)
  ⟨by rw [hd0, ineg_zero, imag_zero]; exact bT, bg3, br3, s3, Nat.le_refl _⟩
  (fun x' a' W => a' = { tmps := (List.toArray ((.agg #[.int .i64 L, .int .i64 (S : Int), .slice va m vc] : Value) :: (.int .i64 (N : Int) : Value) :: (.pointer (some ⟨w.heap.size, 0, none⟩) : Value) :: (undef : Value) :: (.pointer (some ⟨w.heap.size + 1, 0, none⟩) : Value) :: (.int .i64 0 : Value) :: (.int .i64 0 : Value) :: (.pointer (some ⟨tb, 0, none⟩) : Value) :: (.int .i64 ((x'.x.1 : Nat) : Int) : Value) :: (.int .i64 x'.x.2 : Value) :: (undef : Value) :: undef :: undef :: (.agg #[.int .i64 L, .int .i64 (S : Int), .slice va m vc] : Value) :: (.int .i64 (N : Int) : Value) :: (.int .i64 0 : Value) :: (.int .i64 0 : Value) :: (.bool false : Value) :: undef :: undef :: (.pointer (some ⟨w.heap.size, 1, none⟩) : Value) :: (.int .i64 (S : Int) : Value) :: (.bool (decide ((32 : Int) < (S : Int))) : Value) :: undef :: (.int .i64 (N : Int) : Value) :: (.func (.func 80) #[] #[.pointer (some ⟨tb + 1, 0, none⟩)] : Value) :: (.int .i64 ((x'.x.1 : Nat) : Int) : Value) :: (.int .i64 x'.x.2 : Value) :: undef :: undef :: undef :: undef :: undef :: undef :: undef :: undef :: undef :: undef :: undef :: undef :: undef :: undef :: undef :: undef :: undef :: undef :: undef :: [])), defers := [] })
  (fun x' a' _ X Y row hs hg hr => hs)
  ?assign ?body ?done ?stop
 case assign =>
  rintro l pre x' W K ⟨i1, i2, i3, i4, i5⟩ hK
  gi_wp2
  exact hK _ _ ((KeepsOthers.refl _).from _) (cKpS.refl _ _ _ W) ⟨i1, i2, i3, i4, i5⟩ rfl
 case body =>
  rintro l pre ⟨⟨d, s⟩, hd1, hdN, hs1, hs2⟩ a' W hl' - ⟨i1, i2, i3, i4, i5⟩ rfl hltp
  dsimp only at hd1 hdN hs1 hs2
  have hpl : pre.length ≤ N := by have := divL_length_le N N; omega
  have hD0 := oS_sm hfs hN pre hpl
  have hsn := oS_snoc (clN es S) (fun x : DivIt N => x.x) pre ⟨(d, s), hd1, hdN, hs1, hs2⟩
  dsimp only at hsn
  obtain ⟨D, hD⟩ : ∃ D, D = oS (clN es S) (fun x : DivIt N => x.x) pre := ⟨_, rfl⟩
  obtain ⟨f, hf⟩ : ∃ f, f = clN es S d := ⟨_, rfl⟩
  have hclw := hcl d hdN
  have hff := hfs d hdN
  rw [← hf] at hsn hclw hff
  rw [← hD] at i1 hD0 hsn
  by_cases hs0 : s = 0
  ·
   subst hs0
   have hne : ((0 : Int) != 0) = false := rfl
   rw [Int.zero_mul, Int.add_zero] at hsn
   have HSN := Lib.hid hsn; clear hsn
   gi_wp2
   refine ⟨(KeepsOthers.refl _).from _, cKpS.refl _ _ _ W, ?_⟩
   (try dsimp only)
   rw [HSN.out]
   exact ⟨i1, i2, i3, i4, i5⟩
  ·
   have hne : (s != 0) = true := by simp [hs0]
   have hsf : sm 1 s := by unfold sm; omega
   have hP := hsf.mul hff
   have hmul := fun w' => imulV s f w' (Nat.le_trans hsf.size (by omega)) (Nat.le_trans hff.size (by omega))
   have hadd := fun w' => iadd_any (ineg D) (ineg (s * f)) (imag D) (imag (s * f)) w' (Nat.le_trans hD0.size (by omega)) (Nat.le_trans hP.size (by omega))
   simp only [ival_canon] at hadd
   have hofs := hof s hs1 hs2
   have hrW := hr.below i4 (Nat.le_refl _)
   have c0 := i2.cell (j := 0) rfl
   have c1 := i2.cell (j := 1) rfl
   have c2 := i2.cell (j := 2) rfl
   have cN0 := i1.cell (j := 0) rfl
   have cN1 := i1.cell (j := 1) rfl
   have fr0 := i1.frozen 0
   have fr1 := i1.frozen 1
   have hWb := i4.size
   have hgW : w.heap.size < W.heap.size := by omega
   have hne0 : ¬ w.heap.size = tb := by omega
   have hne1 : ¬ tb = w.heap.size := by omega
   have I1 := Lib.hid i1; clear i1
   have I2 := Lib.hid i2; clear i2
   have I3 := Lib.hid i3; clear i3
   have I4 := Lib.hid i4; clear i4
   have HMUL := Lib.hid hmul; clear hmul
   have HADD := Lib.hid hadd; clear hadd
   have HOFS := Lib.hid hofs; clear hofs
   have HCL := Lib.hid hclw; clear hclw
   have HRW := Lib.hid hrW; clear hrW
   have HSN := Lib.hid hsn; clear hsn
   clear hD hf hD0 hff hP hsf hs0
   gi_wp2
   refine wpIn_round_held (S := fun w' => w'.cell? ⟨w.heap.size, 0, none⟩ = some (.int .i64 L) ∧ w'.cell? ⟨w.heap.size, 1, none⟩ = some (.int .i64 (S : Int)) ∧ w'.cell? ⟨w.heap.size, 2, none⟩ = some (.slice va m vc)) (by kernel_rfl) (fun ⟨_, _, h⟩ => h) (by rfl) ?_ (fun hHeld => ?_)
   ·
    go_keep
   refine zT 1 (h := ?_)
   (try simp only [Act.put, zA, zB, zC])
   refine zT 3 (h := ?_)
   (try simp only [Act.put, zA, zB, zC])
   refine zT 4 (h := ?_)
   (try simp only [Act.put, zA, zB, zC])
   have sW : Below W.heap.size W W.drew := (Below.refl W.heap.size W).drew
   have nW : Blk W.drew tb 28 [.bool (ineg D), .string (imag D)] := I1.out
   refine wpAnyH_ready (rs := [0, 2]) (by kernel_rfl) (by simp) ?_
   refine AllReadyH.cons rfl (fun K hK => ?_) (AllReadyH.cons rfl (fun K hK => ?_) (AllReadyH.nil))
   ·
    go_simp
    refine hK.out _ _ ?_ (fun hH1 => ?_)
    ·
     ((try dsimp only); go_keep)
    clear hK K
    (try simp only [Act.put, zA, zB, zC])
    refine zR 2 (h := fun K hK => ?_)
    go_simp
    go_at_call 28
    refine (HOFS.out _).mono ?_
    rintro e' wa2 ⟨hq, rfl⟩
    dsimp only
    have z0 := (hq.cell (p := ⟨w.heap.size, 0, none⟩) (show w.heap.size < W.heap.size by omega)).trans hH1.1
    have z1 := (hq.cell (p := ⟨w.heap.size, 1, none⟩) (show w.heap.size < W.heap.size by omega)).trans hH1.2.1
    have z2 := (hq.cell (p := ⟨w.heap.size, 2, none⟩) (show w.heap.size < W.heap.size by omega)).trans hH1.2.2
    refine hK.out _ _ ⟨z0, z1, z2⟩ (fun hH3 => ?_)
    clear hK K z0  z1  z2
    (try simp only [Act.put, zA, zB, zC])
    have sa4 : Below W.heap.size W wa2 := sW.trans (hq.mono sW.size)
    have na5 := Blk.keep (w := W.drew) nW hq
    clear hq
    have hlwa2 : W.heap.size ≤ wa2.heap.size := sa4.size
    clear cN0 cN1
    have cN0 := na5.cell (j := 0) rfl
    have cN1 := na5.cell (j := 1) rfl
    have fr0 := na5.frozen 0
    have fr1 := na5.frozen 1
    refine zR 5 (h := fun K hK => ?_)
    go_simp
    have hrc := HRW.out.below sa4 (Nat.le_refl _)
    go_at_call 41
    refine (HCL.out _ hrc).mono ?_
    rintro e' wa6 ⟨hq, rfl⟩
    dsimp only
    have z0 := (hq.cell (p := ⟨w.heap.size, 0, none⟩) (show w.heap.size < wa2.heap.size by omega)).trans hH3.1
    have z1 := (hq.cell (p := ⟨w.heap.size, 1, none⟩) (show w.heap.size < wa2.heap.size by omega)).trans hH3.2.1
    have z2 := (hq.cell (p := ⟨w.heap.size, 2, none⟩) (show w.heap.size < wa2.heap.size by omega)).trans hH3.2.2
    refine hK.out _ _ ⟨z0, z1, z2⟩ (fun hH7 => ?_)
    clear hK K z0  z1  z2
    (try simp only [Act.put, zA, zB, zC])
    have sa8 : Below W.heap.size W wa6 := sa4.trans (hq.mono sa4.size)
    have na9 := Blk.keep (w := wa2) na5 hq
    clear hq
    have hlwa6 : W.heap.size ≤ wa6.heap.size := sa8.size
    clear cN0 cN1
    have cN0 := na9.cell (j := 0) rfl
    have cN1 := na9.cell (j := 1) rfl
    have fr0 := na9.frozen 0
    have fr1 := na9.frozen 1
    refine zR 6 (h := fun K hK => ?_)
    go_simp
    go_at_call 45
    refine (HMUL.out _).mono ?_
    rintro e' wa10 ⟨hq, rfl⟩
    dsimp only
    have z0 := (hq.cell (p := ⟨w.heap.size, 0, none⟩) (show w.heap.size < wa6.heap.size by omega)).trans hH7.1
    have z1 := (hq.cell (p := ⟨w.heap.size, 1, none⟩) (show w.heap.size < wa6.heap.size by omega)).trans hH7.2.1
    have z2 := (hq.cell (p := ⟨w.heap.size, 2, none⟩) (show w.heap.size < wa6.heap.size by omega)).trans hH7.2.2
    refine hK.out _ _ ⟨z0, z1, z2⟩ (fun hH11 => ?_)
    clear hK K z0  z1  z2
    (try simp only [Act.put, zA, zB, zC])
    have sa12 : Below W.heap.size W wa10 := sa8.trans (hq.mono sa8.size)
    have na13 := Blk.keep (w := wa6) na9 hq
    clear hq
    have hlwa10 : W.heap.size ≤ wa10.heap.size := sa12.size
    clear cN0 cN1
    have cN0 := na13.cell (j := 0) rfl
    have cN1 := na13.cell (j := 1) rfl
    have fr0 := na13.frozen 0
    have fr1 := na13.frozen 1
    refine zR 7 (h := fun K hK => ?_)
    go_simp
    go_at_call 44
    refine (HADD.out _).mono ?_
    rintro e' wa14 ⟨hq, rfl⟩
    dsimp only
    have z0 := (hq.cell (p := ⟨w.heap.size, 0, none⟩) (show w.heap.size < wa10.heap.size by omega)).trans hH11.1
    have z1 := (hq.cell (p := ⟨w.heap.size, 1, none⟩) (show w.heap.size < wa10.heap.size by omega)).trans hH11.2.1
    have z2 := (hq.cell (p := ⟨w.heap.size, 2, none⟩) (show w.heap.size < wa10.heap.size by omega)).trans hH11.2.2
    refine hK.out _ _ ⟨z0, z1, z2⟩ (fun hH15 => ?_)
    clear hK K z0  z1  z2
    (try simp only [Act.put, zA, zB, zC])
    have sa16 : Below W.heap.size W wa14 := sa12.trans (hq.mono sa12.size)
    have na17 := Blk.keep (w := wa10) na13 hq
    clear hq
    have hlwa14 : W.heap.size ≤ wa14.heap.size := sa16.size
    clear cN0 cN1
    have cN0 := na17.cell (j := 0) rfl
    have cN1 := na17.cell (j := 1) rfl
    have fr0 := na17.frozen 0
    have fr1 := na17.frozen 1
    refine zR 8 (h := fun K hK => ?_)
    go_simp
    refine hK.out _ _ ?_ (fun hH18 => ?_)
    ·
     ((try dsimp only); go_keep)
    clear hK K
    (try simp only [Act.put, zA, zB, zC])
    refine wpAnyH_done (by kernel_rfl) ?_ _
    (try simp only [List.getElem_toArray, List.getElem_cons_zero, List.getElem_cons_succ, Act.put, zA, zB, zC])
    gi_wp2
    have hk : ∀ b, b < W.heap.size → b ≠ tb → ((wa14.setCell ⟨tb, 0, none⟩ (.bool (ineg (D + s * f)))).setCell ⟨tb, 1, none⟩ (.string (imag (D + s * f)))).heap[b]? = W.heap[b]? := fun b h1 h2 => ((Below.heap_setCell _ _ _ b h2).trans (Below.heap_setCell _ _ _ b h2)).trans (sa16.block b h1)
    have k1 : KeepsFrom w3.heap.size W ((wa14.setCell ⟨tb, 0, none⟩ (.bool (ineg (D + s * f)))).setCell ⟨tb, 1, none⟩ (.string (imag (D + s * f)))) := (cf_below sa16 rfl).trans ((cf_setCell wa14 ⟨tb, 0, none⟩ _ (show tb < w3.heap.size by omega)).trans (cf_setCell _ ⟨tb, 1, none⟩ _ (show tb < w3.heap.size by omega)))
    have hbz : ∀ {n₀ : Nat} {Z : World}, n₀ ≤ tb → n₀ ≤ W.heap.size → Below n₀ Z W → Below n₀ Z ((wa14.setCell ⟨tb, 0, none⟩ (.bool (ineg (D + s * f)))).setCell ⟨tb, 1, none⟩ (.string (imag (D + s * f)))) := fun {n₀ Z} hn hn2 hZ => ((hZ.trans (sa16.mono hn2)).setCell (p := ⟨tb, 0, none⟩) hn _).setCell (p := ⟨tb, 1, none⟩) hn _
    refine ⟨k1, ⟨hbz (by omega) (by omega) (Below.refl _ _), hk _ (by omega) (by omega), hk _ (by omega) (by omega)⟩, ?_⟩
    (try dsimp only)
    rw [HSN.out]
    exact ⟨(na17.set 0 _).set 1 _, I2.out.of_block (hk _ (by omega) (by omega)), I3.out.of_block (hk _ (by omega) (by omega)), hbz (by omega) (by omega) I4.out, Nat.le_trans i5 (by have := sa16.size; simp; omega)⟩
   ·
    go_simp
    go_at_call 28
    refine (HOFS.out _).mono ?_
    rintro e' wa19 ⟨hq, rfl⟩
    dsimp only
    have z0 := (hq.cell (p := ⟨w.heap.size, 0, none⟩) (show w.heap.size < W.heap.size by omega)).trans hHeld.1
    have z1 := (hq.cell (p := ⟨w.heap.size, 1, none⟩) (show w.heap.size < W.heap.size by omega)).trans hHeld.2.1
    have z2 := (hq.cell (p := ⟨w.heap.size, 2, none⟩) (show w.heap.size < W.heap.size by omega)).trans hHeld.2.2
    refine hK.out _ _ ⟨z0, z1, z2⟩ (fun hH20 => ?_)
    clear hK K z0  z1  z2
    (try simp only [Act.put, zA, zB, zC])
    have sa21 : Below W.heap.size W wa19 := sW.trans (hq.mono sW.size)
    have na22 := Blk.keep (w := W.drew) nW hq
    clear hq
    have hlwa19 : W.heap.size ≤ wa19.heap.size := sa21.size
    clear cN0 cN1
    have cN0 := na22.cell (j := 0) rfl
    have cN1 := na22.cell (j := 1) rfl
    have fr0 := na22.frozen 0
    have fr1 := na22.frozen 1
    refine wpAnyH_ready (rs := [0, 5]) (by kernel_rfl) (by simp) ?_
    refine AllReadyH.cons rfl (fun K hK => ?_) (AllReadyH.cons rfl (fun K hK => ?_) (AllReadyH.nil))
    ·
     go_simp
     refine hK.out _ _ ?_ (fun hH23 => ?_)
     ·
      ((try dsimp only); go_keep)
     clear hK K
     (try simp only [Act.put, zA, zB, zC])
     refine zR 5 (h := fun K hK => ?_)
     go_simp
     have hrc := HRW.out.below sa21 (Nat.le_refl _)
     go_at_call 41
     refine (HCL.out _ hrc).mono ?_
     rintro e' wa24 ⟨hq, rfl⟩
     dsimp only
     have z0 := (hq.cell (p := ⟨w.heap.size, 0, none⟩) (show w.heap.size < wa19.heap.size by omega)).trans hH23.1
     have z1 := (hq.cell (p := ⟨w.heap.size, 1, none⟩) (show w.heap.size < wa19.heap.size by omega)).trans hH23.2.1
     have z2 := (hq.cell (p := ⟨w.heap.size, 2, none⟩) (show w.heap.size < wa19.heap.size by omega)).trans hH23.2.2
     refine hK.out _ _ ⟨z0, z1, z2⟩ (fun hH25 => ?_)
     clear hK K z0  z1  z2
     (try simp only [Act.put, zA, zB, zC])
     have sa26 : Below W.heap.size W wa24 := sa21.trans (hq.mono sa21.size)
     have na27 := Blk.keep (w := wa19) na22 hq
     clear hq
     have hlwa24 : W.heap.size ≤ wa24.heap.size := sa26.size
     clear cN0 cN1
     have cN0 := na27.cell (j := 0) rfl
     have cN1 := na27.cell (j := 1) rfl
     have fr0 := na27.frozen 0
     have fr1 := na27.frozen 1
     refine zR 6 (h := fun K hK => ?_)
     go_simp
     go_at_call 45
     refine (HMUL.out _).mono ?_
     rintro e' wa28 ⟨hq, rfl⟩
     dsimp only
     have z0 := (hq.cell (p := ⟨w.heap.size, 0, none⟩) (show w.heap.size < wa24.heap.size by omega)).trans hH25.1
     have z1 := (hq.cell (p := ⟨w.heap.size, 1, none⟩) (show w.heap.size < wa24.heap.size by omega)).trans hH25.2.1
     have z2 := (hq.cell (p := ⟨w.heap.size, 2, none⟩) (show w.heap.size < wa24.heap.size by omega)).trans hH25.2.2
     refine hK.out _ _ ⟨z0, z1, z2⟩ (fun hH29 => ?_)
     clear hK K z0  z1  z2
     (try simp only [Act.put, zA, zB, zC])
     have sa30 : Below W.heap.size W wa28 := sa26.trans (hq.mono sa26.size)
     have na31 := Blk.keep (w := wa24) na27 hq
     clear hq
     have hlwa28 : W.heap.size ≤ wa28.heap.size := sa30.size
     clear cN0 cN1
     have cN0 := na31.cell (j := 0) rfl
     have cN1 := na31.cell (j := 1) rfl
     have fr0 := na31.frozen 0
     have fr1 := na31.frozen 1
     refine zR 7 (h := fun K hK => ?_)
     go_simp
     go_at_call 44
     refine (HADD.out _).mono ?_
     rintro e' wa32 ⟨hq, rfl⟩
     dsimp only
     have z0 := (hq.cell (p := ⟨w.heap.size, 0, none⟩) (show w.heap.size < wa28.heap.size by omega)).trans hH29.1
     have z1 := (hq.cell (p := ⟨w.heap.size, 1, none⟩) (show w.heap.size < wa28.heap.size by omega)).trans hH29.2.1
     have z2 := (hq.cell (p := ⟨w.heap.size, 2, none⟩) (show w.heap.size < wa28.heap.size by omega)).trans hH29.2.2
     refine hK.out _ _ ⟨z0, z1, z2⟩ (fun hH33 => ?_)
     clear hK K z0  z1  z2
     (try simp only [Act.put, zA, zB, zC])
     have sa34 : Below W.heap.size W wa32 := sa30.trans (hq.mono sa30.size)
     have na35 := Blk.keep (w := wa28) na31 hq
     clear hq
     have hlwa32 : W.heap.size ≤ wa32.heap.size := sa34.size
     clear cN0 cN1
     have cN0 := na35.cell (j := 0) rfl
     have cN1 := na35.cell (j := 1) rfl
     have fr0 := na35.frozen 0
     have fr1 := na35.frozen 1
     refine zR 8 (h := fun K hK => ?_)
     go_simp
     refine hK.out _ _ ?_ (fun hH36 => ?_)
     ·
      ((try dsimp only); go_keep)
     clear hK K
     (try simp only [Act.put, zA, zB, zC])
     refine wpAnyH_done (by kernel_rfl) ?_ _
     (try simp only [List.getElem_toArray, List.getElem_cons_zero, List.getElem_cons_succ, Act.put, zA, zB, zC])
     gi_wp2
     have hk : ∀ b, b < W.heap.size → b ≠ tb → ((wa32.setCell ⟨tb, 0, none⟩ (.bool (ineg (D + s * f)))).setCell ⟨tb, 1, none⟩ (.string (imag (D + s * f)))).heap[b]? = W.heap[b]? := fun b h1 h2 => ((Below.heap_setCell _ _ _ b h2).trans (Below.heap_setCell _ _ _ b h2)).trans (sa34.block b h1)
     have k1 : KeepsFrom w3.heap.size W ((wa32.setCell ⟨tb, 0, none⟩ (.bool (ineg (D + s * f)))).setCell ⟨tb, 1, none⟩ (.string (imag (D + s * f)))) := (cf_below sa34 rfl).trans ((cf_setCell wa32 ⟨tb, 0, none⟩ _ (show tb < w3.heap.size by omega)).trans (cf_setCell _ ⟨tb, 1, none⟩ _ (show tb < w3.heap.size by omega)))
     have hbz : ∀ {n₀ : Nat} {Z : World}, n₀ ≤ tb → n₀ ≤ W.heap.size → Below n₀ Z W → Below n₀ Z ((wa32.setCell ⟨tb, 0, none⟩ (.bool (ineg (D + s * f)))).setCell ⟨tb, 1, none⟩ (.string (imag (D + s * f)))) := fun {n₀ Z} hn hn2 hZ => ((hZ.trans (sa34.mono hn2)).setCell (p := ⟨tb, 0, none⟩) hn _).setCell (p := ⟨tb, 1, none⟩) hn _
     refine ⟨k1, ⟨hbz (by omega) (by omega) (Below.refl _ _), hk _ (by omega) (by omega), hk _ (by omega) (by omega)⟩, ?_⟩
     (try dsimp only)
     rw [HSN.out]
     exact ⟨(na35.set 0 _).set 1 _, I2.out.of_block (hk _ (by omega) (by omega)), I3.out.of_block (hk _ (by omega) (by omega)), hbz (by omega) (by omega) I4.out, Nat.le_trans i5 (by have := sa34.size; simp; omega)⟩
    ·
     go_simp
     have hrc := HRW.out.below sa21 (Nat.le_refl _)
     go_at_call 41
     refine (HCL.out _ hrc).mono ?_
     rintro e' wa37 ⟨hq, rfl⟩
     dsimp only
     have z0 := (hq.cell (p := ⟨w.heap.size, 0, none⟩) (show w.heap.size < wa19.heap.size by omega)).trans hH20.1
     have z1 := (hq.cell (p := ⟨w.heap.size, 1, none⟩) (show w.heap.size < wa19.heap.size by omega)).trans hH20.2.1
     have z2 := (hq.cell (p := ⟨w.heap.size, 2, none⟩) (show w.heap.size < wa19.heap.size by omega)).trans hH20.2.2
     refine hK.out _ _ ⟨z0, z1, z2⟩ (fun hH38 => ?_)
     clear hK K z0  z1  z2
     (try simp only [Act.put, zA, zB, zC])
     have sa39 : Below W.heap.size W wa37 := sa21.trans (hq.mono sa21.size)
     have na40 := Blk.keep (w := wa19) na22 hq
     clear hq
     have hlwa37 : W.heap.size ≤ wa37.heap.size := sa39.size
     clear cN0 cN1
     have cN0 := na40.cell (j := 0) rfl
     have cN1 := na40.cell (j := 1) rfl
     have fr0 := na40.frozen 0
     have fr1 := na40.frozen 1
     refine wpAnyH_ready (rs := [0, 6]) (by kernel_rfl) (by simp) ?_
     refine AllReadyH.cons rfl (fun K hK => ?_) (AllReadyH.cons rfl (fun K hK => ?_) (AllReadyH.nil))
     ·
      go_simp
      refine hK.out _ _ ?_ (fun hH41 => ?_)
      ·
       ((try dsimp only); go_keep)
      clear hK K
      (try simp only [Act.put, zA, zB, zC])
      refine zR 6 (h := fun K hK => ?_)
      go_simp
      go_at_call 45
      refine (HMUL.out _).mono ?_
      rintro e' wa42 ⟨hq, rfl⟩
      dsimp only
      have z0 := (hq.cell (p := ⟨w.heap.size, 0, none⟩) (show w.heap.size < wa37.heap.size by omega)).trans hH41.1
      have z1 := (hq.cell (p := ⟨w.heap.size, 1, none⟩) (show w.heap.size < wa37.heap.size by omega)).trans hH41.2.1
      have z2 := (hq.cell (p := ⟨w.heap.size, 2, none⟩) (show w.heap.size < wa37.heap.size by omega)).trans hH41.2.2
      refine hK.out _ _ ⟨z0, z1, z2⟩ (fun hH43 => ?_)
      clear hK K z0  z1  z2
      (try simp only [Act.put, zA, zB, zC])
      have sa44 : Below W.heap.size W wa42 := sa39.trans (hq.mono sa39.size)
      have na45 := Blk.keep (w := wa37) na40 hq
      clear hq
      have hlwa42 : W.heap.size ≤ wa42.heap.size := sa44.size
      clear cN0 cN1
      have cN0 := na45.cell (j := 0) rfl
      have cN1 := na45.cell (j := 1) rfl
      have fr0 := na45.frozen 0
      have fr1 := na45.frozen 1
      refine zR 7 (h := fun K hK => ?_)
      go_simp
      go_at_call 44
      refine (HADD.out _).mono ?_
      rintro e' wa46 ⟨hq, rfl⟩
      dsimp only
      have z0 := (hq.cell (p := ⟨w.heap.size, 0, none⟩) (show w.heap.size < wa42.heap.size by omega)).trans hH43.1
      have z1 := (hq.cell (p := ⟨w.heap.size, 1, none⟩) (show w.heap.size < wa42.heap.size by omega)).trans hH43.2.1
      have z2 := (hq.cell (p := ⟨w.heap.size, 2, none⟩) (show w.heap.size < wa42.heap.size by omega)).trans hH43.2.2
      refine hK.out _ _ ⟨z0, z1, z2⟩ (fun hH47 => ?_)
      clear hK K z0  z1  z2
      (try simp only [Act.put, zA, zB, zC])
      have sa48 : Below W.heap.size W wa46 := sa44.trans (hq.mono sa44.size)
      have na49 := Blk.keep (w := wa42) na45 hq
      clear hq
      have hlwa46 : W.heap.size ≤ wa46.heap.size := sa48.size
      clear cN0 cN1
      have cN0 := na49.cell (j := 0) rfl
      have cN1 := na49.cell (j := 1) rfl
      have fr0 := na49.frozen 0
      have fr1 := na49.frozen 1
      refine zR 8 (h := fun K hK => ?_)
      go_simp
      refine hK.out _ _ ?_ (fun hH50 => ?_)
      ·
       ((try dsimp only); go_keep)
      clear hK K
      (try simp only [Act.put, zA, zB, zC])
      refine wpAnyH_done (by kernel_rfl) ?_ _
      (try simp only [List.getElem_toArray, List.getElem_cons_zero, List.getElem_cons_succ, Act.put, zA, zB, zC])
      gi_wp2
      have hk : ∀ b, b < W.heap.size → b ≠ tb → ((wa46.setCell ⟨tb, 0, none⟩ (.bool (ineg (D + s * f)))).setCell ⟨tb, 1, none⟩ (.string (imag (D + s * f)))).heap[b]? = W.heap[b]? := fun b h1 h2 => ((Below.heap_setCell _ _ _ b h2).trans (Below.heap_setCell _ _ _ b h2)).trans (sa48.block b h1)
      have k1 : KeepsFrom w3.heap.size W ((wa46.setCell ⟨tb, 0, none⟩ (.bool (ineg (D + s * f)))).setCell ⟨tb, 1, none⟩ (.string (imag (D + s * f)))) := (cf_below sa48 rfl).trans ((cf_setCell wa46 ⟨tb, 0, none⟩ _ (show tb < w3.heap.size by omega)).trans (cf_setCell _ ⟨tb, 1, none⟩ _ (show tb < w3.heap.size by omega)))
      have hbz : ∀ {n₀ : Nat} {Z : World}, n₀ ≤ tb → n₀ ≤ W.heap.size → Below n₀ Z W → Below n₀ Z ((wa46.setCell ⟨tb, 0, none⟩ (.bool (ineg (D + s * f)))).setCell ⟨tb, 1, none⟩ (.string (imag (D + s * f)))) := fun {n₀ Z} hn hn2 hZ => ((hZ.trans (sa48.mono hn2)).setCell (p := ⟨tb, 0, none⟩) hn _).setCell (p := ⟨tb, 1, none⟩) hn _
      refine ⟨k1, ⟨hbz (by omega) (by omega) (Below.refl _ _), hk _ (by omega) (by omega), hk _ (by omega) (by omega)⟩, ?_⟩
      (try dsimp only)
      rw [HSN.out]
      exact ⟨(na49.set 0 _).set 1 _, I2.out.of_block (hk _ (by omega) (by omega)), I3.out.of_block (hk _ (by omega) (by omega)), hbz (by omega) (by omega) I4.out, Nat.le_trans i5 (by have := sa48.size; simp; omega)⟩
     ·
      go_simp
      go_at_call 45
      refine (HMUL.out _).mono ?_
      rintro e' wa51 ⟨hq, rfl⟩
      dsimp only
      have z0 := (hq.cell (p := ⟨w.heap.size, 0, none⟩) (show w.heap.size < wa37.heap.size by omega)).trans hH38.1
      have z1 := (hq.cell (p := ⟨w.heap.size, 1, none⟩) (show w.heap.size < wa37.heap.size by omega)).trans hH38.2.1
      have z2 := (hq.cell (p := ⟨w.heap.size, 2, none⟩) (show w.heap.size < wa37.heap.size by omega)).trans hH38.2.2
      refine hK.out _ _ ⟨z0, z1, z2⟩ (fun hH52 => ?_)
      clear hK K z0  z1  z2
      (try simp only [Act.put, zA, zB, zC])
      have sa53 : Below W.heap.size W wa51 := sa39.trans (hq.mono sa39.size)
      have na54 := Blk.keep (w := wa37) na40 hq
      clear hq
      have hlwa51 : W.heap.size ≤ wa51.heap.size := sa53.size
      clear cN0 cN1
      have cN0 := na54.cell (j := 0) rfl
      have cN1 := na54.cell (j := 1) rfl
      have fr0 := na54.frozen 0
      have fr1 := na54.frozen 1
      refine zR 0 (h := fun K hK => ?_)
      go_simp
      refine hK.out _ _ ?_ (fun hH55 => ?_)
      ·
       ((try dsimp only); go_keep)
      clear hK K
      (try simp only [Act.put, zA, zB, zC])
      refine zR 7 (h := fun K hK => ?_)
      go_simp
      go_at_call 44
      refine (HADD.out _).mono ?_
      rintro e' wa56 ⟨hq, rfl⟩
      dsimp only
      have z0 := (hq.cell (p := ⟨w.heap.size, 0, none⟩) (show w.heap.size < wa51.heap.size by omega)).trans hH55.1
      have z1 := (hq.cell (p := ⟨w.heap.size, 1, none⟩) (show w.heap.size < wa51.heap.size by omega)).trans hH55.2.1
      have z2 := (hq.cell (p := ⟨w.heap.size, 2, none⟩) (show w.heap.size < wa51.heap.size by omega)).trans hH55.2.2
      refine hK.out _ _ ⟨z0, z1, z2⟩ (fun hH57 => ?_)
      clear hK K z0  z1  z2
      (try simp only [Act.put, zA, zB, zC])
      have sa58 : Below W.heap.size W wa56 := sa53.trans (hq.mono sa53.size)
      have na59 := Blk.keep (w := wa51) na54 hq
      clear hq
      have hlwa56 : W.heap.size ≤ wa56.heap.size := sa58.size
      clear cN0 cN1
      have cN0 := na59.cell (j := 0) rfl
      have cN1 := na59.cell (j := 1) rfl
      have fr0 := na59.frozen 0
      have fr1 := na59.frozen 1
      refine zR 8 (h := fun K hK => ?_)
      go_simp
      refine hK.out _ _ ?_ (fun hH60 => ?_)
      ·
       ((try dsimp only); go_keep)
      clear hK K
      (try simp only [Act.put, zA, zB, zC])
      refine wpAnyH_done (by kernel_rfl) ?_ _
      (try simp only [List.getElem_toArray, List.getElem_cons_zero, List.getElem_cons_succ, Act.put, zA, zB, zC])
      gi_wp2
      have hk : ∀ b, b < W.heap.size → b ≠ tb → ((wa56.setCell ⟨tb, 0, none⟩ (.bool (ineg (D + s * f)))).setCell ⟨tb, 1, none⟩ (.string (imag (D + s * f)))).heap[b]? = W.heap[b]? := fun b h1 h2 => ((Below.heap_setCell _ _ _ b h2).trans (Below.heap_setCell _ _ _ b h2)).trans (sa58.block b h1)
      have k1 : KeepsFrom w3.heap.size W ((wa56.setCell ⟨tb, 0, none⟩ (.bool (ineg (D + s * f)))).setCell ⟨tb, 1, none⟩ (.string (imag (D + s * f)))) := (cf_below sa58 rfl).trans ((cf_setCell wa56 ⟨tb, 0, none⟩ _ (show tb < w3.heap.size by omega)).trans (cf_setCell _ ⟨tb, 1, none⟩ _ (show tb < w3.heap.size by omega)))
      have hbz : ∀ {n₀ : Nat} {Z : World}, n₀ ≤ tb → n₀ ≤ W.heap.size → Below n₀ Z W → Below n₀ Z ((wa56.setCell ⟨tb, 0, none⟩ (.bool (ineg (D + s * f)))).setCell ⟨tb, 1, none⟩ (.string (imag (D + s * f)))) := fun {n₀ Z} hn hn2 hZ => ((hZ.trans (sa58.mono hn2)).setCell (p := ⟨tb, 0, none⟩) hn _).setCell (p := ⟨tb, 1, none⟩) hn _
      refine ⟨k1, ⟨hbz (by omega) (by omega) (Below.refl _ _), hk _ (by omega) (by omega), hk _ (by omega) (by omega)⟩, ?_⟩
      (try dsimp only)
      rw [HSN.out]
      exact ⟨(na59.set 0 _).set 1 _, I2.out.of_block (hk _ (by omega) (by omega)), I3.out.of_block (hk _ (by omega) (by omega)), hbz (by omega) (by omega) I4.out, Nat.le_trans i5 (by have := sa58.size; simp; omega)⟩
 case done =>
  rintro D ys W hDge rfl ⟨i1, i2, i3, i4, i5⟩ hK0
  have hZe : oS (clN es S) (fun x : DivIt N => x.x) ys = oS (clN es S) (fun x : Nat × Int => x) (divL N N) := by
   rw [← HLL.out]
   unfold oS
   rw [List.map_map]
   rfl
  rw [hZe] at i1
  obtain ⟨Z, hZ⟩ : ∃ Z, Z = oS (clN es S) (fun x : Nat × Int => x) (divL N N) := ⟨_, rfl⟩
  have hdv := HDIV.out
  rw [← hZ] at i1 hdv
  have cN0 := i1.cell (j := 0) rfl
  have cN1 := i1.cell (j := 1) rfl
  have hWb := i4.size
  have htbW : tb < W.heap.size := i1.lt
  have I3 := Lib.hid i3; clear i3
  have I4 := Lib.hid i4; clear i4
  have HDV := Lib.hid hdv; clear hdv
  have HOFN := Lib.hid hofN; clear hofN
  clear hZ hZe i1 i2
  gi_wp2
  refine wpIn_wide_norm (S := fun w' => w'.cell? ⟨tb, 0, none⟩ = some (.bool (ineg Z)) ∧ w'.cell? ⟨tb, 1, none⟩ = some (.string (imag Z))) (by kernel_rfl) (by rfl) ?_ (fun hHeld => ?_)
  ·
   go_keep
  refine zT 0 (h := ?_)
  (try simp only [Act.put, zA, zB, zC])
  refine zT 1 (h := ?_)
  (try simp only [Act.put, zA, zB, zC])
  have sW : Below W.heap.size W W.drew := (Below.refl W.heap.size W).drew
  refine wpAnyH_ready (rs := [2, 8, 9]) (by kernel_rfl) (by simp) ?_
  refine AllReadyH.cons rfl (fun K hK => ?_) (AllReadyH.cons rfl (fun K hK => ?_) (AllReadyH.cons rfl (fun K hK => ?_) (AllReadyH.nil)))
  ·
   go_simp
   go_at_call 28
   refine (HOFN.out _).mono ?_
   rintro e' wd1 ⟨hq, rfl⟩
   dsimp only
   have z0 := (hq.cell (p := ⟨tb, 0, none⟩) (show tb < W.heap.size by omega)).trans hHeld.1
   have z1 := (hq.cell (p := ⟨tb, 1, none⟩) (show tb < W.heap.size by omega)).trans hHeld.2
   refine hK.out _ _ ⟨z0, z1⟩ (fun hG2 => ?_)
   clear hK K z0 z1
   (try simp only [Act.put, zA, zB, zC])
   have sd3 : Below W.heap.size W wd1 := sW.trans (hq.mono sW.size)
   clear hq
   have hlwd1 : W.heap.size ≤ wd1.heap.size := sd3.size
   refine wpAnyH_ready (rs := [3, 8, 9]) (by kernel_rfl) (by simp) ?_
   refine AllReadyH.cons rfl (fun K hK => ?_) (AllReadyH.cons rfl (fun K hK => ?_) (AllReadyH.cons rfl (fun K hK => ?_) (AllReadyH.nil)))
   ·
    go_simp
    go_at_call 46
    refine (HDV.out _).mono ?_
    rintro e' wd4 ⟨hq, rfl⟩
    dsimp only
    have z0 := (hq.cell (p := ⟨tb, 0, none⟩) (show tb < wd1.heap.size by omega)).trans hG2.1
    have z1 := (hq.cell (p := ⟨tb, 1, none⟩) (show tb < wd1.heap.size by omega)).trans hG2.2
    refine hK.out _ _ ⟨z0, z1⟩ (fun hG5 => ?_)
    clear hK K z0 z1
    (try simp only [Act.put, zA, zB, zC])
    have sd6 : Below W.heap.size W wd4 := sd3.trans (hq.mono sd3.size)
    clear hq
    have hlwd4 : W.heap.size ≤ wd4.heap.size := sd6.size
    refine zT 4 (h := ?_)
    (try simp only [Act.put, zA, zB, zC])
    refine zT 5 (h := ?_)
    (try simp only [Act.put, zA, zB, zC])
    refine zT 6 (h := ?_)
    (try simp only [Act.put, zA, zB, zC])
    refine zT 7 (h := ?_)
    (try simp only [Act.put, zA, zB, zC])
    refine wpAnyH_ready (rs := [8, 9]) (by kernel_rfl) (by simp) ?_
    refine AllReadyH.cons rfl (fun K hK => ?_) (AllReadyH.cons rfl (fun K hK => ?_) (AllReadyH.nil))
    ·
     go_simp
     have ne10 : Blk (wd4.alloc (.cells #[.bool false, .string ⟨#[]⟩] 28)) wd4.heap.size 28 [.bool false, .string ⟨#[]⟩] := Blk.new wd4 _ _
     have sd9 : Below W.heap.size W (wd4.alloc (.cells #[.bool false, .string ⟨#[]⟩] 28)) := sd6.alloc sd6.size _
     refine hK.out _ _ ?_ (fun hG8 => ?_)
     ·
      ((try dsimp only); go_keep)
     clear hK K
     (try simp only [Act.put, zA, zB, zC])
     obtain ⟨wx7, hwx11⟩ : ∃ wx7, (wd4.alloc (.cells #[.bool false, .string ⟨#[]⟩] 28)) = wx7 := ⟨_, rfl⟩
     rw [hwx11] at ne10 sd9
     (try rw [hwx11])
     (try rw [hwx11] at hG8)
     obtain ⟨b8, hbx12⟩ : ∃ b8, b8 = wd4.heap.size := ⟨_, rfl⟩
     have hge13 : W.heap.size ≤ b8 := by rw [hbx12]; exact sd6.size
     rw [← hbx12] at ne10 
     (try rw [← hbx12])
     clear hbx12 hwx11
     have hlwx7 : W.heap.size ≤ wx7.heap.size := sd9.size
     refine zR 9 (h := fun K hK => ?_)
     go_simp
     have ne17 : Blk (wx7.alloc (.cells #[.bool false, .string ⟨#[]⟩] 28)) wx7.heap.size 28 [.bool false, .string ⟨#[]⟩] := Blk.new wx7 _ _
     have sd16 : Below W.heap.size W (wx7.alloc (.cells #[.bool false, .string ⟨#[]⟩] 28)) := sd9.alloc sd9.size _
     have hlt22 : b8 < wx7.heap.size := ne10.lt
     have ne21 := Blk.alloc ne10 (.cells #[.bool false, .string ⟨#[]⟩] 28)
     refine hK.out _ _ ?_ (fun hG15 => ?_)
     ·
      ((try dsimp only); go_keep)
     clear hK K
     (try simp only [Act.put, zA, zB, zC])
     obtain ⟨wx14, hwx18⟩ : ∃ wx14, (wx7.alloc (.cells #[.bool false, .string ⟨#[]⟩] 28)) = wx14 := ⟨_, rfl⟩
     rw [hwx18] at ne17 sd16 ne21
     (try rw [hwx18])
     (try rw [hwx18] at hG15)
     obtain ⟨b9, hbx19⟩ : ∃ b9, b9 = wx7.heap.size := ⟨_, rfl⟩
     have hge20 : W.heap.size ≤ b9 := by rw [hbx19]; exact sd9.size
     rw [← hbx19] at ne17 hlt22
     (try rw [← hbx19])
     clear hbx19 hwx18
     have hlwx14 : W.heap.size ≤ wx14.heap.size := sd16.size
     have h8l := ne21.lt
     have h9l := ne17.lt
     have u0 := ne21.cell (j := 0) rfl
     have u1 := ne21.cell (j := 1) rfl
     have u2 := ne17.cell (j := 0) rfl
     have u3 := ne17.cell (j := 1) rfl
     have v0 := ne21.frozen 0
     have v1 := ne21.frozen 1
     have v2 := ne17.frozen 0
     have v3 := ne17.frozen 1
     have m0 : ¬ b8 = tb := by omega
     have m1 : ¬ b9 = tb := by omega
     have m2 : ¬ tb = b8 := by omega
     have m3 : ¬ tb = b9 := by omega
     have m4 : ¬ b8 = b9 := by omega
     have m5 : ¬ b9 = b8 := by omega
     have m6 : ¬ w.heap.size + 1 = b8 := by omega
     have m7 : ¬ w.heap.size + 1 = b9 := by omega
     have m8 : ¬ b8 = w.heap.size + 1 := by omega
     refine zR 10 (h := fun K hK => ?_)
     go_simp
     refine hK.out _ _ ?_ (fun hT1 => ?_)
     ·
      ((try dsimp only); go_keep)
     clear hK K
     (try simp only [Act.put, zA, zB, zC])
     refine zR 11 (h := fun K hK => ?_)
     go_simp
     refine hK.out _ _ ?_ (fun hT2 => ?_)
     ·
      ((try dsimp only); go_keep)
     clear hK K
     (try simp only [Act.put, zA, zB, zC])
     refine zT 12 (h := ?_)
     (try simp only [Act.put, zA, zB, zC])
     refine wpAnyH_done (by kernel_rfl) ?_ _
     unfold nOnly
     (try simp only [List.getElem_toArray, List.getElem_cons_zero, List.getElem_cons_succ, Act.put, zA, zB, zC])
     have n8s := (((ne21.set 0 (.bool (ineg q))).set 1 (.string (imag q))).setOther (a := ⟨b9, 0, none⟩) m5 (.bool (ineg r))).setOther (a := ⟨b9, 1, none⟩) m5 (.string (imag r))
     have sfin := (((sd16.setCell (p := ⟨b8, 0, none⟩) (show W.heap.size ≤ b8 by omega) (.bool (ineg q))).setCell (p := ⟨b8, 1, none⟩) (show W.heap.size ≤ b8 by omega) (.string (imag q))).setCell (p := ⟨b9, 0, none⟩) (show W.heap.size ≤ b9 by omega) (.bool (ineg r))).setCell (p := ⟨b9, 1, none⟩) (show W.heap.size ≤ b9 by omega) (.string (imag r))
     obtain ⟨wz, hwz⟩ : ∃ wz, (((wx14.setCell ⟨b8, 0, none⟩ (.bool (ineg q))).setCell ⟨b8, 1, none⟩ (.string (imag q))).setCell ⟨b9, 0, none⟩ (.bool (ineg r))).setCell ⟨b9, 1, none⟩ (.string (imag r)) = wz := ⟨_, rfl⟩
     rw [hwz] at n8s sfin
     (try rw [hwz])
     clear hwz u0 u1 u2 u3 v0 v1 v2 v3
     have g0 := n8s.cell (j := 0) rfl
     have g1 := n8s.cell (j := 1) rfl
     have i3z := I3.out.keep sfin
     have k0 := i3z.frozen 0
     have k1 := i3z.frozen 1
     have k2 := i3z.cell (j := 0) rfl
     have k3 := i3z.cell (j := 1) rfl
     have hKz := (sfin.block D (Array.getElem?_eq_some_iff.1 hK0).1).trans hK0
     have hb5 := ((I4.out.trans (sfin.mono (by omega))).setCell (p := ⟨w.heap.size + 1, 0, none⟩) (show w.heap.size ≤ w.heap.size + 1 by omega) (.bool (ineg q))).setCell (p := ⟨w.heap.size + 1, 1, none⟩) (show w.heap.size ≤ w.heap.size + 1 by omega) (.string (imag q))
     have i3f := (i3z.set 0 (.bool (ineg q))).set 1 (.string (imag q))
     have HB5 := Lib.hid hb5; clear hb5
     have I3F := Lib.hid i3f; clear i3f
     have HKZ := Lib.hid hKz; clear hKz
     gi_wp2
     refine leaves_marks w3.heap.size (fun W => Below w.heap.size w W ∧ Blk W (w.heap.size + 1) 28 [.bool (ineg q), .string (imag q)]) (fun W D hB hk hD => ⟨hk.1.grown (grownBy_putObj' W D _) hk.1.size (fun j' e' => by cases e'; omega), hk.2.of_block (World.putObj_heap_other (by omega))⟩) (fun W hk => ?hfin) [D] _ ⟨HB5.out, I3F.out⟩ (fun D' h' => ?hd) (List.nodup_cons.2 ⟨by simp, List.nodup_nil⟩) (fun D' h' => ?hge)
     case hfin =>
      have e0 := hk.2.cell (j := 0) rfl
      have e1 := hk.2.cell (j := 1) rfl
      refine ⟨_, ?_, hk.1, rfl⟩
      simp [results, Tryz.results16, go_sem, e0, e1, IntV]
     case hd =>
      obtain rfl : D' = D := by simpa using h'
      exact ((Below.heap_setCell _ _ _ D' (by simp; omega)).trans (Below.heap_setCell _ _ _ D' (by simp; omega))).trans HKZ.out
     case hge =>
      obtain rfl : D' = D := by simpa using h'
      exact hDge
    ·
     go_simp
     have ne26 : Blk (wd4.alloc (.cells #[.bool false, .string ⟨#[]⟩] 28)) wd4.heap.size 28 [.bool false, .string ⟨#[]⟩] := Blk.new wd4 _ _
     have sd25 : Below W.heap.size W (wd4.alloc (.cells #[.bool false, .string ⟨#[]⟩] 28)) := sd6.alloc sd6.size _
     refine hK.out _ _ ?_ (fun hG24 => ?_)
     ·
      ((try dsimp only); go_keep)
     clear hK K
     (try simp only [Act.put, zA, zB, zC])
     obtain ⟨wx23, hwx27⟩ : ∃ wx23, (wd4.alloc (.cells #[.bool false, .string ⟨#[]⟩] 28)) = wx23 := ⟨_, rfl⟩
     rw [hwx27] at ne26 sd25
     (try rw [hwx27])
     (try rw [hwx27] at hG24)
     obtain ⟨b9, hbx28⟩ : ∃ b9, b9 = wd4.heap.size := ⟨_, rfl⟩
     have hge29 : W.heap.size ≤ b9 := by rw [hbx28]; exact sd6.size
     rw [← hbx28] at ne26 
     (try rw [← hbx28])
     clear hbx28 hwx27
     have hlwx23 : W.heap.size ≤ wx23.heap.size := sd25.size
     refine zR 8 (h := fun K hK => ?_)
     go_simp
     have ne33 : Blk (wx23.alloc (.cells #[.bool false, .string ⟨#[]⟩] 28)) wx23.heap.size 28 [.bool false, .string ⟨#[]⟩] := Blk.new wx23 _ _
     have sd32 : Below W.heap.size W (wx23.alloc (.cells #[.bool false, .string ⟨#[]⟩] 28)) := sd25.alloc sd25.size _
     have hlt38 : b9 < wx23.heap.size := ne26.lt
     have ne37 := Blk.alloc ne26 (.cells #[.bool false, .string ⟨#[]⟩] 28)
     refine hK.out _ _ ?_ (fun hG31 => ?_)
     ·
      ((try dsimp only); go_keep)
     clear hK K
     (try simp only [Act.put, zA, zB, zC])
     obtain ⟨wx30, hwx34⟩ : ∃ wx30, (wx23.alloc (.cells #[.bool false, .string ⟨#[]⟩] 28)) = wx30 := ⟨_, rfl⟩
     rw [hwx34] at ne33 sd32 ne37
     (try rw [hwx34])
     (try rw [hwx34] at hG31)
     obtain ⟨b8, hbx35⟩ : ∃ b8, b8 = wx23.heap.size := ⟨_, rfl⟩
     have hge36 : W.heap.size ≤ b8 := by rw [hbx35]; exact sd25.size
     rw [← hbx35] at ne33 hlt38
     (try rw [← hbx35])
     clear hbx35 hwx34
     have hlwx30 : W.heap.size ≤ wx30.heap.size := sd32.size
     have h8l := ne33.lt
     have h9l := ne37.lt
     have u0 := ne33.cell (j := 0) rfl
     have u1 := ne33.cell (j := 1) rfl
     have u2 := ne37.cell (j := 0) rfl
     have u3 := ne37.cell (j := 1) rfl
     have v0 := ne33.frozen 0
     have v1 := ne33.frozen 1
     have v2 := ne37.frozen 0
     have v3 := ne37.frozen 1
     have m0 : ¬ b8 = tb := by omega
     have m1 : ¬ b9 = tb := by omega
     have m2 : ¬ tb = b8 := by omega
     have m3 : ¬ tb = b9 := by omega
     have m4 : ¬ b8 = b9 := by omega
     have m5 : ¬ b9 = b8 := by omega
     have m6 : ¬ w.heap.size + 1 = b8 := by omega
     have m7 : ¬ w.heap.size + 1 = b9 := by omega
     have m8 : ¬ b8 = w.heap.size + 1 := by omega
     refine zR 10 (h := fun K hK => ?_)
     go_simp
     refine hK.out _ _ ?_ (fun hT1 => ?_)
     ·
      ((try dsimp only); go_keep)
     clear hK K
     (try simp only [Act.put, zA, zB, zC])
     refine zR 11 (h := fun K hK => ?_)
     go_simp
     refine hK.out _ _ ?_ (fun hT2 => ?_)
     ·
      ((try dsimp only); go_keep)
     clear hK K
     (try simp only [Act.put, zA, zB, zC])
     refine zT 12 (h := ?_)
     (try simp only [Act.put, zA, zB, zC])
     refine wpAnyH_done (by kernel_rfl) ?_ _
     unfold nOnly
     (try simp only [List.getElem_toArray, List.getElem_cons_zero, List.getElem_cons_succ, Act.put, zA, zB, zC])
     have n8s := (((ne33.set 0 (.bool (ineg q))).set 1 (.string (imag q))).setOther (a := ⟨b9, 0, none⟩) m5 (.bool (ineg r))).setOther (a := ⟨b9, 1, none⟩) m5 (.string (imag r))
     have sfin := (((sd32.setCell (p := ⟨b8, 0, none⟩) (show W.heap.size ≤ b8 by omega) (.bool (ineg q))).setCell (p := ⟨b8, 1, none⟩) (show W.heap.size ≤ b8 by omega) (.string (imag q))).setCell (p := ⟨b9, 0, none⟩) (show W.heap.size ≤ b9 by omega) (.bool (ineg r))).setCell (p := ⟨b9, 1, none⟩) (show W.heap.size ≤ b9 by omega) (.string (imag r))
     obtain ⟨wz, hwz⟩ : ∃ wz, (((wx30.setCell ⟨b8, 0, none⟩ (.bool (ineg q))).setCell ⟨b8, 1, none⟩ (.string (imag q))).setCell ⟨b9, 0, none⟩ (.bool (ineg r))).setCell ⟨b9, 1, none⟩ (.string (imag r)) = wz := ⟨_, rfl⟩
     rw [hwz] at n8s sfin
     (try rw [hwz])
     clear hwz u0 u1 u2 u3 v0 v1 v2 v3
     have g0 := n8s.cell (j := 0) rfl
     have g1 := n8s.cell (j := 1) rfl
     have i3z := I3.out.keep sfin
     have k0 := i3z.frozen 0
     have k1 := i3z.frozen 1
     have k2 := i3z.cell (j := 0) rfl
     have k3 := i3z.cell (j := 1) rfl
     have hKz := (sfin.block D (Array.getElem?_eq_some_iff.1 hK0).1).trans hK0
     have hb5 := ((I4.out.trans (sfin.mono (by omega))).setCell (p := ⟨w.heap.size + 1, 0, none⟩) (show w.heap.size ≤ w.heap.size + 1 by omega) (.bool (ineg q))).setCell (p := ⟨w.heap.size + 1, 1, none⟩) (show w.heap.size ≤ w.heap.size + 1 by omega) (.string (imag q))
     have i3f := (i3z.set 0 (.bool (ineg q))).set 1 (.string (imag q))
     have HB5 := Lib.hid hb5; clear hb5
     have I3F := Lib.hid i3f; clear i3f
     have HKZ := Lib.hid hKz; clear hKz
     gi_wp2
     refine leaves_marks w3.heap.size (fun W => Below w.heap.size w W ∧ Blk W (w.heap.size + 1) 28 [.bool (ineg q), .string (imag q)]) (fun W D hB hk hD => ⟨hk.1.grown (grownBy_putObj' W D _) hk.1.size (fun j' e' => by cases e'; omega), hk.2.of_block (World.putObj_heap_other (by omega))⟩) (fun W hk => ?hfin) [D] _ ⟨HB5.out, I3F.out⟩ (fun D' h' => ?hd) (List.nodup_cons.2 ⟨by simp, List.nodup_nil⟩) (fun D' h' => ?hge)
     case hfin =>
      have e0 := hk.2.cell (j := 0) rfl
      have e1 := hk.2.cell (j := 1) rfl
      refine ⟨_, ?_, hk.1, rfl⟩
      simp [results, Tryz.results16, go_sem, e0, e1, IntV]
     case hd =>
      obtain rfl : D' = D := by simpa using h'
      exact ((Below.heap_setCell _ _ _ D' (by simp; omega)).trans (Below.heap_setCell _ _ _ D' (by simp; omega))).trans HKZ.out
     case hge =>
      obtain rfl : D' = D := by simpa using h'
      exact hDge
   ·
    go_simp
    have ne42 : Blk (wd1.alloc (.cells #[.bool false, .string ⟨#[]⟩] 28)) wd1.heap.size 28 [.bool false, .string ⟨#[]⟩] := Blk.new wd1 _ _
    have sd41 : Below W.heap.size W (wd1.alloc (.cells #[.bool false, .string ⟨#[]⟩] 28)) := sd3.alloc sd3.size _
    refine hK.out _ _ ?_ (fun hG40 => ?_)
    ·
     ((try dsimp only); go_keep)
    clear hK K
    (try simp only [Act.put, zA, zB, zC])
    obtain ⟨wx39, hwx43⟩ : ∃ wx39, (wd1.alloc (.cells #[.bool false, .string ⟨#[]⟩] 28)) = wx39 := ⟨_, rfl⟩
    rw [hwx43] at ne42 sd41
    (try rw [hwx43])
    (try rw [hwx43] at hG40)
    obtain ⟨b8, hbx44⟩ : ∃ b8, b8 = wd1.heap.size := ⟨_, rfl⟩
    have hge45 : W.heap.size ≤ b8 := by rw [hbx44]; exact sd3.size
    rw [← hbx44] at ne42 
    (try rw [← hbx44])
    clear hbx44 hwx43
    have hlwx39 : W.heap.size ≤ wx39.heap.size := sd41.size
    refine wpAnyH_ready (rs := [3, 9]) (by kernel_rfl) (by simp) ?_
    refine AllReadyH.cons rfl (fun K hK => ?_) (AllReadyH.cons rfl (fun K hK => ?_) (AllReadyH.nil))
    ·
     go_simp
     go_at_call 46
     refine (HDV.out _).mono ?_
     rintro e' wd46 ⟨hq, rfl⟩
     dsimp only
     have z0 := (hq.cell (p := ⟨tb, 0, none⟩) (show tb < wx39.heap.size by omega)).trans hG40.1
     have z1 := (hq.cell (p := ⟨tb, 1, none⟩) (show tb < wx39.heap.size by omega)).trans hG40.2
     refine hK.out _ _ ⟨z0, z1⟩ (fun hG47 => ?_)
     clear hK K z0 z1
     (try simp only [Act.put, zA, zB, zC])
     have sd48 : Below W.heap.size W wd46 := sd41.trans (hq.mono sd41.size)
     have ne49 := Blk.keep (w := wx39) ne42 hq
     clear hq
     have hlwd46 : W.heap.size ≤ wd46.heap.size := sd48.size
     refine zT 4 (h := ?_)
     (try simp only [Act.put, zA, zB, zC])
     refine zT 5 (h := ?_)
     (try simp only [Act.put, zA, zB, zC])
     refine zT 6 (h := ?_)
     (try simp only [Act.put, zA, zB, zC])
     refine zT 7 (h := ?_)
     (try simp only [Act.put, zA, zB, zC])
     refine zR 9 (h := fun K hK => ?_)
     go_simp
     have ne53 : Blk (wd46.alloc (.cells #[.bool false, .string ⟨#[]⟩] 28)) wd46.heap.size 28 [.bool false, .string ⟨#[]⟩] := Blk.new wd46 _ _
     have sd52 : Below W.heap.size W (wd46.alloc (.cells #[.bool false, .string ⟨#[]⟩] 28)) := sd48.alloc sd48.size _
     have hlt58 : b8 < wd46.heap.size := ne49.lt
     have ne57 := Blk.alloc ne49 (.cells #[.bool false, .string ⟨#[]⟩] 28)
     refine hK.out _ _ ?_ (fun hG51 => ?_)
     ·
      ((try dsimp only); go_keep)
     clear hK K
     (try simp only [Act.put, zA, zB, zC])
     obtain ⟨wx50, hwx54⟩ : ∃ wx50, (wd46.alloc (.cells #[.bool false, .string ⟨#[]⟩] 28)) = wx50 := ⟨_, rfl⟩
     rw [hwx54] at ne53 sd52 ne57
     (try rw [hwx54])
     (try rw [hwx54] at hG51)
     obtain ⟨b9, hbx55⟩ : ∃ b9, b9 = wd46.heap.size := ⟨_, rfl⟩
     have hge56 : W.heap.size ≤ b9 := by rw [hbx55]; exact sd48.size
     rw [← hbx55] at ne53 hlt58
     (try rw [← hbx55])
     clear hbx55 hwx54
     have hlwx50 : W.heap.size ≤ wx50.heap.size := sd52.size
     have h8l := ne57.lt
     have h9l := ne53.lt
     have u0 := ne57.cell (j := 0) rfl
     have u1 := ne57.cell (j := 1) rfl
     have u2 := ne53.cell (j := 0) rfl
     have u3 := ne53.cell (j := 1) rfl
     have v0 := ne57.frozen 0
     have v1 := ne57.frozen 1
     have v2 := ne53.frozen 0
     have v3 := ne53.frozen 1
     have m0 : ¬ b8 = tb := by omega
     have m1 : ¬ b9 = tb := by omega
     have m2 : ¬ tb = b8 := by omega
     have m3 : ¬ tb = b9 := by omega
     have m4 : ¬ b8 = b9 := by omega
     have m5 : ¬ b9 = b8 := by omega
     have m6 : ¬ w.heap.size + 1 = b8 := by omega
     have m7 : ¬ w.heap.size + 1 = b9 := by omega
     have m8 : ¬ b8 = w.heap.size + 1 := by omega
     refine zR 10 (h := fun K hK => ?_)
     go_simp
     refine hK.out _ _ ?_ (fun hT1 => ?_)
     ·
      ((try dsimp only); go_keep)
     clear hK K
     (try simp only [Act.put, zA, zB, zC])
     refine zR 11 (h := fun K hK => ?_)
     go_simp
     refine hK.out _ _ ?_ (fun hT2 => ?_)
     ·
      ((try dsimp only); go_keep)
     clear hK K
     (try simp only [Act.put, zA, zB, zC])
     refine zT 12 (h := ?_)
     (try simp only [Act.put, zA, zB, zC])
     refine wpAnyH_done (by kernel_rfl) ?_ _
     unfold nOnly
     (try simp only [List.getElem_toArray, List.getElem_cons_zero, List.getElem_cons_succ, Act.put, zA, zB, zC])
     have n8s := (((ne57.set 0 (.bool (ineg q))).set 1 (.string (imag q))).setOther (a := ⟨b9, 0, none⟩) m5 (.bool (ineg r))).setOther (a := ⟨b9, 1, none⟩) m5 (.string (imag r))
     have sfin := (((sd52.setCell (p := ⟨b8, 0, none⟩) (show W.heap.size ≤ b8 by omega) (.bool (ineg q))).setCell (p := ⟨b8, 1, none⟩) (show W.heap.size ≤ b8 by omega) (.string (imag q))).setCell (p := ⟨b9, 0, none⟩) (show W.heap.size ≤ b9 by omega) (.bool (ineg r))).setCell (p := ⟨b9, 1, none⟩) (show W.heap.size ≤ b9 by omega) (.string (imag r))
     obtain ⟨wz, hwz⟩ : ∃ wz, (((wx50.setCell ⟨b8, 0, none⟩ (.bool (ineg q))).setCell ⟨b8, 1, none⟩ (.string (imag q))).setCell ⟨b9, 0, none⟩ (.bool (ineg r))).setCell ⟨b9, 1, none⟩ (.string (imag r)) = wz := ⟨_, rfl⟩
     rw [hwz] at n8s sfin
     (try rw [hwz])
     clear hwz u0 u1 u2 u3 v0 v1 v2 v3
     have g0 := n8s.cell (j := 0) rfl
     have g1 := n8s.cell (j := 1) rfl
     have i3z := I3.out.keep sfin
     have k0 := i3z.frozen 0
     have k1 := i3z.frozen 1
     have k2 := i3z.cell (j := 0) rfl
     have k3 := i3z.cell (j := 1) rfl
     have hKz := (sfin.block D (Array.getElem?_eq_some_iff.1 hK0).1).trans hK0
     have hb5 := ((I4.out.trans (sfin.mono (by omega))).setCell (p := ⟨w.heap.size + 1, 0, none⟩) (show w.heap.size ≤ w.heap.size + 1 by omega) (.bool (ineg q))).setCell (p := ⟨w.heap.size + 1, 1, none⟩) (show w.heap.size ≤ w.heap.size + 1 by omega) (.string (imag q))
     have i3f := (i3z.set 0 (.bool (ineg q))).set 1 (.string (imag q))
     have HB5 := Lib.hid hb5; clear hb5
     have I3F := Lib.hid i3f; clear i3f
     have HKZ := Lib.hid hKz; clear hKz
     gi_wp2
     refine leaves_marks w3.heap.size (fun W => Below w.heap.size w W ∧ Blk W (w.heap.size + 1) 28 [.bool (ineg q), .string (imag q)]) (fun W D hB hk hD => ⟨hk.1.grown (grownBy_putObj' W D _) hk.1.size (fun j' e' => by cases e'; omega), hk.2.of_block (World.putObj_heap_other (by omega))⟩) (fun W hk => ?hfin) [D] _ ⟨HB5.out, I3F.out⟩ (fun D' h' => ?hd) (List.nodup_cons.2 ⟨by simp, List.nodup_nil⟩) (fun D' h' => ?hge)
     case hfin =>
      have e0 := hk.2.cell (j := 0) rfl
      have e1 := hk.2.cell (j := 1) rfl
      refine ⟨_, ?_, hk.1, rfl⟩
      simp [results, Tryz.results16, go_sem, e0, e1, IntV]
     case hd =>
      obtain rfl : D' = D := by simpa using h'
      exact ((Below.heap_setCell _ _ _ D' (by simp; omega)).trans (Below.heap_setCell _ _ _ D' (by simp; omega))).trans HKZ.out
     case hge =>
      obtain rfl : D' = D := by simpa using h'
      exact hDge
    ·
     go_simp
     have ne62 : Blk (wx39.alloc (.cells #[.bool false, .string ⟨#[]⟩] 28)) wx39.heap.size 28 [.bool false, .string ⟨#[]⟩] := Blk.new wx39 _ _
     have sd61 : Below W.heap.size W (wx39.alloc (.cells #[.bool false, .string ⟨#[]⟩] 28)) := sd41.alloc sd41.size _
     have hlt67 : b8 < wx39.heap.size := ne42.lt
     have ne66 := Blk.alloc ne42 (.cells #[.bool false, .string ⟨#[]⟩] 28)
     refine hK.out _ _ ?_ (fun hG60 => ?_)
     ·
      ((try dsimp only); go_keep)
     clear hK K
     (try simp only [Act.put, zA, zB, zC])
     obtain ⟨wx59, hwx63⟩ : ∃ wx59, (wx39.alloc (.cells #[.bool false, .string ⟨#[]⟩] 28)) = wx59 := ⟨_, rfl⟩
     rw [hwx63] at ne62 sd61 ne66
     (try rw [hwx63])
     (try rw [hwx63] at hG60)
     obtain ⟨b9, hbx64⟩ : ∃ b9, b9 = wx39.heap.size := ⟨_, rfl⟩
     have hge65 : W.heap.size ≤ b9 := by rw [hbx64]; exact sd41.size
     rw [← hbx64] at ne62 hlt67
     (try rw [← hbx64])
     clear hbx64 hwx63
     have hlwx59 : W.heap.size ≤ wx59.heap.size := sd61.size
     refine zR 3 (h := fun K hK => ?_)
     go_simp
     go_at_call 46
     refine (HDV.out _).mono ?_
     rintro e' wd68 ⟨hq, rfl⟩
     dsimp only
     have z0 := (hq.cell (p := ⟨tb, 0, none⟩) (show tb < wx59.heap.size by omega)).trans hG60.1
     have z1 := (hq.cell (p := ⟨tb, 1, none⟩) (show tb < wx59.heap.size by omega)).trans hG60.2
     refine hK.out _ _ ⟨z0, z1⟩ (fun hG69 => ?_)
     clear hK K z0 z1
     (try simp only [Act.put, zA, zB, zC])
     have sd70 : Below W.heap.size W wd68 := sd61.trans (hq.mono sd61.size)
     have ne71 := Blk.keep (w := wx59) ne66 hq
     have ne72 := Blk.keep (w := wx59) ne62 hq
     clear hq
     have hlwd68 : W.heap.size ≤ wd68.heap.size := sd70.size
     refine zT 4 (h := ?_)
     (try simp only [Act.put, zA, zB, zC])
     refine zT 5 (h := ?_)
     (try simp only [Act.put, zA, zB, zC])
     refine zT 6 (h := ?_)
     (try simp only [Act.put, zA, zB, zC])
     refine zT 7 (h := ?_)
     (try simp only [Act.put, zA, zB, zC])
     have h8l := ne71.lt
     have h9l := ne72.lt
     have u0 := ne71.cell (j := 0) rfl
     have u1 := ne71.cell (j := 1) rfl
     have u2 := ne72.cell (j := 0) rfl
     have u3 := ne72.cell (j := 1) rfl
     have v0 := ne71.frozen 0
     have v1 := ne71.frozen 1
     have v2 := ne72.frozen 0
     have v3 := ne72.frozen 1
     have m0 : ¬ b8 = tb := by omega
     have m1 : ¬ b9 = tb := by omega
     have m2 : ¬ tb = b8 := by omega
     have m3 : ¬ tb = b9 := by omega
     have m4 : ¬ b8 = b9 := by omega
     have m5 : ¬ b9 = b8 := by omega
     have m6 : ¬ w.heap.size + 1 = b8 := by omega
     have m7 : ¬ w.heap.size + 1 = b9 := by omega
     have m8 : ¬ b8 = w.heap.size + 1 := by omega
     refine zR 10 (h := fun K hK => ?_)
     go_simp
     refine hK.out _ _ ?_ (fun hT1 => ?_)
     ·
      ((try dsimp only); go_keep)
     clear hK K
     (try simp only [Act.put, zA, zB, zC])
     refine zR 11 (h := fun K hK => ?_)
     go_simp
     refine hK.out _ _ ?_ (fun hT2 => ?_)
     ·
      ((try dsimp only); go_keep)
     clear hK K
     (try simp only [Act.put, zA, zB, zC])
     refine zT 12 (h := ?_)
     (try simp only [Act.put, zA, zB, zC])
     refine wpAnyH_done (by kernel_rfl) ?_ _
     unfold nOnly
     (try simp only [List.getElem_toArray, List.getElem_cons_zero, List.getElem_cons_succ, Act.put, zA, zB, zC])
     have n8s := (((ne71.set 0 (.bool (ineg q))).set 1 (.string (imag q))).setOther (a := ⟨b9, 0, none⟩) m5 (.bool (ineg r))).setOther (a := ⟨b9, 1, none⟩) m5 (.string (imag r))
     have sfin := (((sd70.setCell (p := ⟨b8, 0, none⟩) (show W.heap.size ≤ b8 by omega) (.bool (ineg q))).setCell (p := ⟨b8, 1, none⟩) (show W.heap.size ≤ b8 by omega) (.string (imag q))).setCell (p := ⟨b9, 0, none⟩) (show W.heap.size ≤ b9 by omega) (.bool (ineg r))).setCell (p := ⟨b9, 1, none⟩) (show W.heap.size ≤ b9 by omega) (.string (imag r))
     obtain ⟨wz, hwz⟩ : ∃ wz, (((wd68.setCell ⟨b8, 0, none⟩ (.bool (ineg q))).setCell ⟨b8, 1, none⟩ (.string (imag q))).setCell ⟨b9, 0, none⟩ (.bool (ineg r))).setCell ⟨b9, 1, none⟩ (.string (imag r)) = wz := ⟨_, rfl⟩
     rw [hwz] at n8s sfin
     (try rw [hwz])
     clear hwz u0 u1 u2 u3 v0 v1 v2 v3
     have g0 := n8s.cell (j := 0) rfl
     have g1 := n8s.cell (j := 1) rfl
     have i3z := I3.out.keep sfin
     have k0 := i3z.frozen 0
     have k1 := i3z.frozen 1
     have k2 := i3z.cell (j := 0) rfl
     have k3 := i3z.cell (j := 1) rfl
     have hKz := (sfin.block D (Array.getElem?_eq_some_iff.1 hK0).1).trans hK0
     have hb5 := ((I4.out.trans (sfin.mono (by omega))).setCell (p := ⟨w.heap.size + 1, 0, none⟩) (show w.heap.size ≤ w.heap.size + 1 by omega) (.bool (ineg q))).setCell (p := ⟨w.heap.size + 1, 1, none⟩) (show w.heap.size ≤ w.heap.size + 1 by omega) (.string (imag q))
     have i3f := (i3z.set 0 (.bool (ineg q))).set 1 (.string (imag q))
     have HB5 := Lib.hid hb5; clear hb5
     have I3F := Lib.hid i3f; clear i3f
     have HKZ := Lib.hid hKz; clear hKz
     gi_wp2
     refine leaves_marks w3.heap.size (fun W => Below w.heap.size w W ∧ Blk W (w.heap.size + 1) 28 [.bool (ineg q), .string (imag q)]) (fun W D hB hk hD => ⟨hk.1.grown (grownBy_putObj' W D _) hk.1.size (fun j' e' => by cases e'; omega), hk.2.of_block (World.putObj_heap_other (by omega))⟩) (fun W hk => ?hfin) [D] _ ⟨HB5.out, I3F.out⟩ (fun D' h' => ?hd) (List.nodup_cons.2 ⟨by simp, List.nodup_nil⟩) (fun D' h' => ?hge)
     case hfin =>
      have e0 := hk.2.cell (j := 0) rfl
      have e1 := hk.2.cell (j := 1) rfl
      refine ⟨_, ?_, hk.1, rfl⟩
      simp [results, Tryz.results16, go_sem, e0, e1, IntV]
     case hd =>
      obtain rfl : D' = D := by simpa using h'
      exact ((Below.heap_setCell _ _ _ D' (by simp; omega)).trans (Below.heap_setCell _ _ _ D' (by simp; omega))).trans HKZ.out
     case hge =>
      obtain rfl : D' = D := by simpa using h'
      exact hDge
   ·
    go_simp
    have ne76 : Blk (wd1.alloc (.cells #[.bool false, .string ⟨#[]⟩] 28)) wd1.heap.size 28 [.bool false, .string ⟨#[]⟩] := Blk.new wd1 _ _
    have sd75 : Below W.heap.size W (wd1.alloc (.cells #[.bool false, .string ⟨#[]⟩] 28)) := sd3.alloc sd3.size _
    refine hK.out _ _ ?_ (fun hG74 => ?_)
    ·
     ((try dsimp only); go_keep)
    clear hK K
    (try simp only [Act.put, zA, zB, zC])
    obtain ⟨wx73, hwx77⟩ : ∃ wx73, (wd1.alloc (.cells #[.bool false, .string ⟨#[]⟩] 28)) = wx73 := ⟨_, rfl⟩
    rw [hwx77] at ne76 sd75
    (try rw [hwx77])
    (try rw [hwx77] at hG74)
    obtain ⟨b9, hbx78⟩ : ∃ b9, b9 = wd1.heap.size := ⟨_, rfl⟩
    have hge79 : W.heap.size ≤ b9 := by rw [hbx78]; exact sd3.size
    rw [← hbx78] at ne76 
    (try rw [← hbx78])
    clear hbx78 hwx77
    have hlwx73 : W.heap.size ≤ wx73.heap.size := sd75.size
    refine wpAnyH_ready (rs := [3, 8]) (by kernel_rfl) (by simp) ?_
    refine AllReadyH.cons rfl (fun K hK => ?_) (AllReadyH.cons rfl (fun K hK => ?_) (AllReadyH.nil))
    ·
     go_simp
     go_at_call 46
     refine (HDV.out _).mono ?_
     rintro e' wd80 ⟨hq, rfl⟩
     dsimp only
     have z0 := (hq.cell (p := ⟨tb, 0, none⟩) (show tb < wx73.heap.size by omega)).trans hG74.1
     have z1 := (hq.cell (p := ⟨tb, 1, none⟩) (show tb < wx73.heap.size by omega)).trans hG74.2
     refine hK.out _ _ ⟨z0, z1⟩ (fun hG81 => ?_)
     clear hK K z0 z1
     (try simp only [Act.put, zA, zB, zC])
     have sd82 : Below W.heap.size W wd80 := sd75.trans (hq.mono sd75.size)
     have ne83 := Blk.keep (w := wx73) ne76 hq
     clear hq
     have hlwd80 : W.heap.size ≤ wd80.heap.size := sd82.size
     refine zT 4 (h := ?_)
     (try simp only [Act.put, zA, zB, zC])
     refine zT 5 (h := ?_)
     (try simp only [Act.put, zA, zB, zC])
     refine zT 6 (h := ?_)
     (try simp only [Act.put, zA, zB, zC])
     refine zT 7 (h := ?_)
     (try simp only [Act.put, zA, zB, zC])
     refine zR 8 (h := fun K hK => ?_)
     go_simp
     have ne87 : Blk (wd80.alloc (.cells #[.bool false, .string ⟨#[]⟩] 28)) wd80.heap.size 28 [.bool false, .string ⟨#[]⟩] := Blk.new wd80 _ _
     have sd86 : Below W.heap.size W (wd80.alloc (.cells #[.bool false, .string ⟨#[]⟩] 28)) := sd82.alloc sd82.size _
     have hlt92 : b9 < wd80.heap.size := ne83.lt
     have ne91 := Blk.alloc ne83 (.cells #[.bool false, .string ⟨#[]⟩] 28)
     refine hK.out _ _ ?_ (fun hG85 => ?_)
     ·
      ((try dsimp only); go_keep)
     clear hK K
     (try simp only [Act.put, zA, zB, zC])
     obtain ⟨wx84, hwx88⟩ : ∃ wx84, (wd80.alloc (.cells #[.bool false, .string ⟨#[]⟩] 28)) = wx84 := ⟨_, rfl⟩
     rw [hwx88] at ne87 sd86 ne91
     (try rw [hwx88])
     (try rw [hwx88] at hG85)
     obtain ⟨b8, hbx89⟩ : ∃ b8, b8 = wd80.heap.size := ⟨_, rfl⟩
     have hge90 : W.heap.size ≤ b8 := by rw [hbx89]; exact sd82.size
     rw [← hbx89] at ne87 hlt92
     (try rw [← hbx89])
     clear hbx89 hwx88
     have hlwx84 : W.heap.size ≤ wx84.heap.size := sd86.size
     have h8l := ne87.lt
     have h9l := ne91.lt
     have u0 := ne87.cell (j := 0) rfl
     have u1 := ne87.cell (j := 1) rfl
     have u2 := ne91.cell (j := 0) rfl
     have u3 := ne91.cell (j := 1) rfl
     have v0 := ne87.frozen 0
     have v1 := ne87.frozen 1
     have v2 := ne91.frozen 0
     have v3 := ne91.frozen 1
     have m0 : ¬ b8 = tb := by omega
     have m1 : ¬ b9 = tb := by omega
     have m2 : ¬ tb = b8 := by omega
     have m3 : ¬ tb = b9 := by omega
     have m4 : ¬ b8 = b9 := by omega
     have m5 : ¬ b9 = b8 := by omega
     have m6 : ¬ w.heap.size + 1 = b8 := by omega
     have m7 : ¬ w.heap.size + 1 = b9 := by omega
     have m8 : ¬ b8 = w.heap.size + 1 := by omega
     refine zR 10 (h := fun K hK => ?_)
     go_simp
     refine hK.out _ _ ?_ (fun hT1 => ?_)
     ·
      ((try dsimp only); go_keep)
     clear hK K
     (try simp only [Act.put, zA, zB, zC])
     refine zR 11 (h := fun K hK => ?_)
     go_simp
     refine hK.out _ _ ?_ (fun hT2 => ?_)
     ·
      ((try dsimp only); go_keep)
     clear hK K
     (try simp only [Act.put, zA, zB, zC])
     refine zT 12 (h := ?_)
     (try simp only [Act.put, zA, zB, zC])
     refine wpAnyH_done (by kernel_rfl) ?_ _
     unfold nOnly
     (try simp only [List.getElem_toArray, List.getElem_cons_zero, List.getElem_cons_succ, Act.put, zA, zB, zC])
     have n8s := (((ne87.set 0 (.bool (ineg q))).set 1 (.string (imag q))).setOther (a := ⟨b9, 0, none⟩) m5 (.bool (ineg r))).setOther (a := ⟨b9, 1, none⟩) m5 (.string (imag r))
     have sfin := (((sd86.setCell (p := ⟨b8, 0, none⟩) (show W.heap.size ≤ b8 by omega) (.bool (ineg q))).setCell (p := ⟨b8, 1, none⟩) (show W.heap.size ≤ b8 by omega) (.string (imag q))).setCell (p := ⟨b9, 0, none⟩) (show W.heap.size ≤ b9 by omega) (.bool (ineg r))).setCell (p := ⟨b9, 1, none⟩) (show W.heap.size ≤ b9 by omega) (.string (imag r))
     obtain ⟨wz, hwz⟩ : ∃ wz, (((wx84.setCell ⟨b8, 0, none⟩ (.bool (ineg q))).setCell ⟨b8, 1, none⟩ (.string (imag q))).setCell ⟨b9, 0, none⟩ (.bool (ineg r))).setCell ⟨b9, 1, none⟩ (.string (imag r)) = wz := ⟨_, rfl⟩
     rw [hwz] at n8s sfin
     (try rw [hwz])
     clear hwz u0 u1 u2 u3 v0 v1 v2 v3
     have g0 := n8s.cell (j := 0) rfl
     have g1 := n8s.cell (j := 1) rfl
     have i3z := I3.out.keep sfin
     have k0 := i3z.frozen 0
     have k1 := i3z.frozen 1
     have k2 := i3z.cell (j := 0) rfl
     have k3 := i3z.cell (j := 1) rfl
     have hKz := (sfin.block D (Array.getElem?_eq_some_iff.1 hK0).1).trans hK0
     have hb5 := ((I4.out.trans (sfin.mono (by omega))).setCell (p := ⟨w.heap.size + 1, 0, none⟩) (show w.heap.size ≤ w.heap.size + 1 by omega) (.bool (ineg q))).setCell (p := ⟨w.heap.size + 1, 1, none⟩) (show w.heap.size ≤ w.heap.size + 1 by omega) (.string (imag q))
     have i3f := (i3z.set 0 (.bool (ineg q))).set 1 (.string (imag q))
     have HB5 := Lib.hid hb5; clear hb5
     have I3F := Lib.hid i3f; clear i3f
     have HKZ := Lib.hid hKz; clear hKz
     gi_wp2
     refine leaves_marks w3.heap.size (fun W => Below w.heap.size w W ∧ Blk W (w.heap.size + 1) 28 [.bool (ineg q), .string (imag q)]) (fun W D hB hk hD => ⟨hk.1.grown (grownBy_putObj' W D _) hk.1.size (fun j' e' => by cases e'; omega), hk.2.of_block (World.putObj_heap_other (by omega))⟩) (fun W hk => ?hfin) [D] _ ⟨HB5.out, I3F.out⟩ (fun D' h' => ?hd) (List.nodup_cons.2 ⟨by simp, List.nodup_nil⟩) (fun D' h' => ?hge)
     case hfin =>
      have e0 := hk.2.cell (j := 0) rfl
      have e1 := hk.2.cell (j := 1) rfl
      refine ⟨_, ?_, hk.1, rfl⟩
      simp [results, Tryz.results16, go_sem, e0, e1, IntV]
     case hd =>
      obtain rfl : D' = D := by simpa using h'
      exact ((Below.heap_setCell _ _ _ D' (by simp; omega)).trans (Below.heap_setCell _ _ _ D' (by simp; omega))).trans HKZ.out
     case hge =>
      obtain rfl : D' = D := by simpa using h'
      exact hDge
    ·
     go_simp
     have ne96 : Blk (wx73.alloc (.cells #[.bool false, .string ⟨#[]⟩] 28)) wx73.heap.size 28 [.bool false, .string ⟨#[]⟩] := Blk.new wx73 _ _
     have sd95 : Below W.heap.size W (wx73.alloc (.cells #[.bool false, .string ⟨#[]⟩] 28)) := sd75.alloc sd75.size _
     have hlt101 : b9 < wx73.heap.size := ne76.lt
     have ne100 := Blk.alloc ne76 (.cells #[.bool false, .string ⟨#[]⟩] 28)
     refine hK.out _ _ ?_ (fun hG94 => ?_)
     ·
      ((try dsimp only); go_keep)
     clear hK K
     (try simp only [Act.put, zA, zB, zC])
     obtain ⟨wx93, hwx97⟩ : ∃ wx93, (wx73.alloc (.cells #[.bool false, .string ⟨#[]⟩] 28)) = wx93 := ⟨_, rfl⟩
     rw [hwx97] at ne96 sd95 ne100
     (try rw [hwx97])
     (try rw [hwx97] at hG94)
     obtain ⟨b8, hbx98⟩ : ∃ b8, b8 = wx73.heap.size := ⟨_, rfl⟩
     have hge99 : W.heap.size ≤ b8 := by rw [hbx98]; exact sd75.size
     rw [← hbx98] at ne96 hlt101
     (try rw [← hbx98])
     clear hbx98 hwx97
     have hlwx93 : W.heap.size ≤ wx93.heap.size := sd95.size
     refine zR 3 (h := fun K hK => ?_)
     go_simp
     go_at_call 46
     refine (HDV.out _).mono ?_
     rintro e' wd102 ⟨hq, rfl⟩
     dsimp only
     have z0 := (hq.cell (p := ⟨tb, 0, none⟩) (show tb < wx93.heap.size by omega)).trans hG94.1
     have z1 := (hq.cell (p := ⟨tb, 1, none⟩) (show tb < wx93.heap.size by omega)).trans hG94.2
     refine hK.out _ _ ⟨z0, z1⟩ (fun hG103 => ?_)
     clear hK K z0 z1
     (try simp only [Act.put, zA, zB, zC])
     have sd104 : Below W.heap.size W wd102 := sd95.trans (hq.mono sd95.size)
     have ne105 := Blk.keep (w := wx93) ne96 hq
     have ne106 := Blk.keep (w := wx93) ne100 hq
     clear hq
     have hlwd102 : W.heap.size ≤ wd102.heap.size := sd104.size
     refine zT 4 (h := ?_)
     (try simp only [Act.put, zA, zB, zC])
     refine zT 5 (h := ?_)
     (try simp only [Act.put, zA, zB, zC])
     refine zT 6 (h := ?_)
     (try simp only [Act.put, zA, zB, zC])
     refine zT 7 (h := ?_)
     (try simp only [Act.put, zA, zB, zC])
     have h8l := ne105.lt
     have h9l := ne106.lt
     have u0 := ne105.cell (j := 0) rfl
     have u1 := ne105.cell (j := 1) rfl
     have u2 := ne106.cell (j := 0) rfl
     have u3 := ne106.cell (j := 1) rfl
     have v0 := ne105.frozen 0
     have v1 := ne105.frozen 1
     have v2 := ne106.frozen 0
     have v3 := ne106.frozen 1
     have m0 : ¬ b8 = tb := by omega
     have m1 : ¬ b9 = tb := by omega
     have m2 : ¬ tb = b8 := by omega
     have m3 : ¬ tb = b9 := by omega
     have m4 : ¬ b8 = b9 := by omega
     have m5 : ¬ b9 = b8 := by omega
     have m6 : ¬ w.heap.size + 1 = b8 := by omega
     have m7 : ¬ w.heap.size + 1 = b9 := by omega
     have m8 : ¬ b8 = w.heap.size + 1 := by omega
     refine zR 10 (h := fun K hK => ?_)
     go_simp
     refine hK.out _ _ ?_ (fun hT1 => ?_)
     ·
      ((try dsimp only); go_keep)
     clear hK K
     (try simp only [Act.put, zA, zB, zC])
     refine zR 11 (h := fun K hK => ?_)
     go_simp
     refine hK.out _ _ ?_ (fun hT2 => ?_)
     ·
      ((try dsimp only); go_keep)
     clear hK K
     (try simp only [Act.put, zA, zB, zC])
     refine zT 12 (h := ?_)
     (try simp only [Act.put, zA, zB, zC])
     refine wpAnyH_done (by kernel_rfl) ?_ _
     unfold nOnly
     (try simp only [List.getElem_toArray, List.getElem_cons_zero, List.getElem_cons_succ, Act.put, zA, zB, zC])
     have n8s := (((ne105.set 0 (.bool (ineg q))).set 1 (.string (imag q))).setOther (a := ⟨b9, 0, none⟩) m5 (.bool (ineg r))).setOther (a := ⟨b9, 1, none⟩) m5 (.string (imag r))
     have sfin := (((sd104.setCell (p := ⟨b8, 0, none⟩) (show W.heap.size ≤ b8 by omega) (.bool (ineg q))).setCell (p := ⟨b8, 1, none⟩) (show W.heap.size ≤ b8 by omega) (.string (imag q))).setCell (p := ⟨b9, 0, none⟩) (show W.heap.size ≤ b9 by omega) (.bool (ineg r))).setCell (p := ⟨b9, 1, none⟩) (show W.heap.size ≤ b9 by omega) (.string (imag r))
     obtain ⟨wz, hwz⟩ : ∃ wz, (((wd102.setCell ⟨b8, 0, none⟩ (.bool (ineg q))).setCell ⟨b8, 1, none⟩ (.string (imag q))).setCell ⟨b9, 0, none⟩ (.bool (ineg r))).setCell ⟨b9, 1, none⟩ (.string (imag r)) = wz := ⟨_, rfl⟩
     rw [hwz] at n8s sfin
     (try rw [hwz])
     clear hwz u0 u1 u2 u3 v0 v1 v2 v3
     have g0 := n8s.cell (j := 0) rfl
     have g1 := n8s.cell (j := 1) rfl
     have i3z := I3.out.keep sfin
     have k0 := i3z.frozen 0
     have k1 := i3z.frozen 1
     have k2 := i3z.cell (j := 0) rfl
     have k3 := i3z.cell (j := 1) rfl
     have hKz := (sfin.block D (Array.getElem?_eq_some_iff.1 hK0).1).trans hK0
     have hb5 := ((I4.out.trans (sfin.mono (by omega))).setCell (p := ⟨w.heap.size + 1, 0, none⟩) (show w.heap.size ≤ w.heap.size + 1 by omega) (.bool (ineg q))).setCell (p := ⟨w.heap.size + 1, 1, none⟩) (show w.heap.size ≤ w.heap.size + 1 by omega) (.string (imag q))
     have i3f := (i3z.set 0 (.bool (ineg q))).set 1 (.string (imag q))
     have HB5 := Lib.hid hb5; clear hb5
     have I3F := Lib.hid i3f; clear i3f
     have HKZ := Lib.hid hKz; clear hKz
     gi_wp2
     refine leaves_marks w3.heap.size (fun W => Below w.heap.size w W ∧ Blk W (w.heap.size + 1) 28 [.bool (ineg q), .string (imag q)]) (fun W D hB hk hD => ⟨hk.1.grown (grownBy_putObj' W D _) hk.1.size (fun j' e' => by cases e'; omega), hk.2.of_block (World.putObj_heap_other (by omega))⟩) (fun W hk => ?hfin) [D] _ ⟨HB5.out, I3F.out⟩ (fun D' h' => ?hd) (List.nodup_cons.2 ⟨by simp, List.nodup_nil⟩) (fun D' h' => ?hge)
     case hfin =>
      have e0 := hk.2.cell (j := 0) rfl
      have e1 := hk.2.cell (j := 1) rfl
      refine ⟨_, ?_, hk.1, rfl⟩
      simp [results, Tryz.results16, go_sem, e0, e1, IntV]
     case hd =>
      obtain rfl : D' = D := by simpa using h'
      exact ((Below.heap_setCell _ _ _ D' (by simp; omega)).trans (Below.heap_setCell _ _ _ D' (by simp; omega))).trans HKZ.out
     case hge =>
      obtain rfl : D' = D := by simpa using h'
      exact hDge
  ·
   go_simp
   have ne110 : Blk ((W.alloc (.cells #[.bool false, .string ⟨#[]⟩] 28)).drew) W.heap.size 28 [.bool false, .string ⟨#[]⟩] := Blk.new W _ _
   have sd109 : Below W.heap.size W ((W.alloc (.cells #[.bool false, .string ⟨#[]⟩] 28)).drew) := ((Below.refl W.heap.size W).alloc (Nat.le_refl _) _).drew
   refine hK.out _ _ ?_ (fun hG108 => ?_)
   ·
    ((try dsimp only); go_keep)
   clear hK K
   (try simp only [Act.put, zA, zB, zC])
   obtain ⟨wx107, hwx111⟩ : ∃ wx107, ((W.alloc (.cells #[.bool false, .string ⟨#[]⟩] 28)).drew) = wx107 := ⟨_, rfl⟩
   rw [hwx111] at ne110 sd109
   (try rw [hwx111])
   (try rw [hwx111] at hG108)
   obtain ⟨b8, hbx112⟩ : ∃ b8, b8 = W.heap.size := ⟨_, rfl⟩
   have hge113 : W.heap.size ≤ b8 := by rw [hbx112]; exact sW.size
   rw [← hbx112] at ne110 
   (try rw [← hbx112])
   clear hbx112 hwx111
   have hlwx107 : W.heap.size ≤ wx107.heap.size := sd109.size
   refine wpAnyH_ready (rs := [2, 9]) (by kernel_rfl) (by simp) ?_
   refine AllReadyH.cons rfl (fun K hK => ?_) (AllReadyH.cons rfl (fun K hK => ?_) (AllReadyH.nil))
   ·
    go_simp
    go_at_call 28
    refine (HOFN.out _).mono ?_
    rintro e' wd114 ⟨hq, rfl⟩
    dsimp only
    have z0 := (hq.cell (p := ⟨tb, 0, none⟩) (show tb < wx107.heap.size by omega)).trans hG108.1
    have z1 := (hq.cell (p := ⟨tb, 1, none⟩) (show tb < wx107.heap.size by omega)).trans hG108.2
    refine hK.out _ _ ⟨z0, z1⟩ (fun hG115 => ?_)
    clear hK K z0 z1
    (try simp only [Act.put, zA, zB, zC])
    have sd116 : Below W.heap.size W wd114 := sd109.trans (hq.mono sd109.size)
    have ne117 := Blk.keep (w := wx107) ne110 hq
    clear hq
    have hlwd114 : W.heap.size ≤ wd114.heap.size := sd116.size
    refine wpAnyH_ready (rs := [3, 9]) (by kernel_rfl) (by simp) ?_
    refine AllReadyH.cons rfl (fun K hK => ?_) (AllReadyH.cons rfl (fun K hK => ?_) (AllReadyH.nil))
    ·
     go_simp
     go_at_call 46
     refine (HDV.out _).mono ?_
     rintro e' wd118 ⟨hq, rfl⟩
     dsimp only
     have z0 := (hq.cell (p := ⟨tb, 0, none⟩) (show tb < wd114.heap.size by omega)).trans hG115.1
     have z1 := (hq.cell (p := ⟨tb, 1, none⟩) (show tb < wd114.heap.size by omega)).trans hG115.2
     refine hK.out _ _ ⟨z0, z1⟩ (fun hG119 => ?_)
     clear hK K z0 z1
     (try simp only [Act.put, zA, zB, zC])
     have sd120 : Below W.heap.size W wd118 := sd116.trans (hq.mono sd116.size)
     have ne121 := Blk.keep (w := wd114) ne117 hq
     clear hq
     have hlwd118 : W.heap.size ≤ wd118.heap.size := sd120.size
     refine zT 4 (h := ?_)
     (try simp only [Act.put, zA, zB, zC])
     refine zT 5 (h := ?_)
     (try simp only [Act.put, zA, zB, zC])
     refine zT 6 (h := ?_)
     (try simp only [Act.put, zA, zB, zC])
     refine zT 7 (h := ?_)
     (try simp only [Act.put, zA, zB, zC])
     refine zR 9 (h := fun K hK => ?_)
     go_simp
     have ne125 : Blk (wd118.alloc (.cells #[.bool false, .string ⟨#[]⟩] 28)) wd118.heap.size 28 [.bool false, .string ⟨#[]⟩] := Blk.new wd118 _ _
     have sd124 : Below W.heap.size W (wd118.alloc (.cells #[.bool false, .string ⟨#[]⟩] 28)) := sd120.alloc sd120.size _
     have hlt130 : b8 < wd118.heap.size := ne121.lt
     have ne129 := Blk.alloc ne121 (.cells #[.bool false, .string ⟨#[]⟩] 28)
     refine hK.out _ _ ?_ (fun hG123 => ?_)
     ·
      ((try dsimp only); go_keep)
     clear hK K
     (try simp only [Act.put, zA, zB, zC])
     obtain ⟨wx122, hwx126⟩ : ∃ wx122, (wd118.alloc (.cells #[.bool false, .string ⟨#[]⟩] 28)) = wx122 := ⟨_, rfl⟩
     rw [hwx126] at ne125 sd124 ne129
     (try rw [hwx126])
     (try rw [hwx126] at hG123)
     obtain ⟨b9, hbx127⟩ : ∃ b9, b9 = wd118.heap.size := ⟨_, rfl⟩
     have hge128 : W.heap.size ≤ b9 := by rw [hbx127]; exact sd120.size
     rw [← hbx127] at ne125 hlt130
     (try rw [← hbx127])
     clear hbx127 hwx126
     have hlwx122 : W.heap.size ≤ wx122.heap.size := sd124.size
     have h8l := ne129.lt
     have h9l := ne125.lt
     have u0 := ne129.cell (j := 0) rfl
     have u1 := ne129.cell (j := 1) rfl
     have u2 := ne125.cell (j := 0) rfl
     have u3 := ne125.cell (j := 1) rfl
     have v0 := ne129.frozen 0
     have v1 := ne129.frozen 1
     have v2 := ne125.frozen 0
     have v3 := ne125.frozen 1
     have m0 : ¬ b8 = tb := by omega
     have m1 : ¬ b9 = tb := by omega
     have m2 : ¬ tb = b8 := by omega
     have m3 : ¬ tb = b9 := by omega
     have m4 : ¬ b8 = b9 := by omega
     have m5 : ¬ b9 = b8 := by omega
     have m6 : ¬ w.heap.size + 1 = b8 := by omega
     have m7 : ¬ w.heap.size + 1 = b9 := by omega
     have m8 : ¬ b8 = w.heap.size + 1 := by omega
     refine zR 10 (h := fun K hK => ?_)
     go_simp
     refine hK.out _ _ ?_ (fun hT1 => ?_)
     ·
      ((try dsimp only); go_keep)
     clear hK K
     (try simp only [Act.put, zA, zB, zC])
     refine zR 11 (h := fun K hK => ?_)
     go_simp
     refine hK.out _ _ ?_ (fun hT2 => ?_)
     ·
      ((try dsimp only); go_keep)
     clear hK K
     (try simp only [Act.put, zA, zB, zC])
     refine zT 12 (h := ?_)
     (try simp only [Act.put, zA, zB, zC])
     refine wpAnyH_done (by kernel_rfl) ?_ _
     unfold nOnly
     (try simp only [List.getElem_toArray, List.getElem_cons_zero, List.getElem_cons_succ, Act.put, zA, zB, zC])
     have n8s := (((ne129.set 0 (.bool (ineg q))).set 1 (.string (imag q))).setOther (a := ⟨b9, 0, none⟩) m5 (.bool (ineg r))).setOther (a := ⟨b9, 1, none⟩) m5 (.string (imag r))
     have sfin := (((sd124.setCell (p := ⟨b8, 0, none⟩) (show W.heap.size ≤ b8 by omega) (.bool (ineg q))).setCell (p := ⟨b8, 1, none⟩) (show W.heap.size ≤ b8 by omega) (.string (imag q))).setCell (p := ⟨b9, 0, none⟩) (show W.heap.size ≤ b9 by omega) (.bool (ineg r))).setCell (p := ⟨b9, 1, none⟩) (show W.heap.size ≤ b9 by omega) (.string (imag r))
     obtain ⟨wz, hwz⟩ : ∃ wz, (((wx122.setCell ⟨b8, 0, none⟩ (.bool (ineg q))).setCell ⟨b8, 1, none⟩ (.string (imag q))).setCell ⟨b9, 0, none⟩ (.bool (ineg r))).setCell ⟨b9, 1, none⟩ (.string (imag r)) = wz := ⟨_, rfl⟩
     rw [hwz] at n8s sfin
     (try rw [hwz])
     clear hwz u0 u1 u2 u3 v0 v1 v2 v3
     have g0 := n8s.cell (j := 0) rfl
     have g1 := n8s.cell (j := 1) rfl
     have i3z := I3.out.keep sfin
     have k0 := i3z.frozen 0
     have k1 := i3z.frozen 1
     have k2 := i3z.cell (j := 0) rfl
     have k3 := i3z.cell (j := 1) rfl
     have hKz := (sfin.block D (Array.getElem?_eq_some_iff.1 hK0).1).trans hK0
     have hb5 := ((I4.out.trans (sfin.mono (by omega))).setCell (p := ⟨w.heap.size + 1, 0, none⟩) (show w.heap.size ≤ w.heap.size + 1 by omega) (.bool (ineg q))).setCell (p := ⟨w.heap.size + 1, 1, none⟩) (show w.heap.size ≤ w.heap.size + 1 by omega) (.string (imag q))
     have i3f := (i3z.set 0 (.bool (ineg q))).set 1 (.string (imag q))
     have HB5 := Lib.hid hb5; clear hb5
     have I3F := Lib.hid i3f; clear i3f
     have HKZ := Lib.hid hKz; clear hKz
     gi_wp2
     refine leaves_marks w3.heap.size (fun W => Below w.heap.size w W ∧ Blk W (w.heap.size + 1) 28 [.bool (ineg q), .string (imag q)]) (fun W D hB hk hD => ⟨hk.1.grown (grownBy_putObj' W D _) hk.1.size (fun j' e' => by cases e'; omega), hk.2.of_block (World.putObj_heap_other (by omega))⟩) (fun W hk => ?hfin) [D] _ ⟨HB5.out, I3F.out⟩ (fun D' h' => ?hd) (List.nodup_cons.2 ⟨by simp, List.nodup_nil⟩) (fun D' h' => ?hge)
     case hfin =>
      have e0 := hk.2.cell (j := 0) rfl
      have e1 := hk.2.cell (j := 1) rfl
      refine ⟨_, ?_, hk.1, rfl⟩
      simp [results, Tryz.results16, go_sem, e0, e1, IntV]
     case hd =>
      obtain rfl : D' = D := by simpa using h'
      exact ((Below.heap_setCell _ _ _ D' (by simp; omega)).trans (Below.heap_setCell _ _ _ D' (by simp; omega))).trans HKZ.out
     case hge =>
      obtain rfl : D' = D := by simpa using h'
      exact hDge
    ·
     go_simp
     have ne134 : Blk (wd114.alloc (.cells #[.bool false, .string ⟨#[]⟩] 28)) wd114.heap.size 28 [.bool false, .string ⟨#[]⟩] := Blk.new wd114 _ _
     have sd133 : Below W.heap.size W (wd114.alloc (.cells #[.bool false, .string ⟨#[]⟩] 28)) := sd116.alloc sd116.size _
     have hlt139 : b8 < wd114.heap.size := ne117.lt
     have ne138 := Blk.alloc ne117 (.cells #[.bool false, .string ⟨#[]⟩] 28)
     refine hK.out _ _ ?_ (fun hG132 => ?_)
     ·
      ((try dsimp only); go_keep)
     clear hK K
     (try simp only [Act.put, zA, zB, zC])
     obtain ⟨wx131, hwx135⟩ : ∃ wx131, (wd114.alloc (.cells #[.bool false, .string ⟨#[]⟩] 28)) = wx131 := ⟨_, rfl⟩
     rw [hwx135] at ne134 sd133 ne138
     (try rw [hwx135])
     (try rw [hwx135] at hG132)
     obtain ⟨b9, hbx136⟩ : ∃ b9, b9 = wd114.heap.size := ⟨_, rfl⟩
     have hge137 : W.heap.size ≤ b9 := by rw [hbx136]; exact sd116.size
     rw [← hbx136] at ne134 hlt139
     (try rw [← hbx136])
     clear hbx136 hwx135
     have hlwx131 : W.heap.size ≤ wx131.heap.size := sd133.size
     refine zR 3 (h := fun K hK => ?_)
     go_simp
     go_at_call 46
     refine (HDV.out _).mono ?_
     rintro e' wd140 ⟨hq, rfl⟩
     dsimp only
     have z0 := (hq.cell (p := ⟨tb, 0, none⟩) (show tb < wx131.heap.size by omega)).trans hG132.1
     have z1 := (hq.cell (p := ⟨tb, 1, none⟩) (show tb < wx131.heap.size by omega)).trans hG132.2
     refine hK.out _ _ ⟨z0, z1⟩ (fun hG141 => ?_)
     clear hK K z0 z1
     (try simp only [Act.put, zA, zB, zC])
     have sd142 : Below W.heap.size W wd140 := sd133.trans (hq.mono sd133.size)
     have ne143 := Blk.keep (w := wx131) ne138 hq
     have ne144 := Blk.keep (w := wx131) ne134 hq
     clear hq
     have hlwd140 : W.heap.size ≤ wd140.heap.size := sd142.size
     refine zT 4 (h := ?_)
     (try simp only [Act.put, zA, zB, zC])
     refine zT 5 (h := ?_)
     (try simp only [Act.put, zA, zB, zC])
     refine zT 6 (h := ?_)
     (try simp only [Act.put, zA, zB, zC])
     refine zT 7 (h := ?_)
     (try simp only [Act.put, zA, zB, zC])
     have h8l := ne143.lt
     have h9l := ne144.lt
     have u0 := ne143.cell (j := 0) rfl
     have u1 := ne143.cell (j := 1) rfl
     have u2 := ne144.cell (j := 0) rfl
     have u3 := ne144.cell (j := 1) rfl
     have v0 := ne143.frozen 0
     have v1 := ne143.frozen 1
     have v2 := ne144.frozen 0
     have v3 := ne144.frozen 1
     have m0 : ¬ b8 = tb := by omega
     have m1 : ¬ b9 = tb := by omega
     have m2 : ¬ tb = b8 := by omega
     have m3 : ¬ tb = b9 := by omega
     have m4 : ¬ b8 = b9 := by omega
     have m5 : ¬ b9 = b8 := by omega
     have m6 : ¬ w.heap.size + 1 = b8 := by omega
     have m7 : ¬ w.heap.size + 1 = b9 := by omega
     have m8 : ¬ b8 = w.heap.size + 1 := by omega
     refine zR 10 (h := fun K hK => ?_)
     go_simp
     refine hK.out _ _ ?_ (fun hT1 => ?_)
     ·
      ((try dsimp only); go_keep)
     clear hK K
     (try simp only [Act.put, zA, zB, zC])
     refine zR 11 (h := fun K hK => ?_)
     go_simp
     refine hK.out _ _ ?_ (fun hT2 => ?_)
     ·
      ((try dsimp only); go_keep)
     clear hK K
     (try simp only [Act.put, zA, zB, zC])
     refine zT 12 (h := ?_)
     (try simp only [Act.put, zA, zB, zC])
     refine wpAnyH_done (by kernel_rfl) ?_ _
     unfold nOnly
     (try simp only [List.getElem_toArray, List.getElem_cons_zero, List.getElem_cons_succ, Act.put, zA, zB, zC])
     have n8s := (((ne143.set 0 (.bool (ineg q))).set 1 (.string (imag q))).setOther (a := ⟨b9, 0, none⟩) m5 (.bool (ineg r))).setOther (a := ⟨b9, 1, none⟩) m5 (.string (imag r))
     have sfin := (((sd142.setCell (p := ⟨b8, 0, none⟩) (show W.heap.size ≤ b8 by omega) (.bool (ineg q))).setCell (p := ⟨b8, 1, none⟩) (show W.heap.size ≤ b8 by omega) (.string (imag q))).setCell (p := ⟨b9, 0, none⟩) (show W.heap.size ≤ b9 by omega) (.bool (ineg r))).setCell (p := ⟨b9, 1, none⟩) (show W.heap.size ≤ b9 by omega) (.string (imag r))
     obtain ⟨wz, hwz⟩ : ∃ wz, (((wd140.setCell ⟨b8, 0, none⟩ (.bool (ineg q))).setCell ⟨b8, 1, none⟩ (.string (imag q))).setCell ⟨b9, 0, none⟩ (.bool (ineg r))).setCell ⟨b9, 1, none⟩ (.string (imag r)) = wz := ⟨_, rfl⟩
     rw [hwz] at n8s sfin
     (try rw [hwz])
     clear hwz u0 u1 u2 u3 v0 v1 v2 v3
     have g0 := n8s.cell (j := 0) rfl
     have g1 := n8s.cell (j := 1) rfl
     have i3z := I3.out.keep sfin
     have k0 := i3z.frozen 0
     have k1 := i3z.frozen 1
     have k2 := i3z.cell (j := 0) rfl
     have k3 := i3z.cell (j := 1) rfl
     have hKz := (sfin.block D (Array.getElem?_eq_some_iff.1 hK0).1).trans hK0
     have hb5 := ((I4.out.trans (sfin.mono (by omega))).setCell (p := ⟨w.heap.size + 1, 0, none⟩) (show w.heap.size ≤ w.heap.size + 1 by omega) (.bool (ineg q))).setCell (p := ⟨w.heap.size + 1, 1, none⟩) (show w.heap.size ≤ w.heap.size + 1 by omega) (.string (imag q))
     have i3f := (i3z.set 0 (.bool (ineg q))).set 1 (.string (imag q))
     have HB5 := Lib.hid hb5; clear hb5
     have I3F := Lib.hid i3f; clear i3f
     have HKZ := Lib.hid hKz; clear hKz
     gi_wp2
     refine leaves_marks w3.heap.size (fun W => Below w.heap.size w W ∧ Blk W (w.heap.size + 1) 28 [.bool (ineg q), .string (imag q)]) (fun W D hB hk hD => ⟨hk.1.grown (grownBy_putObj' W D _) hk.1.size (fun j' e' => by cases e'; omega), hk.2.of_block (World.putObj_heap_other (by omega))⟩) (fun W hk => ?hfin) [D] _ ⟨HB5.out, I3F.out⟩ (fun D' h' => ?hd) (List.nodup_cons.2 ⟨by simp, List.nodup_nil⟩) (fun D' h' => ?hge)
     case hfin =>
      have e0 := hk.2.cell (j := 0) rfl
      have e1 := hk.2.cell (j := 1) rfl
      refine ⟨_, ?_, hk.1, rfl⟩
      simp [results, Tryz.results16, go_sem, e0, e1, IntV]
     case hd =>
      obtain rfl : D' = D := by simpa using h'
      exact ((Below.heap_setCell _ _ _ D' (by simp; omega)).trans (Below.heap_setCell _ _ _ D' (by simp; omega))).trans HKZ.out
     case hge =>
      obtain rfl : D' = D := by simpa using h'
      exact hDge
   ·
    go_simp
    have ne148 : Blk (wx107.alloc (.cells #[.bool false, .string ⟨#[]⟩] 28)) wx107.heap.size 28 [.bool false, .string ⟨#[]⟩] := Blk.new wx107 _ _
    have sd147 : Below W.heap.size W (wx107.alloc (.cells #[.bool false, .string ⟨#[]⟩] 28)) := sd109.alloc sd109.size _
    have hlt153 : b8 < wx107.heap.size := ne110.lt
    have ne152 := Blk.alloc ne110 (.cells #[.bool false, .string ⟨#[]⟩] 28)
    refine hK.out _ _ ?_ (fun hG146 => ?_)
    ·
     ((try dsimp only); go_keep)
    clear hK K
    (try simp only [Act.put, zA, zB, zC])
    obtain ⟨wx145, hwx149⟩ : ∃ wx145, (wx107.alloc (.cells #[.bool false, .string ⟨#[]⟩] 28)) = wx145 := ⟨_, rfl⟩
    rw [hwx149] at ne148 sd147 ne152
    (try rw [hwx149])
    (try rw [hwx149] at hG146)
    obtain ⟨b9, hbx150⟩ : ∃ b9, b9 = wx107.heap.size := ⟨_, rfl⟩
    have hge151 : W.heap.size ≤ b9 := by rw [hbx150]; exact sd109.size
    rw [← hbx150] at ne148 hlt153
    (try rw [← hbx150])
    clear hbx150 hwx149
    have hlwx145 : W.heap.size ≤ wx145.heap.size := sd147.size
    refine zR 2 (h := fun K hK => ?_)
    go_simp
    go_at_call 28
    refine (HOFN.out _).mono ?_
    rintro e' wd154 ⟨hq, rfl⟩
    dsimp only
    have z0 := (hq.cell (p := ⟨tb, 0, none⟩) (show tb < wx145.heap.size by omega)).trans hG146.1
    have z1 := (hq.cell (p := ⟨tb, 1, none⟩) (show tb < wx145.heap.size by omega)).trans hG146.2
    refine hK.out _ _ ⟨z0, z1⟩ (fun hG155 => ?_)
    clear hK K z0 z1
    (try simp only [Act.put, zA, zB, zC])
    have sd156 : Below W.heap.size W wd154 := sd147.trans (hq.mono sd147.size)
    have ne157 := Blk.keep (w := wx145) ne152 hq
    have ne158 := Blk.keep (w := wx145) ne148 hq
    clear hq
    have hlwd154 : W.heap.size ≤ wd154.heap.size := sd156.size
    refine zR 3 (h := fun K hK => ?_)
    go_simp
    go_at_call 46
    refine (HDV.out _).mono ?_
    rintro e' wd159 ⟨hq, rfl⟩
    dsimp only
    have z0 := (hq.cell (p := ⟨tb, 0, none⟩) (show tb < wd154.heap.size by omega)).trans hG155.1
    have z1 := (hq.cell (p := ⟨tb, 1, none⟩) (show tb < wd154.heap.size by omega)).trans hG155.2
    refine hK.out _ _ ⟨z0, z1⟩ (fun hG160 => ?_)
    clear hK K z0 z1
    (try simp only [Act.put, zA, zB, zC])
    have sd161 : Below W.heap.size W wd159 := sd156.trans (hq.mono sd156.size)
    have ne162 := Blk.keep (w := wd154) ne157 hq
    have ne163 := Blk.keep (w := wd154) ne158 hq
    clear hq
    have hlwd159 : W.heap.size ≤ wd159.heap.size := sd161.size
    refine zT 4 (h := ?_)
    (try simp only [Act.put, zA, zB, zC])
    refine zT 5 (h := ?_)
    (try simp only [Act.put, zA, zB, zC])
    refine zT 6 (h := ?_)
    (try simp only [Act.put, zA, zB, zC])
    refine zT 7 (h := ?_)
    (try simp only [Act.put, zA, zB, zC])
    have h8l := ne162.lt
    have h9l := ne163.lt
    have u0 := ne162.cell (j := 0) rfl
    have u1 := ne162.cell (j := 1) rfl
    have u2 := ne163.cell (j := 0) rfl
    have u3 := ne163.cell (j := 1) rfl
    have v0 := ne162.frozen 0
    have v1 := ne162.frozen 1
    have v2 := ne163.frozen 0
    have v3 := ne163.frozen 1
    have m0 : ¬ b8 = tb := by omega
    have m1 : ¬ b9 = tb := by omega
    have m2 : ¬ tb = b8 := by omega
    have m3 : ¬ tb = b9 := by omega
    have m4 : ¬ b8 = b9 := by omega
    have m5 : ¬ b9 = b8 := by omega
    have m6 : ¬ w.heap.size + 1 = b8 := by omega
    have m7 : ¬ w.heap.size + 1 = b9 := by omega
    have m8 : ¬ b8 = w.heap.size + 1 := by omega
    refine zR 10 (h := fun K hK => ?_)
    go_simp
    refine hK.out _ _ ?_ (fun hT1 => ?_)
    ·
     ((try dsimp only); go_keep)
    clear hK K
    (try simp only [Act.put, zA, zB, zC])
    refine zR 11 (h := fun K hK => ?_)
    go_simp
    refine hK.out _ _ ?_ (fun hT2 => ?_)
    ·
     ((try dsimp only); go_keep)
    clear hK K
    (try simp only [Act.put, zA, zB, zC])
    refine zT 12 (h := ?_)
    (try simp only [Act.put, zA, zB, zC])
    refine wpAnyH_done (by kernel_rfl) ?_ _
    unfold nOnly
    (try simp only [List.getElem_toArray, List.getElem_cons_zero, List.getElem_cons_succ, Act.put, zA, zB, zC])
    have n8s := (((ne162.set 0 (.bool (ineg q))).set 1 (.string (imag q))).setOther (a := ⟨b9, 0, none⟩) m5 (.bool (ineg r))).setOther (a := ⟨b9, 1, none⟩) m5 (.string (imag r))
    have sfin := (((sd161.setCell (p := ⟨b8, 0, none⟩) (show W.heap.size ≤ b8 by omega) (.bool (ineg q))).setCell (p := ⟨b8, 1, none⟩) (show W.heap.size ≤ b8 by omega) (.string (imag q))).setCell (p := ⟨b9, 0, none⟩) (show W.heap.size ≤ b9 by omega) (.bool (ineg r))).setCell (p := ⟨b9, 1, none⟩) (show W.heap.size ≤ b9 by omega) (.string (imag r))
    obtain ⟨wz, hwz⟩ : ∃ wz, (((wd159.setCell ⟨b8, 0, none⟩ (.bool (ineg q))).setCell ⟨b8, 1, none⟩ (.string (imag q))).setCell ⟨b9, 0, none⟩ (.bool (ineg r))).setCell ⟨b9, 1, none⟩ (.string (imag r)) = wz := ⟨_, rfl⟩
    rw [hwz] at n8s sfin
    (try rw [hwz])
    clear hwz u0 u1 u2 u3 v0 v1 v2 v3
    have g0 := n8s.cell (j := 0) rfl
    have g1 := n8s.cell (j := 1) rfl
    have i3z := I3.out.keep sfin
    have k0 := i3z.frozen 0
    have k1 := i3z.frozen 1
    have k2 := i3z.cell (j := 0) rfl
    have k3 := i3z.cell (j := 1) rfl
    have hKz := (sfin.block D (Array.getElem?_eq_some_iff.1 hK0).1).trans hK0
    have hb5 := ((I4.out.trans (sfin.mono (by omega))).setCell (p := ⟨w.heap.size + 1, 0, none⟩) (show w.heap.size ≤ w.heap.size + 1 by omega) (.bool (ineg q))).setCell (p := ⟨w.heap.size + 1, 1, none⟩) (show w.heap.size ≤ w.heap.size + 1 by omega) (.string (imag q))
    have i3f := (i3z.set 0 (.bool (ineg q))).set 1 (.string (imag q))
    have HB5 := Lib.hid hb5; clear hb5
    have I3F := Lib.hid i3f; clear i3f
    have HKZ := Lib.hid hKz; clear hKz
    gi_wp2
    refine leaves_marks w3.heap.size (fun W => Below w.heap.size w W ∧ Blk W (w.heap.size + 1) 28 [.bool (ineg q), .string (imag q)]) (fun W D hB hk hD => ⟨hk.1.grown (grownBy_putObj' W D _) hk.1.size (fun j' e' => by cases e'; omega), hk.2.of_block (World.putObj_heap_other (by omega))⟩) (fun W hk => ?hfin) [D] _ ⟨HB5.out, I3F.out⟩ (fun D' h' => ?hd) (List.nodup_cons.2 ⟨by simp, List.nodup_nil⟩) (fun D' h' => ?hge)
    case hfin =>
     have e0 := hk.2.cell (j := 0) rfl
     have e1 := hk.2.cell (j := 1) rfl
     refine ⟨_, ?_, hk.1, rfl⟩
     simp [results, Tryz.results16, go_sem, e0, e1, IntV]
    case hd =>
     obtain rfl : D' = D := by simpa using h'
     exact ((Below.heap_setCell _ _ _ D' (by simp; omega)).trans (Below.heap_setCell _ _ _ D' (by simp; omega))).trans HKZ.out
    case hge =>
     obtain rfl : D' = D := by simpa using h'
     exact hDge
  ·
   go_simp
   have ne167 : Blk ((W.alloc (.cells #[.bool false, .string ⟨#[]⟩] 28)).drew) W.heap.size 28 [.bool false, .string ⟨#[]⟩] := Blk.new W _ _
   have sd166 : Below W.heap.size W ((W.alloc (.cells #[.bool false, .string ⟨#[]⟩] 28)).drew) := ((Below.refl W.heap.size W).alloc (Nat.le_refl _) _).drew
   refine hK.out _ _ ?_ (fun hG165 => ?_)
   ·
    ((try dsimp only); go_keep)
   clear hK K
   (try simp only [Act.put, zA, zB, zC])
   obtain ⟨wx164, hwx168⟩ : ∃ wx164, ((W.alloc (.cells #[.bool false, .string ⟨#[]⟩] 28)).drew) = wx164 := ⟨_, rfl⟩
   rw [hwx168] at ne167 sd166
   (try rw [hwx168])
   (try rw [hwx168] at hG165)
   obtain ⟨b9, hbx169⟩ : ∃ b9, b9 = W.heap.size := ⟨_, rfl⟩
   have hge170 : W.heap.size ≤ b9 := by rw [hbx169]; exact sW.size
   rw [← hbx169] at ne167 
   (try rw [← hbx169])
   clear hbx169 hwx168
   have hlwx164 : W.heap.size ≤ wx164.heap.size := sd166.size
   refine wpAnyH_ready (rs := [2, 8]) (by kernel_rfl) (by simp) ?_
   refine AllReadyH.cons rfl (fun K hK => ?_) (AllReadyH.cons rfl (fun K hK => ?_) (AllReadyH.nil))
   ·
    go_simp
    go_at_call 28
    refine (HOFN.out _).mono ?_
    rintro e' wd171 ⟨hq, rfl⟩
    dsimp only
    have z0 := (hq.cell (p := ⟨tb, 0, none⟩) (show tb < wx164.heap.size by omega)).trans hG165.1
    have z1 := (hq.cell (p := ⟨tb, 1, none⟩) (show tb < wx164.heap.size by omega)).trans hG165.2
    refine hK.out _ _ ⟨z0, z1⟩ (fun hG172 => ?_)
    clear hK K z0 z1
    (try simp only [Act.put, zA, zB, zC])
    have sd173 : Below W.heap.size W wd171 := sd166.trans (hq.mono sd166.size)
    have ne174 := Blk.keep (w := wx164) ne167 hq
    clear hq
    have hlwd171 : W.heap.size ≤ wd171.heap.size := sd173.size
    refine wpAnyH_ready (rs := [3, 8]) (by kernel_rfl) (by simp) ?_
    refine AllReadyH.cons rfl (fun K hK => ?_) (AllReadyH.cons rfl (fun K hK => ?_) (AllReadyH.nil))
    ·
     go_simp
     go_at_call 46
     refine (HDV.out _).mono ?_
     rintro e' wd175 ⟨hq, rfl⟩
     dsimp only
     have z0 := (hq.cell (p := ⟨tb, 0, none⟩) (show tb < wd171.heap.size by omega)).trans hG172.1
     have z1 := (hq.cell (p := ⟨tb, 1, none⟩) (show tb < wd171.heap.size by omega)).trans hG172.2
     refine hK.out _ _ ⟨z0, z1⟩ (fun hG176 => ?_)
     clear hK K z0 z1
     (try simp only [Act.put, zA, zB, zC])
     have sd177 : Below W.heap.size W wd175 := sd173.trans (hq.mono sd173.size)
     have ne178 := Blk.keep (w := wd171) ne174 hq
     clear hq
     have hlwd175 : W.heap.size ≤ wd175.heap.size := sd177.size
     refine zT 4 (h := ?_)
     (try simp only [Act.put, zA, zB, zC])
     refine zT 5 (h := ?_)
     (try simp only [Act.put, zA, zB, zC])
     refine zT 6 (h := ?_)
     (try simp only [Act.put, zA, zB, zC])
     refine zT 7 (h := ?_)
     (try simp only [Act.put, zA, zB, zC])
     refine zR 8 (h := fun K hK => ?_)
     go_simp
     have ne182 : Blk (wd175.alloc (.cells #[.bool false, .string ⟨#[]⟩] 28)) wd175.heap.size 28 [.bool false, .string ⟨#[]⟩] := Blk.new wd175 _ _
     have sd181 : Below W.heap.size W (wd175.alloc (.cells #[.bool false, .string ⟨#[]⟩] 28)) := sd177.alloc sd177.size _
     have hlt187 : b9 < wd175.heap.size := ne178.lt
     have ne186 := Blk.alloc ne178 (.cells #[.bool false, .string ⟨#[]⟩] 28)
     refine hK.out _ _ ?_ (fun hG180 => ?_)
     ·
      ((try dsimp only); go_keep)
     clear hK K
     (try simp only [Act.put, zA, zB, zC])
     obtain ⟨wx179, hwx183⟩ : ∃ wx179, (wd175.alloc (.cells #[.bool false, .string ⟨#[]⟩] 28)) = wx179 := ⟨_, rfl⟩
     rw [hwx183] at ne182 sd181 ne186
     (try rw [hwx183])
     (try rw [hwx183] at hG180)
     obtain ⟨b8, hbx184⟩ : ∃ b8, b8 = wd175.heap.size := ⟨_, rfl⟩
     have hge185 : W.heap.size ≤ b8 := by rw [hbx184]; exact sd177.size
     rw [← hbx184] at ne182 hlt187
     (try rw [← hbx184])
     clear hbx184 hwx183
     have hlwx179 : W.heap.size ≤ wx179.heap.size := sd181.size
     have h8l := ne182.lt
     have h9l := ne186.lt
     have u0 := ne182.cell (j := 0) rfl
     have u1 := ne182.cell (j := 1) rfl
     have u2 := ne186.cell (j := 0) rfl
     have u3 := ne186.cell (j := 1) rfl
     have v0 := ne182.frozen 0
     have v1 := ne182.frozen 1
     have v2 := ne186.frozen 0
     have v3 := ne186.frozen 1
     have m0 : ¬ b8 = tb := by omega
     have m1 : ¬ b9 = tb := by omega
     have m2 : ¬ tb = b8 := by omega
     have m3 : ¬ tb = b9 := by omega
     have m4 : ¬ b8 = b9 := by omega
     have m5 : ¬ b9 = b8 := by omega
     have m6 : ¬ w.heap.size + 1 = b8 := by omega
     have m7 : ¬ w.heap.size + 1 = b9 := by omega
     have m8 : ¬ b8 = w.heap.size + 1 := by omega
     refine zR 10 (h := fun K hK => ?_)
     go_simp
     refine hK.out _ _ ?_ (fun hT1 => ?_)
     ·
      ((try dsimp only); go_keep)
     clear hK K
     (try simp only [Act.put, zA, zB, zC])
     refine zR 11 (h := fun K hK => ?_)
     go_simp
     refine hK.out _ _ ?_ (fun hT2 => ?_)
     ·
      ((try dsimp only); go_keep)
     clear hK K
     (try simp only [Act.put, zA, zB, zC])
     refine zT 12 (h := ?_)
     (try simp only [Act.put, zA, zB, zC])
     refine wpAnyH_done (by kernel_rfl) ?_ _
     unfold nOnly
     (try simp only [List.getElem_toArray, List.getElem_cons_zero, List.getElem_cons_succ, Act.put, zA, zB, zC])
     have n8s := (((ne182.set 0 (.bool (ineg q))).set 1 (.string (imag q))).setOther (a := ⟨b9, 0, none⟩) m5 (.bool (ineg r))).setOther (a := ⟨b9, 1, none⟩) m5 (.string (imag r))
     have sfin := (((sd181.setCell (p := ⟨b8, 0, none⟩) (show W.heap.size ≤ b8 by omega) (.bool (ineg q))).setCell (p := ⟨b8, 1, none⟩) (show W.heap.size ≤ b8 by omega) (.string (imag q))).setCell (p := ⟨b9, 0, none⟩) (show W.heap.size ≤ b9 by omega) (.bool (ineg r))).setCell (p := ⟨b9, 1, none⟩) (show W.heap.size ≤ b9 by omega) (.string (imag r))
     obtain ⟨wz, hwz⟩ : ∃ wz, (((wx179.setCell ⟨b8, 0, none⟩ (.bool (ineg q))).setCell ⟨b8, 1, none⟩ (.string (imag q))).setCell ⟨b9, 0, none⟩ (.bool (ineg r))).setCell ⟨b9, 1, none⟩ (.string (imag r)) = wz := ⟨_, rfl⟩
     rw [hwz] at n8s sfin
     (try rw [hwz])
     clear hwz u0 u1 u2 u3 v0 v1 v2 v3
     have g0 := n8s.cell (j := 0) rfl
     have g1 := n8s.cell (j := 1) rfl
     have i3z := I3.out.keep sfin
     have k0 := i3z.frozen 0
     have k1 := i3z.frozen 1
     have k2 := i3z.cell (j := 0) rfl
     have k3 := i3z.cell (j := 1) rfl
     have hKz := (sfin.block D (Array.getElem?_eq_some_iff.1 hK0).1).trans hK0
     have hb5 := ((I4.out.trans (sfin.mono (by omega))).setCell (p := ⟨w.heap.size + 1, 0, none⟩) (show w.heap.size ≤ w.heap.size + 1 by omega) (.bool (ineg q))).setCell (p := ⟨w.heap.size + 1, 1, none⟩) (show w.heap.size ≤ w.heap.size + 1 by omega) (.string (imag q))
     have i3f := (i3z.set 0 (.bool (ineg q))).set 1 (.string (imag q))
     have HB5 := Lib.hid hb5; clear hb5
     have I3F := Lib.hid i3f; clear i3f
     have HKZ := Lib.hid hKz; clear hKz
     gi_wp2
     refine leaves_marks w3.heap.size (fun W => Below w.heap.size w W ∧ Blk W (w.heap.size + 1) 28 [.bool (ineg q), .string (imag q)]) (fun W D hB hk hD => ⟨hk.1.grown (grownBy_putObj' W D _) hk.1.size (fun j' e' => by cases e'; omega), hk.2.of_block (World.putObj_heap_other (by omega))⟩) (fun W hk => ?hfin) [D] _ ⟨HB5.out, I3F.out⟩ (fun D' h' => ?hd) (List.nodup_cons.2 ⟨by simp, List.nodup_nil⟩) (fun D' h' => ?hge)
     case hfin =>
      have e0 := hk.2.cell (j := 0) rfl
      have e1 := hk.2.cell (j := 1) rfl
      refine ⟨_, ?_, hk.1, rfl⟩
      simp [results, Tryz.results16, go_sem, e0, e1, IntV]
     case hd =>
      obtain rfl : D' = D := by simpa using h'
      exact ((Below.heap_setCell _ _ _ D' (by simp; omega)).trans (Below.heap_setCell _ _ _ D' (by simp; omega))).trans HKZ.out
     case hge =>
      obtain rfl : D' = D := by simpa using h'
      exact hDge
    ·
     go_simp
     have ne191 : Blk (wd171.alloc (.cells #[.bool false, .string ⟨#[]⟩] 28)) wd171.heap.size 28 [.bool false, .string ⟨#[]⟩] := Blk.new wd171 _ _
     have sd190 : Below W.heap.size W (wd171.alloc (.cells #[.bool false, .string ⟨#[]⟩] 28)) := sd173.alloc sd173.size _
     have hlt196 : b9 < wd171.heap.size := ne174.lt
     have ne195 := Blk.alloc ne174 (.cells #[.bool false, .string ⟨#[]⟩] 28)
     refine hK.out _ _ ?_ (fun hG189 => ?_)
     ·
      ((try dsimp only); go_keep)
     clear hK K
     (try simp only [Act.put, zA, zB, zC])
     obtain ⟨wx188, hwx192⟩ : ∃ wx188, (wd171.alloc (.cells #[.bool false, .string ⟨#[]⟩] 28)) = wx188 := ⟨_, rfl⟩
     rw [hwx192] at ne191 sd190 ne195
     (try rw [hwx192])
     (try rw [hwx192] at hG189)
     obtain ⟨b8, hbx193⟩ : ∃ b8, b8 = wd171.heap.size := ⟨_, rfl⟩
     have hge194 : W.heap.size ≤ b8 := by rw [hbx193]; exact sd173.size
     rw [← hbx193] at ne191 hlt196
     (try rw [← hbx193])
     clear hbx193 hwx192
     have hlwx188 : W.heap.size ≤ wx188.heap.size := sd190.size
     refine zR 3 (h := fun K hK => ?_)
     go_simp
     go_at_call 46
     refine (HDV.out _).mono ?_
     rintro e' wd197 ⟨hq, rfl⟩
     dsimp only
     have z0 := (hq.cell (p := ⟨tb, 0, none⟩) (show tb < wx188.heap.size by omega)).trans hG189.1
     have z1 := (hq.cell (p := ⟨tb, 1, none⟩) (show tb < wx188.heap.size by omega)).trans hG189.2
     refine hK.out _ _ ⟨z0, z1⟩ (fun hG198 => ?_)
     clear hK K z0 z1
     (try simp only [Act.put, zA, zB, zC])
     have sd199 : Below W.heap.size W wd197 := sd190.trans (hq.mono sd190.size)
     have ne200 := Blk.keep (w := wx188) ne191 hq
     have ne201 := Blk.keep (w := wx188) ne195 hq
     clear hq
     have hlwd197 : W.heap.size ≤ wd197.heap.size := sd199.size
     refine zT 4 (h := ?_)
     (try simp only [Act.put, zA, zB, zC])
     refine zT 5 (h := ?_)
     (try simp only [Act.put, zA, zB, zC])
     refine zT 6 (h := ?_)
     (try simp only [Act.put, zA, zB, zC])
     refine zT 7 (h := ?_)
     (try simp only [Act.put, zA, zB, zC])
     have h8l := ne200.lt
     have h9l := ne201.lt
     have u0 := ne200.cell (j := 0) rfl
     have u1 := ne200.cell (j := 1) rfl
     have u2 := ne201.cell (j := 0) rfl
     have u3 := ne201.cell (j := 1) rfl
     have v0 := ne200.frozen 0
     have v1 := ne200.frozen 1
     have v2 := ne201.frozen 0
     have v3 := ne201.frozen 1
     have m0 : ¬ b8 = tb := by omega
     have m1 : ¬ b9 = tb := by omega
     have m2 : ¬ tb = b8 := by omega
     have m3 : ¬ tb = b9 := by omega
     have m4 : ¬ b8 = b9 := by omega
     have m5 : ¬ b9 = b8 := by omega
     have m6 : ¬ w.heap.size + 1 = b8 := by omega
     have m7 : ¬ w.heap.size + 1 = b9 := by omega
     have m8 : ¬ b8 = w.heap.size + 1 := by omega
     refine zR 10 (h := fun K hK => ?_)
     go_simp
     refine hK.out _ _ ?_ (fun hT1 => ?_)
     ·
      ((try dsimp only); go_keep)
     clear hK K
     (try simp only [Act.put, zA, zB, zC])
     refine zR 11 (h := fun K hK => ?_)
     go_simp
     refine hK.out _ _ ?_ (fun hT2 => ?_)
     ·
      ((try dsimp only); go_keep)
     clear hK K
     (try simp only [Act.put, zA, zB, zC])
     refine zT 12 (h := ?_)
     (try simp only [Act.put, zA, zB, zC])
     refine wpAnyH_done (by kernel_rfl) ?_ _
     unfold nOnly
     (try simp only [List.getElem_toArray, List.getElem_cons_zero, List.getElem_cons_succ, Act.put, zA, zB, zC])
     have n8s := (((ne200.set 0 (.bool (ineg q))).set 1 (.string (imag q))).setOther (a := ⟨b9, 0, none⟩) m5 (.bool (ineg r))).setOther (a := ⟨b9, 1, none⟩) m5 (.string (imag r))
     have sfin := (((sd199.setCell (p := ⟨b8, 0, none⟩) (show W.heap.size ≤ b8 by omega) (.bool (ineg q))).setCell (p := ⟨b8, 1, none⟩) (show W.heap.size ≤ b8 by omega) (.string (imag q))).setCell (p := ⟨b9, 0, none⟩) (show W.heap.size ≤ b9 by omega) (.bool (ineg r))).setCell (p := ⟨b9, 1, none⟩) (show W.heap.size ≤ b9 by omega) (.string (imag r))
     obtain ⟨wz, hwz⟩ : ∃ wz, (((wd197.setCell ⟨b8, 0, none⟩ (.bool (ineg q))).setCell ⟨b8, 1, none⟩ (.string (imag q))).setCell ⟨b9, 0, none⟩ (.bool (ineg r))).setCell ⟨b9, 1, none⟩ (.string (imag r)) = wz := ⟨_, rfl⟩
     rw [hwz] at n8s sfin
     (try rw [hwz])
     clear hwz u0 u1 u2 u3 v0 v1 v2 v3
     have g0 := n8s.cell (j := 0) rfl
     have g1 := n8s.cell (j := 1) rfl
     have i3z := I3.out.keep sfin
     have k0 := i3z.frozen 0
     have k1 := i3z.frozen 1
     have k2 := i3z.cell (j := 0) rfl
     have k3 := i3z.cell (j := 1) rfl
     have hKz := (sfin.block D (Array.getElem?_eq_some_iff.1 hK0).1).trans hK0
     have hb5 := ((I4.out.trans (sfin.mono (by omega))).setCell (p := ⟨w.heap.size + 1, 0, none⟩) (show w.heap.size ≤ w.heap.size + 1 by omega) (.bool (ineg q))).setCell (p := ⟨w.heap.size + 1, 1, none⟩) (show w.heap.size ≤ w.heap.size + 1 by omega) (.string (imag q))
     have i3f := (i3z.set 0 (.bool (ineg q))).set 1 (.string (imag q))
     have HB5 := Lib.hid hb5; clear hb5
     have I3F := Lib.hid i3f; clear i3f
     have HKZ := Lib.hid hKz; clear hKz
     gi_wp2
     refine leaves_marks w3.heap.size (fun W => Below w.heap.size w W ∧ Blk W (w.heap.size + 1) 28 [.bool (ineg q), .string (imag q)]) (fun W D hB hk hD => ⟨hk.1.grown (grownBy_putObj' W D _) hk.1.size (fun j' e' => by cases e'; omega), hk.2.of_block (World.putObj_heap_other (by omega))⟩) (fun W hk => ?hfin) [D] _ ⟨HB5.out, I3F.out⟩ (fun D' h' => ?hd) (List.nodup_cons.2 ⟨by simp, List.nodup_nil⟩) (fun D' h' => ?hge)
     case hfin =>
      have e0 := hk.2.cell (j := 0) rfl
      have e1 := hk.2.cell (j := 1) rfl
      refine ⟨_, ?_, hk.1, rfl⟩
      simp [results, Tryz.results16, go_sem, e0, e1, IntV]
     case hd =>
      obtain rfl : D' = D := by simpa using h'
      exact ((Below.heap_setCell _ _ _ D' (by simp; omega)).trans (Below.heap_setCell _ _ _ D' (by simp; omega))).trans HKZ.out
     case hge =>
      obtain rfl : D' = D := by simpa using h'
      exact hDge
   ·
    go_simp
    have ne205 : Blk (wx164.alloc (.cells #[.bool false, .string ⟨#[]⟩] 28)) wx164.heap.size 28 [.bool false, .string ⟨#[]⟩] := Blk.new wx164 _ _
    have sd204 : Below W.heap.size W (wx164.alloc (.cells #[.bool false, .string ⟨#[]⟩] 28)) := sd166.alloc sd166.size _
    have hlt210 : b9 < wx164.heap.size := ne167.lt
    have ne209 := Blk.alloc ne167 (.cells #[.bool false, .string ⟨#[]⟩] 28)
    refine hK.out _ _ ?_ (fun hG203 => ?_)
    ·
     ((try dsimp only); go_keep)
    clear hK K
    (try simp only [Act.put, zA, zB, zC])
    obtain ⟨wx202, hwx206⟩ : ∃ wx202, (wx164.alloc (.cells #[.bool false, .string ⟨#[]⟩] 28)) = wx202 := ⟨_, rfl⟩
    rw [hwx206] at ne205 sd204 ne209
    (try rw [hwx206])
    (try rw [hwx206] at hG203)
    obtain ⟨b8, hbx207⟩ : ∃ b8, b8 = wx164.heap.size := ⟨_, rfl⟩
    have hge208 : W.heap.size ≤ b8 := by rw [hbx207]; exact sd166.size
    rw [← hbx207] at ne205 hlt210
    (try rw [← hbx207])
    clear hbx207 hwx206
    have hlwx202 : W.heap.size ≤ wx202.heap.size := sd204.size
    refine zR 2 (h := fun K hK => ?_)
    go_simp
    go_at_call 28
    refine (HOFN.out _).mono ?_
    rintro e' wd211 ⟨hq, rfl⟩
    dsimp only
    have z0 := (hq.cell (p := ⟨tb, 0, none⟩) (show tb < wx202.heap.size by omega)).trans hG203.1
    have z1 := (hq.cell (p := ⟨tb, 1, none⟩) (show tb < wx202.heap.size by omega)).trans hG203.2
    refine hK.out _ _ ⟨z0, z1⟩ (fun hG212 => ?_)
    clear hK K z0 z1
    (try simp only [Act.put, zA, zB, zC])
    have sd213 : Below W.heap.size W wd211 := sd204.trans (hq.mono sd204.size)
    have ne214 := Blk.keep (w := wx202) ne205 hq
    have ne215 := Blk.keep (w := wx202) ne209 hq
    clear hq
    have hlwd211 : W.heap.size ≤ wd211.heap.size := sd213.size
    refine zR 3 (h := fun K hK => ?_)
    go_simp
    go_at_call 46
    refine (HDV.out _).mono ?_
    rintro e' wd216 ⟨hq, rfl⟩
    dsimp only
    have z0 := (hq.cell (p := ⟨tb, 0, none⟩) (show tb < wd211.heap.size by omega)).trans hG212.1
    have z1 := (hq.cell (p := ⟨tb, 1, none⟩) (show tb < wd211.heap.size by omega)).trans hG212.2
    refine hK.out _ _ ⟨z0, z1⟩ (fun hG217 => ?_)
    clear hK K z0 z1
    (try simp only [Act.put, zA, zB, zC])
    have sd218 : Below W.heap.size W wd216 := sd213.trans (hq.mono sd213.size)
    have ne219 := Blk.keep (w := wd211) ne214 hq
    have ne220 := Blk.keep (w := wd211) ne215 hq
    clear hq
    have hlwd216 : W.heap.size ≤ wd216.heap.size := sd218.size
    refine zT 4 (h := ?_)
    (try simp only [Act.put, zA, zB, zC])
    refine zT 5 (h := ?_)
    (try simp only [Act.put, zA, zB, zC])
    refine zT 6 (h := ?_)
    (try simp only [Act.put, zA, zB, zC])
    refine zT 7 (h := ?_)
    (try simp only [Act.put, zA, zB, zC])
    have h8l := ne219.lt
    have h9l := ne220.lt
    have u0 := ne219.cell (j := 0) rfl
    have u1 := ne219.cell (j := 1) rfl
    have u2 := ne220.cell (j := 0) rfl
    have u3 := ne220.cell (j := 1) rfl
    have v0 := ne219.frozen 0
    have v1 := ne219.frozen 1
    have v2 := ne220.frozen 0
    have v3 := ne220.frozen 1
    have m0 : ¬ b8 = tb := by omega
    have m1 : ¬ b9 = tb := by omega
    have m2 : ¬ tb = b8 := by omega
    have m3 : ¬ tb = b9 := by omega
    have m4 : ¬ b8 = b9 := by omega
    have m5 : ¬ b9 = b8 := by omega
    have m6 : ¬ w.heap.size + 1 = b8 := by omega
    have m7 : ¬ w.heap.size + 1 = b9 := by omega
    have m8 : ¬ b8 = w.heap.size + 1 := by omega
    refine zR 10 (h := fun K hK => ?_)
    go_simp
    refine hK.out _ _ ?_ (fun hT1 => ?_)
    ·
     ((try dsimp only); go_keep)
    clear hK K
    (try simp only [Act.put, zA, zB, zC])
    refine zR 11 (h := fun K hK => ?_)
    go_simp
    refine hK.out _ _ ?_ (fun hT2 => ?_)
    ·
     ((try dsimp only); go_keep)
    clear hK K
    (try simp only [Act.put, zA, zB, zC])
    refine zT 12 (h := ?_)
    (try simp only [Act.put, zA, zB, zC])
    refine wpAnyH_done (by kernel_rfl) ?_ _
    unfold nOnly
    (try simp only [List.getElem_toArray, List.getElem_cons_zero, List.getElem_cons_succ, Act.put, zA, zB, zC])
    have n8s := (((ne219.set 0 (.bool (ineg q))).set 1 (.string (imag q))).setOther (a := ⟨b9, 0, none⟩) m5 (.bool (ineg r))).setOther (a := ⟨b9, 1, none⟩) m5 (.string (imag r))
    have sfin := (((sd218.setCell (p := ⟨b8, 0, none⟩) (show W.heap.size ≤ b8 by omega) (.bool (ineg q))).setCell (p := ⟨b8, 1, none⟩) (show W.heap.size ≤ b8 by omega) (.string (imag q))).setCell (p := ⟨b9, 0, none⟩) (show W.heap.size ≤ b9 by omega) (.bool (ineg r))).setCell (p := ⟨b9, 1, none⟩) (show W.heap.size ≤ b9 by omega) (.string (imag r))
    obtain ⟨wz, hwz⟩ : ∃ wz, (((wd216.setCell ⟨b8, 0, none⟩ (.bool (ineg q))).setCell ⟨b8, 1, none⟩ (.string (imag q))).setCell ⟨b9, 0, none⟩ (.bool (ineg r))).setCell ⟨b9, 1, none⟩ (.string (imag r)) = wz := ⟨_, rfl⟩
    rw [hwz] at n8s sfin
    (try rw [hwz])
    clear hwz u0 u1 u2 u3 v0 v1 v2 v3
    have g0 := n8s.cell (j := 0) rfl
    have g1 := n8s.cell (j := 1) rfl
    have i3z := I3.out.keep sfin
    have k0 := i3z.frozen 0
    have k1 := i3z.frozen 1
    have k2 := i3z.cell (j := 0) rfl
    have k3 := i3z.cell (j := 1) rfl
    have hKz := (sfin.block D (Array.getElem?_eq_some_iff.1 hK0).1).trans hK0
    have hb5 := ((I4.out.trans (sfin.mono (by omega))).setCell (p := ⟨w.heap.size + 1, 0, none⟩) (show w.heap.size ≤ w.heap.size + 1 by omega) (.bool (ineg q))).setCell (p := ⟨w.heap.size + 1, 1, none⟩) (show w.heap.size ≤ w.heap.size + 1 by omega) (.string (imag q))
    have i3f := (i3z.set 0 (.bool (ineg q))).set 1 (.string (imag q))
    have HB5 := Lib.hid hb5; clear hb5
    have I3F := Lib.hid i3f; clear i3f
    have HKZ := Lib.hid hKz; clear hKz
    gi_wp2
    refine leaves_marks w3.heap.size (fun W => Below w.heap.size w W ∧ Blk W (w.heap.size + 1) 28 [.bool (ineg q), .string (imag q)]) (fun W D hB hk hD => ⟨hk.1.grown (grownBy_putObj' W D _) hk.1.size (fun j' e' => by cases e'; omega), hk.2.of_block (World.putObj_heap_other (by omega))⟩) (fun W hk => ?hfin) [D] _ ⟨HB5.out, I3F.out⟩ (fun D' h' => ?hd) (List.nodup_cons.2 ⟨by simp, List.nodup_nil⟩) (fun D' h' => ?hge)
    case hfin =>
     have e0 := hk.2.cell (j := 0) rfl
     have e1 := hk.2.cell (j := 1) rfl
     refine ⟨_, ?_, hk.1, rfl⟩
     simp [results, Tryz.results16, go_sem, e0, e1, IntV]
    case hd =>
     obtain rfl : D' = D := by simpa using h'
     exact ((Below.heap_setCell _ _ _ D' (by simp; omega)).trans (Below.heap_setCell _ _ _ D' (by simp; omega))).trans HKZ.out
    case hge =>
     obtain rfl : D' = D := by simpa using h'
     exact hDge
 case stop =>
  rintro D c pre W _ _ h _
  exact h.elim
end Go.Proofs.YthpgeeaccmgbkaaGreat
