/- enumerative.Stream at valid graphs, sets, states and lengths. -/
import Derived.Test.YtalipfnbpnkgnaaGreatPart12
import Derived.Test.YtalipfnbpnkgnaaGreatPart9
import Derived.Test.YtalipfnbpnkgnaaGreatPart2
namespace Go.Proofs.YtalipfnbpnkgnaaGreat
open Go.RowKit

/-- What Stream hands back. -/
def strV : Option (List UInt8 × Int) → Value
  | some r => .tuple #[.string ⟨r.1.toArray⟩, .int .i64 r.2, .int .i64 0]
  | none => .tuple #[.string ⟨#[]⟩, .int .i64 0, .int .i64 2]
set_option maxRecDepth 100000 in
set_option maxHeartbeats 8000000 in
theorem estr_ok (L : Int) (S s0 n : Nat) (es : List E3) (set l : List Int) (v vs vl : Value) (w : World) (hr : Row w v es.length (ce es)) (hok : okEs es) (hrs : Row w vs set.length (ci set)) (hrl : Row w vl l.length (civ l)) (hE : eck L (S : Int) es = 0) (hset : SomeS S set) (hs0 : s0 < S) (hn : n ≤ 4096) (hl : l.length ≤ 4) (hsm : ∀ a ∈ l, small a) :
    Calls Tryz.prog 13 #[.agg #[.int .i64 L, .int .i64 (S : Int), v], vs, .int .i64 (s0 : Int), .int .i64 (n : Int), vl] w (Ret w (strV (strm es (pin set) n [] (s0 : Int) l))) := by
  obtain ⟨va, vc, rfl, hle⟩ := hr.slice
  obtain ⟨sa, sc, rfl, hsle⟩ := hrs.slice
  obtain ⟨la, lc, rfl, hlle⟩ := hrl.slice
  obtain ⟨mm, hmm⟩ : ∃ mm, mm = es.length := ⟨_, rfl⟩
  obtain ⟨ml, hml⟩ : ∃ ml, ml = l.length := ⟨_, rfl⟩
  obtain ⟨ms, hms⟩ : ∃ ms, ms = set.length := ⟨_, rfl⟩
  have hlen := asc_len hset
  have hz := eck_zero hE
  have hca := chk_all hz.1
  have b0 := Blk.new w 24 [.int .i64 L, .int .i64 (S : Int), .slice va es.length vc]
  have s0' := (Below.refl w.heap.size w).alloc (Nat.le_refl _) (.cells #[.int .i64 L, .int .i64 (S : Int), .slice va es.length vc] 24)
  have hr0 := hr.below s0' (Nat.le_refl _)
  have hrs0 := hrs.below s0' (Nat.le_refl _)
  have hrl0 := hrl.below s0' (Nat.le_refl _)
  have hal := checkall_any L S (s0 : Int) (n : Int) es _ _ set _ hr0 hok hrs0 (by omega)
  rw [eall_ok hE hset hs0 hn] at hal
  have hcf := fun w' (h : Row w' (.slice la l.length lc) l.length (civ l)) => cfI_any l _ w' h hsm
  have htb := fun q w' (h : Row w' (.slice va es.length vc) es.length (ce es)) (h2 : Row w' (.slice sa set.length sc) set.length (ci set)) => tin_any L S n es (.slice va es.length vc) (.slice sa set.length sc) set q w' h h2 (by omega) hn (by omega) (chk_inS hz.1) hset
  have hun := fun (s : Nat) (a : Int) tv w' (h : Row w' (.slice va es.length vc) es.length (ce es)) (ht : Tab w' tv (tabL es S (pin set) n)) (hs : s < S) (ha : small a) => ure_any L S s n a es (.slice va es.length vc) tv (pin set) w' h ht (by omega) (by omega) (chk_inS hz.1) (chk_lab hz.1 hz.2.1) hs hn ha
  have hend := fun (s a : Int) => ur_end hE hset (n := n) (s := s) (a := a)
  have hul := fun (s a : Int) => ur_length (es := es) (p := pin set) n s a
  obtain ⟨R, hR⟩ : ∃ R, R = strm es (pin set) n [] (s0 : Int) l := ⟨_, rfl⟩
  rw [← hR]
  rw [← hmm] at s0' b0 hr0 hrs0 hrl0 hal hle htb hun
  rw [← hms] at hrs0 hal hsle htb hlen
  rw [← hml] at hrl0 hcf hl hlle
  have HMM := Lib.hid hmm; clear hmm
  have HML := Lib.hid hml; clear hml
  have HMS := Lib.hid hms; clear hms
  have HAL := Lib.hid hal; clear hal
  have HCF := Lib.hid hcf; clear hcf
  have HTB := Lib.hid htb; clear htb
  have HUN := Lib.hid hun; clear hun
  have HEND := Lib.hid hend; clear hend
  have HUL := Lib.hid hul; clear hul
  have HRR := Lib.hid hR; clear hR
  have HSM := Lib.hid hsm; clear hsm
  have S0 := Lib.hid s0'; clear s0'
  have B0 := Lib.hid b0; clear b0
  have HR := Lib.hid hr0; clear hr0
  have HRS := Lib.hid hrs0; clear hrs0
  have HRL := Lib.hid hrl0; clear hrl0
  clear hr hrs hrl hok hE hz hca hset
  go_enter Tryz.func13, Tryz.ntmps13
  rw [← HMM.out, ← HMS.out, ← HML.out]
  go_wp2_with fail
  go_at_call 31
  refine HAL.out.mono ?_
  rintro e w1 ⟨hq, rfl⟩
  have s1 := S0.out.trans (hq.mono S0.out.size)
  have hr1 := HR.out.below hq (Nat.le_refl _)
  have hrs1 := HRS.out.below hq (Nat.le_refl _)
  have hrl1 := HRL.out.below hq (Nat.le_refl _)
  have tk := B0.out.keep hq; have x0 := tk.cell (j := 0) rfl; have x1 := tk.cell (j := 1) rfl; have x2 := tk.cell (j := 2) rfl; have C0 := Lib.hid tk; clear tk
  have S1 := Lib.hid s1; clear s1
  have HR1 := Lib.hid hr1; clear hr1
  have HRS1 := Lib.hid hrs1; clear hrs1
  have HRL1 := Lib.hid hrl1; clear hrl1
  clear hq
  go_wp2_with fail
  go_at_call 8
  refine (HCF.out _ HRL1.out).mono ?_
  rintro e w2 ⟨hq, rfl⟩
  have s2 := S1.out.trans (hq.mono S1.out.size)
  have hr2 := HR1.out.below hq (Nat.le_refl _)
  have hrs2 := HRS1.out.below hq (Nat.le_refl _)
  have hrl2 := HRL1.out.below hq (Nat.le_refl _)
  clear x0 x1 x2
  have tk := C0.out.keep hq; have x0 := tk.cell (j := 0) rfl; have x1 := tk.cell (j := 1) rfl; have x2 := tk.cell (j := 2) rfl; have D0 := Lib.hid tk; clear tk
  have S2 := Lib.hid s2; clear s2
  have HR2 := Lib.hid hr2; clear hr2
  have HRS2 := Lib.hid hrs2; clear hrs2
  have HRL2 := Lib.hid hrl2; clear hrl2
  clear hq
  have hg2 : w.heap.size < w2.heap.size := D0.out.lt
  go_wp2_with fail
  refine wp_region_held_drew (S := fun w' => w'.cell? ⟨w.heap.size, 0, none⟩ = some (.int .i64 L) ∧ w'.cell? ⟨w.heap.size, 1, none⟩ = some (.int .i64 (S : Int)) ∧ w'.cell? ⟨w.heap.size, 2, none⟩ = some (.slice va mm vc)) (by kernel_rfl) ?_ (fun hHeld => ?_)
  · go_keep
  refine wpAnyH_take (i := 0) (v := ?_) rfl (by kernel_rfl) (by kernel_rfl) (by kernel_rfl) (fun _ _ _ h => h) (Or.inl ⟨by rfl, ?_⟩) (by assumption) ?_
  rotate_left
  · (intro wS hSw; (try dsimp only at hSw); go_simp; (try with_reducible rfl))
  (try simp only [Act.put, List.setIfInBounds_toArray, List.set_cons_zero, List.set_cons_succ])
  refine wpAnyH_take (i := 1) (v := ?_) rfl (by kernel_rfl) (by kernel_rfl) (by kernel_rfl) (fun _ _ _ h => h) (Or.inl ⟨by rfl, ?_⟩) (by assumption) ?_
  rotate_left
  · (intro wS hSw; (try dsimp only at hSw); go_simp; (try with_reducible rfl))
  (try simp only [Act.put, List.setIfInBounds_toArray, List.set_cons_zero, List.set_cons_succ])
  refine wpAnyH_take (i := 3) (v := ?_) rfl (by kernel_rfl) (by kernel_rfl) (by kernel_rfl) (fun _ _ _ h => h) (Or.inl ⟨by rfl, ?_⟩) (by assumption) ?_
  rotate_left
  · (intro wS hSw; (try dsimp only at hSw); go_simp; (try with_reducible rfl))
  (try simp only [Act.put, List.setIfInBounds_toArray, List.set_cons_zero, List.set_cons_succ])
  refine wpAnyH_ready (rs := [2]) (by kernel_rfl) (by simp) ?_
  refine AllReadyH.cons rfl (fun K hK => ?_) AllReadyH.nil
  go_simp
  go_at_call 35
  refine (in_any _ _ _ _).mono ?_
  rintro e w3 ⟨hq, q, rfl, hqa, hqb, hqc⟩
  dsimp only
  have z0 := (hq.cell (p := ⟨w.heap.size, 0, none⟩) (show w.heap.size < w2.heap.size by omega)).trans hHeld.1
  have z1 := (hq.cell (p := ⟨w.heap.size, 1, none⟩) (show w.heap.size < w2.heap.size by omega)).trans hHeld.2.1
  have z2 := (hq.cell (p := ⟨w.heap.size, 2, none⟩) (show w.heap.size < w2.heap.size by omega)).trans hHeld.2.2
  refine hK.out _ _ ⟨z0, z1, z2⟩ (fun hHeld2 => ?_)
  clear hK K
  (try simp only [Act.put, List.setIfInBounds_toArray, List.set_cons_zero, List.set_cons_succ])
  have s3 := S2.out.drew.trans (hq.mono S2.out.size)
  have hr3 := HR2.out.drew.below hq (Nat.le_refl _)
  have hrs3 := HRS2.out.drew.below hq (Nat.le_refl _)
  have hrl3 := HRL2.out.drew.below hq (Nat.le_refl _)
  have k3 := D0.out.drew.keep hq
  have hg3 : w.heap.size < w3.heap.size := k3.lt
  have S3 := Lib.hid s3; clear s3
  have HR3 := Lib.hid hr3; clear hr3
  have HRS3 := Lib.hid hrs3; clear hrs3
  have HRL3 := Lib.hid hrl3; clear hrl3
  have E0 := Lib.hid k3; clear k3
  clear hq hHeld x0 x1 x2
  refine wpAnyH_ready (rs := [4]) (by kernel_rfl) (by simp) ?_
  refine AllReadyH.cons rfl (fun K hK => ?_) AllReadyH.nil
  go_simp
  go_at_call 34
  refine (HTB.out q w3 HR3.out HRS3.out hqb hqc).mono ?_
  rintro e w4 ⟨hq, tv, rfl, htb⟩
  obtain ⟨ta, tn, tc, rfl⟩ := htb.form
  dsimp only
  have y0 := (hq.cell (p := ⟨w.heap.size, 0, none⟩) (show w.heap.size < w3.heap.size by omega)).trans z0
  have y1 := (hq.cell (p := ⟨w.heap.size, 1, none⟩) (show w.heap.size < w3.heap.size by omega)).trans z1
  have y2 := (hq.cell (p := ⟨w.heap.size, 2, none⟩) (show w.heap.size < w3.heap.size by omega)).trans z2
  refine hK.out _ _ ⟨y0, y1, y2⟩ (fun hHeld3 => ?_)
  clear hK K hHeld2 z0 z1 z2 y0 y1 y2
  (try simp only [Act.put, List.setIfInBounds_toArray, List.set_cons_zero, List.set_cons_succ])
  have s4 := S3.out.trans (hq.mono S3.out.size)
  have hr4 := HR3.out.below hq (Nat.le_refl _)
  have hrl4 := HRL3.out.below hq (Nat.le_refl _)
  have ht4 := htb.tab
  have k4 := E0.out.keep hq
  have hg4 : w.heap.size < w4.heap.size := k4.lt
  clear hq hqa hqb hqc htb
  refine wpAnyH_take (i := 5) (v := ?_) rfl (by kernel_rfl) (by kernel_rfl) (by kernel_rfl) (fun _ _ _ h => h) (Or.inl ⟨by rfl, ?_⟩) (by assumption) ?_
  rotate_left
  · (intro wS hSw; (try dsimp only at hSw); go_simp; (try with_reducible rfl))
  (try simp only [Act.put, List.setIfInBounds_toArray, List.set_cons_zero, List.set_cons_succ])
  refine wpAnyH_done (by kernel_rfl) ?_ _
  (try simp only [List.getElem_toArray, List.getElem_cons_zero, List.getElem_cons_succ, Act.put, List.setIfInBounds_toArray, List.set_cons_zero, List.set_cons_succ])
  clear hHeld3
  obtain ⟨N, hN⟩ : ∃ N, w4.heap.size = N := ⟨_, rfl⟩
  have hq : Below w4.heap.size w4 (w4.alloc (.cells #[.pointer none, .slice none 0 0] 79)) := (Below.refl _ _).alloc (Nat.le_refl _) _
  have isb : IsB N [] (w4.alloc (.cells #[.pointer none, .slice none 0 0] 79)) := by rw [← hN]; exact isB_new w4
  obtain ⟨w5, hw5⟩ : ∃ w5, w4.alloc (.cells #[.pointer none, .slice none 0 0] 79) = w5 := ⟨_, rfl⟩
  rw [hw5] at hq isb
  have hq45 : Below N w4 w5 := by rw [← hN]; exact hq
  have hlt5 : N < w5.heap.size := isB_lt isb
  have hlw : w.heap.size < N := by rw [← hN]; exact hg4
  have S4 := Lib.hid s4; clear s4
  have HR4 := Lib.hid hr4; clear hr4
  have HRL4 := Lib.hid hrl4; clear hrl4
  have HT4 := Lib.hid ht4; clear ht4
  have K4 := Lib.hid k4; clear k4
  have ISB := Lib.hid isb; clear isb
  have HQ45 := Lib.hid hq45; clear hq45
  have HW5 := Lib.hid hw5; clear hw5
  clear hq
  go_wp2_with fail
  go_loopw [2, 38] (fun st i wr => ∃ (j sk : Nat) (acc : List UInt8), j ≤ ml ∧ i = .int .i64 j ∧ st = .int .i64 sk ∧ sk < S ∧ IsB N acc wr ∧ Below N w4 wr ∧ acc.length = j * n ∧ R = strm es (pin set) n acc (sk : Int) (l.drop j)) (fun _ i _ => ml - (intOf i).toNat)
  case atStart => exact ⟨0, s0, [], Nat.zero_le _, rfl, rfl, hs0, by rw [HW5.out]; exact ISB.out, by rw [HW5.out]; exact HQ45.out, by simp, HRR.out⟩
  case round =>
    obtain ⟨j, sk, acc, hj, rfl, rfl, hsk, hib, hbel, hacc, hst⟩ := hrel
    have hbelN : Below w4.heap.size w4 wr := by rw [hN]; exact hbel
    have hNw : N < wr.heap.size := isB_lt hib
    have k0 := K4.out.keep hbelN
    have hgw : w.heap.size < wr.heap.size := k0.lt
    have x0 := k0.cell (j := 0) rfl
    have x1 := k0.cell (j := 1) rfl
    have x2 := k0.cell (j := 2) rfl
    have hs6 : Below w.heap.size w wr := S4.out.trans (hbelN.mono S4.out.size)
    have hr6 := HR4.out.below hbelN (Nat.le_refl _)
    have ht6 := HT4.out.below hbelN (Nat.le_refl _)
    by_cases hlt : j < ml
    · have hjl : j < l.length := by rw [← HML.out]; exact hlt
      have hget : l[j]? = some (l[j]'hjl) := List.getElem?_eq_getElem _
      have hsj := HSM.out _ (List.getElem_mem hjl)
      rw [List.drop_eq_getElem_cons hjl] at hst
      obtain ⟨y, hy⟩ : ∃ y, y = l[j]'hjl := ⟨_, rfl⟩
      rw [← hy] at hget hsj hst
      obtain ⟨b, off, rfl, hbw, hce⟩ := HRL4.out.at_ (by omega)
      obtain ⟨c0, c1⟩ := int_cells hce hbelN hbw hget
      have hwa : Below wr.heap.size wr (wr.alloc (.cells #[.bool (ineg y), .string (imag y)] 33)) := (Below.refl _ _).alloc (Nat.le_refl _) _
      have hunk := HUN.out sk y _ (wr.alloc (.cells #[.bool (ineg y), .string (imag y)] 33)) (hr6.below hwa (Nat.le_refl _)) (ht6.below hwa (Nat.le_refl _)) hsk hsj
      have hib2 := isB_keep hib hwa
      have hs7 := hs6.trans (hwa.mono hs6.size)
      have hb7 := hbel.trans (hwa.mono (Nat.le_of_lt hNw))
      have HUNK := Lib.hid hunk; clear hunk
      have HIB := Lib.hid hib2; clear hib2
      have HS7 := Lib.hid hs7; clear hs7
      have HB7 := Lib.hid hb7; clear hb7
      have K0 := Lib.hid k0; clear k0
      clear hce hget hy hr6 ht6 hs6 hbel hbelN hib hwa hsj
      have hix : (0 : Int) ≤ (j : Int) := by omega
      by_cases hin : 0 ≤ y ∧ y < cw es (pin set) n (sk : Int)
      · rw [strm_yes hin.1 hin.2] at hst
        have hlw2 := HUL.out (sk : Int) y hin.1 hin.2
        obtain ⟨t, ht, hte, -⟩ := HEND.out (sk : Int) y hin.1 hin.2
        have hun2 := HUNK.out
        rw [ure, if_pos hin] at hun2
        obtain ⟨U, hU⟩ : ∃ U, U = ur es (pin set) n (sk : Int) y := ⟨_, rfl⟩
        rw [← hU] at hst hlw2 hte hun2
        obtain ⟨U1, U2⟩ := U
        dsimp only at hst hlw2 hte
        subst hte
        have hlen2 : (acc ++ U1).length = (j + 1) * n := by rw [List.length_append, hacc, hlw2, Nat.add_mul, Nat.one_mul]
        have hsz : acc.length + U1.length ≤ 1000000000 := by
          have h1 : (j + 1) * n ≤ 4 * 4096 := Nat.mul_le_mul (by omega) hn
          rw [List.length_append] at hlen2
          omega
        have HUN2 := Lib.hid hun2; clear hun2
        have HST := Lib.hid hst; clear hst
        have HLEN := Lib.hid hlen2; clear hlen2
        clear hU hin HUNK hacc hlw2
        go_wp2_with fail
        go_at_call 42
        refine HUN2.out.mono ?_
        rintro e w6 ⟨hq, he⟩
        replace he : e = .returned (.tuple #[.string ⟨U1.toArray⟩, .int .i64 (t : Int), .bool true]) := he
        subst he
        have hib6 := isB_keep HIB.out hq
        have hs8 := HS7.out.trans (hq.mono HS7.out.size)
        have hb8 := HB7.out.trans (hq.mono (by have := HB7.out.size; omega))
        have hbl8 := isB_lt hib6
        have HIB6 := Lib.hid hib6; clear hib6
        have HS8 := Lib.hid hs8; clear hs8
        have HB8 := Lib.hid hb8; clear hb8
        clear hq x0 x1 x2 c0 c1
        go_wp2_with fail
        go_at_call 43
        refine (wstr_B N acc U1 w6 HIB6.out hsz).mono ?_
        rintro e w7 ⟨rfl, hib7, hbb, -⟩
        have hb9 := HB8.out.trans hbb
        have HIB7 := Lib.hid hib7; clear hib7
        have HB9 := Lib.hid hb9; clear hb9
        clear hbb
        go_wp2_with fail
        go_roundw
        case rel => exact ⟨j + 1, t, acc ++ U1, by omega, by go_num, rfl, ht, HIB7.out, HB9.out, HLEN.out, HST.out⟩
        case measure => simp [intOf]; omega
      · rw [strm_no hin] at hst
        have hun2 := HUNK.out
        rw [ure, if_neg hin] at hun2
        have HUN2 := Lib.hid hun2; clear hun2
        have HST := Lib.hid hst; clear hst
        clear hin HUNK
        go_wp2_with fail
        go_at_call 42
        refine HUN2.out.mono ?_
        rintro e w6 ⟨hq, he⟩
        replace he : e = .returned (.tuple #[.string ⟨#[]⟩, .int .i64 0, .bool false]) := he
        subst he
        have hs8 := HS7.out.trans (hq.mono HS7.out.size)
        have HS8 := Lib.hid hs8; clear hs8
        clear hq x0 x1 x2 c0 c1
        go_wp2_with fail
        go_ret3
        rw [HST.out]
        exact ⟨HS8.out, rfl⟩
    · obtain rfl : j = ml := by omega
      rw [List.drop_of_length_le (by rw [HML.out]; exact Nat.le_refl _)] at hst
      have hst2 : R = some (acc, (sk : Int)) := hst
      have hsz : acc.length ≤ 65536 := by
        have h1 : j * n ≤ 4 * 4096 := Nat.mul_le_mul (by omega) hn
        omega
      have hszI : ¬ (65536 : Int) < (acc.length : Int) := by omega
      have hln := Tryz.Builder_Len N N (Lib.byteCells acc) wr hib
      rw [Lib.byteCells_length] at hln
      have hss := Tryz.Builder_String_any N N acc wr hib (Nat.le_of_lt hNw)
      have HST := Lib.hid hst2; clear hst2
      have HLN := Lib.hid hln; clear hln
      have HSS := Lib.hid hss; clear hss
      have HS6 := Lib.hid hs6; clear hs6
      clear hst hr6 ht6 hib hbelN hbel k0
      go_wp2_with fail
      go_at_call 44
      refine HLN.out.mono ?_
      rintro e w6 ⟨rfl, rfl⟩
      go_wp2_with fail
      go_at_call 45
      refine HSS.out.mono ?_
      rintro e w7 ⟨rfl, hbb⟩
      have hs8 := HS6.out.trans (hbb.mono (by omega))
      have HS8 := Lib.hid hs8; clear hs8
      clear hbb
      go_wp2_with fail
      go_ret3
      rw [HST.out]
      exact ⟨HS8.out, rfl⟩
end Go.Proofs.YtalipfnbpnkgnaaGreat
