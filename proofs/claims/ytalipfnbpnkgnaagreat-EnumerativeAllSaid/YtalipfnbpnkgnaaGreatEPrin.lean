/- enumerative.principal. -/
import Derived.Deep.AppendLies
import Derived.Deep.CutBlock
import Derived.Test.YtalipfnbpnkgnaaGreatEPrA
namespace Go.Proofs.YtalipfnbpnkgnaaGreat
open Go.RowKit

/-- The states. -/
def uptoZ (S : Nat) : List Int := (List.range S).map fun (s : Nat) => (s : Int)
theorem uptoZ_length (S : Nat) : (uptoZ S).length = S := by simp [uptoZ]
theorem uptoZ_succ (S : Nat) : ci (uptoZ (S + 1)) = ci (uptoZ S) ++ [.int .i64 (S : Int)] := by simp [uptoZ, List.range_succ, ci]
theorem uptoZ_inR (S : Nat) : InR S (uptoZ S) := by
  intro x hx
  obtain ⟨s, hs, rfl⟩ := List.mem_map.1 hx
  have := List.mem_range.1 hs
  exact ⟨by omega, by omega⟩
theorem uptoZ_sorted (S : Nat) : (uptoZ S).Pairwise (· < ·) := by
  unfold uptoZ
  rw [List.pairwise_map]
  exact List.pairwise_lt_range.imp fun h => by omega
def sliceLen : Value → Nat
  | .slice _ n _ => n
  | _ => 0
theorem TabB.form {B : Nat} {w : World} {v : Value} {rows : List (List Int)} (h : TabB B w v rows) : ∃ a n c, v = .slice a n c := by
  obtain ⟨_, _, ⟨h1, _⟩, _⟩ := h
  obtain ⟨a, c, rfl, -⟩ := h1.slice
  exact ⟨_, _, _, rfl⟩
/-- A row of numbers in order. -/
def RowZ (w : World) (l : List Int) (e : Ending) (w' : World) : Prop := Below w.heap.size w w' ∧ ∃ v, e = .returned v ∧ Row w' v l.length (ci l)
theorem keepP_keepS (es : List E3) (n : Nat) (m : Int) (set : List Int) : keepP (fun s => decide (cw es (pin set) n s < m)) set = keepS es n m set := by
  unfold keepP keepS
  apply List.filter_congr
  intro x _
  by_cases h : cw es (pin set) n x < m
  · simp [h]
  · simp [h]; omega
theorem infoIntP : (Tryz.prog.info? 3).map (fun i => (i.zero, i.size, i.bytes)) = some (some (.int .i64 0), 1, 8) := by kernel_rfl
set_option maxRecDepth 100000 in
set_option maxHeartbeats 3200000 in
theorem principal_any (L m : Int) (S n : Nat) (es : List E3) (v : Value) (w : World) (hr : Row w v es.length (ce es)) (hS : S ≤ 64) (hn : n ≤ 4096) (hl : es.length ≤ 1024) (hin : InS S es) (hm : small m) :
    Calls Tryz.prog 63 #[.agg #[.int .i64 L, .int .i64 (S : Int), v], .int .i64 (n : Int), .agg #[.bool (ineg m), .string (imag m)]] w (RowZ w (prin es n m (uptoZ S))) := by
  obtain ⟨va, vc, rfl, hle⟩ := hr.slice
  obtain ⟨i0, hi, hz0, hz1', hz2'⟩ := info_parts infoIntP
  have b0 := ((Blk.new w 24 [.int .i64 L, .int .i64 (S : Int), .slice va es.length vc]).alloc (.cells #[.int .i64 (n : Int)] 3)).alloc (.cells #[.bool (ineg m), .string (imag m)] 33)
  have b1 := (Blk.new (w.alloc (.cells #[.int .i64 L, .int .i64 (S : Int), .slice va es.length vc] 24)) 3 [.int .i64 (n : Int)]).alloc (.cells #[.bool (ineg m), .string (imag m)] 33)
  have b2 := Blk.new ((w.alloc (.cells #[.int .i64 L, .int .i64 (S : Int), .slice va es.length vc] 24)).alloc (.cells #[.int .i64 (n : Int)] 3)) 33 [.bool (ineg m), .string (imag m)]
  have s0 := (((Below.refl w.heap.size w).alloc (Nat.le_refl _) (.cells #[.int .i64 L, .int .i64 (S : Int), .slice va es.length vc] 24)).alloc (by simp) (.cells #[.int .i64 (n : Int)] 3)).alloc (by simp only [World.size_alloc]; omega) (.cells #[.bool (ineg m), .string (imag m)] 33)
  simp only [World.size_alloc] at b1 b2
  have hr0 := hr.below s0 (Nat.le_refl _)
  obtain ⟨mm, hmm⟩ : ∃ mm, mm = es.length := ⟨_, rfl⟩
  rw [← hmm] at b0 b1 b2 s0 hr0 hle ⊢
  have B0 := Lib.hid b0; clear b0
  have B1 := Lib.hid b1; clear b1
  have B2 := Lib.hid b2; clear b2
  have S0 := Lib.hid s0; clear s0
  have HR := Lib.hid hr0; clear hr0
  have HIN := Lib.hid hin; clear hin
  have HMM := Lib.hid hmm; clear hmm
  clear hr
  go_enter Tryz.func63, Tryz.ntmps63
  go_wp2_with fail
  go_loopw [7, 8, 13] (fun u _ i wr => ∃ k : Nat, k ≤ S ∧ i = .int .i64 k ∧ wr.ownsRow (w.heap.size + 3) 3 1 u k (ci (uptoZ k)) ∧ Below (w.heap.size + 3) (((w.alloc (.cells #[.int .i64 L, .int .i64 (S : Int), .slice va mm vc] 24)).alloc (.cells #[.int .i64 (n : Int)] 3)).alloc (.cells #[.bool (ineg m), .string (imag m)] 33)) wr) (fun _ _ i _ => S - (intOf i).toNat)
  case atStart => exact ⟨0, by omega, rfl, World.ownsRow_nil _ _ _ _, Below.refl _ _⟩
  case round =>
    obtain ⟨k, hk, rfl, hown, hbel⟩ := hrel
    have hsz : w.heap.size + 3 ≤ wr.heap.size := by have := hbel.size; simp at this; omega
    obtain ⟨a, cap, rfl⟩ := own_slice hown
    have HO := Lib.hid hown; clear hown
    have HB := Lib.hid hbel; clear hbel
    by_cases hlt : k < S
    · have hci := uptoZ_succ k
      have HCI := Lib.hid hci; clear hci
      go_wp2_with (at_builtin; refine wpList_append_lies _ rfl (.tmp 16) (.tmp 18) 25 rfl (w.heap.size + 3) 3 i0 _ 1 8 Tryz.underlying25 hi hz0 hz1' hz2' rfl (by decide) _ _ _ rfl (HO.out.alloc _) _ 1 1 [.int .i64 (k : Int)] rfl rfl (World.news_of_block (heap_alloc_new _ _)) (by simp [Value.oneCell']) (by omega) (by unfold maxLen; omega) (by omega) (by simp; omega) _ rfl ?_; intro g cap' w3 hown' hg hat hlt'; have HG := Lib.hid hg; clear hg; have HO4 := Lib.hid hown'; clear hown'; have HAT := Lib.hid hat; clear hat)
      go_roundw
      case rel => exact ⟨k + 1, by omega, by go_num, by rw [HCI.out]; exact HO4.out, (HB.out.alloc hsz _).grown HG.out (by simp; omega) (fun j hj => (HO.out.lt j hj).1)⟩
      case measure => simp [intOf]; omega
    · obtain rfl : k = S := by omega
      have hrw := own_row HO.out
      have HRW := Lib.hid hrw; clear hrw
      obtain ⟨wo, rfl⟩ : ∃ wo : World, wo = wr := ⟨_, rfl⟩
      have hb0 := B0.out.below HB.out (by simp)
      have hb1 := B1.out.below HB.out (by simp)
      have hb2 := B2.out.below HB.out (by simp)
      have hre := HR.out.below HB.out (by simp)
      have hsbel := S0.out.trans (HB.out.mono (by omega))
      have C0 := Lib.hid hb0; clear hb0
      have C1 := Lib.hid hb1; clear hb1
      have C2 := Lib.hid hb2; clear hb2
      have HRE := Lib.hid hre; clear hre
      have SB := Lib.hid hsbel; clear hsbel
      clear B0 B1 B2 HR S0
      clear hlt hk
      go_wp2_with fail
      go_loopw [7] (fun u wr => ∃ (set : List Int), Row wr u set.length (ci set) ∧ Below wo.heap.size wo wr ∧ set.Pairwise (· < ·) ∧ InR k set ∧ set.length ≤ k ∧ prin es n m set = prin es n m (uptoZ k)) (fun u _ => sliceLen u)
      case atStart => exact ⟨uptoZ k, by rw [uptoZ_length]; exact HRW.out, Below.refl _ _, uptoZ_sorted k, uptoZ_inR k, by rw [uptoZ_length]; exact Nat.le_refl _, rfl⟩
      case round =>
        obtain ⟨set, hrow, hbel, hso, hir, hsl, hpr⟩ := hrel
        obtain ⟨sa, sc, rfl, -⟩ := hrow.slice
        have hszw : wo.heap.size ≤ wr.heap.size := hbel.size
        have k0 := C0.out.keep hbel
        have k1 := C1.out.keep hbel
        have k2 := C2.out.keep hbel
        have kr := HRE.out.below hbel (Nat.le_refl _)
        have htb : ∀ (q : Nat) (W : World), Below wr.heap.size wr W → q < W.heap.size → W.cell? ⟨q, 0, none⟩ = some (.slice sa set.length sc) → Calls Tryz.prog 34 #[.agg #[.int .i64 L, .int .i64 (k : Int), .slice va mm vc], .func (.func 71) #[] #[.pointer (some ⟨q, 0, none⟩)], .int .i64 (n : Int)] W (TabRet W (tabL es k (pin set) n)) := fun q W hb hq hc => by
          have hrW := kr.below hb (Nat.le_refl _)
          have hsW := hrow.below hb (Nat.le_refl _)
          rw [HMM.out] at hrW ⊢
          exact table_any L k n es _ _ _ (pin set) W hrW hS hn hl HIN.out (fun args w => enters_of Tryz.func71 (by kernel_rfl) rfl args w) (fun s w' hs hb' => isin_any set _ q s w' ((hb'.cell (p := ⟨q, 0, none⟩) hq).trans hc) (hsW.below hb' (Nat.le_refl _)) hso (by omega))
        have hcl := fun wx h => cloneZ_any set (.slice sa set.length sc) wx h (by omega)
        have hkk := keepP_keepS es n m set
        obtain ⟨M, hM⟩ : ∃ M, M = set.length := ⟨_, rfl⟩
        obtain ⟨ks, hks⟩ : ∃ ks, ks = keepS es n m set := ⟨_, rfl⟩
        rw [← hks] at hkk
        rw [← hM] at hrow hcl htb hsl ⊢
        have HROW := Lib.hid hrow; clear hrow
        have HBEL := Lib.hid hbel; clear hbel
        have HSO := Lib.hid hso; clear hso
        have HIR := Lib.hid hir; clear hir
        have HPR := Lib.hid hpr; clear hpr
        have HTB := Lib.hid htb; clear htb
        have HCL := Lib.hid hcl; clear hcl
        have HKK := Lib.hid hkk; clear hkk
        have HM := Lib.hid hM; clear hM
        have HKS := Lib.hid hks; clear hks
        have g0 := k0.cell (j := 0) rfl
        have g1 := k0.cell (j := 1) rfl
        have g2 := k0.cell (j := 2) rfl
        have g3 := k1.cell (j := 0) rfl
        have K0 := Lib.hid k0; clear k0
        have K1 := Lib.hid k1; clear k1
        have K2 := Lib.hid k2; clear k2
        clear kr
        go_upto_region 7 with (fail)
        go_cut [9] (fun q wx => ∃ (d : Nat) (tv : Value), q = .pointer (some ⟨d, 0, none⟩) ∧ Below wr.heap.size wr wx ∧ wx.cell? ⟨d, 0, none⟩ = some tv ∧ d < wx.heap.size ∧ Tab wx tv (tabL es k (pin set) n))
        case first =>
          have hl0 := K0.out.lt
          have hl1 := K1.out.lt
          refine wp_region_held_drew (S := fun w' => w'.cell? ⟨w.heap.size, 0, none⟩ = some (.int .i64 L) ∧ w'.cell? ⟨w.heap.size, 1, none⟩ = some (.int .i64 (k : Int)) ∧ w'.cell? ⟨w.heap.size, 2, none⟩ = some (.slice va mm vc) ∧ w'.cell? ⟨w.heap.size + 1, 0, none⟩ = some (.int .i64 (n : Int))) (by kernel_rfl) ?_ (fun hHeld => ?_)
          · go_keep
          refine wpAnyH_take (i := 0) (v := ?_) rfl (by kernel_rfl) (by kernel_rfl) (by kernel_rfl) (fun _ _ _ h => h) (Or.inl ⟨by rfl, ?_⟩) (by assumption) ?_
          rotate_left
          · (intro wS hSw; (try dsimp only at hSw); go_simp; (try with_reducible rfl))
          (try simp only [Act.put, List.setIfInBounds_toArray, List.set_cons_zero, List.set_cons_succ])
          refine wpAnyH_take (i := 1) (v := ?_) rfl (by kernel_rfl) (by kernel_rfl) (by kernel_rfl) (fun _ _ _ h => h) (Or.inl ⟨by rfl, ?_⟩) (by assumption) ?_
          rotate_left
          · (intro wS hSw; (try dsimp only at hSw); go_simp; (try with_reducible rfl))
          (try simp only [Act.put, List.setIfInBounds_toArray, List.set_cons_zero, List.set_cons_succ])
          refine wpAnyH_take (i := 3) (v := ?_) rfl (by kernel_rfl) (by kernel_rfl) (by kernel_rfl) (fun _ _ _ h => h) (Or.inl ⟨by rfl, ?_⟩) (by assumption) ?_
          rotate_left
          · (intro wS hSw; (try dsimp only at hSw); go_simp; (try with_reducible rfl))
          (try simp only [Act.put, List.setIfInBounds_toArray, List.set_cons_zero, List.set_cons_succ])
          refine wpAnyH_ready (rs := [2, 5]) (by kernel_rfl) (by simp) ?_
          refine AllReadyH.cons rfl (fun K hK => ?_) (AllReadyH.cons rfl (fun K hK => ?_) AllReadyH.nil)
          · go_simp
            go_at_call 35
            refine (in_any _ _ _ _).mono ?_
            rintro e w2 ⟨hq2, q, rfl, hqa, hqb, hqc⟩
            dsimp only
            have z0 := (hq2.cell (p := ⟨w.heap.size, 0, none⟩) (by simp; omega)).trans hHeld.1
            have z1 := (hq2.cell (p := ⟨w.heap.size, 1, none⟩) (by simp; omega)).trans hHeld.2.1
            have z2 := (hq2.cell (p := ⟨w.heap.size, 2, none⟩) (by simp; omega)).trans hHeld.2.2.1
            have z3 := (hq2.cell (p := ⟨w.heap.size + 1, 0, none⟩) (by simp; omega)).trans hHeld.2.2.2
            refine hK.out _ _ ⟨z0, z1, z2, z3⟩ (fun hHeld2 => ?_)
            clear hK K
            (try simp only [Act.put, List.setIfInBounds_toArray, List.set_cons_zero, List.set_cons_succ])
            have hs2 : wr.heap.size ≤ w2.heap.size := by have := hq2.size; simpa using this
            have hb2 : Below wr.heap.size wr w2 := (Below.refl _ wr).drew.trans (by simpa using hq2)
            refine wpAnyH_ready (rs := [4, 5]) (by kernel_rfl) (by simp) ?_
            refine AllReadyH.cons rfl (fun K hK => ?_) (AllReadyH.cons rfl (fun K hK => ?_) AllReadyH.nil)
            · go_simp
              go_at_call 34
              refine (HTB.out q w2 hb2 hqb hqc).mono ?_
              rintro e w3 ⟨hq3, tv, rfl, htab⟩
              obtain ⟨ta, tn, tc, rfl⟩ := htab.form
              dsimp only
              have z0 := (hq3.cell (p := ⟨w.heap.size, 0, none⟩) (by simp; omega)).trans hHeld2.1
              have z1 := (hq3.cell (p := ⟨w.heap.size, 1, none⟩) (by simp; omega)).trans hHeld2.2.1
              have z2 := (hq3.cell (p := ⟨w.heap.size, 2, none⟩) (by simp; omega)).trans hHeld2.2.2.1
              have z3 := (hq3.cell (p := ⟨w.heap.size + 1, 0, none⟩) (by simp; omega)).trans hHeld2.2.2.2
              refine hK.out _ _ ⟨z0, z1, z2, z3⟩ (fun hHeld3 => ?_)
              clear hK K
              (try simp only [Act.put, List.setIfInBounds_toArray, List.set_cons_zero, List.set_cons_succ])
              have hs3 : w2.heap.size ≤ w3.heap.size := hq3.size
              have hne0 : ¬ w3.heap.size = w.heap.size := by omega
              have hne1 : ¬ w3.heap.size = w.heap.size + 1 := by omega
              have nb := Blk.new w3 69 [.slice none 0 0]
              have n0 := nb.cell (j := 0) rfl
              have f0 := nb.frozen 0
              refine wpAnyH_ready (rs := [5]) (by kernel_rfl) (by simp) ?_
              refine AllReadyH.cons rfl (fun K hK => ?_) AllReadyH.nil
              go_simp
              refine hK.out _ _ ?_ (fun hHeld => ?_)
              · ((try dsimp only); go_keep)
              clear hK K
              (try simp only [Act.put, List.setIfInBounds_toArray, List.set_cons_zero, List.set_cons_succ])
              refine wpAnyH_ready (rs := [6]) (by kernel_rfl) (by simp) ?_
              refine AllReadyH.cons rfl (fun K hK => ?_) AllReadyH.nil
              go_simp
              refine hK.out _ _ ?_ (fun hHeld => ?_)
              · ((try dsimp only); go_keep)
              clear hK K
              (try simp only [Act.put, List.setIfInBounds_toArray, List.set_cons_zero, List.set_cons_succ])
              refine wpAnyH_done (by kernel_rfl) ?_ _
              go_wp2_with fail
              go_meet
              have hz := (Blk.new w3 69 [.slice ta tn tc])
              have hb3 := hb2.trans (hq3.mono hs2)
              have ha3 := (Below.refl w3.heap.size w3).alloc (Nat.le_refl _) (.cells #[.slice ta tn tc] 69)
              exact ⟨w3.heap.size, _, rfl, hb3.alloc (by omega) _, hz.cell (j := 0) rfl, by simp, (htab.below ha3 (Nat.le_refl _)).tab⟩
            · go_simp
              refine hK.out _ _ ?_ (fun hHeld => ?_)
              · ((try dsimp only); go_keep)
              clear hK K
              (try simp only [Act.put, List.setIfInBounds_toArray, List.set_cons_zero, List.set_cons_succ])
              have ha2 := (Below.refl w2.heap.size w2).alloc (Nat.le_refl _) (.cells #[.slice none 0 0] 69)
              refine wpAnyH_ready (rs := [4]) (by kernel_rfl) (by simp) ?_
              refine AllReadyH.cons rfl (fun K hK => ?_) AllReadyH.nil
              go_simp
              go_at_call 34
              refine (HTB.out q _ (hb2.alloc hs2 (.cells #[.slice none 0 0] 69)) (by simp; omega) ((ha2.cell (p := ⟨q, 0, none⟩) hqb).trans hqc)).mono ?_
              rintro e w3 ⟨hq3, tv, rfl, htab⟩
              obtain ⟨ta, tn, tc, rfl⟩ := htab.form
              dsimp only
              have z0 := (hq3.cell (p := ⟨w.heap.size, 0, none⟩) (by simp; omega)).trans hHeld.1
              have z1 := (hq3.cell (p := ⟨w.heap.size, 1, none⟩) (by simp; omega)).trans hHeld.2.1
              have z2 := (hq3.cell (p := ⟨w.heap.size, 2, none⟩) (by simp; omega)).trans hHeld.2.2.1
              have z3 := (hq3.cell (p := ⟨w.heap.size + 1, 0, none⟩) (by simp; omega)).trans hHeld.2.2.2
              refine hK.out _ _ ⟨z0, z1, z2, z3⟩ (fun hHeld3 => ?_)
              clear hK K
              (try simp only [Act.put, List.setIfInBounds_toArray, List.set_cons_zero, List.set_cons_succ])
              have hne0 : ¬ w2.heap.size = w.heap.size := by omega
              have hne1 : ¬ w2.heap.size = w.heap.size + 1 := by omega
              have nb := (Blk.new w2 69 [.slice none 0 0]).keep hq3
              have n0 := nb.cell (j := 0) rfl
              have f0 := nb.frozen 0
              refine wpAnyH_ready (rs := [6]) (by kernel_rfl) (by simp) ?_
              refine AllReadyH.cons rfl (fun K hK => ?_) AllReadyH.nil
              go_simp
              refine hK.out _ _ ?_ (fun hHeld => ?_)
              · ((try dsimp only); go_keep)
              clear hK K
              (try simp only [Act.put, List.setIfInBounds_toArray, List.set_cons_zero, List.set_cons_succ])
              refine wpAnyH_done (by kernel_rfl) ?_ _
              go_wp2_with fail
              go_meet
              have hz := (nb.set 0 (.slice ta tn tc)).cell (j := 0) rfl
              have hb3 := (hb2.alloc hs2 (.cells #[.slice none 0 0] 69)).trans (hq3.mono (by simp; omega))
              exact ⟨w2.heap.size, _, rfl, hb3.setCell (p := ⟨w2.heap.size, 0, none⟩) hs2 _, hz, by have := nb.lt; simpa using this, (htab.put (by simp) 0 _).tab⟩
          · go_simp
            refine hK.out _ _ ?_ (fun hHeld => ?_)
            · ((try dsimp only); go_keep)
            clear hK K
            (try simp only [Act.put, List.setIfInBounds_toArray, List.set_cons_zero, List.set_cons_succ])
            have ha1 := ((Below.refl wr.heap.size wr).drew).alloc (Nat.le_refl _) (.cells #[.slice none 0 0] 69)
            refine wpAnyH_ready (rs := [2]) (by kernel_rfl) (by simp) ?_
            refine AllReadyH.cons rfl (fun K hK => ?_) AllReadyH.nil
            go_simp
            go_at_call 35
            refine (in_any _ _ _ _).mono ?_
            rintro e w2 ⟨hq2, q, rfl, hqa, hqb, hqc⟩
            dsimp only
            have z0 := (hq2.cell (p := ⟨w.heap.size, 0, none⟩) (by simp; omega)).trans hHeld.1
            have z1 := (hq2.cell (p := ⟨w.heap.size, 1, none⟩) (by simp; omega)).trans hHeld.2.1
            have z2 := (hq2.cell (p := ⟨w.heap.size, 2, none⟩) (by simp; omega)).trans hHeld.2.2.1
            have z3 := (hq2.cell (p := ⟨w.heap.size + 1, 0, none⟩) (by simp; omega)).trans hHeld.2.2.2
            refine hK.out _ _ ⟨z0, z1, z2, z3⟩ (fun hHeld2 => ?_)
            clear hK K
            (try simp only [Act.put, List.setIfInBounds_toArray, List.set_cons_zero, List.set_cons_succ])
            have hs2 : wr.heap.size + 1 ≤ w2.heap.size := by have := hq2.size; simpa using this
            have hb2 : Below wr.heap.size wr w2 := ha1.trans (hq2.mono (by simp))
            refine wpAnyH_ready (rs := [4]) (by kernel_rfl) (by simp) ?_
            refine AllReadyH.cons rfl (fun K hK => ?_) AllReadyH.nil
            go_simp
            go_at_call 34
            refine (HTB.out q w2 hb2 hqb hqc).mono ?_
            rintro e w3 ⟨hq3, tv, rfl, htab⟩
            obtain ⟨ta, tn, tc, rfl⟩ := htab.form
            dsimp only
            have z0 := (hq3.cell (p := ⟨w.heap.size, 0, none⟩) (by simp; omega)).trans hHeld2.1
            have z1 := (hq3.cell (p := ⟨w.heap.size, 1, none⟩) (by simp; omega)).trans hHeld2.2.1
            have z2 := (hq3.cell (p := ⟨w.heap.size, 2, none⟩) (by simp; omega)).trans hHeld2.2.2.1
            have z3 := (hq3.cell (p := ⟨w.heap.size + 1, 0, none⟩) (by simp; omega)).trans hHeld2.2.2.2
            refine hK.out _ _ ⟨z0, z1, z2, z3⟩ (fun hHeld3 => ?_)
            clear hK K
            (try simp only [Act.put, List.setIfInBounds_toArray, List.set_cons_zero, List.set_cons_succ])
            have hne0 : ¬ wr.heap.size = w.heap.size := by omega
            have hne1 : ¬ wr.heap.size = w.heap.size + 1 := by omega
            have nb : Blk w3 wr.heap.size 69 [.slice none 0 0] := ((Blk.new wr.drew 69 [.slice none 0 0]).keep hq2).keep hq3
            have n0 := nb.cell (j := 0) rfl
            have f0 := nb.frozen 0
            refine wpAnyH_ready (rs := [6]) (by kernel_rfl) (by simp) ?_
            refine AllReadyH.cons rfl (fun K hK => ?_) AllReadyH.nil
            go_simp
            refine hK.out _ _ ?_ (fun hHeld => ?_)
            · ((try dsimp only); go_keep)
            clear hK K
            (try simp only [Act.put, List.setIfInBounds_toArray, List.set_cons_zero, List.set_cons_succ])
            refine wpAnyH_done (by kernel_rfl) ?_ _
            go_wp2_with fail
            go_meet
            have hz := (nb.set 0 (.slice ta tn tc)).cell (j := 0) rfl
            have hb3 := hb2.trans (hq3.mono (by omega))
            exact ⟨wr.heap.size, _, rfl, hb3.setCell (p := ⟨wr.heap.size, 0, none⟩) (Nat.le_refl _) _, hz, by have := nb.lt; simpa using this, (htab.put (by omega) 0 _).tab⟩
        case rest =>
          obtain ⟨d, tv, rfl, hbx, hdc, hdl, htab⟩ := hcut
          have hszx : wr.heap.size ≤ wc.heap.size := hbx.size
          have hrc := HROW.out.below hbx (Nat.le_refl _)
          have hcl2 := HCL.out wc hrc
          have hnc := (K1.out.keep hbx).cell (j := 0) rfl
          have hm0 := (K2.out.keep hbx).cell (j := 0) rfl
          have hm1 := (K2.out.keep hbx).cell (j := 1) rfl
          have hkn := (K1.out.keep hbx).lt
          have hkm := (K2.out.keep hbx).lt
          have hpred : PredB 96 #[.pointer (some ⟨d, 0, none⟩), .pointer (some ⟨w.heap.size + 1, 0, none⟩), .pointer (some ⟨w.heap.size + 1 + 1, 0, none⟩)] (fun s => decide (cw es (pin set) n s < m)) k wc.heap.size wc := fun s W hs hb =>
            princ1_any (tabL es k (pin set) n) (rowK es k (pin set) n) d (w.heap.size + 1) (w.heap.size + 1 + 1) n s tv (cw es (pin set) n (s : Int)) m W ((hb.cell (p := ⟨d, 0, none⟩) hdl).trans hdc) (htab.below hb (Nat.le_refl _)) ((hb.cell (p := ⟨w.heap.size + 1, 0, none⟩) hkn).trans hnc) ((hb.cell (p := ⟨w.heap.size + 1 + 1, 0, none⟩) hkm).trans hm0) ((hb.cell (p := ⟨w.heap.size + 1 + 1, 1, none⟩) hkm).trans hm1) (tabL_get (by omega)) (rowK_get hs) (cw_small (by omega) _ n (by omega) _) hm
          have hdel := fun v' w' hown hb => delC_any set v' k wc.heap.size 96 _ _ wc w' hown HIR.out (fun args w => enters_of Tryz.func96 (by kernel_rfl) rfl args w) hpred hb (Below.size hb)
          rw [HKK.out] at hdel
          have hall : Below wo.heap.size wo wc := HBEL.out.trans (hbx.mono hszw)
          have HALL := Lib.hid hall; clear hall
          have HCL2 := Lib.hid hcl2; clear hcl2
          have HDEL := Lib.hid hdel; clear hdel
          have HRC := Lib.hid hrc; clear hrc
          clear hdc htab hnc hm0 hm1 hpred hbx g0 g1 g2 g3
          go_wp2_with fail
          go_at_call 58
          refine HCL2.out.mono ?_
          rintro e wd ⟨hqd, vd, rfl, hown⟩
          have hdd := HDEL.out vd wd hown hqd
          have hrd := HRC.out.below hqd (Nat.le_refl _)
          have hsd : wc.heap.size ≤ wd.heap.size := hqd.size
          have HDD := Lib.hid hdd; clear hdd
          have HRD := Lib.hid hrd; clear hrd
          have HQD := Lib.hid hqd; clear hqd
          clear hown
          go_wp2_with fail
          go_at_call 95
          refine HDD.out.mono ?_
          rintro e we ⟨hqe, ve, rfl, hre2⟩
          obtain ⟨ea, ec, rfl, -⟩ := hre2.slice
          have hqq := HQD.out.trans hqe
          have hrw2 := HRC.out.below hqq (Nat.le_refl _)
          have hall2 := HALL.out.trans (hqq.mono (by omega))
          have HALL2 := Lib.hid hall2; clear hall2
          have HRW2 := Lib.hid hrw2; clear hrw2
          have HRE2 := Lib.hid hre2; clear hre2
          clear hqq hqe
          by_cases hst : ks.length = M
          · have hb1 : ((ks.length : Int) == (M : Int)) = true := by simp; omega
            have hfin : prin es n m (uptoZ k) = set := by rw [← HPR.out]; exact prin_stop (by rw [← HKS.out, hst, HM.out])
            have HFIN := Lib.hid hfin; clear hfin
            clear hst
            go_wp2_with fail
            go_ret
            refine ⟨SB.out.trans (HALL2.out.mono (by omega)), _, rfl, ?_⟩
            rw [HFIN.out, ← HM.out]
            exact HRW2.out
          · have hb1 : ((ks.length : Int) == (M : Int)) = false := by simp; omega
            have hlt : ks.length < M := by
              rw [HKS.out, HM.out]
              exact keepS_lt (by rw [← HKS.out, ← HM.out]; exact hst)
            have hnx : prin es n m ks = prin es n m (uptoZ k) := by
              rw [← HPR.out, prin_go (set := set) (by rw [← HKS.out, ← HM.out]; exact hst), HKS.out]
            have hsub : ks.Sublist set := by rw [HKS.out]; exact keepS_sub es n m set
            have HNX := Lib.hid hnx; clear hnx
            have HSUB := Lib.hid hsub; clear hsub
            clear hst
            go_wp2_with fail
            go_roundw
            case rel => exact ⟨ks, HRE2.out, HALL2.out, HSO.out.sublist HSUB.out, fun x hx => HIR.out x (HSUB.out.subset hx), by omega, HNX.out⟩
            case measure => simp [sliceLen]; omega
end Go.Proofs.YtalipfnbpnkgnaaGreat
