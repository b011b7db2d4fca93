/- polynomial.divide: the pseudo-division. -/
import Derived.Test.YtjpalbonclgflaaPart18
namespace Go.Proofs.Ytjpalbonclgflaa
open Go.RowKit

def PdRet (q r : List Int) (w : World) (e : Ending) (w' : World) : Prop := Below w.heap.size w w' ∧ ∃ v u, e = .returned (.tuple #[v, u]) ∧ Row w' v q.length (civ q) ∧ Row w' u r.length (civ r)
set_option maxRecDepth 100000 in
set_option maxHeartbeats 12800000 in
theorem pdivide_any (a b : List Int) (va vb : Value) (w : World) (m k0 : Nat) (hra : Row w va a.length (civ a)) (hrb : Row w vb b.length (civ b)) (hla : a.length ≤ 1000) (hlb : b.length ≤ 1000) (hb0 : 0 < b.length)
  (hsa : ∀ x ∈ a, zs m x) (hsb : ∀ x ∈ b, zs k0 x) (hm : m + 1001 * (k0 + 1) ≤ 100000000000) (hea : Ends a) :
  Calls Try.prog 65 #[va, vb] w (PdRet (pdv a b).1 (pdv a b).2 w) := by
 obtain ⟨aa, ac, rfl, hlea⟩ := hra.slice
 obtain ⟨ab, bc, rfl, hleb⟩ := hrb.slice
 obtain ⟨la, hla'⟩ : ∃ n, n = a.length := ⟨_, rfl⟩
 obtain ⟨lb, hlb'⟩ : ∃ n, n = b.length := ⟨_, rfl⟩
 rw [← hla'] at hra hla hlea ⊢
 rw [← hlb'] at hrb hlb hb0 hleb ⊢
 by_cases hlt : la < lb
 ·
  have hp : pdv a b = ([], a) := by unfold pdv; rw [if_pos (by omega)]
  have hneg : (la : Int) - (lb : Int) < 0 := by omega
  rw [hp]
  dsimp only
  have HRA := zh hra; clear hra
  have HLA := zh hla'; clear hla'
  have HLB := zh hlb'; clear hlb'
  clear hrb hsa hsb hp hm
  go_enter Try.func65, Try.ntmps65
  go_wp2_with fail
  go_ret2
  exact ⟨Below.refl _ _, _, _, rfl, Row.nil _, by rw [← HLA.out]; exact HRA.out⟩
 ·
  obtain ⟨n, hn⟩ : ∃ n, la = lb + n := ⟨la - lb, by omega⟩
  have hneg : ¬ (la : Int) - (lb : Int) < 0 := by omega
  have hni : (la : Int) - (lb : Int) = (n : Int) := by omega
  obtain ⟨e, he⟩ : ∃ e, lb = e + 1 := ⟨lb - 1, by omega⟩
  have hei : (lb : Int) - 1 = (e : Int) := by omega
  have hel : (e : Int) < (lb : Int) := by omega
  obtain ⟨c, hget⟩ : ∃ c, b[e]? = some c := ⟨_, List.getElem?_eq_getElem (by omega)⟩
  have hcs : zs k0 c := hsb _ (List.mem_of_getElem? hget)
  have hpd : pdv a b = (tzI (dvS c b n a (n + 1)).1, tzI (dvS c b n a (n + 1)).2) := by
   unfold pdv
   rw [if_neg (by omega), ← hla', ← hlb', show la - lb = n by omega]
   have : b.getLast?.getD 0 = c := by
    rw [List.getLast?_eq_getElem?, ← hlb', show lb - 1 = e by omega, hget]; rfl
   rw [this]
  rw [hpd]
  dsimp only
  obtain ⟨N1, hN1⟩ : ∃ N1, N1 = n + 1 := ⟨_, rfl⟩
  obtain ⟨qf, hqf⟩ : ∃ q, q = tzI (dvS c b n a (n + 1)).1 := ⟨_, rfl⟩
  obtain ⟨rf, hrf⟩ : ∃ q, q = tzI (dvS c b n a (n + 1)).2 := ⟨_, rfl⟩
  rw [← hqf, ← hrf]
  have HQF := zh hqf; clear hqf
  have HRF := zh hrf; clear hrf
  obtain ⟨b1, o1, rfl, hb1, hbc⟩ := hrb.at_ (by omega)
  obtain ⟨c0, c1⟩ := int_cells hbc (Below.refl _ _) hb1 hget
  have hlen := dvS_length c b n a
  have hzs := dvS_zs (n := n) hsa hsb hcs
  have tc : Blk (w.alloc (.cells #[.bool (ineg c), .string (imag c)] 33)) w.heap.size 33 [.bool (ineg c), .string (imag c)] := Blk.new w _ _
  have tl : Below w.heap.size w (w.alloc (.cells #[.bool (ineg c), .string (imag c)] 33)) := (Below.refl _ _).alloc (Nat.le_refl _) _
  obtain ⟨w4, hw4⟩ : ∃ w4, w4 = w.alloc (.cells #[.bool (ineg c), .string (imag c)] 33) := ⟨_, rfl⟩
  rw [← hw4] at tc tl
  have hra4 := hra.below tl (Nat.le_refl _)
  have hmk := mkI N1 (by omega) (N1 : Int) rfl
  have hwr1 : IntKind.i64.wrap (N1 : Int) = (N1 : Int) := by rw [IntKind.wrap_i64]; omega
  have hN1i : (n : Int) + 1 = (N1 : Int) := by omega
  have hlast : ∃ x, a[la - 1]? = some x ∧ x ≠ 0 := by
   rcases List.eq_nil_or_concat a with h | ⟨a0, x, h⟩
   ·
    rw [h] at hla'; simp at hla'; omega
   ·
    rw [List.concat_eq_append] at h
    refine ⟨x, ?_, hea _ _ h⟩
    rw [hla', h]; simp
  obtain ⟨xl, hxl, hxl0⟩ := hlast
  have hxim : imag xl ≠ ⟨#[]⟩ := fun e9 => hxl0 (imag_empty.1 (by rw [e9]))
  have hxg := (civ_get hxl).2
  have hnq : ∀ {W : World} {bb : Nat} {sp : List Value}, Blk W bb 33 (civ (List.replicate N1 0)) → Blk W bb 33 (civ a ++ sp) → False := by
   intro W bb sp h1 h2
   have h3 := h2.cell (j := (la - 1) * 2 + 1) (u := .string (imag xl)) (by rw [List.getElem?_append_left (by rw [civ_length]; omega)]; exact hxg)
   rcases Nat.lt_or_ge (la - 1) N1 with h4 | h4
   ·
    have h5 := h1.cell (civ_get (l := List.replicate N1 0) (k := la - 1) (z := 0) (by rw [List.getElem?_replicate, if_pos h4])).2
    rw [h3, imag_zero] at h5
    have := Option.some.inj h5
    injection this with h6
    exact hxim h6
   ·
    have h5 := (Array.getElem?_eq_some_iff.1 h1).2
    have h6 := (Array.getElem?_eq_some_iff.1 h2).2
    rw [h5] at h6
    injection h6 with h7
    have h8 := congrArg Array.size h7
    simp [civ_length] at h8
    omega
  clear hxg hxim hxl0 hxl
  have HRA := zh hra4; clear hra4
  have HRB := zh hrb; clear hrb
  have HLA := zh hla'; clear hla'
  have HLB := zh hlb'; clear hlb'
  have HSA := zh hsa; clear hsa
  have HSB := zh hsb; clear hsb
  have HCS := zh hcs; clear hcs
  have HPD := zh hpd; clear hpd
  have HLEN := zh hlen; clear hlen
  have HZS := zh hzs; clear hzs
  have HC := zh tc; clear tc
  have HBL := zh tl; clear tl
  have HW4 := zh hw4; clear hw4
  clear hra hget hbc
  have hnla : N1 ≤ la := by omega
  have HN1 := zh hN1; clear hN1
  have HN := zh hn; clear hn
  have HE := zh he; clear he
  have HM := zh hm; clear hm
  clear hleb hlea hneg
  have hneg : ¬ (n : Int) < 0 := by omega
  clear hlt
  go_enter Try.func65, Try.ntmps65
  go_upto_region 5 with fail
  (try rw [← HW4.out])
  go_cut [8, 9] from 30 to 35 (fun vq vr wx => ∃ (bq br cp : Nat) (sp : List Value), vq = .slice (some ⟨bq, 0, none⟩) N1 N1 ∧ vr = .slice (some ⟨br, 0, none⟩) la cp ∧ la ≤ cp ∧ cp ≤ maxLen ∧ Below w.heap.size w wx ∧ Blk wx w.heap.size 33 [.bool (ineg c), .string (imag c)] ∧ Blk wx bq 33 (civ (List.replicate N1 0)) ∧ Blk wx br 33 (civ a ++ sp) ∧ w.heap.size < bq ∧ w.heap.size < br ∧ bq ≠ br)
  case first =>
   refine wp_region_held_drew (S := fun _ => True) (by kernel_rfl) trivial (fun _ => ?_)
   have hc_ := HC.out
   have hl_ := HBL.out
   have hr_ := HRA.out
   have hw4l : w.heap.size < w4.heap.size := HC.out.lt
   have hs_ : w4.heap.size ≤ w4.heap.size := Nat.le_refl _
   refine zT 0 (h := ?_)
   (try simp only [Act.put, zA, zB, zC])
   refine zT 1 (h := ?_)
   (try simp only [Act.put, zA, zB, zC])
   refine zT 4 (h := ?_)
   (try simp only [Act.put, zA, zB, zC])
   refine wpAnyH_ready (rs := [2, 3]) (by kernel_rfl) (by simp) ?_
   refine (AllReadyH.cons rfl (fun K hK => ?_) (AllReadyH.cons rfl (fun K hK => ?_) AllReadyH.nil))
   ·
    go_simp
    refine hK.out _ _ trivial (fun _ => ?_)
    clear hK K
    (try simp only [Act.put, zA, zB, zC])
    obtain ⟨bq, hb_bq⟩ : ∃ b, b = w4.heap.size := ⟨_, rfl⟩
    have hal : Below w4.heap.size w4 (w4.alloc (.cells (zarr (.agg #[.bool false, .string ⟨#[]⟩]) N1) 33)) := (Below.refl _ _).alloc (Nat.le_refl _) _
    have hq_ : Blk (w4.alloc (.cells (zarr (.agg #[.bool false, .string ⟨#[]⟩]) N1) 33)) bq 33 (civ (List.replicate N1 0)) := by rw [hb_bq]; exact blk_mkI w4 N1
    have hs9 := Nat.le_trans hs_ hal.size
    clear hs_
    have hs_ := hs9
    clear hs9
    have hx1 := hc_.keep hal
    have hx2 := hl_.trans (hal.mono hl_.size)
    (try have hx3 := hr_.below hal (Nat.le_refl _))
    have hlt_bq : w.heap.size < bq := by have := hc_.lt; omega
    have hle_bq : w4.heap.size ≤ bq := by omega
    (try rw [← hb_bq])
    have HB_bq := zh hb_bq; clear hb_bq
    clear hc_ hl_
    have hc_ := hx1
    have hl_ := hx2
    clear hx1 hx2
    (try clear hr_)
    (try have hr_ := hx3)
    (try clear hx3)
    clear hal
    obtain ⟨w5, hw_w5⟩ : ∃ x, x = w4.alloc (.cells (zarr (.agg #[.bool false, .string ⟨#[]⟩]) N1) 33) := ⟨_, rfl⟩
    (try rw [← hw_w5] at hc_)
    (try rw [← hw_w5] at hl_)
    (try rw [← hw_w5] at hr_)
    (try rw [← hw_w5] at hq_)
    (try rw [← hw_w5] at hown_)
    (try rw [← hw_w5] at hrr_)
    (try rw [← hw_w5] at hs_)
    (try rw [← hw_w5])
    have HW_w5 := zh hw_w5; clear hw_w5
    refine wpAnyH_ready (rs := [3]) (by kernel_rfl) (by simp) ?_
    refine (AllReadyH.cons rfl (fun K hK => ?_) AllReadyH.nil)
    ·
     go_simp
     refine hK.out _ _ trivial (fun _ => ?_)
     clear hK K
     (try simp only [Act.put, zA, zB, zC])
     obtain ⟨be, hb_be⟩ : ∃ b, b = w5.heap.size := ⟨_, rfl⟩
     have hal : Below w5.heap.size w5 (w5.alloc (.cells #[] 33)) := (Below.refl _ _).alloc (Nat.le_refl _) _
     have hown_ : (w5.alloc (.cells #[] 33)).ownsRow w4.heap.size 33 2 (.slice (some ⟨be, 0, none⟩) 0 0) 0 (civ []) := ⟨rfl, Or.inr ⟨be, 0, #[], rfl, by rw [hb_be]; exact hs_, by rw [hb_be]; exact heap_alloc_new _ _, Nat.le_refl _, by decide, rfl, rfl⟩⟩
     have hs9 := Nat.le_trans hs_ hal.size
     clear hs_
     have hs_ := hs9
     clear hs9
     have hx1 := hc_.keep hal
     have hx2 := hl_.trans (hal.mono hl_.size)
     (try have hx3 := hr_.below hal (Nat.le_refl _))
     have hlt_be : w.heap.size < be := by have := hc_.lt; omega
     have hle_be : w5.heap.size ≤ be := by omega
     (try rw [← hb_be])
     have HB_be := zh hb_be; clear hb_be
     clear hc_ hl_
     have hc_ := hx1
     have hl_ := hx2
     clear hx1 hx2
     (try clear hr_)
     (try have hr_ := hx3)
     (try clear hx3)
     have hne_ : bq ≠ be := by have := hq_.lt; omega
     have hx4 := hq_.keep hal
     clear hq_
     have hq_ := hx4
     clear hx4
     clear hal
     obtain ⟨w6, hw_w6⟩ : ∃ x, x = w5.alloc (.cells #[] 33) := ⟨_, rfl⟩
     (try rw [← hw_w6] at hc_)
     (try rw [← hw_w6] at hl_)
     (try rw [← hw_w6] at hr_)
     (try rw [← hw_w6] at hq_)
     (try rw [← hw_w6] at hown_)
     (try rw [← hw_w6] at hrr_)
     (try rw [← hw_w6] at hs_)
     (try rw [← hw_w6])
     have HW_w6 := zh hw_w6; clear hw_w6
     refine wpAnyH_ready (rs := [5]) (by kernel_rfl) (by simp) ?_
     refine (AllReadyH.cons rfl (fun K hK => ?_) AllReadyH.nil)
     ·
      refine step_append_row rfl _ _ 25 rfl w4.heap.size 33 _ 2 24 Try.underlying25 infoZ rfl (by decide) (.slice (some ⟨be, 0, none⟩) 0 0) 0 _ (by rfl) (show (w6.drew).ownsRow _ _ _ _ _ _ from hown_) _ la _ (by rfl) (show Row w6.drew _ _ _ from hr_.below (Below.refl _ _).drew (Nat.le_refl _)) (by rw [civ_length, HLA.out]) (by intro u hu; exact civ_one hu) (by unfold maxLen; omega) (by omega) (show w4.heap.size ≤ w6.drew.heap.size from hs_) ?_
      intro v9 w7 own9 hg9
      have hob : (Value.slice (some ⟨be, 0, none⟩) 0 0).ownBlock = some be := rfl
      rw [hob] at hg9
      have hx1 := Blk.grown hc_.drew hg9 (by intro h9; have := Option.some.inj h9; omega)
      have hx2 := (hl_.trans (Below.refl _ _).drew).grown hg9 hl_.size (fun j hj => by have := Option.some.inj hj; omega)
      have hx3 := Blk.grown hq_.drew hg9 (by intro h9; have := Option.some.inj h9; omega)
      clear hq_
      have hq_ := hx3
      clear hx3
      rw [Nat.zero_add] at own9
      rcases own9.2 with ⟨-, h0⟩ | ⟨br, cp, cu, rfl, hge, hh, h1, h2, h3, h4⟩
      ·
       omega
      have hrr_ : Blk w7 br 33 (civ a ++ cu.toList.drop (la * 2)) := by
       unfold Blk
       rw [show civ a = cu.toList.take (la * 2) from h4.symm, List.take_append_drop]
       exact hh
      have hsb : w.heap.size < br := by omega
      have hs9 : w4.heap.size ≤ w7.heap.size := Nat.le_trans hs_ hg9.size
      clear hs_
      have hs_ := hs9
      clear hs9
      have hnr : bq ≠ br := fun h => hnq (h ▸ hq_) hrr_
      refine hK.out _ _ trivial (fun _ => ?_)
      clear hK K hc_ hl_ hr_ hown_ own9 hg9 hob hh h4
      (try simp only [Act.put, zA, zB, zC])
      have hc_ := hx1
      have hl_ := hx2
      clear hx1 hx2
      refine zT 6 (h := ?_)
      (try simp only [Act.put, zA, zB, zC])
      refine zT 7 (h := ?_)
      (try simp only [Act.put, zA, zB, zC])
      refine wpAnyH_done (by kernel_rfl) ?_ _
      (try simp only [List.getElem_toArray, List.getElem_cons_zero, List.getElem_cons_succ, Act.put, zA, zB, zC])
      go_wp2_with fail
      go_meet
      exact ⟨bq, br, cp, _, rfl, rfl, h1, h2, hl_, hc_, hq_, hrr_, hlt_bq, hsb, hnr⟩
   ·
    go_simp
    refine hK.out _ _ trivial (fun _ => ?_)
    clear hK K
    (try simp only [Act.put, zA, zB, zC])
    obtain ⟨be, hb_be⟩ : ∃ b, b = w4.heap.size := ⟨_, rfl⟩
    have hal : Below w4.heap.size w4 (w4.alloc (.cells #[] 33)) := (Below.refl _ _).alloc (Nat.le_refl _) _
    have hown_ : (w4.alloc (.cells #[] 33)).ownsRow w4.heap.size 33 2 (.slice (some ⟨be, 0, none⟩) 0 0) 0 (civ []) := ⟨rfl, Or.inr ⟨be, 0, #[], rfl, by rw [hb_be]; exact hs_, by rw [hb_be]; exact heap_alloc_new _ _, Nat.le_refl _, by decide, rfl, rfl⟩⟩
    have hs9 := Nat.le_trans hs_ hal.size
    clear hs_
    have hs_ := hs9
    clear hs9
    have hx1 := hc_.keep hal
    have hx2 := hl_.trans (hal.mono hl_.size)
    (try have hx3 := hr_.below hal (Nat.le_refl _))
    have hlt_be : w.heap.size < be := by have := hc_.lt; omega
    have hle_be : w4.heap.size ≤ be := by omega
    (try rw [← hb_be])
    have HB_be := zh hb_be; clear hb_be
    clear hc_ hl_
    have hc_ := hx1
    have hl_ := hx2
    clear hx1 hx2
    (try clear hr_)
    (try have hr_ := hx3)
    (try clear hx3)
    clear hal
    obtain ⟨w5, hw_w5⟩ : ∃ x, x = w4.alloc (.cells #[] 33) := ⟨_, rfl⟩
    (try rw [← hw_w5] at hc_)
    (try rw [← hw_w5] at hl_)
    (try rw [← hw_w5] at hr_)
    (try rw [← hw_w5] at hq_)
    (try rw [← hw_w5] at hown_)
    (try rw [← hw_w5] at hrr_)
    (try rw [← hw_w5] at hs_)
    (try rw [← hw_w5])
    have HW_w5 := zh hw_w5; clear hw_w5
    refine wpAnyH_ready (rs := [2, 5]) (by kernel_rfl) (by simp) ?_
    refine (AllReadyH.cons rfl (fun K hK => ?_) (AllReadyH.cons rfl (fun K hK => ?_) AllReadyH.nil))
    ·
     go_simp
     refine hK.out _ _ trivial (fun _ => ?_)
     clear hK K
     (try simp only [Act.put, zA, zB, zC])
     obtain ⟨bq, hb_bq⟩ : ∃ b, b = w5.heap.size := ⟨_, rfl⟩
     have hal : Below w5.heap.size w5 (w5.alloc (.cells (zarr (.agg #[.bool false, .string ⟨#[]⟩]) N1) 33)) := (Below.refl _ _).alloc (Nat.le_refl _) _
     have hq_ : Blk (w5.alloc (.cells (zarr (.agg #[.bool false, .string ⟨#[]⟩]) N1) 33)) bq 33 (civ (List.replicate N1 0)) := by rw [hb_bq]; exact blk_mkI w5 N1
     have hs9 := Nat.le_trans hs_ hal.size
     clear hs_
     have hs_ := hs9
     clear hs9
     have hx1 := hc_.keep hal
     have hx2 := hl_.trans (hal.mono hl_.size)
     (try have hx3 := hr_.below hal (Nat.le_refl _))
     have hlt_bq : w.heap.size < bq := by have := hc_.lt; omega
     have hle_bq : w5.heap.size ≤ bq := by omega
     (try rw [← hb_bq])
     have HB_bq := zh hb_bq; clear hb_bq
     clear hc_ hl_
     have hc_ := hx1
     have hl_ := hx2
     clear hx1 hx2
     (try clear hr_)
     (try have hr_ := hx3)
     (try clear hx3)
     have hne_ : bq ≠ be := by have h9 := hown_.lt be rfl; omega
     have hx4 := hown_.alloc (.cells (zarr (.agg #[.bool false, .string ⟨#[]⟩]) N1) 33)
     clear hown_
     have hown_ := hx4
     clear hx4
     clear hal
     obtain ⟨w6, hw_w6⟩ : ∃ x, x = w5.alloc (.cells (zarr (.agg #[.bool false, .string ⟨#[]⟩]) N1) 33) := ⟨_, rfl⟩
     (try rw [← hw_w6] at hc_)
     (try rw [← hw_w6] at hl_)
     (try rw [← hw_w6] at hr_)
     (try rw [← hw_w6] at hq_)
     (try rw [← hw_w6] at hown_)
     (try rw [← hw_w6] at hrr_)
     (try rw [← hw_w6] at hs_)
     (try rw [← hw_w6])
     have HW_w6 := zh hw_w6; clear hw_w6
     refine wpAnyH_ready (rs := [5]) (by kernel_rfl) (by simp) ?_
     refine (AllReadyH.cons rfl (fun K hK => ?_) AllReadyH.nil)
     ·
      refine step_append_row rfl _ _ 25 rfl w4.heap.size 33 _ 2 24 Try.underlying25 infoZ rfl (by decide) (.slice (some ⟨be, 0, none⟩) 0 0) 0 _ (by rfl) (show (w6.drew).ownsRow _ _ _ _ _ _ from hown_) _ la _ (by rfl) (show Row w6.drew _ _ _ from hr_.below (Below.refl _ _).drew (Nat.le_refl _)) (by rw [civ_length, HLA.out]) (by intro u hu; exact civ_one hu) (by unfold maxLen; omega) (by omega) (show w4.heap.size ≤ w6.drew.heap.size from hs_) ?_
      intro v9 w7 own9 hg9
      have hob : (Value.slice (some ⟨be, 0, none⟩) 0 0).ownBlock = some be := rfl
      rw [hob] at hg9
      have hx1 := Blk.grown hc_.drew hg9 (by intro h9; have := Option.some.inj h9; omega)
      have hx2 := (hl_.trans (Below.refl _ _).drew).grown hg9 hl_.size (fun j hj => by have := Option.some.inj hj; omega)
      have hx3 := Blk.grown hq_.drew hg9 (by intro h9; have := Option.some.inj h9; omega)
      clear hq_
      have hq_ := hx3
      clear hx3
      rw [Nat.zero_add] at own9
      rcases own9.2 with ⟨-, h0⟩ | ⟨br, cp, cu, rfl, hge, hh, h1, h2, h3, h4⟩
      ·
       omega
      have hrr_ : Blk w7 br 33 (civ a ++ cu.toList.drop (la * 2)) := by
       unfold Blk
       rw [show civ a = cu.toList.take (la * 2) from h4.symm, List.take_append_drop]
       exact hh
      have hsb : w.heap.size < br := by omega
      have hs9 : w4.heap.size ≤ w7.heap.size := Nat.le_trans hs_ hg9.size
      clear hs_
      have hs_ := hs9
      clear hs9
      have hnr : bq ≠ br := fun h => hnq (h ▸ hq_) hrr_
      refine hK.out _ _ trivial (fun _ => ?_)
      clear hK K hc_ hl_ hr_ hown_ own9 hg9 hob hh h4
      (try simp only [Act.put, zA, zB, zC])
      have hc_ := hx1
      have hl_ := hx2
      clear hx1 hx2
      refine zT 6 (h := ?_)
      (try simp only [Act.put, zA, zB, zC])
      refine zT 7 (h := ?_)
      (try simp only [Act.put, zA, zB, zC])
      refine wpAnyH_done (by kernel_rfl) ?_ _
      (try simp only [List.getElem_toArray, List.getElem_cons_zero, List.getElem_cons_succ, Act.put, zA, zB, zC])
      go_wp2_with fail
      go_meet
      exact ⟨bq, br, cp, _, rfl, rfl, h1, h2, hl_, hc_, hq_, hrr_, hlt_bq, hsb, hnr⟩
    ·
     refine step_append_row rfl _ _ 25 rfl w4.heap.size 33 _ 2 24 Try.underlying25 infoZ rfl (by decide) (.slice (some ⟨be, 0, none⟩) 0 0) 0 _ (by rfl) (show (w5.drew).ownsRow _ _ _ _ _ _ from hown_) _ la _ (by rfl) (show Row w5.drew _ _ _ from hr_.below (Below.refl _ _).drew (Nat.le_refl _)) (by rw [civ_length, HLA.out]) (by intro u hu; exact civ_one hu) (by unfold maxLen; omega) (by omega) (show w4.heap.size ≤ w5.drew.heap.size from hs_) ?_
     intro v9 w6 own9 hg9
     have hob : (Value.slice (some ⟨be, 0, none⟩) 0 0).ownBlock = some be := rfl
     rw [hob] at hg9
     have hx1 := Blk.grown hc_.drew hg9 (by intro h9; have := Option.some.inj h9; omega)
     have hx2 := (hl_.trans (Below.refl _ _).drew).grown hg9 hl_.size (fun j hj => by have := Option.some.inj hj; omega)
     rw [Nat.zero_add] at own9
     rcases own9.2 with ⟨-, h0⟩ | ⟨br, cp, cu, rfl, hge, hh, h1, h2, h3, h4⟩
     ·
      omega
     have hrr_ : Blk w6 br 33 (civ a ++ cu.toList.drop (la * 2)) := by
      unfold Blk
      rw [show civ a = cu.toList.take (la * 2) from h4.symm, List.take_append_drop]
      exact hh
     have hsb : w.heap.size < br := by omega
     have hs9 : w4.heap.size ≤ w6.heap.size := Nat.le_trans hs_ hg9.size
     clear hs_
     have hs_ := hs9
     clear hs9
     refine hK.out _ _ trivial (fun _ => ?_)
     clear hK K hc_ hl_ hr_ hown_ own9 hg9 hob hh h4
     (try simp only [Act.put, zA, zB, zC])
     have hc_ := hx1
     have hl_ := hx2
     clear hx1 hx2
     refine wpAnyH_ready (rs := [2]) (by kernel_rfl) (by simp) ?_
     refine (AllReadyH.cons rfl (fun K hK => ?_) AllReadyH.nil)
     ·
      go_simp
      refine hK.out _ _ trivial (fun _ => ?_)
      clear hK K
      (try simp only [Act.put, zA, zB, zC])
      obtain ⟨bq, hb_bq⟩ : ∃ b, b = w6.heap.size := ⟨_, rfl⟩
      have hal : Below w6.heap.size w6 (w6.alloc (.cells (zarr (.agg #[.bool false, .string ⟨#[]⟩]) N1) 33)) := (Below.refl _ _).alloc (Nat.le_refl _) _
      have hq_ : Blk (w6.alloc (.cells (zarr (.agg #[.bool false, .string ⟨#[]⟩]) N1) 33)) bq 33 (civ (List.replicate N1 0)) := by rw [hb_bq]; exact blk_mkI w6 N1
      have hs9 := Nat.le_trans hs_ hal.size
      clear hs_
      have hs_ := hs9
      clear hs9
      have hx1 := hc_.keep hal
      have hx2 := hl_.trans (hal.mono hl_.size)
      (try have hx3 := hr_.below hal (Nat.le_refl _))
      have hlt_bq : w.heap.size < bq := by have := hc_.lt; omega
      have hle_bq : w6.heap.size ≤ bq := by omega
      (try rw [← hb_bq])
      have HB_bq := zh hb_bq; clear hb_bq
      clear hc_ hl_
      have hc_ := hx1
      have hl_ := hx2
      clear hx1 hx2
      (try clear hr_)
      (try have hr_ := hx3)
      (try clear hx3)
      have hnr : bq ≠ br := by have := hrr_.lt; omega
      have hx4 := hrr_.keep hal
      clear hrr_
      have hrr_ := hx4
      clear hx4
      clear hal
      obtain ⟨w7, hw_w7⟩ : ∃ x, x = w6.alloc (.cells (zarr (.agg #[.bool false, .string ⟨#[]⟩]) N1) 33) := ⟨_, rfl⟩
      (try rw [← hw_w7] at hc_)
      (try rw [← hw_w7] at hl_)
      (try rw [← hw_w7] at hr_)
      (try rw [← hw_w7] at hq_)
      (try rw [← hw_w7] at hown_)
      (try rw [← hw_w7] at hrr_)
      (try rw [← hw_w7] at hs_)
      (try rw [← hw_w7])
      have HW_w7 := zh hw_w7; clear hw_w7
      refine zT 6 (h := ?_)
      (try simp only [Act.put, zA, zB, zC])
      refine zT 7 (h := ?_)
      (try simp only [Act.put, zA, zB, zC])
      refine wpAnyH_done (by kernel_rfl) ?_ _
      (try simp only [List.getElem_toArray, List.getElem_cons_zero, List.getElem_cons_succ, Act.put, zA, zB, zC])
      go_wp2_with fail
      go_meet
      exact ⟨bq, br, cp, _, rfl, rfl, h1, h2, hl_, hc_, hq_, hrr_, hlt_bq, hsb, hnr⟩
  case rest =>
   obtain ⟨bq, br, cp, sp, rfl, rfl, hcp, hcm, hbel0, hcb0, hqb0, hrb0, hwq, hwr, hqr⟩ := hcut
   have HBL0 := zh hbel0; clear hbel0
   have HCB0 := zh hcb0; clear hcb0
   have HQB0 := zh hqb0; clear hqb0
   have HRB0 := zh hrb0; clear hrb0
   clear HBL HC HRA c0 c1 hmk
   go_wp2_with fail
   go_loopw [10] (fun kv wr => ∃ s : Nat, s ≤ N1 ∧ kv = .int .i64 ((n : Int) - (s : Int)) ∧ Below w.heap.size w wr ∧ Blk wr w.heap.size 33 [.bool (ineg c), .string (imag c)] ∧ Blk wr bq 33 (civ (dvS c b n a s).1) ∧ Blk wr br 33 (civ (dvS c b n a s).2 ++ sp)) (fun kv _ => (intOf kv + 1).toNat)
   case atStart => exact ⟨0, Nat.zero_le _, by simp, HBL0.out, HCB0.out, by rw [show (dvS c b n a 0).1 = List.replicate N1 0 by rw [HN1.out]; rfl]; exact HQB0.out, HRB0.out⟩
   case round =>
    obtain ⟨s, hs, rfl, hbel, hcb, hqb, hrb2⟩ := hrel
    obtain ⟨wo, rfl⟩ : ∃ wo : World, wo = wr := ⟨_, rfl⟩
    have hN1e := HN1.out
    by_cases hsn : s = N1
    ·
     have hk1 : (n : Int) - (s : Int) = -1 := by omega
     rw [hk1]
     clear hk1
     have hq9 := hqb
     have hr9 := hrb2
     have hl9 := HLEN.out s
     have hz9 := HZS.out s
     have hqe : qf = tzI (dvS c b n a s).1 := by rw [hsn, hN1e]; exact HQF.out
     have hre : rf = tzI (dvS c b n a s).2 := by rw [hsn, hN1e]; exact HRF.out
     obtain ⟨q1, hq1⟩ : ∃ q, q = (dvS c b n a s).1 := ⟨_, rfl⟩
     obtain ⟨r1, hr1⟩ : ∃ q, q = (dvS c b n a s).2 := ⟨_, rfl⟩
     rw [← hq1] at hq9 hl9 hz9 hqe
     rw [← hr1] at hr9 hl9 hz9 hre
     have hla9 : r1.length = la := by rw [HLA.out]; exact hl9.2
     have hlq9 : q1.length = N1 := by rw [hN1e]; exact hl9.1
     have hsz : m + s * (k0 + 1) ≤ 100000000000 := by
      refine Nat.le_trans (Nat.add_le_add_left (Nat.mul_le_mul_right _ (show s ≤ 1001 by omega)) m) HM.out
     have rq : Row wo (.slice (some ⟨bq, 0, none⟩) N1 N1) q1.length (civ q1) := by
      have h := blk_row hq9 (by omega)
      rw [hlq9] at h ⊢
      exact h
     have rr : Row wo (.slice (some ⟨br, 0, none⟩) la cp) r1.length (civ r1) := by
      have h := Row.ofBlk hr9 (m := la) (cap := cp) hcp hcm (civ r1).length
      rw [List.take_left] at h
      rw [hla9]; exact h
     have hc1 := canon_any q1 _ wo rq (by omega) (fun x hx => by unfold small; exact Nat.le_trans (hz9.1 x hx).size (by omega))
     have hc2 := fun w' h => canon_any r1 (.slice (some ⟨br, 0, none⟩) la cp) w' h (by omega) (fun x hx => by unfold small; exact Nat.le_trans (hz9.2 x hx).size (by omega))
     have HC1 := zh hc1; clear hc1
     have HC2 := zh hc2; clear hc2
     have HRR := zh rr; clear rr
     have HBL := zh hbel; clear hbel
     have HQE := zh hqe; clear hqe
     have HRE := zh hre; clear hre
     clear hcb hqb hrb2 hq9 hr9 hl9 hz9 hq1 hr1 hla9 hlq9 hsz rq hsn hN1e hs hni hei hel hN1i hwr1 hneg hnla
     go_wp2_with fail
     refine (HC1.out).mono ?_
     rintro e1 w1 ⟨hq1, v1, rfl, hv1⟩
     dsimp only
     have hc2 := HC2.out _ (HRR.out.below hq1 (Nat.le_refl _))
     have s1 := HBL.out.trans (hq1.mono HBL.out.size)
     have HC3 := zh hc2; clear hc2
     have S1 := zh s1; clear s1
     have HV1 := zh hv1; clear hv1
     clear hq1
     go_wp2_with fail
     refine (HC3.out).mono ?_
     rintro e2 w2 ⟨hq2, v2, rfl, hv2⟩
     dsimp only
     have s2 := S1.out.trans (hq2.mono S1.out.size)
     have hv1' := HV1.out.below hq2 (Nat.le_refl _)
     have S2 := zh s2; clear s2
     have HV1' := zh hv1'; clear hv1'
     have HV2 := zh hv2; clear hv2
     clear hq2
     go_wp2_with fail
     go_ret2
     exact ⟨S2.out, v1, v2, rfl, by rw [HQE.out]; exact HV1'.out, by rw [HRE.out]; exact HV2.out⟩
    ·
     obtain ⟨k, hk⟩ : ∃ k : Nat, n = k + s := ⟨n - s, by omega⟩
     have hkz : (n : Int) - (s : Int) = (k : Int) := by omega
     rw [hkz]
     have hlen9 := HLEN.out s
     have hzs9 := HZS.out s
     have hstep : dvS c b n a (s + 1) = (addT ((dvS c b n a s).1.map (· * c)) k ((dvS c b n a s).2.getD (k + e) 0), subT ((dvS c b n a s).2.getD (k + e) 0) k b ((dvS c b n a s).2.map (· * c)) lb) := by
      have h1 : n - s = k := by omega
      have h2 : k + b.length - 1 = k + e := by have := HLB.out; have := HE.out; omega
      rw [dvS, h1, h2, HLB.out]
     obtain ⟨Q, hQ⟩ : ∃ Q, Q = (dvS c b n a s).1 := ⟨_, rfl⟩
     obtain ⟨R, hR⟩ : ∃ R, R = (dvS c b n a s).2 := ⟨_, rfl⟩
     rw [← hQ] at hqb hlen9 hzs9 hstep
     rw [← hR] at hrb2 hlen9 hzs9 hstep
     obtain ⟨M, hM⟩ : ∃ M, M = m + s * (k0 + 1) := ⟨_, rfl⟩
     rw [← hM] at hzs9
     have hMl : M + (k0 + 1) ≤ 100000000000 := by
      have h1 : (s + 1) * (k0 + 1) ≤ 1001 * (k0 + 1) := Nat.mul_le_mul_right _ (by omega)
      rw [Nat.add_mul, Nat.one_mul] at h1
      have := HM.out
      omega
     have hlq : Q.length = N1 := by rw [hN1e]; exact hlen9.1
     have hlr : R.length = la := by rw [HLA.out]; exact hlen9.2
     have hlbe := HE.out
     have hlan := HN.out
     have hRt : R[k + e]? = some (R.getD (k + e) 0) := by
      rw [List.getD, List.getElem?_eq_getElem (by omega)]; rfl
     obtain ⟨t, ht⟩ : ∃ t, t = R.getD (k + e) 0 := ⟨_, rfl⟩
     have hts := getD_zs hzs9.2 (k + e)
     rw [← ht] at hstep hRt hts
     have hidx : (k : Int) + (lb : Int) - 1 = ((k + e : Nat) : Int) := by omega
     have hidl : ((k + e : Nat) : Int) < (la : Int) := by omega
     have r0 := hrb2.cell (j := (k + e) * 2) (u := .bool (ineg t)) (by rw [List.getElem?_append_left (by rw [civ_length]; omega)]; exact (civ_get hRt).1)
     have r1 := hrb2.cell (j := (k + e) * 2 + 1) (u := .string (imag t)) (by rw [List.getElem?_append_left (by rw [civ_length]; omega)]; exact (civ_get hRt).2)
     obtain ⟨ke, hke⟩ : ∃ ke, ke = k + e := ⟨_, rfl⟩
     rw [← hke] at hidx hidl r0 r1
     have hkn1 : k < N1 := by omega
     have hs1 : s + 1 ≤ N1 := by omega
     have hal : Below wo.heap.size wo (wo.alloc (.cells #[.bool (ineg t), .string (imag t)] 33)) := (Below.refl _ _).alloc (Nat.le_refl _) _
     have htb := Blk.new wo 33 [.bool (ineg t), .string (imag t)]
     have tl := hbel.trans (hal.mono hbel.size)
     have tc := hcb.keep hal
     have tq := hqb.keep hal
     have tr := hrb2.keep hal
     obtain ⟨tb, htbe⟩ : ∃ x, x = wo.heap.size := ⟨_, rfl⟩
     have hqt : bq < tb := by have := hqb.lt; omega
     have hrt : br < tb := by have := hrb2.lt; omega
     have hwt : w.heap.size < tb := by omega
     rw [← htbe] at htb
     obtain ⟨w5, hw5⟩ : ∃ x, x = wo.alloc (.cells #[.bool (ineg t), .string (imag t)] 33) := ⟨_, rfl⟩
     rw [← hw5] at htb tl tc tq tr
     have hN1e2 := hN1e
     have HSTEP := zh hstep; clear hstep
     have HQE := zh hQ; clear hQ
     have HRE := zh hR; clear hR
     have HME := zh hM; clear hM
     have HML := zh hMl; clear hMl
     have HZ9 := zh hzs9; clear hzs9
     have HLQ := zh hlq; clear hlq
     have HLR := zh hlr; clear hlr
     have HTS := zh hts; clear hts
     have HTE := zh ht; clear ht
     have HTB := zh htb; clear htb
     have HL5 := zh tl; clear tl
     have HC5 := zh tc; clear tc
     have HQ5 := zh tq; clear tq
     have HR5 := zh tr; clear tr
     have HKE := zh hke; clear hke
     have HKN := zh hk; clear hk
     clear hbel hcb hqb hrb2 hal hlen9 hRt hsn hN1e hN1e2 hlbe hlan hni hei hel hkz hs
     go_wp2_with fail
     (try rw [← hw5])
     (try rw [← htbe])
     have HW5 := zh hw5; clear hw5
     have HTBE := zh htbe; clear htbe
     go_loopw [51] (fun i wr => ∃ j : Nat, j ≤ N1 ∧ i = .int .i64 (j : Int) ∧ Below w.heap.size w wr ∧ Blk wr w.heap.size 33 [.bool (ineg c), .string (imag c)] ∧ Blk wr tb 33 [.bool (ineg t), .string (imag t)] ∧ Blk wr bq 33 (civ (mulT c Q j)) ∧ Blk wr br 33 (civ R ++ sp)) (fun i _ => N1 - (intOf i).toNat)
     case atStart => exact ⟨0, Nat.zero_le _, rfl, HL5.out, HC5.out, HTB.out, by rw [mulT_zero]; exact HQ5.out, HR5.out⟩
     case round =>
      obtain ⟨j, hj, rfl, hbel, hcb, htb2, hqb, hrb⟩ := hrel
      obtain ⟨w6, rfl⟩ : ∃ x : World, x = wr := ⟨_, rfl⟩
      by_cases hjn : j < N1
      ·
       obtain ⟨x, hxg⟩ : ∃ x, Q[j]? = some x := ⟨_, List.getElem?_eq_getElem (by rw [HLQ.out]; exact hjn)⟩
       have hxs := HZ9.out.1 x (List.mem_of_getElem? hxg)
       have hml := HML.out
       have hmu := fun w' => imulV x c w' (Nat.le_trans hxs.size (by omega)) (Nat.le_trans HCS.out.size (by omega))
       have hset := mulT_set (c := c) hxg
       have hcg := civ_get (mulT_get (c := c) hxg)
       obtain ⟨y, hy⟩ : ∃ y, y = x * c := ⟨_, rfl⟩
       rw [← hy] at hmu hset
       have hciv : ((civ (mulT c Q j)).set (j * 2) (.bool (ineg y))).set (j * 2 + 1) (.string (imag y)) = civ (mulT c Q (j + 1)) := by rw [civ_set, hset]
       have v0 := hqb.cell hcg.1
       have v1 := hqb.cell hcg.2
       have hji : (j : Int) < (N1 : Int) := by omega
       have d0 := hcb.c 0 rfl
       have d1 := hcb.c 1 rfl
       have HMU := zh hmu; clear hmu
       have HCIV := zh hciv; clear hciv
       have HCG := zh hcg; clear hcg
       have HB6 := zh hbel; clear hbel
       have HC6 := zh hcb; clear hcb
       have HT6 := zh htb2; clear htb2
       have HQ6 := zh hqb; clear hqb
       have HR6 := zh hrb; clear hrb
       clear hxg hxs hml hset hy
       go_wp2_with fail
       refine wp_region_held_drew (S := fun w' => w'.cell? ⟨w.heap.size, 0, none⟩ = some (.bool (ineg c)) ∧ w'.cell? ⟨w.heap.size, 1, none⟩ = some (.string (imag c))) (by kernel_rfl) ?_ (fun hHeld => ?_)
       ·
        go_keep
       refine zT 0 (h := ?_)
       (try simp only [Act.put, zA, zB, zC])
       refine zT 1 (h := ?_)
       (try simp only [Act.put, zA, zB, zC])
       refine zT 2 (h := ?_)
       (try simp only [Act.put, zA, zB, zC])
       refine zT 3 (h := ?_)
       (try simp only [Act.put, zA, zB, zC])
       refine zT 4 (h := ?_)
       (try simp only [Act.put, zA, zB, zC])
       refine zT 6 (h := ?_)
       (try simp only [Act.put, zA, zB, zC])
       refine zR 5 (h := fun K hK => ?_)
       go_simp
       refine hK.out _ _ hHeld (fun hHeld1 => ?_)
       clear hK K
       (try simp only [Act.put, zA, zB, zC])
       refine zR 7 (h := fun K hK => ?_)
       go_simp
       go_at_call 21
       refine (HMU.out _).mono ?_
       rintro e9 w7 ⟨hq, rfl⟩
       dsimp only
       have z0 := zK hq (show w.heap.size < w6.heap.size from HC6.out.lt) hHeld1.1
       have z1 := zK hq (show w.heap.size < w6.heap.size from HC6.out.lt) hHeld1.2
       refine hK.out _ _ ⟨z0, z1⟩ (fun hHeld2 => ?_)
       have s7 : Below w6.heap.size w6 w7 := ((Below.refl w6.heap.size w6).drew).trans hq
       have hcb := HC6.out.keep s7
       have htb2 := HT6.out.keep s7
       have hqb := HQ6.out.keep s7
       have hrb := HR6.out.keep s7
       have hbel := HB6.out.trans (s7.mono HB6.out.size)
       have v0 := hqb.cell HCG.out.1
       have v1 := hqb.cell HCG.out.2
       have f0 := hqb.frozen (j * 2)
       have f1 := hqb.frozen (j * 2 + 1)
       clear hK K z0 z1 hHeld hHeld1 hq s7 HB6 HC6 HT6 HQ6 HR6
       have HB6 := zh hbel; clear hbel
       have HC6 := zh hcb; clear hcb
       have HT6 := zh htb2; clear htb2
       have HQ6 := zh hqb; clear hqb
       have HR6 := zh hrb; clear hrb
       (try simp only [Act.put, zA, zB, zC])
       refine zT 8 (h := ?_)
       (try simp only [Act.put, zA, zB, zC])
       refine zR 9 (h := fun K hK => ?_)
       go_simp
       have z0 := ((HC6.out.setOther (a := ⟨bq, j * 2, none⟩) (by show bq ≠ w.heap.size; omega) (.bool (ineg y))).setOther (a := ⟨bq, j * 2 + 1, none⟩) (by show bq ≠ w.heap.size; omega) (.string (imag y))).c 0 rfl
       have z1 := ((HC6.out.setOther (a := ⟨bq, j * 2, none⟩) (by show bq ≠ w.heap.size; omega) (.bool (ineg y))).setOther (a := ⟨bq, j * 2 + 1, none⟩) (by show bq ≠ w.heap.size; omega) (.string (imag y))).c 1 rfl
       refine hK.out _ _ ⟨z0, z1⟩ (fun hHeld3 => ?_)
       clear hK K z0 z1 hHeld2
       (try simp only [Act.put, zA, zB, zC])
       refine wpAnyH_done (by kernel_rfl) ?_ _
       (try simp only [List.getElem_toArray, List.getElem_cons_zero, List.getElem_cons_succ, Act.put, zA, zB, zC])
       clear hHeld3
       go_wp2_with fail
       go_roundw
       case rel =>
        refine ⟨j + 1, by omega, by go_num, (HB6.out.setCell (p := ⟨bq, j * 2, none⟩) (by show w.heap.size ≤ bq; omega) _).setCell (p := ⟨bq, j * 2 + 1, none⟩) (by show w.heap.size ≤ bq; omega) _, (HC6.out.setOther (by show bq ≠ w.heap.size; omega) _).setOther (by show bq ≠ w.heap.size; omega) _, (HT6.out.setOther (by show bq ≠ tb; omega) _).setOther (by show bq ≠ tb; omega) _, ?_, (HR6.out.setOther (by show bq ≠ br; omega) _).setOther (by show bq ≠ br; omega) _⟩
        rw [← HCIV.out]
        exact (HQ6.out.set _ _).set _ _
       case measure => simp [intOf]; omega
      ·
       have hje : j = N1 := by omega
       rw [hje, ← HLQ.out, mulT_full] at hqb
       obtain ⟨Q1, hQ1⟩ : ∃ q, q = Q.map (· * c) := ⟨_, rfl⟩
       rw [← hQ1] at hqb
       have hq1l : Q1.length = N1 := by rw [hQ1, List.length_map, HLQ.out]
       have hq1z : ∀ x ∈ Q1, zs (M + k0) x := by
        intro x hx
        rw [hQ1] at hx
        obtain ⟨y, hy, rfl⟩ := List.mem_map.1 hx
        exact (HZ9.out.1 y hy).mul HCS.out
       obtain ⟨x1, hx1⟩ : ∃ x, x = Q1.getD k 0 := ⟨_, rfl⟩
       have hx1g : Q1[k]? = some x1 := by rw [hx1, List.getD, List.getElem?_eq_getElem (by omega)]; rfl
       have hx1s := hq1z x1 (List.mem_of_getElem? hx1g)
       have hml := HML.out
       have hadd := fun w' => iadd_any (ineg x1) (ineg t) (imag x1) (imag t) w' (Nat.le_trans hx1s.size (by omega)) (Nat.le_trans HTS.out.size (by omega))
       simp only [ival_canon] at hadd
       obtain ⟨y1, hy1⟩ : ∃ y, y = x1 + t := ⟨_, rfl⟩
       rw [← hy1] at hadd
       have hQ2 : Q1.set k y1 = addT Q1 k t := by unfold addT; rw [← hx1, hy1]
       have hciv : ((civ Q1).set (k * 2) (.bool (ineg y1))).set (k * 2 + 1) (.string (imag y1)) = civ (addT Q1 k t) := by rw [civ_set, hQ2]
       have hcg := civ_get hx1g
       have u0 := htb2.c 0 rfl
       have u1 := htb2.c 1 rfl
       have v0 := hqb.cell hcg.1
       have v1 := hqb.cell hcg.2
       have hki2 : (k : Int) < (N1 : Int) := by omega
       have hjn2 : ¬ (j : Int) < (N1 : Int) := by omega
       have HADD := zh hadd; clear hadd
       have HCIV := zh hciv; clear hciv
       have HCG := zh hcg; clear hcg
       have HB6 := zh hbel; clear hbel
       have HC6 := zh hcb; clear hcb
       have HT6 := zh htb2; clear htb2
       have HQ6 := zh hqb; clear hqb
       have HR6 := zh hrb; clear hrb
       have HQ1E := zh hQ1; clear hQ1
       clear hq1l hq1z hx1g hx1s hml hx1 hy1 hQ2 hjn
       rw [hje]
       clear hje hjn2
       go_wp2_with fail
       refine wp_region_held_drew (S := fun w' => w'.cell? ⟨tb, 0, none⟩ = some (.bool (ineg t)) ∧ w'.cell? ⟨tb, 1, none⟩ = some (.string (imag t))) (by kernel_rfl) ?_ (fun hHeld => ?_)
       ·
        go_keep
       refine zT 0 (h := ?_)
       (try simp only [Act.put, zA, zB, zC])
       refine zT 1 (h := ?_)
       (try simp only [Act.put, zA, zB, zC])
       refine zT 2 (h := ?_)
       (try simp only [Act.put, zA, zB, zC])
       refine zT 3 (h := ?_)
       (try simp only [Act.put, zA, zB, zC])
       refine zT 4 (h := ?_)
       (try simp only [Act.put, zA, zB, zC])
       refine zT 6 (h := ?_)
       (try simp only [Act.put, zA, zB, zC])
       refine zR 5 (h := fun K hK => ?_)
       go_simp
       refine hK.out _ _ hHeld (fun hHeld1 => ?_)
       clear hK K
       (try simp only [Act.put, zA, zB, zC])
       refine zR 7 (h := fun K hK => ?_)
       go_simp
       go_at_call 20
       refine (HADD.out _).mono ?_
       rintro e9 w8 ⟨hq, rfl⟩
       dsimp only
       have z0 := zK hq (show tb < w6.heap.size from HT6.out.lt) hHeld1.1
       have z1 := zK hq (show tb < w6.heap.size from HT6.out.lt) hHeld1.2
       refine hK.out _ _ ⟨z0, z1⟩ (fun hHeld2 => ?_)
       have s7 : Below w6.heap.size w6 w8 := ((Below.refl w6.heap.size w6).drew).trans hq
       have hcb := HC6.out.keep s7
       have htb2 := HT6.out.keep s7
       have hqb := HQ6.out.keep s7
       have hrb := HR6.out.keep s7
       have hbel := HB6.out.trans (s7.mono HB6.out.size)
       have v0 := hqb.cell HCG.out.1
       have v1 := hqb.cell HCG.out.2
       have f0 := hqb.frozen (k * 2)
       have f1 := hqb.frozen (k * 2 + 1)
       clear hK K z0 z1 hHeld hHeld1 hq s7 HB6 HC6 HT6 HQ6 HR6
       have HB6 := zh hbel; clear hbel
       have HC6 := zh hcb; clear hcb
       have HT6 := zh htb2; clear htb2
       have HQ6 := zh hqb; clear hqb
       have HR6 := zh hrb; clear hrb
       (try simp only [Act.put, zA, zB, zC])
       refine zT 8 (h := ?_)
       (try simp only [Act.put, zA, zB, zC])
       refine zR 9 (h := fun K hK => ?_)
       go_simp
       have z0 := ((HT6.out.setOther (a := ⟨bq, k * 2, none⟩) (by show bq ≠ tb; omega) (.bool (ineg y1))).setOther (a := ⟨bq, k * 2 + 1, none⟩) (by show bq ≠ tb; omega) (.string (imag y1))).c 0 rfl
       have z1 := ((HT6.out.setOther (a := ⟨bq, k * 2, none⟩) (by show bq ≠ tb; omega) (.bool (ineg y1))).setOther (a := ⟨bq, k * 2 + 1, none⟩) (by show bq ≠ tb; omega) (.string (imag y1))).c 1 rfl
       refine hK.out _ _ ⟨z0, z1⟩ (fun hHeld3 => ?_)
       clear hK K z0 z1 hHeld2
       (try simp only [Act.put, zA, zB, zC])
       refine wpAnyH_done (by kernel_rfl) ?_ _
       (try simp only [List.getElem_toArray, List.getElem_cons_zero, List.getElem_cons_succ, Act.put, zA, zB, zC])
       clear hHeld3
       have k5 := ((HB6.out.setCell (p := ⟨bq, k * 2, none⟩) (by show w.heap.size ≤ bq; omega) (.bool (ineg y1))).setCell (p := ⟨bq, k * 2 + 1, none⟩) (by show w.heap.size ≤ bq; omega) (.string (imag y1)))
       have kc := ((HC6.out.setOther (a := ⟨bq, k * 2, none⟩) (by show bq ≠ w.heap.size; omega) (.bool (ineg y1))).setOther (a := ⟨bq, k * 2 + 1, none⟩) (by show bq ≠ w.heap.size; omega) (.string (imag y1)))
       have kt := ((HT6.out.setOther (a := ⟨bq, k * 2, none⟩) (by show bq ≠ tb; omega) (.bool (ineg y1))).setOther (a := ⟨bq, k * 2 + 1, none⟩) (by show bq ≠ tb; omega) (.string (imag y1)))
       have kr := ((HR6.out.setOther (a := ⟨bq, k * 2, none⟩) (by show bq ≠ br; omega) (.bool (ineg y1))).setOther (a := ⟨bq, k * 2 + 1, none⟩) (by show bq ≠ br; omega) (.string (imag y1)))
       have kq := (HQ6.out.set (k * 2) (.bool (ineg y1))).set (k * 2 + 1) (.string (imag y1))
       rw [HCIV.out] at kq
       obtain ⟨wA, hwA⟩ : ∃ x, x = (w8.setCell ⟨bq, k * 2, none⟩ (.bool (ineg y1))).setCell ⟨bq, k * 2 + 1, none⟩ (.string (imag y1)) := ⟨_, rfl⟩
       rw [← hwA] at k5 kc kt kr kq
       have HWA := zh hwA; clear hwA
       clear HB6 HC6 HT6 HQ6 HR6 HCG HCIV v0 v1 f0 f1 u0 u1
       have HBA := zh k5; clear k5
       have HCA := zh kc; clear kc
       have HTA := zh kt; clear kt
       have HRA2 := zh kr; clear kr
       have HQA := zh kq; clear kq
       go_wp2_with fail
       (try rw [← HWA.out])
       obtain ⟨Q2, hQ2⟩ : ∃ q, q = addT Q1 k t := ⟨_, rfl⟩
       have kq := HQA.out
       rw [← hQ2] at kq
       clear HQA
       have HQA := zh kq; clear kq
       have HQ2E := zh hQ2; clear hQ2
       go_loopw [75] (fun i wr => ∃ j : Nat, j ≤ la ∧ i = .int .i64 (j : Int) ∧ Below w.heap.size w wr ∧ Blk wr w.heap.size 33 [.bool (ineg c), .string (imag c)] ∧ Blk wr tb 33 [.bool (ineg t), .string (imag t)] ∧ Blk wr bq 33 (civ Q2) ∧ Blk wr br 33 (civ (mulT c R j) ++ sp)) (fun i _ => la - (intOf i).toNat)
       case atStart => exact ⟨0, Nat.zero_le _, rfl, HBA.out, HCA.out, HTA.out, HQA.out, by rw [mulT_zero]; exact HRA2.out⟩
       case round =>
        obtain ⟨i, hi, rfl, hbel, hcb, htb2, hqb, hrb⟩ := hrel
        obtain ⟨wB, rfl⟩ : ∃ x : World, x = wr := ⟨_, rfl⟩
        by_cases hin : i < la
        ·
         obtain ⟨x, hxg⟩ : ∃ x, R[i]? = some x := ⟨_, List.getElem?_eq_getElem (by rw [HLR.out]; exact hin)⟩
         have hxs := HZ9.out.2 x (List.mem_of_getElem? hxg)
         have hml := HML.out
         have hmu := fun w' => imulV x c w' (Nat.le_trans hxs.size (by omega)) (Nat.le_trans HCS.out.size (by omega))
         have hset := mulT_set (c := c) hxg
         have hlen3 : i * 2 + 1 < (civ (mulT c R i)).length := by rw [civ_length, mulT_length, HLR.out]; omega
         have hcg : (civ (mulT c R i) ++ sp)[i * 2]? = some (.bool (ineg x)) ∧ (civ (mulT c R i) ++ sp)[i * 2 + 1]? = some (.string (imag x)) := by
          rw [List.getElem?_append_left (by omega), List.getElem?_append_left hlen3]
          exact civ_get (mulT_get (c := c) hxg)
         obtain ⟨y, hy⟩ : ∃ y, y = x * c := ⟨_, rfl⟩
         rw [← hy] at hmu hset
         have hciv : ((civ (mulT c R i) ++ sp).set (i * 2) (.bool (ineg y))).set (i * 2 + 1) (.string (imag y)) = civ (mulT c R (i + 1)) ++ sp := by
          rw [List.set_append_left _ _ (by omega), List.set_append_left _ _ (by rw [List.length_set]; exact hlen3), civ_set, hset]
         have v0 := hrb.cell hcg.1
         have v1 := hrb.cell hcg.2
         have hii : (i : Int) < (la : Int) := by omega
         have d0 := hcb.c 0 rfl
         have d1 := hcb.c 1 rfl
         have HMU := zh hmu; clear hmu
         have HCIV := zh hciv; clear hciv
         have HCG := zh hcg; clear hcg
         have HB6 := zh hbel; clear hbel
         have HC6 := zh hcb; clear hcb
         have HT6 := zh htb2; clear htb2
         have HQ6 := zh hqb; clear hqb
         have HR6 := zh hrb; clear hrb
         clear hxg hxs hml hset hy hlen3
         go_wp2_with fail
         refine wp_region_held_drew (S := fun w' => w'.cell? ⟨w.heap.size, 0, none⟩ = some (.bool (ineg c)) ∧ w'.cell? ⟨w.heap.size, 1, none⟩ = some (.string (imag c))) (by kernel_rfl) ?_ (fun hHeld => ?_)
         ·
          go_keep
         refine zT 0 (h := ?_)
         (try simp only [Act.put, zA, zB, zC])
         refine zT 1 (h := ?_)
         (try simp only [Act.put, zA, zB, zC])
         refine zT 2 (h := ?_)
         (try simp only [Act.put, zA, zB, zC])
         refine zT 3 (h := ?_)
         (try simp only [Act.put, zA, zB, zC])
         refine zT 4 (h := ?_)
         (try simp only [Act.put, zA, zB, zC])
         refine zT 6 (h := ?_)
         (try simp only [Act.put, zA, zB, zC])
         refine zR 5 (h := fun K hK => ?_)
         go_simp
         refine hK.out _ _ hHeld (fun hHeld1 => ?_)
         clear hK K
         (try simp only [Act.put, zA, zB, zC])
         refine zR 7 (h := fun K hK => ?_)
         go_simp
         go_at_call 21
         refine (HMU.out _).mono ?_
         rintro e9 wC ⟨hq, rfl⟩
         dsimp only
         have z0 := zK hq (show w.heap.size < wB.heap.size from HC6.out.lt) hHeld1.1
         have z1 := zK hq (show w.heap.size < wB.heap.size from HC6.out.lt) hHeld1.2
         refine hK.out _ _ ⟨z0, z1⟩ (fun hHeld2 => ?_)
         have s7 : Below wB.heap.size wB wC := ((Below.refl wB.heap.size wB).drew).trans hq
         have hcb := HC6.out.keep s7
         have htb2 := HT6.out.keep s7
         have hqb := HQ6.out.keep s7
         have hrb := HR6.out.keep s7
         have hbel := HB6.out.trans (s7.mono HB6.out.size)
         have v0 := hrb.cell HCG.out.1
         have v1 := hrb.cell HCG.out.2
         have f0 := hrb.frozen (i * 2)
         have f1 := hrb.frozen (i * 2 + 1)
         clear hK K z0 z1 hHeld hHeld1 hq s7 HB6 HC6 HT6 HQ6 HR6
         have HB6 := zh hbel; clear hbel
         have HC6 := zh hcb; clear hcb
         have HT6 := zh htb2; clear htb2
         have HQ6 := zh hqb; clear hqb
         have HR6 := zh hrb; clear hrb
         (try simp only [Act.put, zA, zB, zC])
         refine zT 8 (h := ?_)
         (try simp only [Act.put, zA, zB, zC])
         refine zR 9 (h := fun K hK => ?_)
         go_simp
         have z0 := ((HC6.out.setOther (a := ⟨br, i * 2, none⟩) (by show br ≠ w.heap.size; omega) (.bool (ineg y))).setOther (a := ⟨br, i * 2 + 1, none⟩) (by show br ≠ w.heap.size; omega) (.string (imag y))).c 0 rfl
         have z1 := ((HC6.out.setOther (a := ⟨br, i * 2, none⟩) (by show br ≠ w.heap.size; omega) (.bool (ineg y))).setOther (a := ⟨br, i * 2 + 1, none⟩) (by show br ≠ w.heap.size; omega) (.string (imag y))).c 1 rfl
         refine hK.out _ _ ⟨z0, z1⟩ (fun hHeld3 => ?_)
         clear hK K z0 z1 hHeld2
         (try simp only [Act.put, zA, zB, zC])
         refine wpAnyH_done (by kernel_rfl) ?_ _
         (try simp only [List.getElem_toArray, List.getElem_cons_zero, List.getElem_cons_succ, Act.put, zA, zB, zC])
         clear hHeld3
         go_wp2_with fail
         go_roundw
         case rel =>
          refine ⟨i + 1, by omega, by go_num, ((HB6.out.setCell (p := ⟨br, i * 2, none⟩) (by show w.heap.size ≤ br; omega) (.bool (ineg y))).setCell (p := ⟨br, i * 2 + 1, none⟩) (by show w.heap.size ≤ br; omega) (.string (imag y))), ((HC6.out.setOther (a := ⟨br, i * 2, none⟩) (by show br ≠ w.heap.size; omega) (.bool (ineg y))).setOther (a := ⟨br, i * 2 + 1, none⟩) (by show br ≠ w.heap.size; omega) (.string (imag y))), ((HT6.out.setOther (a := ⟨br, i * 2, none⟩) (by show br ≠ tb; omega) (.bool (ineg y))).setOther (a := ⟨br, i * 2 + 1, none⟩) (by show br ≠ tb; omega) (.string (imag y))), ((HQ6.out.setOther (a := ⟨br, i * 2, none⟩) (by show br ≠ bq; omega) (.bool (ineg y))).setOther (a := ⟨br, i * 2 + 1, none⟩) (by show br ≠ bq; omega) (.string (imag y))), ?_⟩
          rw [← HCIV.out]
          exact (HR6.out.set _ _).set _ _
         case measure => simp [intOf]; omega
        ·
         have hie : i = la := by omega
         rw [hie, ← HLR.out, mulT_full] at hrb
         obtain ⟨R1, hR1⟩ : ∃ q, q = R.map (· * c) := ⟨_, rfl⟩
         rw [← hR1] at hrb
         have hr1l : R1.length = la := by rw [hR1, List.length_map, HLR.out]
         have hr1z : ∀ x ∈ R1, zs (M + k0) x := by
          intro x hx
          rw [hR1] at hx
          obtain ⟨y, hy, rfl⟩ := List.mem_map.1 hx
          exact (HZ9.out.2 y hy).mul HCS.out
         have hfin : (dvS c b n a (s + 1)).1 = Q2 ∧ (dvS c b n a (s + 1)).2 = subT t k b R1 lb := by rw [HSTEP.out, HQ2E.out, HQ1E.out, hR1]; exact ⟨rfl, rfl⟩
         have HB6 := zh hbel; clear hbel
         have HC6 := zh hcb; clear hcb
         have HT6 := zh htb2; clear htb2
         have HQ6 := zh hqb; clear hqb
         have HR6 := zh hrb; clear hrb
         have HR1L := zh hr1l; clear hr1l
         have HR1Z := zh hr1z; clear hr1z
         have HR1E := zh hR1; clear hR1
         have HFIN := zh hfin; clear hfin
         rw [hie]
         clear hie hin hi
         go_wp2_with fail
         go_loopw [90] (fun i wr => ∃ j : Nat, j ≤ lb ∧ i = .int .i64 (j : Int) ∧ Below w.heap.size w wr ∧ Blk wr w.heap.size 33 [.bool (ineg c), .string (imag c)] ∧ Blk wr tb 33 [.bool (ineg t), .string (imag t)] ∧ Blk wr bq 33 (civ Q2) ∧ Blk wr br 33 (civ (subT t k b R1 j) ++ sp)) (fun i _ => lb - (intOf i).toNat)
         case atStart => exact ⟨0, Nat.zero_le _, rfl, HB6.out, HC6.out, HT6.out, HQ6.out, by rw [subT_zero]; exact HR6.out⟩
         case round =>
          obtain ⟨d, hd, rfl, hbel, hcb, htb2, hqb, hrb⟩ := hrel
          obtain ⟨wD, rfl⟩ : ∃ x : World, x = wr := ⟨_, rfl⟩
          by_cases hdn : d < lb
          ·
           obtain ⟨x, hxg⟩ : ∃ x, b[d]? = some x := ⟨_, List.getElem?_eq_getElem (by rw [← HLB.out]; exact hdn)⟩
           have hxs := HSB.out x (List.mem_of_getElem? hxg)
           obtain ⟨x0, hx0g⟩ : ∃ x, R1[k + d]? = some x := ⟨_, List.getElem?_eq_getElem (by have := HN.out; have := HKN.out; have := HR1L.out; omega)⟩
           have hx0s := HR1Z.out x0 (List.mem_of_getElem? hx0g)
           have hml := HML.out
           have hmu := fun w' => imulV t x w' (Nat.le_trans HTS.out.size (by omega)) (Nat.le_trans hxs.size (by omega))
           have hys := HTS.out.mul hxs
           have hset := subT_set (t := t) (b := b) hx0g hxg
           have hget := subT_get (t := t) (b := b) hx0g
           obtain ⟨y, hy⟩ : ∃ y, y = t * x := ⟨_, rfl⟩
           rw [← hy] at hmu hys hset
           have hsu := fun w' => isub_any (ineg x0) (ineg y) (imag x0) (imag y) w' (Nat.le_trans hx0s.size (by omega)) (Nat.le_trans hys.size (by omega))
           simp only [ival_canon] at hsu
           obtain ⟨z, hz⟩ : ∃ z, z = x0 - y := ⟨_, rfl⟩
           rw [← hz] at hsu hset
           obtain ⟨kd, hkd⟩ : ∃ q, q = k + d := ⟨_, rfl⟩
           rw [← hkd] at hset hget hx0g
           have hkdl := (List.getElem?_eq_some_iff.1 hx0g).1
           have hlen3 : kd * 2 + 1 < (civ (subT t k b R1 d)).length := by rw [civ_length, subT_length]; omega
           have hcg : (civ (subT t k b R1 d) ++ sp)[kd * 2]? = some (.bool (ineg x0)) ∧ (civ (subT t k b R1 d) ++ sp)[kd * 2 + 1]? = some (.string (imag x0)) := by
            rw [List.getElem?_append_left (by omega), List.getElem?_append_left hlen3]
            exact civ_get hget
           have hciv : ((civ (subT t k b R1 d) ++ sp).set (kd * 2) (.bool (ineg z))).set (kd * 2 + 1) (.string (imag z)) = civ (subT t k b R1 (d + 1)) ++ sp := by
            rw [List.set_append_left _ _ (by omega), List.set_append_left _ _ (by rw [List.length_set]; exact hlen3), civ_set, hset]
           have hkdi : (k : Int) + (d : Int) = (kd : Int) := by omega
           have hwkd : IntKind.i64.wrap (kd : Int) = (kd : Int) := by rw [IntKind.wrap_i64]; have := HR1L.out; omega
           have hkdli : (kd : Int) < (la : Int) := by have := HR1L.out; omega
           have hdi : (d : Int) < (lb : Int) := by omega
           obtain ⟨bb, ob, hbo, hbb, hbcc⟩ := HRB.out.at_ (by omega)
           obtain ⟨c0, c1⟩ := int_cells hbcc hbel hbb hxg
           simp only [Option.some.injEq, Addr.mk.injEq, and_true] at hbo
           obtain ⟨rfl, rfl⟩ := hbo
           have hal : Below wD.heap.size wD (wD.alloc (.cells #[.bool (ineg x), .string (imag x)] 33)) := (Below.refl _ _).alloc (Nat.le_refl _) _
           have hxb := Blk.new wD 33 [.bool (ineg x), .string (imag x)]
           obtain ⟨xb, hxbe⟩ : ∃ q, q = wD.heap.size := ⟨_, rfl⟩
           have hbx : br < xb := by have := hrb.lt; omega
           have hcb2 := hcb.keep hal
           have htb3 := htb2.keep hal
           have hqb2 := hqb.keep hal
           have hrb3 := hrb.keep hal
           have hbel2 := hbel.trans (hal.mono hbel.size)
           rw [← hxbe] at hxb
           obtain ⟨wE, hwE⟩ : ∃ q, q = wD.alloc (.cells #[.bool (ineg x), .string (imag x)] 33) := ⟨_, rfl⟩
           rw [← hwE] at hxb hcb2 htb3 hqb2 hrb3 hbel2
           have HMU := zh hmu; clear hmu
           have HSU := zh hsu; clear hsu
           have HCIV := zh hciv; clear hciv
           have HCG := zh hcg; clear hcg
           have HB6 := zh hbel2; clear hbel2
           have HC6 := zh hcb2; clear hcb2
           have HT6 := zh htb3; clear htb3
           have HQ6 := zh hqb2; clear hqb2
           have HR6 := zh hrb3; clear hrb3
           clear hbel hcb htb2 hqb hrb hal hxg hxs hx0g hx0s hml hys hset hget hy hz hlen3 hbcc hkdl
           have HKD := zh hkd; clear hkd
           have t0 := HT6.out.c 0 rfl
           have t1 := HT6.out.c 1 rfl
           have x0c := hxb.c 0 rfl
           have x1c := hxb.c 1 rfl
           have v0 := HR6.out.cell HCG.out.1
           have v1 := HR6.out.cell HCG.out.2
           have f0 := HR6.out.frozen (kd * 2)
           have f1 := HR6.out.frozen (kd * 2 + 1)
           have HX6 := zh hxb; clear hxb
           go_wp2_with fail
           (try rw [← hwE])
           (try rw [← hxbe])
           have HWE := zh hwE; clear hwE
           have HXBE := zh hxbe; clear hxbe
           have hdr : Below wE.heap.size wE wE.drew := (Below.refl _ wE).drew
           refine wp_region_held_drew (S := fun w' => w'.cell? ⟨tb, 0, none⟩ = some (.bool (ineg t)) ∧ w'.cell? ⟨tb, 1, none⟩ = some (.string (imag t)) ∧ w'.cell? ⟨xb, 0, none⟩ = some (.bool (ineg x)) ∧ w'.cell? ⟨xb, 1, none⟩ = some (.string (imag x))) (by kernel_rfl) ?_ (fun hHs => ?_)
           ·
            go_keep
           have HB6 := zh HB6.out.drew
           have HC6 := zh HC6.out.drew
           have HT6 := zh HT6.out.drew
           have HQ6 := zh HQ6.out.drew
           have HR6 := zh HR6.out.drew
           have HX6 := zh HX6.out.drew
           clear hdr t0 t1 x0c x1c c0 c1
           refine zT 0 (h := ?_)
           (try simp only [Act.put, zA, zB, zC])
           refine zT 1 (h := ?_)
           (try simp only [Act.put, zA, zB, zC])
           refine zT 2 (h := ?_)
           (try simp only [Act.put, zA, zB, zC])
           refine zT 3 (h := ?_)
           (try simp only [Act.put, zA, zB, zC])
           refine zT 4 (h := ?_)
           (try simp only [Act.put, zA, zB, zC])
           refine zT 5 (h := ?_)
           (try simp only [Act.put, zA, zB, zC])
           refine zT 6 (h := ?_)
           (try simp only [Act.put, zA, zB, zC])
           refine zT 7 (h := ?_)
           (try simp only [Act.put, zA, zB, zC])
           refine zT 8 (h := ?_)
           (try simp only [Act.put, zA, zB, zC])
           refine zT 10 (h := ?_)
           (try simp only [Act.put, zA, zB, zC])
           refine zT 11 (h := ?_)
           (try simp only [Act.put, zA, zB, zC])
           refine wpAnyH_ready (rs := [9, 12]) (by kernel_rfl) (by simp) ?_
           refine AllReadyH.cons rfl (fun K hK => ?_) (AllReadyH.cons rfl (fun K hK => ?_) AllReadyH.nil)
           ·
            go_simp
            refine hK.out _ _ hHs (fun hHs => ?_)
            clear hK K
            (try simp only [Act.put, zA, zB, zC])
            refine zR 12 (h := fun K hK => ?_)
            go_simp
            go_at_call 21
            refine (HMU.out _).mono ?_
            rintro e9 wn ⟨hq, rfl⟩
            dsimp only
            have z0 := zK hq HT6.out.lt hHs.1
            have z1 := zK hq HT6.out.lt hHs.2.1
            have z2 := zK hq HX6.out.lt hHs.2.2.1
            have z3 := zK hq HX6.out.lt hHs.2.2.2
            refine hK.out _ _ ⟨z0, z1, z2, z3⟩ (fun hHs2 => ?_)
            have hcb := HC6.out.keep hq
            have htb2 := HT6.out.keep hq
            have hqb := HQ6.out.keep hq
            have hrb := HR6.out.keep hq
            have hxb := HX6.out.keep hq
            have hbel := HB6.out.trans (hq.mono HB6.out.size)
            clear hK K z0 z1 z2 z3 hHs hq HB6 HC6 HT6 HQ6 HR6 HX6 v0 v1 f0 f1
            have hHs := hHs2
            clear hHs2
            have v0 := hrb.cell HCG.out.1
            have v1 := hrb.cell HCG.out.2
            have f0 := hrb.frozen (kd * 2)
            have f1 := hrb.frozen (kd * 2 + 1)
            have HB6 := zh hbel; clear hbel
            have HC6 := zh hcb; clear hcb
            have HT6 := zh htb2; clear htb2
            have HQ6 := zh hqb; clear hqb
            have HR6 := zh hrb; clear hrb
            have HX6 := zh hxb; clear hxb
            (try simp only [Act.put, zA, zB, zC])
            refine zR 13 (h := fun K hK => ?_)
            go_simp
            go_at_call 47
            refine (HSU.out _).mono ?_
            rintro e9 wn ⟨hq, rfl⟩
            dsimp only
            have z0 := zK hq HT6.out.lt hHs.1
            have z1 := zK hq HT6.out.lt hHs.2.1
            have z2 := zK hq HX6.out.lt hHs.2.2.1
            have z3 := zK hq HX6.out.lt hHs.2.2.2
            refine hK.out _ _ ⟨z0, z1, z2, z3⟩ (fun hHs2 => ?_)
            have hcb := HC6.out.keep hq
            have htb2 := HT6.out.keep hq
            have hqb := HQ6.out.keep hq
            have hrb := HR6.out.keep hq
            have hxb := HX6.out.keep hq
            have hbel := HB6.out.trans (hq.mono HB6.out.size)
            clear hK K z0 z1 z2 z3 hHs hq HB6 HC6 HT6 HQ6 HR6 HX6 v0 v1 f0 f1
            have hHs := hHs2
            clear hHs2
            have v0 := hrb.cell HCG.out.1
            have v1 := hrb.cell HCG.out.2
            have f0 := hrb.frozen (kd * 2)
            have f1 := hrb.frozen (kd * 2 + 1)
            have HB6 := zh hbel; clear hbel
            have HC6 := zh hcb; clear hcb
            have HT6 := zh htb2; clear htb2
            have HQ6 := zh hqb; clear hqb
            have HR6 := zh hrb; clear hrb
            have HX6 := zh hxb; clear hxb
            (try simp only [Act.put, zA, zB, zC])
            refine zT 14 (h := ?_)
            (try simp only [Act.put, zA, zB, zC])
            refine zR 15 (h := fun K hK => ?_)
            go_simp
            have z0 := ((HT6.out.setOther (a := ⟨br, kd * 2, none⟩) (by show br ≠ tb; omega) (.bool (ineg z))).setOther (a := ⟨br, kd * 2 + 1, none⟩) (by show br ≠ tb; omega) (.string (imag z))).c 0 rfl
            have z1 := ((HT6.out.setOther (a := ⟨br, kd * 2, none⟩) (by show br ≠ tb; omega) (.bool (ineg z))).setOther (a := ⟨br, kd * 2 + 1, none⟩) (by show br ≠ tb; omega) (.string (imag z))).c 1 rfl
            have z2 := ((HX6.out.setOther (a := ⟨br, kd * 2, none⟩) (by show br ≠ xb; omega) (.bool (ineg z))).setOther (a := ⟨br, kd * 2 + 1, none⟩) (by show br ≠ xb; omega) (.string (imag z))).c 0 rfl
            have z3 := ((HX6.out.setOther (a := ⟨br, kd * 2, none⟩) (by show br ≠ xb; omega) (.bool (ineg z))).setOther (a := ⟨br, kd * 2 + 1, none⟩) (by show br ≠ xb; omega) (.string (imag z))).c 1 rfl
            refine hK.out _ _ ⟨z0, z1, z2, z3⟩ (fun hHe => ?_)
            clear hK K z0 z1 z2 z3
            (try simp only [Act.put, zA, zB, zC])
            refine wpAnyH_done (by kernel_rfl) ?_ _
            (try simp only [List.getElem_toArray, List.getElem_cons_zero, List.getElem_cons_succ, Act.put, zA, zB, zC])
            clear hHe
            go_wp2_with fail
            go_roundw
            case rel =>
             refine ⟨d + 1, by omega, by go_num, ((HB6.out.setCell (p := ⟨br, kd * 2, none⟩) (by show w.heap.size ≤ br; omega) (.bool (ineg z))).setCell (p := ⟨br, kd * 2 + 1, none⟩) (by show w.heap.size ≤ br; omega) (.string (imag z))), ((HC6.out.setOther (a := ⟨br, kd * 2, none⟩) (by show br ≠ w.heap.size; omega) (.bool (ineg z))).setOther (a := ⟨br, kd * 2 + 1, none⟩) (by show br ≠ w.heap.size; omega) (.string (imag z))), ((HT6.out.setOther (a := ⟨br, kd * 2, none⟩) (by show br ≠ tb; omega) (.bool (ineg z))).setOther (a := ⟨br, kd * 2 + 1, none⟩) (by show br ≠ tb; omega) (.string (imag z))), ((HQ6.out.setOther (a := ⟨br, kd * 2, none⟩) (by show br ≠ bq; omega) (.bool (ineg z))).setOther (a := ⟨br, kd * 2 + 1, none⟩) (by show br ≠ bq; omega) (.string (imag z))), ?_⟩
             rw [← HCIV.out]
             exact (HR6.out.set _ _).set _ _
            case measure => simp [intOf]; omega
           ·
            go_simp
            go_at_call 21
            refine (HMU.out _).mono ?_
            rintro e9 wn ⟨hq, rfl⟩
            dsimp only
            have z0 := zK hq HT6.out.lt hHs.1
            have z1 := zK hq HT6.out.lt hHs.2.1
            have z2 := zK hq HX6.out.lt hHs.2.2.1
            have z3 := zK hq HX6.out.lt hHs.2.2.2
            refine hK.out _ _ ⟨z0, z1, z2, z3⟩ (fun hHs2 => ?_)
            have hcb := HC6.out.keep hq
            have htb2 := HT6.out.keep hq
            have hqb := HQ6.out.keep hq
            have hrb := HR6.out.keep hq
            have hxb := HX6.out.keep hq
            have hbel := HB6.out.trans (hq.mono HB6.out.size)
            clear hK K z0 z1 z2 z3 hHs hq HB6 HC6 HT6 HQ6 HR6 HX6 v0 v1 f0 f1
            have hHs := hHs2
            clear hHs2
            have v0 := hrb.cell HCG.out.1
            have v1 := hrb.cell HCG.out.2
            have f0 := hrb.frozen (kd * 2)
            have f1 := hrb.frozen (kd * 2 + 1)
            have HB6 := zh hbel; clear hbel
            have HC6 := zh hcb; clear hcb
            have HT6 := zh htb2; clear htb2
            have HQ6 := zh hqb; clear hqb
            have HR6 := zh hrb; clear hrb
            have HX6 := zh hxb; clear hxb
            (try simp only [Act.put, zA, zB, zC])
            refine zR 9 (h := fun K hK => ?_)
            go_simp
            refine hK.out _ _ hHs (fun hHs => ?_)
            clear hK K
            (try simp only [Act.put, zA, zB, zC])
            refine zR 13 (h := fun K hK => ?_)
            go_simp
            go_at_call 47
            refine (HSU.out _).mono ?_
            rintro e9 wn ⟨hq, rfl⟩
            dsimp only
            have z0 := zK hq HT6.out.lt hHs.1
            have z1 := zK hq HT6.out.lt hHs.2.1
            have z2 := zK hq HX6.out.lt hHs.2.2.1
            have z3 := zK hq HX6.out.lt hHs.2.2.2
            refine hK.out _ _ ⟨z0, z1, z2, z3⟩ (fun hHs2 => ?_)
            have hcb := HC6.out.keep hq
            have htb2 := HT6.out.keep hq
            have hqb := HQ6.out.keep hq
            have hrb := HR6.out.keep hq
            have hxb := HX6.out.keep hq
            have hbel := HB6.out.trans (hq.mono HB6.out.size)
            clear hK K z0 z1 z2 z3 hHs hq HB6 HC6 HT6 HQ6 HR6 HX6 v0 v1 f0 f1
            have hHs := hHs2
            clear hHs2
            have v0 := hrb.cell HCG.out.1
            have v1 := hrb.cell HCG.out.2
            have f0 := hrb.frozen (kd * 2)
            have f1 := hrb.frozen (kd * 2 + 1)
            have HB6 := zh hbel; clear hbel
            have HC6 := zh hcb; clear hcb
            have HT6 := zh htb2; clear htb2
            have HQ6 := zh hqb; clear hqb
            have HR6 := zh hrb; clear hrb
            have HX6 := zh hxb; clear hxb
            (try simp only [Act.put, zA, zB, zC])
            refine zT 14 (h := ?_)
            (try simp only [Act.put, zA, zB, zC])
            refine zR 15 (h := fun K hK => ?_)
            go_simp
            have z0 := ((HT6.out.setOther (a := ⟨br, kd * 2, none⟩) (by show br ≠ tb; omega) (.bool (ineg z))).setOther (a := ⟨br, kd * 2 + 1, none⟩) (by show br ≠ tb; omega) (.string (imag z))).c 0 rfl
            have z1 := ((HT6.out.setOther (a := ⟨br, kd * 2, none⟩) (by show br ≠ tb; omega) (.bool (ineg z))).setOther (a := ⟨br, kd * 2 + 1, none⟩) (by show br ≠ tb; omega) (.string (imag z))).c 1 rfl
            have z2 := ((HX6.out.setOther (a := ⟨br, kd * 2, none⟩) (by show br ≠ xb; omega) (.bool (ineg z))).setOther (a := ⟨br, kd * 2 + 1, none⟩) (by show br ≠ xb; omega) (.string (imag z))).c 0 rfl
            have z3 := ((HX6.out.setOther (a := ⟨br, kd * 2, none⟩) (by show br ≠ xb; omega) (.bool (ineg z))).setOther (a := ⟨br, kd * 2 + 1, none⟩) (by show br ≠ xb; omega) (.string (imag z))).c 1 rfl
            refine hK.out _ _ ⟨z0, z1, z2, z3⟩ (fun hHe => ?_)
            clear hK K z0 z1 z2 z3
            (try simp only [Act.put, zA, zB, zC])
            refine wpAnyH_done (by kernel_rfl) ?_ _
            (try simp only [List.getElem_toArray, List.getElem_cons_zero, List.getElem_cons_succ, Act.put, zA, zB, zC])
            clear hHe
            go_wp2_with fail
            go_roundw
            case rel =>
             refine ⟨d + 1, by omega, by go_num, ((HB6.out.setCell (p := ⟨br, kd * 2, none⟩) (by show w.heap.size ≤ br; omega) (.bool (ineg z))).setCell (p := ⟨br, kd * 2 + 1, none⟩) (by show w.heap.size ≤ br; omega) (.string (imag z))), ((HC6.out.setOther (a := ⟨br, kd * 2, none⟩) (by show br ≠ w.heap.size; omega) (.bool (ineg z))).setOther (a := ⟨br, kd * 2 + 1, none⟩) (by show br ≠ w.heap.size; omega) (.string (imag z))), ((HT6.out.setOther (a := ⟨br, kd * 2, none⟩) (by show br ≠ tb; omega) (.bool (ineg z))).setOther (a := ⟨br, kd * 2 + 1, none⟩) (by show br ≠ tb; omega) (.string (imag z))), ((HQ6.out.setOther (a := ⟨br, kd * 2, none⟩) (by show br ≠ bq; omega) (.bool (ineg z))).setOther (a := ⟨br, kd * 2 + 1, none⟩) (by show br ≠ bq; omega) (.string (imag z))), ?_⟩
             rw [← HCIV.out]
             exact (HR6.out.set _ _).set _ _
            case measure => simp [intOf]; omega
          ·
           have hde : d = lb := by omega
           rw [hde] at hrb
           rw [← HFIN.out.2] at hrb
           rw [← HFIN.out.1] at hqb
           have HB6 := zh hbel; clear hbel
           have HC6 := zh hcb; clear hcb
           have HT6 := zh htb2; clear htb2
           have HQ6 := zh hqb; clear hqb
           have HR6 := zh hrb; clear hrb
           rw [hde]
           clear hde hdn hd
           go_wp2_with fail
           go_roundw
           case rel =>
            have h1 := HKN.out
            exact ⟨s + 1, hs1, by go_num, HB6.out, HC6.out, HQ6.out, HR6.out⟩
           case measure => first | (simp [intOf]; done) | (simp [intOf]; omega)
end Go.Proofs.Ytjpalbonclgflaa
