/- Contracts and plain laws of several functions, one after the other: DelF, EPrA, EqZ. -/
import Derived.StillTailTactics
import Derived.BigQuiet
import Derived.Test.YtalipfnbpnkgnaaGreatDel
import Derived.Test.YtalipfnbpnkgnaaGreatETab
/- slices.DeleteFunc at ints. -/
namespace Go.Proofs.YtalipfnbpnkgnaaGreat
open Go.RowKit

/-- What slices.DeleteFunc returns: a row in the same block. -/
def DelRet (b cap : Nat) (l : List Int) (w : World) (e : Ending) (w' : World) : Prop :=
  Below b w w' ∧ e = .returned (.slice (some ⟨b, 0, none⟩) l.length cap) ∧ Row w' (.slice (some ⟨b, 0, none⟩) l.length cap) l.length (ci l)
set_option maxRecDepth 100000 in
set_option maxHeartbeats 3200000 in
theorem delF_any (set : List Int) (b cap S B F : Nat) (cb : Array Value) (p : Int → Bool) (ys : List Value) (w0 w : World) (hblk : Blk w b 3 ys) (hys : ys.take set.length = ci set) (hl : set.length ≤ ys.length) (hcap : set.length ≤ cap) (hcap2 : cap ≤ maxLen) (hne : set ≠ []) (hset : InR S set)
    (hent : ∀ args w, (callFunc F args).run Tryz.prog w = .ok (.enter F args) w) (hp : PredB F cb p S B w0) (hb : Below B w0 w) (hB : B ≤ b) :
    Calls Tryz.prog 95 #[.slice (some ⟨b, 0, none⟩) set.length cap, .func (.func F) #[] cb] w (DelRet b cap (keepP p set) w) := by
  have hbw := hblk.lt
  have hrow : Row w (.slice (some ⟨b, 0, none⟩) set.length cap) set.length (ci set) := by
    have h := Row.ofBlk hblk (m := set.length) (cap := cap) hcap hcap2 set.length
    rwa [hys] at h
  have hix := indexF_any set _ S B F cb p w0 w hrow hset hent hp hb (by omega)
  have hpos : 0 < set.length := List.length_pos_iff.2 hne
  have hcell : ∀ j (h : j < set.length), ys[j]? = some (.int .i64 set[j]) := fun j h => by
    have h1 : (ys.take set.length)[j]? = (ci set)[j]? := by rw [hys]
    rw [List.getElem?_take, if_pos h] at h1
    rw [h1]; exact ci_at (List.getElem?_eq_getElem h)
  have hml : set.length ≤ 9223372036854775807 := by unfold maxLen at hcap2; omega
  by_cases hfi : set.findIdx p < set.length
  · have hf : firstP p set = (set.findIdx p : Int) := by rw [firstP, if_pos hfi]
    have hkf : keepP p (set.take (set.findIdx p + 1)) = set.take (set.findIdx p) := by
      rw [keepP_snoc_yes (List.getElem?_eq_getElem hfi) List.findIdx_getElem, keepP_first _ (Nat.le_refl _)]
    obtain ⟨k0, hk0⟩ : ∃ k0, k0 = set.findIdx p := ⟨_, rfl⟩
    rw [hf] at hix
    rw [← hk0] at hkf hfi hix
    obtain ⟨m, hm⟩ : ∃ m, m = set.length := ⟨_, rfl⟩
    rw [← hm] at hrow hpos hl hcap hml hfi hys hix ⊢
    have hys0 : ys.take k0 = ci (set.take k0) := by
      have h1 : (ys.take m).take k0 = (ci set).take k0 := by rw [hys]
      rw [List.take_take, Nat.min_eq_left (by omega)] at h1
      rw [h1]; simp [ci]
    have hkl : (set.take k0).length = k0 := by rw [List.length_take, ← hm]; omega
    have HIX := Lib.hid hix; clear hix
    have HR := Lib.hid hrow; clear hrow
    have HP := Lib.hid hp; clear hp
    have HB := Lib.hid hb; clear hb
    have HM := Lib.hid hm; clear hm
    have HS := Lib.hid hset; clear hset
    have HBLK := Lib.hid hblk; clear hblk
    have HC := Lib.hid hcell; clear hcell
    have HYS := Lib.hid hys; clear hys
    have HYS0 := Lib.hid hys0; clear hys0
    have HKF := Lib.hid hkf; clear hkf
    have HKL := Lib.hid hkl; clear hkl
    clear hf hk0 hne
    go_enter Tryz.func95, Tryz.ntmps95
    go_wp2_with fail
    go_at_call 124
    refine HIX.out.mono ?_
    rintro e w1 ⟨hq1, rfl⟩
    have hk1 := HBLK.out.keep hq1
    have hb1 := HB.out.trans (hq1.mono (by omega))
    have hbb := hq1.mono (show b ≤ w.heap.size by omega)
    have hne1 : ((k0 : Int) == -1) = false := beq_eq_false_iff_ne.2 (by omega)
    have HK1 := Lib.hid hk1; clear hk1
    have HB1 := Lib.hid hb1; clear hb1
    have HBB := Lib.hid hbb; clear hbb
    have HQ1 := Lib.hid hq1; clear hq1
    go_wp2_with fail
    go_loopw [5, 6, 7] (fun s5 s6 _ wr => ∃ (i j : Nat) (zs : List Value), s5 = .int .i64 i ∧ s6 = .int .i64 j ∧ i < j ∧ j ≤ m ∧ Blk wr b 3 zs ∧ zs.length = ys.length ∧ i = (keepP p (set.take j)).length ∧ zs.take i = ci (keepP p (set.take j)) ∧ (∀ k, j ≤ k → zs[k]? = ys[k]?) ∧ Below b w wr) (fun _ s6 _ _ => m - (intOf s6).toNat)
    case atStart => exact ⟨k0, k0 + 1, ys, rfl, by go_num, by omega, by omega, HK1.out, rfl, by rw [HKF.out, HKL.out], by rw [HKF.out]; exact HYS0.out, fun _ _ => rfl, HBB.out⟩
    case round =>
      obtain ⟨i, j, zs, rfl, rfl, hij, hjm, hblk, hzl, hil, hzt, hzd, hbel⟩ := hrel
      have HIL := Lib.hid hil; clear hil
      have HZT := Lib.hid hzt; clear hzt
      have HZD := Lib.hid hzd; clear hzd
      have HBEL := Lib.hid hbel; clear hbel
      by_cases hlt : j < m
      · obtain ⟨s, hs, hget⟩ := inR_get HS.out (by rw [← HM.out]; exact hlt)
        have hz : zs[j]? = some (.int .i64 (s : Int)) := by
          have hjl : j < set.length := by rw [← HM.out]; exact hlt
          rw [HZD.out j (Nat.le_refl _), HC.out j hjl]
          rw [List.getElem?_eq_getElem hjl] at hget
          rw [Option.some.inj hget]
        have c0 := hblk.cell hz
        have hbw : Below B w0 wr := HB.out.trans (HBEL.out.mono hB)
        have his := HP.out s wr hs hbw
        cases hps : p (s : Int) with
        | true =>
          rw [hps] at his
          have hnx := keepP_snoc_yes hget hps
          have HNX := Lib.hid hnx; clear hnx
          have HIS1 := Lib.hid his; clear his
          clear hps hget hz hbw
          go_wp2_with fail
          refine HIS1.out.mono ?_
          rintro e w2 ⟨hq2, rfl⟩
          have hk2 := hblk.keep hq2
          have hbl := hblk.lt
          have HK2 := Lib.hid hk2; clear hk2
          have HQ2 := Lib.hid hq2; clear hq2
          clear hblk
          go_wp2_with fail
          go_roundw
          case rel =>
            refine ⟨i, j + 1, zs, rfl, by go_num, by omega, by omega, HK2.out, hzl, ?_, ?_, fun k hk => HZD.out k (by omega), HBEL.out.trans (HQ2.out.mono (by omega))⟩
            · rw [HNX.out]; exact HIL.out
            · rw [HNX.out]; exact HZT.out
          case measure => simp [intOf]; omega
        | false =>
          rw [hps] at his
          have hnx := keepP_snoc_no hget hps
          have HNX := Lib.hid hnx; clear hnx
          have HIS1 := Lib.hid his; clear his
          clear hps hget hz hbw
          have hiz : zs[i]? = some (zs[i]'(by omega)) := List.getElem?_eq_getElem _
          obtain ⟨z, hz⟩ : ∃ z, z = zs[i]'(by omega) := ⟨_, rfl⟩
          rw [← hz] at hiz
          clear hz
          go_wp2_with fail
          refine HIS1.out.mono ?_
          rintro e w2 ⟨hq2, rfl⟩
          have hk2 := hblk.keep hq2
          have c1 := hk2.cell hiz
          have f1 := hk2.frozen i
          have hbl := hblk.lt
          have HK2 := Lib.hid hk2; clear hk2
          have HQ2 := Lib.hid hq2; clear hq2
          clear hblk
          go_wp2_with fail
          go_roundw
          case rel =>
            refine ⟨i + 1, j + 1, zs.set i (.int .i64 (s : Int)), by go_num, by go_num, by omega, by omega, HK2.out.set _ _, by rw [List.length_set]; exact hzl, ?_, ?_, fun k hk => ?_, (HBEL.out.trans (HQ2.out.mono (by omega))).setCell (p := ⟨b, i, none⟩) (Nat.le_refl _) _⟩
            · rw [HNX.out, List.length_append, ← HIL.out]; rfl
            · rw [HNX.out, ci_snoc, ← HZT.out, List.take_add_one, List.getElem?_set_self (by omega), List.take_set_of_le (Nat.le_refl _)]; rfl
            · rw [List.getElem?_set_ne (by omega)]; exact HZD.out k (by omega)
          case measure => simp [intOf]; omega
      · obtain rfl : j = m := by omega
        have hall : keepP p (set.take j) = keepP p set := by rw [HM.out, List.take_length]
        have hil := HIL.out
        have hzt := HZT.out
        rw [hall] at hil hzt
        have hcl : ∀ ty, (Builtin.clear_ #[25] ty #[.slice (some ⟨b, i, none⟩) (j - i) (cap - i)]).run Tryz.prog wr = .ok (.tuple #[]) (wr.setCells b i (List.replicate (j - i) (.int .i64 0))) :=
          fun ty => Lib.run_clear_slice wr _ _ ty _ Tryz.underlying25 (fun w => by kernel_rfl) rfl rfl b i _ _ (by omega) (fun t ht => by rw [hblk.cell (u := zs[i + t]'(by omega)) (List.getElem?_eq_getElem _)]; rfl) (fun t ht => hblk.frozen _)
        obtain ⟨zs2, g1, g2, g3⟩ := blk_setCells (List.replicate (j - i) (.int .i64 0)) i wr zs hblk
        have hbel2 := below_setCells_b (Nat.le_refl b) (List.replicate (j - i) (.int .i64 0)) i w wr HBEL.out
        have hres : Row (wr.setCells b i (List.replicate (j - i) (.int .i64 0))) (.slice (some ⟨b, 0, none⟩) i cap) i (ci (keepP p set)) := by
          have h := Row.ofBlk g1 (m := i) (cap := cap) (by omega) hcap2 i
          have h2 : zs2.take i = zs.take i := by
            apply List.ext_getElem?
            intro k
            rw [List.getElem?_take, List.getElem?_take]
            by_cases hk : k < i
            · rw [if_pos hk, if_pos hk, g3 k hk]
            · rw [if_neg hk, if_neg hk]
          rwa [h2, hzt] at h
        have HB2 := Lib.hid hbel2; clear hbel2
        have HRES := Lib.hid hres; clear hres
        have HIL2 := Lib.hid hil; clear hil
        clear hblk hall hzt g1 g2 g3
        go_wp2_with fail
        go_ret
        exact ⟨HB2.out, by rw [← HIL2.out]; rfl, by rw [← HIL2.out]; exact HRES.out⟩
  · have hf : firstP p set = -1 := by rw [firstP, if_neg hfi]
    have hk : keepP p set = set := by
      have := keepP_first (p := p) (l := set) set.length (by omega)
      rwa [List.take_length] at this
    rw [hf] at hix
    rw [hk]
    obtain ⟨m, hm⟩ : ∃ m, m = set.length := ⟨_, rfl⟩
    rw [← hm] at hix hrow hml ⊢
    have HIX := Lib.hid hix; clear hix
    have HR := Lib.hid hrow; clear hrow
    have HM := Lib.hid hm; clear hm
    clear hk hf hcell hys hl hcap hfi hset hp
    go_enter Tryz.func95, Tryz.ntmps95
    go_wp2_with fail
    go_at_call 124
    refine HIX.out.mono ?_
    rintro e w1 ⟨hq1, rfl⟩
    have HQ1 := Lib.hid hq1; clear hq1
    go_wp2_with fail
    go_ret
    exact ⟨HQ1.out.mono (by omega), by rw [← HM.out]; rfl, by rw [← HM.out]; exact HR.out.below HQ1.out (Nat.le_refl _)⟩
end Go.Proofs.YtalipfnbpnkgnaaGreat

/- What enumerative.principal calls: in, its closure, DeleteFunc. -/
namespace Go.Proofs.YtalipfnbpnkgnaaGreat
open Go.RowKit

/-- enumerative.in. -/
def InRet (w : World) (v : Value) (e : Ending) (w' : World) : Prop :=
  Below w.heap.size w w' ∧ ∃ q : Nat, e = .returned (.func (.func 71) #[] #[.pointer (some ⟨q, 0, none⟩)]) ∧ w.heap.size ≤ q ∧ q < w'.heap.size ∧ w'.cell? ⟨q, 0, none⟩ = some v
set_option maxRecDepth 100000 in
set_option maxHeartbeats 3200000 in
theorem in_any (a : Option Addr) (n c : Nat) (w : World) :
    Calls Tryz.prog 35 #[.slice a n c] w (InRet w (.slice a n c)) := by
  go_enter Tryz.func35, Tryz.ntmps35
  go_wp2_with fail
  go_ret
  exact ⟨(Below.refl _ _).alloc (Nat.le_refl _) _, w.heap.size, rfl, Nat.le_refl _, by simp, (Blk.new w 25 [.slice a n c]).cell (j := 0) rfl⟩
/-- What DeleteFunc leaves: a row in a block from B on. -/
def DelC (B : Nat) (l : List Int) (w : World) (e : Ending) (w' : World) : Prop :=
  Below B w w' ∧ ∃ v, e = .returned v ∧ Row w' v l.length (ci l)
theorem delC_any (set : List Int) (v : Value) (S B F : Nat) (cb : Array Value) (p : Int → Bool) (w0 w : World) (hown : w.ownsRow B 3 1 v set.length (ci set)) (hset : InR S set)
    (hent : ∀ args w, (callFunc F args).run Tryz.prog w = .ok (.enter F args) w) (hp : PredB F cb p S B w0) (hb : Below B w0 w) (hBw : B ≤ w.heap.size) :
    Calls Tryz.prog 95 #[v, .func (.func F) #[] cb] w (DelC B (keepP p set) w) := by
  by_cases hne : set = []
  · subst hne
    have hr := own_row hown
    have hix := indexF_any [] v S B F cb p w0 w hr hset hent hp hb hBw
    have hf : firstP p [] = -1 := rfl
    rw [hf] at hix
    obtain ⟨a, c, rfl, -⟩ := hr.slice
    have hk : keepP p [] = [] := rfl
    rw [hk]
    have HIX := Lib.hid hix; clear hix
    have HR := Lib.hid hr; clear hr
    clear hown hset hf hk hp
    go_enter Tryz.func95, Tryz.ntmps95
    go_wp2_with fail
    go_at_call 124
    refine HIX.out.mono ?_
    rintro e w1 ⟨hq1, rfl⟩
    have HQ1 := Lib.hid hq1; clear hq1
    go_wp2_with fail
    go_ret
    exact ⟨HQ1.out.mono hBw, _, rfl, HR.out.below HQ1.out (Nat.le_refl _)⟩
  · obtain ⟨g, cap, ys, rfl, h1, h2, h3, h4, h5, h6⟩ := own_blkZ hown (fun h => hne (List.length_eq_zero_iff.1 h))
    refine (delF_any set g cap S B F cb p ys w0 w h2 h3 h4 h5 h6 hne hset hent hp hb h1).mono ?_
    rintro e w1 ⟨k1, rfl, k2⟩
    exact ⟨k1.mono h1, _, rfl, k2⟩
theorem cmpZ_neg (x m : Int) : decide (cmpZ x m < 0) = decide (x < m) := by
  unfold cmpZ
  split
  · simp [*]
  · split <;> simp <;> omega
set_option maxRecDepth 100000 in
set_option maxHeartbeats 3200000 in
theorem princ1_any (rows : List (List Int)) (r : List Int) (d bn bm n s : Nat) (tv : Value) (x m : Int) (w : World) (hd : w.cell? ⟨d, 0, none⟩ = some tv) (ht : Tab w tv rows) (hbn : w.cell? ⟨bn, 0, none⟩ = some (.int .i64 (n : Int))) (hm0 : w.cell? ⟨bm, 0, none⟩ = some (.bool (ineg m))) (hm1 : w.cell? ⟨bm, 1, none⟩ = some (.string (imag m)))
    (hr : rows[n]? = some r) (hx : r[s]? = some x) (hsx : small x) (hsm : small m) :
    Calls Tryz.prog 96 #[.int .i64 (s : Int), .pointer (some ⟨d, 0, none⟩), .pointer (some ⟨bn, 0, none⟩), .pointer (some ⟨bm, 0, none⟩)] w (Ret w (.bool (decide (x < m)))) := by
  obtain ⟨rvs, hl, hrow, hrs⟩ := ht
  obtain ⟨rv, hrv, hrr⟩ := hrs n r hr
  have hnl : n < rows.length := (List.getElem?_eq_some_iff.1 hr).1
  have hsl : s < r.length := (List.getElem?_eq_some_iff.1 hx).1
  obtain ⟨ta, tc, rfl, -⟩ := hrow.slice
  obtain ⟨ra, rc, rfl, -⟩ := hrr.slice
  obtain ⟨b1, o1, rfl, hb1, hc1⟩ := hrow.at_ (by omega)
  obtain ⟨b2, o2, rfl, hb2, hc2⟩ := hrr.at_ (by omega)
  have e0 := hc1 n _ hrv
  obtain ⟨hx0, hx1⟩ := civ_get hx
  have e1 := hc2 _ _ hx0
  have e2 := hc2 _ _ hx1
  rw [← Nat.add_assoc] at e2
  obtain ⟨N, hN⟩ : ∃ N, N = rows.length := ⟨_, rfl⟩
  obtain ⟨M, hM⟩ : ∃ M, M = r.length := ⟨_, rfl⟩
  rw [← hN] at hd hnl
  rw [← hM] at e0 hsl
  have i1 : (0 : Int) ≤ (n : Int) := by omega
  have i2 : (n : Int) < (N : Int) := by omega
  have i3 : (0 : Int) ≤ (s : Int) := by omega
  have i4 : (s : Int) < (M : Int) := by omega
  have hcmp := fun w' => icompare_any (ineg x) (ineg m) (imag x) (imag m) w' hsx hsm
  simp only [ival_canon] at hcmp
  have hfin := cmpZ_neg x m
  obtain ⟨cz, hcz⟩ : ∃ cz, cz = cmpZ x m := ⟨_, rfl⟩
  rw [← hcz] at hfin
  simp only [← hcz] at hcmp
  have HCMP := Lib.hid hcmp; clear hcmp
  have HFIN := Lib.hid hfin; clear hfin
  clear hN hM hcz hl hrow hrs hrr hc1 hc2 hx0 hx1 hrv hr hx
  go_enter Tryz.func96, Tryz.ntmps96
  go_wp2_with fail
  go_still_tail 8, (by kernel_rfl)
  change wpList _ _ _ _ _ w.drew
  go_wp2_with fail
  go_at_call 62
  refine (HCMP.out _).mono ?_
  rintro e w1 ⟨hq, rfl⟩
  have HQ := Lib.hid hq; clear hq
  go_wp2_with fail
  go_ret
  exact ⟨(Below.refl _ w).drew.trans HQ.out, by rw [← HFIN.out]; rfl⟩
end Go.Proofs.YtalipfnbpnkgnaaGreat

/- slices.Equal at ints: of equal rows. -/
namespace Go.Proofs.YtalipfnbpnkgnaaGreat
open Go.RowKit

set_option maxRecDepth 100000 in
set_option maxHeartbeats 3200000 in
theorem equalZ_yes (l : List Int) (va vb : Value) (w : World) (ha : Row w va l.length (ci l)) (hb : Row w vb l.length (ci l)) :
    Calls Tryz.prog 24 #[va, vb] w (Ret w (.bool true)) := by
  obtain ⟨a1, c1, rfl, hle⟩ := ha.slice
  obtain ⟨a2, c2, rfl, -⟩ := hb.slice
  obtain ⟨n, hn⟩ : ∃ n, n = l.length := ⟨_, rfl⟩
  rw [← hn] at ha hb hle ⊢
  have HA := Lib.hid ha; clear ha
  have HB := Lib.hid hb; clear hb
  have HN := Lib.hid hn; clear hn
  have hne : ((n : Int) != (n : Int)) = false := by simp
  go_enter Tryz.func24, Tryz.ntmps24
  go_wp2_with fail
  go_loopw [5, 13] (fun _ i wr => ∃ k : Nat, k ≤ n ∧ i = .int .i64 k ∧ Below w.heap.size w wr) (fun _ i _ => n - (intOf i).toNat)
  case atStart => exact ⟨0, Nat.zero_le _, rfl, Below.refl _ _⟩
  case round =>
    obtain ⟨k, hk, rfl, hbel⟩ := hrel
    have HBEL := Lib.hid hbel; clear hbel
    by_cases hlt : k < n
    · have hget : l[k]? = some (l[k]'(by rw [← HN.out]; exact hlt)) := List.getElem?_eq_getElem _
      obtain ⟨x, hx⟩ : ∃ x, x = l[k]'(by rw [← HN.out]; exact hlt) := ⟨_, rfl⟩
      rw [← hx] at hget
      obtain ⟨b1, o1, rfl, hb1, hc1⟩ := HA.out.at_ (by omega)
      obtain ⟨b2, o2, rfl, hb2, hc2⟩ := HB.out.at_ (by omega)
      have x0 := (HBEL.out.cell (p := ⟨b1, o1 + k, none⟩) hb1).trans (hc1 k _ (ci_at hget))
      have x1 := (HBEL.out.cell (p := ⟨b2, o2 + k, none⟩) hb2).trans (hc2 k _ (ci_at hget))
      have hxx : (x != x) = false := by simp
      clear hx hget hc1 hc2
      go_wp2_with fail
      go_quiet (fail)
      go_wp2_with fail
      go_roundw
      case rel => exact ⟨k + 1, by omega, by go_num, below_drewN HBEL.out _⟩
      case measure => simp [intOf]; omega
    · obtain rfl : k = n := by omega
      go_wp2_with fail
      go_ret
      exact ⟨HBEL.out, rfl⟩
end Go.Proofs.YtalipfnbpnkgnaaGreat

