/- slices.DeleteFunc at ints. -/
import Derived.Test.YtalipfnbpnkgnaaGreatDel
namespace Go.Proofs.YtalipfnbpnkgnaaGreat
open Go.RowKit

/-- What slices.DeleteFunc returns: a row in the same block. -/
def DelRet (b cap : Nat) (l : List Int) (w : World) (e : Ending) (w' : World) : Prop :=
  Below b w w' ∧ e = .returned (.slice (some ⟨b, 0, none⟩) l.length cap) ∧ Row w' (.slice (some ⟨b, 0, none⟩) l.length cap) l.length (ci l)
set_option maxRecDepth 100000 in
set_option maxHeartbeats 3200000 in
theorem delF_any (set : List Int) (b cap S B F : Nat) (cb : Array Value) (p : Int → Bool) (ys : List Value) (w0 w : World) (hblk : Blk w b 3 ys) (hys : ys.take set.length = ci set) (hl : set.length ≤ ys.length) (hcap : set.length ≤ cap) (hcap2 : cap ≤ maxLen) (hne : set ≠ []) (hset : InR S set)
    (hent : ∀ args w, (callFunc F args).run Tryz.prog w = .ok (.enter F args) w) (hp : PredB F cb p S B w0) (hb : Below B w0 w) (hB : B ≤ b) :
    Calls Tryz.prog 95 #[.slice (some ⟨b, 0, none⟩) set.length cap, .func (.func F) #[] cb] w (DelRet b cap (keepP p set) w) := by
  have hbw := hblk.lt
  have hrow : Row w (.slice (some ⟨b, 0, none⟩) set.length cap) set.length (ci set) := by
    have h := Row.ofBlk hblk (m := set.length) (cap := cap) hcap hcap2 set.length
    rwa [hys] at h
  have hix := indexF_any set _ S B F cb p w0 w hrow hset hent hp hb (by omega)
  have hpos : 0 < set.length := List.length_pos_iff.2 hne
  have hcell : ∀ j (h : j < set.length), ys[j]? = some (.int .i64 set[j]) := fun j h => by
    have h1 : (ys.take set.length)[j]? = (ci set)[j]? := by rw [hys]
    rw [List.getElem?_take, if_pos h] at h1
    rw [h1]; exact ci_at (List.getElem?_eq_getElem h)
  have hml : set.length ≤ 9223372036854775807 := by unfold maxLen at hcap2; omega
  by_cases hfi : set.findIdx p < set.length
  · have hf : firstP p set = (set.findIdx p : Int) := by rw [firstP, if_pos hfi]
    have hkf : keepP p (set.take (set.findIdx p + 1)) = set.take (set.findIdx p) := by
      rw [keepP_snoc_yes (List.getElem?_eq_getElem hfi) List.findIdx_getElem, keepP_first _ (Nat.le_refl _)]
    obtain ⟨k0, hk0⟩ : ∃ k0, k0 = set.findIdx p := ⟨_, rfl⟩
    rw [hf] at hix
    rw [← hk0] at hkf hfi hix
    obtain ⟨m, hm⟩ : ∃ m, m = set.length := ⟨_, rfl⟩
    rw [← hm] at hrow hpos hl hcap hml hfi hys hix ⊢
    have hys0 : ys.take k0 = ci (set.take k0) := by
      have h1 : (ys.take m).take k0 = (ci set).take k0 := by rw [hys]
      rw [List.take_take, Nat.min_eq_left (by omega)] at h1
      rw [h1]; simp [ci]
    have hkl : (set.take k0).length = k0 := by rw [List.length_take, ← hm]; omega
    have HIX := Lib.hid hix; clear hix
    have HR := Lib.hid hrow; clear hrow
    have HP := Lib.hid hp; clear hp
    have HB := Lib.hid hb; clear hb
    have HM := Lib.hid hm; clear hm
    have HS := Lib.hid hset; clear hset
    have HBLK := Lib.hid hblk; clear hblk
    have HC := Lib.hid hcell; clear hcell
    have HYS := Lib.hid hys; clear hys
    have HYS0 := Lib.hid hys0; clear hys0
    have HKF := Lib.hid hkf; clear hkf
    have HKL := Lib.hid hkl; clear hkl
    clear hf hk0 hne
    go_enter Tryz.func95, Tryz.ntmps95
    go_wp2_with fail
    go_at_call 124
    refine HIX.out.mono ?_
    rintro e w1 ⟨hq1, rfl⟩
    have hk1 := HBLK.out.keep hq1
    have hb1 := HB.out.trans (hq1.mono (by omega))
    have hbb := hq1.mono (show b ≤ w.heap.size by omega)
    have hne1 : ((k0 : Int) == -1) = false := beq_eq_false_iff_ne.2 (by omega)
    have HK1 := Lib.hid hk1; clear hk1
    have HB1 := Lib.hid hb1; clear hb1
    have HBB := Lib.hid hbb; clear hbb
    have HQ1 := Lib.hid hq1; clear hq1
    go_wp2_with fail
    go_loopw [5, 6, 7] (fun s5 s6 _ wr => ∃ (i j : Nat) (zs : List Value), s5 = .int .i64 i ∧ s6 = .int .i64 j ∧ i < j ∧ j ≤ m ∧ Blk wr b 3 zs ∧ zs.length = ys.length ∧ i = (keepP p (set.take j)).length ∧ zs.take i = ci (keepP p (set.take j)) ∧ (∀ k, j ≤ k → zs[k]? = ys[k]?) ∧ Below b w wr) (fun _ s6 _ _ => m - (intOf s6).toNat)
    case atStart => exact ⟨k0, k0 + 1, ys, rfl, by go_num, by omega, by omega, HK1.out, rfl, by rw [HKF.out, HKL.out], by rw [HKF.out]; exact HYS0.out, fun _ _ => rfl, HBB.out⟩
    case round =>
      obtain ⟨i, j, zs, rfl, rfl, hij, hjm, hblk, hzl, hil, hzt, hzd, hbel⟩ := hrel
      have HIL := Lib.hid hil; clear hil
      have HZT := Lib.hid hzt; clear hzt
      have HZD := Lib.hid hzd; clear hzd
      have HBEL := Lib.hid hbel; clear hbel
      by_cases hlt : j < m
      · obtain ⟨s, hs, hget⟩ := inR_get HS.out (by rw [← HM.out]; exact hlt)
        have hz : zs[j]? = some (.int .i64 (s : Int)) := by
          have hjl : j < set.length := by rw [← HM.out]; exact hlt
          rw [HZD.out j (Nat.le_refl _), HC.out j hjl]
          rw [List.getElem?_eq_getElem hjl] at hget
          rw [Option.some.inj hget]
        have c0 := hblk.cell hz
        have hbw : Below B w0 wr := HB.out.trans (HBEL.out.mono hB)
        have his := HP.out s wr hs hbw
        cases hps : p (s : Int) with
        | true =>
          rw [hps] at his
          have hnx := keepP_snoc_yes hget hps
          have HNX := Lib.hid hnx; clear hnx
          have HIS1 := Lib.hid his; clear his
          clear hps hget hz hbw
          go_wp2_with fail
          refine HIS1.out.mono ?_
          rintro e w2 ⟨hq2, rfl⟩
          have hk2 := hblk.keep hq2
          have hbl := hblk.lt
          have HK2 := Lib.hid hk2; clear hk2
          have HQ2 := Lib.hid hq2; clear hq2
          clear hblk
          go_wp2_with fail
          go_roundw
          case rel =>
            refine ⟨i, j + 1, zs, rfl, by go_num, by omega, by omega, HK2.out, hzl, ?_, ?_, fun k hk => HZD.out k (by omega), HBEL.out.trans (HQ2.out.mono (by omega))⟩
            · rw [HNX.out]; exact HIL.out
            · rw [HNX.out]; exact HZT.out
          case measure => simp [intOf]; omega
        | false =>
          rw [hps] at his
          have hnx := keepP_snoc_no hget hps
          have HNX := Lib.hid hnx; clear hnx
          have HIS1 := Lib.hid his; clear his
          clear hps hget hz hbw
          have hiz : zs[i]? = some (zs[i]'(by omega)) := List.getElem?_eq_getElem _
          obtain ⟨z, hz⟩ : ∃ z, z = zs[i]'(by omega) := ⟨_, rfl⟩
          rw [← hz] at hiz
          clear hz
          go_wp2_with fail
          refine HIS1.out.mono ?_
          rintro e w2 ⟨hq2, rfl⟩
          have hk2 := hblk.keep hq2
          have c1 := hk2.cell hiz
          have f1 := hk2.frozen i
          have hbl := hblk.lt
          have HK2 := Lib.hid hk2; clear hk2
          have HQ2 := Lib.hid hq2; clear hq2
          clear hblk
          go_wp2_with fail
          go_roundw
          case rel =>
            refine ⟨i + 1, j + 1, zs.set i (.int .i64 (s : Int)), by go_num, by go_num, by omega, by omega, HK2.out.set _ _, by rw [List.length_set]; exact hzl, ?_, ?_, fun k hk => ?_, (HBEL.out.trans (HQ2.out.mono (by omega))).setCell (p := ⟨b, i, none⟩) (Nat.le_refl _) _⟩
            · rw [HNX.out, List.length_append, ← HIL.out]; rfl
            · rw [HNX.out, ci_snoc, ← HZT.out, List.take_add_one, List.getElem?_set_self (by omega), List.take_set_of_le (Nat.le_refl _)]; rfl
            · rw [List.getElem?_set_ne (by omega)]; exact HZD.out k (by omega)
          case measure => simp [intOf]; omega
      · obtain rfl : j = m := by omega
        have hall : keepP p (set.take j) = keepP p set := by rw [HM.out, List.take_length]
        have hil := HIL.out
        have hzt := HZT.out
        rw [hall] at hil hzt
        have hcl : ∀ ty, (Builtin.clear_ #[25] ty #[.slice (some ⟨b, i, none⟩) (j - i) (cap - i)]).run Tryz.prog wr = .ok (.tuple #[]) (wr.setCells b i (List.replicate (j - i) (.int .i64 0))) :=
          fun ty => Lib.run_clear_slice wr _ _ ty _ Tryz.underlying25 (fun w => by kernel_rfl) rfl rfl b i _ _ (by omega) (fun t ht => by rw [hblk.cell (u := zs[i + t]'(by omega)) (List.getElem?_eq_getElem _)]; rfl) (fun t ht => hblk.frozen _)
        obtain ⟨zs2, g1, g2, g3⟩ := blk_setCells (List.replicate (j - i) (.int .i64 0)) i wr zs hblk
        have hbel2 := below_setCells_b (Nat.le_refl b) (List.replicate (j - i) (.int .i64 0)) i w wr HBEL.out
        have hres : Row (wr.setCells b i (List.replicate (j - i) (.int .i64 0))) (.slice (some ⟨b, 0, none⟩) i cap) i (ci (keepP p set)) := by
          have h := Row.ofBlk g1 (m := i) (cap := cap) (by omega) hcap2 i
          have h2 : zs2.take i = zs.take i := by
            apply List.ext_getElem?
            intro k
            rw [List.getElem?_take, List.getElem?_take]
            by_cases hk : k < i
            · rw [if_pos hk, if_pos hk, g3 k hk]
            · rw [if_neg hk, if_neg hk]
          rwa [h2, hzt] at h
        have HB2 := Lib.hid hbel2; clear hbel2
        have HRES := Lib.hid hres; clear hres
        have HIL2 := Lib.hid hil; clear hil
        clear hblk hall hzt g1 g2 g3
        go_wp2_with fail
        go_ret
        exact ⟨HB2.out, by rw [← HIL2.out]; rfl, by rw [← HIL2.out]; exact HRES.out⟩
  · have hf : firstP p set = -1 := by rw [firstP, if_neg hfi]
    have hk : keepP p set = set := by
      have := keepP_first (p := p) (l := set) set.length (by omega)
      rwa [List.take_length] at this
    rw [hf] at hix
    rw [hk]
    obtain ⟨m, hm⟩ : ∃ m, m = set.length := ⟨_, rfl⟩
    rw [← hm] at hix hrow hml ⊢
    have HIX := Lib.hid hix; clear hix
    have HR := Lib.hid hrow; clear hrow
    have HM := Lib.hid hm; clear hm
    clear hk hf hcell hys hl hcap hfi hset hp
    go_enter Tryz.func95, Tryz.ntmps95
    go_wp2_with fail
    go_at_call 124
    refine HIX.out.mono ?_
    rintro e w1 ⟨hq1, rfl⟩
    have HQ1 := Lib.hid hq1; clear hq1
    go_wp2_with fail
    go_ret
    exact ⟨HQ1.out.mono (by omega), by rw [← HM.out]; rfl, by rw [← HM.out]; exact HR.out.below HQ1.out (Nat.le_refl _)⟩
end Go.Proofs.YtalipfnbpnkgnaaGreat
