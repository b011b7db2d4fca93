/- counting.divisors: an iterator over the divisors. -/
import Derived.Sort.QuietIn
import Derived.Test.YthpgeeaccmgbkaaGreatPart7
import Derived.Test.YthpgeeaccmgbkaaGreatPart14
namespace Go.Proofs.YthpgeeaccmgbkaaGreat
open Go.RowKit Go.Shelf

attribute [local go_sem] Oper.semAt_some

set_option maxRecDepth 100000 in
set_option maxHeartbeats 8000000 in
theorem divs1_in (n : Nat) (hn : 1 ≤ n) (l Bn N : Nat) (hN : N ≤ 100000) (B0 : Nat) (w0 : World) {α : Type} (en : α → Nat × Int) (L : List α) (hL : L.map en = divL N N) (J Jx : List α → World → Prop)
    (hJ : AbidesFrom B0 J)
    (hY : ∀ pre x W, J pre W → pre.length < (divL N N).length → YieldAt Fence.wide (n - 1) Tryz.prog l #[.int .i64 (((en x).1 : Nat) : Int), .int .i64 (en x).2] W fun e W' =>
      (e = .returned (.bool true) ∧ J (pre ++ [x]) W' ∧ cKpS w0.heap.size Bn Bn W W') ∨ (e = .returned (.bool false) ∧ Jx (pre ++ [x]) W'))
    (W : World) (hB0 : B0 ≤ W.heap.size) (hBn : Bn < W.heap.size) (hs : W.cell? ⟨Bn, 0, none⟩ = some (.int .i64 (N : Int))) (h0 : J [] W) :
    CallsIn Fence.wide n Tryz.prog 80 #[.func (.yield l) #[] #[], .pointer (some ⟨Bn, 0, none⟩)] W fun e W' => (∃ v, e = .returned v) ∧
      ((∃ ys, ys = L ∧ J ys W') ∨ (∃ pre, True ∧ Jx pre W')) := by
  have hLl : L.length = (divL N N).length := by rw [← hL, List.length_map]
  refine callsIn_of_wp Tryz.func80 rfl trivial ?_ rfl
  simp only [Tryz.ntmps80, List.size_toArray, List.length_cons, List.length_nil, Nat.reduceAdd, Nat.reduceSub, Array.replicate_succ, Array.replicate_zero, List.push_toArray, List.append_toArray, List.nil_append, List.cons_append]
  gi_wp2
  gi_loopw [3, 4, 5, 6] (fun i _ _ _ wr => ∃ j : Nat, j ≤ N ∧ i = .int .i64 ((j : Int) + 1) ∧ J (L.take (divL N j).length) wr ∧ cKpS w0.heap.size Bn Bn W wr)
    (fun i _ _ _ _ => N + 1 - (intOf i).toNat)
  case atStart => exact ⟨0, Nat.zero_le _, rfl, by rw [divL_zero]; exact h0, cKpS.refl _ _ _ _⟩
  case round =>
    obtain ⟨j, hj, rfl, hJs, hnx⟩ := hrel
    have hsr := (World.cell?_of_block (a := ⟨Bn, 0, none⟩) hnx.s).trans hs
    by_cases hlt : j < N
    · have hle : ((j : Int) + 1 ≤ (N : Int)) := by omega
      have hne0 : ¬ ((j : Int) + 1 = 0) := by omega
      by_cases hd : N % (j + 1) = 0
      · obtain ⟨m0, hm0⟩ : ∃ m0, m0 = N / (j + 1) := ⟨_, rfl⟩
        have hmN : m0 ≤ N := by rw [hm0]; exact Nat.div_le_self _ _
        have hyes := divL_yes hd
        have hat := divL_at hd hlt
        rw [← hm0] at hyes hat
        have hjL : (divL N j).length < L.length := by rw [hLl]; exact (List.getElem?_eq_some_iff.1 hat).1
        obtain ⟨x, hx⟩ : ∃ x, x = L[(divL N j).length]'hjL := ⟨_, rfl⟩
        have hex : en x = (j + 1, mu m0) := by
          have h1 : (L.map en)[(divL N j).length]? = some (en x) := by rw [List.getElem?_map, List.getElem?_eq_getElem hjL, hx]; rfl
          rw [hL, hat] at h1
          exact (Option.some.inj h1).symm
        have hsucc : L.take (divL N (j + 1)).length = L.take (divL N j).length ++ [x] := by
          rw [hyes, List.length_append, List.length_singleton, List.take_succ_eq_append_getElem hjL, hx]
        have hmod : ((N : Int) % ((j : Int) + 1) != 0) = false := by
          have : ((N : Int) % ((j : Int) + 1)) = ((N % (j + 1) : Nat) : Int) := by rw [Int.natCast_emod]; rfl
          rw [this, hd]; rfl
        have hq : (N : Int) / ((j : Int) + 1) = (m0 : Int) := by rw [hm0, Int.natCast_ediv]; rfl
        have hw0 : IntKind.i64.wrap (m0 : Int) = (m0 : Int) := IntWalk.i64_in _ (by omega)
        have hmu : mobL (m0 + 1) m0 2 1 = mu m0 := rfl
        have HSU := Lib.hid hsucc; clear hsucc
        have HEX := Lib.hid hex; clear hex
        have HMU := Lib.hid hmu; clear hmu
        have HJS := Lib.hid hJs; clear hJs
        clear hyes hat hx hm0 hd
        gi_wp2
        gi_quiet (fail)
        gi_wp2
        gi_loopw [4, 5, 6] (fun sv mv pv wv => ∃ (m p f : Nat) (s : Int), sv = .int .i64 s ∧ mv = .int .i64 (m : Int) ∧ pv = .int .i64 (p : Int) ∧ 2 ≤ p ∧ p ≤ m0 + 2 ∧ m ≤ m0 ∧ NoFac m p ∧ m + 1 ≤ f + p ∧ mobL f m p s = mu m0 ∧ -1 ≤ s ∧ s ≤ 1 ∧ wv = wr.drewN nq) (fun _ mv pv _ => (intOf mv).toNat + 1 - (intOf pv).toNat)
        case atStart => exact ⟨m0, 2, m0 + 1, 1, rfl, rfl, rfl, by omega, by omega, Nat.le_refl _, NoFac.two _, by omega, HMU.out, by omega, by omega, rfl⟩
        case round =>
          obtain ⟨m, p, f, s, rfl, rfl, rfl, hp2, hp0, hmm, hnf, hf, hmob, hs1, hs2, rfl⟩ := hrel
          have hwp : IntKind.i64.wrap ((p : Int) + 1) = (p : Int) + 1 := IntWalk.i64_in _ (by omega)
          have hws : IntKind.i64.wrap (-s) = -s := IntWalk.i64_in _ (by omega)
          by_cases hm1 : m ≤ 1
          · have h1 : ¬ (1 : Int) < (m : Int) := by omega
            have hsm : s = mu m0 := by rw [← hmob, mobL_end hm1]
            have hJ2 := hJ _ wr (wr.drewN nq) none HJS.out ⟨rfl, rfl, rfl, Nat.le_refl _, fun _ _ _ => rfl⟩ (fun r e => by cases e)
            obtain ⟨fn, tmps, assign, body, hy, hR⟩ := hY _ x _ hJ2 (by rw [List.length_take, ← hLl]; omega)
            rw [HEX.out] at hy
            dsimp only at hy
            rw [← hsm, show (((j + 1 : Nat)) : Int) = (j : Int) + 1 from rfl] at hy
            have hk2 : cKpS w0.heap.size Bn Bn W (wr.drewN nq) := ⟨hnx.bel.trans ⟨rfl, rfl, rfl, Nat.le_refl _, fun _ _ => rfl⟩, hnx.g, hnx.s⟩
            have HK2 := Lib.hid hk2; clear hk2
            clear hsm hmob
            gi_wp2
            refine hR.mono ?_
            rintro e' W3 (⟨rfl, hJ3, hk3⟩ | ⟨rfl, hJx3⟩)
            · gi_wp2
              go_roundw
              case rel => exact ⟨j + 1, by omega, by go_num, by rw [HSU.out]; exact hJ3, HK2.out.trans hk3⟩
              case measure => simp [intOf]; omega
            · gi_wp2
              refine bodyPost_ret (results_none rfl _ _ _) rfl ?_
              exact ⟨⟨_, rfl⟩, .inr ⟨_, trivial, hJx3⟩⟩
          · have h1 : (1 : Int) < (m : Int) := by omega
            have hpm := hnf.le hm1
            obtain ⟨f, rfl⟩ : ∃ f', f = f' + 1 := ⟨f - 1, by omega⟩
            have hp00 : ¬ (p : Int) = 0 := by omega
            by_cases hmp : m % p = 0
            · have hmod1 : ((m : Int) % (p : Int) != 0) = false := by rw [← Int.natCast_emod, hmp]; rfl
              obtain ⟨m2, hm2⟩ : ∃ m2, m2 = m / p := ⟨_, rfl⟩
              have hq2 : (m : Int) / (p : Int) = (m2 : Int) := by rw [hm2, Int.natCast_ediv]
              have hm2m : m2 ≤ m := by rw [hm2]; exact Nat.div_le_self _ _
              have hw2 : IntKind.i64.wrap (m2 : Int) = (m2 : Int) := IntWalk.i64_in _ (by omega)
              by_cases hsq : m2 % p = 0
              · have hmod2 : ((m2 : Int) % (p : Int) == 0) = true := by rw [← Int.natCast_emod, hsq]; rfl
                have hz : mu m0 = 0 := by rw [← hmob, mobL_sq hm1 hmp (by rw [← hm2]; exact hsq)]
                have hJ2 := hJ _ wr (wr.drewN nq) none HJS.out ⟨rfl, rfl, rfl, Nat.le_refl _, fun _ _ _ => rfl⟩ (fun r e => by cases e)
                obtain ⟨fn, tmps, assign, body, hy, hR⟩ := hY _ x _ hJ2 (by rw [List.length_take, ← hLl]; omega)
                rw [HEX.out, hz] at hy
                dsimp only at hy
                rw [show (((j + 1 : Nat)) : Int) = (j : Int) + 1 from rfl] at hy
                have hk2 : cKpS w0.heap.size Bn Bn W (wr.drewN nq) := ⟨hnx.bel.trans ⟨rfl, rfl, rfl, Nat.le_refl _, fun _ _ => rfl⟩, hnx.g, hnx.s⟩
                have HK2 := Lib.hid hk2; clear hk2
                clear hz hmob hm2 hmp hsq hnf
                gi_wp2
                refine hR.mono ?_
                rintro e' W3 (⟨rfl, hJ3, hk3⟩ | ⟨rfl, hJx3⟩)
                · gi_wp2
                  go_roundw
                  case rel => exact ⟨j + 1, by omega, by go_num, by rw [HSU.out]; exact hJ3, HK2.out.trans hk3⟩
                  case measure => simp [intOf]; omega
                · gi_wp2
                  refine bodyPost_ret (results_none rfl _ _ _) rfl ?_
                  exact ⟨⟨_, rfl⟩, .inr ⟨_, trivial, hJx3⟩⟩
              · have hmod2 : ((m2 : Int) % (p : Int) == 0) = false := by
                  have h2 : (m2 : Int) % (p : Int) ≠ 0 := fun h => hsq (by exact_mod_cast h)
                  simp [h2]
                have hmob2 : mobL f m2 (p + 1) (-s) = mu m0 := by rw [← hmob, mobL_div hm1 hmp (by rw [← hm2]; exact hsq), hm2]
                have hnf2 : NoFac m2 (p + 1) := by rw [hm2]; exact hnf.div hmp (by rw [← hm2]; exact hsq)
                have hb1 : m2 + 1 ≤ f + (p + 1) := by omega
                have hmz : (m2 + 1 - (p + 1)) < (m + 1 - p) := by omega
                have HMB := Lib.hid hmob2; clear hmob2
                have HNF := Lib.hid hnf2; clear hnf2
                clear hmob hm2 hmp hsq hnf
                gi_wp2
                go_roundw
                case rel => exact ⟨m2, p + 1, f, -s, rfl, rfl, by go_num, by omega, by omega, by omega, HNF.out, hb1, HMB.out, by omega, by omega, by first | rfl | trivial⟩
                case measure => simp [intOf]; omega
            · have hmod1 : ((m : Int) % (p : Int) != 0) = true := by
                have h2 : (m : Int) % (p : Int) ≠ 0 := fun h => hmp (by exact_mod_cast h)
                simp [h2]
              have hmob2 := (mobL_next (f := f) (s := s) hm1 hmp).symm.trans hmob
              have hnf2 := hnf.next hmp
              have hb1 : m + 1 ≤ f + (p + 1) := by omega
              have HMB := Lib.hid hmob2; clear hmob2
              have HNF := Lib.hid hnf2; clear hnf2
              clear hmob hmp hnf
              gi_wp2
              go_roundw
              case rel => exact ⟨m, p + 1, f, s, rfl, rfl, by go_num, by omega, by omega, hmm, HNF.out, hb1, HMB.out, hs1, hs2, by first | rfl | trivial⟩
              case measure => simp [intOf]; omega
      · have hno := divL_no hd
        have HNO := Lib.hid hno; clear hno
        have HJS := Lib.hid hJs; clear hJs
        have hmod : ((N : Int) % ((j : Int) + 1) != 0) = true := by
          have h2 : (N : Int) % ((j : Int) + 1) ≠ 0 := fun h => hd (by exact_mod_cast h)
          simp [h2]
        clear hd
        gi_wp2
        go_roundw
        case rel => exact ⟨j + 1, by omega, by go_num, by rw [HNO.out]; exact HJS.out, hnx⟩
        case measure => simp [intOf]; omega
    · obtain rfl : j = N := by omega
      have hle : ¬ ((j : Int) + 1 ≤ (j : Int)) := by omega
      gi_wp2
      go_end0
      exact ⟨⟨_, rfl⟩, .inl (by rw [List.take_of_length_le (by omega)] at hJs; exact hJs)⟩
end Go.Proofs.YthpgeeaccmgbkaaGreat
