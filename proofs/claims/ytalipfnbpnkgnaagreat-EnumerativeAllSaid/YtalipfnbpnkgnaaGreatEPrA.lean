/- What enumerative.principal calls: in, its closure, DeleteFunc. -/
import Derived.StillTailTactics
import Derived.Test.YtalipfnbpnkgnaaGreatETab
import Derived.Test.YtalipfnbpnkgnaaGreatDelF
namespace Go.Proofs.YtalipfnbpnkgnaaGreat
open Go.RowKit

/-- enumerative.in. -/
def InRet (w : World) (v : Value) (e : Ending) (w' : World) : Prop :=
  Below w.heap.size w w' ∧ ∃ q : Nat, e = .returned (.func (.func 71) #[] #[.pointer (some ⟨q, 0, none⟩)]) ∧ w.heap.size ≤ q ∧ q < w'.heap.size ∧ w'.cell? ⟨q, 0, none⟩ = some v
set_option maxRecDepth 100000 in
set_option maxHeartbeats 3200000 in
theorem in_any (a : Option Addr) (n c : Nat) (w : World) :
    Calls Tryz.prog 35 #[.slice a n c] w (InRet w (.slice a n c)) := by
  go_enter Tryz.func35, Tryz.ntmps35
  go_wp2_with fail
  go_ret
  exact ⟨(Below.refl _ _).alloc (Nat.le_refl _) _, w.heap.size, rfl, Nat.le_refl _, by simp, (Blk.new w 25 [.slice a n c]).cell (j := 0) rfl⟩
/-- What DeleteFunc leaves: a row in a block from B on. -/
def DelC (B : Nat) (l : List Int) (w : World) (e : Ending) (w' : World) : Prop :=
  Below B w w' ∧ ∃ v, e = .returned v ∧ Row w' v l.length (ci l)
theorem delC_any (set : List Int) (v : Value) (S B F : Nat) (cb : Array Value) (p : Int → Bool) (w0 w : World) (hown : w.ownsRow B 3 1 v set.length (ci set)) (hset : InR S set)
    (hent : ∀ args w, (callFunc F args).run Tryz.prog w = .ok (.enter F args) w) (hp : PredB F cb p S B w0) (hb : Below B w0 w) (hBw : B ≤ w.heap.size) :
    Calls Tryz.prog 95 #[v, .func (.func F) #[] cb] w (DelC B (keepP p set) w) := by
  by_cases hne : set = []
  · subst hne
    have hr := own_row hown
    have hix := indexF_any [] v S B F cb p w0 w hr hset hent hp hb hBw
    have hf : firstP p [] = -1 := rfl
    rw [hf] at hix
    obtain ⟨a, c, rfl, -⟩ := hr.slice
    have hk : keepP p [] = [] := rfl
    rw [hk]
    have HIX := Lib.hid hix; clear hix
    have HR := Lib.hid hr; clear hr
    clear hown hset hf hk hp
    go_enter Tryz.func95, Tryz.ntmps95
    go_wp2_with fail
    go_at_call 124
    refine HIX.out.mono ?_
    rintro e w1 ⟨hq1, rfl⟩
    have HQ1 := Lib.hid hq1; clear hq1
    go_wp2_with fail
    go_ret
    exact ⟨HQ1.out.mono hBw, _, rfl, HR.out.below HQ1.out (Nat.le_refl _)⟩
  · obtain ⟨g, cap, ys, rfl, h1, h2, h3, h4, h5, h6⟩ := own_blkZ hown (fun h => hne (List.length_eq_zero_iff.1 h))
    refine (delF_any set g cap S B F cb p ys w0 w h2 h3 h4 h5 h6 hne hset hent hp hb h1).mono ?_
    rintro e w1 ⟨k1, rfl, k2⟩
    exact ⟨k1.mono h1, _, rfl, k2⟩
theorem cmpZ_neg (x m : Int) : decide (cmpZ x m < 0) = decide (x < m) := by
  unfold cmpZ
  split
  · simp [*]
  · split <;> simp <;> omega
set_option maxRecDepth 100000 in
set_option maxHeartbeats 3200000 in
theorem princ1_any (rows : List (List Int)) (r : List Int) (d bn bm n s : Nat) (tv : Value) (x m : Int) (w : World) (hd : w.cell? ⟨d, 0, none⟩ = some tv) (ht : Tab w tv rows) (hbn : w.cell? ⟨bn, 0, none⟩ = some (.int .i64 (n : Int))) (hm0 : w.cell? ⟨bm, 0, none⟩ = some (.bool (ineg m))) (hm1 : w.cell? ⟨bm, 1, none⟩ = some (.string (imag m)))
    (hr : rows[n]? = some r) (hx : r[s]? = some x) (hsx : small x) (hsm : small m) :
    Calls Tryz.prog 96 #[.int .i64 (s : Int), .pointer (some ⟨d, 0, none⟩), .pointer (some ⟨bn, 0, none⟩), .pointer (some ⟨bm, 0, none⟩)] w (Ret w (.bool (decide (x < m)))) := by
  obtain ⟨rvs, hl, hrow, hrs⟩ := ht
  obtain ⟨rv, hrv, hrr⟩ := hrs n r hr
  have hnl : n < rows.length := (List.getElem?_eq_some_iff.1 hr).1
  have hsl : s < r.length := (List.getElem?_eq_some_iff.1 hx).1
  obtain ⟨ta, tc, rfl, -⟩ := hrow.slice
  obtain ⟨ra, rc, rfl, -⟩ := hrr.slice
  obtain ⟨b1, o1, rfl, hb1, hc1⟩ := hrow.at_ (by omega)
  obtain ⟨b2, o2, rfl, hb2, hc2⟩ := hrr.at_ (by omega)
  have e0 := hc1 n _ hrv
  obtain ⟨hx0, hx1⟩ := civ_get hx
  have e1 := hc2 _ _ hx0
  have e2 := hc2 _ _ hx1
  rw [← Nat.add_assoc] at e2
  obtain ⟨N, hN⟩ : ∃ N, N = rows.length := ⟨_, rfl⟩
  obtain ⟨M, hM⟩ : ∃ M, M = r.length := ⟨_, rfl⟩
  rw [← hN] at hd hnl
  rw [← hM] at e0 hsl
  have i1 : (0 : Int) ≤ (n : Int) := by omega
  have i2 : (n : Int) < (N : Int) := by omega
  have i3 : (0 : Int) ≤ (s : Int) := by omega
  have i4 : (s : Int) < (M : Int) := by omega
  have hcmp := fun w' => icompare_any (ineg x) (ineg m) (imag x) (imag m) w' hsx hsm
  simp only [ival_canon] at hcmp
  have hfin := cmpZ_neg x m
  obtain ⟨cz, hcz⟩ : ∃ cz, cz = cmpZ x m := ⟨_, rfl⟩
  rw [← hcz] at hfin
  simp only [← hcz] at hcmp
  have HCMP := Lib.hid hcmp; clear hcmp
  have HFIN := Lib.hid hfin; clear hfin
  clear hN hM hcz hl hrow hrs hrr hc1 hc2 hx0 hx1 hrv hr hx
  go_enter Tryz.func96, Tryz.ntmps96
  go_wp2_with fail
  go_still_tail 8, (by kernel_rfl)
  change wpList _ _ _ _ _ w.drew
  go_wp2_with fail
  go_at_call 62
  refine (HCMP.out _).mono ?_
  rintro e w1 ⟨hq, rfl⟩
  have HQ := Lib.hid hq; clear hq
  go_wp2_with fail
  go_ret
  exact ⟨(Below.refl _ w).drew.trans HQ.out, by rw [← HFIN.out]; rfl⟩
end Go.Proofs.YtalipfnbpnkgnaaGreat
