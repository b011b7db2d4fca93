/- slices.IndexFunc, DeleteFunc and Clone at ints. -/
import Derived.Lib.SliceRun
import Derived.Test.YtalipfnbpnkgnaaGreatPart4
import Derived.Test.YtalipfnbpnkgnaaGreatPart11
namespace Go.Proofs.YtalipfnbpnkgnaaGreat
open Go.RowKit

/-- A function value that tells of the numbers below S, wherever what lay below B lies. -/
def PredB (F : Nat) (cb : Array Value) (p : Int → Bool) (S B : Nat) (w0 : World) : Prop :=
  ∀ (s : Nat) (W : World), s < S → Below B w0 W → Calls Tryz.prog F (#[.int .i64 (s : Int)] ++ cb) W (Ret W (.bool (p (s : Int))))
/-- The place of the first one, or -1. -/
def firstP (p : Int → Bool) (l : List Int) : Int := if l.findIdx p < l.length then (l.findIdx p : Int) else -1
def InR (S : Nat) (l : List Int) : Prop := ∀ x ∈ l, 0 ≤ x ∧ x < (S : Int)
theorem inR_get {S : Nat} {l : List Int} (h : InR S l) {j : Nat} (hj : j < l.length) : ∃ s : Nat, s < S ∧ l[j]? = some (s : Int) := by
  obtain ⟨h1, h2⟩ := h _ (List.getElem_mem hj)
  exact ⟨(l[j]).toNat, by omega, by rw [List.getElem?_eq_getElem hj]; congr 1; omega⟩
theorem ci_at {l : List Int} {j : Nat} {x : Int} (h : l[j]? = some x) : (ci l)[j]? = some (.int .i64 x) := by simp [ci, h]
set_option maxRecDepth 100000 in
set_option maxHeartbeats 3200000 in
theorem indexF_any (set : List Int) (v : Value) (S B F : Nat) (cb : Array Value) (p : Int → Bool) (w0 w : World) (hr : Row w v set.length (ci set)) (hset : InR S set)
    (hent : ∀ args w, (callFunc F args).run Tryz.prog w = .ok (.enter F args) w) (hp : PredB F cb p S B w0) (hb : Below B w0 w) (hB : B ≤ w.heap.size) :
    Calls Tryz.prog 124 #[v, .func (.func F) #[] cb] w (Ret w (.int .i64 (firstP p set))) := by
  obtain ⟨va, vc, rfl, hle⟩ := hr.slice
  obtain ⟨m, hm⟩ : ∃ m, m = set.length := ⟨_, rfl⟩
  rw [← hm] at hr hle ⊢
  have HR := Lib.hid hr; clear hr
  have HP := Lib.hid hp; clear hp
  have HB := Lib.hid hb; clear hb
  have HM := Lib.hid hm; clear hm
  have HS := Lib.hid hset; clear hset
  go_enter Tryz.func124, Tryz.ntmps124
  go_wp2_with fail
  go_loopw [8] (fun i wr => ∃ j : Nat, j ≤ m ∧ i = .int .i64 j ∧ Below w.heap.size w wr ∧ j ≤ set.findIdx p) (fun i _ => m - (intOf i).toNat)
  case atStart => exact ⟨0, Nat.zero_le _, rfl, Below.refl _ _, Nat.zero_le _⟩
  case round =>
    obtain ⟨j, hj, rfl, hbel, hlow⟩ := hrel
    by_cases hlt : j < m
    · obtain ⟨s, hs, hget⟩ := inR_get HS.out (by rw [← HM.out]; exact hlt)
      obtain ⟨b, off, rfl, hbw, hce⟩ := HR.out.at_ (by omega)
      have c0 := (hbel.cell (p := ⟨b, off + j, none⟩) hbw).trans (hce j _ (ci_at hget))
      have his := HP.out s wr hs (HB.out.trans (hbel.mono hB))
      have hfi : ∀ h : j < set.length, set[j] = (s : Int) := fun h => by rw [List.getElem?_eq_getElem h] at hget; exact Option.some.inj hget
      have HFI := Lib.hid hfi; clear hfi
      have HBEL := Lib.hid hbel; clear hbel
      clear hce hget
      cases hps : p (s : Int) with
      | true =>
        rw [hps] at his
        have hres : firstP p set = (j : Int) := by
          have hjl : j < set.length := by rw [← HM.out]; exact hlt
          have h1 : set.findIdx p = j := by
            apply Nat.le_antisymm _ hlow
            refine Nat.le_of_not_lt fun h => ?_
            have := List.not_of_lt_findIdx h
            rw [HFI.out hjl] at this
            rw [hps] at this; cases this
          rw [firstP, h1, if_pos hjl]
        have HIS1 := Lib.hid his; clear his
        have HRES := Lib.hid hres; clear hres
        clear hps hlow
        go_wp2_with fail
        refine HIS1.out.mono ?_
        rintro e w1 ⟨hq1, rfl⟩
        have HQ1 := Lib.hid hq1; clear hq1
        go_wp2_with fail
        go_ret
        exact ⟨HBEL.out.trans (HQ1.out.mono HBEL.out.size), by rw [HRES.out]; rfl⟩
      | false =>
        rw [hps] at his
        have hnext : j + 1 ≤ set.findIdx p := by
          have hjl : j < set.length := by rw [← HM.out]; exact hlt
          rcases Nat.lt_or_eq_of_le hlow with h | h
          · exact h
          · exfalso
            have hlt2 : set.findIdx p < set.length := by rw [← h]; exact hjl
            have := List.findIdx_getElem (w := hlt2)
            have h3 := HFI.out hjl
            simp only [h] at h3
            rw [h3, hps] at this; cases this
        have HIS1 := Lib.hid his; clear his
        have HN := Lib.hid hnext; clear hnext
        clear hps hlow
        go_wp2_with fail
        refine HIS1.out.mono ?_
        rintro e w1 ⟨hq1, rfl⟩
        have HQ1 := Lib.hid hq1; clear hq1
        go_wp2_with fail
        go_roundw
        case rel => exact ⟨j + 1, by omega, by go_num, HBEL.out.trans (HQ1.out.mono HBEL.out.size), HN.out⟩
        case measure => simp [intOf]; omega
    · obtain rfl : j = m := by omega
      have hres : firstP p set = -1 := by
        have := HM.out
        rw [firstP, if_neg (by omega)]
      have HBEL := Lib.hid hbel; clear hbel
      have HRES := Lib.hid hres; clear hres
      clear hlow
      go_wp2_with fail
      go_ret
      exact ⟨HBEL.out, by rw [HRES.out]; rfl⟩
theorem blk_setCells {b : Nat} {t : TypeId} : ∀ (vs : List Value) (o : Nat) (w : World) (xs : List Value), Blk w b t xs → ∃ ys, Blk (w.setCells b o vs) b t ys ∧ ys.length = xs.length ∧ ∀ k, k < o → ys[k]? = xs[k]?
  | [], _, _, xs, h => ⟨xs, h, rfl, fun _ _ => rfl⟩
  | v :: vs, o, w, xs, h => by
    obtain ⟨ys, h1, h2, h3⟩ := blk_setCells vs (o + 1) _ _ (h.set o v)
    refine ⟨ys, h1, by simpa using h2, fun k hk => ?_⟩
    rw [h3 k (by omega), List.getElem?_set_ne (by omega)]
theorem below_setCells_b {B b : Nat} (hb : B ≤ b) : ∀ (vs : List Value) (o : Nat) (a w : World), Below B a w → Below B a (w.setCells b o vs)
  | [], _, _, _, h => h
  | v :: vs, o, a, w, h => below_setCells_b hb vs (o + 1) a _ (h.setCell (p := ⟨b, o, none⟩) hb v)
/-- Those that stay. -/
def keepP (p : Int → Bool) (l : List Int) : List Int := l.filter fun x => !p x
theorem keepP_snoc_no {p : Int → Bool} {l : List Int} {j : Nat} {x : Int} (h : l[j]? = some x) (hp : p x = false) : keepP p (l.take (j + 1)) = keepP p (l.take j) ++ [x] := by
  unfold keepP
  rw [List.take_add_one, h]
  simp [List.filter_append, hp]
theorem keepP_snoc_yes {p : Int → Bool} {l : List Int} {j : Nat} {x : Int} (h : l[j]? = some x) (hp : p x = true) : keepP p (l.take (j + 1)) = keepP p (l.take j) := by
  unfold keepP
  rw [List.take_add_one, h]
  simp [List.filter_append, hp]
theorem keepP_first {p : Int → Bool} {l : List Int} : ∀ k, k ≤ l.findIdx p → keepP p (l.take k) = l.take k := by
  intro k hk
  unfold keepP
  rw [List.filter_eq_self]
  intro x hx
  obtain ⟨i, hi, rfl⟩ := List.mem_iff_getElem.1 hx
  rw [List.getElem_take]
  have hi' : i < k := by rw [List.length_take] at hi; omega
  have := List.not_of_lt_findIdx (Nat.lt_of_lt_of_le hi' hk)
  simpa using this
theorem ci_snoc (l : List Int) (x : Int) : ci (l ++ [x]) = ci l ++ [.int .i64 x] := by simp [ci]
/-- What slices.Clone at ints returns: a slice of its own. -/
def CloneZ (w : World) (l : List Int) (e : Ending) (w' : World) : Prop :=
  Below w.heap.size w w' ∧ ∃ v, e = .returned v ∧ w'.ownsRow w.heap.size 3 1 v l.length (ci l)
theorem infoIntC : (Tryz.prog.info? 3).map (fun i => (i.zero, i.size, i.bytes)) = some (some (.int .i64 0), 1, 8) := by kernel_rfl
set_option maxRecDepth 100000 in
set_option maxHeartbeats 3200000 in
theorem cloneZ_any (l : List Int) (v : Value) (w : World) (hr : Row w v l.length (ci l)) (hlen : l.length ≤ 1000000000) :
    Calls Tryz.prog 58 #[v] w (CloneZ w l) := by
  rcases hr with ⟨rfl, h1, h2⟩ | ⟨b, off, cap, rfl, h1, h2, h3, h4⟩
  · have hd : l = [] := List.length_eq_zero_iff.1 h1
    subst hd
    clear h1 h2
    have hnil := fun (wx : World) => Lib.run_eql_slice_nil (P := Tryz.prog) wx 25 3 none 0 0 0 0 Tryz.underlying25
    simp only [Option.isNone_none] at hnil
    go_enter Tryz.func58, Tryz.ntmps58
    go_wp2_with fail
    go_ret
    exact ⟨Below.refl _ _, .slice none 0 0, rfl, World.ownsRow_nil _ _ _ _⟩
  · have hnil := fun (wx : World) => Lib.run_eql_slice_nil (P := Tryz.prog) wx 25 3 (some ⟨b, off, none⟩) l.length cap 0 0 Tryz.underlying25
    simp only [Option.isNone_some] at hnil
    obtain ⟨i0, hi, hz0, hz1, hz2⟩ := info_parts infoIntC
    have hm0 := World.ownsRow_made w (#[] : Array Value) 0 (base := w.heap.size) (e := 3) (size := 1) (Nat.le_refl _) (Nat.zero_le _) rfl
    have hc : ∀ (j : Nat) (u : Value), (ci l)[j]? = some u → (w.alloc (.cells #[] 3)).cell? ((⟨b, off, none⟩ : Addr).add j) = some u := by
      intro j u hu
      have e : (⟨b, off, none⟩ : Addr).add j = ⟨b, off + j, none⟩ := by
        unfold Addr.add
        split
        · rename_i h0; subst h0; rfl
        · rfl
      rw [e, below_new w _ h3]; exact h4 j u hu
    have h1c : ∀ u ∈ ci l, u.oneCell' = true := by
      intro u hu
      simp only [ci, List.mem_map] at hu
      obtain ⟨x, _, rfl⟩ := hu
      rfl
    have hcl : (ci l).length = l.length * 1 := by rw [ci_length, Nat.mul_one]
    have HM0 := Lib.hid hm0; clear hm0
    have HC := Lib.hid hc; clear hc
    have H1C := Lib.hid h1c; clear h1c
    have HCL := Lib.hid hcl; clear hcl
    clear h4
    go_enter Tryz.func58, Tryz.ntmps58
    go_wp2_with (at_builtin; refine wpList_append_own _ rfl (.tmp 5) (.tmp 6) 25 rfl w.heap.size 3 i0 _ 1 8 Tryz.underlying25 hi hz0 hz1 hz2 rfl (by decide) _ _ _ rfl HM0.out _ _ _ (ci l) rfl HCL.out HC.out H1C.out (by unfold maxLen; omega) (by omega) (by simp) ?_; intro v' w1 hown hg hnn)
    rw [Nat.zero_add, List.nil_append] at hown
    have HO := Lib.hid hown; clear hown
    have HG := Lib.hid hg; clear hg
    clear hnn
    go_wp2_with fail
    go_ret
    exact ⟨((Below.refl w.heap.size w).alloc (Nat.le_refl _) _).grown HG.out (by simp) (fun k hk => by cases hk; exact Nat.le_refl _), v', rfl, HO.out⟩
theorem own_blkZ {w : World} {base n : Nat} {e : TypeId} {v : Value} {xs : List Value} (h : w.ownsRow base e 1 v n xs) (hn : n ≠ 0) : ∃ g cap ys, v = .slice (some ⟨g, 0, none⟩) n cap ∧ base ≤ g ∧ Blk w g e ys ∧ ys.take n = xs ∧ n ≤ ys.length ∧ n ≤ cap ∧ cap ≤ maxLen := by
  rcases h.2 with ⟨_, h0⟩ | ⟨g, cap, cur, hv, h1, h2, h3, h4, h5, h6⟩
  · exact absurd h0 hn
  · exact ⟨g, cap, cur.toList, hv, h1, by unfold Blk; rw [Array.toArray_toList]; exact h2, by rw [Nat.mul_one] at h6; exact h6, by simp; omega, h3, h4⟩
end Go.Proofs.YtalipfnbpnkgnaaGreat
