/- Contracts and plain laws of several functions, one after the other: RowG, EPrA. -/
import Derived.Lib.SmallJoins
import Derived.Deep.Slices
import Derived.Deep.Strs
import Derived.Carry
import Derived.StillTailTactics
import Derived.Test.YtalipfnbpnkgnaaGreatCheck
import Derived.Test.YtalipfnbpnkgnaaGreatETab
import Derived.Test.YtalipfnbpnkgnaaGreatDelF
/- Arguments of the rows, opened: a graph, an integer. -/
namespace Go.Proofs.YtalipfnbpnkgnaaGreat
open Go.RowKit Go.ChangeShapes Go.WideShapes Go.Deep Go.Joins

theorem wf_i64' {a : Int} (h : (Lit.int .i64 a).wf = true) : -9223372036854775808 ≤ a ∧ a ≤ 9223372036854775807 := by
  rw [Lit.wf, Bool.and_eq_true, decide_eq_true_eq, decide_eq_true_eq] at h
  exact h
theorem cellsGraph : Tryz.prog.cellsOf 24 = 3 := by kernel_rfl
theorem cellsEdge : Tryz.prog.cellsOf 111 = 3 := by kernel_rfl
theorem cellsI : Tryz.prog.cellsOf 3 = 1 := by kernel_rfl
theorem cellsInt2 : Tryz.prog.cellsOf 33 = 2 := by kernel_rfl
theorem ctGraph : Tryz.prog.cellTypes Tryz.prog.depth 24 = some [3, 3, 22] := by kernel_rfl
theorem cell_ok_slice {P : Program} {w : World} {r : Reach} {base : Nat} {t e : TypeId} {a : Addr} {len cap : Nat} (ht : P.underlying t = some (.slice e)) (h : Cell.okWide P w r base t (.slice (some a) len cap)) : a.spot = none ∧ a.block < w.heap.size := by
  unfold Cell.okWide Cell.ok at h
  rw [ht] at h
  obtain ⟨-, -, -, hsp, row, cells, hsh, -⟩ := h
  refine ⟨hsp, ?_⟩
  rcases Nat.lt_or_ge a.block w.heap.size with h' | h'
  · exact h'
  · simp [World.shape?, Array.getElem?_eq_none h'] at hsh
theorem okWide_cell {P : Program} {w : World} {r : Reach} {base : Nat} {t u : TypeId} {fs : Array Field} {cs : Array Value} {ts : List TypeId} {i : Nat} {v : Value} (ht : P.underlying t = some (.struct fs)) (hct : P.cellTypes P.depth t = some ts) (h : Value.okWide P w r base t (.agg cs)) (hi : cs[i]? = some v) (hu : ts[i]? = some u) : Cell.okWide P w r base u v := by
  unfold Value.okWide at h
  rw [ht] at h
  obtain ⟨cs', e, -, ts', hts, -, hall⟩ := h
  obtain rfl : cs = cs' := by cases e; rfl
  rw [hct] at hts
  obtain rfl := Option.some.inj hts
  obtain ⟨u', hu', hc⟩ := hall i v hi
  have hil : i < ts.length := (List.getElem?_eq_some_iff.1 hu).1
  rw [Nat.mod_eq_of_lt hil, hu] at hu'
  obtain rfl := Option.some.inj hu'
  exact hc
section
variable {H : Type} {enc : TypeId × Value → H}
set_option maxRecDepth 100000 in
/-- What a slice of edges holds. -/
theorem open_edges {W : World} {base n : Nat} {sv : Value} {x : DataW H × List MemPlace} (hc : Cell.okWide Tryz.prog W .any base 22 sv) (h : DataW.trod enc Tryz.prog W 0 (fun _ => true) true n 22 [sv] = some x) :
    ∃ es : List E3, Row W sv es.length (ce es) ∧ okEs es := by
  rcases open_slice Tryz.underlying22 h with ⟨hs, -⟩ | ⟨a, len, cap, m, n', D, Pl, hs, -, hl, hm, hmm, -, hx⟩
  · obtain rfl : sv = .slice none 0 0 := by simpa using hs
    exact ⟨[], .inl ⟨rfl, rfl, rfl⟩, fun e he => by cases he⟩
  · obtain rfl : sv = .slice (some a) len cap := by simpa using hs
    simp only [if_true] at hmm
    subst hmm
    obtain ⟨hsp, hlt⟩ := cell_ok_slice Tryz.underlying22 hc
    have key : ∀ i, i < m → ∃ e : E3, e.ok ∧ ∀ j u, e.cells[j]? = some u → W.cell? (a.add (i * 3 + j)) = some u := by
      intro i hi
      obtain ⟨cs', h1, h2⟩ := hx i hi
      rw [cellsEdge] at h1
      obtain ⟨-, hlen, hget⟩ := World.cells?_some h1
      obtain ⟨y0, y1, y2, k, -, -, t0, t1, t2⟩ := trod_struct3 Tryz.underlying111 h2
      match cs', hlen with
      | [c0, c1, c2], _ =>
        obtain ⟨f, e0, -, w0⟩ := DataW.trod_int Tryz.underlying3 t0
        obtain ⟨l, e1, -, w1⟩ := DataW.trod_int Tryz.underlying3 t1
        obtain ⟨t, e2, -, w2⟩ := DataW.trod_int Tryz.underlying3 t2
        have q0 : c0 = .int .i64 f := by simpa [cellsI] using e0
        have q1 : c1 = .int .i64 l := by simpa [cellsI] using e1
        have q2 : c2 = .int .i64 t := by simpa [cellsI] using e2
        subst q0 q1 q2
        refine ⟨⟨f, l, t⟩, ?_, fun j u hj => ?_⟩
        · intro z hz
          simp only [List.mem_cons, List.not_mem_nil, or_false] at hz
          rcases hz with rfl | rfl | rfl
          · exact wf_i64' w0
          · exact wf_i64' w1
          · exact wf_i64' w2
        · have hj3 : j < 3 := by
            have := (List.getElem?_eq_some_iff.1 hj).1
            simpa [E3.cells] using this
          rw [← add_add, hget j hj3]
          exact hj
    obtain ⟨E, hE⟩ := choose_lt key
    refine ⟨(List.range len).map E, .inr ⟨a.block, a.off, m, ?_, ?_, ?_, hlt, fun j u hj => ?_⟩, fun e he => ?_⟩
    · rw [List.length_map, List.length_range]
      rcases a with ⟨b, o, sp⟩
      obtain rfl : sp = none := hsp
      rfl
    · rw [List.length_map, List.length_range]; exact hl
    · exact hm
    · have hjl := (List.getElem?_eq_some_iff.1 hj).1
      rw [ce_length, List.length_map, List.length_range] at hjl
      have hi : j / 3 < len := by omega
      have h1 := (hE (j / 3) (by omega)).2 (j % 3)
      have hg : ((List.range len).map E)[j / 3]? = some (E (j / 3)) := by simp [hi]
      obtain ⟨c, hc'⟩ : ∃ c, (E (j / 3)).cells[j % 3]? = some c := ⟨(E (j / 3)).cells[j % 3]'(by simp [E3.cells]; omega), List.getElem?_eq_getElem _⟩
      have h2 := ce_get hg hc'
      rw [show j / 3 * 3 + j % 3 = j by omega, hj] at h2
      obtain rfl := Option.some.inj h2
      have h3 := h1 _ hc'
      rw [show j / 3 * 3 + j % 3 = j by omega] at h3
      rcases a with ⟨b, o, sp⟩
      obtain rfl : sp = none := hsp
      have e : (Addr.mk b o none).add j = ⟨b, o + j, none⟩ := by unfold Addr.add; split <;> simp_all
      rw [← e]; exact h3
    · obtain ⟨i, hi, rfl⟩ := List.mem_map.1 he
      exact (hE i (by have := List.mem_range.1 hi; omega)).1
set_option maxRecDepth 100000 in
/-- A graph handed in. -/
theorem open_graph {W : World} {base : Nat} {v : Value} {d : DataW H} {p : List MemPlace} (hval : Value.okWide Tryz.prog W .any base 24 v) (h : DataW.Trod enc Tryz.prog W 0 (fun _ => true) true 24 v d p) :
    ∃ (L S : Int) (es : List E3) (sv : Value), v = .agg #[.int .i64 L, .int .i64 S, sv] ∧ Row W sv es.length (ce es) ∧ okEs es ∧ (Lit.int .i64 L).wf = true ∧ (Lit.int .i64 S).wf = true := by
  obtain ⟨v0, v1, v2, y0, y1, y2, n, rfl, -, -, t0, t1, t2⟩ := open_agg3 Tryz.underlying24 (by kernel_rfl) cellsGraph hval h
  obtain ⟨L, e0, -, w0⟩ := DataW.trod_int Tryz.underlying3 t0
  obtain ⟨S, e1, -, w1⟩ := DataW.trod_int Tryz.underlying3 t1
  obtain rfl : v0 = .int .i64 L := by simpa using e0
  obtain rfl : v1 = .int .i64 S := by simpa using e1
  obtain ⟨es, hr, hok⟩ := open_edges (okWide_cell (i := 2) Tryz.underlying24 ctGraph hval rfl rfl) t2
  exact ⟨L, S, es, v2, rfl, hr, hok, w0, w1⟩
set_option maxRecDepth 100000 in
/-- An integer of any size handed in. -/
theorem open_num {W : World} {base : Nat} {v : Value} {d : DataW H} {p : List MemPlace} (hval : Value.okWide Tryz.prog W .any base 33 v) (h : DataW.Trod enc Tryz.prog W 0 (fun _ => true) true 33 v d p) :
    ∃ (ng : Bool) (s : ByteArray), v = .agg #[.bool ng, .string s] ∧ s.size ≤ maxLen := by
  obtain ⟨v0, v1, y0, y1, n, rfl, -, -, t0, t1⟩ := open_agg2 Tryz.underlying33 (by kernel_rfl) cellsInt2 hval h
  obtain ⟨ng, e0, -⟩ := DataW.trod_bool Tryz.underlying4 t0
  obtain ⟨s, e1, -, hs⟩ := DataW.trod_string Tryz.underlying9 t1
  obtain rfl : v0 = .bool ng := by simpa using e0
  obtain rfl : v1 = .string s := by simpa using e1
  exact ⟨ng, s, rfl, hs⟩
end
end Go.Proofs.YtalipfnbpnkgnaaGreat

/- What enumerative.principal calls: in, its closure, DeleteFunc. -/
namespace Go.Proofs.YtalipfnbpnkgnaaGreat
open Go.RowKit

/-- enumerative.in. -/
def InRet (w : World) (v : Value) (e : Ending) (w' : World) : Prop :=
  Below w.heap.size w w' ∧ ∃ q : Nat, e = .returned (.func (.func 71) #[] #[.pointer (some ⟨q, 0, none⟩)]) ∧ w.heap.size ≤ q ∧ q < w'.heap.size ∧ w'.cell? ⟨q, 0, none⟩ = some v
set_option maxRecDepth 100000 in
set_option maxHeartbeats 3200000 in
theorem in_any (a : Option Addr) (n c : Nat) (w : World) :
    Calls Tryz.prog 35 #[.slice a n c] w (InRet w (.slice a n c)) := by
  go_enter Tryz.func35, Tryz.ntmps35
  go_wp2_with fail
  go_ret
  exact ⟨(Below.refl _ _).alloc (Nat.le_refl _) _, w.heap.size, rfl, Nat.le_refl _, by simp, (Blk.new w 25 [.slice a n c]).cell (j := 0) rfl⟩
/-- What DeleteFunc leaves: a row in a block from B on. -/
def DelC (B : Nat) (l : List Int) (w : World) (e : Ending) (w' : World) : Prop :=
  Below B w w' ∧ ∃ v, e = .returned v ∧ Row w' v l.length (ci l)
theorem delC_any (set : List Int) (v : Value) (S B F : Nat) (cb : Array Value) (p : Int → Bool) (w0 w : World) (hown : w.ownsRow B 3 1 v set.length (ci set)) (hset : InR S set)
    (hent : ∀ args w, (callFunc F args).run Tryz.prog w = .ok (.enter F args) w) (hp : PredB F cb p S B w0) (hb : Below B w0 w) (hBw : B ≤ w.heap.size) :
    Calls Tryz.prog 95 #[v, .func (.func F) #[] cb] w (DelC B (keepP p set) w) := by
  by_cases hne : set = []
  · subst hne
    have hr := own_row hown
    have hix := indexF_any [] v S B F cb p w0 w hr hset hent hp hb hBw
    have hf : firstP p [] = -1 := rfl
    rw [hf] at hix
    obtain ⟨a, c, rfl, -⟩ := hr.slice
    have hk : keepP p [] = [] := rfl
    rw [hk]
    have HIX := Lib.hid hix; clear hix
    have HR := Lib.hid hr; clear hr
    clear hown hset hf hk hp
    go_enter Tryz.func95, Tryz.ntmps95
    go_wp2_with fail
    go_at_call 124
    refine HIX.out.mono ?_
    rintro e w1 ⟨hq1, rfl⟩
    have HQ1 := Lib.hid hq1; clear hq1
    go_wp2_with fail
    go_ret
    exact ⟨HQ1.out.mono hBw, _, rfl, HR.out.below HQ1.out (Nat.le_refl _)⟩
  · obtain ⟨g, cap, ys, rfl, h1, h2, h3, h4, h5, h6⟩ := own_blkZ hown (fun h => hne (List.length_eq_zero_iff.1 h))
    refine (delF_any set g cap S B F cb p ys w0 w h2 h3 h4 h5 h6 hne hset hent hp hb h1).mono ?_
    rintro e w1 ⟨k1, rfl, k2⟩
    exact ⟨k1.mono h1, _, rfl, k2⟩
theorem cmpZ_neg (x m : Int) : decide (cmpZ x m < 0) = decide (x < m) := by
  unfold cmpZ
  split
  · simp [*]
  · split <;> simp <;> omega
set_option maxRecDepth 100000 in
set_option maxHeartbeats 3200000 in
theorem princ1_any (rows : List (List Int)) (r : List Int) (d bn bm n s : Nat) (tv : Value) (x m : Int) (w : World) (hd : w.cell? ⟨d, 0, none⟩ = some tv) (ht : Tab w tv rows) (hbn : w.cell? ⟨bn, 0, none⟩ = some (.int .i64 (n : Int))) (hm0 : w.cell? ⟨bm, 0, none⟩ = some (.bool (ineg m))) (hm1 : w.cell? ⟨bm, 1, none⟩ = some (.string (imag m)))
    (hr : rows[n]? = some r) (hx : r[s]? = some x) (hsx : small x) (hsm : small m) :
    Calls Tryz.prog 96 #[.int .i64 (s : Int), .pointer (some ⟨d, 0, none⟩), .pointer (some ⟨bn, 0, none⟩), .pointer (some ⟨bm, 0, none⟩)] w (Ret w (.bool (decide (x < m)))) := by
  obtain ⟨rvs, hl, hrow, hrs⟩ := ht
  obtain ⟨rv, hrv, hrr⟩ := hrs n r hr
  have hnl : n < rows.length := (List.getElem?_eq_some_iff.1 hr).1
  have hsl : s < r.length := (List.getElem?_eq_some_iff.1 hx).1
  obtain ⟨ta, tc, rfl, -⟩ := hrow.slice
  obtain ⟨ra, rc, rfl, -⟩ := hrr.slice
  obtain ⟨b1, o1, rfl, hb1, hc1⟩ := hrow.at_ (by omega)
  obtain ⟨b2, o2, rfl, hb2, hc2⟩ := hrr.at_ (by omega)
  have e0 := hc1 n _ hrv
  obtain ⟨hx0, hx1⟩ := civ_get hx
  have e1 := hc2 _ _ hx0
  have e2 := hc2 _ _ hx1
  rw [← Nat.add_assoc] at e2
  obtain ⟨N, hN⟩ : ∃ N, N = rows.length := ⟨_, rfl⟩
  obtain ⟨M, hM⟩ : ∃ M, M = r.length := ⟨_, rfl⟩
  rw [← hN] at hd hnl
  rw [← hM] at e0 hsl
  have i1 : (0 : Int) ≤ (n : Int) := by omega
  have i2 : (n : Int) < (N : Int) := by omega
  have i3 : (0 : Int) ≤ (s : Int) := by omega
  have i4 : (s : Int) < (M : Int) := by omega
  have hcmp := fun w' => icompare_any (ineg x) (ineg m) (imag x) (imag m) w' hsx hsm
  simp only [ival_canon] at hcmp
  have hfin := cmpZ_neg x m
  obtain ⟨cz, hcz⟩ : ∃ cz, cz = cmpZ x m := ⟨_, rfl⟩
  rw [← hcz] at hfin
  simp only [← hcz] at hcmp
  have HCMP := Lib.hid hcmp; clear hcmp
  have HFIN := Lib.hid hfin; clear hfin
  clear hN hM hcz hl hrow hrs hrr hc1 hc2 hx0 hx1 hrv hr hx
  go_enter Tryz.func96, Tryz.ntmps96
  go_wp2_with fail
  go_still_tail 8, (by kernel_rfl)
  change wpList _ _ _ _ _ w.drew
  go_wp2_with fail
  go_at_call 62
  refine (HCMP.out _).mono ?_
  rintro e w1 ⟨hq, rfl⟩
  have HQ := Lib.hid hq; clear hq
  go_wp2_with fail
  go_ret
  exact ⟨(Below.refl _ w).drew.trans HQ.out, by rw [← HFIN.out]; rfl⟩
end Go.Proofs.YtalipfnbpnkgnaaGreat

