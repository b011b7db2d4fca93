/- Contracts and plain laws of several functions, one after the other: RowG, RowK, EAnyG, RowP. -/
import Derived.Lib.SmallJoins
import Derived.Deep.Slices
import Derived.Deep.Strs
import Derived.Carry
import Derived.Test.YtalipfnbpnkgnaaGreatCheck
import Derived.Test.YtalipfnbpnkgnaaGreatPart2
/- Arguments of the rows, opened: a graph, an integer. -/
namespace Go.Proofs.YtalipfnbpnkgnaaGreat
open Go.RowKit Go.ChangeShapes Go.WideShapes Go.Deep Go.Joins

theorem wf_i64' {a : Int} (h : (Lit.int .i64 a).wf = true) : -9223372036854775808 ≤ a ∧ a ≤ 9223372036854775807 := by
  rw [Lit.wf, Bool.and_eq_true, decide_eq_true_eq, decide_eq_true_eq] at h
  exact h
theorem cellsGraph : Tryz.prog.cellsOf 24 = 3 := by kernel_rfl
theorem cellsEdge : Tryz.prog.cellsOf 111 = 3 := by kernel_rfl
theorem cellsI : Tryz.prog.cellsOf 3 = 1 := by kernel_rfl
theorem cellsInt2 : Tryz.prog.cellsOf 33 = 2 := by kernel_rfl
theorem ctGraph : Tryz.prog.cellTypes Tryz.prog.depth 24 = some [3, 3, 22] := by kernel_rfl
theorem cell_ok_slice {P : Program} {w : World} {r : Reach} {base : Nat} {t e : TypeId} {a : Addr} {len cap : Nat} (ht : P.underlying t = some (.slice e)) (h : Cell.okWide P w r base t (.slice (some a) len cap)) : a.spot = none ∧ a.block < w.heap.size := by
  unfold Cell.okWide Cell.ok at h
  rw [ht] at h
  obtain ⟨-, -, -, hsp, row, cells, hsh, -⟩ := h
  refine ⟨hsp, ?_⟩
  rcases Nat.lt_or_ge a.block w.heap.size with h' | h'
  · exact h'
  · simp [World.shape?, Array.getElem?_eq_none h'] at hsh
theorem okWide_cell {P : Program} {w : World} {r : Reach} {base : Nat} {t u : TypeId} {fs : Array Field} {cs : Array Value} {ts : List TypeId} {i : Nat} {v : Value} (ht : P.underlying t = some (.struct fs)) (hct : P.cellTypes P.depth t = some ts) (h : Value.okWide P w r base t (.agg cs)) (hi : cs[i]? = some v) (hu : ts[i]? = some u) : Cell.okWide P w r base u v := by
  unfold Value.okWide at h
  rw [ht] at h
  obtain ⟨cs', e, -, ts', hts, -, hall⟩ := h
  obtain rfl : cs = cs' := by cases e; rfl
  rw [hct] at hts
  obtain rfl := Option.some.inj hts
  obtain ⟨u', hu', hc⟩ := hall i v hi
  have hil : i < ts.length := (List.getElem?_eq_some_iff.1 hu).1
  rw [Nat.mod_eq_of_lt hil, hu] at hu'
  obtain rfl := Option.some.inj hu'
  exact hc
section
variable {H : Type} {enc : TypeId × Value → H}
set_option maxRecDepth 100000 in
/-- What a slice of edges holds. -/
theorem open_edges {W : World} {base n : Nat} {sv : Value} {x : DataW H × List MemPlace} (hc : Cell.okWide Tryz.prog W .any base 22 sv) (h : DataW.trod enc Tryz.prog W 0 (fun _ => true) true n 22 [sv] = some x) :
    ∃ es : List E3, Row W sv es.length (ce es) ∧ okEs es := by
  rcases open_slice Tryz.underlying22 h with ⟨hs, -⟩ | ⟨a, len, cap, m, n', D, Pl, hs, -, hl, hm, hmm, -, hx⟩
  · obtain rfl : sv = .slice none 0 0 := by simpa using hs
    exact ⟨[], .inl ⟨rfl, rfl, rfl⟩, fun e he => by cases he⟩
  · obtain rfl : sv = .slice (some a) len cap := by simpa using hs
    simp only [if_true] at hmm
    subst hmm
    obtain ⟨hsp, hlt⟩ := cell_ok_slice Tryz.underlying22 hc
    have key : ∀ i, i < m → ∃ e : E3, e.ok ∧ ∀ j u, e.cells[j]? = some u → W.cell? (a.add (i * 3 + j)) = some u := by
      intro i hi
      obtain ⟨cs', h1, h2⟩ := hx i hi
      rw [cellsEdge] at h1
      obtain ⟨-, hlen, hget⟩ := World.cells?_some h1
      obtain ⟨y0, y1, y2, k, -, -, t0, t1, t2⟩ := trod_struct3 Tryz.underlying111 h2
      match cs', hlen with
      | [c0, c1, c2], _ =>
        obtain ⟨f, e0, -, w0⟩ := DataW.trod_int Tryz.underlying3 t0
        obtain ⟨l, e1, -, w1⟩ := DataW.trod_int Tryz.underlying3 t1
        obtain ⟨t, e2, -, w2⟩ := DataW.trod_int Tryz.underlying3 t2
        have q0 : c0 = .int .i64 f := by simpa [cellsI] using e0
        have q1 : c1 = .int .i64 l := by simpa [cellsI] using e1
        have q2 : c2 = .int .i64 t := by simpa [cellsI] using e2
        subst q0 q1 q2
        refine ⟨⟨f, l, t⟩, ?_, fun j u hj => ?_⟩
        · intro z hz
          simp only [List.mem_cons, List.not_mem_nil, or_false] at hz
          rcases hz with rfl | rfl | rfl
          · exact wf_i64' w0
          · exact wf_i64' w1
          · exact wf_i64' w2
        · have hj3 : j < 3 := by
            have := (List.getElem?_eq_some_iff.1 hj).1
            simpa [E3.cells] using this
          rw [← add_add, hget j hj3]
          exact hj
    obtain ⟨E, hE⟩ := choose_lt key
    refine ⟨(List.range len).map E, .inr ⟨a.block, a.off, m, ?_, ?_, ?_, hlt, fun j u hj => ?_⟩, fun e he => ?_⟩
    · rw [List.length_map, List.length_range]
      rcases a with ⟨b, o, sp⟩
      obtain rfl : sp = none := hsp
      rfl
    · rw [List.length_map, List.length_range]; exact hl
    · exact hm
    · have hjl := (List.getElem?_eq_some_iff.1 hj).1
      rw [ce_length, List.length_map, List.length_range] at hjl
      have hi : j / 3 < len := by omega
      have h1 := (hE (j / 3) (by omega)).2 (j % 3)
      have hg : ((List.range len).map E)[j / 3]? = some (E (j / 3)) := by simp [hi]
      obtain ⟨c, hc'⟩ : ∃ c, (E (j / 3)).cells[j % 3]? = some c := ⟨(E (j / 3)).cells[j % 3]'(by simp [E3.cells]; omega), List.getElem?_eq_getElem _⟩
      have h2 := ce_get hg hc'
      rw [show j / 3 * 3 + j % 3 = j by omega, hj] at h2
      obtain rfl := Option.some.inj h2
      have h3 := h1 _ hc'
      rw [show j / 3 * 3 + j % 3 = j by omega] at h3
      rcases a with ⟨b, o, sp⟩
      obtain rfl : sp = none := hsp
      have e : (Addr.mk b o none).add j = ⟨b, o + j, none⟩ := by unfold Addr.add; split <;> simp_all
      rw [← e]; exact h3
    · obtain ⟨i, hi, rfl⟩ := List.mem_map.1 he
      exact (hE i (by have := List.mem_range.1 hi; omega)).1
set_option maxRecDepth 100000 in
/-- A graph handed in. -/
theorem open_graph {W : World} {base : Nat} {v : Value} {d : DataW H} {p : List MemPlace} (hval : Value.okWide Tryz.prog W .any base 24 v) (h : DataW.Trod enc Tryz.prog W 0 (fun _ => true) true 24 v d p) :
    ∃ (L S : Int) (es : List E3) (sv : Value), v = .agg #[.int .i64 L, .int .i64 S, sv] ∧ Row W sv es.length (ce es) ∧ okEs es ∧ (Lit.int .i64 L).wf = true ∧ (Lit.int .i64 S).wf = true := by
  obtain ⟨v0, v1, v2, y0, y1, y2, n, rfl, -, -, t0, t1, t2⟩ := open_agg3 Tryz.underlying24 (by kernel_rfl) cellsGraph hval h
  obtain ⟨L, e0, -, w0⟩ := DataW.trod_int Tryz.underlying3 t0
  obtain ⟨S, e1, -, w1⟩ := DataW.trod_int Tryz.underlying3 t1
  obtain rfl : v0 = .int .i64 L := by simpa using e0
  obtain rfl : v1 = .int .i64 S := by simpa using e1
  obtain ⟨es, hr, hok⟩ := open_edges (okWide_cell (i := 2) Tryz.underlying24 ctGraph hval rfl rfl) t2
  exact ⟨L, S, es, v2, rfl, hr, hok, w0, w1⟩
set_option maxRecDepth 100000 in
/-- An integer of any size handed in. -/
theorem open_num {W : World} {base : Nat} {v : Value} {d : DataW H} {p : List MemPlace} (hval : Value.okWide Tryz.prog W .any base 33 v) (h : DataW.Trod enc Tryz.prog W 0 (fun _ => true) true 33 v d p) :
    ∃ (ng : Bool) (s : ByteArray), v = .agg #[.bool ng, .string s] ∧ s.size ≤ maxLen := by
  obtain ⟨v0, v1, y0, y1, n, rfl, -, -, t0, t1⟩ := open_agg2 Tryz.underlying33 (by kernel_rfl) cellsInt2 hval h
  obtain ⟨ng, e0, -⟩ := DataW.trod_bool Tryz.underlying4 t0
  obtain ⟨s, e1, -, hs⟩ := DataW.trod_string Tryz.underlying9 t1
  obtain rfl : v0 = .bool ng := by simpa using e0
  obtain rfl : v1 = .string s := by simpa using e1
  exact ⟨ng, s, rfl, hs⟩
end
end Go.Proofs.YtalipfnbpnkgnaaGreat

/- Arguments of the rows, opened: lists of numbers of one kind. -/
namespace Go.Proofs.YtalipfnbpnkgnaaGreat
open Go.RowKit Go.ChangeShapes Go.WideShapes Go.Deep Go.Joins

section
variable {H : Type} {enc : TypeId × Value → H}
set_option maxRecDepth 100000 in
/-- What a slice of integers of one kind holds. -/
theorem open_kinds {k : IntKind} {t e : TypeId} (ht : Tryz.prog.underlying t = some (.slice e)) (he : Tryz.prog.underlying e = some (.int k)) (hce : Tryz.prog.cellsOf e = 1) {W : World} {base n : Nat} {sv : Value} {x : DataW H × List MemPlace} (hc : Cell.okWide Tryz.prog W .any base t sv) (h : DataW.trod enc Tryz.prog W 0 (fun _ => true) true n t [sv] = some x) :
    ∃ l : List Int, Row W sv l.length (l.map fun z => .int k z) ∧ ∀ z ∈ l, (Lit.int k z).wf = true := by
  rcases open_slice1 ht hce h with ⟨hs, -⟩ | ⟨a, len, cap, m, n', V, D, Pl, hs, -, hl, hm, hmm, -, hx⟩
  · obtain rfl : sv = .slice none 0 0 := by simpa using hs
    exact ⟨[], .inl ⟨rfl, rfl, rfl⟩, fun e he => by cases he⟩
  · obtain rfl : sv = .slice (some a) len cap := by simpa using hs
    simp only [if_true] at hmm
    subst hmm
    obtain ⟨hsp, hlt⟩ := cell_ok_slice ht hc
    have key : ∀ i, i < m → ∃ z : Int, (Lit.int k z).wf = true ∧ W.cell? (a.add i) = some (.int k z) := by
      intro i hi
      obtain ⟨h1, h2⟩ := hx i hi
      obtain ⟨z, e0, -, w0⟩ := DataW.trod_int he h2
      obtain h3 : V i = .int k z := by simpa [hce] using e0
      exact ⟨z, w0, by rw [h1, h3]⟩
    obtain ⟨E, hE⟩ := choose_lt key
    refine ⟨(List.range len).map E, .inr ⟨a.block, a.off, m, ?_, ?_, hm, hlt, fun j u hj => ?_⟩, fun z hz => ?_⟩
    · rw [List.length_map, List.length_range]
      rcases a with ⟨b, o, sp⟩
      obtain rfl : sp = none := hsp
      rfl
    · rw [List.length_map, List.length_range]; exact hl
    · have hjl := (List.getElem?_eq_some_iff.1 hj).1
      simp only [List.length_map, List.length_range] at hjl
      have h1 := (hE j (by omega)).2
      have h2 : u = .int k (E j) := by
        have := hj
        simp [hjl] at this
        exact this.symm
      rw [h2, ← h1]
      rcases a with ⟨b, o, sp⟩
      obtain rfl : sp = none := hsp
      have e : (Addr.mk b o none).add j = ⟨b, o + j, none⟩ := by unfold Addr.add; split <;> simp_all
      rw [← e]
    · obtain ⟨i, hi, rfl⟩ := List.mem_map.1 hz
      exact (hE i (by have := List.mem_range.1 hi; omega)).1
end
end Go.Proofs.YtalipfnbpnkgnaaGreat

/- slices.ContainsFunc at a row of any numbers, with Stream's test; the reference's test of them. -/
namespace Go.Proofs.YtalipfnbpnkgnaaGreat
open Go.RowKit

/-- The cells of numbers, canonical or not. -/
def cnv (l : List (Bool × ByteArray)) : List Value := l.flatMap fun x => [.bool x.1, .string x.2]
theorem cnv_get {l : List (Bool × ByteArray)} {k : Nat} {x : Bool × ByteArray} (h : l[k]? = some x) : (cnv l)[k * 2]? = some (.bool x.1) ∧ (cnv l)[k * 2 + 1]? = some (.string x.2) := by
  induction l generalizing k with
  | nil => cases h
  | cons y l ih =>
    have e : cnv (y :: l) = [.bool y.1, .string y.2] ++ cnv l := rfl
    cases k with
    | zero =>
      obtain rfl : y = x := by simpa using h
      rw [e]
      exact ⟨rfl, rfl⟩
    | succ k =>
      have h2 := ih (k := k) (by simpa using h)
      rw [e, show (k + 1) * 2 = k * 2 + 1 + 1 by omega]
      simpa using h2
theorem civ_cnv (l : List Int) : civ l = cnv (l.map fun z => (ineg z, imag z)) := by
  induction l with
  | nil => rfl
  | cons z l ih => rw [civ_cons, ih]; rfl
theorem num_cells {w w' : World} {B b off : Nat} {l : List (Bool × ByteArray)} {k : Nat} {x : Bool × ByteArray} (hce : ∀ (j : Nat) (u : Value), (cnv l)[j]? = some u → w.cell? ⟨b, off + j, none⟩ = some u) (hb : Below B w w') (hlt : b < B) (h : l[k]? = some x) :
    w'.cell? ⟨b, off + k * 2, none⟩ = some (.bool x.1) ∧ w'.cell? ⟨b, off + k * 2 + 1, none⟩ = some (.string x.2) :=
  ⟨(hb.cell (p := ⟨b, off + k * 2, none⟩) hlt).trans (hce (k * 2) _ (cnv_get h).1), (hb.cell (p := ⟨b, off + k * 2 + 1, none⟩) hlt).trans (hce (k * 2 + 1) _ (cnv_get h).2)⟩
/-- Whether there is one that is not canonical. -/
def oddB (l : List (Bool × ByteArray)) : Bool := l.any fun x => !cnB x.1 x.2
set_option maxRecDepth 100000 in
set_option maxHeartbeats 3200000 in
theorem stream1g_any (ng : Bool) (sg : ByteArray) (w : World) (hs : sg.size ≤ 1099511627775) :
    Calls Tryz.prog 40 #[.agg #[.bool ng, .string sg]] w (Ret w (.bool (!cnB ng sg))) := by
  have hic := fun w' => icheck_any ng sg w' hs
  obtain ⟨t, ht⟩ : ∃ t, cnB ng sg = t := ⟨_, rfl⟩
  rw [ht] at hic ⊢
  have s0 := (Below.refl w.heap.size w).alloc (Nat.le_refl _) (.cells #[.bool ng, .string sg] 33)
  have S0 := Lib.hid s0; clear s0
  have HIC := Lib.hid hic; clear hic
  cases t with
  | true =>
    go_enter Tryz.func40, Tryz.ntmps40
    go_wp2_with fail
    go_at_call 41
    refine (HIC.out _).mono ?_
    rintro e w1 ⟨hq, rfl⟩
    have s1 := S0.out.trans (hq.mono S0.out.size)
    have S1 := Lib.hid s1; clear s1
    clear hq
    simp only [chkZ]
    go_wp2_with fail
    go_ret
    exact ⟨S1.out, rfl⟩
  | false =>
    go_enter Tryz.func40, Tryz.ntmps40
    go_wp2_with fail
    go_at_call 41
    refine (HIC.out _).mono ?_
    rintro e w1 ⟨hq, rfl⟩
    have s1 := S0.out.trans (hq.mono S0.out.size)
    have S1 := Lib.hid s1; clear s1
    clear hq
    simp only [chkZ]
    go_wp2_with fail
    go_ret
    exact ⟨S1.out, rfl⟩
def IdxRet (b : Bool) (w : World) (e : Ending) (w' : World) : Prop := Below w.heap.size w w' ∧ ∃ z : Int, e = .returned (.int .i64 z) ∧ decide (0 ≤ z) = b
set_option maxRecDepth 100000 in
set_option maxHeartbeats 3200000 in
theorem idxG_any (l : List (Bool × ByteArray)) (v : Value) (w : World) (hr : Row w v l.length (cnv l)) (hs : ∀ x ∈ l, x.2.size ≤ 1099511627775) :
    Calls Tryz.prog 27 #[v, .func (.func 40) #[] #[]] w (IdxRet (oddB l) w) := by
  obtain ⟨va, vc, rfl, hle⟩ := hr.slice
  obtain ⟨m, hm⟩ : ∃ m, m = l.length := ⟨_, rfl⟩
  have hent : ∀ args w, (callFunc 40 args).run Tryz.prog w = .ok (.enter 40 args) w := fun args w => enters_of Tryz.func40 (by kernel_rfl) rfl args w
  obtain ⟨R, hR⟩ : ∃ R, R = oddB l := ⟨_, rfl⟩
  have hRR : R = oddB (l.drop 0) := hR
  rw [← hR]
  rw [← hm] at hr hle ⊢
  have HR := Lib.hid hr; clear hr
  have HM := Lib.hid hm; clear hm
  have HS := Lib.hid hs; clear hs
  have HRR := Lib.hid hRR; clear hRR
  clear hR
  go_enter Tryz.func27, Tryz.ntmps27
  go_wp2_with fail
  go_loopw [8] (fun i wr => ∃ j : Nat, j ≤ m ∧ i = .int .i64 j ∧ Below w.heap.size w wr ∧ R = oddB (l.drop j)) (fun i _ => m - (intOf i).toNat)
  case atStart => exact ⟨0, Nat.zero_le _, rfl, Below.refl _ _, HRR.out⟩
  case round =>
    obtain ⟨j, hj, rfl, hbel, hno⟩ := hrel
    by_cases hlt : j < m
    · have hjl : j < l.length := by rw [← HM.out]; exact hlt
      have hget : l[j]? = some (l[j]'hjl) := List.getElem?_eq_getElem _
      have hsj := HS.out _ (List.getElem_mem hjl)
      rw [List.drop_eq_getElem_cons hjl] at hno
      obtain ⟨y, hy⟩ : ∃ y, y = l[j]'hjl := ⟨_, rfl⟩
      rw [← hy] at hget hsj hno
      obtain ⟨ng, sg⟩ := y
      obtain ⟨b, off, rfl, hbw, hce⟩ := HR.out.at_ (by omega)
      have c01 := num_cells hce hbel hbw hget
      obtain ⟨c0, c1⟩ := c01
      have his := stream1g_any ng sg wr hsj
      obtain ⟨t, ht⟩ : ∃ t, cnB ng sg = t := ⟨_, rfl⟩
      have hstep : oddB ((ng, sg) :: l.drop (j + 1)) = (!cnB ng sg || oddB (l.drop (j + 1))) := rfl
      rw [hstep, ht] at hno
      rw [ht] at his
      have HIS := Lib.hid his; clear his
      have HBEL := Lib.hid hbel; clear hbel
      clear hce hget hy hstep ht
      cases t with
      | true =>
        have hno2 : R = oddB (l.drop (j + 1)) := by rw [hno]; rfl
        have HNO := Lib.hid hno2; clear hno2
        clear hno
        go_wp2_with fail
        refine HIS.out.mono ?_
        rintro e w1 ⟨hq1, rfl⟩
        have s1 := HBEL.out.trans (hq1.mono HBEL.out.size)
        have S1 := Lib.hid s1; clear s1
        clear hq1
        go_wp2_with fail
        go_roundw
        case rel => exact ⟨j + 1, by omega, by go_num, S1.out, HNO.out⟩
        case measure => simp [intOf]; omega
      | false =>
        have hno2 : R = true := by rw [hno]; rfl
        have HNO := Lib.hid hno2; clear hno2
        clear hno
        go_wp2_with fail
        refine HIS.out.mono ?_
        rintro e w1 ⟨hq1, rfl⟩
        have s1 := HBEL.out.trans (hq1.mono HBEL.out.size)
        have S1 := Lib.hid s1; clear s1
        clear hq1
        go_wp2_with fail
        go_ret
        exact ⟨S1.out, _, rfl, by rw [HNO.out]; exact decide_eq_true (by omega)⟩
    · obtain rfl : j = m := by omega
      rw [List.drop_of_length_le (by rw [← HM.out]; exact Nat.le_refl _)] at hno
      have hno2 : R = false := hno
      have HNO := Lib.hid hno2; clear hno2
      have HBEL := Lib.hid hbel; clear hbel
      clear hno
      go_wp2_with fail
      go_ret
      exact ⟨HBEL.out, _, rfl, by rw [HNO.out]; rfl⟩
set_option maxRecDepth 100000 in
set_option maxHeartbeats 3200000 in
theorem cfG_any (l : List (Bool × ByteArray)) (v : Value) (w : World) (hr : Row w v l.length (cnv l)) (hs : ∀ x ∈ l, x.2.size ≤ 1099511627775) :
    Calls Tryz.prog 8 #[v, .func (.func 40) #[] #[]] w (Ret w (.bool (oddB l))) := by
  have hi := idxG_any l v w hr hs
  obtain ⟨R, hR⟩ : ∃ R, R = oddB l := ⟨_, rfl⟩
  rw [← hR] at hi ⊢
  have HI := Lib.hid hi; clear hi
  clear hR
  go_enter Tryz.func8, Tryz.ntmps8
  go_wp2_with fail
  go_at_call 27
  refine HI.out.mono ?_
  rintro e w1 ⟨hq, z, rfl, hz⟩
  have HQ := Lib.hid hq; clear hq
  go_wp2_with fail
  go_ret
  exact ⟨HQ.out, rfl⟩
end Go.Proofs.YtalipfnbpnkgnaaGreat

/- Arguments of the rows, opened: a place, a list of integers of any size. -/
namespace Go.Proofs.YtalipfnbpnkgnaaGreat
open Go.RowKit Go.ChangeShapes Go.WideShapes Go.Deep Go.Joins

section
variable {H : Type} {enc : TypeId × Value → H}
theorem ctPlace : Tryz.prog.cellTypes Tryz.prog.depth 27 = some [3, 3, 22, 25, 3, 3] := by kernel_rfl
theorem cellsPlace : Tryz.prog.cellsOf 27 = 6 := by kernel_rfl
theorem array6 {cs : Array Value} (h : cs.size = 6) : ∃ a b c d e f, cs = #[a, b, c, d, e, f] := by
  rcases cs with ⟨l⟩
  match l, h with
  | [a, b, c, d, e, f], _ => exact ⟨a, b, c, d, e, f, rfl⟩
set_option maxRecDepth 100000 in
/-- A place handed in. -/
theorem open_place {W : World} {base : Nat} {v : Value} {d : DataW H} {p : List MemPlace} (hval : Value.okWide Tryz.prog W .any base 27 v) (h : DataW.Trod enc Tryz.prog W 0 (fun _ => true) true 27 v d p) :
    ∃ (L S s n : Int) (es : List E3) (set : List Int) (sv sw : Value), v = .agg #[.int .i64 L, .int .i64 S, sv, sw, .int .i64 s, .int .i64 n] ∧ Row W sv es.length (ce es) ∧ okEs es ∧ Row W sw set.length (ci set) := by
  obtain ⟨cs, rfl, hsz⟩ := okWide_struct Tryz.underlying27 hval
  obtain ⟨c0, c1, c2, c3, c4, c5, rfl⟩ := array6 (hsz.trans cellsPlace)
  obtain ⟨fuel, hf⟩ := h
  obtain ⟨y0, y1, y2, y3, n, -, -, h0, h1, h2, h3⟩ := trod_struct4 Tryz.underlying27 hf
  simp only [cellsGraph, cellsI, show Tryz.prog.cellsOf 25 = 1 from by kernel_rfl, Value.cells, List.drop_zero, List.drop_succ_cons, List.take_succ_cons, List.take_zero] at h0 h1 h2 h3
  obtain ⟨z0, z1, z2, m, -, -, t0, t1, t2⟩ := trod_struct3 Tryz.underlying24 h0
  obtain ⟨L, e0, -, w0⟩ := DataW.trod_int Tryz.underlying3 t0
  obtain ⟨S, e1, -, w1⟩ := DataW.trod_int Tryz.underlying3 t1
  obtain ⟨s, e2, -, w2⟩ := DataW.trod_int Tryz.underlying3 h2
  obtain ⟨q, e3, -, w3⟩ := DataW.trod_int Tryz.underlying3 h3
  obtain rfl : c0 = .int .i64 L := by simpa [cellsI] using e0
  obtain rfl : c1 = .int .i64 S := by simpa [cellsI] using e1
  obtain rfl : c4 = .int .i64 s := by simpa using e2
  obtain rfl : c5 = .int .i64 q := by simpa using e3
  have t2' : DataW.trod enc Tryz.prog W 0 (fun _ => true) true m 22 [c2] = some z2 := t2
  obtain ⟨es, hr, hok⟩ := open_edges (okWide_cell (i := 2) Tryz.underlying27 ctPlace hval rfl rfl) t2'
  obtain ⟨set, hrs, -⟩ := open_kinds (k := .i64) Tryz.underlying25 Tryz.underlying3 cellsI (okWide_cell (i := 3) Tryz.underlying27 ctPlace hval rfl rfl) h1
  exact ⟨L, S, s, q, es, set, c2, c3, rfl, hr, hok, hrs⟩
set_option maxRecDepth 100000 in
/-- A list of integers handed in. -/
theorem open_nums {W : World} {base : Nat} {v : Value} {d : DataW H} {p : List MemPlace} (hval : Value.okWide Tryz.prog W .any base 28 v) (h : DataW.Trod enc Tryz.prog W 0 (fun _ => true) true 28 v d p) :
    ∃ l : List (Bool × ByteArray), Row W v l.length (cnv l) := by
  have hc : Cell.okWide Tryz.prog W .any base 28 v := by
    unfold Value.okWide at hval
    rw [Tryz.underlying28] at hval
    exact hval
  obtain ⟨n, h1⟩ := h
  obtain ⟨a0, b0, c0, rfl⟩ : ∃ a b c, v = .slice a b c := by
    unfold Cell.okWide Cell.ok at hc
    rw [Tryz.underlying28] at hc
    cases v <;> simp at hc <;> exact ⟨_, _, _, rfl⟩
  have h1' : DataW.trod enc Tryz.prog W 0 (fun _ => true) true n 28 [.slice a0 b0 c0] = some (d, p) := h1
  rcases open_slice Tryz.underlying28 h1' with ⟨hs, -⟩ | ⟨a, len, cap, m, n', D, Pl, hs, -, hl, hm, hmm, -, hx⟩
  · obtain ⟨rfl, rfl, rfl⟩ : a0 = none ∧ b0 = 0 ∧ c0 = 0 := by simpa using hs
    exact ⟨[], .inl ⟨rfl, rfl, rfl⟩⟩
  · obtain ⟨rfl, rfl, rfl⟩ : a0 = some a ∧ b0 = len ∧ c0 = cap := by simpa using hs
    simp only [if_true] at hmm
    subst hmm
    obtain ⟨hsp, hlt⟩ := cell_ok_slice Tryz.underlying28 hc
    have key : ∀ i, i < m → ∃ x : Bool × ByteArray, W.cell? (a.add (i * 2)) = some (.bool x.1) ∧ W.cell? (a.add (i * 2 + 1)) = some (.string x.2) := by
      intro i hi
      obtain ⟨cs', h3, h2⟩ := hx i hi
      rw [cellsInt2] at h3
      obtain ⟨-, hlen, hget⟩ := World.cells?_some h3
      obtain ⟨y0, y1, k, -, -, t0, t1⟩ := trod_struct2 Tryz.underlying33 h2
      match cs', hlen with
      | [u0, u1], _ =>
        obtain ⟨ng, e0, -⟩ := DataW.trod_bool Tryz.underlying4 t0
        obtain ⟨sg, e1, -, hs⟩ := DataW.trod_string Tryz.underlying9 t1
        have q0 : u0 = .bool ng := by simpa [show Tryz.prog.cellsOf 4 = 1 from by kernel_rfl] using e0
        have q1 : u1 = .string sg := by simpa [show Tryz.prog.cellsOf 9 = 1 from by kernel_rfl] using e1
        subst q0 q1
        refine ⟨(ng, sg), ?_, ?_⟩
        · have := hget 0 (by simp)
          rw [add_add] at this
          simpa using this
        · have := hget 1 (by simp)
          rw [add_add] at this
          simpa using this
    obtain ⟨E, hE⟩ := choose_lt key
    refine ⟨(List.range b0).map E, .inr ⟨a.block, a.off, m, ?_, ?_, ?_, hlt, fun j u hj => ?_⟩⟩
    · rw [List.length_map, List.length_range]
      rcases a with ⟨b, o, sp⟩
      obtain rfl : sp = none := hsp
      rfl
    · rw [List.length_map, List.length_range]; exact hl
    · exact hm
    · have hlc : (cnv ((List.range b0).map E)).length = b0 * 2 := by
        have : ∀ l : List (Bool × ByteArray), (cnv l).length = l.length * 2 := fun l => by
          induction l with
          | nil => rfl
          | cons y l ih =>
            have e : cnv (y :: l) = [.bool y.1, .string y.2] ++ cnv l := rfl
            rw [e, List.length_append, ih, List.length_cons]
            simp; omega
        rw [this, List.length_map, List.length_range]
      have hjl := (List.getElem?_eq_some_iff.1 hj).1
      rw [hlc] at hjl
      have hi : j / 2 < b0 := by omega
      have h5 := hE (j / 2) (by omega)
      have hg : ((List.range b0).map E)[j / 2]? = some (E (j / 2)) := by simp [hi]
      have h6 := cnv_get hg
      rcases a with ⟨b, o, sp⟩
      obtain rfl : sp = none := hsp
      have e : ∀ k, (Addr.mk b o none).add k = ⟨b, o + k, none⟩ := fun k => by unfold Addr.add; split <;> simp_all
      rw [e, e] at h5
      rcases Nat.mod_two_eq_zero_or_one j with h0 | h0
      · have hj2 : j / 2 * 2 = j := by omega
        rw [hj2] at h5 h6
        have h7 := h6.1
        rw [hj] at h7
        obtain rfl := Option.some.inj h7
        exact h5.1
      · have hj2 : j / 2 * 2 + 1 = j := by omega
        rw [hj2] at h5 h6
        have h7 := h6.2
        rw [hj] at h7
        obtain rfl := Option.some.inj h7
        exact h5.2
end
end Go.Proofs.YtalipfnbpnkgnaaGreat

