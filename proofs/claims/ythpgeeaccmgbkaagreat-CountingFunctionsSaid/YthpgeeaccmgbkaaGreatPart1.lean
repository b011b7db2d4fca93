/- Contracts and plain laws of several functions, one after the other: RowG, RowK, NumC, RowN, GreatL. -/
import Derived.Lib.SmallJoins
import Derived.Deep.Slices
import Derived.Deep.Strs
import Derived.Carry
import Derived.Test.YthpgeeaccmgbkaaGreatCheck
import Derived.Test.YthpgeeaccmgbkaaGreatPart12
import Derived.Test.YthpgeeaccmgbkaaGreatPart14
/- Arguments of the rows, opened: a graph, an integer. -/
namespace Go.Proofs.YthpgeeaccmgbkaaGreat
open Go.RowKit Go.ChangeShapes Go.WideShapes Go.Deep Go.Joins

theorem wf_i64' {a : Int} (h : (Lit.int .i64 a).wf = true) : -9223372036854775808 ≤ a ∧ a ≤ 9223372036854775807 := by
 rw [Lit.wf, Bool.and_eq_true, decide_eq_true_eq, decide_eq_true_eq] at h
 exact h
theorem cellsGraph : Tryz.prog.cellsOf 24 = 3 := by kernel_rfl
theorem cellsEdge : Tryz.prog.cellsOf 53 = 3 := by kernel_rfl
theorem cellsI : Tryz.prog.cellsOf 3 = 1 := by kernel_rfl
theorem cellsInt2 : Tryz.prog.cellsOf 28 = 2 := by kernel_rfl
theorem ctGraph : Tryz.prog.cellTypes Tryz.prog.depth 24 = some [3, 3, 22] := by kernel_rfl
theorem cell_ok_slice {P : Program} {w : World} {r : Reach} {base : Nat} {t e : TypeId} {a : Addr} {len cap : Nat} (ht : P.underlying t = some (.slice e)) (h : Cell.okWide P w r base t (.slice (some a) len cap)) : a.spot = none ∧ a.block < w.heap.size := by
 unfold Cell.okWide Cell.ok at h
 rw [ht] at h
 obtain ⟨-, -, -, hsp, row, cells, hsh, -⟩ := h
 refine ⟨hsp, ?_⟩
 rcases Nat.lt_or_ge a.block w.heap.size with h' | h'
 ·
  exact h'
 ·
  simp [World.shape?, Array.getElem?_eq_none h'] at hsh
theorem okWide_cell {P : Program} {w : World} {r : Reach} {base : Nat} {t u : TypeId} {fs : Array Field} {cs : Array Value} {ts : List TypeId} {i : Nat} {v : Value} (ht : P.underlying t = some (.struct fs)) (hct : P.cellTypes P.depth t = some ts) (h : Value.okWide P w r base t (.agg cs)) (hi : cs[i]? = some v) (hu : ts[i]? = some u) : Cell.okWide P w r base u v := by
 unfold Value.okWide at h
 rw [ht] at h
 obtain ⟨cs', e, -, ts', hts, -, hall⟩ := h
 obtain rfl : cs = cs' := by cases e; rfl
 rw [hct] at hts
 obtain rfl := Option.some.inj hts
 obtain ⟨u', hu', hc⟩ := hall i v hi
 have hil : i < ts.length := (List.getElem?_eq_some_iff.1 hu).1
 rw [Nat.mod_eq_of_lt hil, hu] at hu'
 obtain rfl := Option.some.inj hu'
 exact hc
section
variable {H : Type} {enc : TypeId × Value → H}
set_option maxRecDepth 100000 in
/-- What a slice of edges holds. -/
theorem open_edges {W : World} {base n : Nat} {sv : Value} {x : DataW H × List MemPlace} (hc : Cell.okWide Tryz.prog W .any base 22 sv) (h : DataW.trod enc Tryz.prog W 0 (fun _ => true) true n 22 [sv] = some x) :
  ∃ es : List E3, Row W sv es.length (ce es) ∧ okEs es := by
 rcases open_slice Tryz.underlying22 h with ⟨hs, -⟩ | ⟨a, len, cap, m, n', D, Pl, hs, -, hl, hm, hmm, -, hx⟩
 ·
  obtain rfl : sv = .slice none 0 0 := by simpa using hs
  exact ⟨[], .inl ⟨rfl, rfl, rfl⟩, fun e he => by cases he⟩
 ·
  obtain rfl : sv = .slice (some a) len cap := by simpa using hs
  simp only [if_true] at hmm
  subst hmm
  obtain ⟨hsp, hlt⟩ := cell_ok_slice Tryz.underlying22 hc
  have key : ∀ i, i < m → ∃ e : E3, e.ok ∧ ∀ j u, e.cells[j]? = some u → W.cell? (a.add (i * 3 + j)) = some u := by
   intro i hi
   obtain ⟨cs', h1, h2⟩ := hx i hi
   rw [cellsEdge] at h1
   obtain ⟨-, hlen, hget⟩ := World.cells?_some h1
   obtain ⟨y0, y1, y2, k, -, -, t0, t1, t2⟩ := trod_struct3 Tryz.underlying53 h2
   match cs', hlen with
   | [c0, c1, c2], _ =>
    obtain ⟨f, e0, -, w0⟩ := DataW.trod_int Tryz.underlying3 t0
    obtain ⟨l, e1, -, w1⟩ := DataW.trod_int Tryz.underlying3 t1
    obtain ⟨t, e2, -, w2⟩ := DataW.trod_int Tryz.underlying3 t2
    have q0 : c0 = .int .i64 f := by simpa [cellsI] using e0
    have q1 : c1 = .int .i64 l := by simpa [cellsI] using e1
    have q2 : c2 = .int .i64 t := by simpa [cellsI] using e2
    subst q0 q1 q2
    refine ⟨⟨f, l, t⟩, ?_, fun j u hj => ?_⟩
    ·
     intro z hz
     simp only [List.mem_cons, List.not_mem_nil, or_false] at hz
     rcases hz with rfl | rfl | rfl
     ·
      exact wf_i64' w0
     ·
      exact wf_i64' w1
     ·
      exact wf_i64' w2
    ·
     have hj3 : j < 3 := by
      have := (List.getElem?_eq_some_iff.1 hj).1
      simpa [E3.cells] using this
     rw [← add_add, hget j hj3]
     exact hj
  obtain ⟨E, hE⟩ := choose_lt key
  refine ⟨(List.range len).map E, .inr ⟨a.block, a.off, m, ?_, ?_, ?_, hlt, fun j u hj => ?_⟩, fun e he => ?_⟩
  ·
   rw [List.length_map, List.length_range]
   rcases a with ⟨b, o, sp⟩
   obtain rfl : sp = none := hsp
   rfl
  ·
   rw [List.length_map, List.length_range]; exact hl
  ·
   exact hm
  ·
   have hjl := (List.getElem?_eq_some_iff.1 hj).1
   rw [ce_length, List.length_map, List.length_range] at hjl
   have hi : j / 3 < len := by omega
   have h1 := (hE (j / 3) (by omega)).2 (j % 3)
   have hg : ((List.range len).map E)[j / 3]? = some (E (j / 3)) := by simp [hi]
   obtain ⟨c, hc'⟩ : ∃ c, (E (j / 3)).cells[j % 3]? = some c := ⟨(E (j / 3)).cells[j % 3]'(by simp [E3.cells]; omega), List.getElem?_eq_getElem _⟩
   have h2 := ce_get hg hc'
   rw [show j / 3 * 3 + j % 3 = j by omega, hj] at h2
   obtain rfl := Option.some.inj h2
   have h3 := h1 _ hc'
   rw [show j / 3 * 3 + j % 3 = j by omega] at h3
   rcases a with ⟨b, o, sp⟩
   obtain rfl : sp = none := hsp
   have e : (Addr.mk b o none).add j = ⟨b, o + j, none⟩ := by unfold Addr.add; split <;> simp_all
   rw [← e]; exact h3
  ·
   obtain ⟨i, hi, rfl⟩ := List.mem_map.1 he
   exact (hE i (by have := List.mem_range.1 hi; omega)).1
set_option maxRecDepth 100000 in
/-- A graph handed in. -/
theorem open_graph {W : World} {base : Nat} {v : Value} {d : DataW H} {p : List MemPlace} (hval : Value.okWide Tryz.prog W .any base 24 v) (h : DataW.Trod enc Tryz.prog W 0 (fun _ => true) true 24 v d p) :
  ∃ (L S : Int) (es : List E3) (sv : Value), v = .agg #[.int .i64 L, .int .i64 S, sv] ∧ Row W sv es.length (ce es) ∧ okEs es ∧ (Lit.int .i64 L).wf = true ∧ (Lit.int .i64 S).wf = true := by
 obtain ⟨v0, v1, v2, y0, y1, y2, n, rfl, -, -, t0, t1, t2⟩ := open_agg3 Tryz.underlying24 (by kernel_rfl) cellsGraph hval h
 obtain ⟨L, e0, -, w0⟩ := DataW.trod_int Tryz.underlying3 t0
 obtain ⟨S, e1, -, w1⟩ := DataW.trod_int Tryz.underlying3 t1
 obtain rfl : v0 = .int .i64 L := by simpa using e0
 obtain rfl : v1 = .int .i64 S := by simpa using e1
 obtain ⟨es, hr, hok⟩ := open_edges (okWide_cell (i := 2) Tryz.underlying24 ctGraph hval rfl rfl) t2
 exact ⟨L, S, es, v2, rfl, hr, hok, w0, w1⟩
end
end Go.Proofs.YthpgeeaccmgbkaaGreat

/- Arguments of the rows, opened: lists of numbers of one kind. -/
namespace Go.Proofs.YthpgeeaccmgbkaaGreat
open Go.RowKit Go.ChangeShapes Go.WideShapes Go.Deep Go.Joins

section
variable {H : Type} {enc : TypeId × Value → H}
end
end Go.Proofs.YthpgeeaccmgbkaaGreat

/- The cells of numbers, canonical or not. -/
namespace Go.Proofs.YthpgeeaccmgbkaaGreat
open Go.RowKit

/-- The cells of numbers, canonical or not. -/
def cnv (l : List (Bool × ByteArray)) : List Value := l.flatMap fun x => [.bool x.1, .string x.2]
theorem cnv_get {l : List (Bool × ByteArray)} {k : Nat} {x : Bool × ByteArray} (h : l[k]? = some x) : (cnv l)[k * 2]? = some (.bool x.1) ∧ (cnv l)[k * 2 + 1]? = some (.string x.2) := by
 induction l generalizing k with
 | nil => cases h
 | cons y l ih =>
  have e : cnv (y :: l) = [.bool y.1, .string y.2] ++ cnv l := rfl
  cases k with
  | zero =>
   obtain rfl : y = x := by simpa using h
   rw [e]
   exact ⟨rfl, rfl⟩
  | succ k =>
   have h2 := ih (k := k) (by simpa using h)
   rw [e, show (k + 1) * 2 = k * 2 + 1 + 1 by omega]
   simpa using h2
theorem civ_cnv (l : List Int) : civ l = cnv (l.map fun z => (ineg z, imag z)) := by
 induction l with
 | nil => rfl
 | cons z l ih => rw [civ_cons, ih]; rfl
theorem num_cells {w w' : World} {B b off : Nat} {l : List (Bool × ByteArray)} {k : Nat} {x : Bool × ByteArray} (hce : ∀ (j : Nat) (u : Value), (cnv l)[j]? = some u → w.cell? ⟨b, off + j, none⟩ = some u) (hb : Below B w w') (hlt : b < B) (h : l[k]? = some x) :
  w'.cell? ⟨b, off + k * 2, none⟩ = some (.bool x.1) ∧ w'.cell? ⟨b, off + k * 2 + 1, none⟩ = some (.string x.2) :=
 ⟨(hb.cell (p := ⟨b, off + k * 2, none⟩) hlt).trans (hce (k * 2) _ (cnv_get h).1), (hb.cell (p := ⟨b, off + k * 2 + 1, none⟩) hlt).trans (hce (k * 2 + 1) _ (cnv_get h).2)⟩
/-- Whether there is one that is not canonical. -/
def oddB (l : List (Bool × ByteArray)) : Bool := l.any fun x => !cnB x.1 x.2
end Go.Proofs.YthpgeeaccmgbkaaGreat

/- Arguments of the rows, opened: a list of integers of any size. -/
namespace Go.Proofs.YthpgeeaccmgbkaaGreat
open Go.RowKit Go.ChangeShapes Go.WideShapes Go.Deep Go.Joins

section
variable {H : Type} {enc : TypeId × Value → H}
set_option maxRecDepth 100000 in
/-- A list of integers handed in. -/
theorem open_nums {W : World} {base : Nat} {v : Value} {d : DataW H} {p : List MemPlace} (hval : Value.okWide Tryz.prog W .any base 32 v) (h : DataW.Trod enc Tryz.prog W 0 (fun _ => true) true 32 v d p) :
  ∃ l : List (Bool × ByteArray), Row W v l.length (cnv l) := by
 have hc : Cell.okWide Tryz.prog W .any base 32 v := by
  unfold Value.okWide at hval
  rw [Tryz.underlying32] at hval
  exact hval
 obtain ⟨n, h1⟩ := h
 obtain ⟨a0, b0, c0, rfl⟩ : ∃ a b c, v = .slice a b c := by
  unfold Cell.okWide Cell.ok at hc
  rw [Tryz.underlying32] at hc
  cases v <;> simp at hc <;> exact ⟨_, _, _, rfl⟩
 have h1' : DataW.trod enc Tryz.prog W 0 (fun _ => true) true n 32 [.slice a0 b0 c0] = some (d, p) := h1
 rcases open_slice Tryz.underlying32 h1' with ⟨hs, -⟩ | ⟨a, len, cap, m, n', D, Pl, hs, -, hl, hm, hmm, -, hx⟩
 ·
  obtain ⟨rfl, rfl, rfl⟩ : a0 = none ∧ b0 = 0 ∧ c0 = 0 := by simpa using hs
  exact ⟨[], .inl ⟨rfl, rfl, rfl⟩⟩
 ·
  obtain ⟨rfl, rfl, rfl⟩ : a0 = some a ∧ b0 = len ∧ c0 = cap := by simpa using hs
  simp only [if_true] at hmm
  subst hmm
  obtain ⟨hsp, hlt⟩ := cell_ok_slice Tryz.underlying32 hc
  have key : ∀ i, i < m → ∃ x : Bool × ByteArray, W.cell? (a.add (i * 2)) = some (.bool x.1) ∧ W.cell? (a.add (i * 2 + 1)) = some (.string x.2) := by
   intro i hi
   obtain ⟨cs', h3, h2⟩ := hx i hi
   rw [cellsInt2] at h3
   obtain ⟨-, hlen, hget⟩ := World.cells?_some h3
   obtain ⟨y0, y1, k, -, -, t0, t1⟩ := trod_struct2 Tryz.underlying28 h2
   match cs', hlen with
   | [u0, u1], _ =>
    obtain ⟨ng, e0, -⟩ := DataW.trod_bool Tryz.underlying4 t0
    obtain ⟨sg, e1, -, hs⟩ := DataW.trod_string Tryz.underlying9 t1
    have q0 : u0 = .bool ng := by simpa [show Tryz.prog.cellsOf 4 = 1 from by kernel_rfl] using e0
    have q1 : u1 = .string sg := by simpa [show Tryz.prog.cellsOf 9 = 1 from by kernel_rfl] using e1
    subst q0 q1
    refine ⟨(ng, sg), ?_, ?_⟩
    ·
     have := hget 0 (by simp)
     rw [add_add] at this
     simpa using this
    ·
     have := hget 1 (by simp)
     rw [add_add] at this
     simpa using this
  obtain ⟨E, hE⟩ := choose_lt key
  refine ⟨(List.range b0).map E, .inr ⟨a.block, a.off, m, ?_, ?_, ?_, hlt, fun j u hj => ?_⟩⟩
  ·
   rw [List.length_map, List.length_range]
   rcases a with ⟨b, o, sp⟩
   obtain rfl : sp = none := hsp
   rfl
  ·
   rw [List.length_map, List.length_range]; exact hl
  ·
   exact hm
  ·
   have hlc : (cnv ((List.range b0).map E)).length = b0 * 2 := by
    have : ∀ l : List (Bool × ByteArray), (cnv l).length = l.length * 2 := fun l => by
     induction l with
     | nil => rfl
     | cons y l ih =>
      have e : cnv (y :: l) = [.bool y.1, .string y.2] ++ cnv l := rfl
      rw [e, List.length_append, ih, List.length_cons]
      simp; omega
    rw [this, List.length_map, List.length_range]
   have hjl := (List.getElem?_eq_some_iff.1 hj).1
   rw [hlc] at hjl
   have hi : j / 2 < b0 := by omega
   have h5 := hE (j / 2) (by omega)
   have hg : ((List.range b0).map E)[j / 2]? = some (E (j / 2)) := by simp [hi]
   have h6 := cnv_get hg
   rcases a with ⟨b, o, sp⟩
   obtain rfl : sp = none := hsp
   have e : ∀ k, (Addr.mk b o none).add k = ⟨b, o + k, none⟩ := fun k => by unfold Addr.add; split <;> simp_all
   rw [e, e] at h5
   rcases Nat.mod_two_eq_zero_or_one j with h0 | h0
   ·
    have hj2 : j / 2 * 2 = j := by omega
    rw [hj2] at h5 h6
    have h7 := h6.1
    rw [hj] at h7
    obtain rfl := Option.some.inj h7
    exact h5.1
   ·
    have hj2 : j / 2 * 2 + 1 = j := by omega
    rw [hj2] at h5 h6
    have h7 := h6.2
    rw [hj] at h7
    obtain rfl := Option.some.inj h7
    exact h5.2
end
end Go.Proofs.YthpgeeaccmgbkaaGreat

/- grooveref22.GreatList. -/
namespace Go.Proofs.YthpgeeaccmgbkaaGreat
open Go.RowKit

def GLP (l : List (Bool × ByteArray)) : Prop := (∀ x ∈ l, x.2.size ≤ 6) ∧ (l.length ≤ 8 ∨ (65 < l.length ∧ l.length ≤ 68))
def GLRet (l : List (Bool × ByteArray)) (w : World) (e : Ending) (w' : World) : Prop := Below w.heap.size w w' ∧ ∃ b, e = .returned (.bool b) ∧ (b = false → GLP l)
set_option maxRecDepth 100000 in
set_option maxHeartbeats 3200000 in
theorem greatL_any (l : List (Bool × ByteArray)) (v : Value) (w : World) (hr : Row w v l.length (cnv l)) :
  Calls Tryz.prog 19 #[v] w (GLRet l w) := by
 obtain ⟨va, vc, rfl, hle⟩ := hr.slice
 obtain ⟨m, hm⟩ : ∃ m, m = l.length := ⟨_, rfl⟩
 have hget : ∀ j, j < m → ∃ x, l[j]? = some x := fun j hj => ⟨l[j]'(by omega), List.getElem?_eq_getElem _⟩
 have hfin : (∀ x ∈ l.take m, x.2.size ≤ 6) → (m ≤ 8 ∨ (65 < m ∧ m ≤ 68)) → GLP l := fun h1 h2 => by
  rw [hm, List.take_length] at h1
  rw [hm] at h2
  exact ⟨h1, h2⟩
 have hstep : ∀ j x, l[j]? = some x → (∀ y ∈ l.take j, y.2.size ≤ 6) → x.2.size ≤ 6 → ∀ y ∈ l.take (j + 1), y.2.size ≤ 6 := fun j x h1 h2 h3 y hy => by
  rw [List.take_add_one, h1] at hy
  rcases List.mem_append.1 hy with h | h
  ·
   exact h2 y h
  ·
   obtain rfl : y = x := by simpa using h
   exact h3
 rw [← hm] at hr hle ⊢
 have HR := Lib.hid hr; clear hr
 have HGET := Lib.hid hget; clear hget
 have HFIN := Lib.hid hfin; clear hfin
 have HSTEP := Lib.hid hstep; clear hstep
 clear hm
 go_enter Tryz.func19, Tryz.ntmps19
 go_wp2_with fail
 go_loopw [3] (fun i wr => ∃ j : Nat, j ≤ m ∧ i = .int .i64 j ∧ Below w.heap.size w wr ∧ ∀ y ∈ l.take j, y.2.size ≤ 6) (fun i _ => m - (intOf i).toNat)
 case atStart => exact ⟨0, Nat.zero_le _, rfl, Below.refl _ _, fun y hy => by simp at hy⟩
 case round =>
  obtain ⟨j, hj, rfl, hbel, hal⟩ := hrel
  by_cases hlt : j < m
  ·
   obtain ⟨x, hx⟩ := HGET.out j hlt
   obtain ⟨b, off, rfl, hbw, hce⟩ := HR.out.at_ (by omega)
   obtain ⟨c0, c1⟩ := num_cells hce hbel hbw hx
   have hnx := HSTEP.out j x hx hal
   obtain ⟨ng, s⟩ := x
   dsimp only at c0 c1 hnx
   have hix : (0 : Int) ≤ (j : Int) := by omega
   have hix2 : (j : Int) < (m : Int) := by omega
   have HNX := Lib.hid hnx; clear hnx
   have HBEL := Lib.hid hbel; clear hbel
   have HAL := Lib.hid hal; clear hal
   clear hce hx
   by_cases hs : 6 < s.size
   ·
    have t1 : decide (6 < (s.size : Int)) = true := by simp; omega
    go_wp2_with fail
    go_ret
    exact ⟨HBEL.out, _, rfl, fun h => by cases h⟩
   ·
    have t1 : decide (6 < (s.size : Int)) = false := by simp; omega
    have hnx := HNX.out (by omega)
    have HN2 := Lib.hid hnx; clear hnx
    go_wp2_with fail
    go_roundw
    case rel => exact ⟨j + 1, by omega, by go_num, HBEL.out, HN2.out⟩
    case measure => simp [intOf]; omega
  ·
   obtain rfl : j = m := by omega
   have hf := HFIN.out hal
   have HF := Lib.hid hf; clear hf
   have HBEL := Lib.hid hbel; clear hbel
   clear hal
   by_cases h8 : 8 < j
   ·
    by_cases h65 : j ≤ 65
    ·
     have t1 : decide (8 < (j : Int)) = true := by simp; omega
     have t2 : decide ((j : Int) ≤ 65) = true := by simp; omega
     go_wp2_with fail
     go_ret
     exact ⟨HBEL.out, _, rfl, fun h => by cases h⟩
    ·
     have t1 : decide (8 < (j : Int)) = true := by simp; omega
     have t2 : decide ((j : Int) ≤ 65) = false := by simp; omega
     by_cases h68 : 68 < j
     ·
      have t3 : decide (68 < (j : Int)) = true := by simp; omega
      go_wp2_with fail
      go_ret
      exact ⟨HBEL.out, _, rfl, fun h => by cases h⟩
     ·
      have t3 : decide (68 < (j : Int)) = false := by simp; omega
      go_wp2_with fail
      go_ret
      exact ⟨HBEL.out, _, rfl, fun _ => HF.out (.inr ⟨by omega, by omega⟩)⟩
   ·
    have t1 : decide (8 < (j : Int)) = false := by simp; omega
    have t3 : decide (68 < (j : Int)) = false := by simp; omega
    go_wp2_with fail
    go_ret
    exact ⟨HBEL.out, _, rfl, fun _ => HF.out (.inl (by omega))⟩
end Go.Proofs.YthpgeeaccmgbkaaGreat

