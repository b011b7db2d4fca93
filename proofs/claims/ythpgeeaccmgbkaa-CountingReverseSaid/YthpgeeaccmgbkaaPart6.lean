/- Contracts and plain laws of several functions, one after the other: RowG, Round, EqInt, RoundW. -/
import Derived.Lib.SmallJoins
import Derived.Deep.Slices
import Derived.Deep.Strs
import Derived.Carry
import Derived.OrdersIn
import Derived.Deep.RegionHeld3
import Derived.Laws.StructEq
import Derived.Test.YthpgeeaccmgbkaaCheck
import Derived.Test.YthpgeeaccmgbkaaIntB
/- Arguments of the rows, opened: a graph, an integer. -/
namespace Go.Proofs.Ythpgeeaccmgbkaa
open Go.RowKit Go.ChangeShapes Go.WideShapes Go.Deep Go.Joins

theorem wf_i64' {a : Int} (h : (Lit.int .i64 a).wf = true) : -9223372036854775808 ≤ a ∧ a ≤ 9223372036854775807 := by
  rw [Lit.wf, Bool.and_eq_true, decide_eq_true_eq, decide_eq_true_eq] at h
  exact h
theorem cellsGraph : Try.prog.cellsOf 24 = 3 := by kernel_rfl
theorem cellsEdge : Try.prog.cellsOf 48 = 3 := by kernel_rfl
theorem cellsI : Try.prog.cellsOf 3 = 1 := by kernel_rfl
theorem cellsInt2 : Try.prog.cellsOf 28 = 2 := by kernel_rfl
theorem ctGraph : Try.prog.cellTypes Try.prog.depth 24 = some [3, 3, 22] := by kernel_rfl
theorem cell_ok_slice {P : Program} {w : World} {r : Reach} {base : Nat} {t e : TypeId} {a : Addr} {len cap : Nat} (ht : P.underlying t = some (.slice e)) (h : Cell.okWide P w r base t (.slice (some a) len cap)) : a.spot = none ∧ a.block < w.heap.size := by
  unfold Cell.okWide Cell.ok at h
  rw [ht] at h
  obtain ⟨-, -, -, hsp, row, cells, hsh, -⟩ := h
  refine ⟨hsp, ?_⟩
  rcases Nat.lt_or_ge a.block w.heap.size with h' | h'
  · exact h'
  · simp [World.shape?, Array.getElem?_eq_none h'] at hsh
theorem okWide_cell {P : Program} {w : World} {r : Reach} {base : Nat} {t u : TypeId} {fs : Array Field} {cs : Array Value} {ts : List TypeId} {i : Nat} {v : Value} (ht : P.underlying t = some (.struct fs)) (hct : P.cellTypes P.depth t = some ts) (h : Value.okWide P w r base t (.agg cs)) (hi : cs[i]? = some v) (hu : ts[i]? = some u) : Cell.okWide P w r base u v := by
  unfold Value.okWide at h
  rw [ht] at h
  obtain ⟨cs', e, -, ts', hts, -, hall⟩ := h
  obtain rfl : cs = cs' := by cases e; rfl
  rw [hct] at hts
  obtain rfl := Option.some.inj hts
  obtain ⟨u', hu', hc⟩ := hall i v hi
  have hil : i < ts.length := (List.getElem?_eq_some_iff.1 hu).1
  rw [Nat.mod_eq_of_lt hil, hu] at hu'
  obtain rfl := Option.some.inj hu'
  exact hc
section
variable {H : Type} {enc : TypeId × Value → H}
set_option maxRecDepth 100000 in
/-- What a slice of edges holds. -/
theorem open_edges {W : World} {base n : Nat} {sv : Value} {x : DataW H × List MemPlace} (hc : Cell.okWide Try.prog W .any base 22 sv) (h : DataW.trod enc Try.prog W 0 (fun _ => true) true n 22 [sv] = some x) :
    ∃ es : List E3, Row W sv es.length (ce es) ∧ okEs es := by
  rcases open_slice Try.underlying22 h with ⟨hs, -⟩ | ⟨a, len, cap, m, n', D, Pl, hs, -, hl, hm, hmm, -, hx⟩
  · obtain rfl : sv = .slice none 0 0 := by simpa using hs
    exact ⟨[], .inl ⟨rfl, rfl, rfl⟩, fun e he => by cases he⟩
  · obtain rfl : sv = .slice (some a) len cap := by simpa using hs
    simp only [if_true] at hmm
    subst hmm
    obtain ⟨hsp, hlt⟩ := cell_ok_slice Try.underlying22 hc
    have key : ∀ i, i < m → ∃ e : E3, e.ok ∧ ∀ j u, e.cells[j]? = some u → W.cell? (a.add (i * 3 + j)) = some u := by
      intro i hi
      obtain ⟨cs', h1, h2⟩ := hx i hi
      rw [cellsEdge] at h1
      obtain ⟨-, hlen, hget⟩ := World.cells?_some h1
      obtain ⟨y0, y1, y2, k, -, -, t0, t1, t2⟩ := trod_struct3 Try.underlying48 h2
      match cs', hlen with
      | [c0, c1, c2], _ =>
        obtain ⟨f, e0, -, w0⟩ := DataW.trod_int Try.underlying3 t0
        obtain ⟨l, e1, -, w1⟩ := DataW.trod_int Try.underlying3 t1
        obtain ⟨t, e2, -, w2⟩ := DataW.trod_int Try.underlying3 t2
        have q0 : c0 = .int .i64 f := by simpa [cellsI] using e0
        have q1 : c1 = .int .i64 l := by simpa [cellsI] using e1
        have q2 : c2 = .int .i64 t := by simpa [cellsI] using e2
        subst q0 q1 q2
        refine ⟨⟨f, l, t⟩, ?_, fun j u hj => ?_⟩
        · intro z hz
          simp only [List.mem_cons, List.not_mem_nil, or_false] at hz
          rcases hz with rfl | rfl | rfl
          · exact wf_i64' w0
          · exact wf_i64' w1
          · exact wf_i64' w2
        · have hj3 : j < 3 := by
            have := (List.getElem?_eq_some_iff.1 hj).1
            simpa [E3.cells] using this
          rw [← add_add, hget j hj3]
          exact hj
    obtain ⟨E, hE⟩ := choose_lt key
    refine ⟨(List.range len).map E, .inr ⟨a.block, a.off, m, ?_, ?_, ?_, hlt, fun j u hj => ?_⟩, fun e he => ?_⟩
    · rw [List.length_map, List.length_range]
      rcases a with ⟨b, o, sp⟩
      obtain rfl : sp = none := hsp
      rfl
    · rw [List.length_map, List.length_range]; exact hl
    · exact hm
    · have hjl := (List.getElem?_eq_some_iff.1 hj).1
      rw [ce_length, List.length_map, List.length_range] at hjl
      have hi : j / 3 < len := by omega
      have h1 := (hE (j / 3) (by omega)).2 (j % 3)
      have hg : ((List.range len).map E)[j / 3]? = some (E (j / 3)) := by simp [hi]
      obtain ⟨c, hc'⟩ : ∃ c, (E (j / 3)).cells[j % 3]? = some c := ⟨(E (j / 3)).cells[j % 3]'(by simp [E3.cells]; omega), List.getElem?_eq_getElem _⟩
      have h2 := ce_get hg hc'
      rw [show j / 3 * 3 + j % 3 = j by omega, hj] at h2
      obtain rfl := Option.some.inj h2
      have h3 := h1 _ hc'
      rw [show j / 3 * 3 + j % 3 = j by omega] at h3
      rcases a with ⟨b, o, sp⟩
      obtain rfl : sp = none := hsp
      have e : (Addr.mk b o none).add j = ⟨b, o + j, none⟩ := by unfold Addr.add; split <;> simp_all
      rw [← e]; exact h3
    · obtain ⟨i, hi, rfl⟩ := List.mem_map.1 he
      exact (hE i (by have := List.mem_range.1 hi; omega)).1
set_option maxRecDepth 100000 in
/-- A graph handed in. -/
theorem open_graph {W : World} {base : Nat} {v : Value} {d : DataW H} {p : List MemPlace} (hval : Value.okWide Try.prog W .any base 24 v) (h : DataW.Trod enc Try.prog W 0 (fun _ => true) true 24 v d p) :
    ∃ (L S : Int) (es : List E3) (sv : Value), v = .agg #[.int .i64 L, .int .i64 S, sv] ∧ Row W sv es.length (ce es) ∧ okEs es ∧ (Lit.int .i64 L).wf = true ∧ (Lit.int .i64 S).wf = true := by
  obtain ⟨v0, v1, v2, y0, y1, y2, n, rfl, -, -, t0, t1, t2⟩ := open_agg3 Try.underlying24 (by kernel_rfl) cellsGraph hval h
  obtain ⟨L, e0, -, w0⟩ := DataW.trod_int Try.underlying3 t0
  obtain ⟨S, e1, -, w1⟩ := DataW.trod_int Try.underlying3 t1
  obtain rfl : v0 = .int .i64 L := by simpa using e0
  obtain rfl : v1 = .int .i64 S := by simpa using e1
  obtain ⟨es, hr, hok⟩ := open_edges (okWide_cell (i := 2) Try.underlying24 ctGraph hval rfl rfl) t2
  exact ⟨L, S, es, v2, rfl, hr, hok, w0, w1⟩
set_option maxRecDepth 100000 in
/-- An integer of any size handed in. -/
theorem open_num {W : World} {base : Nat} {v : Value} {d : DataW H} {p : List MemPlace} (hval : Value.okWide Try.prog W .any base 28 v) (h : DataW.Trod enc Try.prog W 0 (fun _ => true) true 28 v d p) :
    ∃ (ng : Bool) (s : ByteArray), v = .agg #[.bool ng, .string s] ∧ s.size ≤ maxLen := by
  obtain ⟨v0, v1, y0, y1, n, rfl, -, -, t0, t1⟩ := open_agg2 Try.underlying28 (by kernel_rfl) cellsInt2 hval h
  obtain ⟨ng, e0, -⟩ := DataW.trod_bool Try.underlying4 t0
  obtain ⟨s, e1, -, hs⟩ := DataW.trod_string Try.underlying9 t1
  obtain rfl : v0 = .bool ng := by simpa using e0
  obtain rfl : v1 = .string s := by simpa using e1
  exact ⟨ng, s, rfl, hs⟩
end
end Go.Proofs.Ythpgeeaccmgbkaa

/- A region that draws its order, in a round of a loop over a function: as outside of it. -/
namespace Go.Proofs.Ythpgeeaccmgbkaa
open Go.RowKit

def noDefer (o : Oper) : Bool := match o.op with | .defer _ => false | _ => true
theorem wpOpsIn_of_wpOps {l n : Nat} {P : Program} {ops : Array Oper} {Q : Exit → Act → World → Prop} (hno : ¬ LetsOut Q) (hnd : ∀ (i : Nat) (o : Oper), ops[i]? = some o → noDefer o = true) :
    ∀ (L : List Nat) (a : Act) (w : World), wpOps P ops Q L a w → wpOpsIn (Fence.wide.inRound l) n P ops Q L a w
  | [], _, _, h => h
  | i :: rest, a, w, h => by
    simp only [wpOps] at h
    simp only [wpOpsIn]
    cases hi : ops[i]? with
    | none => simp only [hi] at h ⊢; exact wpOpsIn_of_wpOps hno hnd rest a w h
    | some o =>
      simp only [hi] at h ⊢
      split
      · rename_i hw
        rw [if_pos hw] at h
        rcases h with h | ⟨_, h⟩
        case inr => exact absurd h hno
        refine ⟨fun _ _ => trivial, ?_⟩
        rw [Oper.semAt_eq _ _ _ (fun c hc => by have := hnd i o hi; unfold noDefer at this; rw [hc] at this; cases this)]
        unfold Oper.wp at h
        generalize (execOp a.eval o).run P w = r at *
        cases r with
        | ok x w' =>
          cases x <;> simp only [Oper.upon, Oper.uponIn] at h ⊢
          case value => exact wpOpsIn_of_wpOps hno hnd rest _ _ h
          case skip => exact wpOpsIn_of_wpOps hno hnd rest _ _ h
          case defer => exact wpOpsIn_of_wpOps hno hnd rest _ _ h
          case enter f args =>
            refine ⟨fun h => (by cases h), ?_⟩
            refine (callsIn_wide (n := n - 1)).2 (h.mono fun e w'' he => ?_)
            cases e with
            | returned u => exact wpOpsIn_of_wpOps hno hnd rest _ _ he
            | panicked c => exact he
            | outgrown => exact he
          case row row args =>
            refine ⟨fun h => (by cases h), fun c cs _ => ?_⟩
            obtain ⟨v, w'', h1, h2⟩ := h c cs
            exact ⟨v, w'', wpOpsIn_of_wpOps hno hnd rest _ _ h1, stepsIn_wide.2 h2⟩
        | halt x w' => cases x <;> simp only [Oper.upon, Oper.uponIn] at h ⊢ <;> exact h
      · rename_i hw
        rw [if_neg hw] at h
        exact ⟨fun _ _ => trivial, wpOpsIn_of_wpOps hno hnd rest _ _ h⟩

/-- A region in a round: one condition S for the whole region, as outside of a fence. -/
theorem wpIn_round_held {l n : Nat} {P : Program} {id : Nat} {L : List Oper} {Q : Exit → Act → World → Prop} {a : Act} {w : World} {S : World → Prop} (hm : P.follows .mixedOrders = true) (hno : ¬ LetsOut Q) (hnd : L.all noDefer = true) (hS : S w.drew)
    (h : S w.drew → wpAnyH P .any L.toArray Q S L.toArray.size (Array.replicate L.toArray.size false) a w.drew) : (Code.region id L.toArray true).wpIn (Fence.wide.inRound l) n P Q a w :=
  wpIn_region_draw fun t => by
    simp only [Region.schedule, hm, Bool.true_or, if_true]
    exact wpOpsIn_of_wpOps hno (fun i o hi => List.all_eq_true.1 hnd o (by simpa using List.mem_of_getElem? (l := L) (by simpa using hi))) _ _ _ (wpAny_sound L.toArray.size t _ a _ (wpAny_of_held _ _ _ _ (h hS)))
theorem callsIn_round {l n : Nat} {P : Program} {f : FuncId} {args : Array Value} {w : World} {R : Ending → World → Prop} (h : Calls P f args w R) : CallsIn (Fence.wide.inRound l) n P f args w R := (callsIn_wide (n := n)).2 h
end Go.Proofs.Ythpgeeaccmgbkaa

/- Equality of two integers as the program compares them. -/
namespace Go.Proofs.Ythpgeeaccmgbkaa
open Go.RowKit

theorem iqType : Try.prog.underlying 28 = some (.struct (Try.prog.fieldsOf 28)) := by kernel_rfl
theorem iqStood : Try.prog.stoodInHeld 28 = false := by kernel_rfl
theorem iqFlds : (Try.prog.fieldsOf 28).toList.map (fun f => (f.type, f.offset, f.name == "_")) = [(4, 0, false), (9, 1, false)] := by kernel_rfl
set_option maxRecDepth 100000 in
theorem eqIn_int (a b : Bool) (s t : ByteArray) (w : World) : (Op.equalIn 10000 28 (.agg #[.bool a, .string s]) (.agg #[.bool b, .string t])).run Try.prog w = .ok (a == b && s == t) w := by
  have e : ∀ fs, (Try.prog.fieldsOf 28).toList = fs → (Op.eqFields 9999 #[.bool a, .string s] #[.bool b, .string t] fs).run Try.prog w = .ok (a == b && s == t) w := by
    intro fs hfs
    have hm := iqFlds
    rw [hfs] at hm
    match fs, hm with
    | [f0, f1], hm =>
      simp only [List.map_cons, List.map_nil, List.cons.injEq, Prod.mk.injEq, and_true] at hm
      obtain ⟨⟨t0, o0, n0⟩, ⟨t1, o1, n1⟩⟩ := hm
      rw [beq_eq_false_iff_ne] at n0 n1
      simp [Op.eqFields, n0, n1, t0, o0, t1, o1, Go.part, Try.isAgg4, Try.isAgg9, run_equalIn_bool', run_equalIn_string, Try.underlying4, Try.underlying9]
      rw [beq_toListBytes]
      by_cases h1 : a = b <;> by_cases h2 : s.toList = t.toList <;> simp [h1, h2]
  exact (run_equalIn_struct (P := Try.prog) w 9999 28 _ _ iqType iqStood).trans (e _ rfl)
theorem eql_int (x y : Int) (w : World) : (binOp .eql 28 (.agg #[.bool (ineg x), .string (imag x)]) (.agg #[.bool (ineg y), .string (imag y)])).run Try.prog w = .ok (.bool (ineg x == ineg y && imag x == imag y)) w := by
  rw [run_eql_struct, eqIn_int]; rfl

end Go.Proofs.Ythpgeeaccmgbkaa

/- A region that draws its order, within a fence that lets all through. -/
namespace Go.Proofs.Ythpgeeaccmgbkaa
open Go.RowKit

theorem wpOpsIn_wide {n : Nat} {P : Program} {ops : Array Oper} {Q : Exit → Act → World → Prop} (hno : ¬ LetsOut Q) (hnd : ∀ (i : Nat) (o : Oper), ops[i]? = some o → noDefer o = true) :
    ∀ (L : List Nat) (a : Act) (w : World), wpOps P ops Q L a w → wpOpsIn Fence.wide n P ops Q L a w
  | [], _, _, h => h
  | i :: rest, a, w, h => by
    simp only [wpOps] at h
    simp only [wpOpsIn]
    cases hi : ops[i]? with
    | none => simp only [hi] at h ⊢; exact wpOpsIn_wide hno hnd rest a w h
    | some o =>
      simp only [hi] at h ⊢
      split
      · rename_i hw
        rw [if_pos hw] at h
        rcases h with h | ⟨_, h⟩
        case inr => exact absurd h hno
        refine ⟨fun _ _ => trivial, ?_⟩
        rw [Oper.semAt_eq _ _ _ (fun c hc => by have := hnd i o hi; unfold noDefer at this; rw [hc] at this; cases this)]
        unfold Oper.wp at h
        generalize (execOp a.eval o).run P w = r at *
        cases r with
        | ok x w' =>
          cases x <;> simp only [Oper.upon, Oper.uponIn] at h ⊢
          case value => exact wpOpsIn_wide hno hnd rest _ _ h
          case skip => exact wpOpsIn_wide hno hnd rest _ _ h
          case defer => exact wpOpsIn_wide hno hnd rest _ _ h
          case enter f args =>
            refine ⟨fun h => (by cases h), ?_⟩
            refine (callsIn_wide (n := n - 1)).2 (h.mono fun e w'' he => ?_)
            cases e with
            | returned u => exact wpOpsIn_wide hno hnd rest _ _ he
            | panicked c => exact he
            | outgrown => exact he
          case row row args =>
            refine ⟨fun h => (by cases h), fun c cs _ => ?_⟩
            obtain ⟨v, w'', h1, h2⟩ := h c cs
            exact ⟨v, w'', wpOpsIn_wide hno hnd rest _ _ h1, stepsIn_wide.2 h2⟩
        | halt x w' => cases x <;> simp only [Oper.upon, Oper.uponIn] at h ⊢ <;> exact h
      · rename_i hw
        rw [if_neg hw] at h
        exact ⟨fun _ _ => trivial, wpOpsIn_wide hno hnd rest _ _ h⟩

theorem wpIn_wide_held {n : Nat} {P : Program} {id : Nat} {L : List Oper} {Q : Exit → Act → World → Prop} {a : Act} {w : World} {S : World → Prop} (hm : P.follows .mixedOrders = true) (hno : ¬ LetsOut Q) (hnd : L.all noDefer = true) (hS : S w.drew)
    (h : S w.drew → wpAnyH P .any L.toArray Q S L.toArray.size (Array.replicate L.toArray.size false) a w.drew) : (Code.region id L.toArray true).wpIn Fence.wide n P Q a w :=
  wpIn_region_draw fun t => by
    simp only [Region.schedule, hm, Bool.true_or, if_true]
    exact wpOpsIn_wide hno (fun i o hi => List.all_eq_true.1 hnd o (by simpa using List.mem_of_getElem? (l := L) (by simpa using hi))) _ _ _ (wpAny_sound L.toArray.size t _ a _ (wpAny_of_held _ _ _ _ (h hS)))
/-- No panic, nothing outgrown: the normal end alone. -/
def nOnly (Q : Exit → Act → World → Prop) : Exit → Act → World → Prop
  | .normal, a, w => Q .normal a w
  | _, _, _ => False
theorem wpIn_wide_norm {n : Nat} {P : Program} {id : Nat} {L : List Oper} {Q : Exit → Act → World → Prop} {a : Act} {w : World} {S : World → Prop} (hm : P.follows .mixedOrders = true) (hnd : L.all noDefer = true) (hS : S w.drew)
    (h : S w.drew → wpAnyH P .any L.toArray (nOnly Q) S L.toArray.size (Array.replicate L.toArray.size false) a w.drew) : (Code.region id L.toArray true).wpIn Fence.wide n P Q a w :=
  Code.wpIn_mono (Q := nOnly Q) (fun e a w hq => by cases e <;> first | exact hq | exact hq.elim) (wpIn_wide_held hm (fun ⟨_, _, h⟩ => h) hnd hS h)
end Go.Proofs.Ythpgeeaccmgbkaa

