/- The contracts of slices.Equal, slices.Clone and slices.Compact at edges; nothing that was there is changed. -/
import Derived.Test.YtadibbbaegbljaaCheck
import Derived.Laws.StructEq
namespace Go.Proofs.Ytadibbbaegbljaa
open Go.RowKit

theorem eqType : Try.prog.underlying 60 = some (.struct (Try.prog.fieldsOf 60)) := by kernel_rfl
theorem eqStood : Try.prog.stoodInHeld 60 = false := by kernel_rfl
theorem eqFlds : (Try.prog.fieldsOf 60).toList.map (fun f => (f.type, f.offset, f.name == "_")) = [(3, 0, false), (3, 1, false), (3, 2, false)] := by kernel_rfl
theorem partInt (xs : Array Value) (i : Nat) (v : Value) (h : xs[i]? = some v) (w : World) : (part 3 xs i).run Try.prog w = .ok v w := by
  simp [part, Try.isAgg3, h]
set_option maxRecDepth 100000 in
theorem eqIn_edge (a b : E3) (w : World) : (Op.equalIn 10000 60 a.val b.val).run Try.prog w = .ok (decide (a = b)) w := by
  have e : ∀ fs, (Try.prog.fieldsOf 60).toList = fs → (Op.eqFields 9999 #[.int .i64 a.f, .int .i64 a.l, .int .i64 a.t] #[.int .i64 b.f, .int .i64 b.l, .int .i64 b.t] fs).run Try.prog w = .ok (decide (a = b)) w := by
    intro fs hfs
    have hm := eqFlds
    rw [hfs] at hm
    match fs, hm with
    | [f0, f1, f2], hm =>
      simp only [List.map_cons, List.map_nil, List.cons.injEq, Prod.mk.injEq, and_true] at hm
      obtain ⟨⟨t0, o0, n0⟩, ⟨t1, o1, n1⟩, ⟨t2, o2, n2⟩⟩ := hm
      rw [beq_eq_false_iff_ne] at n0 n1 n2
      simp [Op.eqFields, n0, n1, n2, t0, o0, t1, o1, t2, o2, part, Try.isAgg3, run_equalIn_int, Try.underlying3]
      have he : (a = b) ↔ a.f = b.f ∧ a.l = b.l ∧ a.t = b.t := by cases a; cases b; simp
      by_cases h1 : a.f = b.f <;> by_cases h2 : a.l = b.l <;> by_cases h3 : a.t = b.t <;> simp [he, h1, h2, h3]
  exact (run_equalIn_struct (P := Try.prog) w 9999 60 _ _ eqType eqStood).trans (e _ rfl)
theorem neq_edge (a b : E3) (w : World) : (binOp .neq 60 a.val b.val).run Try.prog w = .ok (.bool (!decide (a = b))) w := by
  rw [run_neq_struct, eqIn_edge]; rfl
theorem eql_edge (a b : E3) (w : World) : (binOp .eql 60 a.val b.val).run Try.prog w = .ok (.bool (decide (a = b))) w := by
  rw [run_eql_struct, eqIn_edge]; rfl

/-- The cells of an edge of a slice, in a world in which nothing of it has changed. -/
theorem edge_cells {w w' : World} {B b off : Nat} {es : List E3} {k : Nat} {e : E3} (hce : ∀ (j : Nat) (u : Value), (ce es)[j]? = some u → w.cell? ⟨b, off + j, none⟩ = some u) (hb : Below B w w') (hlt : b < B) (h : es[k]? = some e) :
    w'.cell? ⟨b, off + k * 3, none⟩ = some (.int .i64 e.f) ∧ w'.cell? ⟨b, off + k * 3 + 1, none⟩ = some (.int .i64 e.l) ∧ w'.cell? ⟨b, off + k * 3 + 2, none⟩ = some (.int .i64 e.t) :=
  ⟨(hb.cell (p := ⟨b, off + k * 3, none⟩) hlt).trans (hce (k * 3) _ (ce_get (j := 0) h rfl)), (hb.cell (p := ⟨b, off + k * 3 + 1, none⟩) hlt).trans (hce (k * 3 + 1) _ (ce_get (j := 1) h rfl)), (hb.cell (p := ⟨b, off + k * 3 + 2, none⟩) hlt).trans (hce (k * 3 + 2) _ (ce_get (j := 2) h rfl))⟩

end Go.Proofs.Ytadibbbaegbljaa
