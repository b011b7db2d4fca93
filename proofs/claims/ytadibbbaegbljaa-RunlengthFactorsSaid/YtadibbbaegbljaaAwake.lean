/- The contract of awake: the examples of the chapter. -/
import Derived.Test.YtadibbbaegbljaaGraphB
import Derived.Test.YtadibbbaegbljaaCount
namespace Go.Proofs.Ytadibbbaegbljaa
open Go.RowKit

theorem iqType : Try.prog.underlying 34 = some (.struct (Try.prog.fieldsOf 34)) := by kernel_rfl
theorem iqStood : Try.prog.stoodInHeld 34 = false := by kernel_rfl
theorem iqFlds : (Try.prog.fieldsOf 34).toList.map (fun f => (f.type, f.offset, f.name == "_")) = [(4, 0, false), (9, 1, false)] := by kernel_rfl
set_option maxRecDepth 100000 in
theorem eqIn_int (a b : Bool) (s t : ByteArray) (w : World) : (Op.equalIn 10000 34 (.agg #[.bool a, .string s]) (.agg #[.bool b, .string t])).run Try.prog w = .ok (a == b && s == t) w := by
  have e : ∀ fs, (Try.prog.fieldsOf 34).toList = fs → (Op.eqFields 9999 #[.bool a, .string s] #[.bool b, .string t] fs).run Try.prog w = .ok (a == b && s == t) w := by
    intro fs hfs
    have hm := iqFlds
    rw [hfs] at hm
    match fs, hm with
    | [f0, f1], hm =>
      simp only [List.map_cons, List.map_nil, List.cons.injEq, Prod.mk.injEq, and_true] at hm
      obtain ⟨⟨t0, o0, n0⟩, ⟨t1, o1, n1⟩⟩ := hm
      rw [beq_eq_false_iff_ne] at n0 n1
      simp [Op.eqFields, n0, n1, t0, o0, t1, o1, Go.part, Try.isAgg4, Try.isAgg9, run_equalIn_bool', run_equalIn_string, Try.underlying4, Try.underlying9]
      rw [beq_toListBytes]
      by_cases h1 : a = b <;> by_cases h2 : s.toList = t.toList <;> simp [h1, h2]
  exact (run_equalIn_struct (P := Try.prog) w 9999 34 _ _ iqType iqStood).trans (e _ rfl)
theorem eql_int (x y : Int) (w : World) : (binOp .eql 34 (.agg #[.bool (ineg x), .string (imag x)]) (.agg #[.bool (ineg y), .string (imag y)])).run Try.prog w = .ok (.bool (ineg x == ineg y && imag x == imag y)) w := by
  rw [run_eql_struct, eqIn_int]; rfl

def wantEs : List E3 := [⟨0, 0, 1⟩, ⟨1, 0, 2⟩, ⟨1, 1, 0⟩, ⟨2, 0, 3⟩, ⟨2, 1, 0⟩, ⟨3, 1, 0⟩]
theorem want_graph : graphEs 1 3 3 = wantEs := by decide
theorem want_sort : sortE wantEs = wantEs := List.mergeSort_of_pairwise (by decide)
theorem want_ok : okEs wantEs := by
  intro e he
  simp [wantEs] at he
  rcases he with rfl | rfl | rfl | rfl | rfl | rfl <;> (unfold E3.ok Ints; simp)
theorem want_twins : NoTwins wantEs := by
  intro k x y h1 h2
  match k with
  | 0 | 1 | 2 | 3 | 4 => simp [wantEs] at h1 h2; subst h1 h2; decide
  | k + 5 => simp [wantEs] at h2
theorem want_chk : chk 2 4 wantEs = 0 := by decide
theorem count_eight : countC 0 1 4 = 8 := by decide
end Go.Proofs.Ytadibbbaegbljaa
