/- Contracts and plain laws of several functions, one after the other: EqInt, EqI. -/
import Derived.Laws.StructEq
import Derived.BigQuiet
import Derived.Test.YthpgeeaccmgbkaaIntB
import Derived.Test.YthpgeeaccmgbkaaPart15
/- Equality of two integers as the program compares them. -/
namespace Go.Proofs.Ythpgeeaccmgbkaa
open Go.RowKit

theorem iqType : Try.prog.underlying 28 = some (.struct (Try.prog.fieldsOf 28)) := by kernel_rfl
theorem iqStood : Try.prog.stoodInHeld 28 = false := by kernel_rfl
theorem iqFlds : (Try.prog.fieldsOf 28).toList.map (fun f => (f.type, f.offset, f.name == "_")) = [(4, 0, false), (9, 1, false)] := by kernel_rfl
set_option maxRecDepth 100000 in
theorem eqIn_int (a b : Bool) (s t : ByteArray) (w : World) : (Op.equalIn 10000 28 (.agg #[.bool a, .string s]) (.agg #[.bool b, .string t])).run Try.prog w = .ok (a == b && s == t) w := by
  have e : ∀ fs, (Try.prog.fieldsOf 28).toList = fs → (Op.eqFields 9999 #[.bool a, .string s] #[.bool b, .string t] fs).run Try.prog w = .ok (a == b && s == t) w := by
    intro fs hfs
    have hm := iqFlds
    rw [hfs] at hm
    match fs, hm with
    | [f0, f1], hm =>
      simp only [List.map_cons, List.map_nil, List.cons.injEq, Prod.mk.injEq, and_true] at hm
      obtain ⟨⟨t0, o0, n0⟩, ⟨t1, o1, n1⟩⟩ := hm
      rw [beq_eq_false_iff_ne] at n0 n1
      simp [Op.eqFields, n0, n1, t0, o0, t1, o1, Go.part, Try.isAgg4, Try.isAgg9, run_equalIn_bool', run_equalIn_string, Try.underlying4, Try.underlying9]
      rw [beq_toListBytes]
      by_cases h1 : a = b <;> by_cases h2 : s.toList = t.toList <;> simp [h1, h2]
  exact (run_equalIn_struct (P := Try.prog) w 9999 28 _ _ iqType iqStood).trans (e _ rfl)
theorem eql_int (x y : Int) (w : World) : (binOp .eql 28 (.agg #[.bool (ineg x), .string (imag x)]) (.agg #[.bool (ineg y), .string (imag y)])).run Try.prog w = .ok (.bool (ineg x == ineg y && imag x == imag y)) w := by
  rw [run_eql_struct, eqIn_int]; rfl

end Go.Proofs.Ythpgeeaccmgbkaa

/- slices.Equal at integers: of equal rows. -/
namespace Go.Proofs.Ythpgeeaccmgbkaa
open Go.RowKit

theorem eqIn_same (b : Bool) (s : ByteArray) (w : World) : (Op.equalIn 10000 28 (.agg #[.bool b, .string s]) (.agg #[.bool b, .string s])).run Try.prog w = .ok true w := by
  rw [eqIn_int]; have h : (s == s) = true := by rw [beq_toListBytes]; simp
  simp [h]
set_option maxRecDepth 100000 in
set_option maxHeartbeats 3200000 in
theorem equalI_yes (l : List Int) (va vb : Value) (w : World) (ha : Row w va l.length (civ l)) (hb : Row w vb l.length (civ l)) :
    Calls Try.prog 27 #[va, vb] w (Ret w (.bool true)) := by
  obtain ⟨a1, c1, rfl, hle⟩ := ha.slice
  obtain ⟨a2, c2, rfl, -⟩ := hb.slice
  obtain ⟨n, hn⟩ : ∃ n, n = l.length := ⟨_, rfl⟩
  rw [← hn] at ha hb hle ⊢
  have HA := Lib.hid ha; clear ha
  have HB := Lib.hid hb; clear hb
  have HN := Lib.hid hn; clear hn
  have hne : ((n : Int) != (n : Int)) = false := by simp
  go_enter Try.func27, Try.ntmps27
  go_wp2_with fail
  go_loopw [5, 13] (fun _ i wr => ∃ k : Nat, k ≤ n ∧ i = .int .i64 k ∧ Below w.heap.size w wr) (fun _ i _ => n - (intOf i).toNat)
  case atStart => exact ⟨0, Nat.zero_le _, rfl, Below.refl _ _⟩
  case round =>
    obtain ⟨k, hk, rfl, hbel⟩ := hrel
    have HBEL := Lib.hid hbel; clear hbel
    by_cases hlt : k < n
    · have hget : l[k]? = some (l[k]'(by rw [← HN.out]; exact hlt)) := List.getElem?_eq_getElem _
      obtain ⟨x, hx⟩ : ∃ x, x = l[k]'(by rw [← HN.out]; exact hlt) := ⟨_, rfl⟩
      rw [← hx] at hget
      obtain ⟨b1, o1, rfl, hb1, hc1⟩ := HA.out.at_ (by omega)
      obtain ⟨b2, o2, rfl, hb2, hc2⟩ := HB.out.at_ (by omega)
      obtain ⟨x0, x1⟩ := int_cells hc1 HBEL.out hb1 hget
      obtain ⟨x2, x3⟩ := int_cells hc2 HBEL.out hb2 hget
      have hxx := fun w' => eqIn_same (ineg x) (imag x) w'
      clear hx hget hc1 hc2
      go_wp2_with fail
      go_quiet (fail)
      go_wp2_with fail
      go_roundw
      case rel => exact ⟨k + 1, by omega, by go_num, below_drewN HBEL.out _⟩
      case measure => simp [intOf]; omega
    · obtain rfl : k = n := by omega
      go_wp2_with fail
      go_ret
      exact ⟨HBEL.out, rfl⟩
end Go.Proofs.Ythpgeeaccmgbkaa

