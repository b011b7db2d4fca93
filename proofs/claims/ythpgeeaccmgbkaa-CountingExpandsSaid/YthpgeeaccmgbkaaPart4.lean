/- Contracts and plain laws of several functions, one after the other: GreatL, ExpC. -/
import Derived.Test.YthpgeeaccmgbkaaPart16
import Derived.Test.YthpgeeaccmgbkaaExpO
import Derived.Test.YthpgeeaccmgbkaaExpN
/- grooveref22.GreatList. -/
namespace Go.Proofs.Ythpgeeaccmgbkaa
open Go.RowKit

def GLP (l : List (Bool × ByteArray)) : Prop := (∀ x ∈ l, x.2.size ≤ 6) ∧ (l.length ≤ 8 ∨ (65 < l.length ∧ l.length ≤ 68))
def GLRet (l : List (Bool × ByteArray)) (w : World) (e : Ending) (w' : World) : Prop := Below w.heap.size w w' ∧ ∃ b, e = .returned (.bool b) ∧ (b = false → GLP l)
set_option maxRecDepth 100000 in
set_option maxHeartbeats 3200000 in
theorem greatL_any (l : List (Bool × ByteArray)) (v : Value) (w : World) (hr : Row w v l.length (cnv l)) :
    Calls Try.prog 21 #[v] w (GLRet l w) := by
  obtain ⟨va, vc, rfl, hle⟩ := hr.slice
  obtain ⟨m, hm⟩ : ∃ m, m = l.length := ⟨_, rfl⟩
  have hget : ∀ j, j < m → ∃ x, l[j]? = some x := fun j hj => ⟨l[j]'(by omega), List.getElem?_eq_getElem _⟩
  have hfin : (∀ x ∈ l.take m, x.2.size ≤ 6) → (m ≤ 8 ∨ (65 < m ∧ m ≤ 68)) → GLP l := fun h1 h2 => by
    rw [hm, List.take_length] at h1
    rw [hm] at h2
    exact ⟨h1, h2⟩
  have hstep : ∀ j x, l[j]? = some x → (∀ y ∈ l.take j, y.2.size ≤ 6) → x.2.size ≤ 6 → ∀ y ∈ l.take (j + 1), y.2.size ≤ 6 := fun j x h1 h2 h3 y hy => by
    rw [List.take_add_one, h1] at hy
    rcases List.mem_append.1 hy with h | h
    · exact h2 y h
    · obtain rfl : y = x := by simpa using h
      exact h3
  rw [← hm] at hr hle ⊢
  have HR := Lib.hid hr; clear hr
  have HGET := Lib.hid hget; clear hget
  have HFIN := Lib.hid hfin; clear hfin
  have HSTEP := Lib.hid hstep; clear hstep
  clear hm
  go_enter Try.func21, Try.ntmps21
  go_wp2_with fail
  go_loopw [3] (fun i wr => ∃ j : Nat, j ≤ m ∧ i = .int .i64 j ∧ Below w.heap.size w wr ∧ ∀ y ∈ l.take j, y.2.size ≤ 6) (fun i _ => m - (intOf i).toNat)
  case atStart => exact ⟨0, Nat.zero_le _, rfl, Below.refl _ _, fun y hy => by simp at hy⟩
  case round =>
    obtain ⟨j, hj, rfl, hbel, hal⟩ := hrel
    by_cases hlt : j < m
    · obtain ⟨x, hx⟩ := HGET.out j hlt
      obtain ⟨b, off, rfl, hbw, hce⟩ := HR.out.at_ (by omega)
      obtain ⟨c0, c1⟩ := num_cells hce hbel hbw hx
      have hnx := HSTEP.out j x hx hal
      obtain ⟨ng, s⟩ := x
      dsimp only at c0 c1 hnx
      have hix : (0 : Int) ≤ (j : Int) := by omega
      have hix2 : (j : Int) < (m : Int) := by omega
      have HNX := Lib.hid hnx; clear hnx
      have HBEL := Lib.hid hbel; clear hbel
      have HAL := Lib.hid hal; clear hal
      clear hce hx
      by_cases hs : 6 < s.size
      · have t1 : decide (6 < (s.size : Int)) = true := by simp; omega
        go_wp2_with fail
        go_ret
        exact ⟨HBEL.out, _, rfl, fun h => by cases h⟩
      · have t1 : decide (6 < (s.size : Int)) = false := by simp; omega
        have hnx := HNX.out (by omega)
        have HN2 := Lib.hid hnx; clear hnx
        go_wp2_with fail
        go_roundw
        case rel => exact ⟨j + 1, by omega, by go_num, HBEL.out, HN2.out⟩
        case measure => simp [intOf]; omega
    · obtain rfl : j = m := by omega
      have hf := HFIN.out hal
      have HF := Lib.hid hf; clear hf
      have HBEL := Lib.hid hbel; clear hbel
      clear hal
      by_cases h8 : 8 < j
      · by_cases h65 : j ≤ 65
        · have t1 : decide (8 < (j : Int)) = true := by simp; omega
          have t2 : decide ((j : Int) ≤ 65) = true := by simp; omega
          go_wp2_with fail
          go_ret
          exact ⟨HBEL.out, _, rfl, fun h => by cases h⟩
        · have t1 : decide (8 < (j : Int)) = true := by simp; omega
          have t2 : decide ((j : Int) ≤ 65) = false := by simp; omega
          by_cases h68 : 68 < j
          · have t3 : decide (68 < (j : Int)) = true := by simp; omega
            go_wp2_with fail
            go_ret
            exact ⟨HBEL.out, _, rfl, fun h => by cases h⟩
          · have t3 : decide (68 < (j : Int)) = false := by simp; omega
            go_wp2_with fail
            go_ret
            exact ⟨HBEL.out, _, rfl, fun _ => HF.out (.inr ⟨by omega, by omega⟩)⟩
      · have t1 : decide (8 < (j : Int)) = false := by simp; omega
        have t3 : decide (68 < (j : Int)) = false := by simp; omega
        go_wp2_with fail
        go_ret
        exact ⟨HBEL.out, _, rfl, fun _ => HF.out (.inl (by omega))⟩
end Go.Proofs.Ythpgeeaccmgbkaa

/- counting.Expand at lists that are not too great: it refuses, or it answers. -/
namespace Go.Proofs.Ythpgeeaccmgbkaa
open Go.RowKit

theorem sm_size {z : Int} {p : Nat} (h : (imag z).size ≤ p) : sm p z := by
  have h1 := lt_pow_bb z.natAbs
  rw [← imag_size] at h1
  unfold sm
  exact Nat.lt_of_lt_of_le h1 (Nat.pow_le_pow_right (by decide) h)
theorem even_ints {l : List (Bool × ByteArray)} (h : oddB l = false) : l = (l.map fun x => ival x.1 x.2).map fun z => (ineg z, imag z) := by
  rw [List.map_map]
  induction l with
  | nil => rfl
  | cons x l ih =>
    have e : oddB (x :: l) = (!cnB x.1 x.2 || oddB l) := rfl
    rw [e, Bool.or_eq_false_iff] at h
    have hc : cnB x.1 x.2 = true := by simpa using h.1
    have h2 := (cnB_iff _ _).1 hc
    rw [List.map_cons, ← ih h.2]
    show x :: l = (ineg (ival x.1 x.2), imag (ival x.1 x.2)) :: l
    rw [h2.1, h2.2]
theorem expand_cases (l1 l2 : List (Bool × ByteArray)) (h1 : GLP l1) (h2 : GLP l2) (n : Nat) (hn : n ≤ 4096) :
    (∃ E : Int, E ≠ 0 ∧ ∀ v1 v2 w', Row w' v1 l1.length (cnv l1) → Row w' v2 l2.length (cnv l2) → Calls Try.prog 19 #[v1, v2, .int .i64 (n : Int)] w' (Ret w' (.tuple #[.slice none 0 0, .int .i64 E]))) ∨
    ∃ N D : List Int, l1 = (N.map fun z => (ineg z, imag z)) ∧ l2 = (D.map fun z => (ineg z, imag z)) ∧ N.length ≤ 65 ∧ D.length ≤ 65 ∧ D ≠ [] ∧ one2 (D.getD 0 0) ∧ (∀ z ∈ N, sm 6 z) ∧ (∀ z ∈ D, sm 6 z) ∧
      ∀ v1 v2 w', Row w' v1 N.length (civ N) → Row w' v2 D.length (civ D) → Calls Try.prog 19 #[v1, v2, .int .i64 (n : Int)] w' (ExpRet n (exL N D n) w') := by
  have hs1 : ∀ x ∈ l1, x.2.size ≤ 1099511627775 := fun x hx => Nat.le_trans (h1.1 x hx) (by decide)
  have hs2 : ∀ x ∈ l2, x.2.size ≤ 1099511627775 := fun x hx => Nat.le_trans (h2.1 x hx) (by decide)
  by_cases ho : (oddB l1 || oddB l2) = true
  · exact .inl ⟨1, by decide, fun v1 v2 w' r1 r2 => expE_odd l1 l2 v1 v2 n w' r1 r2 hs1 hs2 ho⟩
  · have ho' : oddB l1 = false ∧ oddB l2 = false := by simpa using ho
    obtain ⟨ho1, ho2⟩ := ho'
    by_cases hl : 65 < l1.length ∨ 65 < l2.length
    · exact .inl ⟨4, by decide, fun v1 v2 w' r1 r2 => expE_len l1 l2 v1 v2 n w' r1 r2 hs1 hs2 ho1 ho2 hl⟩
    · by_cases h0 : l2.length = 0
      · exact .inl ⟨9, by decide, fun v1 v2 w' r1 r2 => expE_none l1 l2 v1 v2 n w' r1 r2 hs1 hs2 ho1 ho2 (by omega) h0⟩
      · have e1 := even_ints ho1
        have e2 := even_ints ho2
        obtain ⟨N, hN⟩ : ∃ N, N = l1.map fun x => ival x.1 x.2 := ⟨_, rfl⟩
        obtain ⟨D, hD⟩ : ∃ D, D = l2.map fun x => ival x.1 x.2 := ⟨_, rfl⟩
        have hlN : N.length = l1.length := by rw [hN]; simp
        have hlD : D.length = l2.length := by rw [hD]; simp
        rw [← hN] at e1
        rw [← hD] at e2
        have sN : ∀ z ∈ N, sm 6 z := fun z hz => sm_size (h1.1 (ineg z, imag z) (by rw [e1]; exact List.mem_map.2 ⟨z, hz, rfl⟩))
        have sD : ∀ z ∈ D, sm 6 z := fun z hz => sm_size (h2.1 (ineg z, imag z) (by rw [e2]; exact List.mem_map.2 ⟨z, hz, rfl⟩))
        obtain ⟨d, t, rfl⟩ : ∃ d t, D = d :: t := by
          rcases D with _ | ⟨d, t⟩
          · exact absurd (by rw [← hlD]; rfl) h0
          · exact ⟨d, t, rfl⟩
        have hg : (d :: t).getD 0 0 = d := rfl
        by_cases hd1 : d = 1
        · subst hd1
          exact .inr ⟨N, _, e1, e2, by omega, by omega, by simp, .inl hg, sN, sD, fun v1 v2 w' r1 r2 => expand_one 6 n N _ v1 v2 w' r1 r2 sN sD (by decide) (by omega) (by omega) rfl hn⟩
        · by_cases hd2 : d = -1
          · subst hd2
            exact .inr ⟨N, _, e1, e2, by omega, by omega, by simp, .inr hg, sN, sD, fun v1 v2 w' r1 r2 => expand_neg 6 n N _ v1 v2 w' r1 r2 sN sD (by decide) (by omega) (by omega) rfl hn⟩
          · exact .inl ⟨9, by decide, fun v1 v2 w' r1 r2 => expE_den l1 l2 v1 v2 n w' r1 r2 hs1 hs2 d ho1 ho2 (by omega) (by omega) (by rw [e2]; rfl) hd1 hd2⟩
end Go.Proofs.Ythpgeeaccmgbkaa

