/- The reference's letters and words: grooveref07.Digit, Check. -/
import Derived.Test.YtadibbbaegbljaaWord
namespace Go.Proofs.Ytadibbbaegbljaa
open Go.RowKit

def dgo : List UInt8 → Nat → UInt8 → Int
  | [], _, _ => -1
  | x :: t, i, c => if x = c then (i : Int) else dgo t (i + 1) c
/-- The number of a letter, -1 if it is none. -/
def digI (c : UInt8) : Int := dgo letters 0 c
theorem dgo_mem : ∀ (l : List UInt8) (i : Nat) (c : UInt8) (q : Nat), dgo l i c = -1 ∧ l.contains c = false ∨ (∃ j : Nat, dgo l i c = (i + j : Nat) ∧ j < l.length ∧ l[j]? = some c ∧ ((l.take q).contains c = decide (j < q)))
  | [], i, c, q => .inl ⟨rfl, rfl⟩
  | x :: t, i, c, q => by
    rw [dgo]
    by_cases hx : x = c
    · subst hx
      rw [if_pos rfl]
      refine .inr ⟨0, rfl, by simp, by simp, ?_⟩
      cases q <;> simp
    · rw [if_neg hx]
      rcases dgo_mem t (i + 1) c (q - 1) with ⟨h1, h2⟩ | ⟨j, h1, h2, h3, h4⟩
      · refine .inl ⟨h1, ?_⟩
        rw [List.contains_cons, h2, Bool.or_false, beq_eq_false_iff_ne]
        exact fun e => hx e.symm
      · refine .inr ⟨j + 1, by rw [h1]; congr 1; omega, by simp; omega, by simpa using h3, ?_⟩
        cases q with
        | zero => simp
        | succ q =>
          rw [List.take_succ_cons, List.contains_cons]
          rw [Nat.add_sub_cancel] at h4
          rw [h4, show (c == x) = false from beq_eq_false_iff_ne.2 (fun e => hx e.symm), Bool.false_or]
          rw [Bool.eq_iff_iff]; simp
theorem digI_letter (q : Nat) (c : UInt8) (hq : q ≤ 16) : isLetter q c = decide (0 ≤ digI c ∧ digI c < q) := by
  rcases dgo_mem letters 0 c q with ⟨h1, h2⟩ | ⟨j, h1, h2, h3, h4⟩
  · have : isLetter q c = false := by
      rw [isLetter, ← Bool.not_eq_true, List.contains_iff_mem]
      intro h
      have := List.mem_of_mem_take h
      rw [← List.contains_iff_mem, h2] at this; cases this
    rw [this, digI, h1]; rfl
  · rw [isLetter, h4, digI, h1, Bool.eq_iff_iff]; simp
theorem dgo_drop (k : Nat) (h : k < letters.length) (c : UInt8) : dgo (letters.drop k) k c = if letters[k] = c then (k : Int) else dgo (letters.drop (k + 1)) (k + 1) c := by
  rw [List.drop_eq_getElem_cons h, dgo]

set_option maxRecDepth 100000 in
set_option maxHeartbeats 800000 in
theorem digit_any (c : UInt8) (w : World) : Calls Try.prog 87 #[.int .u8 (c.toNat : Int)] w fun e w' => e = .returned (.int .i64 (digI c)) ∧ w = w' := by
  go_enter Try.func87, Try.ntmps87
  go_wp2
  go_loop [3] (fun i => ∃ k : Nat, k ≤ 16 ∧ i = .int .i64 k ∧ dgo (letters.drop k) k c = digI c) (fun i => 16 - (intOf i).toNat)
  case atStart => exact ⟨0, by omega, rfl, rfl⟩
  case round =>
    obtain ⟨k, hk, rfl, he⟩ := hrel
    by_cases hlt : k < 16
    · have hl : k < letters.length := hlt
      rw [dgo_drop k hl] at he
      have hix : ∀ w' : World, (Instr.index 9 (.string ⟨#[48, 49, 50, 51, 52, 53, 54, 55, 56, 57, 97, 98, 99, 100, 101, 102]⟩) (.int .i64 (k : Int))).run Try.prog w' = .ok (.int .u8 (letters[k].toNat : Int)) w' := by
        intro w'
        have : k = 0 ∨ k = 1 ∨ k = 2 ∨ k = 3 ∨ k = 4 ∨ k = 5 ∨ k = 6 ∨ k = 7 ∨ k = 8 ∨ k = 9 ∨ k = 10 ∨ k = 11 ∨ k = 12 ∨ k = 13 ∨ k = 14 ∨ k = 15 := by omega
        rcases this with h | h | h | h | h | h | h | h | h | h | h | h | h | h | h | h <;> (subst h; rfl)
      obtain ⟨x, hx⟩ : ∃ x, x = letters[k] := ⟨_, rfl⟩
      rw [← hx] at he hix
      have HX := Lib.hid hx; clear hx
      by_cases hc : x = c
      · rw [if_pos hc] at he
        have hcb : ((x.toNat : Int) == (c.toNat : Int)) = true := by rw [hc]; simp
        have HE := Lib.hid he; clear he hc
        go_wp2
        go_ret
        exact ⟨ret_int HE.out, rfl⟩
      · rw [if_neg hc] at he
        have hcb : ((x.toNat : Int) == (c.toNat : Int)) = false := by
          rw [beq_eq_false_iff_ne]; intro e
          apply hc
          rw [← UInt8.toNat_inj]; omega
        have HE := Lib.hid he; clear he hc
        go_wp2
        go_round
        case rel => exact ⟨k + 1, by omega, by go_num, HE.out⟩
        case measure => simp [intOf]; omega
    · have : k = 16 := by omega
      subst this
      have HE := Lib.hid he; clear he
      go_wp2
      go_ret
      exact ⟨ret_int HE.out, rfl⟩

set_option maxRecDepth 100000 in
set_option maxHeartbeats 800000 in
theorem rwcheck_any (q : Int) (s : ByteArray) (w : World) (hs : s.size ≤ 9223372036854775807) :
    Calls Try.prog 62 #[.int .i64 q, .string s] w fun e w' => e = .returned (.int .i64 (wchk q s.data.toList)) ∧ w = w' := by
  by_cases h1 : q < 1
  · have hc : wchk q s.data.toList = 12 := by rw [wchk, if_pos (by omega)]
    have HC := Lib.hid hc; clear hc
    go_enter Try.func62, Try.ntmps62
    go_wp2
    go_ret
    exact ⟨ret_int HC.out.symm, rfl⟩
  · by_cases h2 : 16 < q
    · have hc : wchk q s.data.toList = 12 := by rw [wchk, if_pos (by omega)]
      have HC := Lib.hid hc; clear hc
      go_enter Try.func62, Try.ntmps62
      go_wp2
      go_ret
      exact ⟨ret_int HC.out.symm, rfl⟩
    · by_cases h3 : 65536 < s.size
      · have hc : wchk q s.data.toList = 4 := by rw [wchk, if_neg (by omega), if_pos (by rw [bytes_size]; exact h3)]
        have HC := Lib.hid hc; clear hc
        go_enter Try.func62, Try.ntmps62
        go_wp2
        go_ret
        exact ⟨ret_int HC.out.symm, rfl⟩
      · obtain ⟨n, rfl⟩ : ∃ n : Nat, q = (n : Int) := ⟨q.toNat, by omega⟩
        have hc : wchk (n : Int) s.data.toList = if s.data.toList.all (isLetter n) then 0 else 13 := by
          rw [wchk, if_neg (by omega), if_neg (by rw [bytes_size]; omega)]; rfl
        have HC := Lib.hid hc; clear hc
        go_enter Try.func62, Try.ntmps62
        go_wp2
        go_loop [5] (fun i => ∃ k : Nat, k ≤ s.size ∧ i = .int .i64 k ∧ s.data.toList.all (isLetter n) = (s.data.toList.drop k).all (isLetter n)) (fun i => s.size - (intOf i).toNat)
        case atStart => exact ⟨0, Nat.zero_le _, rfl, rfl⟩
        case round =>
          obtain ⟨k, hk, rfl, he⟩ := hrel
          by_cases hlt : k < s.size
          · rw [drop_at s k hlt, List.all_cons] at he
            have hd := digI_letter n s[k] (by omega)
            have hD := digit_any s[k]
            have hD' : ∀ w', Calls Try.prog 87 #[.int .u8 (s[k].toNat : Int)] w' fun e w'' => e = .returned (.int .i64 (digI s[k])) ∧ w' = w'' := hD
            obtain ⟨x, hx⟩ : ∃ x, x = digI s[k] := ⟨_, rfl⟩
            rw [← hx] at hd
            simp only [← hx] at hD'
            clear hx hD
            have HD := Lib.hid hD'; clear hD'
            by_cases hx0 : x < 0
            · rw [show isLetter n s[k] = false by rw [hd]; simp; omega, Bool.false_and] at he
              have HE := Lib.hid he; clear he hd
              go_wp2_with (go_at_call 87; refine (HD.out _).mono ?_; rintro e w' ⟨rfl, rfl⟩)
              go_ret
              exact ⟨ret_int (by rw [HC.out, HE.out]; rfl), rfl⟩
            · by_cases hxn : (n : Int) ≤ x
              · rw [show isLetter n s[k] = false by rw [hd]; simp; omega, Bool.false_and] at he
                have HE := Lib.hid he; clear he hd
                go_wp2_with (go_at_call 87; refine (HD.out _).mono ?_; rintro e w' ⟨rfl, rfl⟩)
                go_ret
                exact ⟨ret_int (by rw [HC.out, HE.out]; rfl), rfl⟩
              · rw [show isLetter n s[k] = true by rw [hd]; simp; omega, Bool.true_and] at he
                have HE := Lib.hid he; clear he hd
                go_wp2_with (go_at_call 87; refine (HD.out _).mono ?_; rintro e w' ⟨rfl, rfl⟩)
                go_round
                case rel => exact ⟨k + 1, by omega, by go_num, HE.out⟩
                case measure => simp [intOf]; omega
          · have e1 : s.data.toList.drop k = [] := List.drop_of_length_le (by rw [bytes_size]; omega)
            rw [e1] at he
            have HE := Lib.hid he; clear he e1
            go_wp2
            go_ret
            exact ⟨ret_int (by rw [HC.out, HE.out]; rfl), rfl⟩
end Go.Proofs.Ytadibbbaegbljaa
