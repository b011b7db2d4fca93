/- The contracts of runlength.pair, last, valid, check, Valid, Greatest: they change nothing that was there. -/
import Derived.Test.YtadibbbaegbljaaWord
namespace Go.Proofs.Ytadibbbaegbljaa
open Go.RowKit

/-- d and k are a pair. -/
def pairB (d k : Int) : Bool := decide (0 ≤ d ∧ (k = -1 ∨ d ≤ k))
theorem pair_any (d k : Int) (w : World) : Calls Try.prog 41 #[.int .i64 d, .int .i64 k] w fun e w' => e = .returned (.bool (pairB d k)) ∧ w = w' := by
  by_cases h1 : 0 ≤ d
  · by_cases h2 : k = -1
    · subst h2
      have hp : pairB d (-1) = true := by simp [pairB, h1]
      have HP := Lib.hid hp; clear hp
      go_enter Try.func41, Try.ntmps41
      go_wp2
      go_ret
      exact ⟨by rw [HP.out]; rfl, rfl⟩
    · have h2b : (k == -1) = false := by simp [h2]
      by_cases h3 : d ≤ k
      · have hp : pairB d k = true := by simp [pairB, h1, h3]
        have HP := Lib.hid hp; clear hp
        go_enter Try.func41, Try.ntmps41
        go_wp2
        go_ret
        exact ⟨by rw [HP.out]; rfl, rfl⟩
      · have hp : pairB d k = false := by simp [pairB, h2, h3]
        have HP := Lib.hid hp; clear hp
        go_enter Try.func41, Try.ntmps41
        go_wp2
        go_ret
        exact ⟨by rw [HP.out]; rfl, rfl⟩
  · have hp : pairB d k = false := by simp [pairB]; omega
    have HP := Lib.hid hp; clear hp
    go_enter Try.func41, Try.ntmps41
    go_wp2
    go_ret
    exact ⟨by rw [HP.out]; rfl, rfl⟩
def lastI (d k : Int) : Int := if k = -1 then d else k
theorem last_any (d k : Int) (w : World) : Calls Try.prog 50 #[.int .i64 d, .int .i64 k] w fun e w' => e = .returned (.int .i64 (lastI d k)) ∧ w = w' := by
  by_cases h : k = -1
  · subst h
    have hp : lastI d (-1) = d := rfl
    have HP := Lib.hid hp; clear hp
    go_enter Try.func50, Try.ntmps50
    go_wp2
    go_ret
    exact ⟨by rw [HP.out]; rfl, rfl⟩
  · have hp : lastI d k = k := by simp [lastI, h]
    have hb : (k == -1) = false := by simp [h]
    have HP := Lib.hid hp; clear hp
    go_enter Try.func50, Try.ntmps50
    go_wp2
    go_ret
    exact ⟨by rw [HP.out]; rfl, rfl⟩

/-- What runlength.valid computes from position i on. -/
def vgo (d k : Int) : List UInt8 → Nat → Int → Bool → Nat
  | [], i, _, _ => i
  | c :: t, i, run, begun =>
    if c = 48 then (if 0 ≤ k ∧ k < run + 1 then i else vgo d k t (i + 1) (run + 1) begun)
    else (if begun = true ∧ run < d then i else vgo d k t (i + 1) 0 true)
/-- How many letters are a valid beginning. -/
def vlen (d k : Int) (l : List UInt8) : Nat := vgo d k l 0 0 false

set_option maxHeartbeats 800000 in
theorem valid_any (d k : Int) (s : ByteArray) (w : World) (hs : s.size ≤ 9223372036854775807) :
    Calls Try.prog 37 #[.int .i64 d, .int .i64 k, .string s] w fun e w' => e = .returned (.int .i64 (vlen d k s.data.toList)) ∧ w = w' := by
  go_enter Try.func37, Try.ntmps37
  go_wp2
  go_loop [7, 8, 12] (fun r b i => ∃ (n : Nat) (run : Int) (bg : Bool), n ≤ s.size ∧ 0 ≤ run ∧ run ≤ n ∧ r = .int .i64 run ∧ b = .bool bg ∧ i = .int .i64 n ∧ vgo d k (s.data.toList.drop n) n run bg = vlen d k s.data.toList) (fun _ _ i => s.size - (intOf i).toNat)
  case atStart => exact ⟨0, 0, false, by omega, by omega, by omega, rfl, rfl, rfl, by simp [vlen]⟩
  case round =>
    obtain ⟨n, run, bg, hn, hr0, hr1, rfl, rfl, rfl, he⟩ := hrel
    by_cases hlt : n < s.size
    · rw [drop_at s n hlt, vgo] at he
      by_cases hc : s[n] = 48
      · rw [if_pos hc] at he
        have hcb : (((s[n].toNat : Int)) == 48) = true := by rw [hc]; rfl
        clear hc
        by_cases h1 : 0 ≤ k ∧ k < run + 1
        · rw [if_pos h1] at he
          obtain ⟨h1a, h1b⟩ := h1
          have HE := Lib.hid he; clear he
          go_wp2
          go_ret
          exact ⟨by rw [← HE.out]; rfl, rfl⟩
        · rw [if_neg h1] at he
          have HE := Lib.hid he; clear he
          by_cases h2 : 0 ≤ k
          · have h3 : ¬ k < run + 1 := fun h => h1 ⟨h2, h⟩
            clear h1
            go_wp2
            go_round
            case rel => exact ⟨n + 1, run + 1, bg, by omega, by omega, by omega, rfl, rfl, by go_num, HE.out⟩
            case measure => simp [intOf]; omega
          · clear h1
            go_wp2
            go_round
            case rel => exact ⟨n + 1, run + 1, bg, by omega, by omega, by omega, rfl, rfl, by go_num, HE.out⟩
            case measure => simp [intOf]; omega
      · rw [if_neg hc] at he
        have hcb : (((s[n].toNat : Int)) == 48) = false := by
          rw [beq_eq_false_iff_ne]; intro e
          apply hc
          have : s[n].toNat = 48 := by omega
          rw [← UInt8.toNat_inj, this]; rfl
        clear hc
        cases bg with
        | true =>
          by_cases h1 : run < d
          · rw [if_pos ⟨rfl, h1⟩] at he
            have HE := Lib.hid he; clear he
            go_wp2
            go_ret
            exact ⟨by rw [← HE.out]; rfl, rfl⟩
          · rw [if_neg (fun h => h1 h.2)] at he
            have HE := Lib.hid he; clear he
            go_wp2
            go_round
            case rel => exact ⟨n + 1, 0, true, by omega, by omega, by omega, rfl, rfl, by go_num, HE.out⟩
            case measure => simp [intOf]; omega
        | false =>
          rw [if_neg (fun h => by cases h.1)] at he
          have HE := Lib.hid he; clear he
          go_wp2
          go_round
          case rel => exact ⟨n + 1, 0, true, by omega, by omega, by omega, rfl, rfl, by go_num, HE.out⟩
          case measure => simp [intOf]; omega
    · have hns : n = s.size := by omega
      rw [List.drop_of_length_le (by rw [bytes_size]; omega), vgo] at he
      have HE := Lib.hid he; clear he
      have HN := Lib.hid hns; clear hns
      go_wp2
      go_ret
      exact ⟨ret_int (by rw [← HE.out, HN.out]), rfl⟩

/-- The error of d, k and a word. -/
def rchk (d k : Int) (l : List UInt8) : Int := if pairB d k then wchk 2 l else 2
theorem rcheck_any (d k : Int) (s : ByteArray) (w : World) (hs : s.size ≤ 9223372036854775807) :
    Calls Try.prog 36 #[.int .i64 d, .int .i64 k, .string s] w (Ret w (.int .i64 (rchk d k s.data.toList))) := by
  by_cases hp : pairB d k = true
  · have hr : rchk d k s.data.toList = wchk 2 s.data.toList := by simp [rchk, hp]
    have HR := Lib.hid hr; clear hr
    go_enter Try.func36, Try.ntmps36
    go_wp2_with (first | (go_at_call 41; refine (pair_any _ _ _).mono ?_; rintro e w' ⟨rfl, rfl⟩) | (go_at_call 60; refine (wcheck_any _ _ _ hs).mono ?_; rintro e w1 ⟨hq, rfl⟩; have HQ := Lib.hid hq; clear hq))
    go_ret
    exact ⟨HQ.out, by rw [HR.out]; rfl⟩
  · have hp : pairB d k = false := by simpa using hp
    have hr : rchk d k s.data.toList = 2 := by simp [rchk, hp]
    have HR := Lib.hid hr; clear hr
    go_enter Try.func36, Try.ntmps36
    go_wp2_with (go_at_call 41; refine (pair_any _ _ _).mono ?_; rintro e w' ⟨rfl, rfl⟩)
    go_ret
    exact ⟨Below.refl _ _, by rw [HR.out]; rfl⟩
/-- Whether a word is valid. -/
def okW (d k : Int) (l : List UInt8) : Bool := vlen d k l == l.length
/-- What runlength.Valid says. -/
def validR (d k : Int) (l : List UInt8) : Bool := rchk d k l == 0 && okW d k l
set_option maxHeartbeats 800000 in
/-- runlength.Valid. -/
theorem Valid_any (d k : Int) (s : ByteArray) (w : World) (hs : s.size ≤ 9223372036854775807) :
    Calls Try.prog 13 #[.int .i64 d, .int .i64 k, .string s] w (Ret w (.tuple #[.bool (validR d k s.data.toList), .int .i64 (rchk d k s.data.toList)])) := by
  by_cases hp : rchk d k s.data.toList = 0
  · have hb : (rchk d k s.data.toList != 0) = false := by simp [hp]
    have hv : ((vlen d k s.data.toList : Int) == (s.size : Int)) = validR d k s.data.toList := by
      rw [validR, hp, okW, bytes_size, Bool.eq_iff_iff]; simp; omega
    have HP := Lib.hid hp; clear hp
    go_enter Try.func13, Try.ntmps13
    go_wp2_with (first | (go_at_call 36; refine (rcheck_any _ _ _ _ hs).mono ?_; rintro e w1 ⟨hq, rfl⟩; have HQ := Lib.hid hq; clear hq) | (go_at_call 37; refine (valid_any _ _ _ _ hs).mono ?_; rintro e w' ⟨rfl, rfl⟩))
    go_ret2
    refine ⟨HQ.out, ?_⟩
    rw [HP.out]; rfl
  · have hb : (rchk d k s.data.toList != 0) = true := by simp [hp]
    have hv : validR d k s.data.toList = false := by rw [validR]; simp [hp]
    have HV := Lib.hid hv; clear hv hp
    go_enter Try.func13, Try.ntmps13
    go_wp2_with (first | (go_at_call 36; refine (rcheck_any _ _ _ _ hs).mono ?_; rintro e w1 ⟨hq, rfl⟩; have HQ := Lib.hid hq; clear hq) | (go_at_call 37; refine (valid_any _ _ _ _ hs).mono ?_; rintro e w' ⟨rfl, rfl⟩))
    go_ret2
    refine ⟨HQ.out, ?_⟩
    rw [HV.out]; rfl
theorem vgo_le (d k : Int) : ∀ (l : List UInt8) (i : Nat) (run : Int) (bg : Bool), i ≤ vgo d k l i run bg ∧ vgo d k l i run bg ≤ i + l.length
  | [], i, _, _ => by simp [vgo]
  | c :: t, i, run, bg => by
    rw [vgo]
    have h1 := vgo_le d k t (i + 1) (run + 1) bg
    have h2 := vgo_le d k t (i + 1) 0 true
    simp only [List.length_cons]
    split <;> split <;> omega
theorem vlen_le (d k : Int) (l : List UInt8) : vlen d k l ≤ l.length := by
  have := (vgo_le d k l 0 0 false).2
  unfold vlen; omega
/-- What runlength.Greatest returns. -/
def greatestS (d k : Int) (s : ByteArray) : ByteArray := if rchk d k s.data.toList = 0 then s.extract 0 (vlen d k s.data.toList) else ⟨#[]⟩
set_option maxHeartbeats 800000 in
/-- runlength.Greatest. -/
theorem Greatest_any (d k : Int) (s : ByteArray) (w : World) (hs : s.size ≤ 9223372036854775807) :
    Calls Try.prog 19 #[.int .i64 d, .int .i64 k, .string s] w (Ret w (.tuple #[.string (greatestS d k s), .int .i64 (rchk d k s.data.toList)])) := by
  by_cases hp : rchk d k s.data.toList = 0
  · have hb : (rchk d k s.data.toList != 0) = false := by simp [hp]
    have hg : greatestS d k s = s.extract 0 (vlen d k s.data.toList) := if_pos hp
    have hle := vlen_le d k s.data.toList
    rw [bytes_size] at hle
    have HP := Lib.hid hp; clear hp
    have HG := Lib.hid hg; clear hg
    go_enter Try.func19, Try.ntmps19
    go_wp2_with (first | (go_at_call 36; refine (rcheck_any _ _ _ _ hs).mono ?_; rintro e w1 ⟨hq, rfl⟩; have HQ := Lib.hid hq; clear hq) | (go_at_call 37; refine (valid_any _ _ _ _ hs).mono ?_; rintro e w' ⟨rfl, rfl⟩))
    go_ret2
    refine ⟨HQ.out, ?_⟩
    rw [HP.out, HG.out]; rfl
  · have hb : (rchk d k s.data.toList != 0) = true := by simp [hp]
    have hg : greatestS d k s = ⟨#[]⟩ := if_neg hp
    have HG := Lib.hid hg; clear hg hp
    go_enter Try.func19, Try.ntmps19
    go_wp2_with (first | (go_at_call 36; refine (rcheck_any _ _ _ _ hs).mono ?_; rintro e w1 ⟨hq, rfl⟩; have HQ := Lib.hid hq; clear hq) | (go_at_call 37; refine (valid_any _ _ _ _ hs).mono ?_; rintro e w' ⟨rfl, rfl⟩))
    go_ret2
    refine ⟨HQ.out, ?_⟩
    rw [HG.out]; rfl
end Go.Proofs.Ytadibbbaegbljaa
