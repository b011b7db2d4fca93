/- The reference of run lengths: pair, valid, check, Valid, Greatest. -/
import Derived.Test.YtadibbbaegbljaaRefW
import Derived.Test.YtadibbbaegbljaaPlainC
namespace Go.Proofs.Ytadibbbaegbljaa
open Go.RowKit

theorem rpair_any (d k : Int) (w : World) : Calls Try.prog 46 #[.int .i64 d, .int .i64 k] w fun e w' => e = .returned (.bool (pairB d k)) ∧ w = w' := by
  by_cases h1 : 0 ≤ d
  · by_cases h2 : k = -1
    · have hd : pairB d k = true := by simp [pairB, h1, h2]
      have h2b : (k == -1) = true := by simp [h2]
      have HD := Lib.hid hd; clear hd h2
      go_enter Try.func46, Try.ntmps46
      go_wp2
      go_ret
      exact ⟨by rw [HD.out]; rfl, rfl⟩
    · have h2b : (k == -1) = false := by simp [h2]
      by_cases h3 : d ≤ k
      · have hd : pairB d k = true := by simp [pairB, h1, h3]
        have HD := Lib.hid hd; clear hd h2
        go_enter Try.func46, Try.ntmps46
        go_wp2
        go_ret
        exact ⟨by rw [HD.out]; rfl, rfl⟩
      · have hd : pairB d k = false := by simp [pairB]; omega
        have HD := Lib.hid hd; clear hd h2
        go_enter Try.func46, Try.ntmps46
        go_wp2
        go_ret
        exact ⟨by rw [HD.out]; rfl, rfl⟩
  · have hd : pairB d k = false := by simp [pairB]; omega
    have HD := Lib.hid hd; clear hd
    go_enter Try.func46, Try.ntmps46
    go_wp2
    go_ret
    exact ⟨by rw [HD.out]; rfl, rfl⟩

theorem rvalid_any (d k : Int) (s : ByteArray) (w : World) (hs : s.size ≤ 9223372036854775807) :
    Calls Try.prog 40 #[.int .i64 d, .int .i64 k, .string s] w fun e w' => e = .returned (.bool (okB d k s.data.toList 0 false)) ∧ w = w' := by
  go_enter Try.func40, Try.ntmps40
  go_wp2
  go_loop [7, 8, 9] (fun r b i => ∃ (n : Nat) (run : Int) (bg : Bool), n ≤ s.size ∧ 0 ≤ run ∧ run ≤ n ∧ r = .int .i64 run ∧ b = .bool bg ∧ i = .int .i64 n ∧ okB d k (s.data.toList.drop n) run bg = okB d k s.data.toList 0 false) (fun _ _ i => s.size - (intOf i).toNat)
  case atStart => exact ⟨0, 0, false, by omega, by omega, by omega, rfl, rfl, rfl, by simp⟩
  case round =>
    obtain ⟨n, run, bg, hn, hr0, hr1, rfl, rfl, rfl, he⟩ := hrel
    by_cases hlt : n < s.size
    · rw [drop_at s n hlt, okB] at he
      by_cases hc : s[n] = 48
      · rw [if_pos hc] at he
        have hcb : (((s[n].toNat : Int)) == 48) = true := by rw [hc]; rfl
        clear hc
        by_cases h1 : 0 ≤ k ∧ k < run + 1
        · rw [if_pos h1] at he
          obtain ⟨h1a, h1b⟩ := h1
          have HE := Lib.hid he; clear he
          go_wp2
          go_ret
          exact ⟨by rw [← HE.out]; rfl, rfl⟩
        · rw [if_neg h1] at he
          have HE := Lib.hid he; clear he
          by_cases h2 : 0 ≤ k
          · have h3 : ¬ k < run + 1 := fun h => h1 ⟨h2, h⟩
            clear h1
            go_wp2
            go_round
            case rel => exact ⟨n + 1, run + 1, bg, by omega, by omega, by omega, rfl, rfl, by go_num, HE.out⟩
            case measure => simp [intOf]; omega
          · clear h1
            go_wp2
            go_round
            case rel => exact ⟨n + 1, run + 1, bg, by omega, by omega, by omega, rfl, rfl, by go_num, HE.out⟩
            case measure => simp [intOf]; omega
      · rw [if_neg hc] at he
        have hcb : (((s[n].toNat : Int)) == 48) = false := by
          rw [beq_eq_false_iff_ne]; intro e
          apply hc
          have : s[n].toNat = 48 := by omega
          rw [← UInt8.toNat_inj, this]; rfl
        clear hc
        cases bg with
        | true =>
          by_cases h1 : run < d
          · rw [if_pos ⟨rfl, h1⟩] at he
            have HE := Lib.hid he; clear he
            go_wp2
            go_ret
            exact ⟨by rw [← HE.out]; rfl, rfl⟩
          · rw [if_neg (fun h => h1 h.2)] at he
            have HE := Lib.hid he; clear he
            go_wp2
            go_round
            case rel => exact ⟨n + 1, 0, true, by omega, by omega, by omega, rfl, rfl, by go_num, HE.out⟩
            case measure => simp [intOf]; omega
        | false =>
          rw [if_neg (fun h => by cases h.1)] at he
          have HE := Lib.hid he; clear he
          go_wp2
          go_round
          case rel => exact ⟨n + 1, 0, true, by omega, by omega, by omega, rfl, rfl, by go_num, HE.out⟩
          case measure => simp [intOf]; omega
    · rw [List.drop_of_length_le (by rw [bytes_size]; omega), okB] at he
      have HE := Lib.hid he; clear he
      go_wp2
      go_ret
      exact ⟨by rw [← HE.out]; rfl, rfl⟩

theorem rrcheck_any (d k : Int) (s : ByteArray) (w : World) (hs : s.size ≤ 9223372036854775807) :
    Calls Try.prog 39 #[.int .i64 d, .int .i64 k, .string s] w fun e w' => e = .returned (.int .i64 (rchk d k s.data.toList)) ∧ w = w' := by
  by_cases hp : pairB d k = true
  · have hr : rchk d k s.data.toList = wchk 2 s.data.toList := by simp [rchk, hp]
    have HR := Lib.hid hr; clear hr
    go_enter Try.func39, Try.ntmps39
    go_wp2_with (first | (go_at_call 46; refine (rpair_any _ _ _).mono ?_; rintro e w' ⟨rfl, rfl⟩) | (go_at_call 62; refine (rwcheck_any _ _ _ hs).mono ?_; rintro e w1 ⟨rfl, rfl⟩))
    go_ret
    exact ⟨by rw [HR.out]; rfl, rfl⟩
  · have hp : pairB d k = false := by simpa using hp
    have hr : rchk d k s.data.toList = 2 := by simp [rchk, hp]
    have HR := Lib.hid hr; clear hr
    go_enter Try.func39, Try.ntmps39
    go_wp2_with (go_at_call 46; refine (rpair_any _ _ _).mono ?_; rintro e w' ⟨rfl, rfl⟩)
    go_ret
    exact ⟨by rw [HR.out]; rfl, rfl⟩
theorem okW_okB (d k : Int) (l : List UInt8) : okW d k l = okB d k l 0 false := by rw [Bool.eq_iff_iff, okW_iff, okB_iff]
theorem rValid_any (d k : Int) (s : ByteArray) (w : World) (hs : s.size ≤ 9223372036854775807) :
    Calls Try.prog 16 #[.int .i64 d, .int .i64 k, .string s] w fun e w' => e = .returned (.tuple #[.bool (validR d k s.data.toList), .int .i64 (rchk d k s.data.toList)]) ∧ w = w' := by
  by_cases hp : rchk d k s.data.toList = 0
  · have hb : (rchk d k s.data.toList != 0) = false := by simp [hp]
    have hv : okB d k s.data.toList 0 false = validR d k s.data.toList := by rw [validR, hp, okW_okB]; rfl
    have HP := Lib.hid hp; clear hp
    have HV := Lib.hid hv; clear hv
    go_enter Try.func16, Try.ntmps16
    go_wp2_with (first | (go_at_call 39; refine (rrcheck_any _ _ _ _ hs).mono ?_; rintro e w1 ⟨rfl, rfl⟩) | (go_at_call 40; refine (rvalid_any _ _ _ _ hs).mono ?_; rintro e w' ⟨rfl, rfl⟩))
    go_ret2
    refine ⟨?_, rfl⟩
    rw [HP.out, HV.out]; rfl
  · have hb : (rchk d k s.data.toList != 0) = true := by simp [hp]
    have hv : validR d k s.data.toList = false := by rw [validR]; simp [hp]
    have HV := Lib.hid hv; clear hv hp
    go_enter Try.func16, Try.ntmps16
    go_wp2_with (go_at_call 39; refine (rrcheck_any _ _ _ _ hs).mono ?_; rintro e w1 ⟨rfl, rfl⟩)
    go_ret2
    refine ⟨?_, rfl⟩
    rw [HV.out]; rfl

theorem okB_take (d k : Int) : ∀ (l : List UInt8) (m i : Nat) (r : Int) (bg : Bool), m ≤ l.length → okB d k (l.take m) r bg = decide (i + m ≤ vgo d k l i r bg)
  | [], m, i, r, bg, h => by
    have : m = 0 := by simpa using h
    subst this; simp [okB, vgo]
  | c :: t, 0, i, r, bg, _ => by
    have := (vgo_le d k (c :: t) i r bg).1
    simp [okB, this]
  | c :: t, m + 1, i, r, bg, h => by
    have hm : m ≤ t.length := by simpa using h
    rw [List.take_succ_cons, okB, vgo]
    by_cases hc : c = 48
    · rw [if_pos hc, if_pos hc]
      by_cases hk : 0 ≤ k ∧ k < r + 1
      · rw [if_pos hk, if_pos hk]; simp
      · rw [if_neg hk, if_neg hk, okB_take d k t m (i + 1) (r + 1) bg hm, show i + 1 + m = i + (m + 1) by omega]
    · rw [if_neg hc, if_neg hc]
      by_cases hk : bg = true ∧ r < d
      · rw [if_pos hk, if_pos hk]; simp
      · rw [if_neg hk, if_neg hk, okB_take d k t m (i + 1) 0 true hm, show i + 1 + m = i + (m + 1) by omega]

set_option maxRecDepth 100000 in
set_option maxHeartbeats 800000 in
theorem rGreatest_any (d k : Int) (s : ByteArray) (w : World) (hs : s.size ≤ 9223372036854775807) :
    Calls Try.prog 20 #[.int .i64 d, .int .i64 k, .string s] w fun e w' => e = .returned (.tuple #[.string (greatestS d k s), .int .i64 (rchk d k s.data.toList)]) ∧ w = w' := by
  have hs' : s.size ≤ 9223372036854775807 := by omega
  by_cases hp : rchk d k s.data.toList = 0
  · have hb : (rchk d k s.data.toList != 0) = false := by simp [hp]
    have hg : greatestS d k s = s.extract 0 (vlen d k s.data.toList) := if_pos hp
    have hle := vlen_le d k s.data.toList
    rw [bytes_size] at hle
    have HP := Lib.hid hp; clear hp
    have HG := Lib.hid hg; clear hg
    go_enter Try.func20, Try.ntmps20
    go_wp2_with (go_at_call 39; refine (rrcheck_any _ _ _ _ hs').mono ?_; rintro e w1 ⟨rfl, rfl⟩)
    go_loop [9] (fun i => ∃ n : Nat, n ≤ vlen d k s.data.toList ∧ i = .int .i64 n) (fun i => s.size - (intOf i).toNat)
    case atStart => exact ⟨0, Nat.zero_le _, rfl⟩
    case round =>
      obtain ⟨n, hn, rfl⟩ := hrel
      by_cases hlt : n < s.size
      · have hv := fun w' => rvalid_any d k (s.extract 0 (n + 1)) w' (by rw [ByteArray.size_extract]; omega)
        have hok := okB_take d k s.data.toList (n + 1) 0 0 false (by rw [bytes_size]; omega)
        rw [Nat.zero_add] at hok
        simp only [ext_list, hok] at hv
        by_cases hm : n + 1 ≤ vlen d k s.data.toList
        · have hm' : n + 1 ≤ vgo d k s.data.toList 0 0 false := hm
          simp only [decide_eq_true hm'] at hv
          have HV := Lib.hid hv; clear hv hok hm'
          go_wp2_with (go_at_call 40; refine (HV.out _).mono ?_; rintro e w' ⟨rfl, rfl⟩)
          go_round
          case rel => exact ⟨n + 1, hm, by go_num⟩
          case measure => simp [intOf]; omega
        · have hm' : ¬ n + 1 ≤ vgo d k s.data.toList 0 0 false := hm
          simp only [decide_eq_false hm'] at hv
          have HV := Lib.hid hv; clear hv hok hm'
          have hnv : n = vlen d k s.data.toList := by omega
          have HN := Lib.hid hnv; clear hnv
          go_wp2_with (go_at_call 40; refine (HV.out _).mono ?_; rintro e w' ⟨rfl, rfl⟩)
          go_ret2
          exact ⟨by rw [HP.out, HG.out, ← HN.out]; rfl, rfl⟩
      · have hnv : n = vlen d k s.data.toList := by omega
        have HN := Lib.hid hnv; clear hnv
        go_wp2
        go_ret2
        exact ⟨by rw [HP.out, HG.out, ← HN.out]; rfl, rfl⟩
  · have hb : (rchk d k s.data.toList != 0) = true := by simp [hp]
    have hg : greatestS d k s = ⟨#[]⟩ := if_neg hp
    have HG := Lib.hid hg; clear hg hp
    go_enter Try.func20, Try.ntmps20
    go_wp2_with (go_at_call 39; refine (rrcheck_any _ _ _ _ hs').mono ?_; rintro e w1 ⟨rfl, rfl⟩)
    go_ret2
    refine ⟨?_, rfl⟩
    rw [HG.out]; rfl
end Go.Proofs.Ytadibbbaegbljaa
