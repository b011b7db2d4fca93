/- The contract of word.Check: the error of a word over the alphabet of q letters; it changes nothing. -/
import Derived.Test.YtadibbbaegbljaaShelf
import Derived.Test.YtadibbbaegbljaaBase
import Derived.Deep.QuietTactic
import Derived.BigQuiet
import Derived.Lib.IndexLaws
namespace Go.Proofs.Ytadibbbaegbljaa
open Go.RowKit

/-- All letters. -/
def letters : List UInt8 := [48, 49, 50, 51, 52, 53, 54, 55, 56, 57, 97, 98, 99, 100, 101, 102]
abbrev lettersS : ByteArray := ⟨#[48, 49, 50, 51, 52, 53, 54, 55, 56, 57, 97, 98, 99, 100, 101, 102]⟩
/-- Whether c is one of the first q letters. -/
def isLetter (q : Nat) (c : UInt8) : Bool := (letters.take q).contains c
/-- The error of a word. -/
def wchk (q : Int) (l : List UInt8) : Int :=
  if q < 1 ∨ 16 < q then 12 else if 65536 < l.length then 4 else if l.all (isLetter q.toNat) then 0 else 13
theorem idx_neg {l : List UInt8} {c : UInt8} (h : l.contains c = false) : Lib.indexByte l c = -1 := by
  have h1 := Lib.indexByte_ge l c
  rcases Int.lt_or_le (Lib.indexByte l c) 0 with h2 | h2
  · omega
  · obtain ⟨o, ho⟩ := Int.eq_ofNat_of_zero_le h2
    have h3 := (Lib.indexByte_some ho).1
    have h4 : c ∈ l := List.mem_of_getElem? h3
    rw [← List.contains_iff_mem, h] at h4
    cases h4
theorem idx_pos {l : List UInt8} {c : UInt8} (h : l.contains c = true) : 0 ≤ Lib.indexByte l c := by
  have h1 := Lib.indexByte_ge l c
  rcases Int.lt_or_le (Lib.indexByte l c) 0 with h2 | h2
  · have h3 := Lib.indexByte_none (show Lib.indexByte l c = -1 by omega)
    rw [List.contains_iff_mem] at h
    obtain ⟨k, hk⟩ := List.getElem?_of_mem h
    exact absurd hk (h3 k)
  · exact h2

/-- Whether there is an alphabet of q letters. -/
def knownB (q : Int) : Bool := decide (1 ≤ q ∧ q ≤ 16)
set_option maxRecDepth 100000 in
set_option maxHeartbeats 1600000 in
theorem known_any (q : Int) (w : World) : Calls Try.prog 84 #[.int .i64 q] w fun e w' => e = .returned (.bool (knownB q)) ∧ w = w' := by
  by_cases h1 : 1 ≤ q
  · by_cases h2 : q ≤ 16
    · have hd : knownB q = true := by simp [knownB, h1, h2]
      have HD := Lib.hid hd; clear hd
      go_enter Try.func84, Try.ntmps84
      go_wp2
      go_ret
      exact ⟨by rw [HD.out]; rfl, rfl⟩
    · have hd : knownB q = false := by simp [knownB]; omega
      have HD := Lib.hid hd; clear hd
      go_enter Try.func84, Try.ntmps84
      go_wp2
      go_ret
      exact ⟨by rw [HD.out]; rfl, rfl⟩
  · have hd : knownB q = false := by simp [knownB]; omega
    have HD := Lib.hid hd; clear hd
    go_enter Try.func84, Try.ntmps84
    go_wp2
    go_ret
    exact ⟨by rw [HD.out]; rfl, rfl⟩

theorem take_extract (q : Nat) : (lettersS.extract 0 q).data.toList = letters.take q := by
  rw [Lib.extract_data]; rfl

set_option maxRecDepth 100000 in
set_option maxHeartbeats 1600000 in
/-- word.Check. -/
theorem wcheck_any (q : Int) (s : ByteArray) (w : World) (hs : s.size ≤ 9223372036854775807) :
    Calls Try.prog 60 #[.int .i64 q, .string s] w (Ret w (.int .i64 (wchk q s.data.toList))) := by
  by_cases h1 : 1 ≤ q ∧ q ≤ 16
  · have hd : knownB q = true := by simp [knownB, h1]
    by_cases h2 : 65536 < s.size
    · have hc : wchk q s.data.toList = 4 := by rw [wchk, if_neg (by omega), if_pos (by rw [bytes_size]; exact h2)]
      have HC := Lib.hid hc; clear hc
      go_enter Try.func60, Try.ntmps60
      go_wp2_with (go_at_call 84; refine (known_any _ _).mono ?_; rintro e w' ⟨rfl, rfl⟩; rw [hd])
      go_ret
      exact ⟨Below.refl _ _, by rw [HC.out]; rfl⟩
    · obtain ⟨hq1, hq2⟩ := h1
      obtain ⟨n, rfl⟩ : ∃ n : Nat, q = (n : Int) := ⟨q.toNat, by omega⟩
      have hc : wchk (n : Int) s.data.toList = if s.data.toList.all (isLetter n) then 0 else 13 := by
        rw [wchk, if_neg (by omega), if_neg (by rw [bytes_size]; omega)]; rfl
      have HC := Lib.hid hc; clear hc
      have hsl : ∀ wx : World, (Instr.slice 9 (.string lettersS) none (some (.int .i64 (n : Int))) none).run Try.prog wx = .ok (.string (lettersS.extract 0 n)) wx := by
        intro wx
        have h := run_slice_string_h (P := Try.prog) wx 9 lettersS Try.underlying9 .i64 (n : Int) (by omega) (by show (n : Int) ≤ 16; omega)
        rw [h, Int.toNat_natCast]
      go_enter Try.func60, Try.ntmps60
      go_wp2_with (go_at_call 84; refine (known_any _ _).mono ?_; rintro e w' ⟨rfl, rfl⟩; rw [hd])
      go_loopw [16] (fun i wr => ∃ k : Nat, k ≤ s.size ∧ i = .int .i64 k ∧ Below w.heap.size w wr ∧ s.data.toList.all (isLetter n) = (s.data.toList.drop k).all (isLetter n)) (fun i _ => s.size - (intOf i).toNat)
      case atStart => exact ⟨0, Nat.zero_le _, rfl, Below.refl _ _, rfl⟩
      case round =>
        obtain ⟨k, hk, rfl, hbel, he⟩ := hrel
        have HB := Lib.hid hbel; clear hbel
        by_cases hlt : k < s.size
        · rw [drop_at s k hlt, List.all_cons] at he
          have hc8 : ((s[k].toNat : Int)).toNat.toUInt8 = s[k] := by simp
          by_cases hl : isLetter n s[k] = true
          · have hi := idx_pos hl
            rw [hl, Bool.true_and] at he
            have HE := Lib.hid he; clear he
            have hi2 : (0 : Int) ≤ Lib.indexByte (List.take n [48, 49, 50, 51, 52, 53, 54, 55, 56, 57, 97, 98, 99, 100, 101, 102]) s[k] := hi
            clear hi hl
            go_wp2_with fail
            go_quiet ((go_at_call 85; exact Calls.quiet_of_same (Try.strings_IndexByte _ _ _)))
            go_wp2_with fail
            go_roundw
            case rel => exact ⟨k + 1, by omega, by go_num, below_drewN HB.out _, HE.out⟩
            case measure => simp [intOf]; omega
          · have hl2 : isLetter n s[k] = false := by simpa using hl
            have hi := idx_neg hl2
            rw [hl2, Bool.false_and] at he
            have HE := Lib.hid he; clear he
            have hi2 : Lib.indexByte (List.take n [48, 49, 50, 51, 52, 53, 54, 55, 56, 57, 97, 98, 99, 100, 101, 102]) s[k] < 0 := by show Lib.indexByte (letters.take n) s[k] < 0; omega
            clear hi hl hl2
            go_wp2_with fail
            go_quiet ((go_at_call 85; exact Calls.quiet_of_same (Try.strings_IndexByte _ _ _)))
            go_wp2_with fail
            go_ret
            exact ⟨below_drewN HB.out _, by rw [HC.out, HE.out]; rfl⟩
        · have e1 : s.data.toList.drop k = [] := List.drop_of_length_le (by rw [bytes_size]; omega)
          rw [e1] at he
          have HE := Lib.hid he; clear he e1
          go_wp2_with fail
          go_ret
          exact ⟨HB.out, by rw [HC.out, HE.out]; rfl⟩
  · have hd : knownB q = false := by rw [knownB, decide_eq_false_iff_not]; exact h1
    have hc : wchk q s.data.toList = 12 := by rw [wchk, if_pos (by omega)]
    have HC := Lib.hid hc; clear hc
    go_enter Try.func60, Try.ntmps60
    go_wp2_with (go_at_call 84; refine (known_any _ _).mono ?_; rintro e w' ⟨rfl, rfl⟩; rw [hd])
    go_ret
    exact ⟨Below.refl _ _, by rw [HC.out]; rfl⟩
end Go.Proofs.Ytadibbbaegbljaa
