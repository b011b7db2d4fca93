/- The contracts of the laws' helpers: of, binary. -/
import Derived.Test.YtadibbbaegbljaaRun
namespace Go.Proofs.Ytadibbbaegbljaa
open Go.RowKit

def ofD (a : Int) : Int := a % 5
def ofK (a b : Int) : Int := if b % 7 = 6 then -1 else a % 5 + b % 7
theorem of_any (a b : Int) (w : World) (ha : 0 ≤ a ∧ a ≤ 255) (hb : 0 ≤ b ∧ b ≤ 255) :
    Calls Try.prog 11 #[.int .u8 a, .int .u8 b] w fun e w' => e = .returned (.tuple #[.int .i64 (ofD a), .int .i64 (ofK a b)]) ∧ w = w' := by
  obtain ⟨x, rfl⟩ : ∃ x : Nat, a = x := ⟨a.toNat, by omega⟩
  obtain ⟨y, rfl⟩ : ∃ y : Nat, b = y := ⟨b.toNat, by omega⟩
  have t1 : (x : Int).tmod 5 = ofD x := by rw [ofD, Int.tmod_eq_emod_of_nonneg (by omega)]
  have t2 : (y : Int).tmod 7 = (y : Int) % 7 := by rw [Int.tmod_eq_emod_of_nonneg (by omega)]
  by_cases h6 : y % 7 = 6
  · have hk : ofK x y = -1 := by unfold ofK; rw [if_pos (by omega)]
    have HK := Lib.hid hk; clear hk
    have t3 : ((y : Int) % 7 == 6) = true := by simp; omega
    go_enter Try.func11, Try.ntmps11
    go_wp2_with fail
    go_ret2
    exact ⟨by rw [HK.out]; rfl, rfl⟩
  · have hk : ofK x y = ofD x + (y : Int) % 7 := by unfold ofK ofD; rw [if_neg (by omega)]
    have HK := Lib.hid hk; clear hk
    have t3 : ((y : Int) % 7 == 6) = false := by simp; omega
    have hd : 0 ≤ ofD x ∧ ofD x < 5 := by unfold ofD; omega
    go_enter Try.func11, Try.ntmps11
    go_wp2_with fail
    go_ret2
    exact ⟨by rw [HK.out]; rfl, rfl⟩
theorem bit_u16 (v : Int) (h0 : 0 ≤ v) (h1 : v ≤ 65535) : ∃ c : UInt8, IntKind.u16.wrap (48 + bits BinOp.and IntKind.u16 v 1) % 256 = (c.toNat : Int) ∧ (c = 48 ∨ c = 49) := by
  obtain ⟨n, rfl⟩ : ∃ n : Nat, v = n := ⟨v.toNat, by omega⟩
  have hb : bits BinOp.and IntKind.u16 (n : Int) 1 = ((n % 2 : Nat) : Int) := by
    show IntKind.u16.wrap ((BitVec.ofInt 16 (n : Int) &&& BitVec.ofInt 16 1).toNat : Int) = _
    rw [BitVec.toNat_and]
    have e1 : (BitVec.ofInt 16 (n : Int)).toNat = n := by simp; omega
    have e2 : (BitVec.ofInt 16 1).toNat = 1 := by decide
    rw [e1, e2, Nat.and_one_is_mod]
    simp [IntKind.wrap, IntKind.bits, IntKind.signed]; omega
  rw [hb]
  rcases Nat.mod_two_eq_zero_or_one n with h | h <;> rw [h]
  · exact ⟨48, by decide, .inl rfl⟩
  · exact ⟨49, by decide, .inr rfl⟩
/-- What binary returns: a word of letters 0 and 1. -/
def IsWord (s : ByteArray) : Prop := s.size ≤ 10 ∧ ∀ c ∈ s.data.toList, c = 48 ∨ c = 49
def BinRet (w : World) (e : Ending) (w' : World) : Prop := Below w.heap.size w w' ∧ ∃ s, IsWord s ∧ e = .returned (.string s)

set_option maxRecDepth 100000 in
set_option maxHeartbeats 1600000 in
theorem binary_any (n : Int) (w : World) (hn : 0 ≤ n ∧ n ≤ 65535) : Calls Try.prog 12 #[.int .u16 n] w (BinRet w) := by
  obtain ⟨x, rfl⟩ : ∃ x : Nat, n = x := ⟨n.toNat, by omega⟩
  have t1 : (x : Int).tdiv 1024 = ((x / 1024 : Nat) : Int) := by rw [Int.tdiv_eq_ediv_of_nonneg (by omega)]; rfl
  have t2 : ((x / 1024 : Nat) : Int).tmod 11 = ((x / 1024 % 11 : Nat) : Int) := by rw [Int.tmod_eq_emod_of_nonneg (by omega)]; rfl
  obtain ⟨m, hm⟩ : ∃ m, m = x / 1024 % 11 := ⟨_, rfl⟩
  have hm10 : m ≤ 10 := by omega
  rw [← hm] at t2
  go_enter Try.func12, Try.ntmps12
  go_wp2_with fail
  go_loopw [4, 11] (fun u i wr => ∃ (j : Nat) (s : ByteArray), j ≤ m ∧ i = .int .i64 j ∧ u = .string s ∧ s.size = j ∧ (∀ c ∈ s.data.toList, c = 48 ∨ c = 49) ∧ Below w.heap.size w wr) (fun _ i _ => m - (intOf i).toNat)
  case atStart => exact ⟨0, ⟨#[]⟩, by omega, rfl, rfl, rfl, by simp, Below.refl _ _⟩
  case round =>
    obtain ⟨j, s, hj, rfl, rfl, hs, hc, hb⟩ := hrel
    by_cases hlt : j < m
    · have hb1 := bit_u16 ((x : Int) / 2 ^ j) (Int.ediv_nonneg (by omega) (Int.pow_nonneg (by omega))) (Int.le_trans (Int.ediv_le_self _ (by omega)) hn.2)
      obtain ⟨c, hc1, hc2⟩ := hb1
      have hrow := Row.ofBlk (Blk.new wr 5 [.int .u8 (c.toNat : Int)]) (m := 1) (cap := 1) (Nat.le_refl _) (by decide) 1
      have hconv : (convert 29 9 (.slice (some ⟨wr.heap.size, 0, none⟩) 1 1)).run Try.prog (wr.alloc (.cells #[.int .u8 (c.toNat : Int)] 5)) = .ok (.string ⟨#[c]⟩) (wr.alloc (.cells #[.int .u8 (c.toNat : Int)] 5)) := conv_row (P := Try.prog) (wr.alloc (.cells #[.int .u8 (c.toNat : Int)] 5)) 29 9 5 Try.underlying29 Try.underlying5 Try.underlying9 (some ⟨wr.heap.size, 0, none⟩) 1 [c] hrow
      clear hrow
      have hs' : j + 1 ≤ 11 := by omega
      have HB := Lib.hid hb; clear hb
      have HC := Lib.hid hc; clear hc
      have HC2 := Lib.hid hc2; clear hc2
      go_wp2_with fail
      go_roundw
      case rel =>
        refine ⟨j + 1, s ++ ⟨#[c]⟩, by omega, by go_num, rfl, by rw [ByteArray.size_append, hs]; rfl, ?_, HB.out.alloc HB.out.size _⟩
        intro d hd
        rw [ByteArray.data_append, Array.toList_append, List.mem_append] at hd
        rcases hd with hd | hd
        · exact HC.out d hd
        · have : d = c := by simpa using hd
          rw [this]; exact HC2.out
      case measure => simp [intOf]; omega
    · go_wp2_with fail
      go_ret
      exact ⟨hb, s, ⟨by omega, hc⟩, rfl⟩
end Go.Proofs.Ytadibbbaegbljaa
