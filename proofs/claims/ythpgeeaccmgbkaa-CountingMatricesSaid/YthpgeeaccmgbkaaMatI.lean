/- matrix.scalar, Identity. -/
import Derived.Shelf.Abstract
import Derived.Test.YthpgeeaccmgbkaaMat
import Derived.Test.YthpgeeaccmgbkaaIntB
namespace Go.Proofs.Ythpgeeaccmgbkaa
open Go.RowKit

set_option maxRecDepth 100000 in
set_option maxHeartbeats 3200000 in
theorem scalar1_any (i k bn : Nat) (z : Int) (w : World) (hi : i ≤ 1000) (hk : k ≤ 1000) (hb : Blk w bn 28 [.bool (ineg z), .string (imag z)]) :
    Calls Try.prog 74 #[.int .i64 (i : Int), .int .i64 (k : Int), .pointer (some ⟨bn, 0, none⟩)] w (Ret w (IntV (if i = k then z else 0))) := by
  have x0 := hb.cell (j := 0) rfl
  have x1 := hb.cell (j := 1) rfl
  have hbl := hb.lt
  clear hb
  by_cases h : i = k
  · have t0 : ((i : Int) == (k : Int)) = true := by simp [h]
    have s1 := (Below.refl w.heap.size w).alloc (Nat.le_refl _) (.cells #[.bool (ineg z), .string (imag z)] 28)
    rw [if_pos h]
    have S1 := Lib.hid s1; clear s1
    clear h
    go_enter Try.func74, Try.ntmps74
    go_wp2_with fail
    exact bodyPost_ret (v := IntV z) (by simp [results, Try.results74, go_sem]; (try rfl)) rfl ⟨S1.out, rfl⟩
  · have t0 : ((i : Int) == (k : Int)) = false := by simp; omega
    have s1 := (Below.refl w.heap.size w).alloc (Nat.le_refl _) (.cells #[.bool false, .string ⟨#[]⟩] 28)
    rw [if_neg h]
    have S1 := Lib.hid s1; clear s1
    clear h
    go_enter Try.func74, Try.ntmps74
    go_wp2_with fail
    exact bodyPost_ret (v := IntV 0) (by simp [results, Try.results74, go_sem]; simp [IntV, ineg, imag, bb_zero]) rfl ⟨S1.out, rfl⟩
/-- z on the diagonal. -/
def diagF (z : Int) (i k : Nat) : Int := if i = k then z else 0
set_option maxRecDepth 100000 in
set_option maxHeartbeats 3200000 in
theorem scalar_any (n : Nat) (z : Int) (w : World) (hn : n ≤ 1000) :
    Calls Try.prog 54 #[IntV z, .int .i64 (n : Int)] w (MatRet n n (matF n n (diagF z)) w) := by
  have s0 := (Below.refl w.heap.size w).alloc (Nat.le_refl _) (.cells #[.bool (ineg z), .string (imag z)] 28)
  have b0 := Blk.new w 28 [.bool (ineg z), .string (imag z)]
  have ht := table_mat n n 74 #[.pointer (some ⟨w.heap.size, 0, none⟩)] (diagF z) (w.alloc (.cells #[.bool (ineg z), .string (imag z)] 28)) hn hn (enters_of Try.func74 (by kernel_rfl) rfl)
    (fun i k w' hi hk hb => scalar1_any i k w.heap.size z w' (by omega) (by omega) (b0.keep hb))
  have S0 := Lib.hid s0; clear s0
  have HT := Lib.hid ht; clear ht
  clear b0
  go_enter Try.func54, Try.ntmps54
  go_wp2_with fail
  go_at_call 73
  refine HT.out.mono ?_
  rintro e w1 ⟨hq, b, rfl, hm⟩
  have s1 := S0.out.trans (hq.mono S0.out.size)
  have hm1 := hm.mono S0.out.size
  have S1 := Lib.hid s1; clear s1
  have HM1 := Lib.hid hm1; clear hm1
  clear hq hm
  go_wp2_with fail
  go_ret
  exact ⟨S1.out, b, rfl, HM1.out⟩
set_option maxRecDepth 100000 in
set_option maxHeartbeats 3200000 in
theorem identity_any (n : Nat) (w : World) (h1 : 1 ≤ n) (hn : n ≤ 32) :
    Calls Try.prog 61 #[.int .i64 (n : Int)] w (fun e w' => Below w.heap.size w w' ∧ ∃ b, e = .returned (.tuple #[.slice (some ⟨b, 0, none⟩) n n, .int .i64 0]) ∧ MatB w.heap.size w' b n (matF n n (diagF 1))) := by
  have hof := fun w' => iof_any 1 w' (by decide) (by decide)
  have hsc := fun w' => scalar_any n 1 w' (by omega)
  have t0 : ¬ (n : Int) < 1 := by omega
  have t1 : ¬ (32 : Int) < (n : Int) := by omega
  have t2 : ¬ 32 < n := by omega
  have HOF := Lib.hid hof; clear hof
  have HSC := Lib.hid hsc; clear hsc
  go_enter Try.func61, Try.ntmps61
  go_wp2_with fail
  go_at_call 11
  refine (HOF.out _).mono ?_
  rintro e w1 ⟨hq, rfl⟩
  have S1 := Lib.hid hq; clear hq
  go_wp2_with fail
  go_at_call 54
  refine (HSC.out _).mono ?_
  rintro e w2 ⟨hq, b, rfl, hm⟩
  have s2 := S1.out.trans (hq.mono S1.out.size)
  have hm1 := hm.mono S1.out.size
  have S2 := Lib.hid s2; clear s2
  have HM1 := Lib.hid hm1; clear hm1
  clear hq hm
  go_wp2_with fail
  go_ret2
  exact ⟨S2.out, b, rfl, HM1.out⟩
end Go.Proofs.Ythpgeeaccmgbkaa
