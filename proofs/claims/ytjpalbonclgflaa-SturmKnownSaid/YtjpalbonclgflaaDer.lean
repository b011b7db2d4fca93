/- polynomial.derivative, Derivative. -/
import Derived.Test.YtjpalbonclgflaaPrim
namespace Go.Proofs.Ytjpalbonclgflaa
open Go.RowKit

def derT (l : List Int) (k : Nat) : List Int := (List.range (k - 1)).map fun j => l.getD (j + 1) 0 * ((j + 1 : Nat) : Int)
def der (l : List Int) : List Int := derT l l.length
theorem derT_length (l : List Int) (k : Nat) : (derT l k).length = k - 1 := by simp [derT]
theorem derT_succ (l : List Int) {k : Nat} (h : 0 < k) {x : Int} (hx : l[k]? = some x) : derT l (k + 1) = derT l k ++ [x * (k : Int)] := by
 obtain ⟨j, rfl⟩ : ∃ j, k = j + 1 := ⟨k - 1, by omega⟩
 unfold derT
 rw [show j + 1 + 1 - 1 = (j + 1 - 1) + 1 by omega, List.range_succ, List.map_append]
 simp [List.getD, hx]
set_option maxRecDepth 100000 in
set_option maxHeartbeats 6400000 in
theorem derivative_any (l : List Int) (v : Value) (w : World) (m : Nat) (hr : Row w v l.length (civ l)) (hl : l.length ≤ 1000) (hs : ∀ x ∈ l, zs m x) (hm : m ≤ 100000000000) :
  Calls Try.prog 67 #[v] w (PolRet (der l) w) := by
 obtain ⟨va, vc, rfl, hle⟩ := hr.slice
 obtain ⟨n, hn⟩ : ∃ n, n = l.length := ⟨_, rfl⟩
 rw [← hn] at hr hle hl
 have HR := zh hr; clear hr
 have HN := zh hn; clear hn
 have HS := zh hs; clear hs
 go_enter Try.func67, Try.ntmps67
 rw [← HN.out]
 go_wp2_with fail
 go_loopw [3, 8] (fun u i wr => ∃ k : Nat, k ≤ n ∧ i = .int .i64 k ∧ wr.ownsRow w.heap.size 33 2 u (k - 1) (civ (derT l k)) ∧ Below w.heap.size w wr) (fun _ i _ => n - (intOf i).toNat)
 case atStart => exact ⟨0, Nat.zero_le _, rfl, World.ownsRow_nil _ _ _ _, Below.refl _ _⟩
 case round =>
  obtain ⟨k, hk, rfl, hown, hbel⟩ := hrel
  have hsz : w.heap.size ≤ wr.heap.size := hbel.size
  obtain ⟨wo, rfl⟩ : ∃ wo : World, wo = wr := ⟨_, rfl⟩
  by_cases hlt : k < n
  ·
   have hkl : k < l.length := by rw [← HN.out]; exact hlt
   have hget : l[k]? = some (l[k]'hkl) := List.getElem?_eq_getElem _
   obtain ⟨x, hx⟩ : ∃ x, x = l[k]'hkl := ⟨_, rfl⟩
   rw [← hx] at hget
   have hxs := HS.out x (by rw [hx]; exact List.getElem_mem _)
   obtain ⟨b1, o1, rfl, hb1, hbc⟩ := HR.out.at_ (by omega)
   obtain ⟨c0, c1⟩ := int_cells hbc hbel hb1 hget
   obtain ⟨a, cap, rfl⟩ := own_slice hown
   have hlt2 : (k : Int) < (n : Int) := by omega
   obtain ⟨w1, hw1⟩ : ∃ w1, w1 = wo.alloc (.cells #[.bool (ineg x), .string (imag x)] 33) := ⟨_, rfl⟩
   have ho1 := hown.alloc (.cells #[.bool (ineg x), .string (imag x)] 33)
   have s1 := hbel.alloc hsz (.cells #[.bool (ineg x), .string (imag x)] 33)
   have bx := Blk.new wo 33 [.bool (ineg x), .string (imag x)]
   obtain ⟨xb, hxb⟩ : ∃ b, b = wo.heap.size := ⟨_, rfl⟩
   rw [← hxb] at bx
   have hxbw : w.heap.size ≤ xb := by omega
   rw [← hw1] at ho1 s1 bx
   have d0 := bx.c 0 rfl
   have d1 := bx.c 1 rfl
   by_cases hk0 : k = 0
   ·
    have hkd : ¬ (0 : Int) < (k : Int) := by omega
    have hdd : derT l (k + 1) = derT l k := by rw [hk0]; rfl
    have hke : k + 1 - 1 = k - 1 := by omega
    have HO1 := zh ho1; clear ho1
    have S1 := zh s1; clear s1
    have HDD := zh hdd; clear hdd
    have HW1 := zh hw1; clear hw1
    clear hx hget hbc hkl bx hk0 hxb d0 d1
    go_wp2_with fail
    go_roundw
    case rel =>
     refine ⟨k + 1, by omega, by go_num, ?_, ?_⟩
     ·
      rw [HDD.out, hke, ← HW1.out]; exact HO1.out
     ·
      rw [← HW1.out]; exact S1.out
    case measure => simp [intOf]; omega
   ·
    have hkd : (0 : Int) < (k : Int) := by omega
    have hsucc := derT_succ l (k := k) (by omega) hget
    have hof := fun w' => iof_any (k : Int) w' (by omega) (by omega)
    have hki : (imag (k : Int)).size ≤ 8 := by
     rw [imag_size, Int.natAbs_natCast]
     exact bb_length_le (Nat.lt_of_lt_of_le (show k < 256 ^ 2 by omega) (by decide))
    have hmu := fun w' => imulV x (k : Int) w' (Nat.le_trans hxs.size (by omega)) (by omega)
    obtain ⟨y, hy⟩ : ∃ y, y = x * (k : Int) := ⟨_, rfl⟩
    rw [← hy] at hmu hsucc
    have hciv : civ (derT l (k + 1)) = civ (derT l k) ++ [.bool (ineg y), .string (imag y)] := by rw [hsucc]; exact civ_snoc _ _
    have hke : k - 1 + 1 = k + 1 - 1 := by omega
    have hne : (Value.slice a (k - 1) cap).ownBlock ≠ some xb := fun e => by have h9 := hown.lt _ e; omega
    have HNE := zh hne; clear hne
    have HO1 := zh ho1; clear ho1
    have S1 := zh s1; clear s1
    have BX := zh bx; clear bx
    have HW1 := zh hw1; clear hw1
    have HOF := zh hof; clear hof
    have HMU := zh hmu; clear hmu
    have HCIV := zh hciv; clear hciv
    have HXB := zh hxb; clear hxb
    clear hx hget hbc hkl hki hxs hsucc hy hown hbel
    go_wp2_with fail
    (try rw [← HW1.out])
    (try rw [← HXB.out])
    refine wp_region_held_drew (S := fun w' => w'.cell? ⟨xb, 0, none⟩ = some (.bool (ineg x)) ∧ w'.cell? ⟨xb, 1, none⟩ = some (.string (imag x))) (by kernel_rfl) ?_ (fun hHeld => ?_)
    ·
     go_keep
    have sV : Below w1.heap.size w1 w1.drew := (Below.refl _ w1).drew
    have hxl := BX.out.lt
    refine zT 0 (h := ?_)
    (try simp only [Act.put, zA, zB, zC])
    refine zT 1 (h := ?_)
    (try simp only [Act.put, zA, zB, zC])
    refine zT 2 (h := ?_)
    (try simp only [Act.put, zA, zB, zC])
    refine zR 3 (h := fun K hK => ?_)
    go_simp
    go_at_call 16
    refine (HOF.out _).mono ?_
    rintro e w2 ⟨hq2, rfl⟩
    dsimp only
    have z0 := zK hq2 (show xb < w1.heap.size from hxl) hHeld.1
    have z1 := zK hq2 (show xb < w1.heap.size from hxl) hHeld.2
    refine hK.out _ _ ⟨z0, z1⟩ (fun hHeld2 => ?_)
    have s2 : Below w1.heap.size w1 w2 := sV.trans hq2
    have hsz2 := s2.size
    clear hK K z0 z1 hq2 hHeld
    (try simp only [Act.put, zA, zB, zC])
    refine zR 4 (h := fun K hK => ?_)
    go_simp
    go_at_call 21
    refine (HMU.out _).mono ?_
    rintro e w3 ⟨hq3, rfl⟩
    dsimp only
    have z0 := zK hq3 (show xb < w2.heap.size by omega) hHeld2.1
    have z1 := zK hq3 (show xb < w2.heap.size by omega) hHeld2.2
    refine hK.out _ _ ⟨z0, z1⟩ (fun hHeld3 => ?_)
    have s3 : Below w1.heap.size w1 w3 := s2.trans (hq3.mono s2.size)
    clear hK K z0 z1 hq3 hHeld2 s2 sV
    (try simp only [Act.put, zA, zB, zC])
    have oM := own_below HO1.out s3
    have bM := S1.out.trans (s3.mono S1.out.size)
    have nM := BX.out.keep s3
    have oA := oM.alloc (.cells #[.bool (ineg y), .string (imag y)] 33)
    have bA := bM.alloc bM.size (.cells #[.bool (ineg y), .string (imag y)] 33)
    have nA := nM.alloc (.cells #[.bool (ineg y), .string (imag y)] 33)
    have rA : Row (w3.alloc (.cells #[.bool (ineg y), .string (imag y)] 33)) (.slice (some ⟨w3.heap.size, 0, none⟩) 1 1) 1 [.bool (ineg y), .string (imag y)] := Row.ofBlk (Blk.new w3 33 [.bool (ineg y), .string (imag y)]) (m := 1) (cap := 1) (Nat.le_refl _) (by unfold maxLen; omega) 2
    refine zR 5 (h := fun K hK => ?_)
    go_simp
    refine hK.out _ _ ⟨nA.c 0 rfl, nA.c 1 rfl⟩ (fun hHe => ?_)
    clear hK K
    (try simp only [Act.put, zA, zB, zC])
    refine zR 6 (h := fun K hK => ?_)
    refine step_append_row rfl _ _ 25 rfl w.heap.size 33 _ 2 24 Try.underlying25 infoZ rfl (by decide) _ (k - 1) _ (by rfl) oA _ 1 _ (by rfl) rA rfl (by simp [Value.oneCell']) (by unfold maxLen; omega) (by omega) bA.size ?_
    intro v9 W9 own9 hg9
    have s9 : Below w.heap.size w W9 := bA.grown hg9 bA.size (fun j hj => (oA.lt j hj).1)
    have n9 := nA.grown hg9 HNE.out
    refine hK.out _ _ ⟨n9.c 0 rfl, n9.c 1 rfl⟩ (fun hHf => ?_)
    clear hK K oA bA nA rA oM bM nM hHe hHeld3
    (try simp only [Act.put, zA, zB, zC])
    obtain ⟨a9, c9, rfl⟩ := own_slice own9
    rw [hke] at own9 ⊢
    have OWN9 := zh own9; clear own9
    have S9 := zh s9; clear s9
    clear n9 hg9
    refine zT 7 (h := ?_)
    (try simp only [Act.put, zA, zB, zC])
    refine wpAnyH_done (by kernel_rfl) ?_ _
    (try simp only [List.getElem_toArray, List.getElem_cons_zero, List.getElem_cons_succ, Act.put, zA, zB, zC])
    go_wp2_with fail
    go_roundw
    case rel => exact ⟨k + 1, by omega, by go_num, by rw [HCIV.out]; exact OWN9.out, S9.out⟩
    case measure => simp [intOf]; omega
  ·
   obtain rfl : k = n := by omega
   have hrow := own_row hown
   have hlen : (der l).length = k - 1 := by unfold der; rw [derT_length, ← HN.out]
   have hde : derT l k = der l := by unfold der; rw [← HN.out]
   rw [hde, ← hlen] at hrow
   have HROW := zh hrow; clear hrow
   have HBL := zh hbel; clear hbel
   clear hown hde hlen
   go_wp2_with fail
   go_ret
   exact ⟨HBL.out, _, rfl, HROW.out⟩
end Go.Proofs.Ytjpalbonclgflaa
