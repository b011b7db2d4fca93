/- Contracts and plain laws of several functions, one after the other: RatT, CanI. -/
import Derived.Test.YtjpalbonclgflaaRatB
import Derived.Test.YtjpalbonclgflaaPart14
import Derived.Test.YtjpalbonclgflaaPart1
/- The table of the operations is read. -/
namespace Go.Proofs.Ytjpalbonclgflaa
open Go.RowKit

theorem idx0 (w : World) : (Instr.index 115 (.agg #[.func (.func 77) #[] #[], .func (.func 78) #[] #[], .func (.func 79) #[] #[], .func (.func 80) #[] #[]]) (.int .i64 0)).run Try.prog w = .ok (.agg #[.func (.func 77) #[] #[]]) w := by kernel_rfl
theorem idx1 (w : World) : (Instr.index 115 (.agg #[.func (.func 77) #[] #[], .func (.func 78) #[] #[], .func (.func 79) #[] #[], .func (.func 80) #[] #[]]) (.int .i64 1)).run Try.prog w = .ok (.agg #[.func (.func 78) #[] #[]]) w := by kernel_rfl
theorem idx2 (w : World) : (Instr.index 115 (.agg #[.func (.func 77) #[] #[], .func (.func 78) #[] #[], .func (.func 79) #[] #[], .func (.func 80) #[] #[]]) (.int .i64 2)).run Try.prog w = .ok (.agg #[.func (.func 79) #[] #[]]) w := by kernel_rfl
theorem idx3 (w : World) : (Instr.index 115 (.agg #[.func (.func 77) #[] #[], .func (.func 78) #[] #[], .func (.func 79) #[] #[], .func (.func 80) #[] #[]]) (.int .i64 3)).run Try.prog w = .ok (.agg #[.func (.func 80) #[] #[]]) w := by kernel_rfl
theorem fld0 (f : Nat) (w : World) : (Instr.field 114 (.agg #[.func (.func f) #[] #[]]) 0).run Try.prog w = .ok (.func (.func f) #[] #[]) w := by kernel_rfl
end Go.Proofs.Ytjpalbonclgflaa

/- polynomial.Canonical. -/
namespace Go.Proofs.Ytjpalbonclgflaa
open Go.RowKit

def tzI (l : List Int) : List Int := (l.reverse.dropWhile (· == 0)).reverse
theorem tzI_snoc_zero (l : List Int) : tzI (l ++ [0]) = tzI l := by simp [tzI]
theorem tzI_snoc_ne (l : List Int) {x : Int} (h : x ≠ 0) : tzI (l ++ [x]) = l ++ [x] := by simp [tzI, h]
theorem tzI_nil : tzI [] = [] := rfl
theorem eqI_dec (x y : Int) : (ineg x == ineg y && imag x == imag y) = decide (x = y) := by
 have hb : ∀ a b : ByteArray, (a == b) = decide (a = b) := fun a b => by
  rw [beq_toListBytes]
  by_cases h : a = b
  ·
   subst h; simp
  ·
   have h2 : ¬ a.toList = b.toList := fun e => h (str_ext (by rw [← ByteArray.toList_eq, ← ByteArray.toList_eq]; exact e))
   simp [h, h2]
 rw [hb]
 by_cases h : x = y
 ·
  subst h; simp
 ·
  rw [decide_eq_false h]
  by_cases h1 : ineg x = ineg y
  ·
   by_cases h2 : imag x = imag y
   ·
    exact absurd ((ival_canon x).symm.trans (by rw [h1, h2, ival_canon])) h
   ·
    simp [h2]
  ·
   simp [h1]
theorem eqIn_zero (x : Int) (w : World) : (Op.equalIn 10000 33 (.agg #[.bool (ineg x), .string (imag x)]) (.agg #[.bool false, .string ⟨#[]⟩])).run Try.prog w = .ok (decide (x = 0)) w := by
 have h := eqIn_int (ineg x) (ineg 0) (imag x) (imag 0) w
 rw [eqI_dec, imag_zero] at h
 exact h
def slLen : Value → Nat
 | .slice _ n _ => n
 | _ => 0
def CanRet (l : List Int) (w : World) (e : Ending) (w' : World) : Prop :=
 Below w.heap.size w w' ∧ ∃ v, e = .returned v ∧ Row w' v (tzI l).length (civ (tzI l))
theorem mkI0 (n : Nat) (h : n ≤ 1000000) (w : World) : (Instr.makeSlice 25 (.int .i64 0) (.int .i64 (n : Int))).run Try.prog w = .ok (.slice (some ⟨w.heap.size, 0, none⟩) 0 n) (w.alloc (.cells (zarr (.agg #[.bool false, .string ⟨#[]⟩]) n) 33)) :=
 mk_slice 25 33 _ 2 24 Try.underlying25 infoZ rfl .i64 .i64 0 n (Nat.zero_le _) (by omega) (by omega) 0 _ rfl rfl w
set_option maxRecDepth 100000 in
set_option maxHeartbeats 6400000 in
theorem canon_any (l : List Int) (v : Value) (w : World) (hr : Row w v l.length (civ l)) (hl : l.length ≤ 100000) (hs : ∀ x ∈ l, small x) :
  Calls Try.prog 19 #[v] w (CanRet l w) := by
 obtain ⟨va, vc, rfl, hle⟩ := hr.slice
 obtain ⟨i0, hi, hz0, hz1', hz2'⟩ := info_parts infoZ
 obtain ⟨n, hn⟩ : ∃ n, n = l.length := ⟨_, rfl⟩
 have hadd : ∀ x, x ∈ l → ∀ w', Calls Try.prog 20 #[IntV x, .agg #[.bool false, .string ⟨#[]⟩]] w' (Ret w' (IntV x)) := fun x hx w' => by
  have h := iadd_any (ineg x) (ineg 0) (imag x) (imag 0) w' (hs x hx) (by rw [imag_zero]; decide)
  rw [ival_canon, ival_canon, Int.add_zero, imag_zero] at h
  exact h
 rw [← hn] at hr hle hl
 have hmk := mkI0 n (by omega)
 have hmade := own_made w w.heap.size 33 (.agg #[.bool false, .string ⟨#[]⟩]) n (Nat.le_refl _) (by unfold maxLen; omega)
 have s0 := (Below.refl w.heap.size w).alloc (Nat.le_refl _) (.cells (zarr (.agg #[.bool false, .string ⟨#[]⟩]) n) 33)
 have HR := zh hr; clear hr
 have HN := zh hn; clear hn
 have HADD := zh hadd; clear hadd
 have HMADE := zh hmade; clear hmade
 have S0 := zh s0; clear s0
 clear hs
 go_enter Try.func19, Try.ntmps19
 rw [← HN.out]
 go_wp2_with fail
 go_loopw [3, 5, 11] (fun u _ i wr => ∃ k : Nat, k ≤ n ∧ i = .int .i64 k ∧ wr.ownsRow w.heap.size 33 2 u k (civ (l.take k)) ∧ Below w.heap.size w wr) (fun _ _ i _ => n - (intOf i).toNat)
 case atStart => exact ⟨0, Nat.zero_le _, rfl, HMADE.out, S0.out⟩
 case round =>
  obtain ⟨k, hk, rfl, hown, hbel⟩ := hrel
  have hsz : w.heap.size ≤ wr.heap.size := hbel.size
  obtain ⟨wo, rfl⟩ : ∃ wo : World, wo = wr := ⟨_, rfl⟩
  by_cases hlt : k < n
  ·
   have hkl : k < l.length := by rw [← HN.out]; exact hlt
   have hget : l[k]? = some (l[k]'hkl) := List.getElem?_eq_getElem _
   obtain ⟨x, hx⟩ : ∃ x, x = l[k]'hkl := ⟨_, rfl⟩
   rw [← hx] at hget
   have haddx := HADD.out x (by rw [hx]; exact List.getElem_mem _)
   have hz2 : civ (l.take (k + 1)) = civ (l.take k) ++ [.bool (ineg x), .string (imag x)] := by
    rw [List.take_add_one, hget]; exact civ_snoc _ _
   obtain ⟨b1, o1, rfl, hb1, hbc⟩ := HR.out.at_ (by omega)
   obtain ⟨c0, c1⟩ := int_cells hbc hbel hb1 hget
   obtain ⟨a, cap, rfl⟩ := own_slice hown
   have hix1 : (0 : Int) ≤ (k : Int) := by omega
   have hix2 : (k : Int) < (n : Int) := by omega
   have ho1 := hown.alloc (.cells #[.bool (ineg x), .string (imag x)] 33)
   have s1 := hbel.alloc hsz (.cells #[.bool (ineg x), .string (imag x)] 33)
   have bx := Blk.new wo 33 [.bool (ineg x), .string (imag x)]
   have d0 := bx.c 0 rfl
   have d1 := bx.c 1 rfl
   have HO1 := zh ho1; clear ho1
   have S1 := zh s1; clear s1
   have HZ2 := zh hz2; clear hz2
   have HADDX := zh haddx; clear haddx
   clear hx hget hbc hkl bx hown
   go_wp2_with fail
   go_at_call 20
   refine (HADDX.out _).mono ?_
   rintro e w2 ⟨hq2, rfl⟩
   have ho2 := own_below HO1.out hq2
   have hb2 := S1.out.trans (hq2.mono S1.out.size)
   have hsz2 : w.heap.size ≤ w2.heap.size := hb2.size
   have HO2 := zh ho2; clear ho2
   have HB2 := zh hb2; clear hb2
   clear hq2 d0 d1 c0 c1
   go_wp2_with (at_builtin; refine wpList_append_lies _ rfl (.tmp 15) (.tmp 19) 25 rfl w.heap.size 33 i0 _ 2 24 Try.underlying25 hi hz0 hz1' hz2' rfl (by decide) _ _ _ rfl (HO2.out.alloc _) _ 1 1 [.bool (ineg x), .string (imag x)] rfl rfl (World.news_of_block (heap_alloc_new _ _)) (by simp [Value.oneCell']) (by omega) (by unfold maxLen; omega) (by omega) (by simp; omega) _ rfl ?_; intro g cap' w3 hown' hg hat hlt'; have HG := zh hg; clear hg; have HO4 := zh hown'; clear hown'; have HAT := zh hat; clear hat)
   go_roundw
   case rel =>
    refine ⟨k + 1, by omega, by go_num, ?_, (HB2.out.alloc hsz2 _).grown HG.out (by simp; omega) (fun j hj => (HO2.out.lt j hj).1)⟩
    rw [HZ2.out]; exact HO4.out
   case measure => simp [intOf]; omega
  ·
   obtain rfl : k = n := by omega
   have htk : l.take k = l := List.take_of_length_le (by rw [← HN.out]; exact Nat.le_refl _)
   rw [htk] at hown
   have hrow := own_row hown
   have HROW := zh hrow; clear hrow
   have HB := zh hbel; clear hbel
   clear hown htk hlt hk
   go_wp2_with fail
   go_loopw [3] (fun u wr => ∃ m : Nat, m ≤ k ∧ Row wr u m (civ (l.take m)) ∧ tzI (l.take m) = tzI l ∧ Below wo.heap.size wo wr) (fun u _ => slLen u)
   case atStart => exact ⟨k, Nat.le_refl _, by rw [List.take_of_length_le (by rw [← HN.out]; exact Nat.le_refl _)]; exact HROW.out, by rw [List.take_of_length_le (by rw [← HN.out]; exact Nat.le_refl _)], Below.refl _ _⟩
   case round =>
    obtain ⟨m, hm, hrw, htz, hbw⟩ := hrel
    have s2 := HB.out.trans (hbw.mono HB.out.size)
    obtain ⟨ua, uc, rfl, hule⟩ := hrw.slice
    have HTZ := zh htz; clear htz
    have HBW := zh hbw; clear hbw
    have S2 := zh s2; clear s2
    cases m with
    | zero =>
     have HRW := zh hrw; clear hrw
     go_wp2_with fail
     go_ret
     refine ⟨S2.out, _, rfl, ?_⟩
     rw [← HTZ.out]
     exact HRW.out
    | succ m =>
     have hml : m < l.length := by rw [← HN.out]; omega
     have hget : l[m]? = some (l[m]'hml) := List.getElem?_eq_getElem _
     obtain ⟨x, hx⟩ : ∃ x, x = l[m]'hml := ⟨_, rfl⟩
     rw [← hx] at hget
     have htake : l.take (m + 1) = l.take m ++ [x] := by rw [List.take_add_one, hget]; rfl
     have hget2 : (l.take (m + 1))[m]? = some x := by rw [List.getElem?_take, if_pos (by omega)]; exact hget
     obtain ⟨b1, o1, rfl, hb1, hbc⟩ := hrw.at_ (by omega)
     obtain ⟨c0, c1⟩ := int_cells hbc (Below.refl wr.heap.size wr) hb1 hget2
     have hez := fun w' => eqIn_zero x w'
     have hpos : (0 : Int) < ((m : Int) + 1) := by omega
     have hcap : m + 1 ≤ uc := by
      rcases id hrw with ⟨h1, -, -⟩ | ⟨b, off, cap, h1, h2, h3, h4, h5⟩
      ·
       cases h1
      ·
       cases h1; exact h2
     have hcap1 : m ≤ uc := by omega
     have hcap0 : ¬ uc = 0 := by omega
     have hcut : Row wr (.slice (some ⟨b1, o1, none⟩) m uc) m (civ (l.take m)) := by
      rcases id hrw with ⟨h1, -, -⟩ | ⟨b, off, cap, h1, h2, h3, h4, h5⟩
      ·
       cases h1
      ·
       cases h1
       refine .inr ⟨_, _, _, rfl, by omega, h3, h4, fun j u hu => h5 j u ?_⟩
       rw [htake, civ_append, List.getElem?_append_left (List.getElem?_eq_some_iff.1 hu).1]
       exact hu
     have HCUT := zh hcut; clear hcut
     by_cases h0 : x = 0
     ·
      have hnx : tzI (l.take m) = tzI l := by rw [← HTZ.out, htake, h0, tzI_snoc_zero]
      rw [decide_eq_true h0] at hez
      have HNX := zh hnx; clear hnx
      clear hbc hget hget2 htake h0 hrw hml hx
      go_wp2_with fail
      go_roundw
      case rel => exact ⟨m, by omega, HCUT.out, HNX.out, HBW.out⟩
      case measure => simp [slLen]
     ·
      have hfin : tzI l = l.take (m + 1) := by rw [← HTZ.out, htake, tzI_snoc_ne _ h0]
      rw [decide_eq_false h0] at hez
      have hlen : (tzI l).length = m + 1 := by rw [hfin, List.length_take]; omega
      have HFIN := zh hfin; clear hfin
      have HLEN := zh hlen; clear hlen
      have HRW := zh hrw; clear hrw
      clear hbc hget hget2 htake h0 hml hx
      go_wp2_with fail
      go_ret
      refine ⟨S2.out, _, rfl, ?_⟩
      rw [HLEN.out, HFIN.out]
      exact HRW.out
end Go.Proofs.Ytjpalbonclgflaa

