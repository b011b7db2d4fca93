/- Contracts and plain laws of several functions, one after the other: CloneI, Ints. -/
import Derived.Lib.SliceRun
import Derived.Test.YthpgeeaccmgbkaaPart5
import Derived.Test.YthpgeeaccmgbkaaPart2
/- slices.Clone at integers. -/
namespace Go.Proofs.Ythpgeeaccmgbkaa
open Go.RowKit

/-- A slice of integers of its own. -/
def IntsRet (w : World) (l : List Int) (e : Ending) (w' : World) : Prop :=
  Below w.heap.size w w' ∧ ∃ v, e = .returned v ∧ w'.ownsRow w.heap.size 28 2 v l.length (civ l)
set_option maxRecDepth 100000 in
set_option maxHeartbeats 3200000 in
theorem cloneI_any (l : List Int) (v : Value) (w : World) (hr : Row w v l.length (civ l)) (hlen : l.length ≤ 1000000000) :
    Calls Try.prog 45 #[v] w (IntsRet w l) := by
  rcases hr with ⟨rfl, h1, h2⟩ | ⟨b, off, cap, rfl, h1, h2, h3, h4⟩
  · have hd : l = [] := List.length_eq_zero_iff.1 h1
    subst hd
    clear h1 h2
    have hnil := fun (wx : World) => Lib.run_eql_slice_nil (P := Try.prog) wx 38 28 none 0 0 0 0 Try.underlying38
    simp only [Option.isNone_none] at hnil
    go_enter Try.func45, Try.ntmps45
    go_wp2_with fail
    go_ret
    exact ⟨Below.refl _ _, .slice none 0 0, rfl, World.ownsRow_nil _ _ _ _⟩
  · have hnil := fun (wx : World) => Lib.run_eql_slice_nil (P := Try.prog) wx 38 28 (some ⟨b, off, none⟩) l.length cap 0 0 Try.underlying38
    simp only [Option.isNone_some] at hnil
    obtain ⟨i0, hi, hz0, hz1, hz2⟩ := info_parts infoZ
    have hm0 := World.ownsRow_made w (#[] : Array Value) 0 (base := w.heap.size) (e := 28) (size := 2) (Nat.le_refl _) (Nat.zero_le _) rfl
    have hc : ∀ (j : Nat) (u : Value), (civ l)[j]? = some u → (w.alloc (.cells #[] 28)).cell? ((⟨b, off, none⟩ : Addr).add j) = some u := by
      intro j u hu
      have e : (⟨b, off, none⟩ : Addr).add j = ⟨b, off + j, none⟩ := by
        unfold Addr.add
        split
        · rename_i h0; subst h0; rfl
        · rfl
      rw [e, below_new w _ h3]; exact h4 j u hu
    have h1c : ∀ u ∈ civ l, u.oneCell' = true := by
      intro u hu
      simp only [civ, List.mem_flatMap] at hu
      obtain ⟨e, _, hu⟩ := hu
      simp only [List.mem_cons, List.not_mem_nil, or_false] at hu
      rcases hu with rfl | rfl <;> rfl
    have hcl := civ_length l
    have HM0 := Lib.hid hm0; clear hm0
    have HC := Lib.hid hc; clear hc
    have H1C := Lib.hid h1c; clear h1c
    have HCL := Lib.hid hcl; clear hcl
    clear h4
    go_enter Try.func45, Try.ntmps45
    go_wp2_with (at_builtin; refine wpList_append_own _ rfl (.tmp 5) (.tmp 6) 38 rfl w.heap.size 28 i0 _ 2 24 Try.underlying38 hi hz0 hz1 hz2 rfl (by decide) _ _ _ rfl HM0.out _ _ _ (civ l) rfl HCL.out HC.out H1C.out (by unfold maxLen; omega) (by omega) (by simp) ?_; intro v' w1 hown hg hnn)
    rw [Nat.zero_add, List.nil_append] at hown
    have HO := Lib.hid hown; clear hown
    have HG := Lib.hid hg; clear hg
    clear hnn
    go_wp2_with fail
    go_ret
    exact ⟨((Below.refl w.heap.size w).alloc (Nat.le_refl _) _).grown HG.out (by simp) (fun k hk => by cases hk; exact Nat.le_refl _), v', rfl, HO.out⟩
/-- An owned slice of integers as a block. -/
theorem own_blkI {w : World} {base n : Nat} {e : TypeId} {v : Value} {l : List Int} (h : w.ownsRow base e 2 v n (civ l)) (hn : n ≠ 0) (hl : l.length = n) : ∃ g cap rest, v = .slice (some ⟨g, 0, none⟩) n cap ∧ base ≤ g ∧ Blk w g e (civ l ++ rest) ∧ n ≤ cap ∧ cap ≤ maxLen := by
  rcases h.2 with ⟨_, h0⟩ | ⟨g, cap, cur, hv, h1, h2, h3, h4, h5, h6⟩
  · exact absurd h0 hn
  · refine ⟨g, cap, cur.toList.drop (n * 2), hv, h1, ?_, h3, h4⟩
    have e1 : civ l ++ cur.toList.drop (n * 2) = cur.toList := by
      rw [← h6, List.take_append_drop]
    rw [e1]
    unfold Blk; rw [Array.toArray_toList]; exact h2
/-- A block's beginning as a slice. -/
theorem blk_rowI {w : World} {b cap : Nat} {l : List Int} {rest : List Value} (h : Blk w b 28 (civ l ++ rest)) (h1 : l.length ≤ cap) (h2 : cap ≤ maxLen) : Row w (.slice (some ⟨b, 0, none⟩) l.length cap) l.length (civ l) := by
  have h3 := Row.ofBlk h (m := l.length) (cap := cap) h1 h2 (civ l).length
  rwa [List.take_left] at h3
end Go.Proofs.Ythpgeeaccmgbkaa

/- groovelaw22.ints. -/
namespace Go.Proofs.Ythpgeeaccmgbkaa
open Go.RowKit

theorem civ_snoc (l : List Int) (z : Int) : civ (l ++ [z]) = civ l ++ [.bool (ineg z), .string (imag z)] := by simp [civ]
set_option maxRecDepth 100000 in
set_option maxHeartbeats 3200000 in
theorem ints_any (l : List Int) (v : Value) (w : World) (hr : Row w v l.length (ci l)) (hl : l.length ≤ 100000) (hs : ∀ x ∈ l, -9223372036854775808 ≤ x ∧ x ≤ 9223372036854775807) :
    Calls Try.prog 28 #[v] w (IntsRet w l) := by
  obtain ⟨va, vc, rfl, hle⟩ := hr.slice
  obtain ⟨i0, hi, hz0, hz1', hz2'⟩ := info_parts infoZ
  obtain ⟨n, hn⟩ : ∃ n, n = l.length := ⟨_, rfl⟩
  have hof := fun x (hx : x ∈ l) w' => iof_any x w' (hs x hx).1 (hs x hx).2
  rw [← hn] at hr hle hl
  have HR := Lib.hid hr; clear hr
  have HN := Lib.hid hn; clear hn
  have HOF := Lib.hid hof; clear hof
  clear hs
  go_enter Try.func28, Try.ntmps28
  rw [← HN.out]
  go_wp2_with fail
  go_loopw [3, 5, 8] (fun u _ i wr => ∃ k : Nat, k ≤ n ∧ i = .int .i64 k ∧ wr.ownsRow w.heap.size 28 2 u k (civ (l.take k)) ∧ Below w.heap.size w wr) (fun _ _ i _ => n - (intOf i).toNat)
  case atStart => exact ⟨0, Nat.zero_le _, rfl, World.ownsRow_nil _ _ _ _, Below.refl _ _⟩
  case round =>
    obtain ⟨k, hk, rfl, hown, hbel⟩ := hrel
    have hsz : w.heap.size ≤ wr.heap.size := hbel.size
    by_cases hlt : k < n
    · have hkl : k < l.length := by rw [← HN.out]; exact hlt
      have hget : l[k]? = some (l[k]'hkl) := List.getElem?_eq_getElem _
      obtain ⟨x, hx⟩ : ∃ x, x = l[k]'hkl := ⟨_, rfl⟩
      rw [← hx] at hget
      have hofx := HOF.out x (by rw [hx]; exact List.getElem_mem _)
      have hz2 : civ (l.take (k + 1)) = civ (l.take k) ++ [.bool (ineg x), .string (imag x)] := by
        rw [List.take_add_one, hget]; exact civ_snoc _ _
      obtain ⟨b1, o1, rfl, hb1, hbc⟩ := HR.out.at_ (by omega)
      have hbj : wr.cell? ⟨b1, o1 + k, none⟩ = some (.int .i64 x) := (hbel.cell (p := ⟨b1, o1 + k, none⟩) hb1).trans (hbc k _ (by simp [ci, hget]))
      obtain ⟨a, cap, rfl⟩ := own_slice hown
      have hix1 : (0 : Int) ≤ (k : Int) := by omega
      have hix2 : (k : Int) < (n : Int) := by omega
      have HO := Lib.hid hown; clear hown
      have HB := Lib.hid hbel; clear hbel
      have HZ2 := Lib.hid hz2; clear hz2
      have HOFX := Lib.hid hofx; clear hofx
      clear hx hget hbc hkl
      go_wp2_with fail
      go_at_call 11
      refine (HOFX.out _).mono ?_
      rintro e w2 ⟨hq2, rfl⟩
      have ho2 := own_below HO.out hq2
      have hb2 := HB.out.trans (hq2.mono HB.out.size)
      have hsz2 : w.heap.size ≤ w2.heap.size := hb2.size
      have HO2 := Lib.hid ho2; clear ho2
      have HB2 := Lib.hid hb2; clear hb2
      clear hq2
      go_wp2_with (at_builtin; refine wpList_append_lies _ rfl (.tmp 12) (.tmp 15) 38 rfl w.heap.size 28 i0 _ 2 24 Try.underlying38 hi hz0 hz1' hz2' rfl (by decide) _ _ _ rfl (HO2.out.alloc _) _ 1 1 [.bool (ineg x), .string (imag x)] rfl rfl (World.news_of_block (heap_alloc_new _ _)) (by simp [Value.oneCell']) (by omega) (by unfold maxLen; omega) (by omega) (by simp; omega) _ rfl ?_; intro g cap' w3 hown' hg hat hlt'; have HG := Lib.hid hg; clear hg; have HO4 := Lib.hid hown'; clear hown'; have HAT := Lib.hid hat; clear hat)
      go_roundw
      case rel =>
        refine ⟨k + 1, by omega, by go_num, ?_, (HB2.out.alloc hsz2 _).grown HG.out (by simp; omega) (fun j hj => (HO2.out.lt j hj).1)⟩
        rw [HZ2.out]; exact HO4.out
      case measure => simp [intOf]; omega
    · obtain rfl : k = n := by omega
      have htk : l.take k = l := List.take_of_length_le (by rw [← HN.out]; exact Nat.le_refl _)
      rw [htk] at hown
      have HO := Lib.hid hown; clear hown
      have HB := Lib.hid hbel; clear hbel
      go_wp2_with fail
      go_ret
      exact ⟨HB.out, _, rfl, by rw [← HN.out]; exact HO.out⟩
end Go.Proofs.Ythpgeeaccmgbkaa

