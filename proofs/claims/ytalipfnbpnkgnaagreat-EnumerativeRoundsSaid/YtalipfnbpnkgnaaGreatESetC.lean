/- enumerative.checkSet and checkAll. -/
import Derived.Test.YtalipfnbpnkgnaaGreatPart3
import Derived.Test.YtalipfnbpnkgnaaGreatPart6
namespace Go.Proofs.YtalipfnbpnkgnaaGreat
open Go.RowKit

/-- The error of a set of states: pr is the state in front. -/
def cset (S : Int) : Option Int → List Int → Int
  | _, [] => 0
  | none, s :: r => if s < 0 ∨ S ≤ s then 25 else cset S (some s) r
  | some q, s :: r => if s < 0 ∨ S ≤ s then 25 else if s ≤ q then 10 else cset S (some s) r
theorem cset_out {S : Int} {pr : Option Int} {s : Int} {r : List Int} (h : s < 0 ∨ S ≤ s) : cset S pr (s :: r) = 25 := by
  cases pr <;> simp only [cset] <;> rw [if_pos h]
theorem cset_le {S q s : Int} {r : List Int} (h : ¬ (s < 0 ∨ S ≤ s)) (h2 : s ≤ q) : cset S (some q) (s :: r) = 10 := by
  simp only [cset]; rw [if_neg h, if_pos h2]
theorem cset_gt {S q s : Int} {r : List Int} (h : ¬ (s < 0 ∨ S ≤ s)) (h2 : ¬ s ≤ q) : cset S (some q) (s :: r) = cset S (some s) r := by
  simp only [cset]; rw [if_neg h, if_neg h2]
theorem cset_first {S s : Int} {r : List Int} (h : ¬ (s < 0 ∨ S ≤ s)) : cset S none (s :: r) = cset S (some s) r := by
  simp only [cset]; rw [if_neg h]
theorem cset_ok {S : Nat} : ∀ (l : List Int) (pr : Option Int), (∀ x ∈ l, 0 ≤ x ∧ x < (S : Int)) → l.Pairwise (· < ·) → (∀ q, pr = some q → ∀ x ∈ l, q < x) → cset (S : Int) pr l = 0
  | [], pr, _, _, _ => by cases pr <;> rfl
  | s :: r, pr, h1, h2, h3 => by
    have hs := h1 s (List.mem_cons_self ..)
    have hr := cset_ok r (some s) (fun x hx => h1 x (List.mem_cons_of_mem _ hx)) (List.pairwise_cons.1 h2).2 (fun q hq x hx => by
      simp only [Option.some.injEq] at hq
      subst hq
      exact (List.pairwise_cons.1 h2).1 x hx)
    cases pr with
    | none => rw [cset_first (by omega)]; exact hr
    | some q => rw [cset_gt (by omega) (by have := h3 q rfl s (List.mem_cons_self ..); omega)]; exact hr
/-- The state in front of place j. -/
def prevS (l : List Int) (j : Nat) : Option Int := match j with | 0 => none | i + 1 => l[i]?
set_option maxRecDepth 100000 in
set_option maxHeartbeats 3200000 in
theorem checkset_any (L : Int) (S : Nat) (v vs : Value) (l : List Int) (w : World) (hr : Row w vs l.length (ci l)) (hl : l.length ≤ 1000000) :
    Calls Tryz.prog 67 #[.agg #[.int .i64 L, .int .i64 (S : Int), v], vs] w (Ret w (.int .i64 (cset (S : Int) none l))) := by
  obtain ⟨sa, sc, rfl, hsle⟩ := hr.slice
  obtain ⟨m, hm⟩ : ∃ m, m = l.length := ⟨_, rfl⟩
  have b0 := Blk.new w 24 [.int .i64 L, .int .i64 (S : Int), v]
  have x1 := b0.cell (j := 1) rfl
  have s0 := (Below.refl w.heap.size w).alloc (Nat.le_refl _) (.cells #[.int .i64 L, .int .i64 (S : Int), v] 24)
  have hr0 := hr.below s0 (Nat.le_refl _)
  obtain ⟨R, hR⟩ : ∃ R, R = cset (S : Int) none l := ⟨_, rfl⟩
  rw [← hR]
  rw [← hm] at hr0 hl hsle ⊢
  have HRR := Lib.hid hR; clear hR
  have S0 := Lib.hid s0; clear s0
  have HR := Lib.hid hr0; clear hr0
  have HM := Lib.hid hm; clear hm
  clear hr b0
  go_enter Tryz.func67, Tryz.ntmps67
  go_wp2_with fail
  go_loopw [9] (fun i wr => ∃ j : Nat, j ≤ m ∧ i = .int .i64 j ∧ wr = w.alloc (.cells #[.int .i64 L, .int .i64 (S : Int), v] 24) ∧ R = cset (S : Int) (prevS l j) (l.drop j)) (fun i _ => m - (intOf i).toNat)
  case atStart => exact ⟨0, Nat.zero_le _, rfl, rfl, HRR.out⟩
  case round =>
    obtain ⟨j, hj, rfl, rfl, hno⟩ := hrel
    by_cases hlt : j < m
    · have hjl : j < l.length := by rw [← HM.out]; exact hlt
      have hget : l[j]? = some (l[j]'hjl) := List.getElem?_eq_getElem _
      obtain ⟨y, hy⟩ : ∃ y, y = l[j]'hjl := ⟨_, rfl⟩
      rw [List.drop_eq_getElem_cons hjl, ← hy] at hno
      rw [← hy] at hget
      obtain ⟨b, off, rfl, hbw, hce⟩ := HR.out.at_ (by omega)
      have c0 := hce j _ (ci_at hget)
      have hix : (0 : Int) ≤ (j : Int) := by omega
      by_cases hy0 : y < 0
      · rw [cset_out (.inl hy0)] at hno
        have HNO := Lib.hid hno; clear hno
        clear hce hget hy
        go_wp2_with fail
        go_ret
        exact ⟨S0.out, by rw [HNO.out]; rfl⟩
      · by_cases hyS : (S : Int) ≤ y
        · rw [cset_out (.inr hyS)] at hno
          have HNO := Lib.hid hno; clear hno
          clear hce hget hy
          go_wp2_with fail
          go_ret
          exact ⟨S0.out, by rw [HNO.out]; rfl⟩
        · have hyo : ¬ (y < 0 ∨ (S : Int) ≤ y) := by omega
          cases j with
          | zero =>
            replace c0 : (w.alloc (.cells #[.int .i64 L, .int .i64 (S : Int), v] 24)).cell? ⟨b, off, none⟩ = some (.int .i64 y) := c0
            have hno2 : R = cset (S : Int) (prevS l 1) (l.drop 1) := by
              rw [show prevS l 1 = some y from hget]
              rw [show prevS l 0 = none from rfl, cset_first hyo] at hno
              exact hno
            have HNO := Lib.hid hno2; clear hno2
            clear hno hce hget hy
            go_wp2_with fail
            go_roundw
            case rel => exact ⟨1, by omega, by go_num, trivial, HNO.out⟩
            case measure => simp [intOf]; omega
          | succ i =>
            have hil : i < l.length := by omega
            have hgi : l[i]? = some (l[i]'hil) := List.getElem?_eq_getElem _
            obtain ⟨z, hz⟩ : ∃ z, z = l[i]'hil := ⟨_, rfl⟩
            rw [← hz] at hgi
            have d0 := hce i _ (ci_at hgi)
            have hi0 : (0 : Int) ≤ ((i + 1 : Nat) : Int) - 1 := by omega
            have hi1 : ((i + 1 : Nat) : Int) - 1 = (i : Int) := by omega
            rw [show prevS l (i + 1) = some z from hgi] at hno
            by_cases hle : y ≤ z
            · rw [cset_le hyo hle] at hno
              have HNO := Lib.hid hno; clear hno
              clear hce hget hy hgi hz
              go_wp2_with fail
              go_ret
              exact ⟨S0.out, by rw [HNO.out]; rfl⟩
            · have hno2 : R = cset (S : Int) (prevS l (i + 1 + 1)) (l.drop (i + 1 + 1)) := by
                rw [show prevS l (i + 1 + 1) = some y from hget]
                rw [cset_gt hyo hle] at hno
                exact hno
              have HNO := Lib.hid hno2; clear hno2
              clear hno hce hget hy hgi hz
              go_wp2_with fail
              go_roundw
              case rel => exact ⟨i + 1 + 1, by omega, by go_num, trivial, HNO.out⟩
              case measure => simp [intOf]; omega
    · obtain rfl : j = m := by omega
      rw [List.drop_of_length_le (by rw [HM.out]; exact Nat.le_refl _)] at hno
      have hno2 : R = 0 := by rw [hno]; cases prevS l j <;> rfl
      have HNO := Lib.hid hno2; clear hno2
      clear hno
      go_wp2_with fail
      go_ret
      exact ⟨S0.out, by rw [HNO.out]; rfl⟩
/-- The error of a graph, a set, a state and a length. -/
def eall (L S : Int) (es : List E3) (l : List Int) (s n : Int) : Int := if eck L S es ≠ 0 then eck L S es else if cset S none l ≠ 0 then cset S none l else elen S s n
set_option maxRecDepth 100000 in
set_option maxHeartbeats 3200000 in
theorem checkall_any (L : Int) (S : Nat) (s n : Int) (es : List E3) (v vs : Value) (l : List Int) (w : World) (hr : Row w v es.length (ce es)) (hok : okEs es) (hrs : Row w vs l.length (ci l)) (hl : l.length ≤ 1000000) :
    Calls Tryz.prog 31 #[.agg #[.int .i64 L, .int .i64 (S : Int), v], vs, .int .i64 s, .int .i64 n] w (Ret w (.int .i64 (eall L (S : Int) es l s n))) := by
  obtain ⟨va, vc, rfl, hle⟩ := hr.slice
  obtain ⟨sa, sc, rfl, hsle⟩ := hrs.slice
  obtain ⟨mm, hmm⟩ : ∃ mm, mm = es.length := ⟨_, rfl⟩
  obtain ⟨m, hm⟩ : ∃ m, m = l.length := ⟨_, rfl⟩
  have b0 := Blk.new w 24 [.int .i64 L, .int .i64 (S : Int), .slice va es.length vc]
  have s0 := (Below.refl w.heap.size w).alloc (Nat.le_refl _) (.cells #[.int .i64 L, .int .i64 (S : Int), .slice va es.length vc] 24)
  have hr0 := hr.below s0 (Nat.le_refl _)
  have hrs0 := hrs.below s0 (Nat.le_refl _)
  have hck := echeck_any L (S : Int) es _ _ hr0 hok
  have hcs := fun w' (h : Row w' (.slice sa l.length sc) l.length (ci l)) => checkset_any L S (.slice va es.length vc) (.slice sa l.length sc) l w' h hl
  have hel := fun w' => elen_any L (S : Int) s n (.slice va es.length vc) w'
  obtain ⟨R, hR⟩ : ∃ R, R = eall L (S : Int) es l s n := ⟨_, rfl⟩
  rw [← hR]
  unfold eall at hR
  obtain ⟨A, hA⟩ : ∃ A, A = eck L (S : Int) es := ⟨_, rfl⟩
  obtain ⟨B, hB⟩ : ∃ B, B = cset (S : Int) none l := ⟨_, rfl⟩
  obtain ⟨C, hC⟩ : ∃ C, C = elen (S : Int) s n := ⟨_, rfl⟩
  rw [← hA, ← hB, ← hC] at hR
  rw [← hA] at hck
  rw [← hB] at hcs
  rw [← hC] at hel
  rw [← hmm] at b0 s0 hr0 hrs0 hck hcs hel hle ⊢
  rw [← hm] at hrs0 hcs hl hsle ⊢
  have HMM := Lib.hid hmm; clear hmm
  have HM := Lib.hid hm; clear hm
  have HRR := Lib.hid hR; clear hR
  have HCK := Lib.hid hck; clear hck
  have HCS := Lib.hid hcs; clear hcs
  have HEL := Lib.hid hel; clear hel
  have S0 := Lib.hid s0; clear s0
  have B0 := Lib.hid b0; clear b0
  have HR0 := Lib.hid hrs0; clear hrs0
  clear hr hr0 hrs hok hA hB hC
  go_enter Tryz.func31, Tryz.ntmps31
  go_wp2_with fail
  go_at_call 53
  refine HCK.out.mono ?_
  rintro e w1 ⟨hq, rfl⟩
  have s1 := S0.out.trans (hq.mono S0.out.size)
  have hr1 := HR0.out.below hq (Nat.le_refl _)
  have tk := B0.out.keep hq; have x0 := tk.cell (j := 0) rfl; have x1 := tk.cell (j := 1) rfl; have x2 := tk.cell (j := 2) rfl; have C0 := Lib.hid tk; clear tk
  have S1 := Lib.hid s1; clear s1
  have HR1 := Lib.hid hr1; clear hr1
  clear hq
  by_cases hA : A = 0
  · have hR1 := HRR.out
    rw [if_neg (by simpa using hA)] at hR1
    subst hA
    have HRB := Lib.hid hR1; clear hR1
    go_wp2_with fail
    go_at_call 67
    refine (HCS.out _ HR1.out).mono ?_
    rintro e w2 ⟨hq, rfl⟩
    have s2 := S1.out.trans (hq.mono S1.out.size)
    clear x0 x1 x2
    have tk := C0.out.keep hq; have x0 := tk.cell (j := 0) rfl; have x1 := tk.cell (j := 1) rfl; have x2 := tk.cell (j := 2) rfl; have D0 := Lib.hid tk; clear tk
    have S2 := Lib.hid s2; clear s2
    clear hq
    by_cases hB : B = 0
    · have hR2 := HRB.out
      rw [if_neg (by simpa using hB)] at hR2
      subst hB
      have HRC := Lib.hid hR2; clear hR2
      go_wp2_with fail
      go_at_call 54
      refine (HEL.out _).mono ?_
      rintro e w3 ⟨hq, rfl⟩
      have s3 := S2.out.trans (hq.mono S2.out.size)
      have S3 := Lib.hid s3; clear s3
      clear hq
      go_wp2_with fail
      go_ret
      exact ⟨S3.out, by rw [HRC.out]; rfl⟩
    · have hR2 := HRB.out
      rw [if_pos (by simpa using hB)] at hR2
      have HRC := Lib.hid hR2; clear hR2
      go_wp2_with fail
      go_ret
      exact ⟨S2.out, by rw [HRC.out]; rfl⟩
  · have hR1 := HRR.out
    rw [if_pos (by simpa using hA)] at hR1
    have HRB := Lib.hid hR1; clear hR1
    go_wp2_with fail
    go_ret
    exact ⟨S1.out, by rw [HRB.out]; rfl⟩
theorem eall_ok {L : Int} {S : Nat} {es : List E3} {l : List Int} {s n : Nat} (hE : eck L (S : Int) es = 0) (hl : SomeS S l) (hs : s < S) (hn : n ≤ 4096) : eall L (S : Int) es l (s : Int) (n : Int) = 0 := by
  unfold eall
  rw [if_neg (by simp [hE]), if_neg]
  · unfold elen
    rw [if_neg (by omega), if_neg (by omega)]
  · have := cset_ok (S := S) l none (fun x hx => by have := hl.1 x hx; omega) hl.2 (fun q hq => by cases hq)
    simp [this]
end Go.Proofs.YtalipfnbpnkgnaaGreat
