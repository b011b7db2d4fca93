/- Contracts and plain laws of several functions, one after the other: Choose, ESetC, PlainQ, PlainS, EUre, PlainO, PlainS2. -/
import Derived.Test.YtalipfnbpnkgnaaGreatEPrin
import Derived.Test.YtalipfnbpnkgnaaGreatPart13
import Derived.Test.YtalipfnbpnkgnaaGreatPart10
import Derived.Test.YtalipfnbpnkgnaaGreatPart9
import Derived.Test.YtalipfnbpnkgnaaGreatPart7
import Derived.Test.YtalipfnbpnkgnaaGreatERank
import Derived.Test.YtalipfnbpnkgnaaGreatUnrO
import Derived.Test.YtalipfnbpnkgnaaGreatPart2
import Derived.Test.YtalipfnbpnkgnaaGreatPart16
/- groovelaw29.choose: some of the states, in order; slices.Contains at a row of ints. -/
namespace Go.Proofs.YtalipfnbpnkgnaaGreat
open Go.RowKit

/-- Some of the states below k, in order. -/
def SomeS (k : Nat) (l : List Int) : Prop := InR k l ∧ l.Pairwise (· < ·)
theorem SomeS.nil : SomeS 0 [] := ⟨fun x hx => (by cases hx), List.Pairwise.nil⟩
theorem SomeS.skip {k : Nat} {l : List Int} (h : SomeS k l) : SomeS (k + 1) l := ⟨fun x hx => by have := h.1 x hx; omega, h.2⟩
theorem SomeS.take {k : Nat} {l : List Int} (h : SomeS k l) : SomeS (k + 1) (l ++ [(k : Int)]) := by
  refine ⟨fun x hx => ?_, ?_⟩
  · rcases List.mem_append.1 hx with h1 | h1
    · have := h.1 x h1; omega
    · obtain rfl : x = (k : Int) := by simpa using h1
      omega
  · rw [List.pairwise_append]
    refine ⟨h.2, List.pairwise_singleton _ _, fun a ha b hb => ?_⟩
    obtain rfl : b = (k : Int) := by simpa using hb
    have := h.1 a ha; omega
theorem asc_len {k : Nat} {l : List Int} (h : SomeS k l) : l.length ≤ k := by
  have h1 : ∀ (l : List Int) (a b : Int), (∀ x ∈ l, a ≤ x ∧ x < b) → l.Pairwise (· < ·) → (l.length : Int) ≤ max 0 (b - a) := by
    intro l
    induction l with
    | nil => intro a b _ _; simp; omega
    | cons x l ih =>
      intro a b h hp
      have h1 := h x (by simp)
      obtain ⟨h2, h3⟩ := List.pairwise_cons.1 hp
      have := ih (x + 1) b (fun y hy => ⟨by have := h2 y hy; omega, (h y (by simp [hy])).2⟩) h3
      rw [List.length_cons]
      omega
  have := h1 l 0 k (fun x hx => h.1 x hx) h.2
  omega
def SomeRet (S : Nat) (w : World) (e : Ending) (w' : World) : Prop := Below w.heap.size w w' ∧ ∃ v l, e = .returned v ∧ SomeS S l ∧ Row w' v l.length (ci l)
set_option maxRecDepth 100000 in
set_option maxHeartbeats 3200000 in
theorem choose_any (L : Int) (S nb : Nat) (v : Value) (w : World) (hS : S ≤ 64) (hnb : nb ≤ 65535) :
    Calls Tryz.prog 22 #[.agg #[.int .i64 L, .int .i64 (S : Int), v], .int .u16 (nb : Int)] w (SomeRet S w) := by
  obtain ⟨i0, hi, hz0, hz1', hz2'⟩ := info_parts infoIntP
  have b0 := Blk.new w 24 [.int .i64 L, .int .i64 (S : Int), v]
  have x1 := b0.cell (j := 1) rfl
  have s0 := (Below.refl w.heap.size w).alloc (Nat.le_refl _) (.cells #[.int .i64 L, .int .i64 (S : Int), v] 24)
  have B0 := Lib.hid b0; clear b0
  have S0 := Lib.hid s0; clear s0
  go_enter Tryz.func22, Tryz.ntmps22
  go_wp2_with fail
  clear x1
  go_loopw [5, 9] (fun u i wr => ∃ (k : Nat) (l : List Int), k ≤ S ∧ i = .int .i64 k ∧ SomeS k l ∧ wr.ownsRow (w.heap.size + 1) 3 1 u l.length (ci l) ∧ Below (w.heap.size + 1) (w.alloc (.cells #[.int .i64 L, .int .i64 (S : Int), v] 24)) wr) (fun _ i _ => S - (intOf i).toNat)
  case atStart => exact ⟨0, [], by omega, rfl, SomeS.nil, World.ownsRow_nil _ _ _ _, Below.refl _ _⟩
  case round =>
    obtain ⟨k, l, hk, rfl, hsl, hown, hbel⟩ := hrel
    have hsz : w.heap.size + 1 ≤ wr.heap.size := by have := hbel.size; simp at this; omega
    have hln := asc_len hsl
    obtain ⟨a, cap, rfl⟩ := own_slice hown
    have HO := Lib.hid hown; clear hown
    have HB := Lib.hid hbel; clear hbel
    have HSL := Lib.hid hsl; clear hsl
    by_cases hlt : k < S
    · have hk0 : (0 : Int) ≤ (k : Int) := by omega
      obtain ⟨tb, htb⟩ : ∃ tb, (bits BinOp.and IntKind.u16 ((nb : Int) / 2 ^ min k 16) 1 == 1) = tb := ⟨_, rfl⟩
      cases tb with
      | true =>
        have hci := ci_snoc l (k : Int)
        have HCI := Lib.hid hci; clear hci
        go_wp2_with (at_builtin; refine wpList_append_lies _ rfl (.tmp 17) (.tmp 19) 25 rfl (w.heap.size + 1) 3 i0 _ 1 8 Tryz.underlying25 hi hz0 hz1' hz2' rfl (by decide) _ _ _ rfl (HO.out.alloc _) _ 1 1 [.int .i64 (k : Int)] rfl rfl (World.news_of_block (heap_alloc_new _ _)) (by simp [Value.oneCell']) (by omega) (by unfold maxLen; omega) (by omega) (by simp; omega) _ rfl ?_; intro g cap' w3 hown' hg hat hlt'; have HG := Lib.hid hg; clear hg; have HO4 := Lib.hid hown'; clear hown'; have HAT := Lib.hid hat; clear hat)
        go_roundw
        case rel =>
          refine ⟨k + 1, l ++ [(k : Int)], by omega, by go_num, HSL.out.take, ?_, (HB.out.alloc hsz _).grown HG.out (by simp; omega) (fun j hj => (HO.out.lt j hj).1)⟩
          rw [List.length_append, List.length_singleton, HCI.out]; exact HO4.out
        case measure => simp [intOf]; omega
      | false =>
        go_wp2_with fail
        go_roundw
        case rel => exact ⟨k + 1, l, by omega, by go_num, HSL.out.skip, HO.out, HB.out⟩
        case measure => simp [intOf]; omega
    · obtain rfl : k = S := by omega
      have hbw : Below w.heap.size w wr := S0.out.trans (HB.out.mono (by omega))
      have HBW := Lib.hid hbw; clear hbw
      go_wp2_with fail
      go_ret
      exact ⟨HBW.out, _, l, rfl, HSL.out, own_row HO.out⟩
end Go.Proofs.YtalipfnbpnkgnaaGreat

/- enumerative.checkSet and checkAll. -/
namespace Go.Proofs.YtalipfnbpnkgnaaGreat
open Go.RowKit

/-- The error of a set of states: pr is the state in front. -/
def cset (S : Int) : Option Int → List Int → Int
  | _, [] => 0
  | none, s :: r => if s < 0 ∨ S ≤ s then 25 else cset S (some s) r
  | some q, s :: r => if s < 0 ∨ S ≤ s then 25 else if s ≤ q then 10 else cset S (some s) r
theorem cset_out {S : Int} {pr : Option Int} {s : Int} {r : List Int} (h : s < 0 ∨ S ≤ s) : cset S pr (s :: r) = 25 := by
  cases pr <;> simp only [cset] <;> rw [if_pos h]
theorem cset_le {S q s : Int} {r : List Int} (h : ¬ (s < 0 ∨ S ≤ s)) (h2 : s ≤ q) : cset S (some q) (s :: r) = 10 := by
  simp only [cset]; rw [if_neg h, if_pos h2]
theorem cset_gt {S q s : Int} {r : List Int} (h : ¬ (s < 0 ∨ S ≤ s)) (h2 : ¬ s ≤ q) : cset S (some q) (s :: r) = cset S (some s) r := by
  simp only [cset]; rw [if_neg h, if_neg h2]
theorem cset_first {S s : Int} {r : List Int} (h : ¬ (s < 0 ∨ S ≤ s)) : cset S none (s :: r) = cset S (some s) r := by
  simp only [cset]; rw [if_neg h]
theorem cset_ok {S : Nat} : ∀ (l : List Int) (pr : Option Int), (∀ x ∈ l, 0 ≤ x ∧ x < (S : Int)) → l.Pairwise (· < ·) → (∀ q, pr = some q → ∀ x ∈ l, q < x) → cset (S : Int) pr l = 0
  | [], pr, _, _, _ => by cases pr <;> rfl
  | s :: r, pr, h1, h2, h3 => by
    have hs := h1 s (List.mem_cons_self ..)
    have hr := cset_ok r (some s) (fun x hx => h1 x (List.mem_cons_of_mem _ hx)) (List.pairwise_cons.1 h2).2 (fun q hq x hx => by
      simp only [Option.some.injEq] at hq
      subst hq
      exact (List.pairwise_cons.1 h2).1 x hx)
    cases pr with
    | none => rw [cset_first (by omega)]; exact hr
    | some q => rw [cset_gt (by omega) (by have := h3 q rfl s (List.mem_cons_self ..); omega)]; exact hr
/-- The state in front of place j. -/
def prevS (l : List Int) (j : Nat) : Option Int := match j with | 0 => none | i + 1 => l[i]?
set_option maxRecDepth 100000 in
set_option maxHeartbeats 3200000 in
theorem checkset_any (L : Int) (S : Nat) (v vs : Value) (l : List Int) (w : World) (hr : Row w vs l.length (ci l)) (hl : l.length ≤ 1000000) :
    Calls Tryz.prog 67 #[.agg #[.int .i64 L, .int .i64 (S : Int), v], vs] w (Ret w (.int .i64 (cset (S : Int) none l))) := by
  obtain ⟨sa, sc, rfl, hsle⟩ := hr.slice
  obtain ⟨m, hm⟩ : ∃ m, m = l.length := ⟨_, rfl⟩
  have b0 := Blk.new w 24 [.int .i64 L, .int .i64 (S : Int), v]
  have x1 := b0.cell (j := 1) rfl
  have s0 := (Below.refl w.heap.size w).alloc (Nat.le_refl _) (.cells #[.int .i64 L, .int .i64 (S : Int), v] 24)
  have hr0 := hr.below s0 (Nat.le_refl _)
  obtain ⟨R, hR⟩ : ∃ R, R = cset (S : Int) none l := ⟨_, rfl⟩
  rw [← hR]
  rw [← hm] at hr0 hl hsle ⊢
  have HRR := Lib.hid hR; clear hR
  have S0 := Lib.hid s0; clear s0
  have HR := Lib.hid hr0; clear hr0
  have HM := Lib.hid hm; clear hm
  clear hr b0
  go_enter Tryz.func67, Tryz.ntmps67
  go_wp2_with fail
  go_loopw [9] (fun i wr => ∃ j : Nat, j ≤ m ∧ i = .int .i64 j ∧ wr = w.alloc (.cells #[.int .i64 L, .int .i64 (S : Int), v] 24) ∧ R = cset (S : Int) (prevS l j) (l.drop j)) (fun i _ => m - (intOf i).toNat)
  case atStart => exact ⟨0, Nat.zero_le _, rfl, rfl, HRR.out⟩
  case round =>
    obtain ⟨j, hj, rfl, rfl, hno⟩ := hrel
    by_cases hlt : j < m
    · have hjl : j < l.length := by rw [← HM.out]; exact hlt
      have hget : l[j]? = some (l[j]'hjl) := List.getElem?_eq_getElem _
      obtain ⟨y, hy⟩ : ∃ y, y = l[j]'hjl := ⟨_, rfl⟩
      rw [List.drop_eq_getElem_cons hjl, ← hy] at hno
      rw [← hy] at hget
      obtain ⟨b, off, rfl, hbw, hce⟩ := HR.out.at_ (by omega)
      have c0 := hce j _ (ci_at hget)
      have hix : (0 : Int) ≤ (j : Int) := by omega
      by_cases hy0 : y < 0
      · rw [cset_out (.inl hy0)] at hno
        have HNO := Lib.hid hno; clear hno
        clear hce hget hy
        go_wp2_with fail
        go_ret
        exact ⟨S0.out, by rw [HNO.out]; rfl⟩
      · by_cases hyS : (S : Int) ≤ y
        · rw [cset_out (.inr hyS)] at hno
          have HNO := Lib.hid hno; clear hno
          clear hce hget hy
          go_wp2_with fail
          go_ret
          exact ⟨S0.out, by rw [HNO.out]; rfl⟩
        · have hyo : ¬ (y < 0 ∨ (S : Int) ≤ y) := by omega
          cases j with
          | zero =>
            replace c0 : (w.alloc (.cells #[.int .i64 L, .int .i64 (S : Int), v] 24)).cell? ⟨b, off, none⟩ = some (.int .i64 y) := c0
            have hno2 : R = cset (S : Int) (prevS l 1) (l.drop 1) := by
              rw [show prevS l 1 = some y from hget]
              rw [show prevS l 0 = none from rfl, cset_first hyo] at hno
              exact hno
            have HNO := Lib.hid hno2; clear hno2
            clear hno hce hget hy
            go_wp2_with fail
            go_roundw
            case rel => exact ⟨1, by omega, by go_num, trivial, HNO.out⟩
            case measure => simp [intOf]; omega
          | succ i =>
            have hil : i < l.length := by omega
            have hgi : l[i]? = some (l[i]'hil) := List.getElem?_eq_getElem _
            obtain ⟨z, hz⟩ : ∃ z, z = l[i]'hil := ⟨_, rfl⟩
            rw [← hz] at hgi
            have d0 := hce i _ (ci_at hgi)
            have hi0 : (0 : Int) ≤ ((i + 1 : Nat) : Int) - 1 := by omega
            have hi1 : ((i + 1 : Nat) : Int) - 1 = (i : Int) := by omega
            rw [show prevS l (i + 1) = some z from hgi] at hno
            by_cases hle : y ≤ z
            · rw [cset_le hyo hle] at hno
              have HNO := Lib.hid hno; clear hno
              clear hce hget hy hgi hz
              go_wp2_with fail
              go_ret
              exact ⟨S0.out, by rw [HNO.out]; rfl⟩
            · have hno2 : R = cset (S : Int) (prevS l (i + 1 + 1)) (l.drop (i + 1 + 1)) := by
                rw [show prevS l (i + 1 + 1) = some y from hget]
                rw [cset_gt hyo hle] at hno
                exact hno
              have HNO := Lib.hid hno2; clear hno2
              clear hno hce hget hy hgi hz
              go_wp2_with fail
              go_roundw
              case rel => exact ⟨i + 1 + 1, by omega, by go_num, trivial, HNO.out⟩
              case measure => simp [intOf]; omega
    · obtain rfl : j = m := by omega
      rw [List.drop_of_length_le (by rw [HM.out]; exact Nat.le_refl _)] at hno
      have hno2 : R = 0 := by rw [hno]; cases prevS l j <;> rfl
      have HNO := Lib.hid hno2; clear hno2
      clear hno
      go_wp2_with fail
      go_ret
      exact ⟨S0.out, by rw [HNO.out]; rfl⟩
/-- The error of a graph, a set, a state and a length. -/
def eall (L S : Int) (es : List E3) (l : List Int) (s n : Int) : Int := if eck L S es ≠ 0 then eck L S es else if cset S none l ≠ 0 then cset S none l else elen S s n
set_option maxRecDepth 100000 in
set_option maxHeartbeats 3200000 in
theorem checkall_any (L : Int) (S : Nat) (s n : Int) (es : List E3) (v vs : Value) (l : List Int) (w : World) (hr : Row w v es.length (ce es)) (hok : okEs es) (hrs : Row w vs l.length (ci l)) (hl : l.length ≤ 1000000) :
    Calls Tryz.prog 31 #[.agg #[.int .i64 L, .int .i64 (S : Int), v], vs, .int .i64 s, .int .i64 n] w (Ret w (.int .i64 (eall L (S : Int) es l s n))) := by
  obtain ⟨va, vc, rfl, hle⟩ := hr.slice
  obtain ⟨sa, sc, rfl, hsle⟩ := hrs.slice
  obtain ⟨mm, hmm⟩ : ∃ mm, mm = es.length := ⟨_, rfl⟩
  obtain ⟨m, hm⟩ : ∃ m, m = l.length := ⟨_, rfl⟩
  have b0 := Blk.new w 24 [.int .i64 L, .int .i64 (S : Int), .slice va es.length vc]
  have s0 := (Below.refl w.heap.size w).alloc (Nat.le_refl _) (.cells #[.int .i64 L, .int .i64 (S : Int), .slice va es.length vc] 24)
  have hr0 := hr.below s0 (Nat.le_refl _)
  have hrs0 := hrs.below s0 (Nat.le_refl _)
  have hck := echeck_any L (S : Int) es _ _ hr0 hok
  have hcs := fun w' (h : Row w' (.slice sa l.length sc) l.length (ci l)) => checkset_any L S (.slice va es.length vc) (.slice sa l.length sc) l w' h hl
  have hel := fun w' => elen_any L (S : Int) s n (.slice va es.length vc) w'
  obtain ⟨R, hR⟩ : ∃ R, R = eall L (S : Int) es l s n := ⟨_, rfl⟩
  rw [← hR]
  unfold eall at hR
  obtain ⟨A, hA⟩ : ∃ A, A = eck L (S : Int) es := ⟨_, rfl⟩
  obtain ⟨B, hB⟩ : ∃ B, B = cset (S : Int) none l := ⟨_, rfl⟩
  obtain ⟨C, hC⟩ : ∃ C, C = elen (S : Int) s n := ⟨_, rfl⟩
  rw [← hA, ← hB, ← hC] at hR
  rw [← hA] at hck
  rw [← hB] at hcs
  rw [← hC] at hel
  rw [← hmm] at b0 s0 hr0 hrs0 hck hcs hel hle ⊢
  rw [← hm] at hrs0 hcs hl hsle ⊢
  have HMM := Lib.hid hmm; clear hmm
  have HM := Lib.hid hm; clear hm
  have HRR := Lib.hid hR; clear hR
  have HCK := Lib.hid hck; clear hck
  have HCS := Lib.hid hcs; clear hcs
  have HEL := Lib.hid hel; clear hel
  have S0 := Lib.hid s0; clear s0
  have B0 := Lib.hid b0; clear b0
  have HR0 := Lib.hid hrs0; clear hrs0
  clear hr hr0 hrs hok hA hB hC
  go_enter Tryz.func31, Tryz.ntmps31
  go_wp2_with fail
  go_at_call 53
  refine HCK.out.mono ?_
  rintro e w1 ⟨hq, rfl⟩
  have s1 := S0.out.trans (hq.mono S0.out.size)
  have hr1 := HR0.out.below hq (Nat.le_refl _)
  have tk := B0.out.keep hq; have x0 := tk.cell (j := 0) rfl; have x1 := tk.cell (j := 1) rfl; have x2 := tk.cell (j := 2) rfl; have C0 := Lib.hid tk; clear tk
  have S1 := Lib.hid s1; clear s1
  have HR1 := Lib.hid hr1; clear hr1
  clear hq
  by_cases hA : A = 0
  · have hR1 := HRR.out
    rw [if_neg (by simpa using hA)] at hR1
    subst hA
    have HRB := Lib.hid hR1; clear hR1
    go_wp2_with fail
    go_at_call 67
    refine (HCS.out _ HR1.out).mono ?_
    rintro e w2 ⟨hq, rfl⟩
    have s2 := S1.out.trans (hq.mono S1.out.size)
    clear x0 x1 x2
    have tk := C0.out.keep hq; have x0 := tk.cell (j := 0) rfl; have x1 := tk.cell (j := 1) rfl; have x2 := tk.cell (j := 2) rfl; have D0 := Lib.hid tk; clear tk
    have S2 := Lib.hid s2; clear s2
    clear hq
    by_cases hB : B = 0
    · have hR2 := HRB.out
      rw [if_neg (by simpa using hB)] at hR2
      subst hB
      have HRC := Lib.hid hR2; clear hR2
      go_wp2_with fail
      go_at_call 54
      refine (HEL.out _).mono ?_
      rintro e w3 ⟨hq, rfl⟩
      have s3 := S2.out.trans (hq.mono S2.out.size)
      have S3 := Lib.hid s3; clear s3
      clear hq
      go_wp2_with fail
      go_ret
      exact ⟨S3.out, by rw [HRC.out]; rfl⟩
    · have hR2 := HRB.out
      rw [if_pos (by simpa using hB)] at hR2
      have HRC := Lib.hid hR2; clear hR2
      go_wp2_with fail
      go_ret
      exact ⟨S2.out, by rw [HRC.out]; rfl⟩
  · have hR1 := HRR.out
    rw [if_pos (by simpa using hA)] at hR1
    have HRB := Lib.hid hR1; clear hR1
    go_wp2_with fail
    go_ret
    exact ⟨S1.out, by rw [HRB.out]; rfl⟩
theorem eall_ok {L : Int} {S : Nat} {es : List E3} {l : List Int} {s n : Nat} (hE : eck L (S : Int) es = 0) (hl : SomeS S l) (hs : s < S) (hn : n ≤ 4096) : eall L (S : Int) es l (s : Int) (n : Int) = 0 := by
  unfold eall
  rw [if_neg (by simp [hE]), if_neg]
  · unfold elen
    rw [if_neg (by omega), if_neg (by omega)]
  · have := cset_ok (S := S) l none (fun x hx => by have := hl.1 x hx; omega) hl.2 (fun q hq => by cases hq)
    simp [this]
end Go.Proofs.YtalipfnbpnkgnaaGreat

/- The rank of the word with a number is that number, in plain Lean. -/
namespace Go.Proofs.YtalipfnbpnkgnaaGreat
open Go.RowKit

theorem letL_lt {a b : Int} (h0 : 0 ≤ a) (hab : a < b) (hb : b < 16) : letL a < letL b := by
  have h : ∀ i j : Fin 16, i.val < j.val → letters.getD i.val 0 < letters.getD j.val 0 := by decide
  obtain ⟨i, rfl⟩ : ∃ i : Nat, a = i := ⟨a.toNat, by omega⟩
  obtain ⟨j, rfl⟩ : ∃ j : Nat, b = j := ⟨b.toNat, by omega⟩
  have := h ⟨i, by omega⟩ ⟨j, by omega⟩ (by show i < j; omega)
  simpa [letL] using this
theorem letL_ne {a b : Int} (h0 : 0 ≤ a) (hab : a < b) (hb : b < 16) : ¬ letL a = letL b := fun e => by
  have h := letL_lt h0 hab hb
  rw [e] at h
  have h2 : (letL b).toNat < (letL b).toNat := UInt8.lt_iff_toNat_lt.1 h
  omega
/-- The edges that leave a state lie by ascending labels. -/
def AscL (l : List E3) : Prop := l.Pairwise (fun a b => a.l < b.l) ∧ ∀ e ∈ l, 0 ≤ e.l ∧ e.l < 16
theorem outE_asc {L S : Int} {es : List E3} (h : eck L S es = 0) (s : Int) : AscL (outE es s) := by
  obtain ⟨hc, hL, hd⟩ := eck_zero h
  have hcl : chkL L S none es = 0 := by
    unfold chk at hc
    split at hc
    · cases hc
    · split at hc
      · cases hc
      · split at hc
        · cases hc
        · exact hc
  refine ⟨?_, fun e he => chk_lab hc hL e (List.mem_filter.1 he).1⟩
  refine ((det_sorted hcl hd).filter (fun e => e.f == s)).imp_of_mem fun {a b} ha hb hab => ?_
  have h1 : a.f = s := by simpa using (List.mem_filter.1 ha).2
  have h2 : b.f = s := by simpa using (List.mem_filter.1 hb).2
  unfold ltFL at hab
  omega
theorem rkGo_urGo {es : List E3} {p : Int → Bool} {k : Nat} : ∀ {l : List E3} {a : Int} {e : E3} (sum : Int), AscL l → (urGo es p k l a).1 = some e →
    rkGo es p k (letL e.l) l sum = (sum + (a - (urGo es p k l a).2), some e.t)
  | [], _, _, _, _, h => by cases h
  | x :: l, a, e, sum, hl, h => by
    obtain ⟨hp, hr⟩ := hl
    obtain ⟨hp1, hp2⟩ := List.pairwise_cons.1 hp
    rw [urGo] at h ⊢
    rw [rkGo]
    by_cases hc : a < cw es p k x.t
    · rw [if_pos hc] at h ⊢
      obtain rfl : x = e := by injection h
      rw [if_pos rfl]
      simp
    · rw [if_neg hc] at h ⊢
      have he := (urGo_mem h).1
      have hlt := hp1 e he
      rw [if_neg (letL_ne (hr x (by simp)).1 hlt (hr e (by simp [he])).2)]
      rw [rkGo_urGo (sum + cw es p k x.t) ⟨hp2, fun y hy => hr y (by simp [hy])⟩ h]
      refine Prod.ext ?_ rfl
      dsimp only
      omega
theorem ur_length {es : List E3} {p : Int → Bool} : ∀ (n : Nat) (s a : Int), 0 ≤ a → a < cw es p n s → (ur es p n s a).1.length = n
  | 0, _, _, _, _ => rfl
  | n + 1, s, a, h0, h1 => by
    rw [cw_succ] at h1
    have hf := urGo_found h1 h0
    have hb := urGo_bd es p n (outE es s) a h0
    rw [ur]
    rcases hu : urGo es p n (outE es s) a with ⟨_ | e, a'⟩
    · rw [hu] at hf; exact absurd rfl hf
    · have hm := urGo_mem (es := es) (p := p) (k := n) (l := outE es s) (a := a) (e := e) (by rw [hu])
      rw [hu] at hb hm
      dsimp only
      rw [List.length_cons, ur_length n e.t a' hb.1 hm.2]
/-- The number of the word with a number, and where it ends. -/
theorem rk_ur {L S : Int} {es : List E3} (hE : eck L S es = 0) (p : Int → Bool) : ∀ (n : Nat) (s a sum : Int), 0 ≤ a → a < cw es p n s → rk es p (ur es p n s a).1 s sum = some (sum + a, (ur es p n s a).2) ∧ p (ur es p n s a).2 = true
  | 0, s, a, sum, h0, h1 => by
    rw [cw] at h1
    split at h1
    · rename_i hp
      obtain rfl : a = 0 := by omega
      rw [ur, rk]
      exact ⟨by simp, hp⟩
    · omega
  | n + 1, s, a, sum, h0, h1 => by
    have h1' := h1
    rw [cw_succ] at h1'
    have hf := urGo_found h1' h0
    have hb := urGo_bd es p n (outE es s) a h0
    rw [ur]
    rcases hu : urGo es p n (outE es s) a with ⟨_ | e, a'⟩
    · rw [hu] at hf; exact absurd rfl hf
    · have hm := urGo_mem (es := es) (p := p) (k := n) (l := outE es s) (a := a) (e := e) (by rw [hu])
      have hg := rkGo_urGo sum (outE_asc hE s) (show (urGo es p n (outE es s) a).1 = some e by rw [hu])
      rw [hu] at hb hm hg
      dsimp only at hb hm hg ⊢
      rw [rk, ur_length n e.t a' hb.1 hm.2, hg]
      dsimp only
      obtain ⟨r1, r2⟩ := rk_ur hE p n e.t a' (sum + (a - a')) hb.1 hm.2
      rw [r1]
      exact ⟨by congr 2; omega, r2⟩
end Go.Proofs.YtalipfnbpnkgnaaGreat

/- What enumerative.unrank, Encode and Stream tell, plain. -/
namespace Go.Proofs.YtalipfnbpnkgnaaGreat
open Go.RowKit

/-- The word with a number to a set, if there is one. -/
def ure (es : List E3) (p : Int → Bool) (n : Nat) (s a : Int) : Option (List UInt8 × Int) := if 0 ≤ a ∧ a < cw es p n s then some (ur es p n s a) else none
def oWord : Option (List UInt8 × Int) → List UInt8 | some r => r.1 | none => []
def oEnd : Option (List UInt8 × Int) → Int | some r => r.2 | none => 0
/-- A stream behind the word acc. -/
def strm (es : List E3) (p : Int → Bool) (n : Nat) : List UInt8 → Int → List Int → Option (List UInt8 × Int)
  | acc, s, [] => some (acc, s)
  | acc, s, a :: r => match ure es p n s a with
    | some u => strm es p n (acc ++ u.1) u.2 r
    | none => none
theorem strm_yes {es : List E3} {p : Int → Bool} {n : Nat} {acc : List UInt8} {s a : Int} {r : List Int} (h0 : 0 ≤ a) (h1 : a < cw es p n s) : strm es p n acc s (a :: r) = strm es p n (acc ++ (ur es p n s a).1) (ur es p n s a).2 r := by
  rw [strm, ure, if_pos ⟨h0, h1⟩]
theorem strm_no {es : List E3} {p : Int → Bool} {n : Nat} {acc : List UInt8} {s a : Int} {r : List Int} (h : ¬ (0 ≤ a ∧ a < cw es p n s)) : strm es p n acc s (a :: r) = none := by
  rw [strm, ure, if_neg h]
theorem ur_end {L : Int} {S : Nat} {es : List E3} (hE : eck L (S : Int) es = 0) {set : List Int} (hs : SomeS S set) {n : Nat} {s a : Int} (h0 : 0 ≤ a) (h1 : a < cw es (pin set) n s) : ∃ t : Nat, t < S ∧ (ur es (pin set) n s a).2 = (t : Int) ∧ (t : Int) ∈ set := by
  have h := (rk_ur hE (pin set) n s a 0 h0 h1).2
  have hm : (ur es (pin set) n s a).2 ∈ set := of_decide_eq_true (show decide ((ur es (pin set) n s a).2 ∈ set) = true from h)
  have := hs.1 _ hm
  exact ⟨(ur es (pin set) n s a).2.toNat, by omega, by omega, by rw [Int.toNat_of_nonneg this.1]; exact hm⟩
end Go.Proofs.YtalipfnbpnkgnaaGreat

/- enumerative.unrank at any number. -/
namespace Go.Proofs.YtalipfnbpnkgnaaGreat
open Go.RowKit

def UreRet (R : Option (List UInt8 × Int)) (w : World) (e : Ending) (w' : World) : Prop :=
  Below w.heap.size w w' ∧ e = .returned (.tuple #[.string ⟨(oWord R).toArray⟩, .int .i64 (oEnd R), .bool R.isSome])
theorem ure_any (L : Int) (S s0 n : Nat) (a0 : Int) (es : List E3) (v tv : Value) (p : Int → Bool) (w : World) (hr : Row w v es.length (ce es)) (ht : Tab w tv (tabL es S p n)) (hS : S ≤ 64) (hl : es.length ≤ 1024) (hin : InS S es) (hlab : ∀ e ∈ es, 0 ≤ e.l ∧ e.l < 16) (hs0 : s0 < S) (hn : n ≤ 4096) (sA : small a0) :
    Calls Tryz.prog 42 #[.agg #[.int .i64 L, .int .i64 (S : Int), v], tv, .int .i64 (s0 : Int), .int .i64 (n : Int), .agg #[.bool (ineg a0), .string (imag a0)]] w (UreRet (ure es p n (s0 : Int) a0) w) := by
  by_cases h0 : 0 ≤ a0
  · by_cases h1 : a0 < cw es p n (s0 : Int)
    · refine (unrank_any L S s0 n a0 es v tv p w hr ht hS hl hin hlab hs0 hn h0 h1).mono ?_
      rintro e w' ⟨h2, h3⟩
      rw [ure, if_pos ⟨h0, h1⟩]
      exact ⟨h2, h3⟩
    · refine (callsIn_wide.1 (unrank_big L S s0 n a0 es v tv p w hr ht hS hl hin hlab hs0 hn sA h0 (by omega))).mono ?_
      rintro e w' ⟨h2, h3⟩
      rw [ure, if_neg (by omega)]
      exact ⟨h2, h3⟩
  · refine (callsIn_wide.1 (unrank_neg L S s0 n a0 es v tv p w hr ht hS hl hin hlab hs0 hn sA (by omega))).mono ?_
    rintro e w' ⟨h2, h3⟩
    rw [ure, if_neg (by omega)]
    exact ⟨h2, h3⟩
/-- table with the states of a set, wherever the set's cell lies. -/
theorem tin_any (L : Int) (S n : Nat) (es : List E3) (v vs : Value) (set : List Int) (q : Nat) (w : World) (hr : Row w v es.length (ce es)) (hrs : Row w vs set.length (ci set)) (hS : S ≤ 64) (hn : n ≤ 4096) (hl : es.length ≤ 1024) (hin : InS S es) (hset : SomeS S set) (hq : q < w.heap.size) (hc : w.cell? ⟨q, 0, none⟩ = some vs) :
    Calls Tryz.prog 34 #[.agg #[.int .i64 L, .int .i64 (S : Int), v], .func (.func 71) #[] #[.pointer (some ⟨q, 0, none⟩)], .int .i64 (n : Int)] w (TabRet w (tabL es S (pin set) n)) := by
  have hlen := asc_len hset
  exact table_any L S n es v _ _ (pin set) w hr hS hn hl hin (fun args w => enters_of Tryz.func71 (by kernel_rfl) rfl args w) (fun s w' hs hb' => isin_any set _ q s w' ((hb'.cell (p := ⟨q, 0, none⟩) hq).trans hc) (hrs.below hb' (Nat.le_refl _)) hset.2 (by omega))
end Go.Proofs.YtalipfnbpnkgnaaGreat

/- Of two numbers the lesser one has the lesser word, in plain Lean. -/
namespace Go.Proofs.YtalipfnbpnkgnaaGreat
open Go.RowKit

theorem less_irr : ∀ x : List UInt8, Op.bytesLess x x = false
  | [] => rfl
  | a :: x => by
    rw [Op.bytesLess, less_irr x]
    simp
theorem less_asym : ∀ {x y : List UInt8}, Op.bytesLess x y = true → Op.bytesLess y x = false
  | _, [], h => by simp [Op.bytesLess] at h
  | [], _ :: _, _ => rfl
  | a :: x, b :: y, h => by
    rw [Op.bytesLess] at h ⊢
    simp only [Bool.or_eq_true, decide_eq_true_eq, Bool.and_eq_true, beq_iff_eq] at h
    rcases h with h | ⟨rfl, h⟩
    · have h1 : a.toNat < b.toNat := UInt8.lt_iff_toNat_lt.1 h
      have h2 : ¬ b < a := fun h2 => by have := UInt8.lt_iff_toNat_lt.1 h2; omega
      have h3 : ¬ b = a := fun e => by rw [e] at h1; omega
      simp [h2, h3]
    · rw [less_asym h]; simp
theorem less_ne {x y : List UInt8} (h : Op.bytesLess x y = true) : ¬ x = y := fun e => by
  rw [e, less_irr] at h; cases h
theorem urGo_mono {es : List E3} {p : Int → Bool} {k : Nat} : ∀ {l : List E3} {a b a' b' : Int} {x y : E3}, AscL l → a < b → urGo es p k l a = (some x, a') → urGo es p k l b = (some y, b') → x.l < y.l ∨ x = y ∧ a' < b'
  | [], _, _, _, _, _, _, _, _, h, _ => by simp [urGo] at h
  | e :: l, a, b, a', b', x, y, hl, hab, h1, h2 => by
    obtain ⟨hp, hr⟩ := hl
    obtain ⟨hp1, hp2⟩ := List.pairwise_cons.1 hp
    rw [urGo] at h1 h2
    by_cases ca : a < cw es p k e.t
    · rw [if_pos ca] at h1
      obtain ⟨rfl, rfl⟩ : e = x ∧ a = a' := by simpa using h1
      by_cases cb : b < cw es p k e.t
      · rw [if_pos cb] at h2
        obtain ⟨rfl, rfl⟩ : e = y ∧ b = b' := by simpa using h2
        exact .inr ⟨rfl, hab⟩
      · rw [if_neg cb] at h2
        have hm := (urGo_mem (es := es) (p := p) (k := k) (l := l) (a := b - cw es p k e.t) (e := y) (by rw [h2])).1
        exact .inl (hp1 y hm)
    · rw [if_neg ca] at h1
      rw [if_neg (by omega)] at h2
      exact urGo_mono ⟨hp2, fun z hz => hr z (by simp [hz])⟩ (by omega) h1 h2
theorem ur_less {L S : Int} {es : List E3} (hE : eck L S es = 0) (p : Int → Bool) : ∀ (n : Nat) (s a b : Int), 0 ≤ a → a < b → b < cw es p n s → Op.bytesLess (ur es p n s a).1 (ur es p n s b).1 = true
  | 0, s, a, b, h0, h1, h2 => by
    rw [cw] at h2
    split at h2 <;> omega
  | n + 1, s, a, b, h0, h1, h2 => by
    have h2' := h2
    rw [cw_succ] at h2'
    have fa := urGo_found (es := es) (p := p) (k := n) (l := outE es s) (a := a) (by omega) h0
    have fb := urGo_found h2' (by omega)
    have ba := urGo_bd es p n (outE es s) a h0
    have bb' := urGo_bd es p n (outE es s) b (by omega)
    rw [ur, ur]
    rcases hu : urGo es p n (outE es s) a with ⟨_ | x, a'⟩
    · rw [hu] at fa; exact absurd rfl fa
    · rcases hv : urGo es p n (outE es s) b with ⟨_ | y, b'⟩
      · rw [hv] at fb; exact absurd rfl fb
      · have hA := outE_asc hE s
        have mx := urGo_mem (es := es) (p := p) (k := n) (l := outE es s) (a := a) (e := x) (by rw [hu])
        have my := urGo_mem (es := es) (p := p) (k := n) (l := outE es s) (a := b) (e := y) (by rw [hv])
        have hm := urGo_mono hA h1 hu hv
        rw [hu] at ba mx
        rw [hv] at bb' my
        dsimp only at ba bb' mx my ⊢
        rw [Op.bytesLess]
        rcases hm with hm | ⟨rfl, hm⟩
        · have := letL_lt (hA.2 x mx.1).1 hm (hA.2 y my.1).2
          simp [this]
        · rw [ur_less hE p n x.t a' b' ba.1 hm my.2]
          simp
/-- The order of the words is the order of the numbers. -/
theorem ur_lss {L S : Int} {es : List E3} (hE : eck L S es = 0) {p : Int → Bool} {n : Nat} {s a b : Int} (ha : 0 ≤ a) (ha1 : a < cw es p n s) (hb : 0 ≤ b) (hb1 : b < cw es p n s) :
    Op.bytesLess (ur es p n s a).1 (ur es p n s b).1 = decide (a < b) ∧ (!(Op.bytesLess (ur es p n s a).1 (ur es p n s b).1 || (ur es p n s a).1 == (ur es p n s b).1)) = decide (b < a) := by
  by_cases h : a < b
  · have h1 := ur_less hE p n s a b ha h hb1
    rw [h1]
    exact ⟨by simp [h], by simp; omega⟩
  · by_cases h2 : b < a
    · have h1 := ur_less hE p n s b a hb h2 ha1
      have h3 := less_asym h1
      have h4 : ((ur es p n s a).1 == (ur es p n s b).1) = false := by
        have := less_ne h1
        simp only [beq_eq_false_iff_ne, ne_eq]
        exact fun e => this e.symm
      rw [h3, h4]
      exact ⟨by simp; omega, by simp [h2]⟩
    · obtain rfl : a = b := by omega
      rw [less_irr]
      exact ⟨by simp, by simp⟩
theorem ur_mem {es : List E3} {p : Int → Bool} : ∀ (n : Nat) (s a : Int), ∀ c ∈ (ur es p n s a).1, ∃ e ∈ es, c = letL e.l
  | 0, s, a, c, h => by simp [ur] at h
  | n + 1, s, a, c, h => by
    rw [ur] at h
    rcases hu : urGo es p n (outE es s) a with ⟨_ | e, a'⟩
    · rw [hu] at h; exact ur_mem n s a' c h
    · rw [hu] at h
      have hm := (urGo_mem (es := es) (p := p) (k := n) (l := outE es s) (a := a) (e := e) (by rw [hu])).1
      rcases List.mem_cons.1 h with h | h
      · exact ⟨e, (List.mem_filter.1 hm).1, h⟩
      · exact ur_mem n e.t a' c h
theorem letL_is {L x : Int} (h0 : 0 ≤ x) (h1 : x < L) (h2 : L ≤ 16) : isLetter L.toNat (letL x) = true := by
  have h : ∀ (i : Fin 17) (j : Fin 16), j.val < i.val → isLetter i.val (letters.getD j.val 0) = true := by decide
  exact h ⟨L.toNat, by omega⟩ ⟨x.toNat, by omega⟩ (by show x.toNat < L.toNat; omega)
/-- Words with numbers are words over the letters. -/
theorem ur_ckw {L S : Int} {es : List E3} (hE : eck L S es = 0) (p : Int → Bool) (n : Nat) (hn : n ≤ 4096) (s a : Int) (ha : 0 ≤ a) (ha1 : a < cw es p n s) : ckw L (ur es p n s a).1 = 0 := by
  obtain ⟨hc, hL, hd⟩ := eck_zero hE
  have hca := chk_all hc
  have hl := ur_length n s a ha ha1
  have hw : wchk L (ur es p n s a).1 = 0 := by
    unfold wchk
    rw [if_neg (by omega), if_neg (by rw [hl]; omega), if_pos]
    rw [List.all_eq_true]
    intro c hcm
    obtain ⟨e, he, rfl⟩ := ur_mem n s a c hcm
    have := hca.2.2.2.2 e he
    unfold edgeBad at this
    exact letL_is (by omega) (by omega) (by omega)
  unfold ckw
  rw [hw, if_neg (by simp), if_neg (by rw [hl]; omega)]
end Go.Proofs.YtalipfnbpnkgnaaGreat

/- Streams and their blocks, plain. -/
namespace Go.Proofs.YtalipfnbpnkgnaaGreat
open Go.RowKit

theorem strm_pre {es : List E3} {p : Int → Bool} {n : Nat} : ∀ (l : List Int) (acc : List UInt8) (s : Int) (w : List UInt8) (t : Int), strm es p n acc s l = some (w, t) → ∃ r, w = acc ++ r ∧ r.length = l.length * n
  | [], acc, s, w, t, h => by
    rw [strm] at h
    simp only [Option.some.injEq, Prod.mk.injEq] at h
    exact ⟨[], by rw [h.1]; simp, by simp⟩
  | a :: r, acc, s, w, t, h => by
    by_cases hin : 0 ≤ a ∧ a < cw es p n s
    · rw [strm_yes hin.1 hin.2] at h
      obtain ⟨r2, h1, h2⟩ := strm_pre r _ _ w t h
      refine ⟨(ur es p n s a).1 ++ r2, by rw [h1, List.append_assoc], ?_⟩
      rw [List.length_append, ur_length n s a hin.1 hin.2, h2, List.length_cons, Nat.add_mul, Nat.one_mul, Nat.add_comm]
    · rw [strm_no hin] at h; cases h
/-- The first block of what is left of a stream. -/
theorem strm_step {es : List E3} {p : Int → Bool} {n : Nat} {a : Int} {r : List Int} {acc : List UInt8} {s : Int} {w : List UInt8} {t : Int} (h : strm es p n acc s (a :: r) = some (w, t)) :
    0 ≤ a ∧ a < cw es p n s ∧ strm es p n (acc ++ (ur es p n s a).1) (ur es p n s a).2 r = some (w, t) ∧ (w.drop acc.length).take n = (ur es p n s a).1 := by
  by_cases hin : 0 ≤ a ∧ a < cw es p n s
  · rw [strm_yes hin.1 hin.2] at h
    obtain ⟨r2, h1, h2⟩ := strm_pre r _ _ w t h
    refine ⟨hin.1, hin.2, h, ?_⟩
    rw [h1, List.append_assoc, List.drop_left]
    have := ur_length (es := es) (p := p) n s a hin.1 hin.2
    rw [List.take_left' this]
  · rw [strm_no hin] at h; cases h
theorem strm_nil {es : List E3} {p : Int → Bool} {n : Nat} {acc : List UInt8} {s : Int} {w : List UInt8} {t : Int} (h : strm es p n acc s [] = some (w, t)) : s = t := by
  rw [strm] at h
  simp only [Option.some.injEq, Prod.mk.injEq] at h
  exact h.2
theorem bytes_ext {w : List UInt8} {i j : Nat} (hij : i ≤ j) : (⟨w.toArray⟩ : ByteArray).extract i j = ⟨((w.drop i).take (j - i)).toArray⟩ := by
  apply ByteArray.ext
  rw [ByteArray.data_extract]
  apply Array.ext'
  simp [List.extract_eq_take_drop]
end Go.Proofs.YtalipfnbpnkgnaaGreat

