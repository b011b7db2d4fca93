/- Contracts and plain laws of several functions, one after the other: RowL, Fine, Choose, ESetC, BldW, EAny, UnrO, PlainQ, PlainS, EUre, EStr, EDec, PlainO, PlainS2, PlainB3, LBits. -/
import Derived.Lib.AppendStr
import Derived.Test.YtalipfnbpnkgnaaPart1
import Derived.Test.YtalipfnbpnkgnaaGreat29
import Derived.Test.YtalipfnbpnkgnaaDet
import Derived.Test.YtalipfnbpnkgnaaEPrc
import Derived.Test.YtalipfnbpnkgnaaEPrin
import Derived.Test.YtalipfnbpnkgnaaPart11
import Derived.Test.YtalipfnbpnkgnaaPart9
import Derived.Test.YtalipfnbpnkgnaaBldS
import Derived.Test.YtalipfnbpnkgnaaICheck
import Derived.Test.YtalipfnbpnkgnaaPart4
import Derived.Test.YtalipfnbpnkgnaaEUnr
import Derived.Test.YtalipfnbpnkgnaaUnrk
import Derived.Test.YtalipfnbpnkgnaaPart7
import Derived.Test.YtalipfnbpnkgnaaERank
import Derived.Test.YtalipfnbpnkgnaaEPrA
import Derived.Test.YtalipfnbpnkgnaaLPriD
import Derived.Test.YtalipfnbpnkgnaaEBit
import Derived.Test.YtalipfnbpnkgnaaPow
/- Arguments of the rows, opened: lists of numbers. -/
namespace Go.Proofs.Ytalipfnbpnkgnaa
open Go.RowKit Go.ChangeShapes Go.WideShapes Go.Deep Go.Joins

section
variable {H : Type} {enc : TypeId × Value → H}
set_option maxRecDepth 100000 in
/-- What a slice of integers of one kind holds. -/
theorem open_kinds {k : IntKind} {t e : TypeId} (ht : Try.prog.underlying t = some (.slice e)) (he : Try.prog.underlying e = some (.int k)) (hce : Try.prog.cellsOf e = 1) {W : World} {base n : Nat} {sv : Value} {x : DataW H × List MemPlace} (hc : Cell.okWide Try.prog W .any base t sv) (h : DataW.trod enc Try.prog W 0 (fun _ => true) true n t [sv] = some x) :
    ∃ l : List Int, Row W sv l.length (l.map fun z => .int k z) ∧ ∀ z ∈ l, (Lit.int k z).wf = true := by
  rcases open_slice1 ht hce h with ⟨hs, -⟩ | ⟨a, len, cap, m, n', V, D, Pl, hs, -, hl, hm, hmm, -, hx⟩
  · obtain rfl : sv = .slice none 0 0 := by simpa using hs
    exact ⟨[], .inl ⟨rfl, rfl, rfl⟩, fun e he => by cases he⟩
  · obtain rfl : sv = .slice (some a) len cap := by simpa using hs
    simp only [if_true] at hmm
    subst hmm
    obtain ⟨hsp, hlt⟩ := cell_ok_slice ht hc
    have key : ∀ i, i < m → ∃ z : Int, (Lit.int k z).wf = true ∧ W.cell? (a.add i) = some (.int k z) := by
      intro i hi
      obtain ⟨h1, h2⟩ := hx i hi
      obtain ⟨z, e0, -, w0⟩ := DataW.trod_int he h2
      obtain h3 : V i = .int k z := by simpa [hce] using e0
      exact ⟨z, w0, by rw [h1, h3]⟩
    obtain ⟨E, hE⟩ := choose_lt key
    refine ⟨(List.range len).map E, .inr ⟨a.block, a.off, m, ?_, ?_, hm, hlt, fun j u hj => ?_⟩, fun z hz => ?_⟩
    · rw [List.length_map, List.length_range]
      rcases a with ⟨b, o, sp⟩
      obtain rfl : sp = none := hsp
      rfl
    · rw [List.length_map, List.length_range]; exact hl
    · have hjl := (List.getElem?_eq_some_iff.1 hj).1
      simp only [List.length_map, List.length_range] at hjl
      have h1 := (hE j (by omega)).2
      have h2 : u = .int k (E j) := by
        have := hj
        simp [hjl] at this
        exact this.symm
      rw [h2, ← h1]
      rcases a with ⟨b, o, sp⟩
      obtain rfl : sp = none := hsp
      have e : (Addr.mk b o none).add j = ⟨b, o + j, none⟩ := by unfold Addr.add; split <;> simp_all
      rw [← e]
    · obtain ⟨i, hi, rfl⟩ := List.mem_map.1 hz
      exact (hE i (by have := List.mem_range.1 hi; omega)).1
theorem wf_u8' {a : Int} (h : (Lit.int .u8 a).wf = true) : 0 ≤ a ∧ a ≤ 255 := by
  rw [Lit.wf, Bool.and_eq_true, decide_eq_true_eq, decide_eq_true_eq] at h
  exact h
set_option maxRecDepth 100000 in
/-- Bytes handed in. -/
theorem open_bytes {W : World} {base : Nat} {v : Value} {d : DataW H} {p : List MemPlace} (hval : Value.okWide Try.prog W .any base 50 v) (h : DataW.Trod enc Try.prog W 0 (fun _ => true) true 50 v d p) :
    ∃ l : List UInt8, Row W v l.length (cb l) := by
  have hc : Cell.okWide Try.prog W .any base 50 v := by
    unfold Value.okWide at hval
    rw [Try.underlying50] at hval
    exact hval
  obtain ⟨n, h1⟩ := h
  obtain ⟨a, b, c, rfl⟩ : ∃ a b c, v = .slice a b c := by
    unfold Cell.okWide Cell.ok at hc
    rw [Try.underlying50] at hc
    cases v <;> simp at hc <;> exact ⟨_, _, _, rfl⟩
  obtain ⟨l, hr, hw⟩ := open_kinds Try.underlying50 Try.underlying5 (by kernel_rfl) hc h1
  have e : (l.map fun z => Value.int .u8 z) = cb (l.map fun z => UInt8.ofNat z.toNat) := by
    rw [cb, List.map_map]
    refine List.map_congr_left fun z hz => ?_
    have := wf_u8' (hw z hz)
    simp
    omega
  rw [e] at hr
  exact ⟨_, by rw [List.length_map]; exact hr⟩
end
end Go.Proofs.Ytalipfnbpnkgnaa

/- groovelaw29.fine: where it is true the graph is valid, deterministic, has states, and at most 4 labels. -/
namespace Go.Proofs.Ytalipfnbpnkgnaa
open Go.RowKit

set_option maxRecDepth 100000 in
set_option maxHeartbeats 3200000 in
theorem great29_lab (L S : Int) (a : Option Addr) (n c : Nat) (w : World) (h4 : 4 < L) (h16 : L ≤ 16) :
    Calls Try.prog 8 #[.agg #[.int .i64 L, .int .i64 S, .slice a n c]] w (Ret w (.bool true)) := by
  have s0 := (Below.refl w.heap.size w).alloc (Nat.le_refl _) (.cells #[.int .i64 L, .int .i64 S, .slice a n c] 24)
  have b0 := Blk.new w 24 [.int .i64 L, .int .i64 S, .slice a n c]
  have t4 : decide (4 < L) = true := by simpa using h4
  have t16 : decide (L ≤ 16) = true := by simpa using h16
  have S0 := Lib.hid s0; clear s0
  have B0 := Lib.hid b0; clear b0
  go_enter Try.func8, Try.ntmps8
  go_wp2_with fail
  go_at_call 31
  refine (great09_any _ _ _ _ _ _).mono ?_
  rintro e w1 ⟨hq, b, rfl⟩
  have s1 := S0.out.trans (hq.mono S0.out.size)
  have tk := B0.out.keep hq; have x0 := tk.cell (j := 0) rfl; have x1 := tk.cell (j := 1) rfl; have x2 := tk.cell (j := 2) rfl; have C0 := Lib.hid tk; clear tk
  have S1 := Lib.hid s1; clear s1
  clear hq
  cases b with
  | true =>
    go_wp2_with fail
    go_ret
    exact ⟨S1.out, rfl⟩
  | false =>
    go_wp2_with fail
    all_goals
      go_ret
      first
        | exact ⟨S1.out, rfl⟩
        | exact ⟨S1.out, by simp [*]⟩
def FineP (L S : Int) (es : List E3) : Prop := eck L S es = 0 ∧ 0 < S ∧ L ≤ 4
def FineRet (L S : Int) (es : List E3) (w : World) (e : Ending) (w' : World) : Prop := Below w.heap.size w w' ∧ ∃ b, e = .returned (.bool b) ∧ (b = true → FineP L S es)
set_option maxRecDepth 100000 in
set_option maxHeartbeats 3200000 in
theorem fine_any (L S : Int) (es : List E3) (v : Value) (w : World) (hr : Row w v es.length (ce es)) (hok : okEs es) :
    Calls Try.prog 17 #[.agg #[.int .i64 L, .int .i64 S, v]] w (FineRet L S es w) := by
  obtain ⟨va, vc, rfl, hle⟩ := hr.slice
  obtain ⟨mm, hmm⟩ : ∃ mm, mm = es.length := ⟨_, rfl⟩
  have s0 := (Below.refl w.heap.size w).alloc (Nat.le_refl _) (.cells #[.int .i64 L, .int .i64 S, .slice va es.length vc] 24)
  have b0 := Blk.new w 24 [.int .i64 L, .int .i64 S, .slice va es.length vc]
  have hdt := det_any L S es (.slice va es.length vc) _ (hr.below s0 (Nat.le_refl _)) hok
  obtain ⟨dis, hdis⟩ : ∃ dis, dis = (decide (chk L S es = 0) && detB es) := ⟨_, rfl⟩
  obtain ⟨der, hder⟩ : ∃ der : Int, der = (if chk L S es = 0 then 0 else 1) := ⟨_, rfl⟩
  have hF : dis = true → 0 < S → L ≤ 16 → ¬ 4 < L → FineP L S es := by
    intro h1 h2 h3 h4
    rw [hdis, Bool.and_eq_true, decide_eq_true_eq] at h1
    refine ⟨?_, h2, by omega⟩
    unfold eck
    rw [if_neg (by simp [h1.1]), if_neg (by omega), if_pos h1.2]
  rw [← hdis, ← hder] at hdt
  rw [← hmm] at hdt s0 b0
  have hgl := fun w' h4 h16 => great29_lab L S va mm vc w' h4 h16
  have hga := fun w' => great29_any L S va mm vc w'
  have HMM := Lib.hid hmm; clear hmm
  have HDT := Lib.hid hdt; clear hdt
  have S0 := Lib.hid s0; clear s0
  have B0 := Lib.hid b0; clear b0
  have HF := Lib.hid hF; clear hF
  have HGL := Lib.hid hgl; clear hgl
  have HGA := Lib.hid hga; clear hga
  clear hr hok hdis hder
  go_enter Try.func17, Try.ntmps17
  rw [← HMM.out]
  go_wp2_with fail
  go_at_call 45
  refine HDT.out.mono ?_
  rintro e w1 ⟨hq, rfl⟩
  have s1 := S0.out.trans (hq.mono S0.out.size)
  have tk := B0.out.keep hq; have x0 := tk.cell (j := 0) rfl; have x1 := tk.cell (j := 1) rfl; have x2 := tk.cell (j := 2) rfl; have C0 := Lib.hid tk; clear tk
  have S1 := Lib.hid s1; clear s1
  clear hq
  go_wp2_with fail
  go_at_call 8
  by_cases hb : 4 < L ∧ L ≤ 16
  · refine (HGL.out _ hb.1 hb.2).mono ?_
    rintro e w2 ⟨hq, rfl⟩
    have s2 := S1.out.trans (hq.mono S1.out.size)
    clear x0 x1 x2
    have tk := C0.out.keep hq; have x0 := tk.cell (j := 0) rfl; have x1 := tk.cell (j := 1) rfl; have x2 := tk.cell (j := 2) rfl; have D0 := Lib.hid tk; clear tk
    have S2 := Lib.hid s2; clear s2
    clear hq
    go_wp2_with fail
    go_ret
    exact ⟨S2.out, _, rfl, fun h => by cases h⟩
  · refine (HGA.out _).mono ?_
    rintro e w2 ⟨hq, b, rfl⟩
    have s2 := S1.out.trans (hq.mono S1.out.size)
    clear x0 x1 x2
    have tk := C0.out.keep hq; have x0 := tk.cell (j := 0) rfl; have x1 := tk.cell (j := 1) rfl; have x2 := tk.cell (j := 2) rfl; have D0 := Lib.hid tk; clear tk
    have S2 := Lib.hid s2; clear s2
    clear hq
    cases b with
    | true =>
      go_wp2_with fail
      go_ret
      exact ⟨S2.out, _, rfl, fun h => by cases h⟩
    | false =>
      cases dis with
      | false =>
        by_cases hd0 : der = 0
        · have t0 : (der == 0) = true := by simp [hd0]
          go_wp2_with fail
          go_ret
          exact ⟨S2.out, _, rfl, fun h => by cases h⟩
        · have t0 : (der == 0) = false := by simp [hd0]
          go_wp2_with fail
          go_ret
          exact ⟨S2.out, _, rfl, fun h => by cases h⟩
      | true =>
        by_cases hd0 : der = 0
        · have t0 : (der == 0) = true := by simp [hd0]
          by_cases hS : 0 < S
          · have tS : decide (0 < S) = true := by simpa using hS
            by_cases hL : L ≤ 16
            · have tL : decide (L ≤ 16) = true := by simpa using hL
              have hf := HF.out rfl hS hL (by omega)
              have HFP := Lib.hid hf; clear hf
              go_wp2_with fail
              go_ret
              exact ⟨S2.out, _, rfl, fun _ => HFP.out⟩
            · have tL : decide (L ≤ 16) = false := by simpa using hL
              go_wp2_with fail
              go_ret
              exact ⟨S2.out, _, rfl, fun h => by cases h⟩
          · have tS : decide (0 < S) = false := by simpa using hS
            go_wp2_with fail
            go_ret
            exact ⟨S2.out, _, rfl, fun h => by cases h⟩
        · have t0 : (der == 0) = false := by simp [hd0]
          go_wp2_with fail
          go_ret
          exact ⟨S2.out, _, rfl, fun h => by cases h⟩
end Go.Proofs.Ytalipfnbpnkgnaa

/- groovelaw29.choose: some of the states, in order; slices.Contains at a row of ints. -/
namespace Go.Proofs.Ytalipfnbpnkgnaa
open Go.RowKit

/-- Some of the states below k, in order. -/
def SomeS (k : Nat) (l : List Int) : Prop := InR k l ∧ l.Pairwise (· < ·)
theorem SomeS.nil : SomeS 0 [] := ⟨fun x hx => (by cases hx), List.Pairwise.nil⟩
theorem SomeS.skip {k : Nat} {l : List Int} (h : SomeS k l) : SomeS (k + 1) l := ⟨fun x hx => by have := h.1 x hx; omega, h.2⟩
theorem SomeS.take {k : Nat} {l : List Int} (h : SomeS k l) : SomeS (k + 1) (l ++ [(k : Int)]) := by
  refine ⟨fun x hx => ?_, ?_⟩
  · rcases List.mem_append.1 hx with h1 | h1
    · have := h.1 x h1; omega
    · obtain rfl : x = (k : Int) := by simpa using h1
      omega
  · rw [List.pairwise_append]
    refine ⟨h.2, List.pairwise_singleton _ _, fun a ha b hb => ?_⟩
    obtain rfl : b = (k : Int) := by simpa using hb
    have := h.1 a ha; omega
theorem asc_len {k : Nat} {l : List Int} (h : SomeS k l) : l.length ≤ k := by
  have h1 : ∀ (l : List Int) (a b : Int), (∀ x ∈ l, a ≤ x ∧ x < b) → l.Pairwise (· < ·) → (l.length : Int) ≤ max 0 (b - a) := by
    intro l
    induction l with
    | nil => intro a b _ _; simp; omega
    | cons x l ih =>
      intro a b h hp
      have h1 := h x (by simp)
      obtain ⟨h2, h3⟩ := List.pairwise_cons.1 hp
      have := ih (x + 1) b (fun y hy => ⟨by have := h2 y hy; omega, (h y (by simp [hy])).2⟩) h3
      rw [List.length_cons]
      omega
  have := h1 l 0 k (fun x hx => h.1 x hx) h.2
  omega
def SomeRet (S : Nat) (w : World) (e : Ending) (w' : World) : Prop := Below w.heap.size w w' ∧ ∃ v l, e = .returned v ∧ SomeS S l ∧ Row w' v l.length (ci l)
set_option maxRecDepth 100000 in
set_option maxHeartbeats 3200000 in
theorem choose_any (L : Int) (S nb : Nat) (v : Value) (w : World) (hS : S ≤ 64) (hnb : nb ≤ 65535) :
    Calls Try.prog 24 #[.agg #[.int .i64 L, .int .i64 (S : Int), v], .int .u16 (nb : Int)] w (SomeRet S w) := by
  obtain ⟨i0, hi, hz0, hz1', hz2'⟩ := info_parts infoIntP
  have b0 := Blk.new w 24 [.int .i64 L, .int .i64 (S : Int), v]
  have x1 := b0.cell (j := 1) rfl
  have s0 := (Below.refl w.heap.size w).alloc (Nat.le_refl _) (.cells #[.int .i64 L, .int .i64 (S : Int), v] 24)
  have B0 := Lib.hid b0; clear b0
  have S0 := Lib.hid s0; clear s0
  go_enter Try.func24, Try.ntmps24
  go_wp2_with fail
  clear x1
  go_loopw [5, 9] (fun u i wr => ∃ (k : Nat) (l : List Int), k ≤ S ∧ i = .int .i64 k ∧ SomeS k l ∧ wr.ownsRow (w.heap.size + 1) 3 1 u l.length (ci l) ∧ Below (w.heap.size + 1) (w.alloc (.cells #[.int .i64 L, .int .i64 (S : Int), v] 24)) wr) (fun _ i _ => S - (intOf i).toNat)
  case atStart => exact ⟨0, [], by omega, rfl, SomeS.nil, World.ownsRow_nil _ _ _ _, Below.refl _ _⟩
  case round =>
    obtain ⟨k, l, hk, rfl, hsl, hown, hbel⟩ := hrel
    have hsz : w.heap.size + 1 ≤ wr.heap.size := by have := hbel.size; simp at this; omega
    have hln := asc_len hsl
    obtain ⟨a, cap, rfl⟩ := own_slice hown
    have HO := Lib.hid hown; clear hown
    have HB := Lib.hid hbel; clear hbel
    have HSL := Lib.hid hsl; clear hsl
    by_cases hlt : k < S
    · have hk0 : (0 : Int) ≤ (k : Int) := by omega
      obtain ⟨tb, htb⟩ : ∃ tb, (bits BinOp.and IntKind.u16 ((nb : Int) / 2 ^ min k 16) 1 == 1) = tb := ⟨_, rfl⟩
      cases tb with
      | true =>
        have hci := ci_snoc l (k : Int)
        have HCI := Lib.hid hci; clear hci
        go_wp2_with (at_builtin; refine wpList_append_lies _ rfl (.tmp 17) (.tmp 19) 31 rfl (w.heap.size + 1) 3 i0 _ 1 8 Try.underlying31 hi hz0 hz1' hz2' rfl (by decide) _ _ _ rfl (HO.out.alloc _) _ 1 1 [.int .i64 (k : Int)] rfl rfl (World.news_of_block (heap_alloc_new _ _)) (by simp [Value.oneCell']) (by omega) (by unfold maxLen; omega) (by omega) (by simp; omega) _ rfl ?_; intro g cap' w3 hown' hg hat hlt'; have HG := Lib.hid hg; clear hg; have HO4 := Lib.hid hown'; clear hown'; have HAT := Lib.hid hat; clear hat)
        go_roundw
        case rel =>
          refine ⟨k + 1, l ++ [(k : Int)], by omega, by go_num, HSL.out.take, ?_, (HB.out.alloc hsz _).grown HG.out (by simp; omega) (fun j hj => (HO.out.lt j hj).1)⟩
          rw [List.length_append, List.length_singleton, HCI.out]; exact HO4.out
        case measure => simp [intOf]; omega
      | false =>
        go_wp2_with fail
        go_roundw
        case rel => exact ⟨k + 1, l, by omega, by go_num, HSL.out.skip, HO.out, HB.out⟩
        case measure => simp [intOf]; omega
    · obtain rfl : k = S := by omega
      have hbw : Below w.heap.size w wr := S0.out.trans (HB.out.mono (by omega))
      have HBW := Lib.hid hbw; clear hbw
      go_wp2_with fail
      go_ret
      exact ⟨HBW.out, _, l, rfl, HSL.out, own_row HO.out⟩
end Go.Proofs.Ytalipfnbpnkgnaa

/- enumerative.checkSet and checkAll. -/
namespace Go.Proofs.Ytalipfnbpnkgnaa
open Go.RowKit

/-- The error of a set of states: pr is the state in front. -/
def cset (S : Int) : Option Int → List Int → Int
  | _, [] => 0
  | none, s :: r => if s < 0 ∨ S ≤ s then 25 else cset S (some s) r
  | some q, s :: r => if s < 0 ∨ S ≤ s then 25 else if s ≤ q then 10 else cset S (some s) r
theorem cset_out {S : Int} {pr : Option Int} {s : Int} {r : List Int} (h : s < 0 ∨ S ≤ s) : cset S pr (s :: r) = 25 := by
  cases pr <;> simp only [cset] <;> rw [if_pos h]
theorem cset_le {S q s : Int} {r : List Int} (h : ¬ (s < 0 ∨ S ≤ s)) (h2 : s ≤ q) : cset S (some q) (s :: r) = 10 := by
  simp only [cset]; rw [if_neg h, if_pos h2]
theorem cset_gt {S q s : Int} {r : List Int} (h : ¬ (s < 0 ∨ S ≤ s)) (h2 : ¬ s ≤ q) : cset S (some q) (s :: r) = cset S (some s) r := by
  simp only [cset]; rw [if_neg h, if_neg h2]
theorem cset_first {S s : Int} {r : List Int} (h : ¬ (s < 0 ∨ S ≤ s)) : cset S none (s :: r) = cset S (some s) r := by
  simp only [cset]; rw [if_neg h]
theorem cset_ok {S : Nat} : ∀ (l : List Int) (pr : Option Int), (∀ x ∈ l, 0 ≤ x ∧ x < (S : Int)) → l.Pairwise (· < ·) → (∀ q, pr = some q → ∀ x ∈ l, q < x) → cset (S : Int) pr l = 0
  | [], pr, _, _, _ => by cases pr <;> rfl
  | s :: r, pr, h1, h2, h3 => by
    have hs := h1 s (List.mem_cons_self ..)
    have hr := cset_ok r (some s) (fun x hx => h1 x (List.mem_cons_of_mem _ hx)) (List.pairwise_cons.1 h2).2 (fun q hq x hx => by
      simp only [Option.some.injEq] at hq
      subst hq
      exact (List.pairwise_cons.1 h2).1 x hx)
    cases pr with
    | none => rw [cset_first (by omega)]; exact hr
    | some q => rw [cset_gt (by omega) (by have := h3 q rfl s (List.mem_cons_self ..); omega)]; exact hr
/-- The state in front of place j. -/
def prevS (l : List Int) (j : Nat) : Option Int := match j with | 0 => none | i + 1 => l[i]?
set_option maxRecDepth 100000 in
set_option maxHeartbeats 3200000 in
theorem checkset_any (L : Int) (S : Nat) (v vs : Value) (l : List Int) (w : World) (hr : Row w vs l.length (ci l)) (hl : l.length ≤ 1000000) :
    Calls Try.prog 93 #[.agg #[.int .i64 L, .int .i64 (S : Int), v], vs] w (Ret w (.int .i64 (cset (S : Int) none l))) := by
  obtain ⟨sa, sc, rfl, hsle⟩ := hr.slice
  obtain ⟨m, hm⟩ : ∃ m, m = l.length := ⟨_, rfl⟩
  have b0 := Blk.new w 24 [.int .i64 L, .int .i64 (S : Int), v]
  have x1 := b0.cell (j := 1) rfl
  have s0 := (Below.refl w.heap.size w).alloc (Nat.le_refl _) (.cells #[.int .i64 L, .int .i64 (S : Int), v] 24)
  have hr0 := hr.below s0 (Nat.le_refl _)
  obtain ⟨R, hR⟩ : ∃ R, R = cset (S : Int) none l := ⟨_, rfl⟩
  rw [← hR]
  rw [← hm] at hr0 hl hsle ⊢
  have HRR := Lib.hid hR; clear hR
  have S0 := Lib.hid s0; clear s0
  have HR := Lib.hid hr0; clear hr0
  have HM := Lib.hid hm; clear hm
  clear hr b0
  go_enter Try.func93, Try.ntmps93
  go_wp2_with fail
  go_loopw [9] (fun i wr => ∃ j : Nat, j ≤ m ∧ i = .int .i64 j ∧ wr = w.alloc (.cells #[.int .i64 L, .int .i64 (S : Int), v] 24) ∧ R = cset (S : Int) (prevS l j) (l.drop j)) (fun i _ => m - (intOf i).toNat)
  case atStart => exact ⟨0, Nat.zero_le _, rfl, rfl, HRR.out⟩
  case round =>
    obtain ⟨j, hj, rfl, rfl, hno⟩ := hrel
    by_cases hlt : j < m
    · have hjl : j < l.length := by rw [← HM.out]; exact hlt
      have hget : l[j]? = some (l[j]'hjl) := List.getElem?_eq_getElem _
      obtain ⟨y, hy⟩ : ∃ y, y = l[j]'hjl := ⟨_, rfl⟩
      rw [List.drop_eq_getElem_cons hjl, ← hy] at hno
      rw [← hy] at hget
      obtain ⟨b, off, rfl, hbw, hce⟩ := HR.out.at_ (by omega)
      have c0 := hce j _ (ci_at hget)
      have hix : (0 : Int) ≤ (j : Int) := by omega
      by_cases hy0 : y < 0
      · rw [cset_out (.inl hy0)] at hno
        have HNO := Lib.hid hno; clear hno
        clear hce hget hy
        go_wp2_with fail
        go_ret
        exact ⟨S0.out, by rw [HNO.out]; rfl⟩
      · by_cases hyS : (S : Int) ≤ y
        · rw [cset_out (.inr hyS)] at hno
          have HNO := Lib.hid hno; clear hno
          clear hce hget hy
          go_wp2_with fail
          go_ret
          exact ⟨S0.out, by rw [HNO.out]; rfl⟩
        · have hyo : ¬ (y < 0 ∨ (S : Int) ≤ y) := by omega
          cases j with
          | zero =>
            replace c0 : (w.alloc (.cells #[.int .i64 L, .int .i64 (S : Int), v] 24)).cell? ⟨b, off, none⟩ = some (.int .i64 y) := c0
            have hno2 : R = cset (S : Int) (prevS l 1) (l.drop 1) := by
              rw [show prevS l 1 = some y from hget]
              rw [show prevS l 0 = none from rfl, cset_first hyo] at hno
              exact hno
            have HNO := Lib.hid hno2; clear hno2
            clear hno hce hget hy
            go_wp2_with fail
            go_roundw
            case rel => exact ⟨1, by omega, by go_num, trivial, HNO.out⟩
            case measure => simp [intOf]; omega
          | succ i =>
            have hil : i < l.length := by omega
            have hgi : l[i]? = some (l[i]'hil) := List.getElem?_eq_getElem _
            obtain ⟨z, hz⟩ : ∃ z, z = l[i]'hil := ⟨_, rfl⟩
            rw [← hz] at hgi
            have d0 := hce i _ (ci_at hgi)
            have hi0 : (0 : Int) ≤ ((i + 1 : Nat) : Int) - 1 := by omega
            have hi1 : ((i + 1 : Nat) : Int) - 1 = (i : Int) := by omega
            rw [show prevS l (i + 1) = some z from hgi] at hno
            by_cases hle : y ≤ z
            · rw [cset_le hyo hle] at hno
              have HNO := Lib.hid hno; clear hno
              clear hce hget hy hgi hz
              go_wp2_with fail
              go_ret
              exact ⟨S0.out, by rw [HNO.out]; rfl⟩
            · have hno2 : R = cset (S : Int) (prevS l (i + 1 + 1)) (l.drop (i + 1 + 1)) := by
                rw [show prevS l (i + 1 + 1) = some y from hget]
                rw [cset_gt hyo hle] at hno
                exact hno
              have HNO := Lib.hid hno2; clear hno2
              clear hno hce hget hy hgi hz
              go_wp2_with fail
              go_roundw
              case rel => exact ⟨i + 1 + 1, by omega, by go_num, trivial, HNO.out⟩
              case measure => simp [intOf]; omega
    · obtain rfl : j = m := by omega
      rw [List.drop_of_length_le (by rw [HM.out]; exact Nat.le_refl _)] at hno
      have hno2 : R = 0 := by rw [hno]; cases prevS l j <;> rfl
      have HNO := Lib.hid hno2; clear hno2
      clear hno
      go_wp2_with fail
      go_ret
      exact ⟨S0.out, by rw [HNO.out]; rfl⟩
/-- The error of a graph, a set, a state and a length. -/
def eall (L S : Int) (es : List E3) (l : List Int) (s n : Int) : Int := if eck L S es ≠ 0 then eck L S es else if cset S none l ≠ 0 then cset S none l else elen S s n
set_option maxRecDepth 100000 in
set_option maxHeartbeats 3200000 in
theorem checkall_any (L : Int) (S : Nat) (s n : Int) (es : List E3) (v vs : Value) (l : List Int) (w : World) (hr : Row w v es.length (ce es)) (hok : okEs es) (hrs : Row w vs l.length (ci l)) (hl : l.length ≤ 1000000) :
    Calls Try.prog 56 #[.agg #[.int .i64 L, .int .i64 (S : Int), v], vs, .int .i64 s, .int .i64 n] w (Ret w (.int .i64 (eall L (S : Int) es l s n))) := by
  obtain ⟨va, vc, rfl, hle⟩ := hr.slice
  obtain ⟨sa, sc, rfl, hsle⟩ := hrs.slice
  obtain ⟨mm, hmm⟩ : ∃ mm, mm = es.length := ⟨_, rfl⟩
  obtain ⟨m, hm⟩ : ∃ m, m = l.length := ⟨_, rfl⟩
  have b0 := Blk.new w 24 [.int .i64 L, .int .i64 (S : Int), .slice va es.length vc]
  have s0 := (Below.refl w.heap.size w).alloc (Nat.le_refl _) (.cells #[.int .i64 L, .int .i64 (S : Int), .slice va es.length vc] 24)
  have hr0 := hr.below s0 (Nat.le_refl _)
  have hrs0 := hrs.below s0 (Nat.le_refl _)
  have hck := echeck_any L (S : Int) es _ _ hr0 hok
  have hcs := fun w' (h : Row w' (.slice sa l.length sc) l.length (ci l)) => checkset_any L S (.slice va es.length vc) (.slice sa l.length sc) l w' h hl
  have hel := fun w' => elen_any L (S : Int) s n (.slice va es.length vc) w'
  obtain ⟨R, hR⟩ : ∃ R, R = eall L (S : Int) es l s n := ⟨_, rfl⟩
  rw [← hR]
  unfold eall at hR
  obtain ⟨A, hA⟩ : ∃ A, A = eck L (S : Int) es := ⟨_, rfl⟩
  obtain ⟨B, hB⟩ : ∃ B, B = cset (S : Int) none l := ⟨_, rfl⟩
  obtain ⟨C, hC⟩ : ∃ C, C = elen (S : Int) s n := ⟨_, rfl⟩
  rw [← hA, ← hB, ← hC] at hR
  rw [← hA] at hck
  rw [← hB] at hcs
  rw [← hC] at hel
  rw [← hmm] at b0 s0 hr0 hrs0 hck hcs hel hle ⊢
  rw [← hm] at hrs0 hcs hl hsle ⊢
  have HMM := Lib.hid hmm; clear hmm
  have HM := Lib.hid hm; clear hm
  have HRR := Lib.hid hR; clear hR
  have HCK := Lib.hid hck; clear hck
  have HCS := Lib.hid hcs; clear hcs
  have HEL := Lib.hid hel; clear hel
  have S0 := Lib.hid s0; clear s0
  have B0 := Lib.hid b0; clear b0
  have HR0 := Lib.hid hrs0; clear hrs0
  clear hr hr0 hrs hok hA hB hC
  go_enter Try.func56, Try.ntmps56
  go_wp2_with fail
  go_at_call 33
  refine HCK.out.mono ?_
  rintro e w1 ⟨hq, rfl⟩
  have s1 := S0.out.trans (hq.mono S0.out.size)
  have hr1 := HR0.out.below hq (Nat.le_refl _)
  have tk := B0.out.keep hq; have x0 := tk.cell (j := 0) rfl; have x1 := tk.cell (j := 1) rfl; have x2 := tk.cell (j := 2) rfl; have C0 := Lib.hid tk; clear tk
  have S1 := Lib.hid s1; clear s1
  have HR1 := Lib.hid hr1; clear hr1
  clear hq
  by_cases hA : A = 0
  · have hR1 := HRR.out
    rw [if_neg (by simpa using hA)] at hR1
    subst hA
    have HRB := Lib.hid hR1; clear hR1
    go_wp2_with fail
    go_at_call 93
    refine (HCS.out _ HR1.out).mono ?_
    rintro e w2 ⟨hq, rfl⟩
    have s2 := S1.out.trans (hq.mono S1.out.size)
    clear x0 x1 x2
    have tk := C0.out.keep hq; have x0 := tk.cell (j := 0) rfl; have x1 := tk.cell (j := 1) rfl; have x2 := tk.cell (j := 2) rfl; have D0 := Lib.hid tk; clear tk
    have S2 := Lib.hid s2; clear s2
    clear hq
    by_cases hB : B = 0
    · have hR2 := HRB.out
      rw [if_neg (by simpa using hB)] at hR2
      subst hB
      have HRC := Lib.hid hR2; clear hR2
      go_wp2_with fail
      go_at_call 69
      refine (HEL.out _).mono ?_
      rintro e w3 ⟨hq, rfl⟩
      have s3 := S2.out.trans (hq.mono S2.out.size)
      have S3 := Lib.hid s3; clear s3
      clear hq
      go_wp2_with fail
      go_ret
      exact ⟨S3.out, by rw [HRC.out]; rfl⟩
    · have hR2 := HRB.out
      rw [if_pos (by simpa using hB)] at hR2
      have HRC := Lib.hid hR2; clear hR2
      go_wp2_with fail
      go_ret
      exact ⟨S2.out, by rw [HRC.out]; rfl⟩
  · have hR1 := HRR.out
    rw [if_pos (by simpa using hA)] at hR1
    have HRB := Lib.hid hR1; clear hR1
    go_wp2_with fail
    go_ret
    exact ⟨S1.out, by rw [HRB.out]; rfl⟩
theorem eall_ok {L : Int} {S : Nat} {es : List E3} {l : List Int} {s n : Nat} (hE : eck L (S : Int) es = 0) (hl : SomeS S l) (hs : s < S) (hn : n ≤ 4096) : eall L (S : Int) es l (s : Int) (n : Int) = 0 := by
  unfold eall
  rw [if_neg (by simp [hE]), if_neg]
  · unfold elen
    rw [if_neg (by omega), if_neg (by omega)]
  · have := cset_ok (S := S) l none (fun x hx => by have := hl.1 x hx; omega) hl.2 (fun q hq => by cases hq)
    simp [this]
end Go.Proofs.Ytalipfnbpnkgnaa

/- strings.Builder: WriteString, Len, String at a builder that the call owns. -/
namespace Go.Proofs.Ytalipfnbpnkgnaa
open Go.RowKit

set_option maxRecDepth 100000 in
set_option maxHeartbeats 3200000 in
theorem wstr_any (B b : Nat) (bs : List Value) (s : ByteArray) (w : World) (h : Lib.IsBuilder 93 5 B b bs w) (hlen : bs.length + s.size ≤ 1000000000) (hBw : B ≤ w.heap.size) :
    Calls Try.prog 62 #[.pointer (some ⟨b, 0, none⟩), .string s] w fun e w' => e = .returned (.tuple #[.int .i64 (s.size : Int), .nilIface]) ∧ Lib.BuilderAt 93 5 B b (.pointer (some ⟨b, 0, none⟩)) (bs ++ Lib.strCells s) w' ∧ Below B w w' ∧ Lib.OthersKept 5 (some b) w w' := by
  have hcc := ccheck_any B b bs w h
  obtain ⟨i0, hi, hz0, hz1, hz2⟩ := info_parts infoByte
  have HCC := Lib.hid hcc; clear hcc
  go_enter Try.func62, Try.ntmps62
  go_wp2_with fail
  refine HCC.out.mono ?_
  rintro e w1 ⟨rfl, ⟨hB, v, hbk, hown, hne⟩, hb1, hk1⟩
  have c0 : w1.cell? ⟨b, 0, none⟩ = some (.pointer (some ⟨b, 0, none⟩)) := by rw [Lib.cell_of_heap hbk]; rfl
  have c1 : w1.cell? ⟨b, 1, none⟩ = some v := by rw [Lib.cell_of_heap hbk]; rfl
  have hlt : b < w1.heap.size := (Array.getElem?_eq_some_iff.1 hbk).1
  have HOWN := Lib.hid hown; clear hown
  have HB1 := Lib.hid hb1; clear hb1
  have HK1 := Lib.hid hk1; clear hk1
  have HBK := Lib.hid hbk; clear hbk
  go_wp2_with (at_builtin; refine Lib.wpList_append_own_string _ rfl _ _ 50 9 rfl B 5 i0 Try.underlying50 Try.underlying9 hi hz0 hz1 hz2 _ _ _ rfl HOWN.out s rfl (by unfold maxLen; omega) (by omega) (by have := HB1.out.size; omega) ?_; intro g' w2 hown' hg hat; obtain ⟨ga, gc, rfl⟩ := own_slice hown'; have HG := Lib.hid hg; clear hg; have HO4 := Lib.hid hown'; clear hown'; have hbk2 := (HG.out.block b hlt (fun e => hne e.symm)).trans HBK.out; have d0 : w2.cell? ⟨b, 0, none⟩ = some (.pointer (some ⟨b, 0, none⟩)) := by {rw [Lib.cell_of_heap hbk2]; rfl}; have d1 : w2.cell? ⟨b, 1, none⟩ = some v := by {rw [Lib.cell_of_heap hbk2]; rfl}; have f1 : w2.frozen? ⟨b, 1, none⟩ = false := Lib.frozen_of_heap hbk2 1; have HBK2 := Lib.hid hbk2; clear hbk2)
  go_ret2
  have hb2 : Below B w w2 := HB1.out.grown HG.out (by have := HB1.out.size; omega) (fun k hk => (HOWN.out.lt k hk).1)
  refine ⟨rfl, ?_, hb2.setCell (p := ⟨b, 1, none⟩) hB _, ?_⟩
  · exact Lib.BuilderAt.put (T := 93) (e := 5) hB HBK2.out (bs' := bs ++ Lib.strCells s) (by simpa [Lib.strCells_length] using HO4.out) (by decide)
  · refine Lib.OthersKept.setCell (HK1.out.grown HG.out (fun g hgo => ?_)) ⟨b, 1, none⟩ rfl _
    rcases HOWN.out.2 with ⟨hv, _⟩ | ⟨g2, c2, cur, hv, _, hgg, _⟩
    · rw [hv] at hgo; cases hgo
    · rw [hv] at hgo
      obtain rfl : g2 = g := Option.some.inj hgo
      exact ⟨_, _, hgg⟩
theorem bytes_app (acc l : List UInt8) : Lib.byteCells acc ++ Lib.strCells ⟨l.toArray⟩ = Lib.byteCells (acc ++ l) := by simp [Lib.byteCells, Lib.strCells]
theorem wstr_B (N : Nat) (acc l : List UInt8) (w : World) (h : IsB N acc w) (hlen : acc.length + l.length ≤ 1000000000) :
    Calls Try.prog 62 #[.pointer (some ⟨N, 0, none⟩), .string ⟨l.toArray⟩] w fun e w' => e = .returned (.tuple #[.int .i64 (l.length : Int), .nilIface]) ∧ IsB N (acc ++ l) w' ∧ Below N w w' ∧ Lib.OthersKept 5 (some N) w w' := by
  have hsz : (⟨l.toArray⟩ : ByteArray).size = l.length := by show l.toArray.size = l.length; simp
  refine (wstr_any N N (Lib.byteCells acc) ⟨l.toArray⟩ w h (by rw [Lib.byteCells_length, hsz]; exact hlen) (Nat.le_of_lt (isB_lt h))).mono ?_
  rintro e w' ⟨h1, h2, h3, h4⟩
  rw [bytes_app] at h2
  rw [hsz] at h1
  exact ⟨h1, .inr h2, h3, h4⟩
end Go.Proofs.Ytalipfnbpnkgnaa

/- slices.ContainsFunc at a row of canonical numbers, with Stream's test. -/
namespace Go.Proofs.Ytalipfnbpnkgnaa
open Go.RowKit

set_option maxRecDepth 100000 in
set_option maxHeartbeats 3200000 in
theorem stream1_any (a : Int) (w : World) (hs : small a) :
    Calls Try.prog 58 #[.agg #[.bool (ineg a), .string (imag a)]] w (Ret w (.bool false)) := by
  have hic := fun w' => icheck_any (ineg a) (imag a) w' hs
  have hch : chkZ (cnB (ineg a) (imag a)) = 0 := by rw [cnB_canon]; rfl
  rw [hch] at hic
  have s0 := (Below.refl w.heap.size w).alloc (Nat.le_refl _) (.cells #[.bool (ineg a), .string (imag a)] 26)
  have S0 := Lib.hid s0; clear s0
  have HIC := Lib.hid hic; clear hic
  go_enter Try.func58, Try.ntmps58
  go_wp2_with fail
  go_at_call 34
  refine (HIC.out _).mono ?_
  rintro e w1 ⟨hq, rfl⟩
  have s1 := S0.out.trans (hq.mono S0.out.size)
  have S1 := Lib.hid s1; clear s1
  clear hq
  go_wp2_with fail
  go_ret
  exact ⟨S1.out, rfl⟩
set_option maxRecDepth 100000 in
set_option maxHeartbeats 3200000 in
theorem idxI_any (l : List Int) (v : Value) (w : World) (hr : Row w v l.length (civ l)) (hs : ∀ x ∈ l, small x) :
    Calls Try.prog 94 #[v, .func (.func 58) #[] #[]] w (Ret w (.int .i64 (-1))) := by
  obtain ⟨va, vc, rfl, hle⟩ := hr.slice
  obtain ⟨m, hm⟩ : ∃ m, m = l.length := ⟨_, rfl⟩
  have hent : ∀ args w, (callFunc 58 args).run Try.prog w = .ok (.enter 58 args) w := fun args w => enters_of Try.func58 (by kernel_rfl) rfl args w
  rw [← hm] at hr hle ⊢
  have HR := Lib.hid hr; clear hr
  have HM := Lib.hid hm; clear hm
  have HS := Lib.hid hs; clear hs
  go_enter Try.func94, Try.ntmps94
  go_wp2_with fail
  go_loopw [8] (fun i wr => ∃ j : Nat, j ≤ m ∧ i = .int .i64 j ∧ Below w.heap.size w wr) (fun i _ => m - (intOf i).toNat)
  case atStart => exact ⟨0, Nat.zero_le _, rfl, Below.refl _ _⟩
  case round =>
    obtain ⟨j, hj, rfl, hbel⟩ := hrel
    by_cases hlt : j < m
    · have hjl : j < l.length := by rw [← HM.out]; exact hlt
      have hget : l[j]? = some (l[j]'hjl) := List.getElem?_eq_getElem _
      have hsj := HS.out _ (List.getElem_mem hjl)
      obtain ⟨y, hy⟩ : ∃ y, y = l[j]'hjl := ⟨_, rfl⟩
      rw [← hy] at hget hsj
      obtain ⟨b, off, rfl, hbw, hce⟩ := HR.out.at_ (by omega)
      have c01 := int_cells hce hbel hbw hget
      obtain ⟨c0, c1⟩ := c01
      have his := stream1_any y wr hsj
      have HIS := Lib.hid his; clear his
      have HBEL := Lib.hid hbel; clear hbel
      clear hce hget hy
      go_wp2_with fail
      refine HIS.out.mono ?_
      rintro e w1 ⟨hq1, rfl⟩
      have s1 := HBEL.out.trans (hq1.mono HBEL.out.size)
      have S1 := Lib.hid s1; clear s1
      clear hq1
      go_wp2_with fail
      go_roundw
      case rel => exact ⟨j + 1, by omega, by go_num, S1.out⟩
      case measure => simp [intOf]; omega
    · obtain rfl : j = m := by omega
      have HBEL := Lib.hid hbel; clear hbel
      go_wp2_with fail
      go_ret
      exact ⟨HBEL.out, rfl⟩
set_option maxRecDepth 100000 in
set_option maxHeartbeats 3200000 in
theorem cfI_any (l : List Int) (v : Value) (w : World) (hr : Row w v l.length (civ l)) (hs : ∀ x ∈ l, small x) :
    Calls Try.prog 57 #[v, .func (.func 58) #[] #[]] w (Ret w (.bool false)) := by
  have hi := idxI_any l v w hr hs
  have HI := Lib.hid hi; clear hi
  go_enter Try.func57, Try.ntmps57
  go_wp2_with fail
  go_at_call 94
  refine HI.out.mono ?_
  rintro e w1 ⟨hq, rfl⟩
  have HQ := Lib.hid hq; clear hq
  go_wp2_with fail
  go_ret
  exact ⟨HQ.out, rfl⟩
end Go.Proofs.Ytalipfnbpnkgnaa

/- enumerative.unrank outside of the numbers of words. -/
namespace Go.Proofs.Ytalipfnbpnkgnaa
open Go.RowKit Go.Shelf

attribute [local go_sem] Oper.semAt_some
def UrOut (w : World) (e : Ending) (w' : World) : Prop := Below w.heap.size w w' ∧ e = .returned (.tuple #[.string ⟨#[]⟩, .int .i64 0, .bool false])

set_option maxRecDepth 100000 in
set_option maxHeartbeats 8000000 in
theorem unrank_neg (L : Int) (S s0 n : Nat) (a0 : Int) (es : List E3) (v tv : Value) (p : Int → Bool) (w : World) (hr : Row w v es.length (ce es)) (ht : Tab w tv (tabL es S p n)) (hS : S ≤ 64) (hl : es.length ≤ 1024) (hin : InS S es) (hlab : ∀ e ∈ es, 0 ≤ e.l ∧ e.l < 16) (hs0 : s0 < S) (hn : n ≤ 4096) (sA : small a0) (ha : a0 < 0) :
    CallsIn Fence.wide 8 Try.prog 61 #[.agg #[.int .i64 L, .int .i64 (S : Int), v], tv, .int .i64 (s0 : Int), .int .i64 (n : Int), .agg #[.bool (ineg a0), .string (imag a0)]] w (UrOut w) := by
  obtain ⟨rvs, hrvl, hrt, hrows⟩ := ht
  rw [tabL_length] at hrt
  obtain ⟨at0, ct, rfl, hct⟩ := hrt.slice
  obtain ⟨bt, ot, rfl, hbt, htc⟩ := hrt.at_ (by omega)
  -- the row of length n
  obtain ⟨rv, hrv1, hrv2⟩ := hrows n _ (tabL_get (by omega))
  rw [rowK_length] at hrv2
  obtain ⟨ar, cr, rfl, hcr⟩ := hrv2.slice
  obtain ⟨br, orr, rfl, hbr, hrc⟩ := hrv2.at_ (by omega)
  have r0 := htc n _ hrv1
  have gy : (rowK es S p n)[s0]? = some (cw es p n (s0 : Int)) := rowK_get hs0
  have sY : small (cw es p n (s0 : Int)) := cw_small (by omega) p n (by omega) _
  obtain ⟨Y, hY⟩ : ∃ Y, Y = cw es p n (s0 : Int) := ⟨_, rfl⟩
  rw [← hY] at gy sY
  have y0 := hrc _ _ (civ_get gy).1
  have y1 := hrc _ _ (civ_get gy).2
  rw [← Nat.add_assoc] at y1
  have hc1 := fun w' => icompare_any (ineg a0) false (imag a0) ⟨#[]⟩ w' sA (by decide)
  have hc2 := fun w' => icompare_any (ineg a0) (ineg Y) (imag a0) (imag Y) w' sA sY
  simp only [ival_canon, ival_zero0] at hc1 hc2
  obtain ⟨z1, hz1⟩ : ∃ z, z = cmpZ a0 0 := ⟨_, rfl⟩
  obtain ⟨z2, hz2⟩ : ∃ z, z = cmpZ a0 Y := ⟨_, rfl⟩
  rw [← hz1] at hc1
  rw [← hz2] at hc2
  have t1 : decide (z1 < 0) = true := by rw [hz1]; exact (cmpZ_neg a0 0).trans (by simp; omega)
  have hix1 : (0 : Int) ≤ (n : Int) := by omega
  have hix2 : (n : Int) < (n : Int) + 1 := by omega
  have hix3 : (0 : Int) ≤ (s0 : Int) := by omega
  have hix4 : (s0 : Int) < (S : Int) := by omega
  have hwn : IntKind.i64.wrap ((n : Int) - 1) = (n : Int) - 1 := IntWalk.i64_in _ (by omega)
  have HRVL := Lib.hid hrvl; clear hrvl
  have HROWS := Lib.hid hrows; clear hrows
  have HTC := Lib.hid htc; clear htc
  have HIN := Lib.hid hin; clear hin
  have HLAB := Lib.hid hlab; clear hlab
  have HR := Lib.hid hr; clear hr
  have HC1 := Lib.hid hc1; clear hc1
  have HC2 := Lib.hid hc2; clear hc2
  have HY0 := Lib.hid hY; clear hY
  clear hrt hrv1 hrv2 hrc gy sA sY hz1 hz2
  refine callsIn_of_wp_marks Try.func61 rfl trivial ?_ rfl
  simp only [Try.ntmps61, List.size_toArray, List.length_cons, List.length_nil, Nat.reduceAdd, Nat.reduceSub, Array.replicate_succ, Array.replicate_zero, List.push_toArray, List.append_toArray, List.nil_append, List.cons_append]
  gi_wp2
  simp only [Nat.add_assoc, Nat.reduceAdd]
  obtain ⟨w1, hw1⟩ : ∃ w1, ((((w.alloc (.cells #[.int .i64 L, .int .i64 (S : Int), v] 24)).alloc (.cells #[.slice (some ⟨bt, ot, none⟩) (n + 1) ct] 88)).alloc (.cells #[.int .i64 (s0 : Int)] 3)).alloc (.cells #[.bool (ineg a0), .string (imag a0)] 26)) = w1 := ⟨_, rfl⟩
  rw [hw1]
  have hsz1 : w1.heap.size = w.heap.size + 4 := by rw [← hw1]; simp
  have hb1 : Below w.heap.size w w1 := by rw [← hw1]; exact ((((Below.refl _ w).alloc (Nat.le_refl _) _).alloc (by simp) _).alloc (by simp; omega) _).alloc (by simp; omega) _
  have bG1 : Blk w1 w.heap.size 24 [.int .i64 L, .int .i64 (S : Int), v] := by rw [← hw1]; exact (((Blk.new w _ _).alloc _).alloc _).alloc _
  have bT1 : Blk w1 (w.heap.size + 1) 88 [.slice (some ⟨bt, ot, none⟩) (n + 1) ct] := by
    have h := Blk.new (w.alloc (.cells #[.int .i64 L, .int .i64 (S : Int), v] 24)) 88 [.slice (some ⟨bt, ot, none⟩) (n + 1) ct]
    rw [World.size_alloc] at h
    rw [← hw1]; exact (h.alloc _).alloc _
  have bS1 : Blk w1 (w.heap.size + 2) 3 [.int .i64 (s0 : Int)] := by
    have h := Blk.new ((w.alloc (.cells #[.int .i64 L, .int .i64 (S : Int), v] 24)).alloc (.cells #[.slice (some ⟨bt, ot, none⟩) (n + 1) ct] 88)) 3 [.int .i64 (s0 : Int)]
    simp only [World.size_alloc, Nat.add_assoc, Nat.reduceAdd] at h
    rw [← hw1]; exact h.alloc _
  have bA1 : Blk w1 (w.heap.size + 3) 26 [.bool (ineg a0), .string (imag a0)] := by
    have h := Blk.new (((w.alloc (.cells #[.int .i64 L, .int .i64 (S : Int), v] 24)).alloc (.cells #[.slice (some ⟨bt, ot, none⟩) (n + 1) ct] 88)).alloc (.cells #[.int .i64 (s0 : Int)] 3)) 26 [.bool (ineg a0), .string (imag a0)]
    simp only [World.size_alloc, Nat.add_assoc, Nat.reduceAdd] at h
    rw [← hw1]; exact h
  clear hw1
  have x0 := bA1.cell (j := 0) rfl
  have x1 := bA1.cell (j := 1) rfl
  have xT := bT1.cell (j := 0) rfl
  have xS := bS1.cell (j := 0) rfl
  have r1 := (hb1.cell (p := ⟨bt, ot + n, none⟩) hbt).trans r0
  have y2 := (hb1.cell (p := ⟨br, orr + s0 * 2, none⟩) hbr).trans y0
  have y3 := (hb1.cell (p := ⟨br, orr + s0 * 2 + 1, none⟩) hbr).trans y1
  clear r0 y0 y1
  have BG1 := Lib.hid bG1; clear bG1
  have BT1 := Lib.hid bT1; clear bT1
  have BS1 := Lib.hid bS1; clear bS1
  have BA1 := Lib.hid bA1; clear bA1
  have HB1 := Lib.hid hb1; clear hb1
  refine wpIn_wide.2 ?_
  refine wp_region_noPanic ?_
  refine wp_region_held_drew (S := fun w' => w'.cell? ⟨w.heap.size + 3, 0, none⟩ = some (.bool (ineg a0)) ∧ w'.cell? ⟨w.heap.size + 3, 1, none⟩ = some (.string (imag a0)) ∧ w'.cell? ⟨w.heap.size + 1, 0, none⟩ = some (.slice (some ⟨bt, ot, none⟩) (n + 1) ct) ∧ w'.cell? ⟨w.heap.size + 2, 0, none⟩ = some (.int .i64 (s0 : Int)) ∧ w'.cell? ⟨bt, ot + n, none⟩ = some (.slice (some ⟨br, orr, none⟩) S cr) ∧ w'.cell? ⟨br, orr + s0 * 2, none⟩ = some (.bool (ineg Y)) ∧ w'.cell? ⟨br, orr + s0 * 2 + 1, none⟩ = some (.string (imag Y))) (by kernel_rfl) ?_ (fun hHeld => ?_)
  · go_keep
  refine wpAnyH_take (i := 0) (v := ?_) rfl (by kernel_rfl) (by kernel_rfl) (by kernel_rfl) (fun _ _ _ h => h) (Or.inl ⟨by rfl, ?_⟩) (by assumption) ?_
  rotate_left
  · (intro wS hSw; (try dsimp only at hSw); go_simp; (try with_reducible rfl))
  (try simp only [Act.put, List.setIfInBounds_toArray, List.set_cons_zero, List.set_cons_succ])
  refine wpAnyH_take (i := 1) (v := ?_) rfl (by kernel_rfl) (by kernel_rfl) (by kernel_rfl) (fun _ _ _ h => h) (Or.inl ⟨by rfl, ?_⟩) (by assumption) ?_
  rotate_left
  · (intro wS hSw; (try dsimp only at hSw); go_simp; (try with_reducible rfl))
  (try simp only [Act.put, List.setIfInBounds_toArray, List.set_cons_zero, List.set_cons_succ])
  refine wpAnyH_ready (rs := [2]) (by kernel_rfl) (by simp) ?_
  refine AllReadyH.cons rfl (fun K hK => ?_) AllReadyH.nil
  go_simp
  go_at_call 20
  refine (HC1.out _).mono ?_
  rintro e w2 ⟨hq2, rfl⟩
  dsimp only
  have q0 := (hq2.cell (p := ⟨w.heap.size + 3, 0, none⟩) (show w.heap.size + 3 < w1.heap.size by omega)).trans hHeld.1
  have q1 := (hq2.cell (p := ⟨w.heap.size + 3, 1, none⟩) (show w.heap.size + 3 < w1.heap.size by omega)).trans hHeld.2.1
  have q2 := (hq2.cell (p := ⟨w.heap.size + 1, 0, none⟩) (show w.heap.size + 1 < w1.heap.size by omega)).trans hHeld.2.2.1
  have q3 := (hq2.cell (p := ⟨w.heap.size + 2, 0, none⟩) (show w.heap.size + 2 < w1.heap.size by omega)).trans hHeld.2.2.2.1
  have q4 := (hq2.cell (p := ⟨bt, ot + n, none⟩) (show bt < w1.heap.size by omega)).trans hHeld.2.2.2.2.1
  have q5 := (hq2.cell (p := ⟨br, orr + s0 * 2, none⟩) (show br < w1.heap.size by omega)).trans hHeld.2.2.2.2.2.1
  have q6 := (hq2.cell (p := ⟨br, orr + s0 * 2 + 1, none⟩) (show br < w1.heap.size by omega)).trans hHeld.2.2.2.2.2.2
  refine hK.out _ _ ⟨q0, q1, q2, q3, q4, q5, q6⟩ (fun hHeld2 => ?_)
  clear hK K hHeld x0 x1 xT xS r1 y2 y3
  (try simp only [Act.put, List.setIfInBounds_toArray, List.set_cons_zero, List.set_cons_succ])
  have hbB := HB1.out.drew.trans (hq2.mono HB1.out.size)
  have k1 := BG1.out.drew.keep hq2
  have k2 := BT1.out.drew.keep hq2
  have k3 := BS1.out.drew.keep hq2
  have k4 := BA1.out.drew.keep hq2
  have hl2 : w.heap.size + 3 < w2.heap.size := k4.lt
  have HB2 := Lib.hid hbB; clear hbB
  have BG2 := Lib.hid k1; clear k1
  have BT2 := Lib.hid k2; clear k2
  have BS2 := Lib.hid k3; clear k3
  have BA2 := Lib.hid k4; clear k4
  clear hq2
  refine wpAnyH_take (i := 3) (v := ?_) rfl (by kernel_rfl) (by kernel_rfl) (by kernel_rfl) (fun _ _ _ h => h) (Or.inl ⟨by rfl, ?_⟩) (by assumption) ?_
  rotate_left
  · (intro wS hSw; (try dsimp only at hSw); go_simp; (try with_reducible rfl))
  (try simp only [Act.put, List.setIfInBounds_toArray, List.set_cons_zero, List.set_cons_succ])
  refine wpAnyH_take (i := 4) (v := ?_) rfl (by kernel_rfl) (by kernel_rfl) (by kernel_rfl) (fun _ _ _ h => h) (Or.inl ⟨by rfl, ?_⟩) (by assumption) ?_
  rotate_left
  · (intro wS hSw; (try dsimp only at hSw); go_simp; (try with_reducible rfl))
  (try simp only [Act.put, List.setIfInBounds_toArray, List.set_cons_zero, List.set_cons_succ])
  refine wpAnyH_take (i := 5) (v := undef) rfl (by kernel_rfl) (by kernel_rfl) (by kernel_rfl) (fun _ _ _ h => h) (Or.inr ⟨by kernel_rfl, rfl⟩) (by assumption) ?_
  (try simp only [Act.put, List.setIfInBounds_toArray, List.set_cons_zero, List.set_cons_succ])
  refine wpAnyH_take (i := 6) (v := undef) rfl (by kernel_rfl) (by kernel_rfl) (by kernel_rfl) (fun _ _ _ h => h) (Or.inr ⟨by kernel_rfl, rfl⟩) (by assumption) ?_
  (try simp only [Act.put, List.setIfInBounds_toArray, List.set_cons_zero, List.set_cons_succ])
  refine wpAnyH_take (i := 7) (v := undef) rfl (by kernel_rfl) (by kernel_rfl) (by kernel_rfl) (fun _ _ _ h => h) (Or.inr ⟨by kernel_rfl, rfl⟩) (by assumption) ?_
  (try simp only [Act.put, List.setIfInBounds_toArray, List.set_cons_zero, List.set_cons_succ])
  refine wpAnyH_take (i := 8) (v := undef) rfl (by kernel_rfl) (by kernel_rfl) (by kernel_rfl) (fun _ _ _ h => h) (Or.inr ⟨by kernel_rfl, rfl⟩) (by assumption) ?_
  (try simp only [Act.put, List.setIfInBounds_toArray, List.set_cons_zero, List.set_cons_succ])
  refine wpAnyH_take (i := 9) (v := undef) rfl (by kernel_rfl) (by kernel_rfl) (by kernel_rfl) (fun _ _ _ h => h) (Or.inr ⟨by kernel_rfl, rfl⟩) (by assumption) ?_
  (try simp only [Act.put, List.setIfInBounds_toArray, List.set_cons_zero, List.set_cons_succ])
  refine wpAnyH_take (i := 10) (v := undef) rfl (by kernel_rfl) (by kernel_rfl) (by kernel_rfl) (fun _ _ _ h => h) (Or.inr ⟨by kernel_rfl, rfl⟩) (by assumption) ?_
  (try simp only [Act.put, List.setIfInBounds_toArray, List.set_cons_zero, List.set_cons_succ])
  refine wpAnyH_take (i := 11) (v := undef) rfl (by kernel_rfl) (by kernel_rfl) (by kernel_rfl) (fun _ _ _ h => h) (Or.inr ⟨by kernel_rfl, rfl⟩) (by assumption) ?_
  (try simp only [Act.put, List.setIfInBounds_toArray, List.set_cons_zero, List.set_cons_succ])
  refine wpAnyH_take (i := 12) (v := undef) rfl (by kernel_rfl) (by kernel_rfl) (by kernel_rfl) (fun _ _ _ h => h) (Or.inr ⟨by kernel_rfl, rfl⟩) (by assumption) ?_
  (try simp only [Act.put, List.setIfInBounds_toArray, List.set_cons_zero, List.set_cons_succ])
  refine wpAnyH_take (i := 13) (v := undef) rfl (by kernel_rfl) (by kernel_rfl) (by kernel_rfl) (fun _ _ _ h => h) (Or.inr ⟨by kernel_rfl, rfl⟩) (by assumption) ?_
  (try simp only [Act.put, List.setIfInBounds_toArray, List.set_cons_zero, List.set_cons_succ])
  refine wpAnyH_take (i := 14) (v := undef) rfl (by kernel_rfl) (by kernel_rfl) (by kernel_rfl) (fun _ _ _ h => h) (Or.inr ⟨by kernel_rfl, rfl⟩) (by assumption) ?_
  (try simp only [Act.put, List.setIfInBounds_toArray, List.set_cons_zero, List.set_cons_succ])
  refine wpAnyH_take (i := 15) (v := ?_) rfl (by kernel_rfl) (by kernel_rfl) (by kernel_rfl) (fun _ _ _ h => h) (Or.inl ⟨by rfl, ?_⟩) (by assumption) ?_
  rotate_left
  · (intro wS hSw; (try dsimp only at hSw); go_simp; (try with_reducible rfl))
  (try simp only [Act.put, List.setIfInBounds_toArray, List.set_cons_zero, List.set_cons_succ])
  refine wpAnyH_done (by kernel_rfl) ?_ _
  (try simp only [List.getElem_toArray, List.getElem_cons_zero, List.getElem_cons_succ, Act.put, List.setIfInBounds_toArray, List.set_cons_zero, List.set_cons_succ])
  refine NoPanic.normal ?_
  clear hHeld2
  gi_wp2
  refine leaves_marks w.heap.size (fun W => Below w.heap.size w W) (fun W D hB hk hD => hk.grown (grownBy_putObj' W D _) (by have := hk.size; omega) (fun j' e' => by cases e'; omega)) (fun W hk => ?hfin) [] _ HB2.out (by simp) (by simp) (by simp)
  case hfin =>
    refine ⟨_, ?_, hk, rfl⟩
    simp [results, Try.results61, go_sem]
set_option maxRecDepth 100000 in
set_option maxHeartbeats 8000000 in
theorem unrank_big (L : Int) (S s0 n : Nat) (a0 : Int) (es : List E3) (v tv : Value) (p : Int → Bool) (w : World) (hr : Row w v es.length (ce es)) (ht : Tab w tv (tabL es S p n)) (hS : S ≤ 64) (hl : es.length ≤ 1024) (hin : InS S es) (hlab : ∀ e ∈ es, 0 ≤ e.l ∧ e.l < 16) (hs0 : s0 < S) (hn : n ≤ 4096) (sA : small a0) (ha0 : 0 ≤ a0) (ha1 : cw es p n (s0 : Int) ≤ a0) :
    CallsIn Fence.wide 8 Try.prog 61 #[.agg #[.int .i64 L, .int .i64 (S : Int), v], tv, .int .i64 (s0 : Int), .int .i64 (n : Int), .agg #[.bool (ineg a0), .string (imag a0)]] w (UrOut w) := by
  obtain ⟨rvs, hrvl, hrt, hrows⟩ := ht
  rw [tabL_length] at hrt
  obtain ⟨at0, ct, rfl, hct⟩ := hrt.slice
  obtain ⟨bt, ot, rfl, hbt, htc⟩ := hrt.at_ (by omega)
  -- the row of length n
  obtain ⟨rv, hrv1, hrv2⟩ := hrows n _ (tabL_get (by omega))
  rw [rowK_length] at hrv2
  obtain ⟨ar, cr, rfl, hcr⟩ := hrv2.slice
  obtain ⟨br, orr, rfl, hbr, hrc⟩ := hrv2.at_ (by omega)
  have r0 := htc n _ hrv1
  have gy : (rowK es S p n)[s0]? = some (cw es p n (s0 : Int)) := rowK_get hs0
  have sY : small (cw es p n (s0 : Int)) := cw_small (by omega) p n (by omega) _
  obtain ⟨Y, hY⟩ : ∃ Y, Y = cw es p n (s0 : Int) := ⟨_, rfl⟩
  rw [← hY] at gy sY
  have y0 := hrc _ _ (civ_get gy).1
  have y1 := hrc _ _ (civ_get gy).2
  rw [← Nat.add_assoc] at y1
  have hc1 := fun w' => icompare_any (ineg a0) false (imag a0) ⟨#[]⟩ w' sA (by decide)
  have hc2 := fun w' => icompare_any (ineg a0) (ineg Y) (imag a0) (imag Y) w' sA sY
  simp only [ival_canon, ival_zero0] at hc1 hc2
  obtain ⟨z1, hz1⟩ : ∃ z, z = cmpZ a0 0 := ⟨_, rfl⟩
  obtain ⟨z2, hz2⟩ : ∃ z, z = cmpZ a0 Y := ⟨_, rfl⟩
  rw [← hz1] at hc1
  rw [← hz2] at hc2
  have t1 : decide (z1 < 0) = false := by rw [hz1]; exact (cmpZ_neg a0 0).trans (by simp; omega)
  have t2 : decide (0 ≤ z2) = true := by
    have h := cmpZ_neg a0 Y
    rw [← hz2, decide_eq_decide] at h
    have h3 : ¬ z2 < 0 := fun h4 => by have := h.1 h4; omega
    simp; omega
  have hix1 : (0 : Int) ≤ (n : Int) := by omega
  have hix2 : (n : Int) < (n : Int) + 1 := by omega
  have hix3 : (0 : Int) ≤ (s0 : Int) := by omega
  have hix4 : (s0 : Int) < (S : Int) := by omega
  have hwn : IntKind.i64.wrap ((n : Int) - 1) = (n : Int) - 1 := IntWalk.i64_in _ (by omega)
  have HRVL := Lib.hid hrvl; clear hrvl
  have HROWS := Lib.hid hrows; clear hrows
  have HTC := Lib.hid htc; clear htc
  have HIN := Lib.hid hin; clear hin
  have HLAB := Lib.hid hlab; clear hlab
  have HR := Lib.hid hr; clear hr
  have HC1 := Lib.hid hc1; clear hc1
  have HC2 := Lib.hid hc2; clear hc2
  have HY0 := Lib.hid hY; clear hY
  clear hrt hrv1 hrv2 hrc gy sA sY hz1 hz2
  refine callsIn_of_wp_marks Try.func61 rfl trivial ?_ rfl
  simp only [Try.ntmps61, List.size_toArray, List.length_cons, List.length_nil, Nat.reduceAdd, Nat.reduceSub, Array.replicate_succ, Array.replicate_zero, List.push_toArray, List.append_toArray, List.nil_append, List.cons_append]
  gi_wp2
  simp only [Nat.add_assoc, Nat.reduceAdd]
  obtain ⟨w1, hw1⟩ : ∃ w1, ((((w.alloc (.cells #[.int .i64 L, .int .i64 (S : Int), v] 24)).alloc (.cells #[.slice (some ⟨bt, ot, none⟩) (n + 1) ct] 88)).alloc (.cells #[.int .i64 (s0 : Int)] 3)).alloc (.cells #[.bool (ineg a0), .string (imag a0)] 26)) = w1 := ⟨_, rfl⟩
  rw [hw1]
  have hsz1 : w1.heap.size = w.heap.size + 4 := by rw [← hw1]; simp
  have hb1 : Below w.heap.size w w1 := by rw [← hw1]; exact ((((Below.refl _ w).alloc (Nat.le_refl _) _).alloc (by simp) _).alloc (by simp; omega) _).alloc (by simp; omega) _
  have bG1 : Blk w1 w.heap.size 24 [.int .i64 L, .int .i64 (S : Int), v] := by rw [← hw1]; exact (((Blk.new w _ _).alloc _).alloc _).alloc _
  have bT1 : Blk w1 (w.heap.size + 1) 88 [.slice (some ⟨bt, ot, none⟩) (n + 1) ct] := by
    have h := Blk.new (w.alloc (.cells #[.int .i64 L, .int .i64 (S : Int), v] 24)) 88 [.slice (some ⟨bt, ot, none⟩) (n + 1) ct]
    rw [World.size_alloc] at h
    rw [← hw1]; exact (h.alloc _).alloc _
  have bS1 : Blk w1 (w.heap.size + 2) 3 [.int .i64 (s0 : Int)] := by
    have h := Blk.new ((w.alloc (.cells #[.int .i64 L, .int .i64 (S : Int), v] 24)).alloc (.cells #[.slice (some ⟨bt, ot, none⟩) (n + 1) ct] 88)) 3 [.int .i64 (s0 : Int)]
    simp only [World.size_alloc, Nat.add_assoc, Nat.reduceAdd] at h
    rw [← hw1]; exact h.alloc _
  have bA1 : Blk w1 (w.heap.size + 3) 26 [.bool (ineg a0), .string (imag a0)] := by
    have h := Blk.new (((w.alloc (.cells #[.int .i64 L, .int .i64 (S : Int), v] 24)).alloc (.cells #[.slice (some ⟨bt, ot, none⟩) (n + 1) ct] 88)).alloc (.cells #[.int .i64 (s0 : Int)] 3)) 26 [.bool (ineg a0), .string (imag a0)]
    simp only [World.size_alloc, Nat.add_assoc, Nat.reduceAdd] at h
    rw [← hw1]; exact h
  clear hw1
  have x0 := bA1.cell (j := 0) rfl
  have x1 := bA1.cell (j := 1) rfl
  have xT := bT1.cell (j := 0) rfl
  have xS := bS1.cell (j := 0) rfl
  have r1 := (hb1.cell (p := ⟨bt, ot + n, none⟩) hbt).trans r0
  have y2 := (hb1.cell (p := ⟨br, orr + s0 * 2, none⟩) hbr).trans y0
  have y3 := (hb1.cell (p := ⟨br, orr + s0 * 2 + 1, none⟩) hbr).trans y1
  clear r0 y0 y1
  have BG1 := Lib.hid bG1; clear bG1
  have BT1 := Lib.hid bT1; clear bT1
  have BS1 := Lib.hid bS1; clear bS1
  have BA1 := Lib.hid bA1; clear bA1
  have HB1 := Lib.hid hb1; clear hb1
  refine wpIn_wide.2 ?_
  refine wp_region_noPanic ?_
  refine wp_region_held_drew (S := fun w' => w'.cell? ⟨w.heap.size + 3, 0, none⟩ = some (.bool (ineg a0)) ∧ w'.cell? ⟨w.heap.size + 3, 1, none⟩ = some (.string (imag a0)) ∧ w'.cell? ⟨w.heap.size + 1, 0, none⟩ = some (.slice (some ⟨bt, ot, none⟩) (n + 1) ct) ∧ w'.cell? ⟨w.heap.size + 2, 0, none⟩ = some (.int .i64 (s0 : Int)) ∧ w'.cell? ⟨bt, ot + n, none⟩ = some (.slice (some ⟨br, orr, none⟩) S cr) ∧ w'.cell? ⟨br, orr + s0 * 2, none⟩ = some (.bool (ineg Y)) ∧ w'.cell? ⟨br, orr + s0 * 2 + 1, none⟩ = some (.string (imag Y))) (by kernel_rfl) ?_ (fun hHeld => ?_)
  · go_keep
  refine wpAnyH_take (i := 0) (v := ?_) rfl (by kernel_rfl) (by kernel_rfl) (by kernel_rfl) (fun _ _ _ h => h) (Or.inl ⟨by rfl, ?_⟩) (by assumption) ?_
  rotate_left
  · (intro wS hSw; (try dsimp only at hSw); go_simp; (try with_reducible rfl))
  (try simp only [Act.put, List.setIfInBounds_toArray, List.set_cons_zero, List.set_cons_succ])
  refine wpAnyH_take (i := 1) (v := ?_) rfl (by kernel_rfl) (by kernel_rfl) (by kernel_rfl) (fun _ _ _ h => h) (Or.inl ⟨by rfl, ?_⟩) (by assumption) ?_
  rotate_left
  · (intro wS hSw; (try dsimp only at hSw); go_simp; (try with_reducible rfl))
  (try simp only [Act.put, List.setIfInBounds_toArray, List.set_cons_zero, List.set_cons_succ])
  refine wpAnyH_ready (rs := [2]) (by kernel_rfl) (by simp) ?_
  refine AllReadyH.cons rfl (fun K hK => ?_) AllReadyH.nil
  go_simp
  go_at_call 20
  refine (HC1.out _).mono ?_
  rintro e w2 ⟨hq2, rfl⟩
  dsimp only
  have q0 := (hq2.cell (p := ⟨w.heap.size + 3, 0, none⟩) (show w.heap.size + 3 < w1.heap.size by omega)).trans hHeld.1
  have q1 := (hq2.cell (p := ⟨w.heap.size + 3, 1, none⟩) (show w.heap.size + 3 < w1.heap.size by omega)).trans hHeld.2.1
  have q2 := (hq2.cell (p := ⟨w.heap.size + 1, 0, none⟩) (show w.heap.size + 1 < w1.heap.size by omega)).trans hHeld.2.2.1
  have q3 := (hq2.cell (p := ⟨w.heap.size + 2, 0, none⟩) (show w.heap.size + 2 < w1.heap.size by omega)).trans hHeld.2.2.2.1
  have q4 := (hq2.cell (p := ⟨bt, ot + n, none⟩) (show bt < w1.heap.size by omega)).trans hHeld.2.2.2.2.1
  have q5 := (hq2.cell (p := ⟨br, orr + s0 * 2, none⟩) (show br < w1.heap.size by omega)).trans hHeld.2.2.2.2.2.1
  have q6 := (hq2.cell (p := ⟨br, orr + s0 * 2 + 1, none⟩) (show br < w1.heap.size by omega)).trans hHeld.2.2.2.2.2.2
  refine hK.out _ _ ⟨q0, q1, q2, q3, q4, q5, q6⟩ (fun hHeld2 => ?_)
  clear hK K hHeld x0 x1 xT xS r1 y2 y3
  (try simp only [Act.put, List.setIfInBounds_toArray, List.set_cons_zero, List.set_cons_succ])
  have hbB := HB1.out.drew.trans (hq2.mono HB1.out.size)
  have k1 := BG1.out.drew.keep hq2
  have k2 := BT1.out.drew.keep hq2
  have k3 := BS1.out.drew.keep hq2
  have k4 := BA1.out.drew.keep hq2
  have hl2 : w.heap.size + 3 < w2.heap.size := k4.lt
  have HB2 := Lib.hid hbB; clear hbB
  have BG2 := Lib.hid k1; clear k1
  have BT2 := Lib.hid k2; clear k2
  have BS2 := Lib.hid k3; clear k3
  have BA2 := Lib.hid k4; clear k4
  clear hq2
  refine wpAnyH_take (i := 3) (v := ?_) rfl (by kernel_rfl) (by kernel_rfl) (by kernel_rfl) (fun _ _ _ h => h) (Or.inl ⟨by rfl, ?_⟩) (by assumption) ?_
  rotate_left
  · (intro wS hSw; (try dsimp only at hSw); go_simp; (try with_reducible rfl))
  (try simp only [Act.put, List.setIfInBounds_toArray, List.set_cons_zero, List.set_cons_succ])
  refine wpAnyH_take (i := 4) (v := ?_) rfl (by kernel_rfl) (by kernel_rfl) (by kernel_rfl) (fun _ _ _ h => h) (Or.inl ⟨by rfl, ?_⟩) (by assumption) ?_
  rotate_left
  · (intro wS hSw; (try dsimp only at hSw); go_simp; (try with_reducible rfl))
  (try simp only [Act.put, List.setIfInBounds_toArray, List.set_cons_zero, List.set_cons_succ])
  refine wpAnyH_take (i := 5) (v := ?_) rfl (by kernel_rfl) (by kernel_rfl) (by kernel_rfl) (fun _ _ _ h => h) (Or.inl ⟨by kernel_rfl, ?_⟩) (by assumption) ?_
  rotate_left
  · (intro wS hSw; (try dsimp only at hSw); go_simp; (try with_reducible rfl))
  (try simp only [Act.put, List.setIfInBounds_toArray, List.set_cons_zero, List.set_cons_succ])
  refine wpAnyH_take (i := 6) (v := ?_) rfl (by kernel_rfl) (by kernel_rfl) (by kernel_rfl) (fun _ _ _ h => h) (Or.inl ⟨by kernel_rfl, ?_⟩) (by assumption) ?_
  rotate_left
  · (intro wS hSw; (try dsimp only at hSw); go_simp; (try with_reducible rfl))
  (try simp only [Act.put, List.setIfInBounds_toArray, List.set_cons_zero, List.set_cons_succ])
  refine wpAnyH_take (i := 7) (v := ?_) rfl (by kernel_rfl) (by kernel_rfl) (by kernel_rfl) (fun _ _ _ h => h) (Or.inl ⟨by kernel_rfl, ?_⟩) (by assumption) ?_
  rotate_left
  · (intro wS hSw; (try dsimp only at hSw); go_simp; (try with_reducible rfl))
  (try simp only [Act.put, List.setIfInBounds_toArray, List.set_cons_zero, List.set_cons_succ])
  refine wpAnyH_take (i := 8) (v := ?_) rfl (by kernel_rfl) (by kernel_rfl) (by kernel_rfl) (fun _ _ _ h => h) (Or.inl ⟨by kernel_rfl, ?_⟩) (by assumption) ?_
  rotate_left
  · (intro wS hSw; (try dsimp only at hSw); go_simp; (try with_reducible rfl))
  (try simp only [Act.put, List.setIfInBounds_toArray, List.set_cons_zero, List.set_cons_succ])
  refine wpAnyH_take (i := 9) (v := ?_) rfl (by kernel_rfl) (by kernel_rfl) (by kernel_rfl) (fun _ _ _ h => h) (Or.inl ⟨by kernel_rfl, ?_⟩) (by assumption) ?_
  rotate_left
  · (intro wS hSw; (try dsimp only at hSw); go_simp; (try with_reducible rfl))
  (try simp only [Act.put, List.setIfInBounds_toArray, List.set_cons_zero, List.set_cons_succ])
  refine wpAnyH_take (i := 10) (v := ?_) rfl (by kernel_rfl) (by kernel_rfl) (by kernel_rfl) (fun _ _ _ h => h) (Or.inl ⟨by kernel_rfl, ?_⟩) (by assumption) ?_
  rotate_left
  · (intro wS hSw; (try dsimp only at hSw); go_simp; (try with_reducible rfl))
  (try simp only [Act.put, List.setIfInBounds_toArray, List.set_cons_zero, List.set_cons_succ])
  refine wpAnyH_take (i := 11) (v := ?_) rfl (by kernel_rfl) (by kernel_rfl) (by kernel_rfl) (fun _ _ _ h => h) (Or.inl ⟨by kernel_rfl, ?_⟩) (by assumption) ?_
  rotate_left
  · (intro wS hSw; (try dsimp only at hSw); go_simp; (try with_reducible rfl))
  (try simp only [Act.put, List.setIfInBounds_toArray, List.set_cons_zero, List.set_cons_succ])
  refine wpAnyH_take (i := 12) (v := ?_) rfl (by kernel_rfl) (by kernel_rfl) (by kernel_rfl) (fun _ _ _ h => h) (Or.inl ⟨by kernel_rfl, ?_⟩) (by assumption) ?_
  rotate_left
  · (intro wS hSw; (try dsimp only at hSw); go_simp; (try with_reducible rfl))
  (try simp only [Act.put, List.setIfInBounds_toArray, List.set_cons_zero, List.set_cons_succ])
  refine wpAnyH_ready (rs := [13]) (by kernel_rfl) (by simp) ?_
  refine AllReadyH.cons rfl (fun K hK => ?_) AllReadyH.nil
  rw [if_pos (by kernel_rfl)]
  go_simp
  go_at_call 20
  refine (HC2.out _).mono ?_
  rintro e w3 ⟨hq3, rfl⟩
  dsimp only
  have p0 := (hq3.cell (p := ⟨w.heap.size + 3, 0, none⟩) (show w.heap.size + 3 < w2.heap.size by omega)).trans hHeld2.1
  have p1 := (hq3.cell (p := ⟨w.heap.size + 3, 1, none⟩) (show w.heap.size + 3 < w2.heap.size by omega)).trans hHeld2.2.1
  have p2 := (hq3.cell (p := ⟨w.heap.size + 1, 0, none⟩) (show w.heap.size + 1 < w2.heap.size by omega)).trans hHeld2.2.2.1
  have p3 := (hq3.cell (p := ⟨w.heap.size + 2, 0, none⟩) (show w.heap.size + 2 < w2.heap.size by omega)).trans hHeld2.2.2.2.1
  have p4 := (hq3.cell (p := ⟨bt, ot + n, none⟩) (show bt < w2.heap.size by omega)).trans hHeld2.2.2.2.2.1
  have p5 := (hq3.cell (p := ⟨br, orr + s0 * 2, none⟩) (show br < w2.heap.size by omega)).trans hHeld2.2.2.2.2.2.1
  have p6 := (hq3.cell (p := ⟨br, orr + s0 * 2 + 1, none⟩) (show br < w2.heap.size by omega)).trans hHeld2.2.2.2.2.2.2
  refine hK.out _ _ ⟨p0, p1, p2, p3, p4, p5, p6⟩ (fun hHeld3 => ?_)
  clear hK K hHeld2
  (try simp only [Act.put, List.setIfInBounds_toArray, List.set_cons_zero, List.set_cons_succ])
  have hbB := HB2.out.trans (hq3.mono HB2.out.size)
  have k1 := BG2.out.keep hq3
  have k2 := BT2.out.keep hq3
  have k3 := BS2.out.keep hq3
  have k4 := BA2.out.keep hq3
  have hl3 : w.heap.size + 3 < w3.heap.size := k4.lt
  have HB3 := Lib.hid hbB; clear hbB
  have BG3 := Lib.hid k1; clear k1
  have BT3 := Lib.hid k2; clear k2
  have BS3 := Lib.hid k3; clear k3
  have BA3 := Lib.hid k4; clear k4
  clear hq3 q0 q1 q2 q3 q4 q5 q6 p0 p1 p2 p3 p4 p5 p6
  refine wpAnyH_take (i := 14) (v := ?_) rfl (by kernel_rfl) (by kernel_rfl) (by kernel_rfl) (fun _ _ _ h => h) (Or.inl ⟨by kernel_rfl, ?_⟩) (by assumption) ?_
  rotate_left
  · (intro wS hSw; (try dsimp only at hSw); go_simp; (try with_reducible rfl))
  (try simp only [Act.put, List.setIfInBounds_toArray, List.set_cons_zero, List.set_cons_succ])
  refine wpAnyH_take (i := 15) (v := ?_) rfl (by kernel_rfl) (by kernel_rfl) (by kernel_rfl) (fun _ _ _ h => h) (Or.inl ⟨by rfl, ?_⟩) (by assumption) ?_
  rotate_left
  · (intro wS hSw; (try dsimp only at hSw); go_simp; (try with_reducible rfl))
  (try simp only [Act.put, List.setIfInBounds_toArray, List.set_cons_zero, List.set_cons_succ])
  refine wpAnyH_done (by kernel_rfl) ?_ _
  (try simp only [List.getElem_toArray, List.getElem_cons_zero, List.getElem_cons_succ, Act.put, List.setIfInBounds_toArray, List.set_cons_zero, List.set_cons_succ])
  refine NoPanic.normal ?_
  clear hHeld3
  gi_wp2
  refine leaves_marks w.heap.size (fun W => Below w.heap.size w W) (fun W D hB hk hD => hk.grown (grownBy_putObj' W D _) (by have := hk.size; omega) (fun j' e' => by cases e'; omega)) (fun W hk => ?hfin) [] _ HB3.out (by simp) (by simp) (by simp)
  case hfin =>
    refine ⟨_, ?_, hk, rfl⟩
    simp [results, Try.results61, go_sem]
end Go.Proofs.Ytalipfnbpnkgnaa

/- The rank of the word with a number is that number, in plain Lean. -/
namespace Go.Proofs.Ytalipfnbpnkgnaa
open Go.RowKit

theorem letL_lt {a b : Int} (h0 : 0 ≤ a) (hab : a < b) (hb : b < 16) : letL a < letL b := by
  have h : ∀ i j : Fin 16, i.val < j.val → letters.getD i.val 0 < letters.getD j.val 0 := by decide
  obtain ⟨i, rfl⟩ : ∃ i : Nat, a = i := ⟨a.toNat, by omega⟩
  obtain ⟨j, rfl⟩ : ∃ j : Nat, b = j := ⟨b.toNat, by omega⟩
  have := h ⟨i, by omega⟩ ⟨j, by omega⟩ (by show i < j; omega)
  simpa [letL] using this
theorem letL_ne {a b : Int} (h0 : 0 ≤ a) (hab : a < b) (hb : b < 16) : ¬ letL a = letL b := fun e => by
  have h := letL_lt h0 hab hb
  rw [e] at h
  have h2 : (letL b).toNat < (letL b).toNat := UInt8.lt_iff_toNat_lt.1 h
  omega
/-- The edges that leave a state lie by ascending labels. -/
def AscL (l : List E3) : Prop := l.Pairwise (fun a b => a.l < b.l) ∧ ∀ e ∈ l, 0 ≤ e.l ∧ e.l < 16
theorem outE_asc {L S : Int} {es : List E3} (h : eck L S es = 0) (s : Int) : AscL (outE es s) := by
  obtain ⟨hc, hL, hd⟩ := eck_zero h
  have hcl : chkL L S none es = 0 := by
    unfold chk at hc
    split at hc
    · cases hc
    · split at hc
      · cases hc
      · split at hc
        · cases hc
        · exact hc
  refine ⟨?_, fun e he => chk_lab hc hL e (List.mem_filter.1 he).1⟩
  refine ((det_sorted hcl hd).filter (fun e => e.f == s)).imp_of_mem fun {a b} ha hb hab => ?_
  have h1 : a.f = s := by simpa using (List.mem_filter.1 ha).2
  have h2 : b.f = s := by simpa using (List.mem_filter.1 hb).2
  unfold ltFL at hab
  omega
theorem rkGo_urGo {es : List E3} {p : Int → Bool} {k : Nat} : ∀ {l : List E3} {a : Int} {e : E3} (sum : Int), AscL l → (urGo es p k l a).1 = some e →
    rkGo es p k (letL e.l) l sum = (sum + (a - (urGo es p k l a).2), some e.t)
  | [], _, _, _, _, h => by cases h
  | x :: l, a, e, sum, hl, h => by
    obtain ⟨hp, hr⟩ := hl
    obtain ⟨hp1, hp2⟩ := List.pairwise_cons.1 hp
    rw [urGo] at h ⊢
    rw [rkGo]
    by_cases hc : a < cw es p k x.t
    · rw [if_pos hc] at h ⊢
      obtain rfl : x = e := by injection h
      rw [if_pos rfl]
      simp
    · rw [if_neg hc] at h ⊢
      have he := (urGo_mem h).1
      have hlt := hp1 e he
      rw [if_neg (letL_ne (hr x (by simp)).1 hlt (hr e (by simp [he])).2)]
      rw [rkGo_urGo (sum + cw es p k x.t) ⟨hp2, fun y hy => hr y (by simp [hy])⟩ h]
      refine Prod.ext ?_ rfl
      dsimp only
      omega
theorem ur_length {es : List E3} {p : Int → Bool} : ∀ (n : Nat) (s a : Int), 0 ≤ a → a < cw es p n s → (ur es p n s a).1.length = n
  | 0, _, _, _, _ => rfl
  | n + 1, s, a, h0, h1 => by
    rw [cw_succ] at h1
    have hf := urGo_found h1 h0
    have hb := urGo_bd es p n (outE es s) a h0
    rw [ur]
    rcases hu : urGo es p n (outE es s) a with ⟨_ | e, a'⟩
    · rw [hu] at hf; exact absurd rfl hf
    · have hm := urGo_mem (es := es) (p := p) (k := n) (l := outE es s) (a := a) (e := e) (by rw [hu])
      rw [hu] at hb hm
      dsimp only
      rw [List.length_cons, ur_length n e.t a' hb.1 hm.2]
/-- The number of the word with a number, and where it ends. -/
theorem rk_ur {L S : Int} {es : List E3} (hE : eck L S es = 0) (p : Int → Bool) : ∀ (n : Nat) (s a sum : Int), 0 ≤ a → a < cw es p n s → rk es p (ur es p n s a).1 s sum = some (sum + a, (ur es p n s a).2) ∧ p (ur es p n s a).2 = true
  | 0, s, a, sum, h0, h1 => by
    rw [cw] at h1
    split at h1
    · rename_i hp
      obtain rfl : a = 0 := by omega
      rw [ur, rk]
      exact ⟨by simp, hp⟩
    · omega
  | n + 1, s, a, sum, h0, h1 => by
    have h1' := h1
    rw [cw_succ] at h1'
    have hf := urGo_found h1' h0
    have hb := urGo_bd es p n (outE es s) a h0
    rw [ur]
    rcases hu : urGo es p n (outE es s) a with ⟨_ | e, a'⟩
    · rw [hu] at hf; exact absurd rfl hf
    · have hm := urGo_mem (es := es) (p := p) (k := n) (l := outE es s) (a := a) (e := e) (by rw [hu])
      have hg := rkGo_urGo sum (outE_asc hE s) (show (urGo es p n (outE es s) a).1 = some e by rw [hu])
      rw [hu] at hb hm hg
      dsimp only at hb hm hg ⊢
      rw [rk, ur_length n e.t a' hb.1 hm.2, hg]
      dsimp only
      obtain ⟨r1, r2⟩ := rk_ur hE p n e.t a' (sum + (a - a')) hb.1 hm.2
      rw [r1]
      exact ⟨by congr 2; omega, r2⟩
end Go.Proofs.Ytalipfnbpnkgnaa

/- What enumerative.unrank, Encode and Stream tell, plain. -/
namespace Go.Proofs.Ytalipfnbpnkgnaa
open Go.RowKit

/-- The word with a number to a set, if there is one. -/
def ure (es : List E3) (p : Int → Bool) (n : Nat) (s a : Int) : Option (List UInt8 × Int) := if 0 ≤ a ∧ a < cw es p n s then some (ur es p n s a) else none
def oWord : Option (List UInt8 × Int) → List UInt8 | some r => r.1 | none => []
def oEnd : Option (List UInt8 × Int) → Int | some r => r.2 | none => 0
/-- A stream behind the word acc. -/
def strm (es : List E3) (p : Int → Bool) (n : Nat) : List UInt8 → Int → List Int → Option (List UInt8 × Int)
  | acc, s, [] => some (acc, s)
  | acc, s, a :: r => match ure es p n s a with
    | some u => strm es p n (acc ++ u.1) u.2 r
    | none => none
theorem strm_yes {es : List E3} {p : Int → Bool} {n : Nat} {acc : List UInt8} {s a : Int} {r : List Int} (h0 : 0 ≤ a) (h1 : a < cw es p n s) : strm es p n acc s (a :: r) = strm es p n (acc ++ (ur es p n s a).1) (ur es p n s a).2 r := by
  rw [strm, ure, if_pos ⟨h0, h1⟩]
theorem strm_no {es : List E3} {p : Int → Bool} {n : Nat} {acc : List UInt8} {s a : Int} {r : List Int} (h : ¬ (0 ≤ a ∧ a < cw es p n s)) : strm es p n acc s (a :: r) = none := by
  rw [strm, ure, if_neg h]
theorem ur_end {L : Int} {S : Nat} {es : List E3} (hE : eck L (S : Int) es = 0) {set : List Int} (hs : SomeS S set) {n : Nat} {s a : Int} (h0 : 0 ≤ a) (h1 : a < cw es (pin set) n s) : ∃ t : Nat, t < S ∧ (ur es (pin set) n s a).2 = (t : Int) ∧ (t : Int) ∈ set := by
  have h := (rk_ur hE (pin set) n s a 0 h0 h1).2
  have hm : (ur es (pin set) n s a).2 ∈ set := of_decide_eq_true (show decide ((ur es (pin set) n s a).2 ∈ set) = true from h)
  have := hs.1 _ hm
  exact ⟨(ur es (pin set) n s a).2.toNat, by omega, by omega, by rw [Int.toNat_of_nonneg this.1]; exact hm⟩
end Go.Proofs.Ytalipfnbpnkgnaa

/- enumerative.unrank at any number. -/
namespace Go.Proofs.Ytalipfnbpnkgnaa
open Go.RowKit

def UreRet (R : Option (List UInt8 × Int)) (w : World) (e : Ending) (w' : World) : Prop :=
  Below w.heap.size w w' ∧ e = .returned (.tuple #[.string ⟨(oWord R).toArray⟩, .int .i64 (oEnd R), .bool R.isSome])
theorem ure_any (L : Int) (S s0 n : Nat) (a0 : Int) (es : List E3) (v tv : Value) (p : Int → Bool) (w : World) (hr : Row w v es.length (ce es)) (ht : Tab w tv (tabL es S p n)) (hS : S ≤ 64) (hl : es.length ≤ 1024) (hin : InS S es) (hlab : ∀ e ∈ es, 0 ≤ e.l ∧ e.l < 16) (hs0 : s0 < S) (hn : n ≤ 4096) (sA : small a0) :
    Calls Try.prog 61 #[.agg #[.int .i64 L, .int .i64 (S : Int), v], tv, .int .i64 (s0 : Int), .int .i64 (n : Int), .agg #[.bool (ineg a0), .string (imag a0)]] w (UreRet (ure es p n (s0 : Int) a0) w) := by
  by_cases h0 : 0 ≤ a0
  · by_cases h1 : a0 < cw es p n (s0 : Int)
    · refine (unrank_any L S s0 n a0 es v tv p w hr ht hS hl hin hlab hs0 hn h0 h1).mono ?_
      rintro e w' ⟨h2, h3⟩
      rw [ure, if_pos ⟨h0, h1⟩]
      exact ⟨h2, h3⟩
    · refine (callsIn_wide.1 (unrank_big L S s0 n a0 es v tv p w hr ht hS hl hin hlab hs0 hn sA h0 (by omega))).mono ?_
      rintro e w' ⟨h2, h3⟩
      rw [ure, if_neg (by omega)]
      exact ⟨h2, h3⟩
  · refine (callsIn_wide.1 (unrank_neg L S s0 n a0 es v tv p w hr ht hS hl hin hlab hs0 hn sA (by omega))).mono ?_
    rintro e w' ⟨h2, h3⟩
    rw [ure, if_neg (by omega)]
    exact ⟨h2, h3⟩
/-- table with the states of a set, wherever the set's cell lies. -/
theorem tin_any (L : Int) (S n : Nat) (es : List E3) (v vs : Value) (set : List Int) (q : Nat) (w : World) (hr : Row w v es.length (ce es)) (hrs : Row w vs set.length (ci set)) (hS : S ≤ 64) (hn : n ≤ 4096) (hl : es.length ≤ 1024) (hin : InS S es) (hset : SomeS S set) (hq : q < w.heap.size) (hc : w.cell? ⟨q, 0, none⟩ = some vs) :
    Calls Try.prog 59 #[.agg #[.int .i64 L, .int .i64 (S : Int), v], .func (.func 95) #[] #[.pointer (some ⟨q, 0, none⟩)], .int .i64 (n : Int)] w (TabRet w (tabL es S (pin set) n)) := by
  have hlen := asc_len hset
  exact table_any L S n es v _ _ (pin set) w hr hS hn hl hin (fun args w => enters_of Try.func95 (by kernel_rfl) rfl args w) (fun s w' hs hb' => isin_any set _ q s w' ((hb'.cell (p := ⟨q, 0, none⟩) hq).trans hc) (hrs.below hb' (Nat.le_refl _)) hset.2 (by omega))
end Go.Proofs.Ytalipfnbpnkgnaa

/- enumerative.Stream at valid graphs, sets, states and lengths. -/
namespace Go.Proofs.Ytalipfnbpnkgnaa
open Go.RowKit

/-- What Stream hands back. -/
def strV : Option (List UInt8 × Int) → Value
  | some r => .tuple #[.string ⟨r.1.toArray⟩, .int .i64 r.2, .int .i64 0]
  | none => .tuple #[.string ⟨#[]⟩, .int .i64 0, .int .i64 2]
set_option maxRecDepth 100000 in
set_option maxHeartbeats 8000000 in
theorem estr_ok (L : Int) (S s0 n : Nat) (es : List E3) (set l : List Int) (v vs vl : Value) (w : World) (hr : Row w v es.length (ce es)) (hok : okEs es) (hrs : Row w vs set.length (ci set)) (hrl : Row w vl l.length (civ l)) (hE : eck L (S : Int) es = 0) (hset : SomeS S set) (hs0 : s0 < S) (hn : n ≤ 4096) (hl : l.length ≤ 4) (hsm : ∀ a ∈ l, small a) :
    Calls Try.prog 25 #[.agg #[.int .i64 L, .int .i64 (S : Int), v], vs, .int .i64 (s0 : Int), .int .i64 (n : Int), vl] w (Ret w (strV (strm es (pin set) n [] (s0 : Int) l))) := by
  obtain ⟨va, vc, rfl, hle⟩ := hr.slice
  obtain ⟨sa, sc, rfl, hsle⟩ := hrs.slice
  obtain ⟨la, lc, rfl, hlle⟩ := hrl.slice
  obtain ⟨mm, hmm⟩ : ∃ mm, mm = es.length := ⟨_, rfl⟩
  obtain ⟨ml, hml⟩ : ∃ ml, ml = l.length := ⟨_, rfl⟩
  obtain ⟨ms, hms⟩ : ∃ ms, ms = set.length := ⟨_, rfl⟩
  have hlen := asc_len hset
  have hz := eck_zero hE
  have hca := chk_all hz.1
  have b0 := Blk.new w 24 [.int .i64 L, .int .i64 (S : Int), .slice va es.length vc]
  have s0' := (Below.refl w.heap.size w).alloc (Nat.le_refl _) (.cells #[.int .i64 L, .int .i64 (S : Int), .slice va es.length vc] 24)
  have hr0 := hr.below s0' (Nat.le_refl _)
  have hrs0 := hrs.below s0' (Nat.le_refl _)
  have hrl0 := hrl.below s0' (Nat.le_refl _)
  have hal := checkall_any L S (s0 : Int) (n : Int) es _ _ set _ hr0 hok hrs0 (by omega)
  rw [eall_ok hE hset hs0 hn] at hal
  have hcf := fun w' (h : Row w' (.slice la l.length lc) l.length (civ l)) => cfI_any l _ w' h hsm
  have htb := fun q w' (h : Row w' (.slice va es.length vc) es.length (ce es)) (h2 : Row w' (.slice sa set.length sc) set.length (ci set)) => tin_any L S n es (.slice va es.length vc) (.slice sa set.length sc) set q w' h h2 (by omega) hn (by omega) (chk_inS hz.1) hset
  have hun := fun (s : Nat) (a : Int) tv w' (h : Row w' (.slice va es.length vc) es.length (ce es)) (ht : Tab w' tv (tabL es S (pin set) n)) (hs : s < S) (ha : small a) => ure_any L S s n a es (.slice va es.length vc) tv (pin set) w' h ht (by omega) (by omega) (chk_inS hz.1) (chk_lab hz.1 hz.2.1) hs hn ha
  have hend := fun (s a : Int) => ur_end hE hset (n := n) (s := s) (a := a)
  have hul := fun (s a : Int) => ur_length (es := es) (p := pin set) n s a
  obtain ⟨R, hR⟩ : ∃ R, R = strm es (pin set) n [] (s0 : Int) l := ⟨_, rfl⟩
  rw [← hR]
  rw [← hmm] at s0' b0 hr0 hrs0 hrl0 hal hle htb hun
  rw [← hms] at hrs0 hal hsle htb hlen
  rw [← hml] at hrl0 hcf hl hlle
  have HMM := Lib.hid hmm; clear hmm
  have HML := Lib.hid hml; clear hml
  have HMS := Lib.hid hms; clear hms
  have HAL := Lib.hid hal; clear hal
  have HCF := Lib.hid hcf; clear hcf
  have HTB := Lib.hid htb; clear htb
  have HUN := Lib.hid hun; clear hun
  have HEND := Lib.hid hend; clear hend
  have HUL := Lib.hid hul; clear hul
  have HRR := Lib.hid hR; clear hR
  have HSM := Lib.hid hsm; clear hsm
  have S0 := Lib.hid s0'; clear s0'
  have B0 := Lib.hid b0; clear b0
  have HR := Lib.hid hr0; clear hr0
  have HRS := Lib.hid hrs0; clear hrs0
  have HRL := Lib.hid hrl0; clear hrl0
  clear hr hrs hrl hok hE hz hca hset
  go_enter Try.func25, Try.ntmps25
  rw [← HMM.out, ← HMS.out, ← HML.out]
  go_wp2_with fail
  go_at_call 56
  refine HAL.out.mono ?_
  rintro e w1 ⟨hq, rfl⟩
  have s1 := S0.out.trans (hq.mono S0.out.size)
  have hr1 := HR.out.below hq (Nat.le_refl _)
  have hrs1 := HRS.out.below hq (Nat.le_refl _)
  have hrl1 := HRL.out.below hq (Nat.le_refl _)
  have tk := B0.out.keep hq; have x0 := tk.cell (j := 0) rfl; have x1 := tk.cell (j := 1) rfl; have x2 := tk.cell (j := 2) rfl; have C0 := Lib.hid tk; clear tk
  have S1 := Lib.hid s1; clear s1
  have HR1 := Lib.hid hr1; clear hr1
  have HRS1 := Lib.hid hrs1; clear hrs1
  have HRL1 := Lib.hid hrl1; clear hrl1
  clear hq
  go_wp2_with fail
  go_at_call 57
  refine (HCF.out _ HRL1.out).mono ?_
  rintro e w2 ⟨hq, rfl⟩
  have s2 := S1.out.trans (hq.mono S1.out.size)
  have hr2 := HR1.out.below hq (Nat.le_refl _)
  have hrs2 := HRS1.out.below hq (Nat.le_refl _)
  have hrl2 := HRL1.out.below hq (Nat.le_refl _)
  clear x0 x1 x2
  have tk := C0.out.keep hq; have x0 := tk.cell (j := 0) rfl; have x1 := tk.cell (j := 1) rfl; have x2 := tk.cell (j := 2) rfl; have D0 := Lib.hid tk; clear tk
  have S2 := Lib.hid s2; clear s2
  have HR2 := Lib.hid hr2; clear hr2
  have HRS2 := Lib.hid hrs2; clear hrs2
  have HRL2 := Lib.hid hrl2; clear hrl2
  clear hq
  have hg2 : w.heap.size < w2.heap.size := D0.out.lt
  go_wp2_with fail
  refine wp_region_held_drew (S := fun w' => w'.cell? ⟨w.heap.size, 0, none⟩ = some (.int .i64 L) ∧ w'.cell? ⟨w.heap.size, 1, none⟩ = some (.int .i64 (S : Int)) ∧ w'.cell? ⟨w.heap.size, 2, none⟩ = some (.slice va mm vc)) (by kernel_rfl) ?_ (fun hHeld => ?_)
  · go_keep
  refine wpAnyH_take (i := 0) (v := ?_) rfl (by kernel_rfl) (by kernel_rfl) (by kernel_rfl) (fun _ _ _ h => h) (Or.inl ⟨by rfl, ?_⟩) (by assumption) ?_
  rotate_left
  · (intro wS hSw; (try dsimp only at hSw); go_simp; (try with_reducible rfl))
  (try simp only [Act.put, List.setIfInBounds_toArray, List.set_cons_zero, List.set_cons_succ])
  refine wpAnyH_take (i := 1) (v := ?_) rfl (by kernel_rfl) (by kernel_rfl) (by kernel_rfl) (fun _ _ _ h => h) (Or.inl ⟨by rfl, ?_⟩) (by assumption) ?_
  rotate_left
  · (intro wS hSw; (try dsimp only at hSw); go_simp; (try with_reducible rfl))
  (try simp only [Act.put, List.setIfInBounds_toArray, List.set_cons_zero, List.set_cons_succ])
  refine wpAnyH_take (i := 3) (v := ?_) rfl (by kernel_rfl) (by kernel_rfl) (by kernel_rfl) (fun _ _ _ h => h) (Or.inl ⟨by rfl, ?_⟩) (by assumption) ?_
  rotate_left
  · (intro wS hSw; (try dsimp only at hSw); go_simp; (try with_reducible rfl))
  (try simp only [Act.put, List.setIfInBounds_toArray, List.set_cons_zero, List.set_cons_succ])
  refine wpAnyH_ready (rs := [2]) (by kernel_rfl) (by simp) ?_
  refine AllReadyH.cons rfl (fun K hK => ?_) AllReadyH.nil
  go_simp
  go_at_call 60
  refine (in_any _ _ _ _).mono ?_
  rintro e w3 ⟨hq, q, rfl, hqa, hqb, hqc⟩
  dsimp only
  have z0 := (hq.cell (p := ⟨w.heap.size, 0, none⟩) (show w.heap.size < w2.heap.size by omega)).trans hHeld.1
  have z1 := (hq.cell (p := ⟨w.heap.size, 1, none⟩) (show w.heap.size < w2.heap.size by omega)).trans hHeld.2.1
  have z2 := (hq.cell (p := ⟨w.heap.size, 2, none⟩) (show w.heap.size < w2.heap.size by omega)).trans hHeld.2.2
  refine hK.out _ _ ⟨z0, z1, z2⟩ (fun hHeld2 => ?_)
  clear hK K
  (try simp only [Act.put, List.setIfInBounds_toArray, List.set_cons_zero, List.set_cons_succ])
  have s3 := S2.out.drew.trans (hq.mono S2.out.size)
  have hr3 := HR2.out.drew.below hq (Nat.le_refl _)
  have hrs3 := HRS2.out.drew.below hq (Nat.le_refl _)
  have hrl3 := HRL2.out.drew.below hq (Nat.le_refl _)
  have k3 := D0.out.drew.keep hq
  have hg3 : w.heap.size < w3.heap.size := k3.lt
  have S3 := Lib.hid s3; clear s3
  have HR3 := Lib.hid hr3; clear hr3
  have HRS3 := Lib.hid hrs3; clear hrs3
  have HRL3 := Lib.hid hrl3; clear hrl3
  have E0 := Lib.hid k3; clear k3
  clear hq hHeld x0 x1 x2
  refine wpAnyH_ready (rs := [4]) (by kernel_rfl) (by simp) ?_
  refine AllReadyH.cons rfl (fun K hK => ?_) AllReadyH.nil
  go_simp
  go_at_call 59
  refine (HTB.out q w3 HR3.out HRS3.out hqb hqc).mono ?_
  rintro e w4 ⟨hq, tv, rfl, htb⟩
  obtain ⟨ta, tn, tc, rfl⟩ := htb.form
  dsimp only
  have y0 := (hq.cell (p := ⟨w.heap.size, 0, none⟩) (show w.heap.size < w3.heap.size by omega)).trans z0
  have y1 := (hq.cell (p := ⟨w.heap.size, 1, none⟩) (show w.heap.size < w3.heap.size by omega)).trans z1
  have y2 := (hq.cell (p := ⟨w.heap.size, 2, none⟩) (show w.heap.size < w3.heap.size by omega)).trans z2
  refine hK.out _ _ ⟨y0, y1, y2⟩ (fun hHeld3 => ?_)
  clear hK K hHeld2 z0 z1 z2 y0 y1 y2
  (try simp only [Act.put, List.setIfInBounds_toArray, List.set_cons_zero, List.set_cons_succ])
  have s4 := S3.out.trans (hq.mono S3.out.size)
  have hr4 := HR3.out.below hq (Nat.le_refl _)
  have hrl4 := HRL3.out.below hq (Nat.le_refl _)
  have ht4 := htb.tab
  have k4 := E0.out.keep hq
  have hg4 : w.heap.size < w4.heap.size := k4.lt
  clear hq hqa hqb hqc htb
  refine wpAnyH_take (i := 5) (v := ?_) rfl (by kernel_rfl) (by kernel_rfl) (by kernel_rfl) (fun _ _ _ h => h) (Or.inl ⟨by rfl, ?_⟩) (by assumption) ?_
  rotate_left
  · (intro wS hSw; (try dsimp only at hSw); go_simp; (try with_reducible rfl))
  (try simp only [Act.put, List.setIfInBounds_toArray, List.set_cons_zero, List.set_cons_succ])
  refine wpAnyH_done (by kernel_rfl) ?_ _
  (try simp only [List.getElem_toArray, List.getElem_cons_zero, List.getElem_cons_succ, Act.put, List.setIfInBounds_toArray, List.set_cons_zero, List.set_cons_succ])
  clear hHeld3
  obtain ⟨N, hN⟩ : ∃ N, w4.heap.size = N := ⟨_, rfl⟩
  have hq : Below w4.heap.size w4 (w4.alloc (.cells #[.pointer none, .slice none 0 0] 93)) := (Below.refl _ _).alloc (Nat.le_refl _) _
  have isb : IsB N [] (w4.alloc (.cells #[.pointer none, .slice none 0 0] 93)) := by rw [← hN]; exact isB_new w4
  obtain ⟨w5, hw5⟩ : ∃ w5, w4.alloc (.cells #[.pointer none, .slice none 0 0] 93) = w5 := ⟨_, rfl⟩
  rw [hw5] at hq isb
  have hq45 : Below N w4 w5 := by rw [← hN]; exact hq
  have hlt5 : N < w5.heap.size := isB_lt isb
  have hlw : w.heap.size < N := by rw [← hN]; exact hg4
  have S4 := Lib.hid s4; clear s4
  have HR4 := Lib.hid hr4; clear hr4
  have HRL4 := Lib.hid hrl4; clear hrl4
  have HT4 := Lib.hid ht4; clear ht4
  have K4 := Lib.hid k4; clear k4
  have ISB := Lib.hid isb; clear isb
  have HQ45 := Lib.hid hq45; clear hq45
  have HW5 := Lib.hid hw5; clear hw5
  clear hq
  go_wp2_with fail
  go_loopw [2, 38] (fun st i wr => ∃ (j sk : Nat) (acc : List UInt8), j ≤ ml ∧ i = .int .i64 j ∧ st = .int .i64 sk ∧ sk < S ∧ IsB N acc wr ∧ Below N w4 wr ∧ acc.length = j * n ∧ R = strm es (pin set) n acc (sk : Int) (l.drop j)) (fun _ i _ => ml - (intOf i).toNat)
  case atStart => exact ⟨0, s0, [], Nat.zero_le _, rfl, rfl, hs0, by rw [HW5.out]; exact ISB.out, by rw [HW5.out]; exact HQ45.out, by simp, HRR.out⟩
  case round =>
    obtain ⟨j, sk, acc, hj, rfl, rfl, hsk, hib, hbel, hacc, hst⟩ := hrel
    have hbelN : Below w4.heap.size w4 wr := by rw [hN]; exact hbel
    have hNw : N < wr.heap.size := isB_lt hib
    have k0 := K4.out.keep hbelN
    have hgw : w.heap.size < wr.heap.size := k0.lt
    have x0 := k0.cell (j := 0) rfl
    have x1 := k0.cell (j := 1) rfl
    have x2 := k0.cell (j := 2) rfl
    have hs6 : Below w.heap.size w wr := S4.out.trans (hbelN.mono S4.out.size)
    have hr6 := HR4.out.below hbelN (Nat.le_refl _)
    have ht6 := HT4.out.below hbelN (Nat.le_refl _)
    by_cases hlt : j < ml
    · have hjl : j < l.length := by rw [← HML.out]; exact hlt
      have hget : l[j]? = some (l[j]'hjl) := List.getElem?_eq_getElem _
      have hsj := HSM.out _ (List.getElem_mem hjl)
      rw [List.drop_eq_getElem_cons hjl] at hst
      obtain ⟨y, hy⟩ : ∃ y, y = l[j]'hjl := ⟨_, rfl⟩
      rw [← hy] at hget hsj hst
      obtain ⟨b, off, rfl, hbw, hce⟩ := HRL4.out.at_ (by omega)
      obtain ⟨c0, c1⟩ := int_cells hce hbelN hbw hget
      have hwa : Below wr.heap.size wr (wr.alloc (.cells #[.bool (ineg y), .string (imag y)] 26)) := (Below.refl _ _).alloc (Nat.le_refl _) _
      have hunk := HUN.out sk y _ (wr.alloc (.cells #[.bool (ineg y), .string (imag y)] 26)) (hr6.below hwa (Nat.le_refl _)) (ht6.below hwa (Nat.le_refl _)) hsk hsj
      have hib2 := isB_keep hib hwa
      have hs7 := hs6.trans (hwa.mono hs6.size)
      have hb7 := hbel.trans (hwa.mono (Nat.le_of_lt hNw))
      have HUNK := Lib.hid hunk; clear hunk
      have HIB := Lib.hid hib2; clear hib2
      have HS7 := Lib.hid hs7; clear hs7
      have HB7 := Lib.hid hb7; clear hb7
      have K0 := Lib.hid k0; clear k0
      clear hce hget hy hr6 ht6 hs6 hbel hbelN hib hwa hsj
      have hix : (0 : Int) ≤ (j : Int) := by omega
      by_cases hin : 0 ≤ y ∧ y < cw es (pin set) n (sk : Int)
      · rw [strm_yes hin.1 hin.2] at hst
        have hlw2 := HUL.out (sk : Int) y hin.1 hin.2
        obtain ⟨t, ht, hte, -⟩ := HEND.out (sk : Int) y hin.1 hin.2
        have hun2 := HUNK.out
        rw [ure, if_pos hin] at hun2
        obtain ⟨U, hU⟩ : ∃ U, U = ur es (pin set) n (sk : Int) y := ⟨_, rfl⟩
        rw [← hU] at hst hlw2 hte hun2
        obtain ⟨U1, U2⟩ := U
        dsimp only at hst hlw2 hte
        subst hte
        have hlen2 : (acc ++ U1).length = (j + 1) * n := by rw [List.length_append, hacc, hlw2, Nat.add_mul, Nat.one_mul]
        have hsz : acc.length + U1.length ≤ 1000000000 := by
          have h1 : (j + 1) * n ≤ 4 * 4096 := Nat.mul_le_mul (by omega) hn
          rw [List.length_append] at hlen2
          omega
        have HUN2 := Lib.hid hun2; clear hun2
        have HST := Lib.hid hst; clear hst
        have HLEN := Lib.hid hlen2; clear hlen2
        clear hU hin HUNK hacc hlw2
        go_wp2_with fail
        go_at_call 61
        refine HUN2.out.mono ?_
        rintro e w6 ⟨hq, he⟩
        replace he : e = .returned (.tuple #[.string ⟨U1.toArray⟩, .int .i64 (t : Int), .bool true]) := he
        subst he
        have hib6 := isB_keep HIB.out hq
        have hs8 := HS7.out.trans (hq.mono HS7.out.size)
        have hb8 := HB7.out.trans (hq.mono (by have := HB7.out.size; omega))
        have hbl8 := isB_lt hib6
        have HIB6 := Lib.hid hib6; clear hib6
        have HS8 := Lib.hid hs8; clear hs8
        have HB8 := Lib.hid hb8; clear hb8
        clear hq x0 x1 x2 c0 c1
        go_wp2_with fail
        go_at_call 62
        refine (wstr_B N acc U1 w6 HIB6.out hsz).mono ?_
        rintro e w7 ⟨rfl, hib7, hbb, -⟩
        have hb9 := HB8.out.trans hbb
        have HIB7 := Lib.hid hib7; clear hib7
        have HB9 := Lib.hid hb9; clear hb9
        clear hbb
        go_wp2_with fail
        go_roundw
        case rel => exact ⟨j + 1, t, acc ++ U1, by omega, by go_num, rfl, ht, HIB7.out, HB9.out, HLEN.out, HST.out⟩
        case measure => simp [intOf]; omega
      · rw [strm_no hin] at hst
        have hun2 := HUNK.out
        rw [ure, if_neg hin] at hun2
        have HUN2 := Lib.hid hun2; clear hun2
        have HST := Lib.hid hst; clear hst
        clear hin HUNK
        go_wp2_with fail
        go_at_call 61
        refine HUN2.out.mono ?_
        rintro e w6 ⟨hq, he⟩
        replace he : e = .returned (.tuple #[.string ⟨#[]⟩, .int .i64 0, .bool false]) := he
        subst he
        have hs8 := HS7.out.trans (hq.mono HS7.out.size)
        have HS8 := Lib.hid hs8; clear hs8
        clear hq x0 x1 x2 c0 c1
        go_wp2_with fail
        go_ret3
        rw [HST.out]
        exact ⟨HS8.out, rfl⟩
    · obtain rfl : j = ml := by omega
      rw [List.drop_of_length_le (by rw [HML.out]; exact Nat.le_refl _)] at hst
      have hst2 : R = some (acc, (sk : Int)) := hst
      have hsz : acc.length ≤ 65536 := by
        have h1 : j * n ≤ 4 * 4096 := Nat.mul_le_mul (by omega) hn
        omega
      have hszI : ¬ (65536 : Int) < (acc.length : Int) := by omega
      have hln := Try.Builder_Len N N (Lib.byteCells acc) wr hib
      rw [Lib.byteCells_length] at hln
      have hss := Try.Builder_String_any N N acc wr hib (Nat.le_of_lt hNw)
      have HST := Lib.hid hst2; clear hst2
      have HLN := Lib.hid hln; clear hln
      have HSS := Lib.hid hss; clear hss
      have HS6 := Lib.hid hs6; clear hs6
      clear hst hr6 ht6 hib hbelN hbel k0
      go_wp2_with fail
      go_at_call 63
      refine HLN.out.mono ?_
      rintro e w6 ⟨rfl, rfl⟩
      go_wp2_with fail
      go_at_call 64
      refine HSS.out.mono ?_
      rintro e w7 ⟨rfl, hbb⟩
      have hs8 := HS6.out.trans (hbb.mono (by omega))
      have HS8 := Lib.hid hs8; clear hs8
      clear hbb
      go_wp2_with fail
      go_ret3
      rw [HST.out]
      exact ⟨HS8.out, rfl⟩
end Go.Proofs.Ytalipfnbpnkgnaa

/- enumerative.Decode at valid graphs, sets, states and words. -/
namespace Go.Proofs.Ytalipfnbpnkgnaa
open Go.RowKit

/-- enumerative.in, its cell told as a block. -/
def InBlk (w : World) (v : Value) (e : Ending) (w' : World) : Prop :=
  Below w.heap.size w w' ∧ ∃ q : Nat, e = .returned (.func (.func 95) #[] #[.pointer (some ⟨q, 0, none⟩)]) ∧ Blk w' q 31 [v]
set_option maxRecDepth 100000 in
set_option maxHeartbeats 3200000 in
theorem in_blk (a : Option Addr) (n c : Nat) (w : World) :
    Calls Try.prog 60 #[.slice a n c] w (InBlk w (.slice a n c)) := by
  go_enter Try.func60, Try.ntmps60
  go_wp2_with fail
  go_ret
  exact ⟨(Below.refl _ _).alloc (Nat.le_refl _) _, w.heap.size, rfl, Blk.new w 31 [.slice a n c]⟩
set_option maxRecDepth 100000 in
set_option maxHeartbeats 3200000 in
theorem edec_some (L : Int) (S s0 : Nat) (es : List E3) (set : List Int) (v vs : Value) (wd : ByteArray) (w : World) (hr : Row w v es.length (ce es)) (hok : okEs es) (hrs : Row w vs set.length (ci set)) (hE : eck L (S : Int) es = 0) (hset : SomeS S set) (hs0 : s0 < S) (hw : ckw L wd.data.toList = 0) (hm : wd.size ≤ 4096) (a t : Int) (hR : rk es (pin set) wd.data.toList (s0 : Int) 0 = some (a, t)) (hP : pin set t = true) :
    Calls Try.prog 26 #[.agg #[.int .i64 L, .int .i64 (S : Int), v], vs, .int .i64 (s0 : Int), .int .i64 (wd.size : Int), .string wd] w (Ret w (.tuple #[IntV a, .int .i64 t, .int .i64 0])) := by
  obtain ⟨va, vc, rfl, hle⟩ := hr.slice
  obtain ⟨sa, sc, rfl, hsle⟩ := hrs.slice
  obtain ⟨mm, hmm⟩ : ∃ mm, mm = es.length := ⟨_, rfl⟩
  obtain ⟨ms, hms⟩ : ∃ ms, ms = set.length := ⟨_, rfl⟩
  have hlen := asc_len hset
  have hz := eck_zero hE
  have hca := chk_all hz.1
  have s0' := (Below.refl w.heap.size w).alloc (Nat.le_refl _) (.cells #[.int .i64 L, .int .i64 (S : Int), .slice va es.length vc] 24)
  have s0'' := s0'.alloc (by simp) (.cells #[.bool false, .string ⟨#[]⟩] 26)
  have b0 := (Blk.new w 24 [.int .i64 L, .int .i64 (S : Int), .slice va es.length vc]).alloc (.cells #[.bool false, .string ⟨#[]⟩] 26)
  have b1 := Blk.new (w.alloc (.cells #[.int .i64 L, .int .i64 (S : Int), .slice va es.length vc] 24)) 26 [.bool false, .string ⟨#[]⟩]
  simp only [World.size_alloc] at b1
  have hr0 := hr.below s0'' (Nat.le_refl _)
  have hrs0 := hrs.below s0'' (Nat.le_refl _)
  have hal := checkall_any L S (s0 : Int) (wd.size : Int) es _ _ set _ hr0 hok hrs0 (by omega)
  rw [eall_ok hE hset hs0 hm] at hal
  have hkw := fun w' => eckw_any L (S : Int) va es.length vc wd w' (by omega)
  rw [hw] at hkw
  have htab := fun q w' (h : Row w' (.slice va es.length vc) es.length (ce es)) (h2 : Row w' (.slice sa set.length sc) set.length (ci set)) => tin_any L S wd.size es (.slice va es.length vc) (.slice sa set.length sc) set q w' h h2 (by omega) hm (by omega) (chk_inS hz.1) hset
  have hrank := fun w' tv (h : Row w' (.slice va es.length vc) es.length (ce es)) (ht : Tab w' tv (tabL es S (pin set) wd.size)) => rank_any L S s0 es (.slice va es.length vc) tv wd (pin set) w' h ht (by omega) (by omega) (chk_inS hz.1) (chk_lab hz.1 hz.2.1) hs0 hm
  simp only [RkRet, hR, hP] at hrank
  rw [← hmm] at s0'' b0 b1 hr0 hrs0 hal hle hkw htab hrank
  rw [← hms] at hrs0 hal hsle htab hlen
  have HMM := Lib.hid hmm; clear hmm
  have HMS := Lib.hid hms; clear hms
  have HAL := Lib.hid hal; clear hal
  have HKW := Lib.hid hkw; clear hkw
  have HTAB := Lib.hid htab; clear htab
  have HRK := Lib.hid hrank; clear hrank
  have S0 := Lib.hid s0''; clear s0''
  have B0 := Lib.hid b0; clear b0
  have B1 := Lib.hid b1; clear b1
  have HR := Lib.hid hr0; clear hr0
  have HRS := Lib.hid hrs0; clear hrs0
  clear hr hrs hok hE hw hz hca s0' hset
  go_enter Try.func26, Try.ntmps26
  rw [← HMM.out, ← HMS.out]
  go_wp2_with fail
  go_at_call 56
  refine HAL.out.mono ?_
  rintro e w1 ⟨hq1, rfl⟩
  have s1 := S0.out.trans (hq1.mono S0.out.size)
  have hr1 := HR.out.below hq1 (Nat.le_refl _)
  have hrs1 := HRS.out.below hq1 (Nat.le_refl _)
  have tk := B0.out.keep hq1; have x0 := tk.cell (j := 0) rfl; have x1 := tk.cell (j := 1) rfl; have x2 := tk.cell (j := 2) rfl; have D0 := Lib.hid tk; clear tk
  have y0 := B1.out.keep hq1
  have D1 := Lib.hid y0; clear y0
  have S2 := Lib.hid s1; clear s1
  have HR2 := Lib.hid hr1; clear hr1
  have HS2 := Lib.hid hrs1; clear hrs1
  clear hq1
  go_wp2_with fail
  go_at_call 65
  refine (HKW.out _).mono ?_
  rintro e w3 ⟨hq1, rfl⟩
  have s1 := S2.out.trans (hq1.mono S2.out.size)
  have hr1 := HR2.out.below hq1 (Nat.le_refl _)
  have hrs1 := HS2.out.below hq1 (Nat.le_refl _)
  clear x0 x1 x2
  have tk := D0.out.keep hq1; have x0 := tk.cell (j := 0) rfl; have x1 := tk.cell (j := 1) rfl; have x2 := tk.cell (j := 2) rfl; have E0 := Lib.hid tk; clear tk
  have y0 := D1.out.keep hq1
  have E1 := Lib.hid y0; clear y0
  have S3 := Lib.hid s1; clear s1
  have HR3 := Lib.hid hr1; clear hr1
  have HS3 := Lib.hid hrs1; clear hrs1
  clear hq1
  have hw3 : w.heap.size + 1 < w3.heap.size := E1.out.lt
  go_wp2_with fail
  refine wp_region_held_drew (S := fun w' => w'.cell? ⟨w.heap.size, 0, none⟩ = some (.int .i64 L) ∧ w'.cell? ⟨w.heap.size, 1, none⟩ = some (.int .i64 (S : Int)) ∧ w'.cell? ⟨w.heap.size, 2, none⟩ = some (.slice va mm vc)) (by kernel_rfl) ?_ (fun hHeld => ?_)
  · go_keep
  refine wpAnyH_take (i := 0) (v := ?_) rfl (by kernel_rfl) (by kernel_rfl) (by kernel_rfl) (fun _ _ _ h => h) (Or.inl ⟨by rfl, ?_⟩) (by assumption) ?_
  rotate_left
  · (intro wS hSw; (try dsimp only at hSw); go_simp; (try with_reducible rfl))
  (try simp only [Act.put, List.setIfInBounds_toArray, List.set_cons_zero, List.set_cons_succ])
  refine wpAnyH_take (i := 1) (v := ?_) rfl (by kernel_rfl) (by kernel_rfl) (by kernel_rfl) (fun _ _ _ h => h) (Or.inl ⟨by rfl, ?_⟩) (by assumption) ?_
  rotate_left
  · (intro wS hSw; (try dsimp only at hSw); go_simp; (try with_reducible rfl))
  (try simp only [Act.put, List.setIfInBounds_toArray, List.set_cons_zero, List.set_cons_succ])
  refine wpAnyH_take (i := 2) (v := ?_) rfl (by kernel_rfl) (by kernel_rfl) (by kernel_rfl) (fun _ _ _ h => h) (Or.inl ⟨by rfl, ?_⟩) (by assumption) ?_
  rotate_left
  · (intro wS hSw; (try dsimp only at hSw); go_simp; (try with_reducible rfl))
  (try simp only [Act.put, List.setIfInBounds_toArray, List.set_cons_zero, List.set_cons_succ])
  refine wpAnyH_take (i := 4) (v := ?_) rfl (by kernel_rfl) (by kernel_rfl) (by kernel_rfl) (fun _ _ _ h => h) (Or.inl ⟨by rfl, ?_⟩) (by assumption) ?_
  rotate_left
  · (intro wS hSw; (try dsimp only at hSw); go_simp; (try with_reducible rfl))
  (try simp only [Act.put, List.setIfInBounds_toArray, List.set_cons_zero, List.set_cons_succ])
  refine wpAnyH_take (i := 6) (v := ?_) rfl (by kernel_rfl) (by kernel_rfl) (by kernel_rfl) (fun _ _ _ h => h) (Or.inl ⟨by rfl, ?_⟩) (by assumption) ?_
  rotate_left
  · (intro wS hSw; (try dsimp only at hSw); go_simp; (try with_reducible rfl))
  (try simp only [Act.put, List.setIfInBounds_toArray, List.set_cons_zero, List.set_cons_succ])
  refine wpAnyH_take (i := 7) (v := ?_) rfl (by kernel_rfl) (by kernel_rfl) (by kernel_rfl) (fun _ _ _ h => h) (Or.inl ⟨by rfl, ?_⟩) (by assumption) ?_
  rotate_left
  · (intro wS hSw; (try dsimp only at hSw); go_simp; (try with_reducible rfl))
  (try simp only [Act.put, List.setIfInBounds_toArray, List.set_cons_zero, List.set_cons_succ])
  refine wpAnyH_ready (rs := [3, 13]) (by kernel_rfl) (by simp) ?_
  refine AllReadyH.cons rfl (fun K hK => ?_) (AllReadyH.cons rfl (fun K hK => ?_) AllReadyH.nil)
  · go_simp
    go_at_call 60
    refine (in_blk _ _ _ _).mono ?_
    rintro e w41 ⟨hq, q, rfl, hqb⟩
    dsimp only
    have z0 := (hq.cell (p := ⟨w.heap.size, 0, none⟩) (show w.heap.size < w3.heap.size by omega)).trans hHeld.1
    have z1 := (hq.cell (p := ⟨w.heap.size, 1, none⟩) (show w.heap.size < w3.heap.size by omega)).trans hHeld.2.1
    have z2 := (hq.cell (p := ⟨w.heap.size, 2, none⟩) (show w.heap.size < w3.heap.size by omega)).trans hHeld.2.2
    refine hK.out _ _ ⟨z0, z1, z2⟩ (fun hHeld => ?_)
    clear hK K
    (try simp only [Act.put, List.setIfInBounds_toArray, List.set_cons_zero, List.set_cons_succ])
    have s5 := (S3.out.drew).trans (hq.mono (S3.out.drew).size)
    have r5 := (HR3.out.drew).below hq (Nat.le_refl _)
    have i5 := (HS3.out.drew).below hq (Nat.le_refl _)
    have y5 := (E1.out.drew).keep hq
    have l5 : w.heap.size + 1 < w41.heap.size := y5.lt
    have Sw41 := Lib.hid s5; clear s5
    have HRw41 := Lib.hid r5; clear r5
    have HSw41 := Lib.hid i5; clear i5
    have Rw41 := Lib.hid y5; clear y5
    have Qw41 := Lib.hid hqb; clear hqb
    clear hq z0 z1 z2
    refine wpAnyH_ready (rs := [5, 13]) (by kernel_rfl) (by simp) ?_
    refine AllReadyH.cons rfl (fun K hK => ?_) (AllReadyH.cons rfl (fun K hK => ?_) AllReadyH.nil)
    · go_simp
      go_at_call 59
      refine (HTAB.out q _ (HRw41.out) (HSw41.out) (Qw41.out).lt ((Qw41.out).cell (j := 0) rfl)).mono ?_
      rintro e w42 ⟨hq, tv, rfl, htb⟩
      dsimp only
      have z0 := (hq.cell (p := ⟨w.heap.size, 0, none⟩) (show w.heap.size < w41.heap.size by omega)).trans hHeld.1
      have z1 := (hq.cell (p := ⟨w.heap.size, 1, none⟩) (show w.heap.size < w41.heap.size by omega)).trans hHeld.2.1
      have z2 := (hq.cell (p := ⟨w.heap.size, 2, none⟩) (show w.heap.size < w41.heap.size by omega)).trans hHeld.2.2
      refine hK.out _ _ ⟨z0, z1, z2⟩ (fun hHeld => ?_)
      clear hK K
      (try simp only [Act.put, List.setIfInBounds_toArray, List.set_cons_zero, List.set_cons_succ])
      have s5 := (Sw41.out).trans (hq.mono (Sw41.out).size)
      have r5 := (HRw41.out).below hq (Nat.le_refl _)
      have i5 := (HSw41.out).below hq (Nat.le_refl _)
      have y5 := (Rw41.out).keep hq
      have l5 : w.heap.size + 1 < w42.heap.size := y5.lt
      have Sw42 := Lib.hid s5; clear s5
      have HRw42 := Lib.hid r5; clear r5
      have HSw42 := Lib.hid i5; clear i5
      have Rw42 := Lib.hid y5; clear y5
      have t5 := htb.tab
      have Tw42 := Lib.hid t5; clear t5
      clear htb
      clear hq z0 z1 z2
      refine wpAnyH_ready (rs := [8, 13]) (by kernel_rfl) (by simp) ?_
      refine AllReadyH.cons rfl (fun K hK => ?_) (AllReadyH.cons rfl (fun K hK => ?_) AllReadyH.nil)
      · go_simp
        go_at_call 66
        refine (HRK.out _ _ (HRw42.out) Tw42.out).mono ?_
        rintro e w43 ⟨hq, rfl⟩
        dsimp only
        have z0 := (hq.cell (p := ⟨w.heap.size, 0, none⟩) (show w.heap.size < w42.heap.size by omega)).trans hHeld.1
        have z1 := (hq.cell (p := ⟨w.heap.size, 1, none⟩) (show w.heap.size < w42.heap.size by omega)).trans hHeld.2.1
        have z2 := (hq.cell (p := ⟨w.heap.size, 2, none⟩) (show w.heap.size < w42.heap.size by omega)).trans hHeld.2.2
        refine hK.out _ _ ⟨z0, z1, z2⟩ (fun hHeld => ?_)
        clear hK K
        (try simp only [Act.put, List.setIfInBounds_toArray, List.set_cons_zero, List.set_cons_succ])
        have s5 := (Sw42.out).trans (hq.mono (Sw42.out).size)
        have r5 := (HRw42.out).below hq (Nat.le_refl _)
        have i5 := (HSw42.out).below hq (Nat.le_refl _)
        have y5 := (Rw42.out).keep hq
        have l5 : w.heap.size + 1 < w43.heap.size := y5.lt
        have Sw43 := Lib.hid s5; clear s5
        have HRw43 := Lib.hid r5; clear r5
        have HSw43 := Lib.hid i5; clear i5
        have Rw43 := Lib.hid y5; clear y5
        clear hq z0 z1 z2
        refine wpAnyH_take (i := 9) (v := ?_) rfl (by kernel_rfl) (by kernel_rfl) (by kernel_rfl) (fun _ _ _ h => h) (Or.inl ⟨by rfl, ?_⟩) (by assumption) ?_
        rotate_left
        · (intro wS hSw; (try dsimp only at hSw); go_simp; (try with_reducible rfl))
        (try simp only [Act.put, List.setIfInBounds_toArray, List.set_cons_zero, List.set_cons_succ])
        refine wpAnyH_take (i := 10) (v := ?_) rfl (by kernel_rfl) (by kernel_rfl) (by kernel_rfl) (fun _ _ _ h => h) (Or.inl ⟨by rfl, ?_⟩) (by assumption) ?_
        rotate_left
        · (intro wS hSw; (try dsimp only at hSw); go_simp; (try with_reducible rfl))
        (try simp only [Act.put, List.setIfInBounds_toArray, List.set_cons_zero, List.set_cons_succ])
        refine wpAnyH_take (i := 11) (v := ?_) rfl (by kernel_rfl) (by kernel_rfl) (by kernel_rfl) (fun _ _ _ h => h) (Or.inl ⟨by rfl, ?_⟩) (by assumption) ?_
        rotate_left
        · (intro wS hSw; (try dsimp only at hSw); go_simp; (try with_reducible rfl))
        (try simp only [Act.put, List.setIfInBounds_toArray, List.set_cons_zero, List.set_cons_succ])
        refine wpAnyH_take (i := 12) (v := ?_) rfl (by kernel_rfl) (by kernel_rfl) (by kernel_rfl) (fun _ _ _ h => h) (Or.inl ⟨by rfl, ?_⟩) (by assumption) ?_
        rotate_left
        · (intro wS hSw; (try dsimp only at hSw); go_simp; (try with_reducible rfl))
        (try simp only [Act.put, List.setIfInBounds_toArray, List.set_cons_zero, List.set_cons_succ])
        refine wpAnyH_ready (rs := [13]) (by kernel_rfl) (by simp) ?_
        refine AllReadyH.cons rfl (fun K hK => ?_) AllReadyH.nil
        go_simp
        refine hK.out _ _ ?_ (fun hHeld => ?_)
        · ((try dsimp only); go_keep)
        clear hK K
        (try simp only [Act.put, List.setIfInBounds_toArray, List.set_cons_zero, List.set_cons_succ])
        have hbq : Below (w43).heap.size (w43) ((w43).alloc (.cells #[.bool false, .string ⟨#[]⟩] 26)) := (Below.refl _ _).alloc (Nat.le_refl _) _
        have a5 := Blk.new (w43) 26 [.bool false, .string ⟨#[]⟩]
        have g5 : (w43).heap.size = w43.heap.size := rfl
        rw [g5] at a5
        have s5 := (Sw43.out).trans (hbq.mono (Sw43.out).size)
        have r5 := (HRw43.out).below hbq (Nat.le_refl _)
        have i5 := (HSw43.out).below hbq (Nat.le_refl _)
        have y5 := (Rw43.out).keep hbq
        obtain ⟨ba, hba⟩ : ∃ ba, ba = w43.heap.size := ⟨_, rfl⟩
        have hane : w.heap.size + 1 < ba := by omega
        rw [← hba] at a5
        have e5 : (w43).alloc (.cells #[.bool false, .string ⟨#[]⟩] 26) = (w43).alloc (.cells #[.bool false, .string ⟨#[]⟩] 26) := rfl
        rw [e5] at a5 s5 r5 i5 y5 hbq
        obtain ⟨w44, hv5⟩ : ∃ w44, (w43).alloc (.cells #[.bool false, .string ⟨#[]⟩] 26) = w44 := ⟨_, rfl⟩
        rw [hv5] at hHeld a5 s5 r5 i5 y5 hbq
        have l5 : w.heap.size + 1 < w44.heap.size := y5.lt
        have al5 := a5.lt
        have Sw44 := Lib.hid s5; clear s5
        have HRw44 := Lib.hid r5; clear r5
        have HSw44 := Lib.hid i5; clear i5
        have Rw44 := Lib.hid y5; clear y5
        have Aw44 := Lib.hid a5; clear a5
        have hpa : (Value.pointer (some ⟨w43.heap.size, 0, none⟩)) = Value.pointer (some ⟨ba, 0, none⟩) := by rw [hba]
        (try simp only [World.size_drew])
        rw [hv5]
        (try rw [hpa])
        clear hbq hv5 hba hpa g5 e5
        have a0 := (Aw44.out).cell (j := 0) rfl
        have a1 := (Aw44.out).cell (j := 1) rfl
        have f0 := (Aw44.out).frozen 0
        have f1 := (Aw44.out).frozen 1
        have hne : ¬ ba = w.heap.size := by omega
        refine wpAnyH_ready (rs := [14]) (by kernel_rfl) (by simp) ?_
        refine AllReadyH.cons rfl (fun K hK => ?_) AllReadyH.nil
        go_simp
        refine hK.out _ _ ?_ (fun hHeld => ?_)
        · ((try dsimp only); go_keep)
        clear hK K
        (try simp only [Act.put, List.setIfInBounds_toArray, List.set_cons_zero, List.set_cons_succ])
        refine wpAnyH_take (i := 15) (v := ?_) rfl (by kernel_rfl) (by kernel_rfl) (by kernel_rfl) (fun _ _ _ h => h) (Or.inl ⟨by rfl, ?_⟩) (by assumption) ?_
        rotate_left
        · (intro wS hSw; (try dsimp only at hSw); go_simp; (try with_reducible rfl))
        (try simp only [Act.put, List.setIfInBounds_toArray, List.set_cons_zero, List.set_cons_succ])
        refine wpAnyH_take (i := 16) (v := ?_) rfl (by kernel_rfl) (by kernel_rfl) (by kernel_rfl) (fun _ _ _ h => h) (Or.inl ⟨by rfl, ?_⟩) (by assumption) ?_
        rotate_left
        · (intro wS hSw; (try dsimp only at hSw); go_simp; (try with_reducible rfl))
        (try simp only [Act.put, List.setIfInBounds_toArray, List.set_cons_zero, List.set_cons_succ])
        refine wpAnyH_done (by kernel_rfl) ?_ _
        (try simp only [List.getElem_toArray, List.getElem_cons_zero, List.getElem_cons_succ, Act.put, List.setIfInBounds_toArray, List.set_cons_zero, List.set_cons_succ])
        have az := ((Aw44.out).set 0 (.bool (ineg a))).set 1 (.string (imag a))
        have hkz : ∀ b, b ≠ ba → ((w44.setCell ⟨ba, 0, none⟩ (.bool (ineg a))).setCell ⟨ba, 1, none⟩ (.string (imag a))).heap[b]? = w44.heap[b]? := fun b h => (Below.heap_setCell _ _ _ b h).trans (Below.heap_setCell _ _ _ b h)
        have rz := (Rw44.out).of_block (hkz _ (by omega))
        have sz := ((Sw44.out).setCell (p := ⟨ba, 0, none⟩) (show w.heap.size ≤ ba by omega) (.bool (ineg a))).setCell (p := ⟨ba, 1, none⟩) (show w.heap.size ≤ ba by omega) (.string (imag a))
        obtain ⟨wz, hwz⟩ : ∃ wz, (w44.setCell ⟨ba, 0, none⟩ (.bool (ineg a))).setCell ⟨ba, 1, none⟩ (.string (imag a)) = wz := ⟨_, rfl⟩
        rw [hwz] at az rz sz ⊢
        clear hwz hkz hHeld a0 a1 f0 f1
        have a0 := az.cell (j := 0) rfl
        have a1 := az.cell (j := 1) rfl
        have r0 := rz.cell (j := 0) rfl
        have r1 := rz.cell (j := 1) rfl
        have f0 := rz.frozen 0
        have f1 := rz.frozen 1
        have SZ := Lib.hid sz; clear sz
        have AZ := Lib.hid az; clear az
        go_wp2_with fail
        refine bodyPost_ret (v := .tuple #[IntV a, .int .i64 t, .int .i64 0]) ?_ rfl ?_
        · have e0 := ((rz.set 0 (.bool (ineg a))).set 1 (.string (imag a))).cell (j := 0) rfl
          have e1 := ((rz.set 0 (.bool (ineg a))).set 1 (.string (imag a))).cell (j := 1) rfl
          simp [results, Try.results26, go_sem, e0, e1, IntV]
        · exact ⟨(SZ.out.setCell (p := ⟨w.heap.size + 1, 0, none⟩) (show w.heap.size ≤ w.heap.size + 1 by omega) _).setCell (p := ⟨w.heap.size + 1, 1, none⟩) (show w.heap.size ≤ w.heap.size + 1 by omega) _, rfl⟩
      · go_simp
        refine hK.out _ _ ?_ (fun hHeld => ?_)
        · ((try dsimp only); go_keep)
        clear hK K
        (try simp only [Act.put, List.setIfInBounds_toArray, List.set_cons_zero, List.set_cons_succ])
        have hbq : Below (w42).heap.size (w42) ((w42).alloc (.cells #[.bool false, .string ⟨#[]⟩] 26)) := (Below.refl _ _).alloc (Nat.le_refl _) _
        have a5 := Blk.new (w42) 26 [.bool false, .string ⟨#[]⟩]
        have g5 : (w42).heap.size = w42.heap.size := rfl
        rw [g5] at a5
        have s5 := (Sw42.out).trans (hbq.mono (Sw42.out).size)
        have r5 := (HRw42.out).below hbq (Nat.le_refl _)
        have i5 := (HSw42.out).below hbq (Nat.le_refl _)
        have y5 := (Rw42.out).keep hbq
        obtain ⟨ba, hba⟩ : ∃ ba, ba = w42.heap.size := ⟨_, rfl⟩
        have hane : w.heap.size + 1 < ba := by omega
        rw [← hba] at a5
        have e5 : (w42).alloc (.cells #[.bool false, .string ⟨#[]⟩] 26) = (w42).alloc (.cells #[.bool false, .string ⟨#[]⟩] 26) := rfl
        rw [e5] at a5 s5 r5 i5 y5 hbq
        obtain ⟨w45, hv5⟩ : ∃ w45, (w42).alloc (.cells #[.bool false, .string ⟨#[]⟩] 26) = w45 := ⟨_, rfl⟩
        rw [hv5] at hHeld a5 s5 r5 i5 y5 hbq
        have l5 : w.heap.size + 1 < w45.heap.size := y5.lt
        have al5 := a5.lt
        have t5 := Tab.below Tw42.out hbq (Nat.le_refl _)
        have Tw45 := Lib.hid t5; clear t5
        have Sw45 := Lib.hid s5; clear s5
        have HRw45 := Lib.hid r5; clear r5
        have HSw45 := Lib.hid i5; clear i5
        have Rw45 := Lib.hid y5; clear y5
        have Aw45 := Lib.hid a5; clear a5
        have hpa : (Value.pointer (some ⟨w42.heap.size, 0, none⟩)) = Value.pointer (some ⟨ba, 0, none⟩) := by rw [hba]
        (try simp only [World.size_drew])
        rw [hv5]
        (try rw [hpa])
        clear hbq hv5 hba hpa g5 e5
        refine wpAnyH_ready (rs := [8]) (by kernel_rfl) (by simp) ?_
        refine AllReadyH.cons rfl (fun K hK => ?_) AllReadyH.nil
        go_simp
        go_at_call 66
        refine (HRK.out _ _ (HRw45.out) Tw45.out).mono ?_
        rintro e w46 ⟨hq, rfl⟩
        dsimp only
        have z0 := (hq.cell (p := ⟨w.heap.size, 0, none⟩) (show w.heap.size < w45.heap.size by omega)).trans hHeld.1
        have z1 := (hq.cell (p := ⟨w.heap.size, 1, none⟩) (show w.heap.size < w45.heap.size by omega)).trans hHeld.2.1
        have z2 := (hq.cell (p := ⟨w.heap.size, 2, none⟩) (show w.heap.size < w45.heap.size by omega)).trans hHeld.2.2
        refine hK.out _ _ ⟨z0, z1, z2⟩ (fun hHeld => ?_)
        clear hK K
        (try simp only [Act.put, List.setIfInBounds_toArray, List.set_cons_zero, List.set_cons_succ])
        have s5 := (Sw45.out).trans (hq.mono (Sw45.out).size)
        have r5 := (HRw45.out).below hq (Nat.le_refl _)
        have i5 := (HSw45.out).below hq (Nat.le_refl _)
        have y5 := (Rw45.out).keep hq
        have l5 : w.heap.size + 1 < w46.heap.size := y5.lt
        have Sw46 := Lib.hid s5; clear s5
        have HRw46 := Lib.hid r5; clear r5
        have HSw46 := Lib.hid i5; clear i5
        have Rw46 := Lib.hid y5; clear y5
        have a5 := (Aw45.out).keep hq
        have Aw46 := Lib.hid a5; clear a5
        clear hq z0 z1 z2
        refine wpAnyH_take (i := 9) (v := ?_) rfl (by kernel_rfl) (by kernel_rfl) (by kernel_rfl) (fun _ _ _ h => h) (Or.inl ⟨by rfl, ?_⟩) (by assumption) ?_
        rotate_left
        · (intro wS hSw; (try dsimp only at hSw); go_simp; (try with_reducible rfl))
        (try simp only [Act.put, List.setIfInBounds_toArray, List.set_cons_zero, List.set_cons_succ])
        refine wpAnyH_take (i := 10) (v := ?_) rfl (by kernel_rfl) (by kernel_rfl) (by kernel_rfl) (fun _ _ _ h => h) (Or.inl ⟨by rfl, ?_⟩) (by assumption) ?_
        rotate_left
        · (intro wS hSw; (try dsimp only at hSw); go_simp; (try with_reducible rfl))
        (try simp only [Act.put, List.setIfInBounds_toArray, List.set_cons_zero, List.set_cons_succ])
        refine wpAnyH_take (i := 11) (v := ?_) rfl (by kernel_rfl) (by kernel_rfl) (by kernel_rfl) (fun _ _ _ h => h) (Or.inl ⟨by rfl, ?_⟩) (by assumption) ?_
        rotate_left
        · (intro wS hSw; (try dsimp only at hSw); go_simp; (try with_reducible rfl))
        (try simp only [Act.put, List.setIfInBounds_toArray, List.set_cons_zero, List.set_cons_succ])
        refine wpAnyH_take (i := 12) (v := ?_) rfl (by kernel_rfl) (by kernel_rfl) (by kernel_rfl) (fun _ _ _ h => h) (Or.inl ⟨by rfl, ?_⟩) (by assumption) ?_
        rotate_left
        · (intro wS hSw; (try dsimp only at hSw); go_simp; (try with_reducible rfl))
        (try simp only [Act.put, List.setIfInBounds_toArray, List.set_cons_zero, List.set_cons_succ])
        have a0 := (Aw46.out).cell (j := 0) rfl
        have a1 := (Aw46.out).cell (j := 1) rfl
        have f0 := (Aw46.out).frozen 0
        have f1 := (Aw46.out).frozen 1
        have hne : ¬ ba = w.heap.size := by omega
        refine wpAnyH_ready (rs := [14]) (by kernel_rfl) (by simp) ?_
        refine AllReadyH.cons rfl (fun K hK => ?_) AllReadyH.nil
        go_simp
        refine hK.out _ _ ?_ (fun hHeld => ?_)
        · ((try dsimp only); go_keep)
        clear hK K
        (try simp only [Act.put, List.setIfInBounds_toArray, List.set_cons_zero, List.set_cons_succ])
        refine wpAnyH_take (i := 15) (v := ?_) rfl (by kernel_rfl) (by kernel_rfl) (by kernel_rfl) (fun _ _ _ h => h) (Or.inl ⟨by rfl, ?_⟩) (by assumption) ?_
        rotate_left
        · (intro wS hSw; (try dsimp only at hSw); go_simp; (try with_reducible rfl))
        (try simp only [Act.put, List.setIfInBounds_toArray, List.set_cons_zero, List.set_cons_succ])
        refine wpAnyH_take (i := 16) (v := ?_) rfl (by kernel_rfl) (by kernel_rfl) (by kernel_rfl) (fun _ _ _ h => h) (Or.inl ⟨by rfl, ?_⟩) (by assumption) ?_
        rotate_left
        · (intro wS hSw; (try dsimp only at hSw); go_simp; (try with_reducible rfl))
        (try simp only [Act.put, List.setIfInBounds_toArray, List.set_cons_zero, List.set_cons_succ])
        refine wpAnyH_done (by kernel_rfl) ?_ _
        (try simp only [List.getElem_toArray, List.getElem_cons_zero, List.getElem_cons_succ, Act.put, List.setIfInBounds_toArray, List.set_cons_zero, List.set_cons_succ])
        have az := ((Aw46.out).set 0 (.bool (ineg a))).set 1 (.string (imag a))
        have hkz : ∀ b, b ≠ ba → ((w46.setCell ⟨ba, 0, none⟩ (.bool (ineg a))).setCell ⟨ba, 1, none⟩ (.string (imag a))).heap[b]? = w46.heap[b]? := fun b h => (Below.heap_setCell _ _ _ b h).trans (Below.heap_setCell _ _ _ b h)
        have rz := (Rw46.out).of_block (hkz _ (by omega))
        have sz := ((Sw46.out).setCell (p := ⟨ba, 0, none⟩) (show w.heap.size ≤ ba by omega) (.bool (ineg a))).setCell (p := ⟨ba, 1, none⟩) (show w.heap.size ≤ ba by omega) (.string (imag a))
        obtain ⟨wz, hwz⟩ : ∃ wz, (w46.setCell ⟨ba, 0, none⟩ (.bool (ineg a))).setCell ⟨ba, 1, none⟩ (.string (imag a)) = wz := ⟨_, rfl⟩
        rw [hwz] at az rz sz ⊢
        clear hwz hkz hHeld a0 a1 f0 f1
        have a0 := az.cell (j := 0) rfl
        have a1 := az.cell (j := 1) rfl
        have r0 := rz.cell (j := 0) rfl
        have r1 := rz.cell (j := 1) rfl
        have f0 := rz.frozen 0
        have f1 := rz.frozen 1
        have SZ := Lib.hid sz; clear sz
        have AZ := Lib.hid az; clear az
        go_wp2_with fail
        refine bodyPost_ret (v := .tuple #[IntV a, .int .i64 t, .int .i64 0]) ?_ rfl ?_
        · have e0 := ((rz.set 0 (.bool (ineg a))).set 1 (.string (imag a))).cell (j := 0) rfl
          have e1 := ((rz.set 0 (.bool (ineg a))).set 1 (.string (imag a))).cell (j := 1) rfl
          simp [results, Try.results26, go_sem, e0, e1, IntV]
        · exact ⟨(SZ.out.setCell (p := ⟨w.heap.size + 1, 0, none⟩) (show w.heap.size ≤ w.heap.size + 1 by omega) _).setCell (p := ⟨w.heap.size + 1, 1, none⟩) (show w.heap.size ≤ w.heap.size + 1 by omega) _, rfl⟩
    · go_simp
      refine hK.out _ _ ?_ (fun hHeld => ?_)
      · ((try dsimp only); go_keep)
      clear hK K
      (try simp only [Act.put, List.setIfInBounds_toArray, List.set_cons_zero, List.set_cons_succ])
      have hbq : Below (w41).heap.size (w41) ((w41).alloc (.cells #[.bool false, .string ⟨#[]⟩] 26)) := (Below.refl _ _).alloc (Nat.le_refl _) _
      have a5 := Blk.new (w41) 26 [.bool false, .string ⟨#[]⟩]
      have g5 : (w41).heap.size = w41.heap.size := rfl
      rw [g5] at a5
      have s5 := (Sw41.out).trans (hbq.mono (Sw41.out).size)
      have r5 := (HRw41.out).below hbq (Nat.le_refl _)
      have i5 := (HSw41.out).below hbq (Nat.le_refl _)
      have y5 := (Rw41.out).keep hbq
      obtain ⟨ba, hba⟩ : ∃ ba, ba = w41.heap.size := ⟨_, rfl⟩
      have hane : w.heap.size + 1 < ba := by omega
      rw [← hba] at a5
      have e5 : (w41).alloc (.cells #[.bool false, .string ⟨#[]⟩] 26) = (w41).alloc (.cells #[.bool false, .string ⟨#[]⟩] 26) := rfl
      rw [e5] at a5 s5 r5 i5 y5 hbq
      obtain ⟨w47, hv5⟩ : ∃ w47, (w41).alloc (.cells #[.bool false, .string ⟨#[]⟩] 26) = w47 := ⟨_, rfl⟩
      rw [hv5] at hHeld a5 s5 r5 i5 y5 hbq
      have l5 : w.heap.size + 1 < w47.heap.size := y5.lt
      have al5 := a5.lt
      have q5 := (Qw41.out).keep hbq
      have Qw47 := Lib.hid q5; clear q5
      have Sw47 := Lib.hid s5; clear s5
      have HRw47 := Lib.hid r5; clear r5
      have HSw47 := Lib.hid i5; clear i5
      have Rw47 := Lib.hid y5; clear y5
      have Aw47 := Lib.hid a5; clear a5
      have hpa : (Value.pointer (some ⟨w41.heap.size, 0, none⟩)) = Value.pointer (some ⟨ba, 0, none⟩) := by rw [hba]
      (try simp only [World.size_drew])
      rw [hv5]
      (try rw [hpa])
      clear hbq hv5 hba hpa g5 e5
      refine wpAnyH_ready (rs := [5]) (by kernel_rfl) (by simp) ?_
      refine AllReadyH.cons rfl (fun K hK => ?_) AllReadyH.nil
      go_simp
      go_at_call 59
      refine (HTAB.out q _ (HRw47.out) (HSw47.out) (Qw47.out).lt ((Qw47.out).cell (j := 0) rfl)).mono ?_
      rintro e w48 ⟨hq, tv, rfl, htb⟩
      dsimp only
      have z0 := (hq.cell (p := ⟨w.heap.size, 0, none⟩) (show w.heap.size < w47.heap.size by omega)).trans hHeld.1
      have z1 := (hq.cell (p := ⟨w.heap.size, 1, none⟩) (show w.heap.size < w47.heap.size by omega)).trans hHeld.2.1
      have z2 := (hq.cell (p := ⟨w.heap.size, 2, none⟩) (show w.heap.size < w47.heap.size by omega)).trans hHeld.2.2
      refine hK.out _ _ ⟨z0, z1, z2⟩ (fun hHeld => ?_)
      clear hK K
      (try simp only [Act.put, List.setIfInBounds_toArray, List.set_cons_zero, List.set_cons_succ])
      have s5 := (Sw47.out).trans (hq.mono (Sw47.out).size)
      have r5 := (HRw47.out).below hq (Nat.le_refl _)
      have i5 := (HSw47.out).below hq (Nat.le_refl _)
      have y5 := (Rw47.out).keep hq
      have l5 : w.heap.size + 1 < w48.heap.size := y5.lt
      have Sw48 := Lib.hid s5; clear s5
      have HRw48 := Lib.hid r5; clear r5
      have HSw48 := Lib.hid i5; clear i5
      have Rw48 := Lib.hid y5; clear y5
      have t5 := htb.tab
      have Tw48 := Lib.hid t5; clear t5
      clear htb
      have a5 := (Aw47.out).keep hq
      have Aw48 := Lib.hid a5; clear a5
      clear hq z0 z1 z2
      refine wpAnyH_ready (rs := [8]) (by kernel_rfl) (by simp) ?_
      refine AllReadyH.cons rfl (fun K hK => ?_) AllReadyH.nil
      go_simp
      go_at_call 66
      refine (HRK.out _ _ (HRw48.out) Tw48.out).mono ?_
      rintro e w49 ⟨hq, rfl⟩
      dsimp only
      have z0 := (hq.cell (p := ⟨w.heap.size, 0, none⟩) (show w.heap.size < w48.heap.size by omega)).trans hHeld.1
      have z1 := (hq.cell (p := ⟨w.heap.size, 1, none⟩) (show w.heap.size < w48.heap.size by omega)).trans hHeld.2.1
      have z2 := (hq.cell (p := ⟨w.heap.size, 2, none⟩) (show w.heap.size < w48.heap.size by omega)).trans hHeld.2.2
      refine hK.out _ _ ⟨z0, z1, z2⟩ (fun hHeld => ?_)
      clear hK K
      (try simp only [Act.put, List.setIfInBounds_toArray, List.set_cons_zero, List.set_cons_succ])
      have s5 := (Sw48.out).trans (hq.mono (Sw48.out).size)
      have r5 := (HRw48.out).below hq (Nat.le_refl _)
      have i5 := (HSw48.out).below hq (Nat.le_refl _)
      have y5 := (Rw48.out).keep hq
      have l5 : w.heap.size + 1 < w49.heap.size := y5.lt
      have Sw49 := Lib.hid s5; clear s5
      have HRw49 := Lib.hid r5; clear r5
      have HSw49 := Lib.hid i5; clear i5
      have Rw49 := Lib.hid y5; clear y5
      have a5 := (Aw48.out).keep hq
      have Aw49 := Lib.hid a5; clear a5
      clear hq z0 z1 z2
      refine wpAnyH_take (i := 9) (v := ?_) rfl (by kernel_rfl) (by kernel_rfl) (by kernel_rfl) (fun _ _ _ h => h) (Or.inl ⟨by rfl, ?_⟩) (by assumption) ?_
      rotate_left
      · (intro wS hSw; (try dsimp only at hSw); go_simp; (try with_reducible rfl))
      (try simp only [Act.put, List.setIfInBounds_toArray, List.set_cons_zero, List.set_cons_succ])
      refine wpAnyH_take (i := 10) (v := ?_) rfl (by kernel_rfl) (by kernel_rfl) (by kernel_rfl) (fun _ _ _ h => h) (Or.inl ⟨by rfl, ?_⟩) (by assumption) ?_
      rotate_left
      · (intro wS hSw; (try dsimp only at hSw); go_simp; (try with_reducible rfl))
      (try simp only [Act.put, List.setIfInBounds_toArray, List.set_cons_zero, List.set_cons_succ])
      refine wpAnyH_take (i := 11) (v := ?_) rfl (by kernel_rfl) (by kernel_rfl) (by kernel_rfl) (fun _ _ _ h => h) (Or.inl ⟨by rfl, ?_⟩) (by assumption) ?_
      rotate_left
      · (intro wS hSw; (try dsimp only at hSw); go_simp; (try with_reducible rfl))
      (try simp only [Act.put, List.setIfInBounds_toArray, List.set_cons_zero, List.set_cons_succ])
      refine wpAnyH_take (i := 12) (v := ?_) rfl (by kernel_rfl) (by kernel_rfl) (by kernel_rfl) (fun _ _ _ h => h) (Or.inl ⟨by rfl, ?_⟩) (by assumption) ?_
      rotate_left
      · (intro wS hSw; (try dsimp only at hSw); go_simp; (try with_reducible rfl))
      (try simp only [Act.put, List.setIfInBounds_toArray, List.set_cons_zero, List.set_cons_succ])
      have a0 := (Aw49.out).cell (j := 0) rfl
      have a1 := (Aw49.out).cell (j := 1) rfl
      have f0 := (Aw49.out).frozen 0
      have f1 := (Aw49.out).frozen 1
      have hne : ¬ ba = w.heap.size := by omega
      refine wpAnyH_ready (rs := [14]) (by kernel_rfl) (by simp) ?_
      refine AllReadyH.cons rfl (fun K hK => ?_) AllReadyH.nil
      go_simp
      refine hK.out _ _ ?_ (fun hHeld => ?_)
      · ((try dsimp only); go_keep)
      clear hK K
      (try simp only [Act.put, List.setIfInBounds_toArray, List.set_cons_zero, List.set_cons_succ])
      refine wpAnyH_take (i := 15) (v := ?_) rfl (by kernel_rfl) (by kernel_rfl) (by kernel_rfl) (fun _ _ _ h => h) (Or.inl ⟨by rfl, ?_⟩) (by assumption) ?_
      rotate_left
      · (intro wS hSw; (try dsimp only at hSw); go_simp; (try with_reducible rfl))
      (try simp only [Act.put, List.setIfInBounds_toArray, List.set_cons_zero, List.set_cons_succ])
      refine wpAnyH_take (i := 16) (v := ?_) rfl (by kernel_rfl) (by kernel_rfl) (by kernel_rfl) (fun _ _ _ h => h) (Or.inl ⟨by rfl, ?_⟩) (by assumption) ?_
      rotate_left
      · (intro wS hSw; (try dsimp only at hSw); go_simp; (try with_reducible rfl))
      (try simp only [Act.put, List.setIfInBounds_toArray, List.set_cons_zero, List.set_cons_succ])
      refine wpAnyH_done (by kernel_rfl) ?_ _
      (try simp only [List.getElem_toArray, List.getElem_cons_zero, List.getElem_cons_succ, Act.put, List.setIfInBounds_toArray, List.set_cons_zero, List.set_cons_succ])
      have az := ((Aw49.out).set 0 (.bool (ineg a))).set 1 (.string (imag a))
      have hkz : ∀ b, b ≠ ba → ((w49.setCell ⟨ba, 0, none⟩ (.bool (ineg a))).setCell ⟨ba, 1, none⟩ (.string (imag a))).heap[b]? = w49.heap[b]? := fun b h => (Below.heap_setCell _ _ _ b h).trans (Below.heap_setCell _ _ _ b h)
      have rz := (Rw49.out).of_block (hkz _ (by omega))
      have sz := ((Sw49.out).setCell (p := ⟨ba, 0, none⟩) (show w.heap.size ≤ ba by omega) (.bool (ineg a))).setCell (p := ⟨ba, 1, none⟩) (show w.heap.size ≤ ba by omega) (.string (imag a))
      obtain ⟨wz, hwz⟩ : ∃ wz, (w49.setCell ⟨ba, 0, none⟩ (.bool (ineg a))).setCell ⟨ba, 1, none⟩ (.string (imag a)) = wz := ⟨_, rfl⟩
      rw [hwz] at az rz sz ⊢
      clear hwz hkz hHeld a0 a1 f0 f1
      have a0 := az.cell (j := 0) rfl
      have a1 := az.cell (j := 1) rfl
      have r0 := rz.cell (j := 0) rfl
      have r1 := rz.cell (j := 1) rfl
      have f0 := rz.frozen 0
      have f1 := rz.frozen 1
      have SZ := Lib.hid sz; clear sz
      have AZ := Lib.hid az; clear az
      go_wp2_with fail
      refine bodyPost_ret (v := .tuple #[IntV a, .int .i64 t, .int .i64 0]) ?_ rfl ?_
      · have e0 := ((rz.set 0 (.bool (ineg a))).set 1 (.string (imag a))).cell (j := 0) rfl
        have e1 := ((rz.set 0 (.bool (ineg a))).set 1 (.string (imag a))).cell (j := 1) rfl
        simp [results, Try.results26, go_sem, e0, e1, IntV]
      · exact ⟨(SZ.out.setCell (p := ⟨w.heap.size + 1, 0, none⟩) (show w.heap.size ≤ w.heap.size + 1 by omega) _).setCell (p := ⟨w.heap.size + 1, 1, none⟩) (show w.heap.size ≤ w.heap.size + 1 by omega) _, rfl⟩
  · go_simp
    refine hK.out _ _ ?_ (fun hHeld => ?_)
    · ((try dsimp only); go_keep)
    clear hK K
    (try simp only [Act.put, List.setIfInBounds_toArray, List.set_cons_zero, List.set_cons_succ])
    have hbq : Below (w3.drew).heap.size (w3.drew) ((w3.drew).alloc (.cells #[.bool false, .string ⟨#[]⟩] 26)) := (Below.refl _ _).alloc (Nat.le_refl _) _
    have a5 := Blk.new (w3.drew) 26 [.bool false, .string ⟨#[]⟩]
    have g5 : (w3.drew).heap.size = w3.heap.size := rfl
    rw [g5] at a5
    have s5 := (S3.out.drew).trans (hbq.mono (S3.out.drew).size)
    have r5 := (HR3.out.drew).below hbq (Nat.le_refl _)
    have i5 := (HS3.out.drew).below hbq (Nat.le_refl _)
    have y5 := (E1.out.drew).keep hbq
    obtain ⟨ba, hba⟩ : ∃ ba, ba = w3.heap.size := ⟨_, rfl⟩
    have hane : w.heap.size + 1 < ba := by omega
    rw [← hba] at a5
    have e5 : (w3.drew).alloc (.cells #[.bool false, .string ⟨#[]⟩] 26) = (w3.alloc (.cells #[.bool false, .string ⟨#[]⟩] 26)).drew := rfl
    rw [e5] at a5 s5 r5 i5 y5 hbq
    obtain ⟨w410, hv5⟩ : ∃ w410, (w3.alloc (.cells #[.bool false, .string ⟨#[]⟩] 26)).drew = w410 := ⟨_, rfl⟩
    rw [hv5] at hHeld a5 s5 r5 i5 y5 hbq
    have l5 : w.heap.size + 1 < w410.heap.size := y5.lt
    have al5 := a5.lt
    have Sw410 := Lib.hid s5; clear s5
    have HRw410 := Lib.hid r5; clear r5
    have HSw410 := Lib.hid i5; clear i5
    have Rw410 := Lib.hid y5; clear y5
    have Aw410 := Lib.hid a5; clear a5
    have hpa : (Value.pointer (some ⟨w3.heap.size, 0, none⟩)) = Value.pointer (some ⟨ba, 0, none⟩) := by rw [hba]
    (try simp only [World.size_drew])
    rw [hv5]
    (try rw [hpa])
    clear hbq hv5 hba hpa g5 e5
    refine wpAnyH_ready (rs := [3]) (by kernel_rfl) (by simp) ?_
    refine AllReadyH.cons rfl (fun K hK => ?_) AllReadyH.nil
    go_simp
    go_at_call 60
    refine (in_blk _ _ _ _).mono ?_
    rintro e w411 ⟨hq, q, rfl, hqb⟩
    dsimp only
    have z0 := (hq.cell (p := ⟨w.heap.size, 0, none⟩) (show w.heap.size < w410.heap.size by omega)).trans hHeld.1
    have z1 := (hq.cell (p := ⟨w.heap.size, 1, none⟩) (show w.heap.size < w410.heap.size by omega)).trans hHeld.2.1
    have z2 := (hq.cell (p := ⟨w.heap.size, 2, none⟩) (show w.heap.size < w410.heap.size by omega)).trans hHeld.2.2
    refine hK.out _ _ ⟨z0, z1, z2⟩ (fun hHeld => ?_)
    clear hK K
    (try simp only [Act.put, List.setIfInBounds_toArray, List.set_cons_zero, List.set_cons_succ])
    have s5 := (Sw410.out).trans (hq.mono (Sw410.out).size)
    have r5 := (HRw410.out).below hq (Nat.le_refl _)
    have i5 := (HSw410.out).below hq (Nat.le_refl _)
    have y5 := (Rw410.out).keep hq
    have l5 : w.heap.size + 1 < w411.heap.size := y5.lt
    have Sw411 := Lib.hid s5; clear s5
    have HRw411 := Lib.hid r5; clear r5
    have HSw411 := Lib.hid i5; clear i5
    have Rw411 := Lib.hid y5; clear y5
    have Qw411 := Lib.hid hqb; clear hqb
    have a5 := (Aw410.out).keep hq
    have Aw411 := Lib.hid a5; clear a5
    clear hq z0 z1 z2
    refine wpAnyH_ready (rs := [5]) (by kernel_rfl) (by simp) ?_
    refine AllReadyH.cons rfl (fun K hK => ?_) AllReadyH.nil
    go_simp
    go_at_call 59
    refine (HTAB.out q _ (HRw411.out) (HSw411.out) (Qw411.out).lt ((Qw411.out).cell (j := 0) rfl)).mono ?_
    rintro e w412 ⟨hq, tv, rfl, htb⟩
    dsimp only
    have z0 := (hq.cell (p := ⟨w.heap.size, 0, none⟩) (show w.heap.size < w411.heap.size by omega)).trans hHeld.1
    have z1 := (hq.cell (p := ⟨w.heap.size, 1, none⟩) (show w.heap.size < w411.heap.size by omega)).trans hHeld.2.1
    have z2 := (hq.cell (p := ⟨w.heap.size, 2, none⟩) (show w.heap.size < w411.heap.size by omega)).trans hHeld.2.2
    refine hK.out _ _ ⟨z0, z1, z2⟩ (fun hHeld => ?_)
    clear hK K
    (try simp only [Act.put, List.setIfInBounds_toArray, List.set_cons_zero, List.set_cons_succ])
    have s5 := (Sw411.out).trans (hq.mono (Sw411.out).size)
    have r5 := (HRw411.out).below hq (Nat.le_refl _)
    have i5 := (HSw411.out).below hq (Nat.le_refl _)
    have y5 := (Rw411.out).keep hq
    have l5 : w.heap.size + 1 < w412.heap.size := y5.lt
    have Sw412 := Lib.hid s5; clear s5
    have HRw412 := Lib.hid r5; clear r5
    have HSw412 := Lib.hid i5; clear i5
    have Rw412 := Lib.hid y5; clear y5
    have t5 := htb.tab
    have Tw412 := Lib.hid t5; clear t5
    clear htb
    have a5 := (Aw411.out).keep hq
    have Aw412 := Lib.hid a5; clear a5
    clear hq z0 z1 z2
    refine wpAnyH_ready (rs := [8]) (by kernel_rfl) (by simp) ?_
    refine AllReadyH.cons rfl (fun K hK => ?_) AllReadyH.nil
    go_simp
    go_at_call 66
    refine (HRK.out _ _ (HRw412.out) Tw412.out).mono ?_
    rintro e w413 ⟨hq, rfl⟩
    dsimp only
    have z0 := (hq.cell (p := ⟨w.heap.size, 0, none⟩) (show w.heap.size < w412.heap.size by omega)).trans hHeld.1
    have z1 := (hq.cell (p := ⟨w.heap.size, 1, none⟩) (show w.heap.size < w412.heap.size by omega)).trans hHeld.2.1
    have z2 := (hq.cell (p := ⟨w.heap.size, 2, none⟩) (show w.heap.size < w412.heap.size by omega)).trans hHeld.2.2
    refine hK.out _ _ ⟨z0, z1, z2⟩ (fun hHeld => ?_)
    clear hK K
    (try simp only [Act.put, List.setIfInBounds_toArray, List.set_cons_zero, List.set_cons_succ])
    have s5 := (Sw412.out).trans (hq.mono (Sw412.out).size)
    have r5 := (HRw412.out).below hq (Nat.le_refl _)
    have i5 := (HSw412.out).below hq (Nat.le_refl _)
    have y5 := (Rw412.out).keep hq
    have l5 : w.heap.size + 1 < w413.heap.size := y5.lt
    have Sw413 := Lib.hid s5; clear s5
    have HRw413 := Lib.hid r5; clear r5
    have HSw413 := Lib.hid i5; clear i5
    have Rw413 := Lib.hid y5; clear y5
    have a5 := (Aw412.out).keep hq
    have Aw413 := Lib.hid a5; clear a5
    clear hq z0 z1 z2
    refine wpAnyH_take (i := 9) (v := ?_) rfl (by kernel_rfl) (by kernel_rfl) (by kernel_rfl) (fun _ _ _ h => h) (Or.inl ⟨by rfl, ?_⟩) (by assumption) ?_
    rotate_left
    · (intro wS hSw; (try dsimp only at hSw); go_simp; (try with_reducible rfl))
    (try simp only [Act.put, List.setIfInBounds_toArray, List.set_cons_zero, List.set_cons_succ])
    refine wpAnyH_take (i := 10) (v := ?_) rfl (by kernel_rfl) (by kernel_rfl) (by kernel_rfl) (fun _ _ _ h => h) (Or.inl ⟨by rfl, ?_⟩) (by assumption) ?_
    rotate_left
    · (intro wS hSw; (try dsimp only at hSw); go_simp; (try with_reducible rfl))
    (try simp only [Act.put, List.setIfInBounds_toArray, List.set_cons_zero, List.set_cons_succ])
    refine wpAnyH_take (i := 11) (v := ?_) rfl (by kernel_rfl) (by kernel_rfl) (by kernel_rfl) (fun _ _ _ h => h) (Or.inl ⟨by rfl, ?_⟩) (by assumption) ?_
    rotate_left
    · (intro wS hSw; (try dsimp only at hSw); go_simp; (try with_reducible rfl))
    (try simp only [Act.put, List.setIfInBounds_toArray, List.set_cons_zero, List.set_cons_succ])
    refine wpAnyH_take (i := 12) (v := ?_) rfl (by kernel_rfl) (by kernel_rfl) (by kernel_rfl) (fun _ _ _ h => h) (Or.inl ⟨by rfl, ?_⟩) (by assumption) ?_
    rotate_left
    · (intro wS hSw; (try dsimp only at hSw); go_simp; (try with_reducible rfl))
    (try simp only [Act.put, List.setIfInBounds_toArray, List.set_cons_zero, List.set_cons_succ])
    have a0 := (Aw413.out).cell (j := 0) rfl
    have a1 := (Aw413.out).cell (j := 1) rfl
    have f0 := (Aw413.out).frozen 0
    have f1 := (Aw413.out).frozen 1
    have hne : ¬ ba = w.heap.size := by omega
    refine wpAnyH_ready (rs := [14]) (by kernel_rfl) (by simp) ?_
    refine AllReadyH.cons rfl (fun K hK => ?_) AllReadyH.nil
    go_simp
    refine hK.out _ _ ?_ (fun hHeld => ?_)
    · ((try dsimp only); go_keep)
    clear hK K
    (try simp only [Act.put, List.setIfInBounds_toArray, List.set_cons_zero, List.set_cons_succ])
    refine wpAnyH_take (i := 15) (v := ?_) rfl (by kernel_rfl) (by kernel_rfl) (by kernel_rfl) (fun _ _ _ h => h) (Or.inl ⟨by rfl, ?_⟩) (by assumption) ?_
    rotate_left
    · (intro wS hSw; (try dsimp only at hSw); go_simp; (try with_reducible rfl))
    (try simp only [Act.put, List.setIfInBounds_toArray, List.set_cons_zero, List.set_cons_succ])
    refine wpAnyH_take (i := 16) (v := ?_) rfl (by kernel_rfl) (by kernel_rfl) (by kernel_rfl) (fun _ _ _ h => h) (Or.inl ⟨by rfl, ?_⟩) (by assumption) ?_
    rotate_left
    · (intro wS hSw; (try dsimp only at hSw); go_simp; (try with_reducible rfl))
    (try simp only [Act.put, List.setIfInBounds_toArray, List.set_cons_zero, List.set_cons_succ])
    refine wpAnyH_done (by kernel_rfl) ?_ _
    (try simp only [List.getElem_toArray, List.getElem_cons_zero, List.getElem_cons_succ, Act.put, List.setIfInBounds_toArray, List.set_cons_zero, List.set_cons_succ])
    have az := ((Aw413.out).set 0 (.bool (ineg a))).set 1 (.string (imag a))
    have hkz : ∀ b, b ≠ ba → ((w413.setCell ⟨ba, 0, none⟩ (.bool (ineg a))).setCell ⟨ba, 1, none⟩ (.string (imag a))).heap[b]? = w413.heap[b]? := fun b h => (Below.heap_setCell _ _ _ b h).trans (Below.heap_setCell _ _ _ b h)
    have rz := (Rw413.out).of_block (hkz _ (by omega))
    have sz := ((Sw413.out).setCell (p := ⟨ba, 0, none⟩) (show w.heap.size ≤ ba by omega) (.bool (ineg a))).setCell (p := ⟨ba, 1, none⟩) (show w.heap.size ≤ ba by omega) (.string (imag a))
    obtain ⟨wz, hwz⟩ : ∃ wz, (w413.setCell ⟨ba, 0, none⟩ (.bool (ineg a))).setCell ⟨ba, 1, none⟩ (.string (imag a)) = wz := ⟨_, rfl⟩
    rw [hwz] at az rz sz ⊢
    clear hwz hkz hHeld a0 a1 f0 f1
    have a0 := az.cell (j := 0) rfl
    have a1 := az.cell (j := 1) rfl
    have r0 := rz.cell (j := 0) rfl
    have r1 := rz.cell (j := 1) rfl
    have f0 := rz.frozen 0
    have f1 := rz.frozen 1
    have SZ := Lib.hid sz; clear sz
    have AZ := Lib.hid az; clear az
    go_wp2_with fail
    refine bodyPost_ret (v := .tuple #[IntV a, .int .i64 t, .int .i64 0]) ?_ rfl ?_
    · have e0 := ((rz.set 0 (.bool (ineg a))).set 1 (.string (imag a))).cell (j := 0) rfl
      have e1 := ((rz.set 0 (.bool (ineg a))).set 1 (.string (imag a))).cell (j := 1) rfl
      simp [results, Try.results26, go_sem, e0, e1, IntV]
    · exact ⟨(SZ.out.setCell (p := ⟨w.heap.size + 1, 0, none⟩) (show w.heap.size ≤ w.heap.size + 1 by omega) _).setCell (p := ⟨w.heap.size + 1, 1, none⟩) (show w.heap.size ≤ w.heap.size + 1 by omega) _, rfl⟩
end Go.Proofs.Ytalipfnbpnkgnaa

/- Of two numbers the lesser one has the lesser word, in plain Lean. -/
namespace Go.Proofs.Ytalipfnbpnkgnaa
open Go.RowKit

theorem less_irr : ∀ x : List UInt8, Op.bytesLess x x = false
  | [] => rfl
  | a :: x => by
    rw [Op.bytesLess, less_irr x]
    simp
theorem less_asym : ∀ {x y : List UInt8}, Op.bytesLess x y = true → Op.bytesLess y x = false
  | _, [], h => by simp [Op.bytesLess] at h
  | [], _ :: _, _ => rfl
  | a :: x, b :: y, h => by
    rw [Op.bytesLess] at h ⊢
    simp only [Bool.or_eq_true, decide_eq_true_eq, Bool.and_eq_true, beq_iff_eq] at h
    rcases h with h | ⟨rfl, h⟩
    · have h1 : a.toNat < b.toNat := UInt8.lt_iff_toNat_lt.1 h
      have h2 : ¬ b < a := fun h2 => by have := UInt8.lt_iff_toNat_lt.1 h2; omega
      have h3 : ¬ b = a := fun e => by rw [e] at h1; omega
      simp [h2, h3]
    · rw [less_asym h]; simp
theorem less_ne {x y : List UInt8} (h : Op.bytesLess x y = true) : ¬ x = y := fun e => by
  rw [e, less_irr] at h; cases h
theorem urGo_mono {es : List E3} {p : Int → Bool} {k : Nat} : ∀ {l : List E3} {a b a' b' : Int} {x y : E3}, AscL l → a < b → urGo es p k l a = (some x, a') → urGo es p k l b = (some y, b') → x.l < y.l ∨ x = y ∧ a' < b'
  | [], _, _, _, _, _, _, _, _, h, _ => by simp [urGo] at h
  | e :: l, a, b, a', b', x, y, hl, hab, h1, h2 => by
    obtain ⟨hp, hr⟩ := hl
    obtain ⟨hp1, hp2⟩ := List.pairwise_cons.1 hp
    rw [urGo] at h1 h2
    by_cases ca : a < cw es p k e.t
    · rw [if_pos ca] at h1
      obtain ⟨rfl, rfl⟩ : e = x ∧ a = a' := by simpa using h1
      by_cases cb : b < cw es p k e.t
      · rw [if_pos cb] at h2
        obtain ⟨rfl, rfl⟩ : e = y ∧ b = b' := by simpa using h2
        exact .inr ⟨rfl, hab⟩
      · rw [if_neg cb] at h2
        have hm := (urGo_mem (es := es) (p := p) (k := k) (l := l) (a := b - cw es p k e.t) (e := y) (by rw [h2])).1
        exact .inl (hp1 y hm)
    · rw [if_neg ca] at h1
      rw [if_neg (by omega)] at h2
      exact urGo_mono ⟨hp2, fun z hz => hr z (by simp [hz])⟩ (by omega) h1 h2
theorem ur_less {L S : Int} {es : List E3} (hE : eck L S es = 0) (p : Int → Bool) : ∀ (n : Nat) (s a b : Int), 0 ≤ a → a < b → b < cw es p n s → Op.bytesLess (ur es p n s a).1 (ur es p n s b).1 = true
  | 0, s, a, b, h0, h1, h2 => by
    rw [cw] at h2
    split at h2 <;> omega
  | n + 1, s, a, b, h0, h1, h2 => by
    have h2' := h2
    rw [cw_succ] at h2'
    have fa := urGo_found (es := es) (p := p) (k := n) (l := outE es s) (a := a) (by omega) h0
    have fb := urGo_found h2' (by omega)
    have ba := urGo_bd es p n (outE es s) a h0
    have bb' := urGo_bd es p n (outE es s) b (by omega)
    rw [ur, ur]
    rcases hu : urGo es p n (outE es s) a with ⟨_ | x, a'⟩
    · rw [hu] at fa; exact absurd rfl fa
    · rcases hv : urGo es p n (outE es s) b with ⟨_ | y, b'⟩
      · rw [hv] at fb; exact absurd rfl fb
      · have hA := outE_asc hE s
        have mx := urGo_mem (es := es) (p := p) (k := n) (l := outE es s) (a := a) (e := x) (by rw [hu])
        have my := urGo_mem (es := es) (p := p) (k := n) (l := outE es s) (a := b) (e := y) (by rw [hv])
        have hm := urGo_mono hA h1 hu hv
        rw [hu] at ba mx
        rw [hv] at bb' my
        dsimp only at ba bb' mx my ⊢
        rw [Op.bytesLess]
        rcases hm with hm | ⟨rfl, hm⟩
        · have := letL_lt (hA.2 x mx.1).1 hm (hA.2 y my.1).2
          simp [this]
        · rw [ur_less hE p n x.t a' b' ba.1 hm my.2]
          simp
/-- The order of the words is the order of the numbers. -/
theorem ur_lss {L S : Int} {es : List E3} (hE : eck L S es = 0) {p : Int → Bool} {n : Nat} {s a b : Int} (ha : 0 ≤ a) (ha1 : a < cw es p n s) (hb : 0 ≤ b) (hb1 : b < cw es p n s) :
    Op.bytesLess (ur es p n s a).1 (ur es p n s b).1 = decide (a < b) ∧ (!(Op.bytesLess (ur es p n s a).1 (ur es p n s b).1 || (ur es p n s a).1 == (ur es p n s b).1)) = decide (b < a) := by
  by_cases h : a < b
  · have h1 := ur_less hE p n s a b ha h hb1
    rw [h1]
    exact ⟨by simp [h], by simp; omega⟩
  · by_cases h2 : b < a
    · have h1 := ur_less hE p n s b a hb h2 ha1
      have h3 := less_asym h1
      have h4 : ((ur es p n s a).1 == (ur es p n s b).1) = false := by
        have := less_ne h1
        simp only [beq_eq_false_iff_ne, ne_eq]
        exact fun e => this e.symm
      rw [h3, h4]
      exact ⟨by simp; omega, by simp [h2]⟩
    · obtain rfl : a = b := by omega
      rw [less_irr]
      exact ⟨by simp, by simp⟩
theorem ur_mem {es : List E3} {p : Int → Bool} : ∀ (n : Nat) (s a : Int), ∀ c ∈ (ur es p n s a).1, ∃ e ∈ es, c = letL e.l
  | 0, s, a, c, h => by simp [ur] at h
  | n + 1, s, a, c, h => by
    rw [ur] at h
    rcases hu : urGo es p n (outE es s) a with ⟨_ | e, a'⟩
    · rw [hu] at h; exact ur_mem n s a' c h
    · rw [hu] at h
      have hm := (urGo_mem (es := es) (p := p) (k := n) (l := outE es s) (a := a) (e := e) (by rw [hu])).1
      rcases List.mem_cons.1 h with h | h
      · exact ⟨e, (List.mem_filter.1 hm).1, h⟩
      · exact ur_mem n e.t a' c h
theorem letL_is {L x : Int} (h0 : 0 ≤ x) (h1 : x < L) (h2 : L ≤ 16) : isLetter L.toNat (letL x) = true := by
  have h : ∀ (i : Fin 17) (j : Fin 16), j.val < i.val → isLetter i.val (letters.getD j.val 0) = true := by decide
  exact h ⟨L.toNat, by omega⟩ ⟨x.toNat, by omega⟩ (by show x.toNat < L.toNat; omega)
/-- Words with numbers are words over the letters. -/
theorem ur_ckw {L S : Int} {es : List E3} (hE : eck L S es = 0) (p : Int → Bool) (n : Nat) (hn : n ≤ 4096) (s a : Int) (ha : 0 ≤ a) (ha1 : a < cw es p n s) : ckw L (ur es p n s a).1 = 0 := by
  obtain ⟨hc, hL, hd⟩ := eck_zero hE
  have hca := chk_all hc
  have hl := ur_length n s a ha ha1
  have hw : wchk L (ur es p n s a).1 = 0 := by
    unfold wchk
    rw [if_neg (by omega), if_neg (by rw [hl]; omega), if_pos]
    rw [List.all_eq_true]
    intro c hcm
    obtain ⟨e, he, rfl⟩ := ur_mem n s a c hcm
    have := hca.2.2.2.2 e he
    unfold edgeBad at this
    exact letL_is (by omega) (by omega) (by omega)
  unfold ckw
  rw [hw, if_neg (by simp), if_neg (by rw [hl]; omega)]
end Go.Proofs.Ytalipfnbpnkgnaa

/- Streams and their blocks, plain. -/
namespace Go.Proofs.Ytalipfnbpnkgnaa
open Go.RowKit

theorem strm_pre {es : List E3} {p : Int → Bool} {n : Nat} : ∀ (l : List Int) (acc : List UInt8) (s : Int) (w : List UInt8) (t : Int), strm es p n acc s l = some (w, t) → ∃ r, w = acc ++ r ∧ r.length = l.length * n
  | [], acc, s, w, t, h => by
    rw [strm] at h
    simp only [Option.some.injEq, Prod.mk.injEq] at h
    exact ⟨[], by rw [h.1]; simp, by simp⟩
  | a :: r, acc, s, w, t, h => by
    by_cases hin : 0 ≤ a ∧ a < cw es p n s
    · rw [strm_yes hin.1 hin.2] at h
      obtain ⟨r2, h1, h2⟩ := strm_pre r _ _ w t h
      refine ⟨(ur es p n s a).1 ++ r2, by rw [h1, List.append_assoc], ?_⟩
      rw [List.length_append, ur_length n s a hin.1 hin.2, h2, List.length_cons, Nat.add_mul, Nat.one_mul, Nat.add_comm]
    · rw [strm_no hin] at h; cases h
/-- The first block of what is left of a stream. -/
theorem strm_step {es : List E3} {p : Int → Bool} {n : Nat} {a : Int} {r : List Int} {acc : List UInt8} {s : Int} {w : List UInt8} {t : Int} (h : strm es p n acc s (a :: r) = some (w, t)) :
    0 ≤ a ∧ a < cw es p n s ∧ strm es p n (acc ++ (ur es p n s a).1) (ur es p n s a).2 r = some (w, t) ∧ (w.drop acc.length).take n = (ur es p n s a).1 := by
  by_cases hin : 0 ≤ a ∧ a < cw es p n s
  · rw [strm_yes hin.1 hin.2] at h
    obtain ⟨r2, h1, h2⟩ := strm_pre r _ _ w t h
    refine ⟨hin.1, hin.2, h, ?_⟩
    rw [h1, List.append_assoc, List.drop_left]
    have := ur_length (es := es) (p := p) n s a hin.1 hin.2
    rw [List.take_left' this]
  · rw [strm_no hin] at h; cases h
theorem strm_nil {es : List E3} {p : Int → Bool} {n : Nat} {acc : List UInt8} {s : Int} {w : List UInt8} {t : Int} (h : strm es p n acc s [] = some (w, t)) : s = t := by
  rw [strm] at h
  simp only [Option.some.injEq, Prod.mk.injEq] at h
  exact h.2
theorem bytes_ext {w : List UInt8} {i j : Nat} (hij : i ≤ j) : (⟨w.toArray⟩ : ByteArray).extract i j = ⟨((w.drop i).take (j - i)).toArray⟩ := by
  apply ByteArray.ext
  rw [ByteArray.data_extract]
  apply Array.ext'
  simp [List.extract_eq_take_drop]
end Go.Proofs.Ytalipfnbpnkgnaa

/- Principal at powers of 2, and words over the letters of a graph, in plain Lean. -/
namespace Go.Proofs.Ytalipfnbpnkgnaa
open Go.RowKit

/-- At most as many edges leave a state as there are labels. -/
theorem deg_leL {L S : Int} {es : List E3} (h : eck L S es = 0) (s : Int) : (es.filter fun e => e.f == s).length ≤ L.toNat := by
  obtain ⟨hc, hL, hd⟩ := eck_zero h
  have hrng := (chk_all hc).2.2.2.2
  have hcl : chkL L S none es = 0 := by
    unfold chk at hc
    split at hc
    · cases hc
    · split at hc
      · cases hc
      · split at hc
        · cases hc
        · exact hc
  have hp := (det_sorted hcl hd).filter (fun e => e.f == s)
  have hm : ((es.filter fun e => e.f == s).map fun e => e.l).Pairwise (· < ·) := by
    rw [List.pairwise_map]
    refine hp.imp_of_mem fun {a b} ha hb hab => ?_
    have h1 : a.f = s := by simpa using (List.mem_filter.1 ha).2
    have h2 : b.f = s := by simpa using (List.mem_filter.1 hb).2
    unfold ltFL at hab
    omega
  have h3 := asc_length _ 0 L (fun x hx => by
    obtain ⟨e, he, rfl⟩ := List.mem_map.1 hx
    have := hrng e (List.mem_filter.1 he).1
    unfold edgeBad at this
    omega) hm
  rw [List.length_map] at h3
  omega
theorem cw_leL {L S : Int} {es : List E3} (h : eck L S es = 0) (p : Int → Bool) (n : Nat) (s : Int) : cw es p n s ≤ ((L.toNat ^ n : Nat) : Int) := cw_le es p L.toNat (deg_leL h) n s
/-- 2^q is at most the number of words, where there is a set for q bits. -/
theorem hasB_words {L : Int} {S : Nat} {es : List E3} (h : eck L (S : Int) es = 0) {n q : Nat} (hq : hasB S es n q = true) : 2 ^ q ≤ L.toNat ^ n := by
  rcases Nat.lt_or_ge (L.toNat ^ n) (2 ^ q) with h1 | h1
  · exfalso
    unfold hasB at hq
    rw [prin_empty (fun p s => by have := cw_leL h p n s; omega)] at hq
    cases hq
  · exact h1
theorem pow_four {L n : Nat} (hL : L ≤ 4) (hn : n ≤ 8) {q : Nat} (h : 2 ^ q ≤ L ^ n) : q ≤ 16 := by
  have h1 : L ^ n ≤ 4 ^ n := Nat.pow_le_pow_left hL n
  have h2 : 4 ^ n ≤ 4 ^ 8 := Nat.pow_le_pow_right (by decide) hn
  rcases Nat.lt_or_ge 16 q with h3 | h3
  · have h4 : 2 ^ 17 ≤ 2 ^ q := Nat.pow_le_pow_right (by decide) h3
    have h5 : (4 : Nat) ^ 8 = 65536 := by decide
    have h6 : (2 : Nat) ^ 17 = 131072 := by decide
    omega
  · exact h3
/-- Principal's error at 2^q. -/
theorem prcP_pow {L : Int} {S n q : Nat} {es : List E3} (h : eck L (S : Int) es = 0) (hn : n ≤ 4096) : (prcP L (S : Int) es (n : Int) (ineg ((2 ^ q : Nat) : Int)) (imag ((2 ^ q : Nat) : Int))).2 = if hasB S es n q = true then 0 else 15 := by
  have hc : cnB (ineg ((2 ^ q : Nat) : Int)) (imag ((2 ^ q : Nat) : Int)) = true := (cnB_iff _ _).2 (by rw [ival_canon]; exact ⟨rfl, rfl⟩)
  have hp : 0 < 2 ^ q := Nat.pow_pos (by decide)
  unfold prcP
  rw [if_neg (by simp [h]), if_neg (by omega), hc, if_neg (by simp), ival_canon, if_neg (by omega)]
  rw [Int.toNat_natCast, Int.toNat_natCast]
  by_cases hb : prin es n ((2 ^ q : Nat) : Int) (uptoZ S) = []
  · rw [if_pos hb]
    have : hasB S es n q = false := by unfold hasB; rw [hb]; rfl
    rw [this]; rfl
  · rw [if_neg hb]
    have : hasB S es n q = true := by
      unfold hasB
      rw [decide_eq_true_iff]
      exact List.length_pos_iff.2 hb
    rw [this]; rfl
end Go.Proofs.Ytalipfnbpnkgnaa

/- The law EnumerativeBits. -/
namespace Go.Proofs.Ytalipfnbpnkgnaa
open Go.RowKit

theorem ipow4_any (l N : Nat) (w : World) (hl : l ≤ 4) (hN : N ≤ 8) : Calls Try.prog 19 #[IntV (l : Int), .int .i64 (N : Int)] w (Ret w (.tuple #[IntV ((l ^ N : Nat) : Int), .int .i64 0])) := by
  have hb : ∀ x : Fin 5, 0 ≤ lenB x.val ∧ lenB x.val ≤ 3 := by decide +kernel
  have h1 := hb ⟨l, by omega⟩
  dsimp only at h1
  refine ipower_any l N w ?_ (by omega) ?_ ⟨h1.1, by omega⟩ (fun e he => ?_)
  · rw [imag_size]
    refine Nat.le_trans (bb_length_le (m := 1) ?_) (by decide)
    rw [Nat.pow_one]; omega
  · have : (N : Int) * lenB l ≤ (N : Int) * 3 := Int.mul_le_mul_of_nonneg_left h1.2 (by omega)
    omega
  · refine Nat.le_trans (dg_length_le (m := e + 1) ?_) (by omega)
    have h2 : l ^ e ≤ 4294967296 ^ e := Nat.pow_le_pow_left (by omega) e
    have h3 : 4294967296 ^ e < 4294967296 ^ (e + 1) := Nat.pow_lt_pow_right (by decide) (by omega)
    omega
theorem pow17 {q : Nat} (h : q ≤ 17) : 2 ^ q ≤ 131072 := Nat.le_trans (Nat.pow_le_pow_right (by decide) h) (by decide)
theorem pow_rng {q : Nat} (h : q ≤ 17) : -9223372036854775808 ≤ ((2 ^ q : Nat) : Int) ∧ ((2 ^ q : Nat) : Int) ≤ 9223372036854775807 :=
  ⟨Int.le_trans (by decide) (Int.natCast_nonneg _), Int.le_trans (Int.ofNat_le.2 (pow17 h)) (by decide)⟩
theorem small_nat {x : Nat} (h : x ≤ 1000000) : small (x : Int) := small_of (m := 3) (by rw [Int.natAbs_natCast]; have : (256:Nat)^3 = 16777216 := by decide
                                                                                         omega) (by omega)

set_option maxRecDepth 100000 in
set_option maxHeartbeats 3200000 in
theorem lbits_bad (L S : Int) (es : List E3) (v : Value) (nn : Nat) (w : World) (hr : Row w v es.length (ce es)) (hok : okEs es) (hnn : nn ≤ 255) (hF : ¬ FineP L S es) :
    Calls Try.prog 4 #[.agg #[.int .i64 L, .int .i64 S, v], .int .u8 (nn : Int)] w (Ret w (.bool true)) := by
  obtain ⟨va, vc, rfl, hle⟩ := hr.slice
  obtain ⟨mm, hmm⟩ : ∃ mm, mm = es.length := ⟨_, rfl⟩
  have s0 := (Below.refl w.heap.size w).alloc (Nat.le_refl _) (.cells #[.int .i64 L, .int .i64 S, .slice va es.length vc] 24)
  have b0 := Blk.new w 24 [.int .i64 L, .int .i64 S, .slice va es.length vc]
  have hr0 := hr.below s0 (Nat.le_refl _)
  have hfi := fine_any L S es _ _ hr0 hok
  have haw := awake29_true
  rw [← hmm] at s0 b0 hr0 hfi
  have HMM := Lib.hid hmm; clear hmm
  have HFI := Lib.hid hfi; clear hfi
  have HAW := Lib.hid haw; clear haw
  have S0 := Lib.hid s0; clear s0
  have B0 := Lib.hid b0; clear b0
  have HR := Lib.hid hr0; clear hr0
  clear hr
  go_enter Try.func4, Try.ntmps4
  rw [← HMM.out]
  go_wp2_with fail
  go_at_call 17
  refine HFI.out.mono ?_
  rintro e w1 ⟨hq, b, rfl, hb⟩
  have s1 := S0.out.trans (hq.mono S0.out.size)
  have hr1 := HR.out.below hq (Nat.le_refl _)
  have tk := B0.out.keep hq; have x0 := tk.cell (j := 0) rfl; have x1 := tk.cell (j := 1) rfl; have x2 := tk.cell (j := 2) rfl; have C0 := Lib.hid tk; clear tk
  have S1 := Lib.hid s1; clear s1
  have HR1 := Lib.hid hr1; clear hr1
  clear hq
  cases b with
  | false =>
    go_wp2_with fail
    go_at_call 11
    refine (HAW.out _).mono ?_
    rintro e w2 ⟨hq, rfl⟩
    have HQ := Lib.hid hq; clear hq
    go_wp2_with fail
    go_ret
    exact ⟨S1.out.trans (HQ.out.mono S1.out.size), rfl⟩
  | true => exact absurd (hb rfl) hF
set_option maxRecDepth 100000 in
set_option maxHeartbeats 3200000 in
theorem lbits_none (l k N : Nat) (es : List E3) (v : Value) (nn : Nat) (w : World) (hr : Row w v es.length (ce es)) (hok : okEs es) (hnn : nn ≤ 255) (hE : eck (l : Int) (k : Int) es = 0) (hl4 : l ≤ 4) (hN : N = 1 + nn % 8) (h0 : hasB k es N 0 = false) :
    Calls Try.prog 4 #[.agg #[.int .i64 (l : Int), .int .i64 (k : Int), v], .int .u8 (nn : Int)] w (Ret w (.bool true)) := by
  have hN1 : 1 ≤ N := by omega
  have hN8 : N ≤ 8 := by omega
  obtain ⟨va, vc, rfl, hle⟩ := hr.slice
  obtain ⟨mm, hmm⟩ : ∃ mm, mm = es.length := ⟨_, rfl⟩
  have s0 := (Below.refl w.heap.size w).alloc (Nat.le_refl _) (.cells #[.int .i64 (l : Int), .int .i64 (k : Int), .slice va es.length vc] 24)
  have b0 := Blk.new w 24 [.int .i64 (l : Int), .int .i64 (k : Int), .slice va es.length vc]
  have hr0 := hr.below s0 (Nat.le_refl _)
  have hfi := fine_any (l : Int) (k : Int) es _ _ hr0 hok
  have haw := awake29_true
  rw [← hmm] at s0 b0 hr0 hfi
  have HMM := Lib.hid hmm; clear hmm
  have HFI := Lib.hid hfi; clear hfi
  have HAW := Lib.hid haw; clear haw
  have S0 := Lib.hid s0; clear s0
  have B0 := Lib.hid b0; clear b0
  have HR := Lib.hid hr0; clear hr0
  have hNz : (1 + (nn : Int) % 8) = (N : Int) := by omega
  clear hN
  have hprq := fun (q : Nat) (hq : q ≤ 17) v' w' (h : Row w' v' es.length (ce es)) => eprc_any (l : Int) (k : Int) es v' (N : Int) (ineg ((2 ^ q : Nat) : Int)) (imag ((2 ^ q : Nat) : Int)) w' h hok (by
    have := small_nat (x := 2 ^ q) (by have := pow17 hq; omega)
    exact this)
  simp only [prcP_pow hE (show N ≤ 4096 by omega)] at hprq
  have hofq := fun (q : Nat) (hq : q ≤ 17) w' => iof_any ((2 ^ q : Nat) : Int) w' (pow_rng hq).1 (pow_rng hq).2
  have HNZ := Lib.hid hNz; clear hNz
  have hbi := fun v' w' (h : Row w' v' es.length (ce es)) => ebits_ok (l : Int) k N es v' w' h hok hE hN1 (by omega) 0 15 (.inl ⟨h0, rfl, rfl⟩)
  have hpr := fun v' w' h => hprq 0 (by omega) v' w' h
  have hof := fun w' => hofq 0 (by omega) w'
  simp only [h0, Bool.false_eq_true, if_false] at hpr
  simp only [Nat.pow_zero, Int.natCast_one] at hpr hof
  rw [← HMM.out] at hbi hpr
  have HBI := Lib.hid hbi; clear hbi
  have HPR := Lib.hid hpr; clear hpr
  have HOF := Lib.hid hof; clear hof
  clear hprq hofq hE h0 hok
  clear hr
  go_enter Try.func4, Try.ntmps4
  rw [← HMM.out]
  go_wp2_with fail
  go_at_call 17
  refine HFI.out.mono ?_
  rintro e w1 ⟨hq, b, rfl, hb⟩
  have s1 := S0.out.trans (hq.mono S0.out.size)
  have hr1 := HR.out.below hq (Nat.le_refl _)
  have tk := B0.out.keep hq; have x0 := tk.cell (j := 0) rfl; have x1 := tk.cell (j := 1) rfl; have x2 := tk.cell (j := 2) rfl; have C0 := Lib.hid tk; clear tk
  have S1 := Lib.hid s1; clear s1
  have HR1 := Lib.hid hr1; clear hr1
  clear hq
  cases b with
  | false =>
    go_wp2_with fail
    go_at_call 11
    refine (HAW.out _).mono ?_
    rintro e w2 ⟨hq, rfl⟩
    have HQ := Lib.hid hq; clear hq
    go_wp2_with fail
    go_ret
    exact ⟨S1.out.trans (HQ.out.mono S1.out.size), rfl⟩
  | true =>
    go_wp2_with fail
    rw [HNZ.out]
    go_at_call 14
    refine (HBI.out _ _ HR1.out).mono ?_
    rintro e w2 ⟨hq, rfl⟩
    have s2 := S1.out.trans (hq.mono S1.out.size)
    have hr2 := HR1.out.below hq (Nat.le_refl _)
    clear x0 x1 x2
    have tk := C0.out.keep hq; have x0 := tk.cell (j := 0) rfl; have x1 := tk.cell (j := 1) rfl; have x2 := tk.cell (j := 2) rfl; have D0 := Lib.hid tk; clear tk
    have S2 := Lib.hid s2; clear s2
    have HR2 := Lib.hid hr2; clear hr2
    clear hq
    go_wp2_with fail
    refine wp_region_held_drew (S := fun w' => w'.cell? ⟨w.heap.size, 0, none⟩ = some (.int .i64 (l : Int)) ∧ w'.cell? ⟨w.heap.size, 1, none⟩ = some (.int .i64 (k : Int)) ∧ w'.cell? ⟨w.heap.size, 2, none⟩ = some (.slice va mm vc)) (by kernel_rfl) ?_ (fun hHeld => ?_)
    · go_keep
    refine wpAnyH_take (i := 0) (v := ?_) rfl (by kernel_rfl) (by kernel_rfl) (by kernel_rfl) (fun _ _ _ h => h) (Or.inl ⟨by rfl, ?_⟩) (by assumption) ?_
    rotate_left
    · (intro wS hSw; (try dsimp only at hSw); go_simp; (try with_reducible rfl))
    (try simp only [Act.put, List.setIfInBounds_toArray, List.set_cons_zero, List.set_cons_succ])
    refine wpAnyH_take (i := 1) (v := ?_) rfl (by kernel_rfl) (by kernel_rfl) (by kernel_rfl) (fun _ _ _ h => h) (Or.inl ⟨by rfl, ?_⟩) (by assumption) ?_
    rotate_left
    · (intro wS hSw; (try dsimp only at hSw); go_simp; (try with_reducible rfl))
    (try simp only [Act.put, List.setIfInBounds_toArray, List.set_cons_zero, List.set_cons_succ])
    refine wpAnyH_ready (rs := [2]) (by kernel_rfl) (by simp) ?_
    refine AllReadyH.cons rfl (fun K hK => ?_) AllReadyH.nil
    go_simp
    go_at_call 18
    refine (HOF.out _).mono ?_
    rintro e w3 ⟨hq, rfl⟩
    dsimp only
    have z0 := (hq.cell (p := ⟨w.heap.size, 0, none⟩) (show w.heap.size < w2.heap.size from D0.out.lt)).trans hHeld.1
    have z1 := (hq.cell (p := ⟨w.heap.size, 1, none⟩) (show w.heap.size < w2.heap.size from D0.out.lt)).trans hHeld.2.1
    have z2 := (hq.cell (p := ⟨w.heap.size, 2, none⟩) (show w.heap.size < w2.heap.size from D0.out.lt)).trans hHeld.2.2
    refine hK.out _ _ ⟨z0, z1, z2⟩ (fun hHeld2 => ?_)
    clear hK K hHeld
    (try simp only [Act.put, List.setIfInBounds_toArray, List.set_cons_zero, List.set_cons_succ])
    have s5 := S2.out.drew.trans (hq.mono S2.out.size)
    have b5 := D0.out.drew.keep hq
    have r5 := HR2.out.drew.below hq (Nat.le_refl _)
    have S5a := Lib.hid s5; clear s5
    have B5a := Lib.hid b5; clear b5
    have R5a := Lib.hid r5; clear r5
    clear hq x0 x1 x2
    refine wpAnyH_ready (rs := [3]) (by kernel_rfl) (by simp) ?_
    refine AllReadyH.cons rfl (fun K hK => ?_) AllReadyH.nil
    go_simp
    go_at_call 12
    refine (HPR.out _ _ R5a.out).mono ?_
    rintro e w4 ⟨hq, vl, rfl, -⟩
    dsimp only
    have z3 := (hq.cell (p := ⟨w.heap.size, 0, none⟩) (show w.heap.size < w3.heap.size from B5a.out.lt)).trans z0
    have z4 := (hq.cell (p := ⟨w.heap.size, 1, none⟩) (show w.heap.size < w3.heap.size from B5a.out.lt)).trans z1
    have z5 := (hq.cell (p := ⟨w.heap.size, 2, none⟩) (show w.heap.size < w3.heap.size from B5a.out.lt)).trans z2
    refine hK.out _ _ ⟨z3, z4, z5⟩ (fun hHeld3 => ?_)
    clear hK K hHeld2
    (try simp only [Act.put, List.setIfInBounds_toArray, List.set_cons_zero, List.set_cons_succ])
    have s6 := S5a.out.trans (hq.mono S5a.out.size)
    have b6 := B5a.out.keep hq
    have r6 := R5a.out.below hq (Nat.le_refl _)
    have x0 := b6.cell (j := 0) rfl
    have x1 := b6.cell (j := 1) rfl
    have x2 := b6.cell (j := 2) rfl
    have S4 := Lib.hid s6; clear s6
    have E0 := Lib.hid b6; clear b6
    have HR4 := Lib.hid r6; clear r6
    clear hq z0 z1 z2 z3 z4 z5
    refine wpAnyH_take (i := 4) (v := ?_) rfl (by kernel_rfl) (by kernel_rfl) (by kernel_rfl) (fun _ _ _ h => h) (Or.inl ⟨by rfl, ?_⟩) (by assumption) ?_
    rotate_left
    · (intro wS hSw; (try dsimp only at hSw); go_simp; (try with_reducible rfl))
    (try simp only [Act.put, List.setIfInBounds_toArray, List.set_cons_zero, List.set_cons_succ])
    refine wpAnyH_take (i := 5) (v := ?_) rfl (by kernel_rfl) (by kernel_rfl) (by kernel_rfl) (fun _ _ _ h => h) (Or.inl ⟨by rfl, ?_⟩) (by assumption) ?_
    rotate_left
    · (intro wS hSw; (try dsimp only at hSw); go_simp; (try with_reducible rfl))
    (try simp only [Act.put, List.setIfInBounds_toArray, List.set_cons_zero, List.set_cons_succ])
    refine wpAnyH_take (i := 6) (v := ?_) rfl (by kernel_rfl) (by kernel_rfl) (by kernel_rfl) (fun _ _ _ h => h) (Or.inl ⟨by rfl, ?_⟩) (by assumption) ?_
    rotate_left
    · (intro wS hSw; (try dsimp only at hSw); go_simp; (try with_reducible rfl))
    (try simp only [Act.put, List.setIfInBounds_toArray, List.set_cons_zero, List.set_cons_succ])
    refine wpAnyH_take (i := 7) (v := ?_) rfl (by kernel_rfl) (by kernel_rfl) (by kernel_rfl) (fun _ _ _ h => h) (Or.inl ⟨by rfl, ?_⟩) (by assumption) ?_
    rotate_left
    · (intro wS hSw; (try dsimp only at hSw); go_simp; (try with_reducible rfl))
    (try simp only [Act.put, List.setIfInBounds_toArray, List.set_cons_zero, List.set_cons_succ])
    refine wpAnyH_take (i := 8) (v := ?_) rfl (by kernel_rfl) (by kernel_rfl) (by kernel_rfl) (fun _ _ _ h => h) (Or.inl ⟨by rfl, ?_⟩) (by assumption) ?_
    rotate_left
    · (intro wS hSw; (try dsimp only at hSw); go_simp; (try with_reducible rfl))
    (try simp only [Act.put, List.setIfInBounds_toArray, List.set_cons_zero, List.set_cons_succ])
    refine wpAnyH_done (by kernel_rfl) ?_ _
    (try simp only [List.getElem_toArray, List.getElem_cons_zero, List.getElem_cons_succ, Act.put, List.setIfInBounds_toArray, List.set_cons_zero, List.set_cons_succ])
    clear hHeld3
    go_wp2_with fail
    go_at_call 11
    refine (HAW.out _).mono ?_
    rintro e w5 ⟨hq, rfl⟩
    have HQ := Lib.hid hq; clear hq
    go_wp2_with fail
    go_ret
    exact ⟨S4.out.trans (HQ.out.mono S4.out.size), rfl⟩
set_option maxRecDepth 100000 in
set_option maxHeartbeats 3200000 in
theorem lbits_some (l k N : Nat) (es : List E3) (v : Value) (nn : Nat) (w : World) (hr : Row w v es.length (ce es)) (hok : okEs es) (hnn : nn ≤ 255) (hE : eck (l : Int) (k : Int) es = 0) (hl4 : l ≤ 4) (hN : N = 1 + nn % 8) (p : Nat) (hp4 : p < 4 * N + 1) (hpm : ∀ m, hasB k es N m = decide (m ≤ p)) :
    Calls Try.prog 4 #[.agg #[.int .i64 (l : Int), .int .i64 (k : Int), v], .int .u8 (nn : Int)] w (Ret w (.bool true)) := by
  have hN1 : 1 ≤ N := by omega
  have hN8 : N ≤ 8 := by omega
  obtain ⟨va, vc, rfl, hle⟩ := hr.slice
  obtain ⟨mm, hmm⟩ : ∃ mm, mm = es.length := ⟨_, rfl⟩
  have s0 := (Below.refl w.heap.size w).alloc (Nat.le_refl _) (.cells #[.int .i64 (l : Int), .int .i64 (k : Int), .slice va es.length vc] 24)
  have b0 := Blk.new w 24 [.int .i64 (l : Int), .int .i64 (k : Int), .slice va es.length vc]
  have hr0 := hr.below s0 (Nat.le_refl _)
  have hfi := fine_any (l : Int) (k : Int) es _ _ hr0 hok
  have haw := awake29_true
  rw [← hmm] at s0 b0 hr0 hfi
  have HMM := Lib.hid hmm; clear hmm
  have HFI := Lib.hid hfi; clear hfi
  have HAW := Lib.hid haw; clear haw
  have S0 := Lib.hid s0; clear s0
  have B0 := Lib.hid b0; clear b0
  have HR := Lib.hid hr0; clear hr0
  have hNz : (1 + (nn : Int) % 8) = (N : Int) := by omega
  clear hN
  have hprq := fun (q : Nat) (hq : q ≤ 17) v' w' (h : Row w' v' es.length (ce es)) => eprc_any (l : Int) (k : Int) es v' (N : Int) (ineg ((2 ^ q : Nat) : Int)) (imag ((2 ^ q : Nat) : Int)) w' h hok (by
    have := small_nat (x := 2 ^ q) (by have := pow17 hq; omega)
    exact this)
  simp only [prcP_pow hE (show N ≤ 4096 by omega)] at hprq
  have hofq := fun (q : Nat) (hq : q ≤ 17) w' => iof_any ((2 ^ q : Nat) : Int) w' (pow_rng hq).1 (pow_rng hq).2
  have HNZ := Lib.hid hNz; clear hNz
  have hbp : hasB k es N p = true := by rw [hpm]; simp
  have hbp1 : hasB k es N (p + 1) = false := by rw [hpm]; simp
  have hwd := hasB_words hE hbp
  rw [Int.toNat_natCast] at hwd
  have hp16 := pow_four hl4 hN8 hwd
  have hbi := fun v' w' (h : Row w' v' es.length (ce es)) => ebits_ok (l : Int) k N es v' w' h hok hE hN1 (by omega) (p : Int) 0 (.inr ⟨p, rfl, rfl, hp4, hpm⟩)
  have hpr := fun v' w' h => hprq p (by omega) v' w' h
  have hof := fun w' => hofq p (by omega) w'
  have hpr1 := fun v' w' h => hprq (p + 1) (by omega) v' w' h
  have hof1 := fun w' => hofq (p + 1) (by omega) w'
  simp only [hbp, if_true] at hpr
  simp only [hbp1, Bool.false_eq_true, if_false] at hpr1
  rw [← HMM.out] at hbi hpr hpr1
  have hofl := fun w' => iof_any (l : Int) w' (by omega) (by omega)
  have hpow := fun w' => ipow4_any l N w' hl4 hN8
  have hlN : l ^ N ≤ 65536 := Nat.le_trans (Nat.pow_le_pow_left hl4 N) (Nat.le_trans (Nat.pow_le_pow_right (by decide) hN8) (by decide))
  have hcmp := fun w' => icompare_any (ineg ((2 ^ p : Nat) : Int)) (ineg ((l ^ N : Nat) : Int)) (imag ((2 ^ p : Nat) : Int)) (imag ((l ^ N : Nat) : Int)) w' (small_nat (by have := pow17 (q := p) (by omega); omega)) (small_nat (by omega))
  simp only [ival_canon] at hcmp
  obtain ⟨z, hz⟩ : ∃ z, z = cmpZ ((2 ^ p : Nat) : Int) ((l ^ N : Nat) : Int) := ⟨_, rfl⟩
  rw [← hz] at hcmp
  have hzle : z ≤ 0 := by
    have h := cmpZ_neg ((l ^ N : Nat) : Int) ((2 ^ p : Nat) : Int)
    have h2 : ¬ ((l ^ N : Nat) : Int) < ((2 ^ p : Nat) : Int) := by omega
    rw [hz]
    unfold cmpZ
    split
    · decide
    · split
      · decide
      · omega
  have tz : decide (z ≤ 0) = true := by simpa using hzle
  obtain ⟨P1, hP1⟩ : ∃ P1, P1 = ((2 ^ p : Nat) : Int) := ⟨_, rfl⟩
  obtain ⟨P2, hP2⟩ : ∃ P2, P2 = ((2 ^ (p + 1) : Nat) : Int) := ⟨_, rfl⟩
  obtain ⟨WN, hWN⟩ : ∃ WN, WN = ((l ^ N : Nat) : Int) := ⟨_, rfl⟩
  rw [← hP1] at hpr hof hcmp
  rw [← hP2] at hpr1 hof1
  rw [← hWN] at hpow hcmp
  have hp17 := pow17 (q := p + 1) (by omega)
  have hsh1 : IntKind.i64.wrap ((2 : Int) ^ p) = P1 := by
    rw [hP1, show (2 : Int) ^ p = ((2 ^ p : Nat) : Int) by simp]
    exact IntWalk.i64_in _ (pow_rng (by omega))
  have hsh2 : IntKind.i64.wrap ((2 : Int) * (2 : Int) ^ p) = P2 := by
    have e : (2 : Int) * (2 : Int) ^ p = ((2 ^ (p + 1) : Nat) : Int) := by rw [Int.natCast_pow, Int.pow_succ, Int.mul_comm]; rfl
    rw [e, hP2]
    exact IntWalk.i64_in _ (pow_rng (by omega))
  have tp0 : decide ((p : Int) < 0) = false := decide_eq_false (by omega)
  have tp16 : decide (16 < (p : Int)) = false := decide_eq_false (by omega)
  have tpn : (0 : Int) ≤ (p : Int) := by omega
  have HBI := Lib.hid hbi; clear hbi
  have HPR := Lib.hid hpr; clear hpr
  have HOF := Lib.hid hof; clear hof
  have HPR1 := Lib.hid hpr1; clear hpr1
  have HOF1 := Lib.hid hof1; clear hof1
  have HOFL := Lib.hid hofl; clear hofl
  have HPOW := Lib.hid hpow; clear hpow
  have HCMP := Lib.hid hcmp; clear hcmp
  have HPM := Lib.hid hpm; clear hpm
  clear hprq hofq hE hok hbp hbp1 hwd hz hzle hP1 hP2 hWN hlN
  clear hr
  go_enter Try.func4, Try.ntmps4
  rw [← HMM.out]
  go_wp2_with fail
  go_at_call 17
  refine HFI.out.mono ?_
  rintro e w1 ⟨hq, b, rfl, hb⟩
  have s1 := S0.out.trans (hq.mono S0.out.size)
  have hr1 := HR.out.below hq (Nat.le_refl _)
  have tk := B0.out.keep hq; have x0 := tk.cell (j := 0) rfl; have x1 := tk.cell (j := 1) rfl; have x2 := tk.cell (j := 2) rfl; have C0 := Lib.hid tk; clear tk
  have S1 := Lib.hid s1; clear s1
  have HR1 := Lib.hid hr1; clear hr1
  clear hq
  cases b with
  | false =>
    go_wp2_with fail
    go_at_call 11
    refine (HAW.out _).mono ?_
    rintro e w2 ⟨hq, rfl⟩
    have HQ := Lib.hid hq; clear hq
    go_wp2_with fail
    go_ret
    exact ⟨S1.out.trans (HQ.out.mono S1.out.size), rfl⟩
  | true =>
    go_wp2_with fail
    rw [HNZ.out]
    go_at_call 14
    refine (HBI.out _ _ HR1.out).mono ?_
    rintro e w2 ⟨hq, rfl⟩
    have s2 := S1.out.trans (hq.mono S1.out.size)
    have hr2 := HR1.out.below hq (Nat.le_refl _)
    clear x0 x1 x2
    have tk := C0.out.keep hq; have x0 := tk.cell (j := 0) rfl; have x1 := tk.cell (j := 1) rfl; have x2 := tk.cell (j := 2) rfl; have D0 := Lib.hid tk; clear tk
    have S2 := Lib.hid s2; clear s2
    have HR2 := Lib.hid hr2; clear hr2
    clear hq
    go_wp2_with fail
    refine wp_region_held_drew (S := fun w' => w'.cell? ⟨w.heap.size, 0, none⟩ = some (.int .i64 (l : Int)) ∧ w'.cell? ⟨w.heap.size, 1, none⟩ = some (.int .i64 (k : Int)) ∧ w'.cell? ⟨w.heap.size, 2, none⟩ = some (.slice va mm vc)) (by kernel_rfl) ?_ (fun hHeld => ?_)
    · go_keep
    refine wpAnyH_take (i := 0) (v := ?_) rfl (by kernel_rfl) (by kernel_rfl) (by kernel_rfl) (fun _ _ _ h => h) (Or.inl ⟨by rfl, ?_⟩) (by assumption) ?_
    rotate_left
    · (intro wS hSw; (try dsimp only at hSw); go_simp; (try with_reducible rfl))
    (try simp only [Act.put, List.setIfInBounds_toArray, List.set_cons_zero, List.set_cons_succ])
    refine wpAnyH_take (i := 1) (v := ?_) rfl (by kernel_rfl) (by kernel_rfl) (by kernel_rfl) (fun _ _ _ h => h) (Or.inl ⟨by rfl, ?_⟩) (by assumption) ?_
    rotate_left
    · (intro wS hSw; (try dsimp only at hSw); go_simp; (try with_reducible rfl))
    (try simp only [Act.put, List.setIfInBounds_toArray, List.set_cons_zero, List.set_cons_succ])
    refine wpAnyH_take (i := 2) (v := ?_) rfl (by kernel_rfl) (by kernel_rfl) (by kernel_rfl) (fun _ _ _ h => h) (Or.inl ⟨by rfl, ?_⟩) (by assumption) ?_
    rotate_left
    · (intro wS hSw; (try dsimp only at hSw); go_simp; (try with_reducible rfl))
    (try simp only [Act.put, List.setIfInBounds_toArray, List.set_cons_zero, List.set_cons_succ])
    refine wpAnyH_take (i := 3) (v := ?_) rfl (by kernel_rfl) (by kernel_rfl) (by kernel_rfl) (fun _ _ _ h => h) (Or.inl ⟨by rfl, ?_⟩) (by assumption) ?_
    rotate_left
    · (intro wS hSw; (try dsimp only at hSw); go_simp; (try with_reducible rfl))
    (try simp only [Act.put, List.setIfInBounds_toArray, List.set_cons_zero, List.set_cons_succ])
    refine wpAnyH_ready (rs := [4]) (by kernel_rfl) (by simp) ?_
    refine AllReadyH.cons rfl (fun K hK => ?_) AllReadyH.nil
    go_simp
    go_at_call 18
    refine (HOF.out _).mono ?_
    rintro e w3 ⟨hq, rfl⟩
    dsimp only
    have z0 := (hq.cell (p := ⟨w.heap.size, 0, none⟩) (show w.heap.size < w2.heap.size from D0.out.lt)).trans hHeld.1
    have z1 := (hq.cell (p := ⟨w.heap.size, 1, none⟩) (show w.heap.size < w2.heap.size from D0.out.lt)).trans hHeld.2.1
    have z2 := (hq.cell (p := ⟨w.heap.size, 2, none⟩) (show w.heap.size < w2.heap.size from D0.out.lt)).trans hHeld.2.2
    refine hK.out _ _ ⟨z0, z1, z2⟩ (fun hHeld2 => ?_)
    clear hK K hHeld
    (try simp only [Act.put, List.setIfInBounds_toArray, List.set_cons_zero, List.set_cons_succ])
    have s5 := S2.out.drew.trans (hq.mono S2.out.size)
    have b5 := D0.out.drew.keep hq
    have r5 := HR2.out.drew.below hq (Nat.le_refl _)
    have S5a := Lib.hid s5; clear s5
    have B5a := Lib.hid b5; clear b5
    have R5a := Lib.hid r5; clear r5
    clear hq x0 x1 x2
    refine wpAnyH_ready (rs := [5]) (by kernel_rfl) (by simp) ?_
    refine AllReadyH.cons rfl (fun K hK => ?_) AllReadyH.nil
    go_simp
    go_at_call 12
    refine (HPR.out _ _ R5a.out).mono ?_
    rintro e w4 ⟨hq, vla, rfl, -⟩
    dsimp only
    have z3 := (hq.cell (p := ⟨w.heap.size, 0, none⟩) (show w.heap.size < w3.heap.size from B5a.out.lt)).trans z0
    have z4 := (hq.cell (p := ⟨w.heap.size, 1, none⟩) (show w.heap.size < w3.heap.size from B5a.out.lt)).trans z1
    have z5 := (hq.cell (p := ⟨w.heap.size, 2, none⟩) (show w.heap.size < w3.heap.size from B5a.out.lt)).trans z2
    refine hK.out _ _ ⟨z3, z4, z5⟩ (fun hHeld3 => ?_)
    clear hK K hHeld2
    (try simp only [Act.put, List.setIfInBounds_toArray, List.set_cons_zero, List.set_cons_succ])
    have s6 := S5a.out.trans (hq.mono S5a.out.size)
    have b6 := B5a.out.keep hq
    have r6 := R5a.out.below hq (Nat.le_refl _)
    have x0 := b6.cell (j := 0) rfl
    have x1 := b6.cell (j := 1) rfl
    have x2 := b6.cell (j := 2) rfl
    have S4 := Lib.hid s6; clear s6
    have E0 := Lib.hid b6; clear b6
    have HR4 := Lib.hid r6; clear r6
    clear hq z0 z1 z2 z3 z4 z5
    refine wpAnyH_take (i := 6) (v := ?_) rfl (by kernel_rfl) (by kernel_rfl) (by kernel_rfl) (fun _ _ _ h => h) (Or.inl ⟨by rfl, ?_⟩) (by assumption) ?_
    rotate_left
    · (intro wS hSw; (try dsimp only at hSw); go_simp; (try with_reducible rfl))
    (try simp only [Act.put, List.setIfInBounds_toArray, List.set_cons_zero, List.set_cons_succ])
    refine wpAnyH_take (i := 7) (v := ?_) rfl (by kernel_rfl) (by kernel_rfl) (by kernel_rfl) (fun _ _ _ h => h) (Or.inl ⟨by rfl, ?_⟩) (by assumption) ?_
    rotate_left
    · (intro wS hSw; (try dsimp only at hSw); go_simp; (try with_reducible rfl))
    (try simp only [Act.put, List.setIfInBounds_toArray, List.set_cons_zero, List.set_cons_succ])
    refine wpAnyH_take (i := 8) (v := ?_) rfl (by kernel_rfl) (by kernel_rfl) (by kernel_rfl) (fun _ _ _ h => h) (Or.inl ⟨by rfl, ?_⟩) (by assumption) ?_
    rotate_left
    · (intro wS hSw; (try dsimp only at hSw); go_simp; (try with_reducible rfl))
    (try simp only [Act.put, List.setIfInBounds_toArray, List.set_cons_zero, List.set_cons_succ])
    refine wpAnyH_take (i := 9) (v := ?_) rfl (by kernel_rfl) (by kernel_rfl) (by kernel_rfl) (fun _ _ _ h => h) (Or.inl ⟨by rfl, ?_⟩) (by assumption) ?_
    rotate_left
    · (intro wS hSw; (try dsimp only at hSw); go_simp; (try with_reducible rfl))
    (try simp only [Act.put, List.setIfInBounds_toArray, List.set_cons_zero, List.set_cons_succ])
    refine wpAnyH_take (i := 10) (v := ?_) rfl (by kernel_rfl) (by kernel_rfl) (by kernel_rfl) (fun _ _ _ h => h) (Or.inl ⟨by rfl, ?_⟩) (by assumption) ?_
    rotate_left
    · (intro wS hSw; (try dsimp only at hSw); go_simp; (try with_reducible rfl))
    (try simp only [Act.put, List.setIfInBounds_toArray, List.set_cons_zero, List.set_cons_succ])
    refine wpAnyH_done (by kernel_rfl) ?_ _
    (try simp only [List.getElem_toArray, List.getElem_cons_zero, List.getElem_cons_succ, Act.put, List.setIfInBounds_toArray, List.set_cons_zero, List.set_cons_succ])
    clear hHeld3
    go_wp2_with fail
    refine wp_region_held_drew (S := fun w' => w'.cell? ⟨w.heap.size, 0, none⟩ = some (.int .i64 (l : Int)) ∧ w'.cell? ⟨w.heap.size, 1, none⟩ = some (.int .i64 (k : Int)) ∧ w'.cell? ⟨w.heap.size, 2, none⟩ = some (.slice va mm vc)) (by kernel_rfl) ?_ (fun hHeld => ?_)
    · go_keep
    refine wpAnyH_take (i := 0) (v := ?_) rfl (by kernel_rfl) (by kernel_rfl) (by kernel_rfl) (fun _ _ _ h => h) (Or.inl ⟨by rfl, ?_⟩) (by assumption) ?_
    rotate_left
    · (intro wS hSw; (try dsimp only at hSw); go_simp; (try with_reducible rfl))
    (try simp only [Act.put, List.setIfInBounds_toArray, List.set_cons_zero, List.set_cons_succ])
    refine wpAnyH_take (i := 1) (v := ?_) rfl (by kernel_rfl) (by kernel_rfl) (by kernel_rfl) (fun _ _ _ h => h) (Or.inl ⟨by rfl, ?_⟩) (by assumption) ?_
    rotate_left
    · (intro wS hSw; (try dsimp only at hSw); go_simp; (try with_reducible rfl))
    (try simp only [Act.put, List.setIfInBounds_toArray, List.set_cons_zero, List.set_cons_succ])
    refine wpAnyH_take (i := 2) (v := ?_) rfl (by kernel_rfl) (by kernel_rfl) (by kernel_rfl) (fun _ _ _ h => h) (Or.inl ⟨by rfl, ?_⟩) (by assumption) ?_
    rotate_left
    · (intro wS hSw; (try dsimp only at hSw); go_simp; (try with_reducible rfl))
    (try simp only [Act.put, List.setIfInBounds_toArray, List.set_cons_zero, List.set_cons_succ])
    refine wpAnyH_take (i := 3) (v := ?_) rfl (by kernel_rfl) (by kernel_rfl) (by kernel_rfl) (fun _ _ _ h => h) (Or.inl ⟨by rfl, ?_⟩) (by assumption) ?_
    rotate_left
    · (intro wS hSw; (try dsimp only at hSw); go_simp; (try with_reducible rfl))
    (try simp only [Act.put, List.setIfInBounds_toArray, List.set_cons_zero, List.set_cons_succ])
    refine wpAnyH_ready (rs := [4]) (by kernel_rfl) (by simp) ?_
    refine AllReadyH.cons rfl (fun K hK => ?_) AllReadyH.nil
    go_simp
    go_at_call 18
    refine (HOF1.out _).mono ?_
    rintro e w5 ⟨hq, rfl⟩
    dsimp only
    have z0 := (hq.cell (p := ⟨w.heap.size, 0, none⟩) (show w.heap.size < w4.heap.size from E0.out.lt)).trans hHeld.1
    have z1 := (hq.cell (p := ⟨w.heap.size, 1, none⟩) (show w.heap.size < w4.heap.size from E0.out.lt)).trans hHeld.2.1
    have z2 := (hq.cell (p := ⟨w.heap.size, 2, none⟩) (show w.heap.size < w4.heap.size from E0.out.lt)).trans hHeld.2.2
    refine hK.out _ _ ⟨z0, z1, z2⟩ (fun hHeld2 => ?_)
    clear hK K hHeld
    (try simp only [Act.put, List.setIfInBounds_toArray, List.set_cons_zero, List.set_cons_succ])
    have s5 := S4.out.drew.trans (hq.mono S4.out.size)
    have b5 := E0.out.drew.keep hq
    have r5 := HR4.out.drew.below hq (Nat.le_refl _)
    have S5b := Lib.hid s5; clear s5
    have B5b := Lib.hid b5; clear b5
    have R5b := Lib.hid r5; clear r5
    clear hq x0 x1 x2
    refine wpAnyH_ready (rs := [5]) (by kernel_rfl) (by simp) ?_
    refine AllReadyH.cons rfl (fun K hK => ?_) AllReadyH.nil
    go_simp
    go_at_call 12
    refine (HPR1.out _ _ R5b.out).mono ?_
    rintro e w6 ⟨hq, vlb, rfl, -⟩
    dsimp only
    have z3 := (hq.cell (p := ⟨w.heap.size, 0, none⟩) (show w.heap.size < w5.heap.size from B5b.out.lt)).trans z0
    have z4 := (hq.cell (p := ⟨w.heap.size, 1, none⟩) (show w.heap.size < w5.heap.size from B5b.out.lt)).trans z1
    have z5 := (hq.cell (p := ⟨w.heap.size, 2, none⟩) (show w.heap.size < w5.heap.size from B5b.out.lt)).trans z2
    refine hK.out _ _ ⟨z3, z4, z5⟩ (fun hHeld3 => ?_)
    clear hK K hHeld2
    (try simp only [Act.put, List.setIfInBounds_toArray, List.set_cons_zero, List.set_cons_succ])
    have s6 := S5b.out.trans (hq.mono S5b.out.size)
    have b6 := B5b.out.keep hq
    have r6 := R5b.out.below hq (Nat.le_refl _)
    have x0 := b6.cell (j := 0) rfl
    have x1 := b6.cell (j := 1) rfl
    have x2 := b6.cell (j := 2) rfl
    have S6 := Lib.hid s6; clear s6
    have F0 := Lib.hid b6; clear b6
    have HR6 := Lib.hid r6; clear r6
    clear hq z0 z1 z2 z3 z4 z5
    refine wpAnyH_take (i := 6) (v := ?_) rfl (by kernel_rfl) (by kernel_rfl) (by kernel_rfl) (fun _ _ _ h => h) (Or.inl ⟨by rfl, ?_⟩) (by assumption) ?_
    rotate_left
    · (intro wS hSw; (try dsimp only at hSw); go_simp; (try with_reducible rfl))
    (try simp only [Act.put, List.setIfInBounds_toArray, List.set_cons_zero, List.set_cons_succ])
    refine wpAnyH_take (i := 7) (v := ?_) rfl (by kernel_rfl) (by kernel_rfl) (by kernel_rfl) (fun _ _ _ h => h) (Or.inl ⟨by rfl, ?_⟩) (by assumption) ?_
    rotate_left
    · (intro wS hSw; (try dsimp only at hSw); go_simp; (try with_reducible rfl))
    (try simp only [Act.put, List.setIfInBounds_toArray, List.set_cons_zero, List.set_cons_succ])
    refine wpAnyH_take (i := 8) (v := ?_) rfl (by kernel_rfl) (by kernel_rfl) (by kernel_rfl) (fun _ _ _ h => h) (Or.inl ⟨by rfl, ?_⟩) (by assumption) ?_
    rotate_left
    · (intro wS hSw; (try dsimp only at hSw); go_simp; (try with_reducible rfl))
    (try simp only [Act.put, List.setIfInBounds_toArray, List.set_cons_zero, List.set_cons_succ])
    refine wpAnyH_take (i := 9) (v := ?_) rfl (by kernel_rfl) (by kernel_rfl) (by kernel_rfl) (fun _ _ _ h => h) (Or.inl ⟨by rfl, ?_⟩) (by assumption) ?_
    rotate_left
    · (intro wS hSw; (try dsimp only at hSw); go_simp; (try with_reducible rfl))
    (try simp only [Act.put, List.setIfInBounds_toArray, List.set_cons_zero, List.set_cons_succ])
    refine wpAnyH_take (i := 10) (v := ?_) rfl (by kernel_rfl) (by kernel_rfl) (by kernel_rfl) (fun _ _ _ h => h) (Or.inl ⟨by rfl, ?_⟩) (by assumption) ?_
    rotate_left
    · (intro wS hSw; (try dsimp only at hSw); go_simp; (try with_reducible rfl))
    (try simp only [Act.put, List.setIfInBounds_toArray, List.set_cons_zero, List.set_cons_succ])
    refine wpAnyH_done (by kernel_rfl) ?_ _
    (try simp only [List.getElem_toArray, List.getElem_cons_zero, List.getElem_cons_succ, Act.put, List.setIfInBounds_toArray, List.set_cons_zero, List.set_cons_succ])
    clear hHeld3
    go_wp2_with fail
    go_at_call 18
    refine (HOFL.out _).mono ?_
    rintro e w7 ⟨hq, rfl⟩
    have s7 := S6.out.trans (hq.mono S6.out.size)
    clear x0 x1 x2
    have S7 := Lib.hid s7; clear s7
    clear hq
    go_wp2_with fail
    go_at_call 19
    refine (HPOW.out _).mono ?_
    rintro e w8 ⟨hq, rfl⟩
    have s8 := S7.out.trans (hq.mono S7.out.size)
    have S8 := Lib.hid s8; clear s8
    clear hq
    go_wp2_with fail
    have a14 := Blk.new w8 26 [.bool (ineg WN), .string (imag WN)]
    have c0 := a14.cell (j := 0) rfl
    have c1 := a14.cell (j := 1) rfl
    have s9 := (S8.out.alloc S8.out.size (.cells #[.bool (ineg WN), .string (imag WN)] 26)).drew
    have S9 := Lib.hid s9; clear s9
    clear a14
    refine wp_region_held_drew (S := fun w' => w'.cell? ⟨w8.heap.size, 0, none⟩ = some (.bool (ineg WN)) ∧ w'.cell? ⟨w8.heap.size, 1, none⟩ = some (.string (imag WN))) (by kernel_rfl) ?_ (fun hHeld => ?_)
    · go_keep
    clear c0 c1
    refine wpAnyH_take (i := 0) (v := ?_) rfl (by kernel_rfl) (by kernel_rfl) (by kernel_rfl) (fun _ _ _ h => h) (Or.inl ⟨by rfl, ?_⟩) (by assumption) ?_
    rotate_left
    · (intro wS hSw; (try dsimp only at hSw); go_simp; (try with_reducible rfl))
    (try simp only [Act.put, List.setIfInBounds_toArray, List.set_cons_zero, List.set_cons_succ])
    refine wpAnyH_take (i := 1) (v := ?_) rfl (by kernel_rfl) (by kernel_rfl) (by kernel_rfl) (fun _ _ _ h => h) (Or.inl ⟨by rfl, ?_⟩) (by assumption) ?_
    rotate_left
    · (intro wS hSw; (try dsimp only at hSw); go_simp; (try with_reducible rfl))
    (try simp only [Act.put, List.setIfInBounds_toArray, List.set_cons_zero, List.set_cons_succ])
    refine wpAnyH_take (i := 2) (v := ?_) rfl (by kernel_rfl) (by kernel_rfl) (by kernel_rfl) (fun _ _ _ h => h) (Or.inl ⟨by rfl, ?_⟩) (by assumption) ?_
    rotate_left
    · (intro wS hSw; (try dsimp only at hSw); go_simp; (try with_reducible rfl))
    (try simp only [Act.put, List.setIfInBounds_toArray, List.set_cons_zero, List.set_cons_succ])
    refine wpAnyH_take (i := 3) (v := ?_) rfl (by kernel_rfl) (by kernel_rfl) (by kernel_rfl) (fun _ _ _ h => h) (Or.inl ⟨by kernel_rfl, ?_⟩) (by assumption) ?_
    rotate_left
    · (intro wS hSw; (try dsimp only at hSw); go_simp; (try with_reducible rfl))
    (try simp only [Act.put, List.setIfInBounds_toArray, List.set_cons_zero, List.set_cons_succ])
    refine wpAnyH_take (i := 4) (v := ?_) rfl (by kernel_rfl) (by kernel_rfl) (by kernel_rfl) (fun _ _ _ h => h) (Or.inl ⟨by kernel_rfl, ?_⟩) (by assumption) ?_
    rotate_left
    · (intro wS hSw; (try dsimp only at hSw); go_simp; (try with_reducible rfl))
    (try simp only [Act.put, List.setIfInBounds_toArray, List.set_cons_zero, List.set_cons_succ])
    refine wpAnyH_take (i := 5) (v := ?_) rfl (by kernel_rfl) (by kernel_rfl) (by kernel_rfl) (fun _ _ _ h => h) (Or.inl ⟨by rfl, ?_⟩) (by assumption) ?_
    rotate_left
    · (intro wS hSw; (try dsimp only at hSw); go_simp; (try with_reducible rfl))
    (try simp only [Act.put, List.setIfInBounds_toArray, List.set_cons_zero, List.set_cons_succ])
    refine wpAnyH_take (i := 6) (v := ?_) rfl (by kernel_rfl) (by kernel_rfl) (by kernel_rfl) (fun _ _ _ h => h) (Or.inl ⟨by rfl, ?_⟩) (by assumption) ?_
    rotate_left
    · (intro wS hSw; (try dsimp only at hSw); go_simp; (try with_reducible rfl))
    (try simp only [Act.put, List.setIfInBounds_toArray, List.set_cons_zero, List.set_cons_succ])
    refine wpAnyH_take (i := 7) (v := ?_) rfl (by kernel_rfl) (by kernel_rfl) (by kernel_rfl) (fun _ _ _ h => h) (Or.inl ⟨by kernel_rfl, ?_⟩) (by assumption) ?_
    rotate_left
    · (intro wS hSw; (try dsimp only at hSw); go_simp; (try with_reducible rfl))
    (try simp only [Act.put, List.setIfInBounds_toArray, List.set_cons_zero, List.set_cons_succ])
    refine wpAnyH_take (i := 8) (v := ?_) rfl (by kernel_rfl) (by kernel_rfl) (by kernel_rfl) (fun _ _ _ h => h) (Or.inl ⟨by kernel_rfl, ?_⟩) (by assumption) ?_
    rotate_left
    · (intro wS hSw; (try dsimp only at hSw); go_simp; (try with_reducible rfl))
    (try simp only [Act.put, List.setIfInBounds_toArray, List.set_cons_zero, List.set_cons_succ])
    refine wpAnyH_take (i := 9) (v := ?_) rfl (by kernel_rfl) (by kernel_rfl) (by kernel_rfl) (fun _ _ _ h => h) (Or.inl ⟨by rfl, ?_⟩) (by assumption) ?_
    rotate_left
    · (intro wS hSw; (try dsimp only at hSw); go_simp; (try with_reducible rfl))
    (try simp only [Act.put, List.setIfInBounds_toArray, List.set_cons_zero, List.set_cons_succ])
    refine wpAnyH_take (i := 10) (v := ?_) rfl (by kernel_rfl) (by kernel_rfl) (by kernel_rfl) (fun _ _ _ h => h) (Or.inl ⟨by rfl, ?_⟩) (by assumption) ?_
    rotate_left
    · (intro wS hSw; (try dsimp only at hSw); go_simp; (try with_reducible rfl))
    (try simp only [Act.put, List.setIfInBounds_toArray, List.set_cons_zero, List.set_cons_succ])
    refine wpAnyH_take (i := 11) (v := ?_) rfl (by kernel_rfl) (by kernel_rfl) (by kernel_rfl) (fun _ _ _ h => h) (Or.inl ⟨by kernel_rfl, ?_⟩) (by assumption) ?_
    rotate_left
    · (intro wS hSw; (try dsimp only at hSw); go_simp; (try with_reducible rfl))
    (try simp only [Act.put, List.setIfInBounds_toArray, List.set_cons_zero, List.set_cons_succ])
    refine wpAnyH_take (i := 12) (v := ?_) rfl (by kernel_rfl) (by kernel_rfl) (by kernel_rfl) (fun _ _ _ h => h) (Or.inl ⟨by kernel_rfl, ?_⟩) (by assumption) ?_
    rotate_left
    · (intro wS hSw; (try dsimp only at hSw); go_simp; (try with_reducible rfl))
    (try simp only [Act.put, List.setIfInBounds_toArray, List.set_cons_zero, List.set_cons_succ])
    refine wpAnyH_take (i := 14) (v := ?_) rfl (by kernel_rfl) (by kernel_rfl) (by kernel_rfl) (fun _ _ _ h => h) (Or.inl ⟨by kernel_rfl, ?_⟩) (by assumption) ?_
    rotate_left
    · (intro wS hSw; (try dsimp only at hSw); go_simp; (try with_reducible rfl))
    (try simp only [Act.put, List.setIfInBounds_toArray, List.set_cons_zero, List.set_cons_succ])
    refine wpAnyH_ready (rs := [13]) (by kernel_rfl) (by simp) ?_
    refine AllReadyH.cons rfl (fun K hK => ?_) AllReadyH.nil
    rw [if_pos (by kernel_rfl)]
    go_simp
    go_at_call 18
    refine (HOF.out _).mono ?_
    rintro e w9 ⟨hq, rfl⟩
    dsimp only
    have z0 := (hq.cell (p := ⟨w8.heap.size, 0, none⟩) (show w8.heap.size < (w8.alloc (.cells #[.bool (ineg WN), .string (imag WN)] 26)).heap.size by first | omega | simp)).trans hHeld.1
    have z1 := (hq.cell (p := ⟨w8.heap.size, 1, none⟩) (show w8.heap.size < (w8.alloc (.cells #[.bool (ineg WN), .string (imag WN)] 26)).heap.size by first | omega | simp)).trans hHeld.2
    clear hHeld
    refine hK.out _ _ ⟨z0, z1⟩ (fun hHeld => ?_)
    clear hK K
    (try simp only [Act.put, List.setIfInBounds_toArray, List.set_cons_zero, List.set_cons_succ])
    have sn := S9.out.trans (hq.mono S9.out.size)
    have lnw9 : w8.heap.size < w9.heap.size := Nat.lt_of_lt_of_le (show w8.heap.size < (w8.alloc (.cells #[.bool (ineg WN), .string (imag WN)] 26)).heap.size by first | omega | simp) hq.size
    have Sw9 := Lib.hid sn; clear sn
    clear hq z0 z1
    refine wpAnyH_ready (rs := [15]) (by kernel_rfl) (by simp) ?_
    refine AllReadyH.cons rfl (fun K hK => ?_) AllReadyH.nil
    rw [if_pos (by kernel_rfl)]
    go_simp
    go_at_call 20
    refine (HCMP.out _).mono ?_
    rintro e wa ⟨hq, rfl⟩
    dsimp only
    have z0 := (hq.cell (p := ⟨w8.heap.size, 0, none⟩) (show w8.heap.size < w9.heap.size by first | omega | simp)).trans hHeld.1
    have z1 := (hq.cell (p := ⟨w8.heap.size, 1, none⟩) (show w8.heap.size < w9.heap.size by first | omega | simp)).trans hHeld.2
    clear hHeld
    refine hK.out _ _ ⟨z0, z1⟩ (fun hHeld => ?_)
    clear hK K
    (try simp only [Act.put, List.setIfInBounds_toArray, List.set_cons_zero, List.set_cons_succ])
    have sn := Sw9.out.trans (hq.mono Sw9.out.size)
    have lnwa : w8.heap.size < wa.heap.size := Nat.lt_of_lt_of_le (show w8.heap.size < w9.heap.size by first | omega | simp) hq.size
    have Swa := Lib.hid sn; clear sn
    clear hq z0 z1
    refine wpAnyH_take (i := 16) (v := ?_) rfl (by kernel_rfl) (by kernel_rfl) (by kernel_rfl) (fun _ _ _ h => h) (Or.inl ⟨by kernel_rfl, ?_⟩) (by assumption) ?_
    rotate_left
    · (intro wS hSw; (try dsimp only at hSw); go_simp; (try with_reducible rfl))
    (try simp only [Act.put, List.setIfInBounds_toArray, List.set_cons_zero, List.set_cons_succ])
    refine wpAnyH_take (i := 17) (v := ?_) rfl (by kernel_rfl) (by kernel_rfl) (by kernel_rfl) (fun _ _ _ h => h) (Or.inl ⟨by rfl, ?_⟩) (by assumption) ?_
    rotate_left
    · (intro wS hSw; (try dsimp only at hSw); go_simp; (try with_reducible rfl))
    (try simp only [Act.put, List.setIfInBounds_toArray, List.set_cons_zero, List.set_cons_succ])
    refine wpAnyH_take (i := 18) (v := ?_) rfl (by kernel_rfl) (by kernel_rfl) (by kernel_rfl) (fun _ _ _ h => h) (Or.inl ⟨by rfl, ?_⟩) (by assumption) ?_
    rotate_left
    · (intro wS hSw; (try dsimp only at hSw); go_simp; (try with_reducible rfl))
    (try simp only [Act.put, List.setIfInBounds_toArray, List.set_cons_zero, List.set_cons_succ])
    refine wpAnyH_ready (rs := [19]) (by kernel_rfl) (by simp) ?_
    refine AllReadyH.cons rfl (fun K hK => ?_) AllReadyH.nil
    rw [if_pos (by kernel_rfl)]
    go_simp
    go_at_call 11
    refine (HAW.out _).mono ?_
    rintro e wb ⟨hq, rfl⟩
    dsimp only
    have z0 := (hq.cell (p := ⟨w8.heap.size, 0, none⟩) (show w8.heap.size < wa.heap.size by first | omega | simp)).trans hHeld.1
    have z1 := (hq.cell (p := ⟨w8.heap.size, 1, none⟩) (show w8.heap.size < wa.heap.size by first | omega | simp)).trans hHeld.2
    clear hHeld
    refine hK.out _ _ ⟨z0, z1⟩ (fun hHeld => ?_)
    clear hK K
    (try simp only [Act.put, List.setIfInBounds_toArray, List.set_cons_zero, List.set_cons_succ])
    have sn := Swa.out.trans (hq.mono Swa.out.size)
    have lnwb : w8.heap.size < wb.heap.size := Nat.lt_of_lt_of_le (show w8.heap.size < wa.heap.size by first | omega | simp) hq.size
    have Swb := Lib.hid sn; clear sn
    clear hq z0 z1
    refine wpAnyH_take (i := 20) (v := ?_) rfl (by kernel_rfl) (by kernel_rfl) (by kernel_rfl) (fun _ _ _ h => h) (Or.inl ⟨by rfl, ?_⟩) (by assumption) ?_
    rotate_left
    · (intro wS hSw; (try dsimp only at hSw); go_simp; (try with_reducible rfl))
    (try simp only [Act.put, List.setIfInBounds_toArray, List.set_cons_zero, List.set_cons_succ])
    refine wpAnyH_take (i := 21) (v := ?_) rfl (by kernel_rfl) (by kernel_rfl) (by kernel_rfl) (fun _ _ _ h => h) (Or.inl ⟨by rfl, ?_⟩) (by assumption) ?_
    rotate_left
    · (intro wS hSw; (try dsimp only at hSw); go_simp; (try with_reducible rfl))
    (try simp only [Act.put, List.setIfInBounds_toArray, List.set_cons_zero, List.set_cons_succ])
    refine wpAnyH_done (by kernel_rfl) ?_ _
    (try simp only [List.getElem_toArray, List.getElem_cons_zero, List.getElem_cons_succ, Act.put, List.setIfInBounds_toArray, List.set_cons_zero, List.set_cons_succ])
    clear hHeld
    go_wp2_with fail
    go_ret
    exact ⟨Swb.out, rfl⟩
/-- The law. -/
theorem lbits_all (L S : Int) (es : List E3) (v : Value) (nn : Nat) (w : World) (hr : Row w v es.length (ce es)) (hok : okEs es) (hnn : nn ≤ 255) :
    Calls Try.prog 4 #[.agg #[.int .i64 L, .int .i64 S, v], .int .u8 (nn : Int)] w (Ret w (.bool true)) := by
  rcases Classical.em (FineP L S es) with hF | hF
  · obtain ⟨hE, hS, hL⟩ := hF
    have hca := chk_all (eck_zero hE).1
    obtain ⟨l, rfl⟩ : ∃ l : Nat, L = l := ⟨L.toNat, by omega⟩
    obtain ⟨k, rfl⟩ : ∃ k : Nat, S = k := ⟨S.toNat, by omega⟩
    rcases bits_ex hE (1 + nn % 8) with h0 | ⟨p, hp4, hpm⟩
    · exact lbits_none l k _ es v nn w hr hok hnn hE (by omega) rfl h0
    · exact lbits_some l k _ es v nn w hr hok hnn hE (by omega) rfl p hp4 hpm
  · exact lbits_bad L S es v nn w hr hok hnn hF
end Go.Proofs.Ytalipfnbpnkgnaa

