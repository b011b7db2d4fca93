/- Contracts and plain laws of several functions, one after the other: RefW, PlainRr, AwkD. -/
import Derived.Test.YtalipfnbpnkgnaaGreatPart5
import Derived.Test.YtalipfnbpnkgnaaGreatPart12
import Derived.Test.YtalipfnbpnkgnaaGreatRUnr
import Derived.Test.YtalipfnbpnkgnaaGreatAwk29
import Derived.Test.YtalipfnbpnkgnaaGreatPart2
/- The reference's letters and words: grooveref07.Digit, Check. -/
namespace Go.Proofs.YtalipfnbpnkgnaaGreat
open Go.RowKit

def dgo : List UInt8 → Nat → UInt8 → Int
  | [], _, _ => -1
  | x :: t, i, c => if x = c then (i : Int) else dgo t (i + 1) c
/-- The number of a letter, -1 if it is none. -/
def digI (c : UInt8) : Int := dgo letters 0 c
theorem dgo_mem : ∀ (l : List UInt8) (i : Nat) (c : UInt8) (q : Nat), dgo l i c = -1 ∧ l.contains c = false ∨ (∃ j : Nat, dgo l i c = (i + j : Nat) ∧ j < l.length ∧ l[j]? = some c ∧ ((l.take q).contains c = decide (j < q)))
  | [], i, c, q => .inl ⟨rfl, rfl⟩
  | x :: t, i, c, q => by
    rw [dgo]
    by_cases hx : x = c
    · subst hx
      rw [if_pos rfl]
      refine .inr ⟨0, rfl, by simp, by simp, ?_⟩
      cases q <;> simp
    · rw [if_neg hx]
      rcases dgo_mem t (i + 1) c (q - 1) with ⟨h1, h2⟩ | ⟨j, h1, h2, h3, h4⟩
      · refine .inl ⟨h1, ?_⟩
        rw [List.contains_cons, h2, Bool.or_false, beq_eq_false_iff_ne]
        exact fun e => hx e.symm
      · refine .inr ⟨j + 1, by rw [h1]; congr 1; omega, by simp; omega, by simpa using h3, ?_⟩
        cases q with
        | zero => simp
        | succ q =>
          rw [List.take_succ_cons, List.contains_cons]
          rw [Nat.add_sub_cancel] at h4
          rw [h4, show (c == x) = false from beq_eq_false_iff_ne.2 (fun e => hx e.symm), Bool.false_or]
          rw [Bool.eq_iff_iff]; simp
theorem digI_letter (q : Nat) (c : UInt8) (hq : q ≤ 16) : isLetter q c = decide (0 ≤ digI c ∧ digI c < q) := by
  rcases dgo_mem letters 0 c q with ⟨h1, h2⟩ | ⟨j, h1, h2, h3, h4⟩
  · have : isLetter q c = false := by
      rw [isLetter, ← Bool.not_eq_true, List.contains_iff_mem]
      intro h
      have := List.mem_of_mem_take h
      rw [← List.contains_iff_mem, h2] at this; cases this
    rw [this, digI, h1]; rfl
  · rw [isLetter, h4, digI, h1, Bool.eq_iff_iff]; simp
theorem dgo_drop (k : Nat) (h : k < letters.length) (c : UInt8) : dgo (letters.drop k) k c = if letters[k] = c then (k : Int) else dgo (letters.drop (k + 1)) (k + 1) c := by
  rw [List.drop_eq_getElem_cons h, dgo]

set_option maxRecDepth 100000 in
set_option maxHeartbeats 800000 in
theorem digit_any (c : UInt8) (w : World) : Calls Tryz.prog 78 #[.int .u8 (c.toNat : Int)] w fun e w' => e = .returned (.int .i64 (digI c)) ∧ w = w' := by
  go_enter Tryz.func78, Tryz.ntmps78
  go_wp2
  go_loop [3] (fun i => ∃ k : Nat, k ≤ 16 ∧ i = .int .i64 k ∧ dgo (letters.drop k) k c = digI c) (fun i => 16 - (intOf i).toNat)
  case atStart => exact ⟨0, by omega, rfl, rfl⟩
  case round =>
    obtain ⟨k, hk, rfl, he⟩ := hrel
    by_cases hlt : k < 16
    · have hl : k < letters.length := hlt
      rw [dgo_drop k hl] at he
      have hix : ∀ w' : World, (Instr.index 9 (.string ⟨#[48, 49, 50, 51, 52, 53, 54, 55, 56, 57, 97, 98, 99, 100, 101, 102]⟩) (.int .i64 (k : Int))).run Tryz.prog w' = .ok (.int .u8 (letters[k].toNat : Int)) w' := by
        intro w'
        have : k = 0 ∨ k = 1 ∨ k = 2 ∨ k = 3 ∨ k = 4 ∨ k = 5 ∨ k = 6 ∨ k = 7 ∨ k = 8 ∨ k = 9 ∨ k = 10 ∨ k = 11 ∨ k = 12 ∨ k = 13 ∨ k = 14 ∨ k = 15 := by omega
        rcases this with h | h | h | h | h | h | h | h | h | h | h | h | h | h | h | h <;> (subst h; rfl)
      obtain ⟨x, hx⟩ : ∃ x, x = letters[k] := ⟨_, rfl⟩
      rw [← hx] at he hix
      have HX := Lib.hid hx; clear hx
      by_cases hc : x = c
      · rw [if_pos hc] at he
        have hcb : ((x.toNat : Int) == (c.toNat : Int)) = true := by rw [hc]; simp
        have HE := Lib.hid he; clear he hc
        go_wp2
        go_ret
        exact ⟨ret_int HE.out, rfl⟩
      · rw [if_neg hc] at he
        have hcb : ((x.toNat : Int) == (c.toNat : Int)) = false := by
          rw [beq_eq_false_iff_ne]; intro e
          apply hc
          rw [← UInt8.toNat_inj]; omega
        have HE := Lib.hid he; clear he hc
        go_wp2
        go_round
        case rel => exact ⟨k + 1, by omega, by go_num, HE.out⟩
        case measure => simp [intOf]; omega
    · have : k = 16 := by omega
      subst this
      have HE := Lib.hid he; clear he
      go_wp2
      go_ret
      exact ⟨ret_int HE.out, rfl⟩

set_option maxRecDepth 100000 in
set_option maxHeartbeats 800000 in
theorem rwcheck_any (q : Int) (s : ByteArray) (w : World) (hs : s.size ≤ 9223372036854775807) :
    Calls Tryz.prog 76 #[.int .i64 q, .string s] w fun e w' => e = .returned (.int .i64 (wchk q s.data.toList)) ∧ w = w' := by
  by_cases h1 : q < 1
  · have hc : wchk q s.data.toList = 12 := by rw [wchk, if_pos (by omega)]
    have HC := Lib.hid hc; clear hc
    go_enter Tryz.func76, Tryz.ntmps76
    go_wp2
    go_ret
    exact ⟨ret_int HC.out.symm, rfl⟩
  · by_cases h2 : 16 < q
    · have hc : wchk q s.data.toList = 12 := by rw [wchk, if_pos (by omega)]
      have HC := Lib.hid hc; clear hc
      go_enter Tryz.func76, Tryz.ntmps76
      go_wp2
      go_ret
      exact ⟨ret_int HC.out.symm, rfl⟩
    · by_cases h3 : 65536 < s.size
      · have hc : wchk q s.data.toList = 4 := by rw [wchk, if_neg (by omega), if_pos (by rw [bytes_size]; exact h3)]
        have HC := Lib.hid hc; clear hc
        go_enter Tryz.func76, Tryz.ntmps76
        go_wp2
        go_ret
        exact ⟨ret_int HC.out.symm, rfl⟩
      · obtain ⟨n, rfl⟩ : ∃ n : Nat, q = (n : Int) := ⟨q.toNat, by omega⟩
        have hc : wchk (n : Int) s.data.toList = if s.data.toList.all (isLetter n) then 0 else 13 := by
          rw [wchk, if_neg (by omega), if_neg (by rw [bytes_size]; omega)]; rfl
        have HC := Lib.hid hc; clear hc
        go_enter Tryz.func76, Tryz.ntmps76
        go_wp2
        go_loop [5] (fun i => ∃ k : Nat, k ≤ s.size ∧ i = .int .i64 k ∧ s.data.toList.all (isLetter n) = (s.data.toList.drop k).all (isLetter n)) (fun i => s.size - (intOf i).toNat)
        case atStart => exact ⟨0, Nat.zero_le _, rfl, rfl⟩
        case round =>
          obtain ⟨k, hk, rfl, he⟩ := hrel
          by_cases hlt : k < s.size
          · rw [drop_at s k hlt, List.all_cons] at he
            have hd := digI_letter n s[k] (by omega)
            have hD := digit_any s[k]
            have hD' : ∀ w', Calls Tryz.prog 78 #[.int .u8 (s[k].toNat : Int)] w' fun e w'' => e = .returned (.int .i64 (digI s[k])) ∧ w' = w'' := hD
            obtain ⟨x, hx⟩ : ∃ x, x = digI s[k] := ⟨_, rfl⟩
            rw [← hx] at hd
            simp only [← hx] at hD'
            clear hx hD
            have HD := Lib.hid hD'; clear hD'
            by_cases hx0 : x < 0
            · rw [show isLetter n s[k] = false by rw [hd]; simp; omega, Bool.false_and] at he
              have HE := Lib.hid he; clear he hd
              go_wp2_with (go_at_call 78; refine (HD.out _).mono ?_; rintro e w' ⟨rfl, rfl⟩)
              go_ret
              exact ⟨ret_int (by rw [HC.out, HE.out]; rfl), rfl⟩
            · by_cases hxn : (n : Int) ≤ x
              · rw [show isLetter n s[k] = false by rw [hd]; simp; omega, Bool.false_and] at he
                have HE := Lib.hid he; clear he hd
                go_wp2_with (go_at_call 78; refine (HD.out _).mono ?_; rintro e w' ⟨rfl, rfl⟩)
                go_ret
                exact ⟨ret_int (by rw [HC.out, HE.out]; rfl), rfl⟩
              · rw [show isLetter n s[k] = true by rw [hd]; simp; omega, Bool.true_and] at he
                have HE := Lib.hid he; clear he hd
                go_wp2_with (go_at_call 78; refine (HD.out _).mono ?_; rintro e w' ⟨rfl, rfl⟩)
                go_round
                case rel => exact ⟨k + 1, by omega, by go_num, HE.out⟩
                case measure => simp [intOf]; omega
          · have e1 : s.data.toList.drop k = [] := List.drop_of_length_le (by rw [bytes_size]; omega)
            rw [e1] at he
            have HE := Lib.hid he; clear he e1
            go_wp2
            go_ret
            exact ⟨ret_int (by rw [HC.out, HE.out]; rfl), rfl⟩
end Go.Proofs.YtalipfnbpnkgnaaGreat

/- The reference's rank, along the edges; plain. -/
namespace Go.Proofs.YtalipfnbpnkgnaaGreat
open Go.RowKit

theorem digI_get : ∀ i : Fin 16, digI (letL (i.val : Int)) = (i.val : Int) := by decide +kernel
theorem letL_dig : ∀ i : Fin 256, 0 ≤ digI (UInt8.ofNat i.val) → letL (digI (UInt8.ofNat i.val)) = UInt8.ofNat i.val := by decide +kernel
theorem let_iff {l : Int} {c : UInt8} (h0 : 0 ≤ l) (h1 : l < 16) : letL l = c ↔ l = digI c := by
  constructor
  · rintro rfl
    have h := digI_get ⟨l.toNat, by omega⟩
    dsimp only at h
    rw [show ((l.toNat : Nat) : Int) = l by omega] at h
    exact h.symm
  · intro h
    have h2 := letL_dig ⟨c.toNat, c.toNat_lt⟩
    dsimp only at h2
    rw [show UInt8.ofNat c.toNat = c by simp] at h2
    rw [h]
    exact h2 (by omega)
/-- One edge from the state. -/
def rrS (es : List E3) (p : Int → Bool) (m : Nat) (lt : Int) (x : Int × Int) (e : E3) : Int × Int := (if e.l < lt then x.1 + cw es p m e.t else x.1, if e.l = lt then e.t else x.2)
def rrF (es : List E3) (p : Int → Bool) (m : Nat) (lt : Int) (l : List E3) (x : Int × Int) : Int × Int := l.foldl (rrS es p m lt) x
theorem rrF_snoc (es : List E3) (p : Int → Bool) (m : Nat) (lt : Int) (l : List E3) (e : E3) (x : Int × Int) : rrF es p m lt (l ++ [e]) x = rrS es p m lt (rrF es p m lt l x) e := by
  simp [rrF, List.foldl_append]
theorem rrF_gt {es : List E3} {p : Int → Bool} {m : Nat} {lt : Int} : ∀ {l : List E3} (x : Int × Int), (∀ e ∈ l, lt < e.l) → rrF es p m lt l x = x
  | [], _, _ => rfl
  | e :: l, x, h => by
    have h1 := h e (by simp)
    have h2 : rrS es p m lt x e = x := by
      rw [rrS, if_neg (by omega), if_neg (by omega)]
    show rrF es p m lt l (rrS es p m lt x e) = x
    rw [h2]
    exact rrF_gt x (fun y hy => h y (by simp [hy]))
theorem rkGo_mem2 {es : List E3} {p : Int → Bool} {k : Nat} {c : UInt8} : ∀ {l : List E3} {sum t : Int}, (rkGo es p k c l sum).2 = some t → ∃ e ∈ l, letL e.l = c ∧ e.t = t
  | [], _, _, h => by cases h
  | x :: l, sum, t, h => by
    rw [rkGo] at h
    split at h
    · rename_i hc
      exact ⟨x, by simp, hc, by injection h⟩
    · obtain ⟨e, he, h2⟩ := rkGo_mem2 h
      exact ⟨e, by simp [he], h2⟩
theorem rrF_rkGo {es : List E3} {p : Int → Bool} {m : Nat} {c : UInt8} : ∀ {l : List E3} (sum nx : Int), AscL l →
    (∀ t, (rkGo es p m c l sum).2 = some t → rrF es p m (digI c) l (sum, nx) = ((rkGo es p m c l sum).1, t)) ∧ ((rkGo es p m c l sum).2 = none → (rrF es p m (digI c) l (sum, nx)).2 = nx)
  | [], sum, nx, _ => ⟨fun t h => (by cases h), fun _ => rfl⟩
  | x :: l, sum, nx, hl => by
    obtain ⟨hp, hr⟩ := hl
    obtain ⟨hp1, hp2⟩ := List.pairwise_cons.1 hp
    have hx := hr x (by simp)
    have hl2 : AscL l := ⟨hp2, fun y hy => hr y (by simp [hy])⟩
    have hfold : ∀ y, rrF es p m (digI c) (x :: l) y = rrF es p m (digI c) l (rrS es p m (digI c) y x) := fun _ => rfl
    rw [hfold, rkGo]
    by_cases hc : letL x.l = c
    · have hd := (let_iff hx.1 hx.2).1 hc
      rw [if_pos hc]
      have hgt : ∀ e ∈ l, digI c < e.l := fun e he => by have := hp1 e he; omega
      rw [rrS, if_neg (by omega), if_pos hd, rrF_gt _ hgt]
      refine ⟨fun t h => ?_, fun h => (by cases h)⟩
      have : x.t = t := by injection h
      rw [this]
    · have hd : ¬ x.l = digI c := fun h => hc ((let_iff hx.1 hx.2).2 h)
      rw [if_neg hc, rrS, if_neg hd]
      by_cases hlt : x.l < digI c
      · rw [if_pos hlt]
        exact rrF_rkGo _ _ hl2
      · rw [if_neg hlt]
        have hgt : ∀ e ∈ l, digI c < e.l := fun e he => by have := hp1 e he; omega
        rw [rrF_gt _ hgt]
        refine ⟨fun t h => ?_, fun _ => rfl⟩
        obtain ⟨e, he, h2, -⟩ := rkGo_mem2 h
        have h3 := (let_iff (hr e (by simp [he])).1 (hr e (by simp [he])).2).1 h2
        have := hgt e he
        omega
theorem rrF_ok {es : List E3} (hl : es.length ≤ 65536) (p : Int → Bool) (m : Nat) (hm : m ≤ 4096) (lt : Int) : ∀ (l : List E3) (j : Nat) (x : Int × Int), SumOk j x.1 → SumOk (j + l.length) (rrF es p m lt l x).1
  | [], _, _, h => h
  | e :: l, j, x, h => by
    show SumOk _ (rrF es p m lt l (rrS es p m lt x e)).1
    have h2 : SumOk (j + 1) (rrS es p m lt x e).1 := by
      unfold rrS
      dsimp only
      split
      · exact h.add (cw_bigM hl p m hm e.t)
      · exact h.mono (by omega)
    have h3 := rrF_ok hl p m hm lt l (j + 1) _ h2
    rw [List.length_cons, show j + (l.length + 1) = j + 1 + l.length by omega]
    exact h3
theorem rrF_nx {es : List E3} {p : Int → Bool} {m : Nat} {lt : Int} {S : Nat} (hin : InS S es) : ∀ (l : List E3) (x : Int × Int), (∀ e ∈ l, e ∈ es) → (x.2 = -1 ∨ 0 ≤ x.2 ∧ x.2 < S) → ((rrF es p m lt l x).2 = -1 ∨ 0 ≤ (rrF es p m lt l x).2 ∧ (rrF es p m lt l x).2 < S)
  | [], _, _, h => h
  | e :: l, x, hm, h => by
    show (rrF es p m lt l (rrS es p m lt x e)).2 = -1 ∨ _
    refine rrF_nx hin l _ (fun y hy => hm y (by simp [hy])) ?_
    unfold rrS
    dsimp only
    split
    · have := hin e (hm e (by simp)); right; omega
    · exact h
end Go.Proofs.YtalipfnbpnkgnaaGreat

/- groovelaw29.awake is true. -/
namespace Go.Proofs.YtalipfnbpnkgnaaGreat
open Go.RowKit

theorem gold_cw : (4 : Int) < cw goldE allP 3 0 := by decide
theorem awake29_true (w : World) : Calls Tryz.prog 10 #[] w (Ret w (.bool true)) := by
  refine awake29 w (fun v w' h => ?_) (fun v w' h => ?_)
  · exact erank_some 2 2 0 goldE v ⟨#[48, 49, 48]⟩ w' h gold_ok gold_eck (by decide) (by decide) (by decide) 2 0 gold_rank
  · have h2 := eunr_ok 2 2 0 3 4 goldE v w' h gold_ok gold_eck (by decide) (by decide) (by decide) gold_cw
    have hu : (ur goldE allP 3 ((0 : Nat) : Int) 4).1 = [49, 48, 49] := by rw [show ur goldE allP 3 ((0 : Nat) : Int) 4 = ([49, 48, 49], 1) from gold_unrank]
    rw [hu] at h2
    exact h2
end Go.Proofs.YtalipfnbpnkgnaaGreat

