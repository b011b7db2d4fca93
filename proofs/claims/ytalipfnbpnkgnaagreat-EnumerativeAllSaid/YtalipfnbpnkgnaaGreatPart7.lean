/- Contracts and plain laws of several functions, one after the other: PlainQ, PlainN, PlainO, PlainA. -/
import Derived.Test.YtalipfnbpnkgnaaGreatPart14
import Derived.Test.YtalipfnbpnkgnaaGreatPart13
import Derived.Test.YtalipfnbpnkgnaaGreatERank
import Derived.Test.YtalipfnbpnkgnaaGreatLang
import Derived.Test.YtalipfnbpnkgnaaGreatPart8
/- The rank of the word with a number is that number, in plain Lean. -/
namespace Go.Proofs.YtalipfnbpnkgnaaGreat
open Go.RowKit

theorem letL_lt {a b : Int} (h0 : 0 ≤ a) (hab : a < b) (hb : b < 16) : letL a < letL b := by
  have h : ∀ i j : Fin 16, i.val < j.val → letters.getD i.val 0 < letters.getD j.val 0 := by decide
  obtain ⟨i, rfl⟩ : ∃ i : Nat, a = i := ⟨a.toNat, by omega⟩
  obtain ⟨j, rfl⟩ : ∃ j : Nat, b = j := ⟨b.toNat, by omega⟩
  have := h ⟨i, by omega⟩ ⟨j, by omega⟩ (by show i < j; omega)
  simpa [letL] using this
theorem letL_ne {a b : Int} (h0 : 0 ≤ a) (hab : a < b) (hb : b < 16) : ¬ letL a = letL b := fun e => by
  have h := letL_lt h0 hab hb
  rw [e] at h
  have h2 : (letL b).toNat < (letL b).toNat := UInt8.lt_iff_toNat_lt.1 h
  omega
/-- The edges that leave a state lie by ascending labels. -/
def AscL (l : List E3) : Prop := l.Pairwise (fun a b => a.l < b.l) ∧ ∀ e ∈ l, 0 ≤ e.l ∧ e.l < 16
theorem outE_asc {L S : Int} {es : List E3} (h : eck L S es = 0) (s : Int) : AscL (outE es s) := by
  obtain ⟨hc, hL, hd⟩ := eck_zero h
  have hcl : chkL L S none es = 0 := by
    unfold chk at hc
    split at hc
    · cases hc
    · split at hc
      · cases hc
      · split at hc
        · cases hc
        · exact hc
  refine ⟨?_, fun e he => chk_lab hc hL e (List.mem_filter.1 he).1⟩
  refine ((det_sorted hcl hd).filter (fun e => e.f == s)).imp_of_mem fun {a b} ha hb hab => ?_
  have h1 : a.f = s := by simpa using (List.mem_filter.1 ha).2
  have h2 : b.f = s := by simpa using (List.mem_filter.1 hb).2
  unfold ltFL at hab
  omega
theorem rkGo_urGo {es : List E3} {p : Int → Bool} {k : Nat} : ∀ {l : List E3} {a : Int} {e : E3} (sum : Int), AscL l → (urGo es p k l a).1 = some e →
    rkGo es p k (letL e.l) l sum = (sum + (a - (urGo es p k l a).2), some e.t)
  | [], _, _, _, _, h => by cases h
  | x :: l, a, e, sum, hl, h => by
    obtain ⟨hp, hr⟩ := hl
    obtain ⟨hp1, hp2⟩ := List.pairwise_cons.1 hp
    rw [urGo] at h ⊢
    rw [rkGo]
    by_cases hc : a < cw es p k x.t
    · rw [if_pos hc] at h ⊢
      obtain rfl : x = e := by injection h
      rw [if_pos rfl]
      simp
    · rw [if_neg hc] at h ⊢
      have he := (urGo_mem h).1
      have hlt := hp1 e he
      rw [if_neg (letL_ne (hr x (by simp)).1 hlt (hr e (by simp [he])).2)]
      rw [rkGo_urGo (sum + cw es p k x.t) ⟨hp2, fun y hy => hr y (by simp [hy])⟩ h]
      refine Prod.ext ?_ rfl
      dsimp only
      omega
theorem ur_length {es : List E3} {p : Int → Bool} : ∀ (n : Nat) (s a : Int), 0 ≤ a → a < cw es p n s → (ur es p n s a).1.length = n
  | 0, _, _, _, _ => rfl
  | n + 1, s, a, h0, h1 => by
    rw [cw_succ] at h1
    have hf := urGo_found h1 h0
    have hb := urGo_bd es p n (outE es s) a h0
    rw [ur]
    rcases hu : urGo es p n (outE es s) a with ⟨_ | e, a'⟩
    · rw [hu] at hf; exact absurd rfl hf
    · have hm := urGo_mem (es := es) (p := p) (k := n) (l := outE es s) (a := a) (e := e) (by rw [hu])
      rw [hu] at hb hm
      dsimp only
      rw [List.length_cons, ur_length n e.t a' hb.1 hm.2]
/-- The number of the word with a number, and where it ends. -/
theorem rk_ur {L S : Int} {es : List E3} (hE : eck L S es = 0) (p : Int → Bool) : ∀ (n : Nat) (s a sum : Int), 0 ≤ a → a < cw es p n s → rk es p (ur es p n s a).1 s sum = some (sum + a, (ur es p n s a).2) ∧ p (ur es p n s a).2 = true
  | 0, s, a, sum, h0, h1 => by
    rw [cw] at h1
    split at h1
    · rename_i hp
      obtain rfl : a = 0 := by omega
      rw [ur, rk]
      exact ⟨by simp, hp⟩
    · omega
  | n + 1, s, a, sum, h0, h1 => by
    have h1' := h1
    rw [cw_succ] at h1'
    have hf := urGo_found h1' h0
    have hb := urGo_bd es p n (outE es s) a h0
    rw [ur]
    rcases hu : urGo es p n (outE es s) a with ⟨_ | e, a'⟩
    · rw [hu] at hf; exact absurd rfl hf
    · have hm := urGo_mem (es := es) (p := p) (k := n) (l := outE es s) (a := a) (e := e) (by rw [hu])
      have hg := rkGo_urGo sum (outE_asc hE s) (show (urGo es p n (outE es s) a).1 = some e by rw [hu])
      rw [hu] at hb hm hg
      dsimp only at hb hm hg ⊢
      rw [rk, ur_length n e.t a' hb.1 hm.2, hg]
      dsimp only
      obtain ⟨r1, r2⟩ := rk_ur hE p n e.t a' (sum + (a - a')) hb.1 hm.2
      rw [r1]
      exact ⟨by congr 2; omega, r2⟩
end Go.Proofs.YtalipfnbpnkgnaaGreat

/- Where the word with a number ends, by language's sets; plain. -/
namespace Go.Proofs.YtalipfnbpnkgnaaGreat
open Go.RowKit

theorem asc_one {l : List Int} {x : Int} (hp : l.Pairwise (· < ·)) (h : ∀ t, t ∈ l ↔ t = x) : l = [x] := by
  cases l with
  | nil => exact absurd ((h x).2 rfl) (by simp)
  | cons a r =>
    have ha : a = x := (h a).1 (by simp)
    cases r with
    | nil => rw [ha]
    | cons b r =>
      have hb : b = x := (h b).1 (by simp)
      have := (List.pairwise_cons.1 hp).1 b (by simp)
      omega
theorem asc_uniq {l : List E3} (h : AscL l) {x y : E3} (hx : x ∈ l) (hy : y ∈ l) (he : x.l = y.l) : x = y := by
  obtain ⟨hp, -⟩ := h
  induction l with
  | nil => cases hx
  | cons a r ih =>
    obtain ⟨h1, h2⟩ := List.pairwise_cons.1 hp
    rcases List.mem_cons.1 hx with h3 | hx <;> rcases List.mem_cons.1 hy with h4 | hy
    · rw [h3, h4]
    · have := h1 y hy; rw [h3] at he; omega
    · have := h1 x hx; rw [h4] at he; omega
    · exact ih hx hy h2
theorem stepR_one {L S : Int} {es : List E3} (hE : eck L S es = 0) {s : Int} {e : E3} (he : e ∈ outE es s) : stepR es e.l [s] = [e.t] := by
  refine asc_one (stepR_sorted _ _ _) fun t => ?_
  rw [mem_stepR]
  have hm := List.mem_filter.1 he
  have hf : e.f = s := by simpa using hm.2
  constructor
  · rintro ⟨x, hx, h1, h2, rfl⟩
    have hxs : x.f = s := by simpa using h1
    have := asc_uniq (outE_asc hE s) (List.mem_filter.2 ⟨hx, by simpa using hxs⟩) he h2
    rw [this]
  · rintro rfl
    exact ⟨e, hm.1, by simp [hf], rfl, rfl⟩
theorem efold_ur {L S : Int} {es : List E3} (hE : eck L S es = 0) (p : Int → Bool) : ∀ (n : Nat) (s a : Int), 0 ≤ a → a < cw es p n s → efold es (ur es p n s a).1 [s] = [(ur es p n s a).2]
  | 0, _, _, _, _ => rfl
  | n + 1, s, a, h0, h1 => by
    rw [cw_succ] at h1
    have hf := urGo_found h1 h0
    have hb := urGo_bd es p n (outE es s) a h0
    rw [ur]
    rcases hu : urGo es p n (outE es s) a with ⟨_ | e, a'⟩
    · rw [hu] at hf; exact absurd rfl hf
    · have hm := urGo_mem (es := es) (p := p) (k := n) (l := outE es s) (a := a) (e := e) (by rw [hu])
      rw [hu] at hb hm
      dsimp only at hb hm ⊢
      have hl := (outE_asc hE s).2 e hm.1
      rw [efold, lbL_letL hl.1 hl.2, stepR_one hE hm.1]
      exact efold_ur hE p n e.t a' hb.1 hm.2
end Go.Proofs.YtalipfnbpnkgnaaGreat

/- Of two numbers the lesser one has the lesser word, in plain Lean. -/
namespace Go.Proofs.YtalipfnbpnkgnaaGreat
open Go.RowKit

theorem less_irr : ∀ x : List UInt8, Op.bytesLess x x = false
  | [] => rfl
  | a :: x => by
    rw [Op.bytesLess, less_irr x]
    simp
theorem less_asym : ∀ {x y : List UInt8}, Op.bytesLess x y = true → Op.bytesLess y x = false
  | _, [], h => by simp [Op.bytesLess] at h
  | [], _ :: _, _ => rfl
  | a :: x, b :: y, h => by
    rw [Op.bytesLess] at h ⊢
    simp only [Bool.or_eq_true, decide_eq_true_eq, Bool.and_eq_true, beq_iff_eq] at h
    rcases h with h | ⟨rfl, h⟩
    · have h1 : a.toNat < b.toNat := UInt8.lt_iff_toNat_lt.1 h
      have h2 : ¬ b < a := fun h2 => by have := UInt8.lt_iff_toNat_lt.1 h2; omega
      have h3 : ¬ b = a := fun e => by rw [e] at h1; omega
      simp [h2, h3]
    · rw [less_asym h]; simp
theorem less_ne {x y : List UInt8} (h : Op.bytesLess x y = true) : ¬ x = y := fun e => by
  rw [e, less_irr] at h; cases h
theorem urGo_mono {es : List E3} {p : Int → Bool} {k : Nat} : ∀ {l : List E3} {a b a' b' : Int} {x y : E3}, AscL l → a < b → urGo es p k l a = (some x, a') → urGo es p k l b = (some y, b') → x.l < y.l ∨ x = y ∧ a' < b'
  | [], _, _, _, _, _, _, _, _, h, _ => by simp [urGo] at h
  | e :: l, a, b, a', b', x, y, hl, hab, h1, h2 => by
    obtain ⟨hp, hr⟩ := hl
    obtain ⟨hp1, hp2⟩ := List.pairwise_cons.1 hp
    rw [urGo] at h1 h2
    by_cases ca : a < cw es p k e.t
    · rw [if_pos ca] at h1
      obtain ⟨rfl, rfl⟩ : e = x ∧ a = a' := by simpa using h1
      by_cases cb : b < cw es p k e.t
      · rw [if_pos cb] at h2
        obtain ⟨rfl, rfl⟩ : e = y ∧ b = b' := by simpa using h2
        exact .inr ⟨rfl, hab⟩
      · rw [if_neg cb] at h2
        have hm := (urGo_mem (es := es) (p := p) (k := k) (l := l) (a := b - cw es p k e.t) (e := y) (by rw [h2])).1
        exact .inl (hp1 y hm)
    · rw [if_neg ca] at h1
      rw [if_neg (by omega)] at h2
      exact urGo_mono ⟨hp2, fun z hz => hr z (by simp [hz])⟩ (by omega) h1 h2
theorem ur_less {L S : Int} {es : List E3} (hE : eck L S es = 0) (p : Int → Bool) : ∀ (n : Nat) (s a b : Int), 0 ≤ a → a < b → b < cw es p n s → Op.bytesLess (ur es p n s a).1 (ur es p n s b).1 = true
  | 0, s, a, b, h0, h1, h2 => by
    rw [cw] at h2
    split at h2 <;> omega
  | n + 1, s, a, b, h0, h1, h2 => by
    have h2' := h2
    rw [cw_succ] at h2'
    have fa := urGo_found (es := es) (p := p) (k := n) (l := outE es s) (a := a) (by omega) h0
    have fb := urGo_found h2' (by omega)
    have ba := urGo_bd es p n (outE es s) a h0
    have bb' := urGo_bd es p n (outE es s) b (by omega)
    rw [ur, ur]
    rcases hu : urGo es p n (outE es s) a with ⟨_ | x, a'⟩
    · rw [hu] at fa; exact absurd rfl fa
    · rcases hv : urGo es p n (outE es s) b with ⟨_ | y, b'⟩
      · rw [hv] at fb; exact absurd rfl fb
      · have hA := outE_asc hE s
        have mx := urGo_mem (es := es) (p := p) (k := n) (l := outE es s) (a := a) (e := x) (by rw [hu])
        have my := urGo_mem (es := es) (p := p) (k := n) (l := outE es s) (a := b) (e := y) (by rw [hv])
        have hm := urGo_mono hA h1 hu hv
        rw [hu] at ba mx
        rw [hv] at bb' my
        dsimp only at ba bb' mx my ⊢
        rw [Op.bytesLess]
        rcases hm with hm | ⟨rfl, hm⟩
        · have := letL_lt (hA.2 x mx.1).1 hm (hA.2 y my.1).2
          simp [this]
        · rw [ur_less hE p n x.t a' b' ba.1 hm my.2]
          simp
/-- The order of the words is the order of the numbers. -/
theorem ur_lss {L S : Int} {es : List E3} (hE : eck L S es = 0) {p : Int → Bool} {n : Nat} {s a b : Int} (ha : 0 ≤ a) (ha1 : a < cw es p n s) (hb : 0 ≤ b) (hb1 : b < cw es p n s) :
    Op.bytesLess (ur es p n s a).1 (ur es p n s b).1 = decide (a < b) ∧ (!(Op.bytesLess (ur es p n s a).1 (ur es p n s b).1 || (ur es p n s a).1 == (ur es p n s b).1)) = decide (b < a) := by
  by_cases h : a < b
  · have h1 := ur_less hE p n s a b ha h hb1
    rw [h1]
    exact ⟨by simp [h], by simp; omega⟩
  · by_cases h2 : b < a
    · have h1 := ur_less hE p n s b a hb h2 ha1
      have h3 := less_asym h1
      have h4 : ((ur es p n s a).1 == (ur es p n s b).1) = false := by
        have := less_ne h1
        simp only [beq_eq_false_iff_ne, ne_eq]
        exact fun e => this e.symm
      rw [h3, h4]
      exact ⟨by simp; omega, by simp [h2]⟩
    · obtain rfl : a = b := by omega
      rw [less_irr]
      exact ⟨by simp, by simp⟩
theorem ur_mem {es : List E3} {p : Int → Bool} : ∀ (n : Nat) (s a : Int), ∀ c ∈ (ur es p n s a).1, ∃ e ∈ es, c = letL e.l
  | 0, s, a, c, h => by simp [ur] at h
  | n + 1, s, a, c, h => by
    rw [ur] at h
    rcases hu : urGo es p n (outE es s) a with ⟨_ | e, a'⟩
    · rw [hu] at h; exact ur_mem n s a' c h
    · rw [hu] at h
      have hm := (urGo_mem (es := es) (p := p) (k := n) (l := outE es s) (a := a) (e := e) (by rw [hu])).1
      rcases List.mem_cons.1 h with h | h
      · exact ⟨e, (List.mem_filter.1 hm).1, h⟩
      · exact ur_mem n e.t a' c h
theorem letL_is {L x : Int} (h0 : 0 ≤ x) (h1 : x < L) (h2 : L ≤ 16) : isLetter L.toNat (letL x) = true := by
  have h : ∀ (i : Fin 17) (j : Fin 16), j.val < i.val → isLetter i.val (letters.getD j.val 0) = true := by decide
  exact h ⟨L.toNat, by omega⟩ ⟨x.toNat, by omega⟩ (by show x.toNat < L.toNat; omega)
/-- Words with numbers are words over the letters. -/
theorem ur_ckw {L S : Int} {es : List E3} (hE : eck L S es = 0) (p : Int → Bool) (n : Nat) (hn : n ≤ 4096) (s a : Int) (ha : 0 ≤ a) (ha1 : a < cw es p n s) : ckw L (ur es p n s a).1 = 0 := by
  obtain ⟨hc, hL, hd⟩ := eck_zero hE
  have hca := chk_all hc
  have hl := ur_length n s a ha ha1
  have hw : wchk L (ur es p n s a).1 = 0 := by
    unfold wchk
    rw [if_neg (by omega), if_neg (by rw [hl]; omega), if_pos]
    rw [List.all_eq_true]
    intro c hcm
    obtain ⟨e, he, rfl⟩ := ur_mem n s a c hcm
    have := hca.2.2.2.2 e he
    unfold edgeBad at this
    exact letL_is (by omega) (by omega) (by omega)
  unfold ckw
  rw [hw, if_neg (by simp), if_neg (by rw [hl]; omega)]
end Go.Proofs.YtalipfnbpnkgnaaGreat

/- Every word from a state has a number; plain. -/
namespace Go.Proofs.YtalipfnbpnkgnaaGreat
open Go.RowKit

theorem letL_lbL : ∀ i : Fin 256, 0 ≤ lbL (UInt8.ofNat i.val) → letL (lbL (UInt8.ofNat i.val)) = UInt8.ofNat i.val := by decide +kernel
theorem letL_of_lbL {c : UInt8} (h : 0 ≤ lbL c) : letL (lbL c) = c := by
  have h2 := letL_lbL ⟨c.toNat, c.toNat_lt⟩
  dsimp only at h2
  rw [show UInt8.ofNat c.toNat = c by simp] at h2
  exact h2 h
theorem urGo_at {es : List E3} {p : Int → Bool} {k : Nat} {e : E3} {post : List E3} : ∀ {pre : List E3} {a : Int}, 0 ≤ a → a < cw es p k e.t →
    urGo es p k (pre ++ e :: post) ((pre.map fun x => cw es p k x.t).sum + a) = (some e, a)
  | [], a, _, h => by
    rw [List.nil_append, urGo, List.map_nil, List.sum_nil, Int.zero_add, if_pos h]
  | x :: pre, a, h0, h => by
    have hs : 0 ≤ (pre.map fun x => cw es p k x.t).sum := by
      have : ∀ l : List E3, 0 ≤ (l.map fun x => cw es p k x.t).sum := fun l => by
        induction l with
        | nil => simp
        | cons y l ih => rw [List.map_cons, List.sum_cons]; have := cw_nonneg es p k y.t; omega
      exact this pre
    rw [List.cons_append, urGo, List.map_cons, List.sum_cons, if_neg (by omega)]
    rw [show cw es p k x.t + (pre.map fun x => cw es p k x.t).sum + a - cw es p k x.t = (pre.map fun x => cw es p k x.t).sum + a by omega]
    exact urGo_at h0 h
theorem ur_surj {L S : Int} {es : List E3} (hE : eck L S es = 0) : ∀ (w : List UInt8) (s : Int), efold es w [s] ≠ [] → ∃ a : Int, 0 ≤ a ∧ a < cw es allP w.length s ∧ (ur es allP w.length s a).1 = w
  | [], s, _ => ⟨0, Int.le_refl _, by rw [List.length_nil, cw]; exact (by decide : (0 : Int) < if true = true then 1 else 0), rfl⟩
  | c :: w, s, h => by
    rw [efold] at h
    have hne : stepR es (lbL c) [s] ≠ [] := fun e => by rw [e, efold_none] at h; exact h rfl
    obtain ⟨t, ht⟩ := List.exists_mem_of_ne_nil _ hne
    obtain ⟨e, he, hf, hl, -⟩ := mem_stepR.1 ht
    have heo : e ∈ outE es s := List.mem_filter.2 ⟨he, by simpa using hf⟩
    have hst := stepR_one hE heo
    rw [hl] at hst
    rw [hst] at h
    obtain ⟨a, h0, h1, h2⟩ := ur_surj hE w e.t h
    obtain ⟨pre, post, hpp⟩ := List.append_of_mem heo
    have hgo := urGo_at (es := es) (p := allP) (k := w.length) (e := e) (post := post) (pre := pre) h0 h1
    have hs : ∀ l : List E3, 0 ≤ (l.map fun x => cw es allP w.length x.t).sum := fun l => by
      induction l with
      | nil => simp
      | cons y l ih => rw [List.map_cons, List.sum_cons]; have := cw_nonneg es allP w.length y.t; omega
    have hp1 := hs pre
    have hp2 := hs post
    refine ⟨(pre.map fun x => cw es allP w.length x.t).sum + a, by omega, ?_, ?_⟩
    · rw [List.length_cons, cw_succ, hpp, List.map_append, List.sum_append, List.map_cons, List.sum_cons]
      omega
    · rw [List.length_cons, ur, hpp, hgo]
      dsimp only
      have hlr := (outE_asc hE s).2 e heo
      rw [h2, hl, letL_of_lbL (by omega)]
/-- The words of n letters from a state, by their numbers. -/
def allW (es : List E3) (n : Nat) (s : Int) : List (List UInt8) := (List.range (cw es allP n s).toNat).map fun (a : Nat) => (ur es allP n s (a : Int)).1
theorem allW_mem {L S : Int} {es : List E3} (hE : eck L S es = 0) {n : Nat} {s : Int} {w : List UInt8} : w ∈ allW es n s ↔ w.length = n ∧ efold es w [s] ≠ [] := by
  unfold allW
  rw [List.mem_map]
  constructor
  · rintro ⟨a, ha, rfl⟩
    have ha2 := List.mem_range.1 ha
    have h1 : (a : Int) < cw es allP n s := by omega
    refine ⟨ur_length n s a (by omega) h1, ?_⟩
    rw [efold_ur hE allP n s a (by omega) h1]
    simp
  · rintro ⟨rfl, h⟩
    obtain ⟨a, h0, h1, h2⟩ := ur_surj hE w s h
    exact ⟨a.toNat, List.mem_range.2 (by omega), by rw [show ((a.toNat : Nat) : Int) = a by omega]; exact h2⟩
theorem allW_asc {L S : Int} {es : List E3} (hE : eck L S es = 0) (n : Nat) (s : Int) : (allW es n s).Pairwise fun x y => Op.bytesLess x y = true := by
  unfold allW
  rw [List.pairwise_map]
  refine List.Pairwise.imp_of_mem (R := fun a b : Nat => a < b) (fun {a b} ha hb hab => ?_) List.pairwise_lt_range
  have hb2 := List.mem_range.1 hb
  exact ur_less hE allP n s a b (by omega) (by omega) (by omega)
end Go.Proofs.YtalipfnbpnkgnaaGreat

