/- Contracts and plain laws of several functions, one after the other: LetL, PlainK, PlainK2, Marks, PlainU2. -/
import Derived.RangeFuncNested
import Derived.RangeFuncBound
import Derived.RangeFuncCalls
import Derived.RangeFuncLeaves
import Derived.RangeFuncBox
import Derived.RangeFuncOne
import Derived.Shelf.Abstract
import Derived.WalkKit
import Derived.Test.YtalipfnbpnkgnaaGreatPart5
import Derived.Test.YtalipfnbpnkgnaaGreatGold
import Derived.Test.YtalipfnbpnkgnaaGreatELeave
import Derived.Test.YtalipfnbpnkgnaaGreatETab
import Derived.Test.YtalipfnbpnkgnaaGreatCheck
import Derived.Test.YtalipfnbpnkgnaaGreatBld
/- The letter of a label. -/
namespace Go.Proofs.YtalipfnbpnkgnaaGreat
open Go.RowKit

/-- The letter of a label. -/
def letL (l : Int) : UInt8 := letters.getD l.toNat 0
end Go.Proofs.YtalipfnbpnkgnaaGreat

/- What rank and unrank compute, in plain Lean. -/
namespace Go.Proofs.YtalipfnbpnkgnaaGreat
open Go.RowKit

/-- The edges that leave a state, in order. -/
def outE (es : List E3) (s : Int) : List E3 := es.filter fun e => e.f == s
/-- rank's inner loop: what is added until the edge with the letter is met. -/
def rkGo (es : List E3) (p : Int → Bool) (k : Nat) (c : UInt8) : List E3 → Int → Int × Option Int
  | [], sum => (sum, none)
  | e :: r, sum => if letL e.l = c then (sum, some e.t) else rkGo es p k c r (sum + cw es p k e.t)
/-- rank. -/
def rk (es : List E3) (p : Int → Bool) : List UInt8 → Int → Int → Option (Int × Int)
  | [], s, sum => some (sum, s)
  | c :: w, s, sum => match rkGo es p w.length c (outE es s) sum with
    | (sum', some t) => rk es p w t sum'
    | (_, none) => none
/-- unrank's inner loop: the first edge whose words are more than what is left. -/
def urGo (es : List E3) (p : Int → Bool) (k : Nat) : List E3 → Int → Option E3 × Int
  | [], a => (none, a)
  | e :: r, a => if a < cw es p k e.t then (some e, a) else urGo es p k r (a - cw es p k e.t)
/-- unrank: what is left of the word, and where it ends. -/
def ur (es : List E3) (p : Int → Bool) : Nat → Int → Int → List UInt8 × Int
  | 0, s, _ => ([], s)
  | n + 1, s, a => match urGo es p n (outE es s) a with
    | (some e, a') => (letL e.l :: (ur es p n e.t a').1, (ur es p n e.t a').2)
    | (none, a') => ur es p n s a'
theorem gold_rank : rk goldE (fun _ => true) [48, 49, 48] 0 0 = some (2, 0) := by decide
theorem gold_unrank : ur goldE (fun _ => true) 3 0 4 = ([49, 48, 49], 1) := by decide
end Go.Proofs.YtalipfnbpnkgnaaGreat

/- rank's and unrank's inner loops along a prefix, and bounds, in plain Lean. -/
namespace Go.Proofs.YtalipfnbpnkgnaaGreat
open Go.RowKit

theorem rkGo_append (es : List E3) (p : Int → Bool) (k : Nat) (c : UInt8) (r : List E3) : ∀ (l : List E3) (sum : Int),
    rkGo es p k c (l ++ r) sum = if (rkGo es p k c l sum).2 = none then rkGo es p k c r (rkGo es p k c l sum).1 else rkGo es p k c l sum
  | [], sum => by simp [rkGo]
  | e :: l, sum => by
    rw [List.cons_append, rkGo, rkGo]
    split
    · simp
    · exact rkGo_append es p k c r l _
def bigE : Nat := 4096
def bigM : Int := ((65536 ^ bigE : Nat) : Int)
theorem bigM_nonneg : 0 ≤ bigM := Int.natCast_nonneg _
theorem cw_bigM {es : List E3} (hl : es.length ≤ 65536) (p : Int → Bool) (k : Nat) (hk : k ≤ 4096) (s : Int) : 0 ≤ cw es p k s ∧ cw es p k s ≤ bigM := by
  refine ⟨cw_nonneg es p k s, Int.le_trans (cw_le_len es p k s) ?_⟩
  unfold bigM
  have h3 : es.length ^ k ≤ 65536 ^ k := Nat.pow_le_pow_left hl k
  have h4 : 65536 ^ k ≤ 65536 ^ bigE := Nat.pow_le_pow_right (by decide) hk
  exact Int.ofNat_le.2 (Nat.le_trans h3 h4)
/-- A sum of at most j numbers of words. -/
def SumOk (j : Nat) (x : Int) : Prop := 0 ≤ x ∧ x ≤ (j : Int) * bigM
theorem SumOk.add {j : Nat} {x y : Int} (h : SumOk j x) (hy : 0 ≤ y ∧ y ≤ bigM) : SumOk (j + 1) (x + y) := by
  refine ⟨by have := h.1; omega, ?_⟩
  have h2 := h.2
  rw [show ((j + 1 : Nat) : Int) * bigM = (j : Int) * bigM + bigM by rw [Int.natCast_succ, Int.add_mul, Int.one_mul]]
  omega
theorem SumOk.mono {i j : Nat} {x : Int} (h : SumOk i x) (hij : i ≤ j) : SumOk j x := by
  refine ⟨h.1, Int.le_trans h.2 ?_⟩
  exact Int.mul_le_mul_of_nonneg_right (Int.ofNat_le.2 hij) bigM_nonneg
theorem SumOk.small {j : Nat} {x : Int} (h : SumOk j x) (hj : j ≤ 16777216) : small x := by
  have h2 := h.2
  have h1 := h.1
  refine small_of (m := 3 + 2 * bigE + 1) ?_ (by unfold bigE; decide)
  obtain ⟨y, rfl⟩ : ∃ y : Nat, x = y := ⟨x.toNat, by omega⟩
  have h3 : y ≤ j * 65536 ^ bigE := by
    unfold bigM at h2
    exact Int.ofNat_le.1 (by rw [Int.natCast_mul]; exact h2)
  have h4 : j * 65536 ^ bigE ≤ 256 ^ 3 * 256 ^ (2 * bigE) := by
    have e1 : (65536 : Nat) ^ bigE = 256 ^ (2 * bigE) := by
      rw [show (65536 : Nat) = 256 ^ 2 by decide, ← Nat.pow_mul]
    rw [e1]
    exact Nat.mul_le_mul_right _ (Nat.le_trans hj (by decide))
  rw [← Nat.pow_add] at h4
  have h5 : 256 ^ (3 + 2 * bigE) < 256 ^ (3 + 2 * bigE + 1) := Nat.pow_lt_pow_right (by decide) (Nat.lt_succ_self _)
  rw [Int.natAbs_natCast]
  exact Nat.lt_of_le_of_lt (Nat.le_trans h3 h4) h5
theorem rkGo_ok {es : List E3} (hl : es.length ≤ 65536) (p : Int → Bool) (k : Nat) (hk : k ≤ 4096) (c : UInt8) : ∀ (l : List E3) (j : Nat) (sum : Int), SumOk j sum → SumOk (j + l.length) (rkGo es p k c l sum).1
  | [], _, _, h => h
  | e :: l, j, sum, h => by
    rw [rkGo]
    split
    · exact h.mono (by simp)
    · have := rkGo_ok hl p k hk c l (j + 1) _ (h.add (cw_bigM hl p k hk e.t))
      exact this.mono (by simp; omega)
/-- A walk that stopped in a prefix. -/
theorem rkGo_prefix {es : List E3} {p : Int → Bool} {k : Nat} {c : UInt8} {pre l : List E3} {sum t : Int} (h : pre <+: l) (ht : (rkGo es p k c pre sum).2 = some t) : rkGo es p k c l sum = ((rkGo es p k c pre sum).1, some t) := by
  obtain ⟨r, rfl⟩ := h
  rw [rkGo_append, if_neg (by rw [ht]; simp)]
  exact Prod.ext rfl ht
theorem rkGo_snoc_no {es : List E3} {p : Int → Bool} {k : Nat} {c : UInt8} {pre : List E3} {e : E3} {sum : Int} (h : (rkGo es p k c pre sum).2 = none) (hc : ¬ letL e.l = c) : rkGo es p k c (pre ++ [e]) sum = ((rkGo es p k c pre sum).1 + cw es p k e.t, none) := by
  rw [rkGo_append, if_pos h, rkGo, if_neg hc, rkGo]
theorem rkGo_snoc_yes {es : List E3} {p : Int → Bool} {k : Nat} {c : UInt8} {pre : List E3} {e : E3} {sum : Int} (h : (rkGo es p k c pre sum).2 = none) (hc : letL e.l = c) : rkGo es p k c (pre ++ [e]) sum = ((rkGo es p k c pre sum).1, some e.t) := by
  rw [rkGo_append, if_pos h, rkGo, if_pos hc]
theorem lvA_out (s : Int) (es : List E3) : (lvA s es es.length).map (fun e => e.1) = outE es s := by
  rw [lvA_map, List.take_length]; rfl
theorem rkGo_mem {es : List E3} {p : Int → Bool} {k : Nat} {c : UInt8} : ∀ {l : List E3} {sum t : Int}, (rkGo es p k c l sum).2 = some t → ∃ e ∈ l, e.t = t
  | [], _, _, h => by cases h
  | e :: l, sum, t, h => by
    rw [rkGo] at h
    split at h
    · exact ⟨e, by simp, by injection h⟩
    · obtain ⟨e', h1, h2⟩ := rkGo_mem h
      exact ⟨e', by simp [h1], h2⟩
end Go.Proofs.YtalipfnbpnkgnaaGreat

/- Marks of loops over functions: blocks that hold no calls; what an owner keeps. -/
namespace Go.Proofs.YtalipfnbpnkgnaaGreat
open Go.RowKit Go.Shelf

def mkD (D : Nat) : Deferred := { target := .collected D, args := #[] }
theorem ownFrom_ds {β : Type} {B N : Nat} {Ds : List Nat} (h : ∀ D ∈ Ds, D < B) : OwnFrom B (fun (_ : β) W => (∀ D ∈ Ds, W.heap[D]? = some (.deferred (some []))) ∧ N ≤ W.heap.size) := by
  intro s X Y row hs hg hr
  refine ⟨fun D hD => ?_, Nat.le_trans hs.2 hg.size⟩
  have hX := hs.1 D hD
  refine (hg.block D (Array.getElem?_eq_some_iff.1 hX).1 (fun e => ?_)).trans hX
  have := (hr D e.symm).1
  have := h D hD
  omega
theorem blk_ownF {B b : Nat} {t : TypeId} {xs : List Value} : OwnFrom B (fun (_ : Unit) W => Blk W b t xs) := by
  intro s X Y row hs hg hr
  refine hs.of_block (hg.block b hs.lt (fun e => ?_))
  obtain ⟨_, o, ho, hc⟩ := hr b e.symm
  unfold Blk at hs
  rw [hs] at ho
  cases ho; cases hc
/-- Leaving with marks whose blocks hold no calls. -/
theorem leaves_marks {F : Fence} {n : Nat} {P : Program} {fn : Func} {tmps : Array Value} {R : Ending → World → Prop} (B : Nat) (Kx : World → Prop)
    (hst : ∀ W D, B ≤ D → Kx W → W.heap[D]? = some (.deferred (some [])) → Kx (W.putObj D (.deferred none))) (hfin : ∀ W, Kx W → LeavesInM F n P fn tmps R [] .returning W) :
    ∀ (Ds : List Nat) (W : World), Kx W → (∀ D ∈ Ds, W.heap[D]? = some (.deferred (some []))) → Ds.Nodup → (∀ D ∈ Ds, B ≤ D) → LeavesInM F n P fn tmps R (Ds.map mkD) .returning W
  | [], W, hk, _, _, _ => hfin W hk
  | D :: Ds, W, hk, hD, hnd, hB => by
    rw [List.nodup_cons] at hnd
    refine ⟨by simp, .inl ⟨D, _, rfl, run_takeDeferred (hD D (by simp)), ?_⟩⟩
    refine leaves_marks B Kx hst hfin Ds _ (hst W D (hB D (by simp)) hk (hD D (by simp))) (fun D' hD' => ?_) hnd.2 (fun D' hD' => hB D' (by simp [hD']))
    have hne : D' ≠ D := fun e => hnd.1 (e ▸ hD')
    exact (World.putObj_heap_other hne).trans (hD D' (by simp [hD']))
/-- A block whose cells hang on the state. -/
theorem blk_ownS {β : Type} {B b : Nat} {t : TypeId} (f : β → List Value) : OwnFrom B (fun (s : β) W => Blk W b t (f s)) := by
  intro s X Y row hs hg hr
  exact blk_ownF (B := B) () X Y row hs hg hr
theorem ownFrom_pred {β : Type} (B : Nat) (q : β → Prop) : OwnFrom B (fun s (_ : World) => q s) := fun _ _ _ _ hs _ _ => hs
end Go.Proofs.YtalipfnbpnkgnaaGreat

/- unrank's inner loop along a prefix, in plain Lean; builders that the walk keeps. -/
namespace Go.Proofs.YtalipfnbpnkgnaaGreat
open Go.RowKit Go.Shelf

theorem urGo_append (es : List E3) (p : Int → Bool) (k : Nat) (r : List E3) : ∀ (l : List E3) (a : Int),
    urGo es p k (l ++ r) a = if (urGo es p k l a).1 = none then urGo es p k r (urGo es p k l a).2 else urGo es p k l a
  | [], a => by simp [urGo]
  | e :: l, a => by
    rw [List.cons_append, urGo, urGo]
    split
    · simp
    · exact urGo_append es p k r l _
theorem urGo_snoc_no {es : List E3} {p : Int → Bool} {k : Nat} {pre : List E3} {e : E3} {a : Int} (h : (urGo es p k pre a).1 = none) (hc : ¬ (urGo es p k pre a).2 < cw es p k e.t) : urGo es p k (pre ++ [e]) a = (none, (urGo es p k pre a).2 - cw es p k e.t) := by
  rw [urGo_append, if_pos h, urGo, if_neg hc, urGo]
theorem urGo_snoc_yes {es : List E3} {p : Int → Bool} {k : Nat} {pre : List E3} {e : E3} {a : Int} (h : (urGo es p k pre a).1 = none) (hc : (urGo es p k pre a).2 < cw es p k e.t) : urGo es p k (pre ++ [e]) a = (some e, (urGo es p k pre a).2) := by
  rw [urGo_append, if_pos h, urGo, if_pos hc]
theorem urGo_prefix {es : List E3} {p : Int → Bool} {k : Nat} {pre l : List E3} {a : Int} {e : E3} (h : pre <+: l) (ht : (urGo es p k pre a).1 = some e) : urGo es p k l a = (some e, (urGo es p k pre a).2) := by
  obtain ⟨r, rfl⟩ := h
  rw [urGo_append, if_neg (by rw [ht]; simp)]
  exact Prod.ext ht rfl
/-- What is left stays between 0 and what there was. -/
theorem urGo_bd (es : List E3) (p : Int → Bool) (k : Nat) : ∀ (l : List E3) (a : Int), 0 ≤ a → 0 ≤ (urGo es p k l a).2 ∧ (urGo es p k l a).2 ≤ a
  | [], a, h => by rw [urGo]; exact ⟨h, Int.le_refl _⟩
  | e :: l, a, h => by
    rw [urGo]
    have h0 := cw_nonneg es p k e.t
    split
    · exact ⟨h, Int.le_refl _⟩
    · have := urGo_bd es p k l (a - cw es p k e.t) (by omega)
      exact ⟨this.1, by omega⟩
theorem urGo_mem {es : List E3} {p : Int → Bool} {k : Nat} : ∀ {l : List E3} {a : Int} {e : E3}, (urGo es p k l a).1 = some e → e ∈ l ∧ (urGo es p k l a).2 < cw es p k e.t
  | [], _, _, h => by cases h
  | x :: l, a, e, h => by
    rw [urGo] at h ⊢
    split at h
    · rename_i hc
      rw [if_pos hc]
      have hx : x = e := by injection h
      exact ⟨by simp [hx], by rw [← hx]; exact hc⟩
    · rename_i hc
      rw [if_neg hc]
      obtain ⟨h1, h2⟩ := urGo_mem h
      exact ⟨by simp [h1], h2⟩
theorem urGo_found {es : List E3} {p : Int → Bool} {k : Nat} : ∀ {l : List E3} {a : Int}, a < (l.map fun e => cw es p k e.t).sum → 0 ≤ a → (urGo es p k l a).1 ≠ none
  | [], a, h, h0 => by simp at h; omega
  | e :: l, a, h, h0 => by
    rw [urGo]
    split
    · simp
    · rw [List.map_cons, List.sum_cons] at h
      exact urGo_found (by omega) (by omega)
theorem cw_succ (es : List E3) (p : Int → Bool) (k : Nat) (s : Int) : cw es p (k + 1) s = ((outE es s).map fun e => cw es p k e.t).sum := rfl

/-- Where the walk's measure is read: the box of the loop's variable. -/
def mI (a : Act) (w : World) : Nat := match a.tmps.getD 14 undef with
  | .pointer (some p) => match w.cell? p with
    | some (.int _ i) => (i + 1).toNat
    | _ => 0
  | _ => 0
theorem mI_eq {a : Act} {w : World} {p : Addr} {k : IntKind} {i : Int} (h : a.tmps.getD 14 undef = .pointer (some p)) (hc : w.cell? p = some (.int k i)) : mI a w = (i + 1).toNat := by
  unfold mI; rw [h]; dsimp only; rw [hc]

abbrev IsB (N : Nat) (acc : List UInt8) (w : World) : Prop := Lib.IsBuilder 79 5 N N (Lib.byteCells acc) w
theorem isB_grown {N : Nat} {acc : List UInt8} {w w' : World} {row : Option Nat} (h : IsB N acc w) (hg : w.grownBy w' row) (hr : ∀ k, row = some k → k ≠ N ∧ ∀ c fz, w.heap[k]? ≠ some (.cells c 5 fz)) : IsB N acc w' := by
  have key : ∀ p : Value, Lib.BuilderAt 79 5 N N p (Lib.byteCells acc) w → Lib.BuilderAt 79 5 N N p (Lib.byteCells acc) w' := by
    rintro p ⟨hB, v, hb, hown, hne⟩
    refine ⟨hB, v, (hg.block N (Array.getElem?_eq_some_iff.1 hb).1 (fun e => (hr N e.symm).1 rfl)).trans hb, hown.kept hg ?_, hne⟩
    rcases hown.2 with ⟨rfl, _⟩ | ⟨g, cap, cur, rfl, _, hgb, _⟩
    · exact .inl rfl
    · refine .inr fun e' => ?_
      exact (hr g (by simpa [Value.ownBlock] using e'.symm)).2 _ _ hgb
  exact h.elim (fun x => .inl (key _ x)) (fun x => .inr (key _ x))
theorem isB_keep {N : Nat} {acc : List UInt8} {w w' : World} (h : IsB N acc w) (k : Below w.heap.size w w') : IsB N acc w' :=
  isB_grown (row := none) h ⟨k.os, k.tape, k.output, k.size, fun j hj _ => k.block j hj⟩ (fun _ e => by cases e)
theorem isB_alloc {N : Nat} {acc : List UInt8} {w : World} (h : IsB N acc w) (o : Obj) : IsB N acc (w.alloc o) := isB_keep h ((Below.refl _ _).alloc (Nat.le_refl _) o)
theorem isB_set {N b : Nat} {acc : List UInt8} {w : World} {t : TypeId} {xs : List Value} (h : IsB N acc w) (hb : Blk w b t xs) (hN : b ≠ N) (ht : t ≠ 5) (j : Nat) (u : Value) : IsB N acc (w.setCell ⟨b, j, none⟩ u) :=
  isB_grown (row := some b) h ⟨rfl, rfl, rfl, (KeepsWalks.setCell w _ u).size, fun k _ hk => Below.heap_setCell _ _ _ k (fun e => hk (by rw [e]))⟩ (fun k e => by
    obtain rfl := Option.some.inj e
    refine ⟨hN, fun c fz hc => ?_⟩
    unfold Blk at hb
    rw [hb] at hc
    simp only [Option.some.injEq, Obj.cells.injEq] at hc
    exact ht hc.2.1)
theorem isB_ownS {β : Type} {B N : Nat} (f : β → List UInt8) : OwnFrom B (fun (s : β) W => IsB N (f s) W) := by
  intro s X Y row hs hg hr
  refine isB_grown hs hg (fun k e => ?_)
  obtain ⟨_, o, ho, hc⟩ := hr k e
  refine ⟨fun e2 => ?_, fun c fz hx => ?_⟩
  · subst e2
    rcases hs with ⟨_, v, hb, _⟩ | ⟨_, v, hb, _⟩ <;> (rw [hb] at ho; cases ho; cases hc)
  · rw [hx] at ho; cases ho; cases hc
theorem isB_lt {N : Nat} {acc : List UInt8} {w : World} (h : IsB N acc w) : N < w.heap.size := by
  rcases h with ⟨_, v, hb, _⟩ | ⟨_, v, hb, _⟩ <;> exact (Array.getElem?_eq_some_iff.1 hb).1
theorem isB_new (w : World) : IsB w.heap.size [] (w.alloc (.cells #[.pointer none, .slice none 0 0] 79)) :=
  .inl ⟨Nat.le_refl _, .slice none 0 0, World.alloc_heap_new w _, World.ownsRow_nil _ _ _ _, by simp [Value.ownBlock]⟩
theorem blk_others {N b : Nat} {w w' : World} {t : TypeId} {xs : List Value} (h : Blk w b t xs) (k : Lib.OthersKept 5 (some N) w w') (hN : b ≠ N) (ht : t ≠ 5) : Blk w' b t xs :=
  k b _ h (fun e => hN (Option.some.inj e)) (fun c fz e => by injection e with _ e2; exact ht e2)
theorem bytes_snoc (acc : List UInt8) (c : UInt8) : Lib.byteCells acc ++ [.int .u8 (c.toNat : Int)] = Lib.byteCells (acc ++ [c]) := by simp [Lib.byteCells]
theorem wbyte_B (N : Nat) (acc : List UInt8) (c : UInt8) (w : World) (h : IsB N acc w) (hlen : acc.length ≤ 1000000000) :
    Calls Tryz.prog 82 #[.pointer (some ⟨N, 0, none⟩), .int .u8 (c.toNat : Int)] w fun e w' => e = .returned .nilIface ∧ IsB N (acc ++ [c]) w' ∧ Below N w w' ∧ Lib.OthersKept 5 (some N) w w' := by
  refine (wbyte_any N N (Lib.byteCells acc) (c.toNat : Int) w h (by rw [Lib.byteCells_length]; exact hlen) (Nat.le_of_lt (isB_lt h))).mono ?_
  rintro e w' ⟨h1, h2, h3, h4⟩
  rw [bytes_snoc] at h2
  exact ⟨h1, .inr h2, h3, h4⟩
end Go.Proofs.YtalipfnbpnkgnaaGreat

