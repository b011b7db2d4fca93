/- Contracts and plain laws of several functions, one after the other: Keep, Range, Round, RoundW, Marks, RangeB. -/
import Derived.RangeFuncNested
import Derived.OrdersIn
import Derived.Deep.RegionHeld3
import Derived.RangeFuncBound
import Derived.RangeFuncCalls
import Derived.RangeFuncLeaves
import Derived.RangeFuncBox
import Derived.RangeFuncOne
import Derived.Shelf.Abstract
import Derived.WalkKit
import Derived.Test.YtjpalbonclgflaaPart1
/- A block is kept by whatever leaves the old blocks alone. -/
namespace Go.Proofs.Ytjpalbonclgflaa
open Go.RowKit
theorem Blk.keep {w w' : World} {b : Nat} {t : TypeId} {xs : List Value} (h : Blk w b t xs) (k : Below w.heap.size w w') : Blk w' b t xs := h.below k h.lt
end Go.Proofs.Ytjpalbonclgflaa

/- A range over an iterator that writes its own variables and yields new rows: at its end it tells what it has yielded and where that lies. -/
namespace Go.Proofs.Ytjpalbonclgflaa
open Go.RowKit

structure Only (c : Nat → Obj → Prop) (A B : World) : Prop where
 os : B.os = A.os
 tape : B.tape = A.tape
 output : B.output = A.output
 size : A.heap.size ≤ B.heap.size
 same : ∀ b o, A.heap[b]? = some o → ¬ c b o → B.heap[b]? = some o
namespace Only
variable {c d : Nat → Obj → Prop} {A B C : World}
theorem refl (c : Nat → Obj → Prop) (A : World) : Only c A A := ⟨rfl, rfl, rfl, Nat.le_refl _, fun _ _ h _ => h⟩
theorem trans (h : Only c A B) (k : Only c B C) : Only c A C :=
 ⟨k.os.trans h.os, k.tape.trans h.tape, k.output.trans h.output, Nat.le_trans h.size k.size, fun b o hb hc => k.same b o (h.same b o hb hc) hc⟩
theorem mono (h : Only c A B) (hcd : ∀ b o, c b o → d b o) : Only d A B := ⟨h.os, h.tape, h.output, h.size, fun b o hb hd => h.same b o hb (fun e => hd (hcd b o e))⟩
theorem putObj {l : Nat} {o : Obj} (h : A.heap[l]? = some o) (hc : c l o) (o' : Obj) : Only c A (A.putObj l o') := by
 refine ⟨rfl, rfl, rfl, by simp, fun b ob hb hn => ?_⟩
 by_cases e : b = l
 ·
  subst e
  rw [h] at hb
  exact absurd (Option.some.inj hb ▸ hc) hn
 ·
  exact (World.putObj_heap_other e).trans hb
theorem alloc (c : Nat → Obj → Prop) (A : World) (o : Obj) : Only c A (A.alloc o) :=
 ⟨rfl, rfl, rfl, by simp, fun b _ hb _ => (Below.heap_alloc A o b (Array.getElem?_eq_some_iff.1 hb).1).trans hb⟩
theorem drew (c : Nat → Obj → Prop) (A : World) : Only c A A.drew := ⟨rfl, rfl, rfl, Nat.le_refl _, fun _ _ h _ => h⟩
theorem drewN (c : Nat → Obj → Prop) (A : World) (n : Nat) : Only c A (A.drewN n) := ⟨rfl, rfl, rfl, Nat.le_refl _, fun _ _ h _ => h⟩
theorem ofBelow (c : Nat → Obj → Prop) (h : Below A.heap.size A B) : Only c A B :=
 ⟨h.os, h.tape, h.output, h.size, fun b _ hb _ => (h.block b (Array.getElem?_eq_some_iff.1 hb).1).trans hb⟩
theorem setCell {a : Addr} (v : Value) (hc : ∀ o, A.heap[a.block]? = some o → c a.block o) : Only c A (A.setCell a v) := by
 refine ⟨?_, ?_, ?_, ?_, fun b o hb hn => ?_⟩
 ·
  have := (Below.refl 0 A).setCell (p := a) (Nat.zero_le _) v; exact this.os
 ·
  have := (Below.refl 0 A).setCell (p := a) (Nat.zero_le _) v; exact this.tape
 ·
  have := (Below.refl 0 A).setCell (p := a) (Nat.zero_le _) v; exact this.output
 ·
  have := (Below.refl 0 A).setCell (p := a) (Nat.zero_le _) v; exact this.size
 ·
  by_cases e : b = a.block
  ·
   subst e; exact absurd (hc o hb) hn
  ·
   exact (Below.heap_setCell _ _ _ b e).trans hb
theorem below (h : Only c A B) {n₀ : Nat} {w : World} (hb : Below n₀ w A) (hw : n₀ ≤ w.heap.size) (hn : ∀ b o, b < n₀ → ¬ c b o) : Below n₀ w B :=
 ⟨h.os.trans hb.os, h.tape.trans hb.tape, h.output.trans hb.output, Nat.le_trans hb.size h.size, fun k hk => by
  obtain ⟨o, ho⟩ : ∃ o, w.heap[k]? = some o := ⟨_, Array.getElem?_eq_getElem (by omega)⟩
  rw [ho]
  exact h.same k o ((hb.block k hk).trans ho) (hn k o hk)⟩
theorem blk (h : Only c A B) {b : Nat} {t : TypeId} {xs : List Value} (hb : Blk A b t xs) (hn : ∀ o, ¬ c b o) : Blk B b t xs := h.same b _ hb (hn _)
end Only

variable {α : Type} {F : Fence} {n : Nat} {P : Program}
def SeqV (F : Fence) (n : Nat) (P : Program) (gf : Nat) (lb : Array Value) (encs : α → Array Value) (cI cC : Nat → Obj → Prop) (S : List α → World → Prop) (w : World) : Prop :=
 ∀ (l : Nat) (J : List α → World → Prop) (W : World), Only (fun _ _ => False) w W → w.heap.size ≤ l →
  (∀ s A B, J s A → Only cI A B → J s B) →
  (∀ pre x W1, J pre W1 → YieldAt F (n - 1) P l (encs x) W1 fun e W' => e = .returned (.bool true) ∧ J (pre ++ [x]) W' ∧ Only cC W1 W') →
  J [] W →
  CallsIn F n P gf (#[.func (.yield l) #[] #[]] ++ lb) W fun e W' => (∃ v, e = .returned v) ∧ ∃ xs, S xs W' ∧ J xs W'

theorem range_v {g : Operand} {ps : Array Tmp} {assign body : Code} {Q : Exit → Act → World → Prop} {a : Act} {w : World}
  (hro : F.round = none) (h1 : 1 ≤ n) {gf : Nat} {lb : Array Value} (hg : a.eval g = .func (.func gf) #[] lb) (hFg : F.fn gf) (eg : ∀ args w, (callFunc gf args).run P w = .ok (.enter gf args) w)
  {encs : α → Array Value} {cI cC : Nat → Obj → Prop} {S : List α → World → Prop} (hseq : SeqV F (n - 1) P gf lb encs cI cC S w)
  (hcI : ∀ b o, cI b o → o.isCells = true) (hcC : ∀ b o, o.isCells = false → cC b o) (hps : ∀ x, (encs x).size = ps.size)
  (I : List α → World → Prop) (hI : ∀ s A B, I s A → Only (fun b o => cI b o ∨ (o.isCells = false ∧ w.heap.size ≤ b)) A B → I s B) (h0 : I [] w)
  (hS : ∀ xs A B, S xs A → Only (fun b o => o.isCells = false ∧ w.heap.size ≤ b) A B → S xs B) (a₁ : α → Act)
  (hassign : ∀ (l : Nat) (x : α) (W : World) (K : Act → World → Prop), K (a₁ x) W →
   assign.wpIn (F.inRound l) (n - 1 - 1) P (Exit.then K (fun _ _ _ => False)) { tmps := (ps.zip (encs x)).foldl (fun t (p, v) => t.setIfInBounds p v) a.tmps, defers := [] } W)
  (hbody : ∀ (l : Nat) (pre : List α) (x : α) (W : World), I pre W → body.wpIn (F.inRound l) (n - 1 - 1) P
   (fun e _ W' => e = .normal ∧ Only (fun b o => cC b o ∧ o.isCells = true) W W' ∧ I (pre ++ [x]) W') (a₁ x) W)
  (hdone : ∀ (D : Nat) (xs : List α) (W : World), w.heap.size ≤ D → S xs W → I xs W → W.heap[D]? = some (.deferred (some [])) → Q .normal { a with defers := { target := .collected D, args := #[] } :: a.defers } W) :
  (Code.rangeFunc g ps assign body).wpIn F n P Q a w := by
 refine wpIn_rangeFunc (fun fn hfn => ?_)
 rw [hro]
 obtain ⟨D, hD⟩ : ∃ D, D = w.heap.size := ⟨_, rfl⟩
 obtain ⟨st, hst⟩ : ∃ st : LoopState → Loop, st = fun s => { state := s, pending := none, fn, tmps := a.tmps, params := ps, assign, body, defers := w.heap.size } := ⟨_, rfl⟩
 have henter := run_enterLoop_outer (P := P) (w := w) fn a.tmps ps assign body
 obtain ⟨W1, hW1⟩ : ∃ W1, W1 = (w.alloc (.deferred (some []))).alloc (.loop (st .ready)) := ⟨_, rfl⟩
 have hloop : W1.heap[D + 1]? = some (.loop (st .ready)) := by
  rw [hW1, hD]
  have := World.alloc_heap_new (w.alloc (.deferred (some []))) (.loop (st .ready))
  rwa [World.size_alloc] at this
 have hdef : W1.heap[D]? = some (.deferred (some [])) := by
  rw [hW1, hD]
  exact (Below.heap_alloc _ _ _ (by simp)).trans (World.alloc_heap_new w _)
 have honly : ∀ c, Only c w W1 := fun c => by rw [hW1]; exact (Only.alloc c w _).trans (Only.alloc c _ _)
 rw [show (w.alloc (.deferred (some []))).alloc (.loop { state := .ready, pending := none, fn, tmps := a.tmps, params := ps, assign, body, defers := w.heap.size }) = W1 by rw [hW1, hst], ← hD] at henter
 refine ⟨D + 1, _, W1, { target := .fn (.func gf) lb, args := #[.func (.yield (D + 1)) #[] #[]] }, W1, gf, #[.func (.yield (D + 1)) #[] #[]] ++ lb, W1, henter, ?_, ?_, ?_, fun _ => h1, ?_⟩
 ·
  simp only [resolve, hg]
  simp [go_sem]
 ·
  intro f' hf'
  simp [Target.leads] at hf'
  subst hf'
  exact hFg
 ·
  simp [invoke, go_sem, eg]
 refine (hseq (D + 1) (fun pre W => I pre W ∧ W.heap[D + 1]? = some (.loop (st .ready)) ∧ W.heap[D]? = some (.deferred (some []))) W1 (honly _) (by omega) ?_ ?_ ⟨hI _ _ _ h0 (honly _), hloop, hdef⟩).mono ?_
 ·
  rintro s A B ⟨i1, i2, i3⟩ hab
  exact ⟨hI _ _ _ i1 (hab.mono fun _ _ h => Or.inl h), hab.same _ _ i2 (fun h => by have := hcI _ _ h; cases this), hab.same _ _ i3 (fun h => by have := hcI _ _ h; cases this)⟩
 ·
  rintro pre x W ⟨i1, i2, i3⟩
  have hy := run_yield (P := P) (args := encs x) i2 (by rw [hst]; exact hps x)
  have hbeg := run_beginRound (P := P) i2 (by rw [hst])
  obtain ⟨W2, hW2⟩ : ∃ W2, W2 = W.putObj (D + 1) (.loop (st .busy)) := ⟨_, rfl⟩
  have hlt : D + 1 < W.heap.size := (Array.getElem?_eq_some_iff.1 i2).1
  have o2 : ∀ c : Nat → Obj → Prop, c (D + 1) (.loop (st .ready)) → Only c W W2 := fun c hc => by rw [hW2]; exact Only.putObj i2 hc _
  have l2 : W2.heap[D + 1]? = some (.loop (st .busy)) := by rw [hW2]; exact World.putObj_heap_same hlt
  have d2 : W2.heap[D]? = some (.deferred (some [])) := by rw [hW2]; exact (World.putObj_heap_other (by omega)).trans i3
  rw [show ({ st .ready with state := .busy } : Loop) = st .busy by rw [hst], ← hW2] at hbeg
  rw [hst] at hy
  refine ⟨fn, _, assign, body, hy, roundIn_of_wpIn hfn (hassign _ x W _ ⟨W2, hbeg, ?_⟩)⟩
  refine wpIn_mono (hbody _ pre x W2 (hI _ _ _ i1 (o2 _ (Or.inr ⟨rfl, by omega⟩)))) ?_
  rintro e a3 W3 ⟨rfl, k1, k2⟩
  have l3 := k1.same _ _ l2 (fun h => by cases h.2)
  have d3 := k1.same _ _ d2 (fun h => by cases h.2)
  have hend := run_endRound (P := P) none l3
  rw [show ({ st .busy with state := if (none : Option Code).isNone then .ready else .done, pending := none } : Loop) = st .ready by rw [hst]; rfl] at hend
  have lt3 : D + 1 < W3.heap.size := (Array.getElem?_eq_some_iff.1 l3).1
  refine ⟨_, _, hend, rfl, ⟨hI _ _ _ k2 (Only.putObj l3 (Or.inr ⟨rfl, by omega⟩) _), World.putObj_heap_same lt3, (World.putObj_heap_other (by omega)).trans d3⟩, ?_⟩
  exact ((o2 _ (hcC _ _ rfl)).trans (k1.mono fun _ _ h => h.1)).trans (Only.putObj l3 (hcC _ _ rfl) _)
 ·
  rintro e W2 ⟨⟨v, rfl⟩, xs, hs, i1, i2, i3⟩
  refine ⟨none, _, by have := run_endLoop (P := P) i2 (by rw [hst]; simp); rw [hst] at this; exact this, ?_⟩
  exact hdone _ xs _ (by omega) (hS _ _ _ hs (Only.putObj i2 ⟨rfl, by omega⟩ _)) (hI _ _ _ i1 (Only.putObj i2 (Or.inr ⟨rfl, by omega⟩) _)) ((World.putObj_heap_other (by omega)).trans i3)
end Go.Proofs.Ytjpalbonclgflaa

/- A region that draws its order, in a round of a loop over a function: as outside of it. -/
namespace Go.Proofs.Ytjpalbonclgflaa
open Go.RowKit

def noDefer (o : Oper) : Bool := match o.op with | .defer _ => false | _ => true
end Go.Proofs.Ytjpalbonclgflaa

/- A region that draws its order, within a fence that lets all through. -/
namespace Go.Proofs.Ytjpalbonclgflaa
open Go.RowKit

theorem wpOpsIn_wide {n : Nat} {P : Program} {ops : Array Oper} {Q : Exit → Act → World → Prop} (hno : ¬ LetsOut Q) (hnd : ∀ (i : Nat) (o : Oper), ops[i]? = some o → noDefer o = true) :
  ∀ (L : List Nat) (a : Act) (w : World), wpOps P ops Q L a w → wpOpsIn Fence.wide n P ops Q L a w
 | [], _, _, h => h
 | i :: rest, a, w, h =>
  by
  simp only [wpOps] at h
  simp only [wpOpsIn]
  cases hi : ops[i]? with
  | none => simp only [hi] at h ⊢; exact wpOpsIn_wide hno hnd rest a w h
  | some o =>
   simp only [hi] at h ⊢
   split
   ·
    rename_i hw
    rw [if_pos hw] at h
    rcases h with h | ⟨_, h⟩
    case inr => exact absurd h hno
    refine ⟨fun _ _ => trivial, ?_⟩
    rw [Oper.semAt_eq _ _ _ (fun c hc => by have := hnd i o hi; unfold noDefer at this; rw [hc] at this; cases this)]
    unfold Oper.wp at h
    generalize (execOp a.eval o).run P w = r at *
    cases r with
    | ok x w' =>
     cases x <;> simp only [Oper.upon, Oper.uponIn] at h ⊢
     case value => exact wpOpsIn_wide hno hnd rest _ _ h
     case skip => exact wpOpsIn_wide hno hnd rest _ _ h
     case defer => exact wpOpsIn_wide hno hnd rest _ _ h
     case enter f args =>
      refine ⟨fun h => (by cases h), ?_⟩
      refine (callsIn_wide (n := n - 1)).2 (h.mono fun e w'' he => ?_)
      cases e with
      | returned u => exact wpOpsIn_wide hno hnd rest _ _ he
      | panicked c => exact he
      | outgrown => exact he
     case row row args =>
      refine ⟨fun h => (by cases h), fun c cs _ => ?_⟩
      obtain ⟨v, w'', h1, h2⟩ := h c cs
      exact ⟨v, w'', wpOpsIn_wide hno hnd rest _ _ h1, stepsIn_wide.2 h2⟩
    | halt x w' => cases x <;> simp only [Oper.upon, Oper.uponIn] at h ⊢ <;> exact h
   ·
    rename_i hw
    rw [if_neg hw] at h
    exact ⟨fun _ _ => trivial, wpOpsIn_wide hno hnd rest _ _ h⟩

theorem wpIn_wide_held {n : Nat} {P : Program} {id : Nat} {L : List Oper} {Q : Exit → Act → World → Prop} {a : Act} {w : World} {S : World → Prop} (hm : P.follows .mixedOrders = true) (hno : ¬ LetsOut Q) (hnd : L.all noDefer = true) (hS : S w.drew)
  (h : S w.drew → wpAnyH P .any L.toArray Q S L.toArray.size (Array.replicate L.toArray.size false) a w.drew) : (Code.region id L.toArray true).wpIn Fence.wide n P Q a w :=
 wpIn_region_draw fun t => by
  simp only [Region.schedule, hm, Bool.true_or, if_true]
  exact wpOpsIn_wide hno (fun i o hi => List.all_eq_true.1 hnd o (by simpa using List.mem_of_getElem? (l := L) (by simpa using hi))) _ _ _ (wpAny_sound L.toArray.size t _ a _ (wpAny_of_held _ _ _ _ (h hS)))
def nOnly (Q : Exit → Act → World → Prop) : Exit → Act → World → Prop
 | .normal, a, w => Q .normal a w
 | _, _, _ => False
theorem wpIn_wide_norm {n : Nat} {P : Program} {id : Nat} {L : List Oper} {Q : Exit → Act → World → Prop} {a : Act} {w : World} {S : World → Prop} (hm : P.follows .mixedOrders = true) (hnd : L.all noDefer = true) (hS : S w.drew)
  (h : S w.drew → wpAnyH P .any L.toArray (nOnly Q) S L.toArray.size (Array.replicate L.toArray.size false) a w.drew) : (Code.region id L.toArray true).wpIn Fence.wide n P Q a w :=
 Code.wpIn_mono (Q := nOnly Q) (fun e a w hq => by cases e <;> first | exact hq | exact hq.elim) (wpIn_wide_held hm (fun ⟨_, _, h⟩ => h) hnd hS h)
end Go.Proofs.Ytjpalbonclgflaa

/- Marks of loops over functions: blocks that hold no calls; what an owner keeps. -/
namespace Go.Proofs.Ytjpalbonclgflaa
open Go.RowKit Go.Shelf

def mkD (D : Nat) : Deferred := { target := .collected D, args := #[] }
theorem leaves_marks {F : Fence} {n : Nat} {P : Program} {fn : Func} {tmps : Array Value} {R : Ending → World → Prop} (B : Nat) (Kx : World → Prop)
  (hst : ∀ W D, B ≤ D → Kx W → W.heap[D]? = some (.deferred (some [])) → Kx (W.putObj D (.deferred none))) (hfin : ∀ W, Kx W → LeavesInM F n P fn tmps R [] .returning W) :
  ∀ (Ds : List Nat) (W : World), Kx W → (∀ D ∈ Ds, W.heap[D]? = some (.deferred (some []))) → Ds.Nodup → (∀ D ∈ Ds, B ≤ D) → LeavesInM F n P fn tmps R (Ds.map mkD) .returning W
 | [], W, hk, _, _, _ => hfin W hk
 | D :: Ds, W, hk, hD, hnd, hB =>
  by
  rw [List.nodup_cons] at hnd
  refine ⟨by simp, .inl ⟨D, _, rfl, run_takeDeferred (hD D (by simp)), ?_⟩⟩
  refine leaves_marks B Kx hst hfin Ds _ (hst W D (hB D (by simp)) hk (hD D (by simp))) (fun D' hD' => ?_) hnd.2 (fun D' hD' => hB D' (by simp [hD']))
  have hne : D' ≠ D := fun e => hnd.1 (e ▸ hD')
  exact (World.putObj_heap_other hne).trans (hD D' (by simp [hD']))
end Go.Proofs.Ytjpalbonclgflaa

/- A range over an iterator that yields at most N times (the law of XRange, with a bound for the loop's rounds). -/
namespace Go.Proofs.Ytjpalbonclgflaa
open Go.RowKit

variable {α : Type} {F : Fence} {n : Nat} {P : Program}
def SeqB (N : Nat) (F : Fence) (n : Nat) (P : Program) (gf : Nat) (lb : Array Value) (encs : α → Array Value) (cI cC : Nat → Obj → Prop) (S : List α → World → Prop) (w : World) : Prop :=
 ∀ (l : Nat) (J : List α → World → Prop) (W : World), Only (fun _ _ => False) w W → w.heap.size ≤ l →
  (∀ s A B, J s A → Only cI A B → J s B) →
  (∀ pre x W1, pre.length < N → J pre W1 → YieldAt F (n - 1) P l (encs x) W1 fun e W' => e = .returned (.bool true) ∧ J (pre ++ [x]) W' ∧ Only cC W1 W') →
  J [] W →
  CallsIn F n P gf (#[.func (.yield l) #[] #[]] ++ lb) W fun e W' => (∃ v, e = .returned v) ∧ ∃ xs, S xs W' ∧ J xs W'

theorem range_b {N : Nat} {g : Operand} {ps : Array Tmp} {assign body : Code} {Q : Exit → Act → World → Prop} {a : Act} {w : World}
  (hro : F.round = none) (h1 : 1 ≤ n) {gf : Nat} {lb : Array Value} (hg : a.eval g = .func (.func gf) #[] lb) (hFg : F.fn gf) (eg : ∀ args w, (callFunc gf args).run P w = .ok (.enter gf args) w)
  {encs : α → Array Value} {cI cC : Nat → Obj → Prop} {S : List α → World → Prop} (hseq : SeqB N F (n - 1) P gf lb encs cI cC S w)
  (hcI : ∀ b o, cI b o → o.isCells = true) (hcC : ∀ b o, o.isCells = false → cC b o) (hps : ∀ x, (encs x).size = ps.size)
  (I : List α → World → Prop) (hI : ∀ s A B, I s A → Only (fun b o => cI b o ∨ (o.isCells = false ∧ w.heap.size ≤ b)) A B → I s B) (h0 : I [] w)
  (hS : ∀ xs A B, S xs A → Only (fun b o => o.isCells = false ∧ w.heap.size ≤ b) A B → S xs B) (a₁ : α → Act)
  (hassign : ∀ (l : Nat) (x : α) (W : World) (K : Act → World → Prop), K (a₁ x) W →
   assign.wpIn (F.inRound l) (n - 1 - 1) P (Exit.then K (fun _ _ _ => False)) { tmps := (ps.zip (encs x)).foldl (fun t (p, v) => t.setIfInBounds p v) a.tmps, defers := [] } W)
  (hbody : ∀ (l : Nat) (pre : List α) (x : α) (W : World), pre.length < N → I pre W → body.wpIn (F.inRound l) (n - 1 - 1) P
   (fun e _ W' => e = .normal ∧ Only (fun b o => cC b o ∧ o.isCells = true) W W' ∧ I (pre ++ [x]) W') (a₁ x) W)
  (hdone : ∀ (D : Nat) (xs : List α) (W : World), w.heap.size ≤ D → S xs W → I xs W → W.heap[D]? = some (.deferred (some [])) → Q .normal { a with defers := { target := .collected D, args := #[] } :: a.defers } W) :
  (Code.rangeFunc g ps assign body).wpIn F n P Q a w := by
 refine wpIn_rangeFunc (fun fn hfn => ?_)
 rw [hro]
 obtain ⟨D, hD⟩ : ∃ D, D = w.heap.size := ⟨_, rfl⟩
 obtain ⟨st, hst⟩ : ∃ st : LoopState → Loop, st = fun s => { state := s, pending := none, fn, tmps := a.tmps, params := ps, assign, body, defers := w.heap.size } := ⟨_, rfl⟩
 have henter := run_enterLoop_outer (P := P) (w := w) fn a.tmps ps assign body
 obtain ⟨W1, hW1⟩ : ∃ W1, W1 = (w.alloc (.deferred (some []))).alloc (.loop (st .ready)) := ⟨_, rfl⟩
 have hloop : W1.heap[D + 1]? = some (.loop (st .ready)) := by
  rw [hW1, hD]
  have := World.alloc_heap_new (w.alloc (.deferred (some []))) (.loop (st .ready))
  rwa [World.size_alloc] at this
 have hdef : W1.heap[D]? = some (.deferred (some [])) := by
  rw [hW1, hD]
  exact (Below.heap_alloc _ _ _ (by simp)).trans (World.alloc_heap_new w _)
 have honly : ∀ c, Only c w W1 := fun c => by rw [hW1]; exact (Only.alloc c w _).trans (Only.alloc c _ _)
 rw [show (w.alloc (.deferred (some []))).alloc (.loop { state := .ready, pending := none, fn, tmps := a.tmps, params := ps, assign, body, defers := w.heap.size }) = W1 by rw [hW1, hst], ← hD] at henter
 refine ⟨D + 1, _, W1, { target := .fn (.func gf) lb, args := #[.func (.yield (D + 1)) #[] #[]] }, W1, gf, #[.func (.yield (D + 1)) #[] #[]] ++ lb, W1, henter, ?_, ?_, ?_, fun _ => h1, ?_⟩
 ·
  simp only [resolve, hg]
  simp [go_sem]
 ·
  intro f' hf'
  simp [Target.leads] at hf'
  subst hf'
  exact hFg
 ·
  simp [invoke, go_sem, eg]
 refine (hseq (D + 1) (fun pre W => I pre W ∧ W.heap[D + 1]? = some (.loop (st .ready)) ∧ W.heap[D]? = some (.deferred (some []))) W1 (honly _) (by omega) ?_ ?_ ⟨hI _ _ _ h0 (honly _), hloop, hdef⟩).mono ?_
 ·
  rintro s A B ⟨i1, i2, i3⟩ hab
  exact ⟨hI _ _ _ i1 (hab.mono fun _ _ h => Or.inl h), hab.same _ _ i2 (fun h => by have := hcI _ _ h; cases this), hab.same _ _ i3 (fun h => by have := hcI _ _ h; cases this)⟩
 ·
  rintro pre x W hN ⟨i1, i2, i3⟩
  have hy := run_yield (P := P) (args := encs x) i2 (by rw [hst]; exact hps x)
  have hbeg := run_beginRound (P := P) i2 (by rw [hst])
  obtain ⟨W2, hW2⟩ : ∃ W2, W2 = W.putObj (D + 1) (.loop (st .busy)) := ⟨_, rfl⟩
  have hlt : D + 1 < W.heap.size := (Array.getElem?_eq_some_iff.1 i2).1
  have o2 : ∀ c : Nat → Obj → Prop, c (D + 1) (.loop (st .ready)) → Only c W W2 := fun c hc => by rw [hW2]; exact Only.putObj i2 hc _
  have l2 : W2.heap[D + 1]? = some (.loop (st .busy)) := by rw [hW2]; exact World.putObj_heap_same hlt
  have d2 : W2.heap[D]? = some (.deferred (some [])) := by rw [hW2]; exact (World.putObj_heap_other (by omega)).trans i3
  rw [show ({ st .ready with state := .busy } : Loop) = st .busy by rw [hst], ← hW2] at hbeg
  rw [hst] at hy
  refine ⟨fn, _, assign, body, hy, roundIn_of_wpIn hfn (hassign _ x W _ ⟨W2, hbeg, ?_⟩)⟩
  refine wpIn_mono (hbody _ pre x W2 hN (hI _ _ _ i1 (o2 _ (Or.inr ⟨rfl, by omega⟩)))) ?_
  rintro e a3 W3 ⟨rfl, k1, k2⟩
  have l3 := k1.same _ _ l2 (fun h => by cases h.2)
  have d3 := k1.same _ _ d2 (fun h => by cases h.2)
  have hend := run_endRound (P := P) none l3
  rw [show ({ st .busy with state := if (none : Option Code).isNone then .ready else .done, pending := none } : Loop) = st .ready by rw [hst]; rfl] at hend
  have lt3 : D + 1 < W3.heap.size := (Array.getElem?_eq_some_iff.1 l3).1
  refine ⟨_, _, hend, rfl, ⟨hI _ _ _ k2 (Only.putObj l3 (Or.inr ⟨rfl, by omega⟩) _), World.putObj_heap_same lt3, (World.putObj_heap_other (by omega)).trans d3⟩, ?_⟩
  exact ((o2 _ (hcC _ _ rfl)).trans (k1.mono fun _ _ h => h.1)).trans (Only.putObj l3 (hcC _ _ rfl) _)
 ·
  rintro e W2 ⟨⟨v, rfl⟩, xs, hs, i1, i2, i3⟩
  refine ⟨none, _, by have := run_endLoop (P := P) i2 (by rw [hst]; simp); rw [hst] at this; exact this, ?_⟩
  exact hdone _ xs _ (by omega) (hS _ _ _ hs (Only.putObj i2 ⟨rfl, by omega⟩ _)) (hI _ _ _ i1 (Only.putObj i2 (Or.inr ⟨rfl, by omega⟩) _)) ((World.putObj_heap_other (by omega)).trans i3)
end Go.Proofs.Ytjpalbonclgflaa

