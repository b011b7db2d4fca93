/- Contracts and plain laws of several functions, one after the other: Keep, Range, Round, RoundW, Marks, EqInt, AppRow, RowI, RangeB, EqJ, Sets. -/
import Derived.RangeFuncNested
import Derived.OrdersIn
import Derived.Deep.RegionHeld3
import Derived.RangeFuncBound
import Derived.RangeFuncCalls
import Derived.RangeFuncLeaves
import Derived.RangeFuncBox
import Derived.RangeFuncOne
import Derived.Shelf.Abstract
import Derived.WalkKit
import Derived.Laws.StructEq
import Derived.Laws.OwnMore
import Derived.Maps.AppendAt
import Derived.Deep.AppendLies
import Derived.BigQuiet
import Derived.Test.YtjpalbonclgflaaGreatPart2
import Derived.Test.YtjpalbonclgflaaGreatPart1
/- A block is kept by whatever leaves the old blocks alone. -/
namespace Go.Proofs.YtjpalbonclgflaaGreat
open Go.RowKit
theorem Blk.keep {w w' : World} {b : Nat} {t : TypeId} {xs : List Value} (h : Blk w b t xs) (k : Below w.heap.size w w') : Blk w' b t xs := h.below k h.lt
end Go.Proofs.YtjpalbonclgflaaGreat

/- A range over an iterator that writes its own variables and yields new rows: at its end it tells what it has yielded and where that lies. -/
namespace Go.Proofs.YtjpalbonclgflaaGreat
open Go.RowKit

structure Only (c : Nat → Obj → Prop) (A B : World) : Prop where
 os : B.os = A.os
 tape : B.tape = A.tape
 output : B.output = A.output
 size : A.heap.size ≤ B.heap.size
 same : ∀ b o, A.heap[b]? = some o → ¬ c b o → B.heap[b]? = some o
namespace Only
variable {c d : Nat → Obj → Prop} {A B C : World}
theorem refl (c : Nat → Obj → Prop) (A : World) : Only c A A := ⟨rfl, rfl, rfl, Nat.le_refl _, fun _ _ h _ => h⟩
theorem trans (h : Only c A B) (k : Only c B C) : Only c A C :=
 ⟨k.os.trans h.os, k.tape.trans h.tape, k.output.trans h.output, Nat.le_trans h.size k.size, fun b o hb hc => k.same b o (h.same b o hb hc) hc⟩
theorem mono (h : Only c A B) (hcd : ∀ b o, c b o → d b o) : Only d A B := ⟨h.os, h.tape, h.output, h.size, fun b o hb hd => h.same b o hb (fun e => hd (hcd b o e))⟩
theorem putObj {l : Nat} {o : Obj} (h : A.heap[l]? = some o) (hc : c l o) (o' : Obj) : Only c A (A.putObj l o') := by
 refine ⟨rfl, rfl, rfl, by simp, fun b ob hb hn => ?_⟩
 by_cases e : b = l
 ·
  subst e
  rw [h] at hb
  exact absurd (Option.some.inj hb ▸ hc) hn
 ·
  exact (World.putObj_heap_other e).trans hb
theorem alloc (c : Nat → Obj → Prop) (A : World) (o : Obj) : Only c A (A.alloc o) :=
 ⟨rfl, rfl, rfl, by simp, fun b _ hb _ => (Below.heap_alloc A o b (Array.getElem?_eq_some_iff.1 hb).1).trans hb⟩
theorem drew (c : Nat → Obj → Prop) (A : World) : Only c A A.drew := ⟨rfl, rfl, rfl, Nat.le_refl _, fun _ _ h _ => h⟩
theorem drewN (c : Nat → Obj → Prop) (A : World) (n : Nat) : Only c A (A.drewN n) := ⟨rfl, rfl, rfl, Nat.le_refl _, fun _ _ h _ => h⟩
theorem ofBelow (c : Nat → Obj → Prop) (h : Below A.heap.size A B) : Only c A B :=
 ⟨h.os, h.tape, h.output, h.size, fun b _ hb _ => (h.block b (Array.getElem?_eq_some_iff.1 hb).1).trans hb⟩
theorem setCell {a : Addr} (v : Value) (hc : ∀ o, A.heap[a.block]? = some o → c a.block o) : Only c A (A.setCell a v) := by
 refine ⟨?_, ?_, ?_, ?_, fun b o hb hn => ?_⟩
 ·
  have := (Below.refl 0 A).setCell (p := a) (Nat.zero_le _) v; exact this.os
 ·
  have := (Below.refl 0 A).setCell (p := a) (Nat.zero_le _) v; exact this.tape
 ·
  have := (Below.refl 0 A).setCell (p := a) (Nat.zero_le _) v; exact this.output
 ·
  have := (Below.refl 0 A).setCell (p := a) (Nat.zero_le _) v; exact this.size
 ·
  by_cases e : b = a.block
  ·
   subst e; exact absurd (hc o hb) hn
  ·
   exact (Below.heap_setCell _ _ _ b e).trans hb
theorem below (h : Only c A B) {n₀ : Nat} {w : World} (hb : Below n₀ w A) (hw : n₀ ≤ w.heap.size) (hn : ∀ b o, b < n₀ → ¬ c b o) : Below n₀ w B :=
 ⟨h.os.trans hb.os, h.tape.trans hb.tape, h.output.trans hb.output, Nat.le_trans hb.size h.size, fun k hk => by
  obtain ⟨o, ho⟩ : ∃ o, w.heap[k]? = some o := ⟨_, Array.getElem?_eq_getElem (by omega)⟩
  rw [ho]
  exact h.same k o ((hb.block k hk).trans ho) (hn k o hk)⟩
theorem blk (h : Only c A B) {b : Nat} {t : TypeId} {xs : List Value} (hb : Blk A b t xs) (hn : ∀ o, ¬ c b o) : Blk B b t xs := h.same b _ hb (hn _)
end Only

variable {α : Type} {F : Fence} {n : Nat} {P : Program}
def SeqV (F : Fence) (n : Nat) (P : Program) (gf : Nat) (lb : Array Value) (encs : α → Array Value) (cI cC : Nat → Obj → Prop) (S : List α → World → Prop) (w : World) : Prop :=
 ∀ (l : Nat) (J : List α → World → Prop) (W : World), Only (fun _ _ => False) w W → w.heap.size ≤ l →
  (∀ s A B, J s A → Only cI A B → J s B) →
  (∀ pre x W1, J pre W1 → YieldAt F (n - 1) P l (encs x) W1 fun e W' => e = .returned (.bool true) ∧ J (pre ++ [x]) W' ∧ Only cC W1 W') →
  J [] W →
  CallsIn F n P gf (#[.func (.yield l) #[] #[]] ++ lb) W fun e W' => (∃ v, e = .returned v) ∧ ∃ xs, S xs W' ∧ J xs W'

theorem range_v {g : Operand} {ps : Array Tmp} {assign body : Code} {Q : Exit → Act → World → Prop} {a : Act} {w : World}
  (hro : F.round = none) (h1 : 1 ≤ n) {gf : Nat} {lb : Array Value} (hg : a.eval g = .func (.func gf) #[] lb) (hFg : F.fn gf) (eg : ∀ args w, (callFunc gf args).run P w = .ok (.enter gf args) w)
  {encs : α → Array Value} {cI cC : Nat → Obj → Prop} {S : List α → World → Prop} (hseq : SeqV F (n - 1) P gf lb encs cI cC S w)
  (hcI : ∀ b o, cI b o → o.isCells = true) (hcC : ∀ b o, o.isCells = false → cC b o) (hps : ∀ x, (encs x).size = ps.size)
  (I : List α → World → Prop) (hI : ∀ s A B, I s A → Only (fun b o => cI b o ∨ (o.isCells = false ∧ w.heap.size ≤ b)) A B → I s B) (h0 : I [] w)
  (hS : ∀ xs A B, S xs A → Only (fun b o => o.isCells = false ∧ w.heap.size ≤ b) A B → S xs B) (a₁ : α → Act)
  (hassign : ∀ (l : Nat) (x : α) (W : World) (K : Act → World → Prop), K (a₁ x) W →
   assign.wpIn (F.inRound l) (n - 1 - 1) P (Exit.then K (fun _ _ _ => False)) { tmps := (ps.zip (encs x)).foldl (fun t (p, v) => t.setIfInBounds p v) a.tmps, defers := [] } W)
  (hbody : ∀ (l : Nat) (pre : List α) (x : α) (W : World), I pre W → body.wpIn (F.inRound l) (n - 1 - 1) P
   (fun e _ W' => e = .normal ∧ Only (fun b o => cC b o ∧ o.isCells = true) W W' ∧ I (pre ++ [x]) W') (a₁ x) W)
  (hdone : ∀ (D : Nat) (xs : List α) (W : World), w.heap.size ≤ D → S xs W → I xs W → W.heap[D]? = some (.deferred (some [])) → Q .normal { a with defers := { target := .collected D, args := #[] } :: a.defers } W) :
  (Code.rangeFunc g ps assign body).wpIn F n P Q a w := by
 refine wpIn_rangeFunc (fun fn hfn => ?_)
 rw [hro]
 obtain ⟨D, hD⟩ : ∃ D, D = w.heap.size := ⟨_, rfl⟩
 obtain ⟨st, hst⟩ : ∃ st : LoopState → Loop, st = fun s => { state := s, pending := none, fn, tmps := a.tmps, params := ps, assign, body, defers := w.heap.size } := ⟨_, rfl⟩
 have henter := run_enterLoop_outer (P := P) (w := w) fn a.tmps ps assign body
 obtain ⟨W1, hW1⟩ : ∃ W1, W1 = (w.alloc (.deferred (some []))).alloc (.loop (st .ready)) := ⟨_, rfl⟩
 have hloop : W1.heap[D + 1]? = some (.loop (st .ready)) := by
  rw [hW1, hD]
  have := World.alloc_heap_new (w.alloc (.deferred (some []))) (.loop (st .ready))
  rwa [World.size_alloc] at this
 have hdef : W1.heap[D]? = some (.deferred (some [])) := by
  rw [hW1, hD]
  exact (Below.heap_alloc _ _ _ (by simp)).trans (World.alloc_heap_new w _)
 have honly : ∀ c, Only c w W1 := fun c => by rw [hW1]; exact (Only.alloc c w _).trans (Only.alloc c _ _)
 rw [show (w.alloc (.deferred (some []))).alloc (.loop { state := .ready, pending := none, fn, tmps := a.tmps, params := ps, assign, body, defers := w.heap.size }) = W1 by rw [hW1, hst], ← hD] at henter
 refine ⟨D + 1, _, W1, { target := .fn (.func gf) lb, args := #[.func (.yield (D + 1)) #[] #[]] }, W1, gf, #[.func (.yield (D + 1)) #[] #[]] ++ lb, W1, henter, ?_, ?_, ?_, fun _ => h1, ?_⟩
 ·
  simp only [resolve, hg]
  simp [go_sem]
 ·
  intro f' hf'
  simp [Target.leads] at hf'
  subst hf'
  exact hFg
 ·
  simp [invoke, go_sem, eg]
 refine (hseq (D + 1) (fun pre W => I pre W ∧ W.heap[D + 1]? = some (.loop (st .ready)) ∧ W.heap[D]? = some (.deferred (some []))) W1 (honly _) (by omega) ?_ ?_ ⟨hI _ _ _ h0 (honly _), hloop, hdef⟩).mono ?_
 ·
  rintro s A B ⟨i1, i2, i3⟩ hab
  exact ⟨hI _ _ _ i1 (hab.mono fun _ _ h => Or.inl h), hab.same _ _ i2 (fun h => by have := hcI _ _ h; cases this), hab.same _ _ i3 (fun h => by have := hcI _ _ h; cases this)⟩
 ·
  rintro pre x W ⟨i1, i2, i3⟩
  have hy := run_yield (P := P) (args := encs x) i2 (by rw [hst]; exact hps x)
  have hbeg := run_beginRound (P := P) i2 (by rw [hst])
  obtain ⟨W2, hW2⟩ : ∃ W2, W2 = W.putObj (D + 1) (.loop (st .busy)) := ⟨_, rfl⟩
  have hlt : D + 1 < W.heap.size := (Array.getElem?_eq_some_iff.1 i2).1
  have o2 : ∀ c : Nat → Obj → Prop, c (D + 1) (.loop (st .ready)) → Only c W W2 := fun c hc => by rw [hW2]; exact Only.putObj i2 hc _
  have l2 : W2.heap[D + 1]? = some (.loop (st .busy)) := by rw [hW2]; exact World.putObj_heap_same hlt
  have d2 : W2.heap[D]? = some (.deferred (some [])) := by rw [hW2]; exact (World.putObj_heap_other (by omega)).trans i3
  rw [show ({ st .ready with state := .busy } : Loop) = st .busy by rw [hst], ← hW2] at hbeg
  rw [hst] at hy
  refine ⟨fn, _, assign, body, hy, roundIn_of_wpIn hfn (hassign _ x W _ ⟨W2, hbeg, ?_⟩)⟩
  refine wpIn_mono (hbody _ pre x W2 (hI _ _ _ i1 (o2 _ (Or.inr ⟨rfl, by omega⟩)))) ?_
  rintro e a3 W3 ⟨rfl, k1, k2⟩
  have l3 := k1.same _ _ l2 (fun h => by cases h.2)
  have d3 := k1.same _ _ d2 (fun h => by cases h.2)
  have hend := run_endRound (P := P) none l3
  rw [show ({ st .busy with state := if (none : Option Code).isNone then .ready else .done, pending := none } : Loop) = st .ready by rw [hst]; rfl] at hend
  have lt3 : D + 1 < W3.heap.size := (Array.getElem?_eq_some_iff.1 l3).1
  refine ⟨_, _, hend, rfl, ⟨hI _ _ _ k2 (Only.putObj l3 (Or.inr ⟨rfl, by omega⟩) _), World.putObj_heap_same lt3, (World.putObj_heap_other (by omega)).trans d3⟩, ?_⟩
  exact ((o2 _ (hcC _ _ rfl)).trans (k1.mono fun _ _ h => h.1)).trans (Only.putObj l3 (hcC _ _ rfl) _)
 ·
  rintro e W2 ⟨⟨v, rfl⟩, xs, hs, i1, i2, i3⟩
  refine ⟨none, _, by have := run_endLoop (P := P) i2 (by rw [hst]; simp); rw [hst] at this; exact this, ?_⟩
  exact hdone _ xs _ (by omega) (hS _ _ _ hs (Only.putObj i2 ⟨rfl, by omega⟩ _)) (hI _ _ _ i1 (Only.putObj i2 (Or.inr ⟨rfl, by omega⟩) _)) ((World.putObj_heap_other (by omega)).trans i3)
end Go.Proofs.YtjpalbonclgflaaGreat

/- A region that draws its order, in a round of a loop over a function: as outside of it. -/
namespace Go.Proofs.YtjpalbonclgflaaGreat
open Go.RowKit

def noDefer (o : Oper) : Bool := match o.op with | .defer _ => false | _ => true
end Go.Proofs.YtjpalbonclgflaaGreat

/- A region that draws its order, within a fence that lets all through. -/
namespace Go.Proofs.YtjpalbonclgflaaGreat
open Go.RowKit

theorem wpOpsIn_wide {n : Nat} {P : Program} {ops : Array Oper} {Q : Exit → Act → World → Prop} (hno : ¬ LetsOut Q) (hnd : ∀ (i : Nat) (o : Oper), ops[i]? = some o → noDefer o = true) :
  ∀ (L : List Nat) (a : Act) (w : World), wpOps P ops Q L a w → wpOpsIn Fence.wide n P ops Q L a w
 | [], _, _, h => h
 | i :: rest, a, w, h =>
  by
  simp only [wpOps] at h
  simp only [wpOpsIn]
  cases hi : ops[i]? with
  | none => simp only [hi] at h ⊢; exact wpOpsIn_wide hno hnd rest a w h
  | some o =>
   simp only [hi] at h ⊢
   split
   ·
    rename_i hw
    rw [if_pos hw] at h
    rcases h with h | ⟨_, h⟩
    case inr => exact absurd h hno
    refine ⟨fun _ _ => trivial, ?_⟩
    rw [Oper.semAt_eq _ _ _ (fun c hc => by have := hnd i o hi; unfold noDefer at this; rw [hc] at this; cases this)]
    unfold Oper.wp at h
    generalize (execOp a.eval o).run P w = r at *
    cases r with
    | ok x w' =>
     cases x <;> simp only [Oper.upon, Oper.uponIn] at h ⊢
     case value => exact wpOpsIn_wide hno hnd rest _ _ h
     case skip => exact wpOpsIn_wide hno hnd rest _ _ h
     case defer => exact wpOpsIn_wide hno hnd rest _ _ h
     case enter f args =>
      refine ⟨fun h => (by cases h), ?_⟩
      refine (callsIn_wide (n := n - 1)).2 (h.mono fun e w'' he => ?_)
      cases e with
      | returned u => exact wpOpsIn_wide hno hnd rest _ _ he
      | panicked c => exact he
      | outgrown => exact he
     case row row args =>
      refine ⟨fun h => (by cases h), fun c cs _ => ?_⟩
      obtain ⟨v, w'', h1, h2⟩ := h c cs
      exact ⟨v, w'', wpOpsIn_wide hno hnd rest _ _ h1, stepsIn_wide.2 h2⟩
    | halt x w' => cases x <;> simp only [Oper.upon, Oper.uponIn] at h ⊢ <;> exact h
   ·
    rename_i hw
    rw [if_neg hw] at h
    exact ⟨fun _ _ => trivial, wpOpsIn_wide hno hnd rest _ _ h⟩

theorem wpIn_wide_held {n : Nat} {P : Program} {id : Nat} {L : List Oper} {Q : Exit → Act → World → Prop} {a : Act} {w : World} {S : World → Prop} (hm : P.follows .mixedOrders = true) (hno : ¬ LetsOut Q) (hnd : L.all noDefer = true) (hS : S w.drew)
  (h : S w.drew → wpAnyH P .any L.toArray Q S L.toArray.size (Array.replicate L.toArray.size false) a w.drew) : (Code.region id L.toArray true).wpIn Fence.wide n P Q a w :=
 wpIn_region_draw fun t => by
  simp only [Region.schedule, hm, Bool.true_or, if_true]
  exact wpOpsIn_wide hno (fun i o hi => List.all_eq_true.1 hnd o (by simpa using List.mem_of_getElem? (l := L) (by simpa using hi))) _ _ _ (wpAny_sound L.toArray.size t _ a _ (wpAny_of_held _ _ _ _ (h hS)))
def nOnly (Q : Exit → Act → World → Prop) : Exit → Act → World → Prop
 | .normal, a, w => Q .normal a w
 | _, _, _ => False
theorem wpIn_wide_norm {n : Nat} {P : Program} {id : Nat} {L : List Oper} {Q : Exit → Act → World → Prop} {a : Act} {w : World} {S : World → Prop} (hm : P.follows .mixedOrders = true) (hnd : L.all noDefer = true) (hS : S w.drew)
  (h : S w.drew → wpAnyH P .any L.toArray (nOnly Q) S L.toArray.size (Array.replicate L.toArray.size false) a w.drew) : (Code.region id L.toArray true).wpIn Fence.wide n P Q a w :=
 Code.wpIn_mono (Q := nOnly Q) (fun e a w hq => by cases e <;> first | exact hq | exact hq.elim) (wpIn_wide_held hm (fun ⟨_, _, h⟩ => h) hnd hS h)
end Go.Proofs.YtjpalbonclgflaaGreat

/- Marks of loops over functions: blocks that hold no calls; what an owner keeps. -/
namespace Go.Proofs.YtjpalbonclgflaaGreat
open Go.RowKit Go.Shelf

def mkD (D : Nat) : Deferred := { target := .collected D, args := #[] }
theorem leaves_marks {F : Fence} {n : Nat} {P : Program} {fn : Func} {tmps : Array Value} {R : Ending → World → Prop} (B : Nat) (Kx : World → Prop)
  (hst : ∀ W D, B ≤ D → Kx W → W.heap[D]? = some (.deferred (some [])) → Kx (W.putObj D (.deferred none))) (hfin : ∀ W, Kx W → LeavesInM F n P fn tmps R [] .returning W) :
  ∀ (Ds : List Nat) (W : World), Kx W → (∀ D ∈ Ds, W.heap[D]? = some (.deferred (some []))) → Ds.Nodup → (∀ D ∈ Ds, B ≤ D) → LeavesInM F n P fn tmps R (Ds.map mkD) .returning W
 | [], W, hk, _, _, _ => hfin W hk
 | D :: Ds, W, hk, hD, hnd, hB =>
  by
  rw [List.nodup_cons] at hnd
  refine ⟨by simp, .inl ⟨D, _, rfl, run_takeDeferred (hD D (by simp)), ?_⟩⟩
  refine leaves_marks B Kx hst hfin Ds _ (hst W D (hB D (by simp)) hk (hD D (by simp))) (fun D' hD' => ?_) hnd.2 (fun D' hD' => hB D' (by simp [hD']))
  have hne : D' ≠ D := fun e => hnd.1 (e ▸ hD')
  exact (World.putObj_heap_other hne).trans (hD D' (by simp [hD']))
end Go.Proofs.YtjpalbonclgflaaGreat

/- Equality of two integers as the program compares them. -/
namespace Go.Proofs.YtjpalbonclgflaaGreat
open Go.RowKit

theorem iqType : Tryz.prog.underlying 25 = some (.struct (Tryz.prog.fieldsOf 25)) := by kernel_rfl
theorem iqStood : Tryz.prog.stoodInHeld 25 = false := by kernel_rfl
theorem iqFlds : (Tryz.prog.fieldsOf 25).toList.map (fun f => (f.type, f.offset, f.name == "_")) = [(4, 0, false), (9, 1, false)] := by kernel_rfl
set_option maxRecDepth 100000 in
theorem eqIn_int (a b : Bool) (s t : ByteArray) (w : World) : (Op.equalIn 10000 25 (.agg #[.bool a, .string s]) (.agg #[.bool b, .string t])).run Tryz.prog w = .ok (a == b && s == t) w := by
 have e : ∀ fs, (Tryz.prog.fieldsOf 25).toList = fs → (Op.eqFields 9999 #[.bool a, .string s] #[.bool b, .string t] fs).run Tryz.prog w = .ok (a == b && s == t) w := by
  intro fs hfs
  have hm := iqFlds
  rw [hfs] at hm
  match fs, hm with
  | [f0, f1], hm =>
   simp only [List.map_cons, List.map_nil, List.cons.injEq, Prod.mk.injEq, and_true] at hm
   obtain ⟨⟨t0, o0, n0⟩, ⟨t1, o1, n1⟩⟩ := hm
   rw [beq_eq_false_iff_ne] at n0 n1
   simp [Op.eqFields, n0, n1, t0, o0, t1, o1, Go.part, Tryz.isAgg4, Tryz.isAgg9, run_equalIn_bool', run_equalIn_string, Tryz.underlying4, Tryz.underlying9]
   rw [beq_toListBytes]
   by_cases h1 : a = b <;> by_cases h2 : s.toList = t.toList <;> simp [h1, h2]
 exact (run_equalIn_struct (P := Tryz.prog) w 9999 25 _ _ iqType iqStood).trans (e _ rfl)
end Go.Proofs.YtjpalbonclgflaaGreat

/- append of a whole row (nil or not, empty or not) to a slice of the call's own: at a step of a region that draws its order. -/
namespace Go.Proofs.YtjpalbonclgflaaGreat
open Go.RowKit

theorem run_append_row {P : Program} (w : World) (base : Nat) (t ty e : TypeId) (z : Value) (size bytes : Nat) (ht : P.underlying t = some (.slice e)) (hinfo : (P.info? e).map (fun i => (i.zero, i.size, i.bytes)) = some (some z, size, bytes))
  (hzs : z.cells.size = size) (hsz : 0 < size) (v : Value) (n : Nat) (xs : List Value) (hown : w.ownsRow base e size v n xs)
  (sv : Value) (m : Nat) (news : List Value) (hrow : Row w sv m news) (hl : news.length = m * size) (h1 : ∀ u ∈ news, u.oneCell' = true)
  (h63 : n + m ≤ maxLen) (hbytes : (n + m) * bytes ≤ 140737488355328) (hbase : base ≤ w.heap.size) :
  ∃ v' w', (Builtin.append_ #[t, t] ty #[v, sv]).run P w = .ok v' w' ∧ w'.ownsRow base e size v' (n + m) (xs ++ news) ∧ w.grownBy w' v.ownBlock := by
 obtain ⟨i, hi, hz0, hz1, hz2⟩ := info_parts hinfo
 rcases hrow with ⟨rfl, rfl, rfl⟩ | ⟨b, off, cap, rfl, h2, h3, h4, h5⟩
 ·
  refine ⟨v, w, run_append_owned_none (P := P) (w := w) base t ty e i size ht hi v n xs hown, by simpa using hown, ⟨rfl, rfl, rfl, Nat.le_refl _, fun _ _ _ => rfl⟩⟩
 ·
  obtain ⟨v', w', r1, r2, r3, -⟩ := run_append_own_at (P := P) w base t ty e i z size bytes ht hi hz0 hz1 hz2 hzs hsz v n xs hown ⟨b, off, none⟩ m cap news hl (fun j u hu => by
   have := h5 j u hu
   unfold Addr.add
   split
   ·
    rename_i h0; subst h0; exact this
   ·
    exact this) h1 h63 hbytes hbase
  exact ⟨v', w', r1, r2, r3⟩
theorem step_append_row {P : Program} {w : World} {ops : Array Oper} {o : Oper} {a : Act} {K : Act → World → Prop} {Q : Exit → Act → World → Prop} {E : Prop} (hgd : o.guard = none) (s x : Operand) (t : TypeId)
  (ho : o.op = .call { callee := .builtin .append, args := #[s, x], argTypes := #[t, t] })
  (base : Nat) (e : TypeId) (z : Value) (size bytes : Nat) (ht : P.underlying t = some (.slice e)) (hinfo : (P.info? e).map (fun i => (i.zero, i.size, i.bytes)) = some (some z, size, bytes))
  (hzs : z.cells.size = size) (hsz : 0 < size) (v : Value) (n : Nat) (xs : List Value) (hs : a.eval s = v) (hown : w.ownsRow base e size v n xs)
  (sv : Value) (m : Nat) (news : List Value) (hx : a.eval x = sv) (hrow : Row w sv m news) (hl : news.length = m * size) (h1 : ∀ u ∈ news, u.oneCell' = true)
  (h63 : n + m ≤ maxLen) (hbytes : (n + m) * bytes ≤ 140737488355328) (hbase : base ≤ w.heap.size)
  (h : ∀ v' w', w'.ownsRow base e size v' (n + m) (xs ++ news) → w.grownBy w' v.ownBlock → K (a.put o.dst v') w') :
  if Region.wanted o (yielded ops a.tmps) = true then Oper.wp P o a w K Q else E := by
 have hw : Region.wanted o (yielded ops a.tmps) = true := by simp [Region.wanted, hgd]
 rw [if_pos hw]
 obtain ⟨v', w', hr, h2, h3⟩ := run_append_row (P := P) w base t o.type e z size bytes ht hinfo hzs hsz v n xs hown sv m news hrow hl h1 h63 hbytes hbase
 unfold Oper.wp execOp
 simp only [ho, resolve, invoke, builtin, Sem.run_bind, Sem.run_pure, Result.andThen_ok, List.map_toArray, List.map_cons, List.map_nil, hs, hx, hr]
 exact h v' w' h2 h3
theorem Blk.grown {w w' : World} {b : Nat} {t : TypeId} {xs : List Value} {row : Option Nat} (h : Blk w b t xs) (hg : w.grownBy w' row) (hne : row ≠ some b) : Blk w' b t xs := h.of_block (hg.block b h.lt hne.symm)
theorem Row.le {w : World} {a : Option Addr} {m c : Nat} {xs : List Value} (h : Row w (.slice a m c) m xs) : m ≤ c := by
 rcases h with ⟨hv, hn, -⟩ | ⟨b, off, cap, hv, h1, -⟩
 ·
  omega
 ·
  simp only [Value.slice.injEq] at hv; omega
end Go.Proofs.YtjpalbonclgflaaGreat

/- Rows of integers: made, set, held in tables (the part of ERow that needs no graph). -/
namespace Go.Proofs.YtjpalbonclgflaaGreat
open Go.RowKit

def civ (l : List Int) : List Value := l.flatMap fun z => [.bool (ineg z), .string (imag z)]
theorem civ_length (l : List Int) : (civ l).length = l.length * 2 := by
 induction l with
 | nil => rfl
 | cons e l ih => simp only [civ, List.flatMap_cons, List.length_append, List.length_cons] at ih ⊢; rw [ih]; simp; omega
theorem civ_append (l k : List Int) : civ (l ++ k) = civ l ++ civ k := by simp [civ]
theorem civ_cons (z : Int) (l : List Int) : civ (z :: l) = .bool (ineg z) :: .string (imag z) :: civ l := by simp [civ]
theorem civ_get {l : List Int} {k : Nat} {z : Int} (h : l[k]? = some z) : (civ l)[k * 2]? = some (.bool (ineg z)) ∧ (civ l)[k * 2 + 1]? = some (.string (imag z)) := by
 induction l generalizing k with
 | nil => simp at h
 | cons x l ih =>
  cases k with
  | zero => simp at h; subst h; exact ⟨rfl, rfl⟩
  | succ k =>
   have := ih (k := k) (by simpa using h)
   rw [civ, List.flatMap_cons]
   have e1 : (k + 1) * 2 = k * 2 + 2 := by omega
   rw [e1]
   exact this
theorem civ_set (l : List Int) (k : Nat) (z : Int) : ((civ l).set (k * 2) (.bool (ineg z))).set (k * 2 + 1) (.string (imag z)) = civ (l.set k z) := by
 induction l generalizing k with
 | nil => rfl
 | cons x l ih =>
  cases k with
  | zero => rfl
  | succ k =>
   rw [List.set_cons_succ, civ_cons, civ_cons, show (k + 1) * 2 = k * 2 + 1 + 1 by omega, List.set_cons_succ, List.set_cons_succ, List.set_cons_succ, List.set_cons_succ, ih]
theorem int_cells {w w' : World} {B b off : Nat} {l : List Int} {k : Nat} {z : Int} (hce : ∀ (j : Nat) (u : Value), (civ l)[j]? = some u → w.cell? ⟨b, off + j, none⟩ = some u) (hb : Below B w w') (hlt : b < B) (h : l[k]? = some z) :
  w'.cell? ⟨b, off + k * 2, none⟩ = some (.bool (ineg z)) ∧ w'.cell? ⟨b, off + k * 2 + 1, none⟩ = some (.string (imag z)) :=
 ⟨(hb.cell (p := ⟨b, off + k * 2, none⟩) hlt).trans (hce (k * 2) _ (civ_get h).1), (hb.cell (p := ⟨b, off + k * 2 + 1, none⟩) hlt).trans (hce (k * 2 + 1) _ (civ_get h).2)⟩
def small (z : Int) : Prop := (imag z).size ≤ 1099511627775
theorem infoZ : (Tryz.prog.info? 25).map (fun i => (i.zero, i.size, i.bytes)) = some (some (.agg #[.bool false, .string ⟨#[]⟩]), 2, 24) := by kernel_rfl
theorem ineg_zero : ineg 0 = false := rfl
theorem imag_zero : imag 0 = ⟨#[]⟩ := by simp [imag, bb_zero]
theorem zrow_int (c : Nat) : zrow (.agg #[.bool false, .string ⟨#[]⟩]) c = civ (List.replicate c 0) := by
 induction c with
 | zero => rfl
 | succ c ih =>
  rw [List.replicate_succ, civ_cons, ineg_zero, imag_zero, ← ih]
  simp [zrow, List.replicate_succ, Value.cells]
theorem mkI (n : Nat) (h : n ≤ 1000000) (N : Int) (hN : N = (n : Int)) (w : World) : (Instr.makeSlice 22 (.int .i64 N) (.int .i64 N)).run Tryz.prog w = .ok (.slice (some ⟨w.heap.size, 0, none⟩) n n) (w.alloc (.cells (zarr (.agg #[.bool false, .string ⟨#[]⟩]) n) 25)) :=
 mk_slice 22 25 _ 2 24 Tryz.underlying22 infoZ rfl .i64 .i64 n n (Nat.le_refl _) (by omega) (by omega) N N hN hN w
theorem blk_mkI (w : World) (n : Nat) : Blk (w.alloc (.cells (zarr (.agg #[.bool false, .string ⟨#[]⟩]) n) 25)) w.heap.size 25 (civ (List.replicate n 0)) := by
 have h := Blk.zero w 25 (.agg #[.bool false, .string ⟨#[]⟩]) n
 rwa [zrow_int] at h
theorem blk_row {w : World} {b : Nat} {l : List Int} (h : Blk w b 25 (civ l)) (hl : l.length ≤ 1000000) : Row w (.slice (some ⟨b, 0, none⟩) l.length l.length) l.length (civ l) := by
 have h2 := Row.ofBlk h (m := l.length) (cap := l.length) (Nat.le_refl _) (by unfold maxLen; omega) (civ l).length
 rwa [List.take_length] at h2
def Tab (w : World) (v : Value) (rows : List (List Int)) : Prop :=
 ∃ rvs : List Value, rvs.length = rows.length ∧ Row w v rows.length rvs ∧ ∀ (i : Nat) (r : List Int), rows[i]? = some r → ∃ rv : Value, rvs[i]? = some rv ∧ Row w rv r.length (civ r)
theorem Tab.below {w w' : World} {v : Value} {rows : List (List Int)} {B : Nat} (h : Tab w v rows) (k : Below B w w') (hB : w.heap.size ≤ B) : Tab w' v rows := by
 obtain ⟨rvs, h1, h2, h3⟩ := h
 exact ⟨rvs, h1, h2.below k hB, fun i r hr => by obtain ⟨rv, h4, h5⟩ := h3 i r hr; exact ⟨rv, h4, h5.below k hB⟩⟩
theorem Tab.drew {w : World} {v : Value} {rows : List (List Int)} (h : Tab w v rows) : Tab w.drew v rows := h
theorem civ_snoc (l : List Int) (z : Int) : civ (l ++ [z]) = civ l ++ [.bool (ineg z), .string (imag z)] := by simp [civ]
end Go.Proofs.YtjpalbonclgflaaGreat

/- A range over an iterator that yields at most N times (the law of XRange, with a bound for the loop's rounds). -/
namespace Go.Proofs.YtjpalbonclgflaaGreat
open Go.RowKit

variable {α : Type} {F : Fence} {n : Nat} {P : Program}
def SeqB (N : Nat) (F : Fence) (n : Nat) (P : Program) (gf : Nat) (lb : Array Value) (encs : α → Array Value) (cI cC : Nat → Obj → Prop) (S : List α → World → Prop) (w : World) : Prop :=
 ∀ (l : Nat) (J : List α → World → Prop) (W : World), Only (fun _ _ => False) w W → w.heap.size ≤ l →
  (∀ s A B, J s A → Only cI A B → J s B) →
  (∀ pre x W1, pre.length < N → J pre W1 → YieldAt F (n - 1) P l (encs x) W1 fun e W' => e = .returned (.bool true) ∧ J (pre ++ [x]) W' ∧ Only cC W1 W') →
  J [] W →
  CallsIn F n P gf (#[.func (.yield l) #[] #[]] ++ lb) W fun e W' => (∃ v, e = .returned v) ∧ ∃ xs, S xs W' ∧ J xs W'

theorem range_b {N : Nat} {g : Operand} {ps : Array Tmp} {assign body : Code} {Q : Exit → Act → World → Prop} {a : Act} {w : World}
  (hro : F.round = none) (h1 : 1 ≤ n) {gf : Nat} {lb : Array Value} (hg : a.eval g = .func (.func gf) #[] lb) (hFg : F.fn gf) (eg : ∀ args w, (callFunc gf args).run P w = .ok (.enter gf args) w)
  {encs : α → Array Value} {cI cC : Nat → Obj → Prop} {S : List α → World → Prop} (hseq : SeqB N F (n - 1) P gf lb encs cI cC S w)
  (hcI : ∀ b o, cI b o → o.isCells = true) (hcC : ∀ b o, o.isCells = false → cC b o) (hps : ∀ x, (encs x).size = ps.size)
  (I : List α → World → Prop) (hI : ∀ s A B, I s A → Only (fun b o => cI b o ∨ (o.isCells = false ∧ w.heap.size ≤ b)) A B → I s B) (h0 : I [] w)
  (hS : ∀ xs A B, S xs A → Only (fun b o => o.isCells = false ∧ w.heap.size ≤ b) A B → S xs B) (a₁ : α → Act)
  (hassign : ∀ (l : Nat) (x : α) (W : World) (K : Act → World → Prop), K (a₁ x) W →
   assign.wpIn (F.inRound l) (n - 1 - 1) P (Exit.then K (fun _ _ _ => False)) { tmps := (ps.zip (encs x)).foldl (fun t (p, v) => t.setIfInBounds p v) a.tmps, defers := [] } W)
  (hbody : ∀ (l : Nat) (pre : List α) (x : α) (W : World), pre.length < N → I pre W → body.wpIn (F.inRound l) (n - 1 - 1) P
   (fun e _ W' => e = .normal ∧ Only (fun b o => cC b o ∧ o.isCells = true) W W' ∧ I (pre ++ [x]) W') (a₁ x) W)
  (hdone : ∀ (D : Nat) (xs : List α) (W : World), w.heap.size ≤ D → S xs W → I xs W → W.heap[D]? = some (.deferred (some [])) → Q .normal { a with defers := { target := .collected D, args := #[] } :: a.defers } W) :
  (Code.rangeFunc g ps assign body).wpIn F n P Q a w := by
 refine wpIn_rangeFunc (fun fn hfn => ?_)
 rw [hro]
 obtain ⟨D, hD⟩ : ∃ D, D = w.heap.size := ⟨_, rfl⟩
 obtain ⟨st, hst⟩ : ∃ st : LoopState → Loop, st = fun s => { state := s, pending := none, fn, tmps := a.tmps, params := ps, assign, body, defers := w.heap.size } := ⟨_, rfl⟩
 have henter := run_enterLoop_outer (P := P) (w := w) fn a.tmps ps assign body
 obtain ⟨W1, hW1⟩ : ∃ W1, W1 = (w.alloc (.deferred (some []))).alloc (.loop (st .ready)) := ⟨_, rfl⟩
 have hloop : W1.heap[D + 1]? = some (.loop (st .ready)) := by
  rw [hW1, hD]
  have := World.alloc_heap_new (w.alloc (.deferred (some []))) (.loop (st .ready))
  rwa [World.size_alloc] at this
 have hdef : W1.heap[D]? = some (.deferred (some [])) := by
  rw [hW1, hD]
  exact (Below.heap_alloc _ _ _ (by simp)).trans (World.alloc_heap_new w _)
 have honly : ∀ c, Only c w W1 := fun c => by rw [hW1]; exact (Only.alloc c w _).trans (Only.alloc c _ _)
 rw [show (w.alloc (.deferred (some []))).alloc (.loop { state := .ready, pending := none, fn, tmps := a.tmps, params := ps, assign, body, defers := w.heap.size }) = W1 by rw [hW1, hst], ← hD] at henter
 refine ⟨D + 1, _, W1, { target := .fn (.func gf) lb, args := #[.func (.yield (D + 1)) #[] #[]] }, W1, gf, #[.func (.yield (D + 1)) #[] #[]] ++ lb, W1, henter, ?_, ?_, ?_, fun _ => h1, ?_⟩
 ·
  simp only [resolve, hg]
  simp [go_sem]
 ·
  intro f' hf'
  simp [Target.leads] at hf'
  subst hf'
  exact hFg
 ·
  simp [invoke, go_sem, eg]
 refine (hseq (D + 1) (fun pre W => I pre W ∧ W.heap[D + 1]? = some (.loop (st .ready)) ∧ W.heap[D]? = some (.deferred (some []))) W1 (honly _) (by omega) ?_ ?_ ⟨hI _ _ _ h0 (honly _), hloop, hdef⟩).mono ?_
 ·
  rintro s A B ⟨i1, i2, i3⟩ hab
  exact ⟨hI _ _ _ i1 (hab.mono fun _ _ h => Or.inl h), hab.same _ _ i2 (fun h => by have := hcI _ _ h; cases this), hab.same _ _ i3 (fun h => by have := hcI _ _ h; cases this)⟩
 ·
  rintro pre x W hN ⟨i1, i2, i3⟩
  have hy := run_yield (P := P) (args := encs x) i2 (by rw [hst]; exact hps x)
  have hbeg := run_beginRound (P := P) i2 (by rw [hst])
  obtain ⟨W2, hW2⟩ : ∃ W2, W2 = W.putObj (D + 1) (.loop (st .busy)) := ⟨_, rfl⟩
  have hlt : D + 1 < W.heap.size := (Array.getElem?_eq_some_iff.1 i2).1
  have o2 : ∀ c : Nat → Obj → Prop, c (D + 1) (.loop (st .ready)) → Only c W W2 := fun c hc => by rw [hW2]; exact Only.putObj i2 hc _
  have l2 : W2.heap[D + 1]? = some (.loop (st .busy)) := by rw [hW2]; exact World.putObj_heap_same hlt
  have d2 : W2.heap[D]? = some (.deferred (some [])) := by rw [hW2]; exact (World.putObj_heap_other (by omega)).trans i3
  rw [show ({ st .ready with state := .busy } : Loop) = st .busy by rw [hst], ← hW2] at hbeg
  rw [hst] at hy
  refine ⟨fn, _, assign, body, hy, roundIn_of_wpIn hfn (hassign _ x W _ ⟨W2, hbeg, ?_⟩)⟩
  refine wpIn_mono (hbody _ pre x W2 hN (hI _ _ _ i1 (o2 _ (Or.inr ⟨rfl, by omega⟩)))) ?_
  rintro e a3 W3 ⟨rfl, k1, k2⟩
  have l3 := k1.same _ _ l2 (fun h => by cases h.2)
  have d3 := k1.same _ _ d2 (fun h => by cases h.2)
  have hend := run_endRound (P := P) none l3
  rw [show ({ st .busy with state := if (none : Option Code).isNone then .ready else .done, pending := none } : Loop) = st .ready by rw [hst]; rfl] at hend
  have lt3 : D + 1 < W3.heap.size := (Array.getElem?_eq_some_iff.1 l3).1
  refine ⟨_, _, hend, rfl, ⟨hI _ _ _ k2 (Only.putObj l3 (Or.inr ⟨rfl, by omega⟩) _), World.putObj_heap_same lt3, (World.putObj_heap_other (by omega)).trans d3⟩, ?_⟩
  exact ((o2 _ (hcC _ _ rfl)).trans (k1.mono fun _ _ h => h.1)).trans (Only.putObj l3 (hcC _ _ rfl) _)
 ·
  rintro e W2 ⟨⟨v, rfl⟩, xs, hs, i1, i2, i3⟩
  refine ⟨none, _, by have := run_endLoop (P := P) i2 (by rw [hst]; simp); rw [hst] at this; exact this, ?_⟩
  exact hdone _ xs _ (by omega) (hS _ _ _ hs (Only.putObj i2 ⟨rfl, by omega⟩ _)) (hI _ _ _ i1 (Only.putObj i2 (Or.inr ⟨rfl, by omega⟩) _)) ((World.putObj_heap_other (by omega)).trans i3)
end Go.Proofs.YtjpalbonclgflaaGreat

/- slices.Equal at integers: of equal rows (XEqI without graphs). -/
namespace Go.Proofs.YtjpalbonclgflaaGreat
open Go.RowKit

theorem eqIn_same (b : Bool) (s : ByteArray) (w : World) : (Op.equalIn 10000 25 (.agg #[.bool b, .string s]) (.agg #[.bool b, .string s])).run Tryz.prog w = .ok true w := by
 rw [eqIn_int]; have h : (s == s) = true := by rw [beq_toListBytes]; simp
 simp [h]
set_option maxRecDepth 100000 in
set_option maxHeartbeats 3200000 in
theorem equalI_yes (l : List Int) (va vb : Value) (w : World) (ha : Row w va l.length (civ l)) (hb : Row w vb l.length (civ l)) :
  Calls Tryz.prog 97 #[va, vb] w (Ret w (.bool true)) := by
 obtain ⟨a1, c1, rfl, hle⟩ := ha.slice
 obtain ⟨a2, c2, rfl, -⟩ := hb.slice
 obtain ⟨n, hn⟩ : ∃ n, n = l.length := ⟨_, rfl⟩
 rw [← hn] at ha hb hle ⊢
 have HA := zh ha; clear ha
 have HB := zh hb; clear hb
 have HN := zh hn; clear hn
 have hne : ((n : Int) != (n : Int)) = false := by simp
 go_enter Tryz.func97, Tryz.ntmps97
 go_wp2_with fail
 go_loopw [5, 13] (fun _ i wr => ∃ k : Nat, k ≤ n ∧ i = .int .i64 k ∧ Below w.heap.size w wr) (fun _ i _ => n - (intOf i).toNat)
 case atStart => exact ⟨0, Nat.zero_le _, rfl, Below.refl _ _⟩
 case round =>
  obtain ⟨k, hk, rfl, hbel⟩ := hrel
  have HBEL := zh hbel; clear hbel
  by_cases hlt : k < n
  ·
   have hget : l[k]? = some (l[k]'(by rw [← HN.out]; exact hlt)) := List.getElem?_eq_getElem _
   obtain ⟨x, hx⟩ : ∃ x, x = l[k]'(by rw [← HN.out]; exact hlt) := ⟨_, rfl⟩
   rw [← hx] at hget
   obtain ⟨b1, o1, rfl, hb1, hc1⟩ := HA.out.at_ (by omega)
   obtain ⟨b2, o2, rfl, hb2, hc2⟩ := HB.out.at_ (by omega)
   obtain ⟨x0, x1⟩ := int_cells hc1 HBEL.out hb1 hget
   obtain ⟨x2, x3⟩ := int_cells hc2 HBEL.out hb2 hget
   have hxx := fun w' => eqIn_same (ineg x) (imag x) w'
   clear hx hget hc1 hc2
   go_wp2_with fail
   go_quiet (fail)
   go_wp2_with fail
   go_roundw
   case rel => exact ⟨k + 1, by omega, by go_num, below_drewN HBEL.out _⟩
   case measure => simp [intOf]; omega
  ·
   obtain rfl : k = n := by omega
   go_wp2_with fail
   go_ret
   exact ⟨HBEL.out, rfl⟩
end Go.Proofs.YtjpalbonclgflaaGreat

/- Several cells of a block stored one behind the other (printed by hand's program: see notes). -/
namespace Go.Proofs.YtjpalbonclgflaaGreat
open Go.RowKit
theorem Blk.s2 {w : World} {b : Nat} {t : TypeId} {x0 x1 y0 y1 : Value} (h : Blk w b t [y0, y1]) : Blk ((w.setCell ⟨b, 0, none⟩ x0).setCell ⟨b, 1, none⟩ x1) b t [x0, x1] := ((h.set 0 x0).set 1 x1)
theorem Blk.o2 {w : World} {b c : Nat} {t : TypeId} {ys : List Value} {x0 x1 : Value} (h : Blk w c t ys) (hb : b ≠ c) : Blk ((w.setCell ⟨b, 0, none⟩ x0).setCell ⟨b, 1, none⟩ x1) c t ys := ((h.setOther (a := ⟨b, 0, none⟩) hb x0).setOther (a := ⟨b, 1, none⟩) hb x1)
theorem Blk.s4 {w : World} {b : Nat} {t : TypeId} {x0 x1 x2 x3 y0 y1 y2 y3 : Value} (h : Blk w b t [y0, y1, y2, y3]) : Blk ((((w.setCell ⟨b, 0, none⟩ x0).setCell ⟨b, 1, none⟩ x1).setCell ⟨b, 2, none⟩ x2).setCell ⟨b, 3, none⟩ x3) b t [x0, x1, x2, x3] := ((((h.set 0 x0).set 1 x1).set 2 x2).set 3 x3)
theorem Blk.o4 {w : World} {b c : Nat} {t : TypeId} {ys : List Value} {x0 x1 x2 x3 : Value} (h : Blk w c t ys) (hb : b ≠ c) : Blk ((((w.setCell ⟨b, 0, none⟩ x0).setCell ⟨b, 1, none⟩ x1).setCell ⟨b, 2, none⟩ x2).setCell ⟨b, 3, none⟩ x3) c t ys := ((((h.setOther (a := ⟨b, 0, none⟩) hb x0).setOther (a := ⟨b, 1, none⟩) hb x1).setOther (a := ⟨b, 2, none⟩) hb x2).setOther (a := ⟨b, 3, none⟩) hb x3)
theorem bc4 {B : Nat} {v w : World} {b : Nat} {x0 x1 x2 x3 : Value} (h : Below B v w) (hb : B ≤ b) : Below B v ((((w.setCell ⟨b, 0, none⟩ x0).setCell ⟨b, 1, none⟩ x1).setCell ⟨b, 2, none⟩ x2).setCell ⟨b, 3, none⟩ x3) := ((((h.setCell (p := ⟨b, 0, none⟩) hb x0).setCell (p := ⟨b, 1, none⟩) hb x1).setCell (p := ⟨b, 2, none⟩) hb x2).setCell (p := ⟨b, 3, none⟩) hb x3)
theorem Blk.s8 {w : World} {b : Nat} {t : TypeId} {x0 x1 x2 x3 x4 x5 x6 x7 y0 y1 y2 y3 y4 y5 y6 y7 : Value} (h : Blk w b t [y0, y1, y2, y3, y4, y5, y6, y7]) : Blk ((((((((w.setCell ⟨b, 0, none⟩ x0).setCell ⟨b, 1, none⟩ x1).setCell ⟨b, 2, none⟩ x2).setCell ⟨b, 3, none⟩ x3).setCell ⟨b, 4, none⟩ x4).setCell ⟨b, 5, none⟩ x5).setCell ⟨b, 6, none⟩ x6).setCell ⟨b, 7, none⟩ x7) b t [x0, x1, x2, x3, x4, x5, x6, x7] := ((((((((h.set 0 x0).set 1 x1).set 2 x2).set 3 x3).set 4 x4).set 5 x5).set 6 x6).set 7 x7)
theorem Blk.o8 {w : World} {b c : Nat} {t : TypeId} {ys : List Value} {x0 x1 x2 x3 x4 x5 x6 x7 : Value} (h : Blk w c t ys) (hb : b ≠ c) : Blk ((((((((w.setCell ⟨b, 0, none⟩ x0).setCell ⟨b, 1, none⟩ x1).setCell ⟨b, 2, none⟩ x2).setCell ⟨b, 3, none⟩ x3).setCell ⟨b, 4, none⟩ x4).setCell ⟨b, 5, none⟩ x5).setCell ⟨b, 6, none⟩ x6).setCell ⟨b, 7, none⟩ x7) c t ys := ((((((((h.setOther (a := ⟨b, 0, none⟩) hb x0).setOther (a := ⟨b, 1, none⟩) hb x1).setOther (a := ⟨b, 2, none⟩) hb x2).setOther (a := ⟨b, 3, none⟩) hb x3).setOther (a := ⟨b, 4, none⟩) hb x4).setOther (a := ⟨b, 5, none⟩) hb x5).setOther (a := ⟨b, 6, none⟩) hb x6).setOther (a := ⟨b, 7, none⟩) hb x7)
theorem bc8 {B : Nat} {v w : World} {b : Nat} {x0 x1 x2 x3 x4 x5 x6 x7 : Value} (h : Below B v w) (hb : B ≤ b) : Below B v ((((((((w.setCell ⟨b, 0, none⟩ x0).setCell ⟨b, 1, none⟩ x1).setCell ⟨b, 2, none⟩ x2).setCell ⟨b, 3, none⟩ x3).setCell ⟨b, 4, none⟩ x4).setCell ⟨b, 5, none⟩ x5).setCell ⟨b, 6, none⟩ x6).setCell ⟨b, 7, none⟩ x7) := ((((((((h.setCell (p := ⟨b, 0, none⟩) hb x0).setCell (p := ⟨b, 1, none⟩) hb x1).setCell (p := ⟨b, 2, none⟩) hb x2).setCell (p := ⟨b, 3, none⟩) hb x3).setCell (p := ⟨b, 4, none⟩) hb x4).setCell (p := ⟨b, 5, none⟩) hb x5).setCell (p := ⟨b, 6, none⟩) hb x6).setCell (p := ⟨b, 7, none⟩) hb x7)
end Go.Proofs.YtjpalbonclgflaaGreat

