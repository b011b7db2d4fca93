/- Contracts and plain laws of several functions, one after the other: CmpP, Marks. -/
import Derived.RangeFuncNested
import Derived.RangeFuncBound
import Derived.RangeFuncCalls
import Derived.RangeFuncLeaves
import Derived.RangeFuncBox
import Derived.RangeFuncOne
import Derived.Shelf.Abstract
import Derived.WalkKit
import Derived.Test.YthpgeeaccmgbkaaCheck
/- The order of edges, in plain Lean. -/
namespace Go.Proofs.Ythpgeeaccmgbkaa
open Go.RowKit

theorem cmpE_lt2 (a b : E3) : cmpE a b < 0 ↔ a.f < b.f ∨ (a.f = b.f ∧ (a.l < b.l ∨ (a.l = b.l ∧ a.t < b.t))) := by
  have h : ∀ x y : Int, (cmpI x y = 0 ↔ x = y) ∧ (cmpI x y < 0 ↔ x < y) := by
    intro x y
    unfold cmpI
    by_cases h1 : x < y
    · simp [h1]; omega
    · by_cases h2 : y < x
      · simp [h1, h2]; omega
      · simp [h1, h2]; omega
  have e : cmpE a b = if cmpI a.f b.f = 0 then (if cmpI a.l b.l = 0 then (if cmpI a.t b.t = 0 then 0 else cmpI a.t b.t) else cmpI a.l b.l) else cmpI a.f b.f := rfl
  rw [e]
  by_cases h1 : cmpI a.f b.f = 0
  · rw [if_pos h1]
    have h1' := (h _ _).1.1 h1
    by_cases h2 : cmpI a.l b.l = 0
    · rw [if_pos h2]
      have h2' := (h _ _).1.1 h2
      by_cases h3 : cmpI a.t b.t = 0
      · rw [if_pos h3]
        have h3' := (h _ _).1.1 h3
        omega
      · rw [if_neg h3, (h _ _).2]; omega
    · rw [if_neg h2, (h _ _).2]
      have := mt (h a.l b.l).1.2 h2
      omega
  · rw [if_neg h1, (h _ _).2]
    have := mt (h a.f b.f).1.2 h1
    omega
end Go.Proofs.Ythpgeeaccmgbkaa

/- Marks of loops over functions: blocks that hold no calls; what an owner keeps. -/
namespace Go.Proofs.Ythpgeeaccmgbkaa
open Go.RowKit Go.Shelf

def mkD (D : Nat) : Deferred := { target := .collected D, args := #[] }
theorem ownFrom_ds {β : Type} {B N : Nat} {Ds : List Nat} (h : ∀ D ∈ Ds, D < B) : OwnFrom B (fun (_ : β) W => (∀ D ∈ Ds, W.heap[D]? = some (.deferred (some []))) ∧ N ≤ W.heap.size) := by
  intro s X Y row hs hg hr
  refine ⟨fun D hD => ?_, Nat.le_trans hs.2 hg.size⟩
  have hX := hs.1 D hD
  refine (hg.block D (Array.getElem?_eq_some_iff.1 hX).1 (fun e => ?_)).trans hX
  have := (hr D e.symm).1
  have := h D hD
  omega
theorem blk_ownF {B b : Nat} {t : TypeId} {xs : List Value} : OwnFrom B (fun (_ : Unit) W => Blk W b t xs) := by
  intro s X Y row hs hg hr
  refine hs.of_block (hg.block b hs.lt (fun e => ?_))
  obtain ⟨_, o, ho, hc⟩ := hr b e.symm
  unfold Blk at hs
  rw [hs] at ho
  cases ho; cases hc
/-- Leaving with marks whose blocks hold no calls. -/
theorem leaves_marks {F : Fence} {n : Nat} {P : Program} {fn : Func} {tmps : Array Value} {R : Ending → World → Prop} (B : Nat) (Kx : World → Prop)
    (hst : ∀ W D, B ≤ D → Kx W → W.heap[D]? = some (.deferred (some [])) → Kx (W.putObj D (.deferred none))) (hfin : ∀ W, Kx W → LeavesInM F n P fn tmps R [] .returning W) :
    ∀ (Ds : List Nat) (W : World), Kx W → (∀ D ∈ Ds, W.heap[D]? = some (.deferred (some []))) → Ds.Nodup → (∀ D ∈ Ds, B ≤ D) → LeavesInM F n P fn tmps R (Ds.map mkD) .returning W
  | [], W, hk, _, _, _ => hfin W hk
  | D :: Ds, W, hk, hD, hnd, hB => by
    rw [List.nodup_cons] at hnd
    refine ⟨by simp, .inl ⟨D, _, rfl, run_takeDeferred (hD D (by simp)), ?_⟩⟩
    refine leaves_marks B Kx hst hfin Ds _ (hst W D (hB D (by simp)) hk (hD D (by simp))) (fun D' hD' => ?_) hnd.2 (fun D' hD' => hB D' (by simp [hD']))
    have hne : D' ≠ D := fun e => hnd.1 (e ▸ hD')
    exact (World.putObj_heap_other hne).trans (hD D' (by simp [hD']))
/-- A block whose cells hang on the state. -/
theorem blk_ownS {β : Type} {B b : Nat} {t : TypeId} (f : β → List Value) : OwnFrom B (fun (s : β) W => Blk W b t (f s)) := by
  intro s X Y row hs hg hr
  exact blk_ownF (B := B) () X Y row hs hg hr
theorem ownFrom_pred {β : Type} (B : Nat) (q : β → Prop) : OwnFrom B (fun s (_ : World) => q s) := fun _ _ _ _ hs _ _ => hs
end Go.Proofs.Ythpgeeaccmgbkaa

