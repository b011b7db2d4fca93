/- Contracts and plain laws of several functions, one after the other: CmpP, Marks, MatI. -/
import Derived.RangeFuncNested
import Derived.RangeFuncBound
import Derived.RangeFuncCalls
import Derived.RangeFuncLeaves
import Derived.RangeFuncBox
import Derived.RangeFuncOne
import Derived.Shelf.Abstract
import Derived.WalkKit
import Derived.Test.YthpgeeaccmgbkaaCheck
import Derived.Test.YthpgeeaccmgbkaaMat
import Derived.Test.YthpgeeaccmgbkaaIntB
/- The order of edges, in plain Lean. -/
namespace Go.Proofs.Ythpgeeaccmgbkaa
open Go.RowKit

theorem cmpE_lt2 (a b : E3) : cmpE a b < 0 ↔ a.f < b.f ∨ (a.f = b.f ∧ (a.l < b.l ∨ (a.l = b.l ∧ a.t < b.t))) := by
  have h : ∀ x y : Int, (cmpI x y = 0 ↔ x = y) ∧ (cmpI x y < 0 ↔ x < y) := by
    intro x y
    unfold cmpI
    by_cases h1 : x < y
    · simp [h1]; omega
    · by_cases h2 : y < x
      · simp [h1, h2]; omega
      · simp [h1, h2]; omega
  have e : cmpE a b = if cmpI a.f b.f = 0 then (if cmpI a.l b.l = 0 then (if cmpI a.t b.t = 0 then 0 else cmpI a.t b.t) else cmpI a.l b.l) else cmpI a.f b.f := rfl
  rw [e]
  by_cases h1 : cmpI a.f b.f = 0
  · rw [if_pos h1]
    have h1' := (h _ _).1.1 h1
    by_cases h2 : cmpI a.l b.l = 0
    · rw [if_pos h2]
      have h2' := (h _ _).1.1 h2
      by_cases h3 : cmpI a.t b.t = 0
      · rw [if_pos h3]
        have h3' := (h _ _).1.1 h3
        omega
      · rw [if_neg h3, (h _ _).2]; omega
    · rw [if_neg h2, (h _ _).2]
      have := mt (h a.l b.l).1.2 h2
      omega
  · rw [if_neg h1, (h _ _).2]
    have := mt (h a.f b.f).1.2 h1
    omega
end Go.Proofs.Ythpgeeaccmgbkaa

/- Marks of loops over functions: blocks that hold no calls; what an owner keeps. -/
namespace Go.Proofs.Ythpgeeaccmgbkaa
open Go.RowKit Go.Shelf

def mkD (D : Nat) : Deferred := { target := .collected D, args := #[] }
theorem ownFrom_ds {β : Type} {B N : Nat} {Ds : List Nat} (h : ∀ D ∈ Ds, D < B) : OwnFrom B (fun (_ : β) W => (∀ D ∈ Ds, W.heap[D]? = some (.deferred (some []))) ∧ N ≤ W.heap.size) := by
  intro s X Y row hs hg hr
  refine ⟨fun D hD => ?_, Nat.le_trans hs.2 hg.size⟩
  have hX := hs.1 D hD
  refine (hg.block D (Array.getElem?_eq_some_iff.1 hX).1 (fun e => ?_)).trans hX
  have := (hr D e.symm).1
  have := h D hD
  omega
theorem blk_ownF {B b : Nat} {t : TypeId} {xs : List Value} : OwnFrom B (fun (_ : Unit) W => Blk W b t xs) := by
  intro s X Y row hs hg hr
  refine hs.of_block (hg.block b hs.lt (fun e => ?_))
  obtain ⟨_, o, ho, hc⟩ := hr b e.symm
  unfold Blk at hs
  rw [hs] at ho
  cases ho; cases hc
/-- Leaving with marks whose blocks hold no calls. -/
theorem leaves_marks {F : Fence} {n : Nat} {P : Program} {fn : Func} {tmps : Array Value} {R : Ending → World → Prop} (B : Nat) (Kx : World → Prop)
    (hst : ∀ W D, B ≤ D → Kx W → W.heap[D]? = some (.deferred (some [])) → Kx (W.putObj D (.deferred none))) (hfin : ∀ W, Kx W → LeavesInM F n P fn tmps R [] .returning W) :
    ∀ (Ds : List Nat) (W : World), Kx W → (∀ D ∈ Ds, W.heap[D]? = some (.deferred (some []))) → Ds.Nodup → (∀ D ∈ Ds, B ≤ D) → LeavesInM F n P fn tmps R (Ds.map mkD) .returning W
  | [], W, hk, _, _, _ => hfin W hk
  | D :: Ds, W, hk, hD, hnd, hB => by
    rw [List.nodup_cons] at hnd
    refine ⟨by simp, .inl ⟨D, _, rfl, run_takeDeferred (hD D (by simp)), ?_⟩⟩
    refine leaves_marks B Kx hst hfin Ds _ (hst W D (hB D (by simp)) hk (hD D (by simp))) (fun D' hD' => ?_) hnd.2 (fun D' hD' => hB D' (by simp [hD']))
    have hne : D' ≠ D := fun e => hnd.1 (e ▸ hD')
    exact (World.putObj_heap_other hne).trans (hD D' (by simp [hD']))
/-- A block whose cells hang on the state. -/
theorem blk_ownS {β : Type} {B b : Nat} {t : TypeId} (f : β → List Value) : OwnFrom B (fun (s : β) W => Blk W b t (f s)) := by
  intro s X Y row hs hg hr
  exact blk_ownF (B := B) () X Y row hs hg hr
theorem ownFrom_pred {β : Type} (B : Nat) (q : β → Prop) : OwnFrom B (fun s (_ : World) => q s) := fun _ _ _ _ hs _ _ => hs
end Go.Proofs.Ythpgeeaccmgbkaa

/- matrix.scalar, Identity. -/
namespace Go.Proofs.Ythpgeeaccmgbkaa
open Go.RowKit

set_option maxRecDepth 100000 in
set_option maxHeartbeats 3200000 in
theorem scalar1_any (i k bn : Nat) (z : Int) (w : World) (hi : i ≤ 1000) (hk : k ≤ 1000) (hb : Blk w bn 28 [.bool (ineg z), .string (imag z)]) :
    Calls Try.prog 74 #[.int .i64 (i : Int), .int .i64 (k : Int), .pointer (some ⟨bn, 0, none⟩)] w (Ret w (IntV (if i = k then z else 0))) := by
  have x0 := hb.cell (j := 0) rfl
  have x1 := hb.cell (j := 1) rfl
  have hbl := hb.lt
  clear hb
  by_cases h : i = k
  · have t0 : ((i : Int) == (k : Int)) = true := by simp [h]
    have s1 := (Below.refl w.heap.size w).alloc (Nat.le_refl _) (.cells #[.bool (ineg z), .string (imag z)] 28)
    rw [if_pos h]
    have S1 := Lib.hid s1; clear s1
    clear h
    go_enter Try.func74, Try.ntmps74
    go_wp2_with fail
    exact bodyPost_ret (v := IntV z) (by simp [results, Try.results74, go_sem]; (try rfl)) rfl ⟨S1.out, rfl⟩
  · have t0 : ((i : Int) == (k : Int)) = false := by simp; omega
    have s1 := (Below.refl w.heap.size w).alloc (Nat.le_refl _) (.cells #[.bool false, .string ⟨#[]⟩] 28)
    rw [if_neg h]
    have S1 := Lib.hid s1; clear s1
    clear h
    go_enter Try.func74, Try.ntmps74
    go_wp2_with fail
    exact bodyPost_ret (v := IntV 0) (by simp [results, Try.results74, go_sem]; simp [IntV, ineg, imag, bb_zero]) rfl ⟨S1.out, rfl⟩
/-- z on the diagonal. -/
def diagF (z : Int) (i k : Nat) : Int := if i = k then z else 0
set_option maxRecDepth 100000 in
set_option maxHeartbeats 3200000 in
theorem scalar_any (n : Nat) (z : Int) (w : World) (hn : n ≤ 1000) :
    Calls Try.prog 54 #[IntV z, .int .i64 (n : Int)] w (MatRet n n (matF n n (diagF z)) w) := by
  have s0 := (Below.refl w.heap.size w).alloc (Nat.le_refl _) (.cells #[.bool (ineg z), .string (imag z)] 28)
  have b0 := Blk.new w 28 [.bool (ineg z), .string (imag z)]
  have ht := table_mat n n 74 #[.pointer (some ⟨w.heap.size, 0, none⟩)] (diagF z) (w.alloc (.cells #[.bool (ineg z), .string (imag z)] 28)) hn hn (enters_of Try.func74 (by kernel_rfl) rfl)
    (fun i k w' hi hk hb => scalar1_any i k w.heap.size z w' (by omega) (by omega) (b0.keep hb))
  have S0 := Lib.hid s0; clear s0
  have HT := Lib.hid ht; clear ht
  clear b0
  go_enter Try.func54, Try.ntmps54
  go_wp2_with fail
  go_at_call 73
  refine HT.out.mono ?_
  rintro e w1 ⟨hq, b, rfl, hm⟩
  have s1 := S0.out.trans (hq.mono S0.out.size)
  have hm1 := hm.mono S0.out.size
  have S1 := Lib.hid s1; clear s1
  have HM1 := Lib.hid hm1; clear hm1
  clear hq hm
  go_wp2_with fail
  go_ret
  exact ⟨S1.out, b, rfl, HM1.out⟩
set_option maxRecDepth 100000 in
set_option maxHeartbeats 3200000 in
theorem identity_any (n : Nat) (w : World) (h1 : 1 ≤ n) (hn : n ≤ 32) :
    Calls Try.prog 61 #[.int .i64 (n : Int)] w (fun e w' => Below w.heap.size w w' ∧ ∃ b, e = .returned (.tuple #[.slice (some ⟨b, 0, none⟩) n n, .int .i64 0]) ∧ MatB w.heap.size w' b n (matF n n (diagF 1))) := by
  have hof := fun w' => iof_any 1 w' (by decide) (by decide)
  have hsc := fun w' => scalar_any n 1 w' (by omega)
  have t0 : ¬ (n : Int) < 1 := by omega
  have t1 : ¬ (32 : Int) < (n : Int) := by omega
  have t2 : ¬ 32 < n := by omega
  have HOF := Lib.hid hof; clear hof
  have HSC := Lib.hid hsc; clear hsc
  go_enter Try.func61, Try.ntmps61
  go_wp2_with fail
  go_at_call 11
  refine (HOF.out _).mono ?_
  rintro e w1 ⟨hq, rfl⟩
  have S1 := Lib.hid hq; clear hq
  go_wp2_with fail
  go_at_call 54
  refine (HSC.out _).mono ?_
  rintro e w2 ⟨hq, b, rfl, hm⟩
  have s2 := S1.out.trans (hq.mono S1.out.size)
  have hm1 := hm.mono S1.out.size
  have S2 := Lib.hid s2; clear s2
  have HM1 := Lib.hid hm1; clear hm1
  clear hq hm
  go_wp2_with fail
  go_ret2
  exact ⟨S2.out, b, rfl, HM1.out⟩
end Go.Proofs.Ythpgeeaccmgbkaa

